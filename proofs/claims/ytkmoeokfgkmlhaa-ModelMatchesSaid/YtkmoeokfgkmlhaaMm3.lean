import Derived.Test.YtkmoeokfgkmlhaaProg
import Derived.Test.YtkmoeokfgkmlhaaMm2
/- The document's models: the reader reads an atom. -/
namespace Go.Mdl
theorem kind_name {c : UInt8} {l : List UInt8} (h : begins c = true) : kindOf ⟨(c :: l).toArray⟩ = 97 := by
  have ne : ∀ d : UInt8, begins d = false → (⟨(c :: l).toArray⟩ : ByteArray) ≠ ⟨#[d]⟩ := by
    intro d hd e
    have := congrArg (fun b : ByteArray => b.data.toList) e
    simp only [List.cons.injEq] at this
    rw [this.1] at h
    rw [hd] at h; cases h
  have n1 : (⟨(c :: l).toArray⟩ : ByteArray) ≠ Br := ne 40 (by decide)
  have n2 : (⟨(c :: l).toArray⟩ : ByteArray) ≠ Dl := ne 36 (by decide)
  have n3 : (⟨(c :: l).toArray⟩ : ByteArray) ≠ Dt := ne 46 (by decide)
  have n4 : (⟨(c :: l).toArray⟩ : ByteArray) ≠ Mi := ne 45 (by decide)
  unfold kindOf
  rw [if_neg n1, if_neg n2, if_neg n3, if_neg n4]
theorem q_name {c : UInt8} {l : List UInt8} (h : begins c = true) : qP (.mk ⟨(c :: l).toArray⟩ [] 0) = .mk 97 0 ⟨(c :: l).toArray⟩ [] := by
  simp only [qP, qC, nmOf, kind_name h, if_true]
theorem q_sign {c : UInt8} (h : c = 36 ∨ c = 46 ∨ c = 45) : qP (.mk ⟨#[c]⟩ [] 0) = .mk c.toNat 0 ByteArray.empty [] := by
  rcases h with rfl | rfl | rfl
  · simp only [qP, qC, nmOf, (by decide : kindOf ⟨#[36]⟩ = 36)]; rfl
  · simp only [qP, qC, nmOf, (by decide : kindOf ⟨#[46]⟩ = 46)]; rfl
  · simp only [qP, qC, nmOf, (by decide : kindOf ⟨#[45]⟩ = 45)]; rfl
theorem q_br (rows : List (List Part)) (s : Nat) : qP (.mk Br rows s) = .mk 40 s ByteArray.empty (qC rows) := by
  simp only [qP, nmOf, (by decide : kindOf Br = 40)]; rfl
end Go.Mdl
namespace Go.Proofs.Ytkmoeokfgkmlhaa
open Go.RowKit Go.Vc Go.Mdl
set_option linter.unusedVariables false
set_option linter.unusedSimpArgs false
set_option maxRecDepth 100000
/-- What a function of the document's reader tells. -/
def Says {α β : Type} (q : α → β) (r : Res α) (y : β) (l : List UInt8) (n why : Nat) : Prop := match r with
  | .ok (x, l1, n1) => y = q x ∧ l = l1 ∧ n = n1 ∧ why = 0
  | .error _ => why ≠ 0
def EndsF {α β : Type} (R : Ending → World → Prop) (g : Nat) (s : ByteArray) (w : World) (ret : World → β → Value → Prop) (q : α → β) (r : Res α) : Prop :=
  ∀ w' v y l' n' why, FRt w' g s l' n' why → Fm (· = g) w w' → ret (above w.heap.size w') y v → Says q r y l' n' why → R (.returned v) w'
def retP4 (W : World) (p : RPart) (v : Value) : Prop := ∃ e : E4, v = .agg #[.int .u8 (e.k : Int), .int .u8 (e.s : Int), .string e.a, .slice e.sl.1 e.sl.2.1 e.sl.2.2] ∧ QdP W p e
def retR4 (W : World) (r : List RPart) (v : Value) : Prop := ∃ sl : Sv, v = .slice sl.1 sl.2.1 sl.2.2 ∧ QdW W r sl
def retC4 (W : World) (r : List (List RPart)) (v : Value) : Prop := ∃ sl : Sv, v = .slice sl.1 sl.2.1 sl.2.2 ∧ QdC W r sl
def CF (f : Nat) : Prop := ∀ (w : World) (g : Nat) (s : ByteArray) (l : List UInt8) (n : Nat) (R : Ending → World → Prop), FRt w g s l n 0 → s.size ≤ 1024 → l.length < f →
  EndsF R g s w retC4 qC (choices f l n) → Calls Try.prog 21 #[.pointer (some ⟨g, 0, none⟩)] w R
section
variable {w w1 : World} {R : Ending → World → Prop} {g n why : Nat} {s : ByteArray} {l r : List UInt8} {c : UInt8}
/-- The result's box is written and read. -/
theorem res4 {g2 : Nat} {c0 : Array Value} (hg : Blk w g2 c0 75) (h0 : c0.size = 4) {a : ByteArray} {p : Option Addr} {n c : Nat} {k s : Int}
    (h : ∀ w', Fm (· = g2) w w' → R (.returned (.agg #[.int .u8 k, .int .u8 s, .string a, .slice p n c])) w') :
    St w ⟨g2, 0, none⟩ (.int .u8 k) fun w1 => St w1 (Addr.add ⟨g2, 0, none⟩ 1) (.int .u8 s) fun w2 => St w2 (Addr.add ⟨g2, 0, none⟩ 2) (.string a) fun w3 => St w3 (Addr.add ⟨g2, 0, none⟩ 3) (.slice p n c) fun w4 =>
      LdI .u8 (w4.cell? ⟨g2, 0, none⟩) fun k' => LdI .u8 (w4.cell? (Addr.add ⟨g2, 0, none⟩ 1)) fun s' => LdStr (w4.cell? (Addr.add ⟨g2, 0, none⟩ 2)) fun a' => LdSl (w4.cell? (Addr.add ⟨g2, 0, none⟩ 3)) fun p' n' c' =>
        R (.returned (.agg #[.int .u8 k', .int .u8 s', .string a', .slice p' n' c'])) w4 := by
  obtain ⟨l⟩ := c0
  obtain ⟨x, y, z, u, rfl⟩ : ∃ x y z u, l = [x, y, z, u] := by
    match l, h0 with
    | [x, y, z, u], _ => exact ⟨x, y, z, u, rfl⟩
  simp only [Addr.add_mk, Nat.zero_add]
  refine st_blk hg (by simp) fun w1 hb1 f1 => st_blk hb1 (by simp) fun w2 hb2 f2 => st_blk hb2 (by simp) fun w3 hb3 f3 => st_blk hb3 (by simp) fun w4 hb4 f4 => ?_
  have hb : Blk w4 g2 #[.int .u8 k, .int .u8 s, .string a, .slice p n c] 75 := hb4
  exact lI (hb.cell 0) (lI (hb.cell 1) (lS (hb.cell 2) (lSl (hb.cell 3) (h w4 (((f1.trans f2).trans f3).trans f4)))))
theorem ld4 {g2 : Nat} {a : ByteArray} {p : Option Addr} {n c : Nat} {k s : Int} (hb : Blk w g2 #[.int .u8 k, .int .u8 s, .string a, .slice p n c] 75) {K : Int → Int → ByteArray → Option Addr → Nat → Nat → Prop} (h : K k s a p n c) :
    LdI .u8 (w.cell? ⟨g2, 0, none⟩) fun k' => LdI .u8 (w.cell? (Addr.add ⟨g2, 0, none⟩ 1)) fun s' => LdStr (w.cell? (Addr.add ⟨g2, 0, none⟩ 2)) fun a' => LdSl (w.cell? (Addr.add ⟨g2, 0, none⟩ 3)) fun p' n' c' => K k' s' a' p' n' c' :=
  lI (hb.cell 0) (lI (by rw [Addr.add_mk]; exact hb.cell 1) (lS (by rw [Addr.add_mk]; exact hb.cell 2) (lSl (by rw [Addr.add_mk]; exact hb.cell 3) h)))
theorem q_nil (W : World) (k : Nat) (a : ByteArray) : QdP W (.mk k 0 a []) ⟨k, 0, a, (none, 0, 0)⟩ := by
  simp only [QdP, QdL]
  exact ⟨trivial, trivial, trivial, [], rfl, Rd.nil _ _, rfl⟩
theorem FRt.byte (h : FRt w g s l n why) {L : List UInt8} {k : Nat} (hl : l = L.drop k) (hk : k < L.length) (hs : L.length ≤ s.size) : s[s.size - L.length + k]? = some L[k] ∧ s.size - L.length + k < s.size ∧ s.size - l.length = s.size - L.length + k := by
  subst hl
  have h1 := h.len
  have h2 := h.rest
  rw [List.length_drop] at h2
  have e : s.size - (L.length - k) = s.size - L.length + k := by omega
  rw [e] at h2
  have hlt : s.size - L.length + k < s.size := by omega
  refine ⟨?_, hlt, by rw [List.length_drop]; exact e⟩
  rw [ba_get hlt, ← ba_list hlt]
  have := congrArg (fun l => l[0]?) h2
  simp only [List.getElem?_drop, Nat.add_zero] at this
  rw [← this, List.getElem?_eq_getElem hk]
def leftF (s : ByteArray) (g : Nat) (w : World) : Nat := match w.cell? ⟨g, 1, none⟩ with | some (.int _ k) => s.size - k.toNat | _ => 0
theorem FRt.left (h : FRt w g s l n why) : leftF s g w = l.length := by
  unfold leftF
  obtain ⟨pl, hb⟩ := h.blk
  rw [hb.cell]
  have := h.len
  simp; omega
theorem cut_eq {L : List UInt8} (hL : L = s.data.toList.drop (s.size - L.length)) (hs : L.length ≤ s.size) {k : Nat} (hk : k ≤ L.length) : s.extract (s.size - L.length) (s.size - (L.drop k).length) = ⟨(L.take k).toArray⟩ := by
  rw [List.length_drop, show s.size - (L.length - k) = s.size - L.length + k from by omega]
  apply ByteArray.ext
  rw [ByteArray.data_extract]
  apply Array.ext'
  rw [Array.toList_extract, List.extract_eq_take_drop]
  rw [show s.size - L.length + k - (s.size - L.length) = k from by omega]
  conv => rhs; simp only []
  rw [← hL]
theorem fatom_calls {f : Nat} (hch : CF f) (h : FRt w g s l n 0) (hs : s.size ≤ 1024) (hl : l.length ≤ f) (hR : EndsF R g s w retP4 qP (Mdl.atom (choices f) l n)) :
    Calls Try.prog 74 #[.pointer (some ⟨g, 0, none⟩)] w R := by
  refine ok74 _ ?_
  unfold F74
  refine al fun g2 w1 hb1 hg2 hge2 => ?_
  have h1 := h.below hb1
  have hgl := h.lt
  have hne : ¬ (g2 = g) := by omega
  refine fpeek_calls h1 hs fun w2 h2 hf2 => ⟨_, rfl, ?_⟩
  have F2 : Fm (· = g) w w2 := (Fm.below hb1).trans hf2
  have G2 := hf2.blk hg2 hne
  have hle := skip_len l
  clear h1 hf2 hg2 hb1 h
  unfold Mdl.atom at hR
  have fin : ∀ (p : RPart) (e : E4) (l' : List UInt8) (n' why : Nat) (w4 w' : World), FRt w4 g s l' n' why → Fm (· = g) w w4 → Fm (· = g2) w4 w' → QdP (above w.heap.size w') p e → Says qP (Mdl.atom (choices f) l n) p l' n' why →
      R (.returned (.agg #[.int .u8 (e.k : Int), .int .u8 (e.s : Int), .string e.a, .slice e.sl.1 e.sl.2.1 e.sl.2.2])) w' := fun p e l' n' why w4 w' hA hF hF2 hP hS =>
    hR w' _ p l' n' why (hA.keep hF2 (Ne.symm hne)) (hF.trans' hF2 (fun b hb e => by omega)) ⟨e, rfl, hP⟩ hS
  clear hR
  have zero : ∀ {w4 : World} {l' : List UInt8} {n' why : Nat}, why ≠ 0 → FRt w4 g s l' n' why → Fm (· = g) w w4 → Blk w4 g2 #[.int .u8 0, .int .u8 0, .string (ByteArray.mk #[]), .slice none 0 0] 75 → (∃ e, Mdl.atom (choices f) l n = .error e) →
      St w4 ⟨g2, 0, none⟩ (.int .u8 0) fun w1 => St w1 (Addr.add ⟨g2, 0, none⟩ 1) (.int .u8 0) fun w2 => St w2 (Addr.add ⟨g2, 0, none⟩ 2) (.string (ByteArray.mk #[])) fun w3 => St w3 (Addr.add ⟨g2, 0, none⟩ 3) (.slice none 0 0) fun w4 =>
      LdI .u8 (w4.cell? ⟨g2, 0, none⟩) fun k' => LdI .u8 (w4.cell? (Addr.add ⟨g2, 0, none⟩ 1)) fun s' => LdStr (w4.cell? (Addr.add ⟨g2, 0, none⟩ 2)) fun a' => LdSl (w4.cell? (Addr.add ⟨g2, 0, none⟩ 3)) fun p' n' c' =>
        R (.returned (.agg #[.int .u8 k', .int .u8 s', .string a', .slice p' n' c'])) w4 := by
    rintro w4 l' n' why hw hA hF hG ⟨e, he⟩
    refine res4 hG rfl fun w' fw => ?_
    exact fin (.mk 0 0 ByteArray.empty []) ⟨0, 0, ByteArray.empty, (none, 0, 0)⟩ l' n' why w4 w' hA hF fw (q_nil _ _ _) (by rw [he]; exact hw)
  refine dr fun w3 hb3 _ => ?_
  have h3 := h2.below hb3
  have F3 := F2.tr hb3
  have G3 := G2.keep hb3
  clear hb3 h2 F2 G2
  refine fldA h3 (fldS h3 ?_)
  cases hsk : skip l with
  | nil =>
    rw [hsk] at h3
    rw [h3.size0, Br_t]
    refine fldA h3 ?_
    refine bad_calls (e := 4) h3 (by decide) fun w4 h4 f4 => ⟨rfl, ?_⟩
    refine zero (by decide) h4 (F3.trans f4) (f4.blk G3 hne) ?_
    unfold Mdl.atom; rw [hsk]; exact ⟨_, rfl⟩
  | cons c r =>
    rw [hsk] at h3 hle
    rw [h3.size1, Br_f]
    have hx : ((hd (c :: r) : Nat) : Int) = (c.toNat : Int) := rfl
    rw [hx]
    simp only [List.length_cons] at hle
    -- what the document's atom is, behind the tests
    have hat : Mdl.atom (choices f) l n = (if begins c then
          if maxParts < n + 1 then .error ((c :: r).length, eLong)
          else if maxName < ((c :: r).takeWhile inn).length then .error ((c :: r).length, eName)
          else .ok (.mk ⟨((c :: r).takeWhile inn).toArray⟩ [] 0, (c :: r).dropWhile inn, n + 1)
        else if c = 36 ∨ c = 46 ∨ c = 45 then
          if maxParts < n + 1 then .error ((c :: r).length, eLong)
          else .ok (.mk ⟨#[c]⟩ [] 0, r, n + 1)
        else if c ≠ 40 then .error ((c :: r).length, eForm)
        else if maxParts < n + 1 then .error ((c :: r).length, eLong)
        else match choices f r (n + 1) with
          | .error e => .error e
          | .ok (rows, l1, n1) =>
            match skip l1 with
            | [] => .error ((c :: r).length, eOpen)
            | d :: r1 => if d = 41 then .ok (.mk Mdl.Br rows 0, r1, n1) else .error ((d :: r1).length, eForm)) := by
      unfold Mdl.atom
      rw [hsk] <;> rfl
    refine ⟨fun w4 => w4 = w3 ∧ (begins c = true ∨ c = 36 ∨ c = 46 ∨ c = 45 ∨ c = 40), ?_, ?_⟩
    rotate_left
    · refine first_calls ⟨_, rfl, ?_⟩
      cases hb : begins c with
      | true => exact ⟨rfl, .inl rfl⟩
      | false =>
        rw [Bool.not_false, Br_t]
        have cc : ∀ k : UInt8, ¬ ((c.toNat : Int) ≠ (k.toNat : Int)) → c = k := fun k h => by rw [← UInt8.toNat_inj]; omega
        refine brn (fun k36 => ?_) (fun k36 => ⟨rfl, .inr (.inl (cc 36 (fun h => h k36)))⟩)
        refine brn (fun k46 => ?_) (fun k46 => ⟨rfl, .inr (.inr (.inl (cc 46 (fun h => h k46))))⟩)
        refine brn (fun k45 => ?_) (fun k45 => ⟨rfl, .inr (.inr (.inr (.inl (cc 45 (fun h => h k45)))))⟩)
        refine brn (fun k40 => ?_) (fun k40 => ⟨rfl, .inr (.inr (.inr (.inr (cc 40 (fun h => h k40)))))⟩)
        have n36 : c ≠ 36 := by rintro rfl; exact k36 rfl
        have n46 : c ≠ 46 := by rintro rfl; exact k46 rfl
        have n45 : c ≠ 45 := by rintro rfl; exact k45 rfl
        have n40 : c ≠ 40 := by rintro rfl; exact k40 rfl
        refine fldA h3 ?_
        refine bad_calls (e := 3) h3 (by decide) fun w4 h4 f4 => ⟨rfl, ?_⟩
        refine zero (by decide) h4 (F3.trans f4) (f4.blk G3 hne) ?_
        rw [hat, if_neg (by rw [hb]; decide), if_neg (by simp [n36, n46, n45]), if_pos n40]
        exact ⟨_, rfl⟩
    rintro w4 ⟨rfl, hc5⟩
    unfold F74_j8
    refine begin_calls h3 fun w5 why h5 f5 hw => ⟨rfl, ?_⟩
    have F5 := F3.trans f5
    have G5 := f5.blk G3 hne
    refine fldW h5 ?_
    refine brn (fun hwhy => ?_) (fun hwhy => ?_)
    · have hw0 : why ≠ 0 := fun e => hwhy (by rw [e]; rfl)
      have hlong : maxParts < n + 1 := by omega
      refine zero hw0 h5 F5 G5 ?_
      rw [hat]
      cases hb : begins c with
      | true => rw [if_pos rfl, if_pos hlong]; exact ⟨_, rfl⟩
      | false =>
        rw [if_neg (by decide)]
        by_cases h3c : c = 36 ∨ c = 46 ∨ c = 45
        · rw [if_pos h3c, if_pos hlong]; exact ⟨_, rfl⟩
        · have h40 : c = 40 := by
            rcases hc5 with h | h | h | h | h
            · rw [hb] at h; cases h
            · exact absurd (.inl h) h3c
            · exact absurd (.inr (.inl h)) h3c
            · exact absurd (.inr (.inr h)) h3c
            · exact h
          rw [if_neg h3c, if_neg (fun h => h h40), if_pos hlong]; exact ⟨_, rfl⟩
    obtain rfl : why = 0 := by omega
    have hshort : ¬ maxParts < n + 1 := by have := hw.1 rfl; omega
    refine fldA h5 ?_
    refine first_calls ⟨_, rfl, ?_⟩
    clear hw hwhy h3 F3 G3 f5
    cases hb : begins c with
    | true =>
      rw [Br_t]
      rw [if_pos hb, if_neg hshort] at hat
      have hL : (c :: r) = s.data.toList.drop (s.size - (c :: r).length) := h5.rest
      have hLs : (c :: r).length ≤ s.size := h5.len
      have hbeg : ∀ k, k ≤ (c :: r).length → (c :: r).takeWhile inn = (c :: r).take k → ∃ l2, (c :: r).take k = c :: l2 := by
        intro k hk e
        cases k with
        | zero => simp [begins_inn hb] at e
        | succ k => exact ⟨r.take k, rfl⟩
      generalize hLe : c :: r = L at *
      refine ⟨fun w6 => ∃ k : Nat, k ≤ L.length ∧ L.takeWhile inn = L.take k ∧ L.dropWhile inn = L.drop k ∧ FRt w6 g s (L.drop k) (n + 1) 0 ∧ Fm (· = g) w w6 ∧ Blk w6 g2 #[.int .u8 0, .int .u8 0, .string (ByteArray.mk #[]), .slice none 0 0] 75, ?_,
        fun w6 => ∃ k : Nat, k ≤ L.length ∧ (∀ x ∈ L.take k, inn x = true) ∧ FRt w6 g s (L.drop k) (n + 1) 0 ∧ Fm (· = g) w w6 ∧ Blk w6 g2 #[.int .u8 0, .int .u8 0, .string (ByteArray.mk #[]), .slice none 0 0] 75, fun w6 => leftF s g w6, ⟨0, by omega, by simp, h5, F5, G5⟩, ?_⟩
      · rintro w6 ⟨k, hk, htk, hdr, h6, F6, G6⟩
        unfold F74_j15
        refine dr fun w7 hb7 _ => ?_
        have h7 := h6.below hb7
        have F7 := F6.tr hb7
        have G7 := G6.keep hb7
        refine fldS h7 (fldA h7 ?_)
        have hdl : (L.drop k).length = L.length - k := List.length_drop
        refine ⟨by omega, by omega, by omega, ?_⟩
        simp only [Int.toNat_natCast, cut_eq hL hLs hk]
        rw [htk, hdr] at hat
        obtain ⟨l2, hl2⟩ := hbeg k hk htk
        have hnm : isName ⟨(L.take k).toArray⟩ = decide ((L.take k).length ≤ maxName) := by
          have hin : ∀ x ∈ L.take k, inn x = true := by rw [← htk]; exact fun x hx => List.all_eq_true.1 List.all_takeWhile x hx
          rw [hl2] at hin ⊢
          exact isName_take hb fun x hx => hin x (by simp [hx])
        refine ⟨fun w8 => ∃ why, FRt w8 g s (L.drop k) (n + 1) why ∧ Fm (· = g) w w8 ∧ Blk w8 g2 #[.int .u8 0, .int .u8 0, .string (ByteArray.mk #[]), .slice none 0 0] 75 ∧ (why = 0 ↔ (L.take k).length ≤ maxName), ?_, ?_⟩
        · rintro w8 ⟨why, h8, F8, G8, hw⟩
          unfold F74_j18
          rw [Int.toNat_natCast, Int.toNat_natCast, cut_eq hL hLs hk]
          refine res4 G8 rfl fun w' fw => ?_
          refine fin (.mk 97 0 ⟨(L.take k).toArray⟩ []) ⟨97, 0, ⟨(L.take k).toArray⟩, (none, 0, 0)⟩ _ _ why w8 w' h8 F8 fw (q_nil _ _ _) ?_
          rw [hat]
          by_cases hle2 : (L.take k).length ≤ maxName
          · rw [if_neg (by omega)]
            refine ⟨?_, rfl, rfl, hw.2 hle2⟩
            rw [hl2, q_name hb]
          · rw [if_pos (by omega)]
            exact fun e => hle2 (hw.1 e)
        · refine name2_calls ⟨_, rfl, ?_⟩
          rw [hnm]
          by_cases hle2 : (L.take k).length ≤ maxName
          · rw [decide_eq_true hle2]
            exact ⟨0, h7, F7, G7, fun _ => hle2, fun _ => rfl⟩
          · rw [decide_eq_false hle2, Bool.not_false, Br_t]
            refine bad_calls (e := 6) h7 (by decide) fun w8 h8 f8 => ⟨rfl, 6, h8, F7.trans f8, f8.blk G7 hne, fun e => absurd e (by decide), fun e => absurd e hle2⟩
      · rintro w6 ⟨k, hk, hin, h6, F6, G6⟩
        unfold F74_l13
        refine ⟨fun w7 => ∃ hk2 : k < L.length, inn L[k] = true ∧ FRt w7 g s (L.drop k) (n + 1) 0 ∧ Fm (· = g) w w7 ∧ Blk w7 g2 #[.int .u8 0, .int .u8 0, .string (ByteArray.mk #[]), .slice none 0 0] 75, ?_, fun w7 => w7 = w6.drew, rfl, ?_⟩
        · rintro w7 ⟨hk2, hi2, h7, F7, G7⟩
          unfold F74_j14
          rw [List.drop_eq_getElem_cons hk2] at h7
          refine fadv h7 hs fun w8 h8 f8 => ⟨⟨k + 1, by omega, fun x hx => ?_, h8, F7.trans f8, f8.blk G7 hne⟩, ?_⟩
          · rw [List.take_add_one, List.getElem?_eq_getElem hk2] at hx
            rcases List.mem_append.1 hx with hx | hx
            · exact hin x hx
            · simp at hx; subst hx; exact hi2
          · show leftF s g w8 < leftF s g w6
            rw [h8.left, h6.left, List.length_drop, List.length_drop]; omega
        · have hbd : Below w6.heap.size w6 w6.drew := (Below.refl _ _).drew
          have h7 := h6.below hbd
          have F7 := F6.tr hbd
          have G7 := G6.keep hbd
          have done : (∀ c' r', L.drop k = c' :: r' → inn c' = false) → ∃ k' : Nat, k' ≤ L.length ∧ L.takeWhile inn = L.take k' ∧ L.dropWhile inn = L.drop k' ∧ FRt w6.drew g s (L.drop k') (n + 1) 0 ∧ Fm (· = g) w w6.drew ∧ Blk w6.drew g2 #[.int .u8 0, .int .u8 0, .string (ByteArray.mk #[]), .slice none 0 0] 75 := fun hd =>
            ⟨k, hk, (take_len L k hk hin hd).1, (take_len L k hk hin hd).2, h7, F7, G7⟩
          obtain ⟨pl, hbk⟩ := h7.blk
          have hdl : (L.drop k).length = L.length - k := List.length_drop
          rw [NonNil_some, Addr.add_mk]
          refine ⟨_, (fun w' e => by rw [e]; exact hbk.cell 1), ?_⟩
          rw [NonNil_some]
          refine ⟨s, (fun w' e => by rw [e]; exact hbk.cell 0), ?_⟩
          refine brd (fun hlt => ?_) (fun hge => ?_)
          · have hk2 : k < L.length := by omega
            obtain ⟨q1, q2, q3⟩ := h7.byte rfl hk2 hLs
            rw [NonNil_some]
            refine ⟨s, (fun w' e => by rw [e]; exact hbk.cell 0), ?_⟩
            rw [NonNil_some, Addr.add_mk]
            refine ⟨_, (fun w' e => by rw [e]; exact hbk.cell 1), ?_⟩
            refine ⟨by omega, L[k], by rw [Int.toNat_natCast, q3]; exact q1, ?_⟩
            refine later_calls ⟨_, rfl, ?_⟩
            cases hik : inn L[k] with
            | true => exact ⟨hk2, hik, h7, F7, G7⟩
            | false =>
              refine done fun c' r' e => ?_
              rw [List.drop_eq_getElem_cons hk2] at e
              cases e
              exact hik
          · refine done fun c' r' e => ?_
            rw [List.drop_of_length_le (by omega)] at e
            cases e
    | false =>
      rw [Br_f]
      rw [if_neg (by rw [hb]; decide)] at hat
      refine fadv h5 hs fun w6 h6 f6 => ?_
      have F6 := F5.trans f6
      have G6 := f6.blk G5 hne
      clear f6 h5 F5 G5
      refine brn (fun k40 => ?_) (fun k40 => ?_)
      · have n40 : c ≠ 40 := by rintro rfl; exact k40 rfl
        have h3c : c = 36 ∨ c = 46 ∨ c = 45 := by
          rcases hc5 with h | h | h | h | h
          · rw [hb] at h; cases h
          · exact .inl h
          · exact .inr (.inl h)
          · exact .inr (.inr h)
          · exact absurd h n40
        rw [if_pos h3c, if_neg hshort] at hat
        refine res4 G6 rfl fun w' fw => ?_
        refine fin (.mk c.toNat 0 ByteArray.empty []) ⟨c.toNat, 0, ByteArray.empty, (none, 0, 0)⟩ _ _ 0 w6 w' h6 F6 fw (q_nil _ _ _) ?_
        rw [hat]
        exact ⟨(q_sign h3c).symm, rfl, rfl, rfl⟩
      · obtain rfl : c = 40 := by rw [← UInt8.toNat_inj]; show c.toNat = 40; omega
        rw [if_neg (by decide), if_neg (by decide), if_neg hshort] at hat
        refine hch w6 g s r (n + 1) _ h6 hs (by omega) ?_
        rintro w7 _ y l' n' why h7 f7 ⟨sl, rfl, hrd⟩ hsays
        refine ⟨_, _, _, rfl, ?_⟩
        have F7 := F6.trans f7
        have G7 := f7.blk G6 hne
        have hs6 : w.heap.size ≤ w6.heap.size := F6.size
        have hs67 := f7.size
        have hg6 := h6.lt
        have hG6 := G6.lt
        refine al4 fun pb w8 hb8 hp hgep => ?_
        have h8 := h7.below hb8
        have F8 := F7.tr hb8
        have G8 := G7.keep hb8
        have hpne : ¬ (pb = g) := by have := h7.lt; omega
        have hpne2 : ¬ (pb = g2) := by have := G7.lt; omega
        have Q8 : Fm (· = g) w7 w8 := .below hb8
        -- the answer
        have ans : ∀ {w9 : World} {l2 : List UInt8} {n2 why2 : Nat}, FRt w9 g s l2 n2 why2 → Fm (· = g) w w9 → Fm (· = g) w7 w9 → Blk w9 g2 #[.int .u8 0, .int .u8 0, .string (ByteArray.mk #[]), .slice none 0 0] 75 → Blk w9 pb #[.int .u8 40, .int .u8 0, .string (ByteArray.mk #[]), .slice sl.1 sl.2.1 sl.2.2] 75 →
            Says qP (Mdl.atom (choices f) l n) (.mk 40 0 ByteArray.empty y) l2 n2 why2 → F74_j31 ⟨g2, 0, none⟩ ⟨pb, 0, none⟩ w9 R := by
          intro w9 l2 n2 why2 h9 F9 Q9 G9 P9 hS
          unfold F74_j31
          refine ld4 P9 ?_
          refine res4 G9 rfl fun w' fw => ?_
          refine fin _ ⟨40, 0, ByteArray.empty, sl⟩ _ _ why2 w9 w' h9 F9 fw ?_ hS
          simp only [QdP]
          refine ⟨trivial, trivial, trivial, ?_⟩
          have a1 : Sub (above w6.heap.size w7) (above w6.heap.size w9) := above_fm Q9 (Nat.le_refl _) (fun b hb e => by omega)
          have a2 : Sub (above w6.heap.size w9) (above w.heap.size w') := above_fm fw hs6 (fun b hb e => by omega)
          obtain ⟨vs, q1, q2, q3⟩ := QdC.sub (a1.trans a2) hrd
          exact ⟨vs, q1, q2, q3⟩
        refine fldW h8 ?_
        refine brn (fun hwhy => ?_) (fun hwhy => ?_)
        · have hw0 : why ≠ 0 := fun e => hwhy (by rw [e]; rfl)
          refine ans h8 F8 Q8 G8 hp ?_
          rw [hat]
          cases hc : choices f r (n + 1) with
          | error e => exact hw0
          | ok x =>
            rw [hc] at hsays
            exact absurd hsays.2.2.2 hw0
        obtain rfl : why = 0 := by omega
        cases hc : choices f r (n + 1) with
        | error e => rw [hc] at hsays; exact absurd rfl hsays
        | ok x =>
          obtain ⟨rows, l1, n1⟩ := x
          rw [hc] at hsays hat
          obtain ⟨rfl, rfl, rfl, -⟩ := hsays
          dsimp only at hat
          refine fpeek_calls h8 hs fun w9 h9 f9 => ⟨_, rfl, ?_⟩
          have F9 := F8.trans f9
          have Q9 := Q8.trans f9
          have G9 := f9.blk G8 hne
          have P9 := f9.blk hp hpne
          refine ⟨fun w10 => ∃ l2 n2 why2, FRt w10 g s l2 n2 why2 ∧ Fm (· = g) w w10 ∧ Fm (· = g) w7 w10 ∧ Blk w10 g2 #[.int .u8 0, .int .u8 0, .string (ByteArray.mk #[]), .slice none 0 0] 75 ∧ Blk w10 pb #[.int .u8 40, .int .u8 0, .string (ByteArray.mk #[]), .slice sl.1 sl.2.1 sl.2.2] 75 ∧
            Says qP (Mdl.atom (choices f) l n) (.mk 40 0 ByteArray.empty (qC rows)) l2 n2 why2, fun w10 ⟨l2, n2, why2, a1, a2, a3, a4, a5, a6⟩ => ans a1 a2 a3 a4 a5 a6, ?_⟩
          refine dr fun w10 hb10 _ => ?_
          have h10 := h9.below hb10
          have F10 := F9.tr hb10
          have Q10 := Q9.tr hb10
          have G10 := G9.keep hb10
          have P10 := P9.keep hb10
          clear ans h9 F9 Q9 G9 P9 h8 F8 Q8 G8 hp
          refine fldA h10 (fldS h10 ?_)
          have goBad : ∀ {e : Nat} {at_ : Int}, e ≠ 0 → (∃ e, Mdl.atom (choices f) l n = .error e) → Calls Try.prog 23 #[.pointer (some ⟨g, 0, none⟩), .int .i64 at_, .int .i64 (e : Int)] w10 (post R fun v6 w1_15 => v6 = .tuple #[] ∧ ∃ l2 n2 why2, FRt w1_15 g s l2 n2 why2 ∧ Fm (· = g) w w1_15 ∧ Fm (· = g) w7 w1_15 ∧ Blk w1_15 g2 #[.int .u8 0, .int .u8 0, .string (ByteArray.mk #[]), .slice none 0 0] 75 ∧ Blk w1_15 pb #[.int .u8 40, .int .u8 0, .string (ByteArray.mk #[]), .slice sl.1 sl.2.1 sl.2.2] 75 ∧
              Says qP (Mdl.atom (choices f) l n) (.mk 40 0 ByteArray.empty (qC rows)) l2 n2 why2) := by
            rintro e at_ he ⟨x, hx⟩
            refine bad_calls h10 he fun w11 h11 f11 => ⟨rfl, _, _, e, h11, F10.trans f11, Q10.trans f11, f11.blk G10 hne, f11.blk P10 hpne, ?_⟩
            rw [hx]; exact he
          cases hsk1 : skip l' with
          | nil =>
            rw [hsk1] at h10 hat
            rw [h10.size0, Br_t]
            refine goBad (e := 131) (by decide) ?_
            rw [hat]; exact ⟨_, rfl⟩
          | cons d r2 =>
            rw [hsk1] at h10 hat
            dsimp only at hat
            rw [h10.size1, Br_f]
            have hxd : ((hd (d :: r2) : Nat) : Int) = (d.toNat : Int) := rfl
            rw [hxd]
            refine brn (fun k41 => ?_) (fun k41 => ?_)
            · have n41 : d ≠ 41 := by rintro rfl; exact k41 rfl
              rw [if_neg n41] at hat
              refine fldA h10 ?_
              refine goBad (e := 3) (by decide) ?_
              rw [hat]; exact ⟨_, rfl⟩
            · obtain rfl : d = 41 := by rw [← UInt8.toNat_inj]; show d.toNat = 41; omega
              rw [if_pos rfl] at hat
              refine fadv h10 hs fun w11 h11 f11 => ⟨_, _, 0, h11, F10.trans f11, Q10.trans f11, f11.blk G10 hne, f11.blk P10 hpne, ?_⟩
              rw [hat]
              exact ⟨(q_br rows 0).symm, rfl, rfl, rfl⟩
end
end Go.Proofs.Ytkmoeokfgkmlhaa
/- Models: the reader reads a part, a row, choices. -/
namespace Go.Proofs.Ytkmoeokfgkmlhaa
open Go.RowKit Go.Vc Go.Mdl
set_option linter.unusedVariables false
set_option linter.unusedSimpArgs false
set_option maxRecDepth 100000
section
variable {w w1 : World} {R : Ending → World → Prop} {g n : Nat} {s : ByteArray} {l r : List UInt8} {c : UInt8}
theorem len1 {α : Type} {l : List α} (h : ((l.length : Nat) : Int) = 1) : ∃ x, l = [x] := List.length_eq_one_iff.1 (by omega)
theorem plain_sg (a' : ByteArray) (rows' : List (List Part)) (s' s0 : Nat) : plain (.mk Mdl.Br [[.mk a' rows' s']] s0) = if s0 = 0 then .mk a' rows' s' else if s' = 0 then .mk a' rows' s0 else .mk Mdl.Br [[.mk a' rows' s']] s0 := by
  simp only [plain, if_true]
theorem part_calls {f : Nat} (hch : CC f) (h : RAt w g s l n) (hs : s.size ≤ 1024) (hl : l.length ≤ f) (hR : Ends R g s w retP (Mdl.part (choices f) l n)) :
    Calls Try.prog 50 #[.pointer (some ⟨g, 0, none⟩)] w R := by
  refine ok50 _ ?_
  unfold F50
  refine al fun g2 w1 hb1 hg2 hge2 => ?_
  have h1 := h.below hb1
  have hgl := h.blk.lt
  have hne : ¬ (g2 = g) := by omega
  unfold Mdl.part at hR
  refine atom_calls hch h1 hs hl ?_
  have F1 : Fm (· = g) w w1 := .below hb1
  cases ha : Mdl.atom (choices f) l n with
  | error e =>
    obtain ⟨pos, e⟩ := e
    rw [ha] at hR
    exact fun at_ w' f' => hR at_ w' (F1.trans f')
  | ok x =>
    obtain ⟨⟨a, rows, s0⟩, l1, n1⟩ := x
    rw [ha] at hR
    dsimp only at hR
    rintro w2 _ h2 f2 ⟨⟨ea, esl, es⟩, rfl, hrd⟩
    simp only [RdP] at hrd
    obtain ⟨rfl, rfl, hrd⟩ := hrd
    replace hrd : RdC (above w1.heap.size w2) rows esl := hrd
    refine ⟨_, _, _, _, _, rfl, ?_⟩
    have F2 := F1.trans f2
    have G2 := f2.blk hg2 hne
    have hg2lt := hg2.lt
    refine al3 fun pb w3 hb3 hp hgep => ?_
    have hpne : ¬ (pb = g) := by have := h2.blk.lt; omega
    have hpne2 : ¬ (pb = g2) := by have := G2.lt; omega
    have h3 := h2.below hb3
    have F3 := F2.tr hb3
    have G3 := G2.keep hb3
    have Q3 : Fm (· = g) w2 w3 := .below hb3
    have hsz2 : w1.heap.size ≤ w2.heap.size := f2.size
    have hsz1 : w.heap.size ≤ w1.heap.size := hb1.size
    clear h1 f2 hg2 hb1 h2 hb3 G2 F2 F1
    -- what is read stays
    have keepS : ∀ {w4 w' : World}, Fm (· = g) w2 w4 → Fm (· = g2) w4 w' → Sub (above w1.heap.size w2) (above w.heap.size w') := by
      intro w4 w' q1 q2
      have a1 : Sub (above w1.heap.size w2) (above w1.heap.size w4) := above_fm q1 (Nat.le_refl _) (fun b hb e => by omega)
      have a2 : Sub (above w1.heap.size w4) (above w.heap.size w') := above_fm q2 hsz1 (fun b hb e => by omega)
      exact a1.trans a2
    have keep : ∀ {w4 w' : World}, Fm (· = g) w2 w4 → Fm (· = g2) w4 w' → RdC (above w.heap.size w') rows esl := fun q1 q2 => RdC.sub (keepS q1 q2) hrd
    have fin : ∀ (p : Part) (e : E) (l' : List UInt8) (n' : Nat) (w4 w' : World), Ends R g s w retP (.ok (p, l', n')) → RAt w4 g s l' n' → Fm (· = g) w w4 → RdP (above w.heap.size w') p e → Fm (· = g2) w4 w' →
        R (.returned (.agg #[.string e.a, .slice e.sl.1 e.sl.2.1 e.sl.2.2, .int .u8 (e.s : Int)])) w' := fun p e l' n' w4 w' hE hA hF hP hF2 =>
      hE w' _ (hA.keep hF2 (Ne.symm hne)) ⟨(hF2.os).trans hF.os, hF2.tape.trans hF.tape, hF2.output.trans hF.output, Nat.le_trans hF.size hF2.size, fun b hb hm => (hF2.block b (Nat.lt_of_lt_of_le hb hF.size) (by omega)).trans (hF.block b hb hm)⟩ ⟨e, rfl, hP⟩
    refine ⟨fun w' => ∃ (sgn : Nat) (l' : List UInt8) (n' : Nat), RAt w' g s l' n' ∧ Fm (· = g) w w' ∧ Fm (· = g) w2 w' ∧ Blk w' g2 #[.string (ByteArray.mk #[]), .slice none 0 0, .int .u8 0] 96 ∧ Blk w' pb #[.string ea, .slice esl.1 esl.2.1 esl.2.2, .int .u8 (sgn : Int)] 96 ∧
      Ends R g s w retP (.ok (plain (.mk ea rows sgn), l', n')), ?_, ?_⟩
    · rintro w4 ⟨sgn, l', n', h4, F4, Q4, G4, P4, hE⟩
      unfold F50_j7
      refine ⟨fun w5 => RAt w5 g s l' n' ∧ Fm (· = g) w w5 ∧ Fm (· = g) w2 w5 ∧ Blk w5 g2 #[.string (ByteArray.mk #[]), .slice none 0 0, .int .u8 0] 96 ∧ Blk w5 pb #[.string ea, .slice esl.1 esl.2.1 esl.2.2, .int .u8 (sgn : Int)] 96 ∧ plain (.mk ea rows sgn) = .mk ea rows sgn, ?_, ?_⟩
      · rintro w5 ⟨h5, F5, Q5, G5, P5, hpl⟩
        unfold F50_j14
        refine ld3 P5 ?_
        refine res3 G5 rfl fun w' fw _ => ?_
        rw [hpl] at hE
        refine fin _ ⟨ea, esl, sgn⟩ _ _ w5 w' hE h5 F5 ?_ fw
        simp only [RdP]
        exact ⟨trivial, trivial, keep Q5 fw⟩
      · refine lS (P4.cell 0) ?_
        rw [bytes_eq]
        refine brd (fun hbr => ?_) (fun hbr => ⟨h4, F4, Q4, G4, P4, plain_noCol fun e => absurd e hbr⟩)
        replace hbr : ea = Mdl.Br := hbr
        subst hbr
        refine lSl (P4.cell 1) ?_
        have hsub4 : Sub (above w1.heap.size w2) w4 := (above_fm Q4 (Nat.le_refl _) (fun b hb e => by omega)).trans sub_of_only
        obtain ⟨vs, q1, q2', q3⟩ := hrd
        have q2 := hsub4.rd q2'
        have hvl := q3.len
        refine bre (fun hone => ?_) (fun hone => ⟨h4, F4, Q4, G4, P4, plain_noCol fun _ a' r' s' e => by subst e; rw [q1, hvl] at hone; simp at hone⟩)
        rw [q1, hvl] at hone
        obtain ⟨r1, rfl⟩ := len1 hone
        refine lSl (P4.cell 1) ?_
        obtain ⟨v1, rfl⟩ : ∃ v1, vs = [v1] := List.length_eq_one_iff.1 (by simpa using hvl)
        refine q2.idx q1 (by omega) (by rw [q1]; simp) rfl fun b o hc => ?_
        have hc0 := hc 0 _ rfl
        refine lSl hc0 ?_
        obtain ⟨es1, u1, u2, u3⟩ := q3.get 0 (by simp) (by simp)
        replace u1 : v1.2.1 = es1.length := u1
        have u2 : Rd LE w4 v1.1 v1.2.2 es1 := hsub4.rd u2
        replace u3 : RdR (above w1.heap.size w2) r1 es1 := u3
        have hel := u3.len
        refine bre (fun hone1 => ?_) (fun hone1 => ⟨h4, F4, Q4, G4, P4, plain_noCol fun _ a' r' s' e => by
          simp only [List.cons.injEq, and_true] at e
          subst e
          refine absurd ?_ hone1
          show ((v1.2.1 : Nat) : Int) = 1
          rw [u1, hel]; rfl⟩)
        replace hone1 : ((v1.2.1 : Nat) : Int) = 1 := hone1
        rw [u1] at hone1
        obtain ⟨e1, rfl⟩ := len1 hone1
        obtain ⟨p1, rfl⟩ : ∃ p1, r1 = [p1] := List.length_eq_one_iff.1 (by rw [← hel]; rfl)
        refine lSl (P4.cell 1) ?_
        refine q2.idx q1 (by omega) (by rw [q1]; simp) rfl fun b' o' hc' => ?_
        refine lSl (hc' 0 _ rfl) ?_
        refine u2.idx u1 (by omega) (by show (0 : Int) < (v1.2.1 : Int); rw [u1]; simp) rfl fun b2 o2 hc2 => ?_
        have t0 := hc2 0 _ rfl
        have t1 := hc2 1 _ rfl
        have t2 := hc2 2 _ rfl
        refine lS t0 (lSl (by rw [Addr.add_mk]; exact t1) (lI (by rw [Addr.add_mk]; exact t2) ?_))
        obtain ⟨a', rows', s'⟩ := p1
        have hp1 := u3.get 0 (by simp) (by simp)
        obtain ⟨e1a, e1sl, e1s⟩ := e1
        have hp1' := hp1
        simp only [List.getElem_cons_zero, RdP] at hp1
        obtain ⟨rfl, rfl, hp1⟩ := hp1
        -- the inner part, as it is behind
        have inner : ∀ {w5 w' : World}, Fm (· = g) w2 w5 → Fm (· = g2) w5 w' → RdC (above w.heap.size w') rows' e1sl := by
          intro w5 w' k1 k2
          exact RdC.sub (keepS k1 k2) hp1
        refine al3 fun q w5 hb5 hq hgeq => ?_
        have h5 := h4.below hb5
        have F5 := F4.tr hb5
        have Q5 := Q4.tr hb5
        have G5 := G4.keep hb5
        have P5 := P4.keep hb5
        have hqg : ¬ q = g := by have := h4.blk.lt; omega
        have hqg2 : ¬ q = g2 := by have := G4.lt; omega
        have hqp : ¬ q = pb := by have := P4.lt; omega
        rw [plain_sg] at hE ⊢
        refine lI (P5.cell 2) ?_
        refine bre (fun hz => ?_) (fun hz => ?_)
        · have : sgn = 0 := by omega
          rw [if_pos this] at hE
          refine ld3 hq ?_
          refine res3 G5 rfl fun w' fw _ => ?_
          refine fin _ ⟨e1a, e1sl, e1s⟩ _ _ w5 w' hE h5 F5 ?_ fw
          simp only [RdP]
          exact ⟨trivial, trivial, inner Q5 fw⟩
        have hz' : sgn ≠ 0 := by rintro rfl; exact hz rfl
        rw [if_neg hz'] at hE ⊢
        refine lI (hq.cell 2) ?_
        refine bre (fun hz1 => ?_) (fun hz1 => ?_)
        · have : e1s = 0 := by have : (e1s : Int) = 0 := hz1; omega
          rw [if_pos this] at hE
          refine lI (P5.cell 2) ?_
          refine st_blk (g := q) (i := 2) hq (by simp) fun w6 hb6 f6 => ?_
          have hsz3 := F5.size
          have hsz4 := Q5.size
          have F6 := F5.trans' f6 (fun b hb e => by have := F4.size; omega)
          have Q6 := Q5.trans' f6 (fun b hb e => by have := Q4.size; omega)
          refine ld3 hb6 ?_
          refine res3 (f6.blk G5 (Ne.symm hqg2)) rfl fun w' fw _ => ?_
          refine fin _ ⟨e1a, e1sl, sgn⟩ _ _ w6 w' hE (h5.keep f6 (Ne.symm hqg)) F6 ?_ fw
          simp only [RdP]
          exact ⟨trivial, trivial, inner Q6 fw⟩
        · have hz1' : e1s ≠ 0 := by rintro rfl; exact hz1 rfl
          rw [if_neg hz1']
          exact ⟨h5, F5, Q5, G5, P5, rfl⟩
    · refine peek_calls h3 hs fun w4 h4 f4 => ⟨_, rfl, ?_⟩
      have F4 := F3.trans f4
      have Q4 := Q3.trans f4
      have G4 := f4.blk G3 hne
      have P4 := f4.blk hp hpne
      have rest : isSign (UInt8.ofNat (hd (skip l1))) = false → ∃ (sgn : Nat) (l' : List UInt8) (n' : Nat), RAt w4 g s l' n' ∧ Fm (· = g) w w4 ∧ Fm (· = g) w2 w4 ∧ Blk w4 g2 #[.string (ByteArray.mk #[]), .slice none 0 0, .int .u8 0] 96 ∧ Blk w4 pb #[.string ea, .slice esl.1 esl.2.1 esl.2.2, .int .u8 (sgn : Int)] 96 ∧
          Ends R g s w retP (.ok (plain (.mk ea rows sgn), l', n')) := by
        intro hsg
        cases hsk : skip l1 with
        | nil => rw [hsk] at hR h4; exact ⟨es, _, _, h4, F4, Q4, G4, P4, hR⟩
        | cons c r =>
          rw [hsk] at hR h4 hsg
          dsimp only at hR
          rw [if_neg (by simpa [hd] using hsg)] at hR
          exact ⟨es, _, _, h4, F4, Q4, G4, P4, hR⟩
      refine bre (fun h1 => ?ca) (fun k1 => bre (fun h1 => ?cb) (fun k2 => bre (fun h1 => ?cc) (fun k3 => ?cd)))
      case ca => (
        cases hsk : skip l1 with
        | nil => rw [hsk] at h1; exact absurd h1 (by decide)
        | cons c r =>
          rw [hsk] at hR h4 h1
          obtain rfl : c = 63 := (by rw [← UInt8.toNat_inj]; show c.toNat = 63; simp only [hd] at h1; omega)
          dsimp only at hR
          rw [if_pos (by decide)] at hR
          refine began_calls h4 (fun hn w5 h5 f5 => ⟨rfl, ?_⟩) (fun hn at_ w5 f5 => ?_)
          rotate_left
          · rw [if_pos hn] at hR; exact hR _ _ (F4.trans f5)
          rw [if_neg (by omega)] at hR
          refine adv h5 hs fun w6 h6 f6 => ?_
          have P6 := f6.blk (f5.blk P4 hpne) hpne
          refine st_blk (g := pb) (i := 2) P6 (by simp) fun w7 hb7 f7 => ?_
          have G6 := f6.blk (f5.blk G4 hne) hne
          exact ⟨63, r, _, h6.keep f7 (Ne.symm hpne), ((F4.trans f5).trans f6).trans' f7 (fun b hb e => by omega), ((Q4.trans f5).trans f6).trans' f7 (fun b hb e => by omega), f7.blk G6 (Ne.symm hpne2), hb7, hR⟩)
      case cb => (
        cases hsk : skip l1 with
        | nil => rw [hsk] at h1; exact absurd h1 (by decide)
        | cons c r =>
          rw [hsk] at hR h4 h1
          obtain rfl : c = 42 := (by rw [← UInt8.toNat_inj]; show c.toNat = 42; simp only [hd] at h1; omega)
          dsimp only at hR
          rw [if_pos (by decide)] at hR
          refine began_calls h4 (fun hn w5 h5 f5 => ⟨rfl, ?_⟩) (fun hn at_ w5 f5 => ?_)
          rotate_left
          · rw [if_pos hn] at hR; exact hR _ _ (F4.trans f5)
          rw [if_neg (by omega)] at hR
          refine adv h5 hs fun w6 h6 f6 => ?_
          have P6 := f6.blk (f5.blk P4 hpne) hpne
          refine st_blk (g := pb) (i := 2) P6 (by simp) fun w7 hb7 f7 => ?_
          have G6 := f6.blk (f5.blk G4 hne) hne
          exact ⟨42, r, _, h6.keep f7 (Ne.symm hpne), ((F4.trans f5).trans f6).trans' f7 (fun b hb e => by omega), ((Q4.trans f5).trans f6).trans' f7 (fun b hb e => by omega), f7.blk G6 (Ne.symm hpne2), hb7, hR⟩)
      case cc => (
        cases hsk : skip l1 with
        | nil => rw [hsk] at h1; exact absurd h1 (by decide)
        | cons c r =>
          rw [hsk] at hR h4 h1
          obtain rfl : c = 43 := (by rw [← UInt8.toNat_inj]; show c.toNat = 43; simp only [hd] at h1; omega)
          dsimp only at hR
          rw [if_pos (by decide)] at hR
          refine began_calls h4 (fun hn w5 h5 f5 => ⟨rfl, ?_⟩) (fun hn at_ w5 f5 => ?_)
          rotate_left
          · rw [if_pos hn] at hR; exact hR _ _ (F4.trans f5)
          rw [if_neg (by omega)] at hR
          refine adv h5 hs fun w6 h6 f6 => ?_
          have P6 := f6.blk (f5.blk P4 hpne) hpne
          refine st_blk (g := pb) (i := 2) P6 (by simp) fun w7 hb7 f7 => ?_
          have G6 := f6.blk (f5.blk G4 hne) hne
          exact ⟨43, r, _, h6.keep f7 (Ne.symm hpne), ((F4.trans f5).trans f6).trans' f7 (fun b hb e => by omega), ((Q4.trans f5).trans f6).trans' f7 (fun b hb e => by omega), f7.blk G6 (Ne.symm hpne2), hb7, hR⟩)
      case cd =>
        refine rest ?_
        cases hsk : skip l1 with
        | nil => rfl
        | cons c r =>
          rw [hsk] at k1 k2 k3
          have c1 : c ≠ 63 := by rintro rfl; exact k1 rfl
          have c2 : c ≠ 42 := by rintro rfl; exact k2 rfl
          have c3 : c ≠ 43 := by rintro rfl; exact k3 rfl
          simp [isSign, hd, c1, c2, c3]
end
end Go.Proofs.Ytkmoeokfgkmlhaa
/- The document's models: brackets that say nothing; a part. -/
namespace Go.Mdl
theorem plain2_k {k s : Nat} {a : ByteArray} {rows : List (List RPart)} (h : k ≠ 40) : plain2 (.mk k s a rows) = .mk k s a rows := by
  unfold plain2
  dsimp only
  split
  · rw [if_pos h]
  · rfl
end Go.Mdl
namespace Go.Proofs.Ytkmoeokfgkmlhaa
open Go.RowKit Go.Vc Go.Mdl
set_option linter.unusedVariables false
set_option linter.unusedSimpArgs false
set_option maxRecDepth 100000
section
variable {w w1 : World} {R : Ending → World → Prop} {g n why : Nat} {s : ByteArray} {l r : List UInt8} {c : UInt8}
theorem plain_calls {B : Nat} {p : RPart} {e : E4} (h : QdP (above B w) p e) (hR : ∀ e' w', Below w.heap.size w w' → QdP (above B w') (plain2 p) e' → R (.returned (.agg #[.int .u8 (e'.k : Int), .int .u8 (e'.s : Int), .string e'.a, .slice e'.sl.1 e'.sl.2.1 e'.sl.2.2])) w') :
    Calls Try.prog 75 #[.agg #[.int .u8 (e.k : Int), .int .u8 (e.s : Int), .string e.a, .slice e.sl.1 e.sl.2.1 e.sl.2.2]] w R := by
  refine ok75 _ _ _ _ _ _ ?_
  unfold F75
  obtain ⟨k, sg, a, rows⟩ := p
  obtain ⟨ek, es, ea, sl⟩ := e
  have h0 := h
  simp only [QdP] at h
  obtain ⟨rfl, rfl, rfl, vs, q1, q2, q3⟩ := h
  refine al fun pb w1 hb1 hp hgep => ?_
  refine al fun g2 w2 hb2 hg2 hge2 => ?_
  have P2 := hp.keep hb2
  have F2 : Fm (fun _ => False) w w2 := (Fm.below hb1).tr hb2
  have hs1 := hb1.size
  have hs2 := hb2.size
  have hpl := hp.lt
  have hgl := hg2.lt
  have hpne : ¬ pb = g2 := by omega
  clear hp
  have keep : ∀ {w' : World} {p : RPart} {e : E4}, Fm (fun _ => False) w w' → QdP (above B w) p e → QdP (above B w') p e := fun hf hq => QdP.sub (above_fm hf (Nat.le_refl _) (fun _ _ h => h)) _ _ hq
  have fin : ∀ {w3 w' : World} {p' : RPart} {e' : E4}, Fm (fun _ => False) w w3 → Fm (· = g2) w3 w' → QdP (above B w) p' e' → plain2 (.mk ek es ea rows) = p' →
      R (.returned (.agg #[.int .u8 (e'.k : Int), .int .u8 (e'.s : Int), .string e'.a, .slice e'.sl.1 e'.sl.2.1 e'.sl.2.2])) w' := by
    rintro w3 w' p' e' f3 fw hq rfl
    have fT : Fm (fun _ => False) w w' := f3.trans' fw (fun b hb e => by omega)
    exact hR e' w' (fT.toBelow (Nat.le_refl _) fun _ _ h => h) (keep fT hq)
  have same : ∀ {w3 : World}, Fm (fun _ => False) w w3 → Blk w3 pb #[.int .u8 (ek : Int), .int .u8 (es : Int), .string ea, .slice sl.1 sl.2.1 sl.2.2] 75 → Blk w3 g2 #[.int .u8 0, .int .u8 0, .string (ByteArray.mk #[]), .slice none 0 0] 75 → plain2 (.mk ek es ea rows) = .mk ek es ea rows →
      LdI .u8 (w3.cell? ⟨pb, 0, none⟩) fun x0 => LdI .u8 (w3.cell? (Addr.add ⟨pb, 0, none⟩ 1)) fun x1 => LdStr (w3.cell? (Addr.add ⟨pb, 0, none⟩ 2)) fun x2 => LdSl (w3.cell? (Addr.add ⟨pb, 0, none⟩ 3)) fun x3 x3N x3C =>
      St w3 ⟨g2, 0, none⟩ (.int .u8 x0) fun w1 => St w1 (Addr.add ⟨g2, 0, none⟩ 1) (.int .u8 x1) fun w2 => St w2 (Addr.add ⟨g2, 0, none⟩ 2) (.string x2) fun w3 => St w3 (Addr.add ⟨g2, 0, none⟩ 3) (.slice x3 x3N x3C) fun w4 =>
      LdI .u8 (w4.cell? ⟨g2, 0, none⟩) fun k' => LdI .u8 (w4.cell? (Addr.add ⟨g2, 0, none⟩ 1)) fun s' => LdStr (w4.cell? (Addr.add ⟨g2, 0, none⟩ 2)) fun a' => LdSl (w4.cell? (Addr.add ⟨g2, 0, none⟩ 3)) fun p' n' c' =>
        R (.returned (.agg #[.int .u8 k', .int .u8 s', .string a', .slice p' n' c'])) w4 := by
    intro w3 f3 hP hG he
    refine ld4 hP ?_
    refine res4 hG rfl fun w' fw => ?_
    exact fin (e' := ⟨ek, es, ea, sl⟩) f3 fw h0 he
  have hsub2 : Sub (above B w) w2 := (above_fm F2 (Nat.le_refl _) (fun _ _ h => h)).trans sub_of_only
  have r2 := hsub2.rd q2
  have hvl := q3.len
  refine ⟨fun w3 => w3 = w2 ∧ ek = 40 ∧ ∃ p1, rows = [[p1]], ?_, ?_⟩
  rotate_left
  · refine lI (P2.cell 0) ?_
    refine brn (fun h40 => ?_) (fun h40 => ?_)
    · exact same F2 P2 hg2 (plain2_k fun e => h40 (by rw [e]; rfl))
    have h40' : ek = 40 := by have : (ek : Int) = 40 := h40; omega
    refine lSl (by rw [Addr.add_mk]; exact P2.cell 3) ?_
    refine brn (fun hone => ?_) (fun hone => ?_)
    · refine same F2 P2 hg2 (plain2_same fun k' s' a' rows' e => ?_)
      subst e
      rw [q1, hvl] at hone
      exact hone rfl
    rw [q1, hvl] at hone
    obtain ⟨r1, hr1⟩ := List.length_eq_one_iff.1 (by omega : rows.length = 1)
    subst hr1
    refine lSl (by rw [Addr.add_mk]; exact P2.cell 3) ?_
    obtain ⟨v1, rfl⟩ : ∃ v1, vs = [v1] := List.length_eq_one_iff.1 (by simpa using hvl)
    refine r2.idx q1 (by omega) (by rw [q1]; simp) rfl fun b o hc => ?_
    refine lSl (hc 0 _ rfl) ?_
    obtain ⟨es1, u1, u2, u3⟩ := q3.get 0 (by simp) (by simp)
    replace u1 : v1.2.1 = es1.length := u1
    replace u3 : QdR (above B w) r1 es1 := u3
    have hel := u3.len
    refine brn (fun hone1 => ?_) (fun hone1 => ?_)
    · refine same F2 P2 hg2 (plain2_same fun k' s' a' rows' e => ?_)
      simp only [List.cons.injEq, and_true] at e
      subst e
      refine hone1 ?_
      show ((v1.2.1 : Nat) : Int) = 1
      rw [u1, hel]; rfl
    replace hone1 : ((v1.2.1 : Nat) : Int) = 1 := by
      have : ¬ ((v1.2.1 : Nat) : Int) ≠ 1 := fun h => by exact absurd hone1 (by simpa using h)
      omega
    rw [u1, hel] at hone1
    obtain ⟨p1, hp1⟩ := List.length_eq_one_iff.1 (by omega : r1.length = 1)
    exact ⟨rfl, h40', p1, by rw [hp1]⟩
  rintro w3 ⟨rfl, rfl, ⟨p1, rfl⟩⟩
  unfold F75_j3
  refine lSl (by rw [Addr.add_mk]; exact P2.cell 3) ?_
  obtain ⟨v1, rfl⟩ : ∃ v1, vs = [v1] := List.length_eq_one_iff.1 (by simpa using hvl)
  refine r2.idx q1 (by omega) (by rw [q1]; simp) rfl fun b o hc => ?_
  refine lSl (hc 0 _ rfl) ?_
  obtain ⟨es1, u1, u2, u3⟩ := q3.get 0 (by simp) (by simp)
  replace u1 : v1.2.1 = es1.length := u1
  replace u3 : QdR (above B w) [p1] es1 := u3
  have u2 : Rd LE4 w3 v1.1 v1.2.2 es1 := hsub2.rd u2
  have hel := u3.len
  obtain ⟨e1, rfl⟩ : ∃ e1, es1 = [e1] := List.length_eq_one_iff.1 (by simpa using hel)
  refine u2.idx u1 (by omega) (by show (0 : Int) < (v1.2.1 : Int); rw [u1]; simp) rfl fun b2 o2 hc2 => ?_
  have t0 := hc2 0 _ rfl
  have t1 := hc2 1 _ rfl
  have t2 := hc2 2 _ rfl
  have t3 := hc2 3 _ rfl
  refine lI t0 (lI (by rw [Addr.add_mk]; exact t1) (lS (by rw [Addr.add_mk]; exact t2) (lSl (by rw [Addr.add_mk]; exact t3) ?_)))
  obtain ⟨k', s', a', rows'⟩ := p1
  have hq1 := u3.get 0 (by simp) (by simp)
  obtain ⟨e1k, e1s, e1a, e1sl⟩ := e1
  have hq1' := hq1
  simp only [List.getElem_cons_zero, QdP] at hq1
  obtain ⟨rfl, rfl, rfl, hq1⟩ := hq1
  simp only [List.getElem_cons_zero] at hq1'
  refine al4 fun q w4 hb4 hq hgeq => ?_
  have F4 := F2.tr hb4
  have P4 := P2.keep hb4
  have G4 := hg2.keep hb4
  have hqg : ¬ q = g2 := by omega
  have hqp : ¬ q = pb := by have := P2.lt; omega
  have hpl2 : plain2 (.mk 40 es ea [[.mk e1k e1s e1a rows']]) = if es = 0 then .mk e1k e1s e1a rows' else if e1s = 0 then .mk e1k es e1a rows' else .mk 40 es ea [[.mk e1k e1s e1a rows']] := by
    unfold plain2; dsimp only; rw [if_neg (fun h => h rfl)]
  refine lI (by rw [Addr.add_mk]; exact P4.cell 1) ?_
  refine bre (fun hz => ?_) (fun hz => ?_)
  · have : es = 0 := by have : (es : Int) = 0 := hz; omega
    rw [if_pos this] at hpl2
    refine ld4 hq ?_
    refine res4 G4 rfl fun w' fw => ?_
    exact fin (e' := ⟨e1k, e1s, e1a, e1sl⟩) F4 fw hq1' hpl2
  have hz' : es ≠ 0 := by rintro rfl; exact hz rfl
  rw [if_neg hz'] at hpl2
  refine lI (by rw [Addr.add_mk]; exact hq.cell 1) ?_
  refine bre (fun hz1 => ?_) (fun hz1 => ?_)
  · have : e1s = 0 := by have : (e1s : Int) = 0 := hz1; omega
    rw [if_pos this] at hpl2
    refine lI (by rw [Addr.add_mk]; exact P4.cell 1) ?_
    rw [Addr.add_mk]
    refine st_blk (g := q) (i := 1) hq (by simp) fun w5 hb5 f5 => ?_
    have hs4 := F4.size
    have hs24 := hb4.size
    have F5 := F4.trans' f5 (fun b hb e => by omega)
    refine ld4 hb5 ?_
    refine res4 (f5.blk G4 (Ne.symm hqg)) rfl fun w' fw => ?_
    refine fin (e' := ⟨e1k, es, e1a, e1sl⟩) F5 fw ?_ hpl2
    simp only [QdP]
    exact ⟨trivial, trivial, trivial, hq1⟩
  · have hz1' : e1s ≠ 0 := by rintro rfl; exact hz1 rfl
    rw [if_neg hz1'] at hpl2
    refine same F4 P4 G4 ?_
    rw [hpl2]
theorem fpart_calls {f : Nat} (hch : CF f) (h : FRt w g s l n 0) (hs : s.size ≤ 1024) (hl : l.length ≤ f) (hR : EndsF R g s w retP4 qP (Mdl.part (choices f) l n)) :
    Calls Try.prog 52 #[.pointer (some ⟨g, 0, none⟩)] w R := by
  refine ok52 _ ?_
  unfold F52
  refine al fun g2 w1 hb1 hg2 hge2 => ?_
  have h1 := h.below hb1
  have hgl := h.lt
  have hne : ¬ (g2 = g) := by omega
  have F1 : Fm (· = g) w w1 := .below hb1
  refine fatom_calls hch h1 hs hl ?_
  rintro w2 _ y l1 n1 why h2 f2 ⟨⟨ek, es, ea, sl⟩, rfl, hrd⟩ hsays
  obtain ⟨k, sg, a, rows⟩ := y
  simp only [QdP] at hrd
  obtain ⟨rfl, rfl, rfl, hrd⟩ := hrd
  replace hrd : QdC (above w1.heap.size w2) rows sl := hrd
  refine ⟨_, _, _, _, _, _, rfl, ?_⟩
  have F2 := F1.trans f2
  have G2 := f2.blk hg2 hne
  have hg2lt := hg2.lt
  have hsz2 : w1.heap.size ≤ w2.heap.size := f2.size
  have hsz1 : w.heap.size ≤ w1.heap.size := hb1.size
  have hg2' := h2.lt
  refine al4 fun pb w3 hb3 hp hgep => ?_
  have hpne : ¬ (pb = g) := by omega
  have hpne2 : ¬ (pb = g2) := by have := G2.lt; omega
  have h3 := h2.below hb3
  have F3 := F2.tr hb3
  have G3 := G2.keep hb3
  have Q3 : Fm (· = g) w2 w3 := .below hb3
  clear h1 f2 hg2 hb1 h2 hb3 G2 F2 F1
  -- what is handed back
  have ret : ∀ {w4 : World} {sg : Nat} {l' : List UInt8} {n' why : Nat}, FRt w4 g s l' n' why → Fm (· = g) w w4 → Fm (· = g) w2 w4 → Blk w4 g2 #[.int .u8 0, .int .u8 0, .string (ByteArray.mk #[]), .slice none 0 0] 75 → Blk w4 pb #[.int .u8 (ek : Int), .int .u8 (sg : Int), .string ea, .slice sl.1 sl.2.1 sl.2.2] 75 →
      Says qP (Mdl.part (choices f) l n) (plain2 (.mk ek sg ea rows)) l' n' why →
      LdI .u8 (w4.cell? ⟨pb, 0, none⟩) fun x0 => LdI .u8 (w4.cell? (Addr.add ⟨pb, 0, none⟩ 1)) fun x1 => LdStr (w4.cell? (Addr.add ⟨pb, 0, none⟩ 2)) fun x2 => LdSl (w4.cell? (Addr.add ⟨pb, 0, none⟩ 3)) fun x3 x3N x3C =>
      Calls Try.prog 75 #[.agg #[.int .u8 x0, .int .u8 x1, .string x2, .slice x3 x3N x3C]] w4 (post R fun v3 w1_10 =>
        ∃ (x39_0 : Int) (x39_1 : Int) (x39_2 : ByteArray) (x39_3 : Option Addr) (x39_3N : Nat) (x39_3C : Nat), v3 = (.agg #[(.int .u8 x39_0), (.int .u8 x39_1), (.string x39_2), (.slice x39_3 x39_3N x39_3C)]) ∧
        St w1_10 ⟨g2, 0, none⟩ (.int .u8 x39_0) fun w1 => St w1 (Addr.add ⟨g2, 0, none⟩ 1) (.int .u8 x39_1) fun w2 => St w2 (Addr.add ⟨g2, 0, none⟩ 2) (.string x39_2) fun w3 => St w3 (Addr.add ⟨g2, 0, none⟩ 3) (.slice x39_3 x39_3N x39_3C) fun w4 =>
        LdI .u8 (w4.cell? ⟨g2, 0, none⟩) fun k' => LdI .u8 (w4.cell? (Addr.add ⟨g2, 0, none⟩ 1)) fun s' => LdStr (w4.cell? (Addr.add ⟨g2, 0, none⟩ 2)) fun a' => LdSl (w4.cell? (Addr.add ⟨g2, 0, none⟩ 3)) fun p' n' c' =>
        R (.returned (.agg #[.int .u8 k', .int .u8 s', .string a', .slice p' n' c'])) w4) := by
    intro w4 sg l' n' why h4 F4 Q4 G4 P4 hS
    refine ld4 P4 ?_
    have a1 : Sub (above w1.heap.size w2) (above w1.heap.size w4) := above_fm Q4 (Nat.le_refl _) (fun b hb e => by omega)
    have hq : QdP (above w1.heap.size w4) (.mk ek sg ea rows) ⟨ek, sg, ea, sl⟩ := by
      simp only [QdP]
      obtain ⟨vs, q1, q2, q3⟩ := QdC.sub a1 hrd
      exact ⟨trivial, trivial, trivial, vs, q1, q2, q3⟩
    refine plain_calls (e := ⟨ek, sg, ea, sl⟩) hq ?_
    rintro ⟨e0, e1, e2, e3⟩ w5 hb5 hq5
    refine ⟨(e0 : Int), (e1 : Int), e2, e3.1, e3.2.1, e3.2.2, rfl, ?_⟩
    have h5 := h4.below hb5
    refine res4 (G4.keep hb5) rfl fun w' fw => ?_
    have a2 : Sub (above w1.heap.size w5) (above w.heap.size w') := above_fm fw hsz1 (fun b hb e => by omega)
    exact hR w' _ _ l' n' why (h5.keep fw (Ne.symm hne)) ((F4.tr hb5).trans' fw (fun b hb e => by omega)) ⟨⟨e0, e1, e2, e3⟩, rfl, QdP.sub a2 _ _ hq5⟩ hS
  clear hR
  refine fpeek_calls h3 hs fun w4 h4 f4 => ⟨_, rfl, ?_⟩
  have F4 := F3.trans f4
  have Q4 := Q3.trans f4
  have G4 := f4.blk G3 hne
  have P4 := f4.blk hp hpne
  clear h3 F3 Q3 G3 hp f4
  refine ⟨fun w5 => w5 = w5 ∧ why = 0 ∧ (∃ c r, skip l1 = c :: r ∧ isSign c = true) ∧ FRt w5 g s (skip l1) n1 why ∧ Fm (· = g) w w5 ∧ Fm (· = g) w2 w5 ∧ Blk w5 g2 #[.int .u8 0, .int .u8 0, .string (ByteArray.mk #[]), .slice none 0 0] 75 ∧ Blk w5 pb #[.int .u8 (ek : Int), .int .u8 (es : Int), .string ea, .slice sl.1 sl.2.1 sl.2.2] 75, ?_, ?_⟩
  · rintro w5 ⟨-, rfl, ⟨c, r, hsk, hsg⟩, h5, F5, Q5, G5, P5⟩
    unfold F52_j5
    rw [hsk] at h5 ⊢
    refine begin_calls h5 fun w6 why6 h6 f6 hw => ⟨rfl, ?_⟩
    refine fadv h6 hs fun w7 h7 f7 => ?_
    have F7 := (F5.trans f6).trans f7
    have Q7 := (Q5.trans f6).trans f7
    have G7 := f7.blk (f6.blk G5 hne) hne
    have P7 := f7.blk (f6.blk P5 hpne) hpne
    rw [Addr.add_mk]
    refine st_blk (g := pb) (i := 0 + 1) P7 (by simp) fun w8 hb8 f8 => ?_
    have hs7 := F7.size
    have hs27 := Q7.size
    refine ret (sg := c.toNat) (h7.keep f8 (Ne.symm hpne)) (F7.trans' f8 (fun b hb e => by omega)) (Q7.trans' f8 (fun b hb e => by omega)) (f8.blk G7 (Ne.symm hpne2)) hb8 ?_
    cases ha : Mdl.atom (choices f) l n with
    | error e => rw [ha] at hsays; exact absurd rfl hsays
    | ok x =>
      obtain ⟨⟨a, rows', s0⟩, l2, n2⟩ := x
      rw [ha] at hsays
      obtain ⟨hy, rfl, rfl, -⟩ := hsays
      have hpt : Mdl.part (choices f) l n = if maxParts < n1 + 1 then .error ((c :: r).length, eLong) else .ok (plain (signed c.toNat (.mk a rows' s0)), r, n1 + 1) := by
        unfold Mdl.part; rw [ha]; dsimp only; rw [hsk]; dsimp only; rw [if_pos hsg]
      rw [hpt]
      by_cases hmx : maxParts < n1 + 1
      · rw [if_pos hmx]; exact fun e => by have := hw.1 e; omega
      · rw [if_neg hmx]
        refine ⟨?_, rfl, rfl, hw.2 (by omega)⟩
        rw [← plain2_q]
        simp only [qP] at hy
        cases hy
        rfl
  · refine dr fun w5 hb5 _ => ?_
    have h5 := h4.below hb5
    have F5 := F4.tr hb5
    have Q5 := Q4.tr hb5
    have G5 := G4.keep hb5
    have P5 := P4.keep hb5
    refine fldW h5 ?_
    refine brn (fun hwhy => ?_) (fun hwhy => ?_)
    · have hw0 : why ≠ 0 := fun e => hwhy (by rw [e]; rfl)
      refine ret h5 F5 Q5 G5 P5 ?_
      unfold Mdl.part
      cases ha : Mdl.atom (choices f) l n with
      | error e => exact hw0
      | ok x => rw [ha] at hsays; exact absurd hsays.2.2.2 hw0
    obtain rfl : why = 0 := by omega
    cases ha : Mdl.atom (choices f) l n with
    | error e => rw [ha] at hsays; exact absurd rfl hsays
    | ok x =>
      obtain ⟨x, l2, n2⟩ := x
      rw [ha] at hsays
      obtain ⟨hy, rfl, rfl, -⟩ := hsays
      refine fldA h5 (fldS h5 ?_)
      cases hsk : skip l1 with
      | nil =>
        rw [hsk] at h5
        rw [h5.size0, Br_t]
        refine ret h5 F5 Q5 G5 P5 ?_
        have hpt : Mdl.part (choices f) l n = .ok (plain x, [], n1) := by
          unfold Mdl.part; rw [ha]; dsimp only; rw [hsk]
        rw [hpt, hy, plain2_q]
        exact ⟨rfl, rfl, rfl, rfl⟩
      | cons c r =>
        rw [hsk] at h5
        rw [h5.size1, Br_f]
        have hx : ((hd (c :: r) : Nat) : Int) = (c.toNat : Int) := rfl
        rw [hx]
        have yes : isSign c = true → (w5 = w5 ∧ (0 : Nat) = 0 ∧ (∃ c' r', c :: r = c' :: r' ∧ isSign c' = true) ∧ FRt w5 g s (c :: r) n1 0 ∧ Fm (· = g) w w5 ∧ Fm (· = g) w2 w5 ∧ Blk w5 g2 #[.int .u8 0, .int .u8 0, .string (ByteArray.mk #[]), .slice none 0 0] 75 ∧ Blk w5 pb #[.int .u8 (ek : Int), .int .u8 (es : Int), .string ea, .slice sl.1 sl.2.1 sl.2.2] 75) := fun hsg =>
          ⟨rfl, rfl, ⟨c, r, rfl, hsg⟩, h5, F5, Q5, G5, P5⟩
        have cc : ∀ k : UInt8, (c.toNat : Int) = (k.toNat : Int) → c = k := fun k h => by rw [← UInt8.toNat_inj]; omega
        refine brn (fun k1 => ?_) (fun k1 => yes (by rw [cc 63 k1]; decide))
        refine brn (fun k2 => ?_) (fun k2 => yes (by rw [cc 42 k2]; decide))
        refine brn (fun k3 => ?_) (fun k3 => yes (by rw [cc 43 k3]; decide))
        have hsg : isSign c = false := by
          have c1 : c ≠ 63 := by rintro rfl; exact k1 rfl
          have c2 : c ≠ 42 := by rintro rfl; exact k2 rfl
          have c3 : c ≠ 43 := by rintro rfl; exact k3 rfl
          simp [isSign, c1, c2, c3]
        refine ret h5 F5 Q5 G5 P5 ?_
        have hpt : Mdl.part (choices f) l n = .ok (plain x, c :: r, n1) := by
          unfold Mdl.part; rw [ha]; dsimp only; rw [hsk]; dsimp only; rw [if_neg (by rw [hsg]; decide)]
        rw [hpt, hy, plain2_q]
        exact ⟨rfl, rfl, rfl, rfl⟩
end
end Go.Proofs.Ytkmoeokfgkmlhaa
/- Models in plain: the lists of places are short: each place once. -/
namespace Go.Mdl
set_option linter.unusedVariables false
set_option linter.unusedSimpArgs false
/-- Each once, all below n. -/
def Few (n : Nat) (l : List Nat) : Prop := l.Nodup ∧ ∀ x ∈ l, x < n
theorem Few.nil (n : Nat) : Few n [] := ⟨by simp, by simp⟩
theorem Few.mono {n m : Nat} {l : List Nat} (h : Few n l) (hm : n ≤ m) : Few m l := ⟨h.1, fun x hx => Nat.lt_of_lt_of_le (h.2 x hx) hm⟩
theorem Few.len : ∀ {n : Nat} {l : List Nat}, Few n l → l.length ≤ n
  | 0, l, h => by
    cases l with
    | nil => simp
    | cons x l => have := h.2 x (by simp); omega
  | n + 1, l, h => by
    have h1 : Few n (l.erase n) := by
      refine ⟨h.1.erase n, fun x hx => ?_⟩
      have h2 := (h.1.mem_erase_iff).1 hx
      have := h.2 x h2.2
      have := h2.1
      omega
    have := h1.len
    by_cases hm : n ∈ l
    · rw [List.length_erase_of_mem hm] at this; omega
    · rw [List.erase_of_not_mem hm] at this; omega
theorem Few.join1 {n x : Nat} {l : List Nat} (h : Few n l) (hx : x < n) : Few n (join1 l x) := by
  unfold Mdl.join1
  split
  · exact h
  · rename_i hc
    have hc : x ∉ l := fun hm => hc (List.contains_iff_mem.2 hm)
    refine ⟨?_, fun y hy => ?_⟩
    · rw [List.nodup_append]
      refine ⟨h.1, by simp, ?_⟩
      intro a ha b hb e
      simp at hb
      subst hb e
      exact hc ha
    · rcases List.mem_append.1 hy with hy | hy
      · exact h.2 y hy
      · simp at hy; omega
theorem Few.joined {n : Nat} : ∀ {b a : List Nat}, Few n a → (∀ x ∈ b, x < n) → Few n (joined a b)
  | [], a, h, _ => h
  | x :: b, a, h, hb => by
    have : Mdl.joined a (x :: b) = Mdl.joined (Mdl.join1 a x) b := rfl
    rw [this]
    exact Few.joined (h.join1 (hb x (by simp))) fun y hy => hb y (by simp [hy])
def GI (g : GS) : Prop := g.1.length = g.2.length ∧ ∀ l ∈ g.2, Few g.1.length l
theorem GI.get {g : GS} (h : GI g) (i : Nat) : Few g.1.length (g.2.getD i []) := by
  rw [List.getD_eq_getElem?_getD]
  cases hi : g.2[i]? with
  | none => exact Few.nil _
  | some l => exact h.2 l (List.mem_of_getElem? hi)
theorem GI.behind1 {g : GS} (h : GI g) {first : List Nat} (hf : ∀ x ∈ first, x < g.1.length) (i : Nat) : GI (g.1, behind1 first g.2 i) := by
  refine ⟨by simp [Mdl.behind1, h.1], fun l hl => ?_⟩
  unfold Mdl.behind1 at hl
  rcases List.mem_or_eq_of_mem_set hl with hl | rfl
  · exact h.2 l hl
  · exact (h.get i).joined hf
theorem GI.behind {first : List Nat} : ∀ {last : List Nat} {g : GS}, GI g → (∀ x ∈ first, x < g.1.length) → GI (g.1, behind g.2 last first)
  | [], g, h, _ => h
  | i :: last, g, h, hf => by
    have := GI.behind (first := first) (last := last) (h.behind1 hf i) hf
    exact this
theorem behind_take (f : List (List Nat)) (first last : List Nat) (k : Nat) (hk : k < last.length) : behind f (last.take (k + 1)) first = behind1 first (behind f (last.take k) first) last[k] := by
  unfold behind
  rw [List.take_add_one, List.getElem?_eq_getElem hk, Option.toList_some, List.foldl_append]; rfl
theorem behind1_at (first : List Nat) (f : List (List Nat)) (i : Nat) (hi : i < f.length) : behind1 first f i = f.set i (joined f[i] first) := by
  unfold behind1
  rw [List.getD_eq_getElem?_getD, List.getElem?_eq_getElem hi]; rfl
def PI (n : Nat) (p : Pc) : Prop := Few n p.first ∧ Few n p.last
theorem PI.mono {n m : Nat} {p : Pc} (h : PI n p) (hm : n ≤ m) : PI m p := ⟨h.1.mono hm, h.2.mono hm⟩
/-- A state that goes on: no shorter, at most c atoms more. -/
def GE (g g' : GS) (c : Nat) : Prop := GI g' ∧ g.1.length ≤ g'.1.length ∧ g'.1.length ≤ g.1.length + c
theorem cP_pos : ∀ p : Part, 0 < cP p
  | .mk a rows s => by simp only [cP]; omega
def sR : List Part → Nat
  | [] => 0
  | p :: ps => cP p + sR ps
def sC : List (List Part) → Nat
  | [] => 0
  | r :: rs => sR r + sC rs
theorem sR_t : ∀ l : List Part, sR l ≤ cRt l
  | [] => by simp [sR]
  | p :: ps => by have := sR_t ps; simp only [sR, cRt]; omega
theorem sR_le : ∀ l : List Part, sR l ≤ cR l
  | [] => by simp [sR]
  | p :: ps => by have := sR_t ps; simp only [sR, cR]; omega
theorem sC_t : ∀ l : List (List Part), sC l ≤ cCt l
  | [] => by simp [sC]
  | p :: ps => by have := sC_t ps; have := sR_le p; simp only [sC, cCt]; omega
theorem sC_le : ∀ l : List (List Part), sC l ≤ cC l
  | [] => by simp [sC]
  | p :: ps => by have := sC_t ps; have := sR_le p; simp only [sC, cC]; omega
theorem mem_sR {p : Part} : ∀ {l : List Part}, p ∈ l → cP p ≤ sR l
  | q :: l, h => by
    simp only [sR]
    rcases List.mem_cons.1 h with rfl | h
    · omega
    · have := mem_sR h; omega
theorem mem_sC {r : List Part} : ∀ {l : List (List Part)}, r ∈ l → sR r ≤ sC l
  | q :: l, h => by
    simp only [sC]
    rcases List.mem_cons.1 h with rfl | h
    · omega
    · have := mem_sC h; omega
mutual
theorem gi_P : ∀ (p : Part) (g : GS), GI g → GE g (uP p g).2 (cP p) ∧ PI (uP p g).2.1.length (uP p g).1
  | .mk a rows s, g, h => by
    have key : ∃ r : Pc × GS, r = (if a = Br then uC rows g ⟨[], [], false⟩ else if a = Mi then (⟨[], [], true⟩, g) else (⟨[g.1.length], [g.1.length], false⟩, (g.1 ++ [a], g.2 ++ [[]]))) ∧
        GE g r.2 (1 + if a = Br then cC rows else 0) ∧ PI r.2.1.length r.1 := by
      refine ⟨_, rfl, ?_⟩
      by_cases h1 : a = Br
      · rw [if_pos h1, if_pos h1]
        have := gi_C rows g ⟨[], [], false⟩ h ⟨Few.nil _, Few.nil _⟩
        exact ⟨⟨this.1.1, this.1.2.1, by have := this.1.2.2; have := sC_le rows; omega⟩, this.2⟩
      · rw [if_neg h1, if_neg h1]
        by_cases h2 : a = Mi
        · rw [if_pos h2]
          exact ⟨⟨h, by simp, by simp⟩, Few.nil _, Few.nil _⟩
        · rw [if_neg h2]
          refine ⟨⟨⟨by simp [h.1], fun l hl => ?_⟩, by simp, by simp⟩, ⟨by simp, by simp⟩, ⟨by simp, by simp⟩⟩
          rcases List.mem_append.1 hl with hl | hl
          · exact (h.2 l hl).mono (by simp)
          · simp at hl; subst hl; exact Few.nil _
    obtain ⟨r, hr, ⟨k1, k2, k3⟩, k4⟩ := key
    simp only [uP, cP]
    rw [← hr]
    clear hr
    have hb := GI.behind (first := r.1.first) (last := r.1.last) k1 k4.1.2
    by_cases hs : s = 42 ∨ s = 43
    · rw [if_pos hs]
      exact ⟨⟨hb, k2, by dsimp only; omega⟩, k4⟩
    · rw [if_neg hs]
      exact ⟨⟨k1, k2, by dsimp only; omega⟩, k4⟩
theorem gi_R : ∀ (xs : List Part) (g : GS) (all : Pc), GI g → PI g.1.length all → GE g (uR xs g all).2 (sR xs) ∧ PI (uR xs g all).2.1.length (uR xs g all).1
  | [], g, all, h, ha => by simp only [uR, sR]; exact ⟨⟨h, by omega, by omega⟩, ha⟩
  | x :: xs, g, all, h, ha => by
    simp only [uR, sR]
    obtain ⟨⟨k1, k2, k3⟩, k4⟩ := gi_P x g h
    generalize uP x g = r at k1 k2 k3 k4 ⊢
    have ha' := ha.mono k2
    have hb := GI.behind (first := r.1.first) (last := all.last) k1 k4.1.2
    have := gi_R xs (r.2.1, behind r.2.2 all.last r.1.first)
      ⟨if all.empty then joined all.first r.1.first else all.first, if r.1.empty then joined all.last r.1.last else r.1.last, all.empty && r.1.empty⟩ hb (by
        refine ⟨?_, ?_⟩
        · dsimp only
          split
          · exact ha'.1.joined k4.1.2
          · exact ha'.1
        · dsimp only
          split
          · exact ha'.2.joined k4.2.2
          · exact k4.2)
    exact ⟨⟨this.1.1, Nat.le_trans k2 this.1.2.1, by have := this.1.2.2; dsimp only at this; omega⟩, this.2⟩
theorem gi_C : ∀ (xs : List (List Part)) (g : GS) (all : Pc), GI g → PI g.1.length all → GE g (uC xs g all).2 (sC xs) ∧ PI (uC xs g all).2.1.length (uC xs g all).1
  | [], g, all, h, ha => by simp only [uC, sC]; exact ⟨⟨h, by omega, by omega⟩, ha⟩
  | x :: xs, g, all, h, ha => by
    simp only [uC, sC]
    obtain ⟨⟨k1, k2, k3⟩, k4⟩ := gi_R x g ⟨[], [], true⟩ h ⟨Few.nil _, Few.nil _⟩
    generalize uR x g ⟨[], [], true⟩ = r at k1 k2 k3 k4 ⊢
    have ha' := ha.mono k2
    have := gi_C xs r.2 ⟨joined all.first r.1.first, joined all.last r.1.last, all.empty || r.1.empty⟩ k1 ⟨ha'.1.joined k4.1.2, ha'.2.joined k4.2.2⟩
    exact ⟨⟨this.1.1, Nat.le_trans k2 this.1.2.1, by have := this.1.2.2; omega⟩, this.2⟩
end
/-- An atom's step. -/
def uA (a : ByteArray) (rows : List (List Part)) (g : GS) : Pc × GS :=
  if a = Br then uC rows g ⟨[], [], false⟩ else if a = Mi then (⟨[], [], true⟩, g) else (⟨[g.1.length], [g.1.length], false⟩, (g.1 ++ [a], g.2 ++ [[]]))
theorem uP_eq (a : ByteArray) (rows : List (List Part)) (s : Nat) (g : GS) : uP (.mk a rows s) g =
    (⟨(uA a rows g).1.first, (uA a rows g).1.last, (uA a rows g).1.empty || (s == 42 || s == 63)⟩, ((uA a rows g).2.1, if s = 42 ∨ s = 43 then behind (uA a rows g).2.2 (uA a rows g).1.last (uA a rows g).1.first else (uA a rows g).2.2)) := by
  rw [uP]; rfl
theorem gi_A (a : ByteArray) (rows : List (List Part)) (s : Nat) (g : GS) (h : GI g) : GE g (uA a rows g).2 (cP (.mk a rows s)) ∧ PI (uA a rows g).2.1.length (uA a rows g).1 := by
  unfold uA
  simp only [cP]
  by_cases h1 : a = Br
  · rw [if_pos h1, if_pos h1]
    have := gi_C rows g ⟨[], [], false⟩ h ⟨Few.nil _, Few.nil _⟩
    exact ⟨⟨this.1.1, this.1.2.1, by have := this.1.2.2; have := sC_le rows; omega⟩, this.2⟩
  · rw [if_neg h1, if_neg h1]
    by_cases h2 : a = Mi
    · rw [if_pos h2]
      exact ⟨⟨h, by simp, by simp⟩, Few.nil _, Few.nil _⟩
    · rw [if_neg h2]
      refine ⟨⟨⟨by simp [h.1], fun l hl => ?_⟩, by simp, by simp⟩, ⟨by simp, by simp⟩, ⟨by simp, by simp⟩⟩
      rcases List.mem_append.1 hl with hl | hl
      · exact (h.2 l hl).mono (by simp)
      · simp at hl; subst hl; exact Few.nil _
end Go.Mdl
/- Models: the reader reads a row, and choices. -/
namespace Go.Mdl
def pre {α : Type} (ps : List α) : Res (List α) → Res (List α)
  | .error e => .error e
  | .ok (qs, l, n) => .ok (ps ++ qs, l, n)
/-- What comes behind a part of a row. -/
def rowT (ch : List UInt8 → Nat → Res (List (List Part))) (f : Nat) (l : List UInt8) (n : Nat) : Res (List Part) :=
  match skip l with
  | [] => .ok ([], [], n)
  | c :: r => if c = 44 then (if maxParts < n + 1 then .error ((c :: r).length, eLong) else row ch f r (n + 1)) else .ok ([], c :: r, n)
theorem row_succ (ch : List UInt8 → Nat → Res (List (List Part))) (f : Nat) (l : List UInt8) (n : Nat) : row ch (f + 1) l n = match part ch l n with
    | .error e => .error e
    | .ok (p, l1, n1) => pre [p] (rowT ch f l1 n1) := by
  rw [row]
  cases part ch l n with
  | error e => rfl
  | ok x =>
    obtain ⟨p, l1, n1⟩ := x
    simp only [rowT]
    cases skip l1 with
    | nil => rfl
    | cons c r =>
      dsimp only
      by_cases h : c = 44
      · rw [if_pos h, if_pos h]
        by_cases h2 : maxParts < n1 + 1
        · rw [if_pos h2, if_pos h2]; rfl
        · rw [if_neg h2, if_neg h2]
          cases row ch f r (n1 + 1) with
          | error e => rfl
          | ok y => rfl
      · rw [if_neg h, if_neg h]; rfl
def rowsT (rw_ : List UInt8 → Nat → Res (List Part)) (f : Nat) (l : List UInt8) (n : Nat) : Res (List (List Part)) :=
  match skip l with
  | [] => .ok ([], [], n)
  | c :: r => if c = 124 then (if maxParts < n + 1 then .error ((c :: r).length, eLong) else rowsL rw_ f r (n + 1)) else .ok ([], c :: r, n)
theorem rows_succ (rw_ : List UInt8 → Nat → Res (List Part)) (f : Nat) (l : List UInt8) (n : Nat) : rowsL rw_ (f + 1) l n = match rw_ l n with
    | .error e => .error e
    | .ok (p, l1, n1) => pre [p] (rowsT rw_ f l1 n1) := by
  rw [rowsL]
  cases rw_ l n with
  | error e => rfl
  | ok x =>
    obtain ⟨p, l1, n1⟩ := x
    simp only [rowsT]
    cases skip l1 with
    | nil => rfl
    | cons c r =>
      dsimp only
      by_cases h : c = 124
      · rw [if_pos h, if_pos h]
        by_cases h2 : maxParts < n1 + 1
        · rw [if_pos h2, if_pos h2]; rfl
        · rw [if_neg h2, if_neg h2]
          cases rowsL rw_ f r (n1 + 1) with
          | error e => rfl
          | ok y => rfl
      · rw [if_neg h, if_neg h]; rfl
theorem pre_pre {α : Type} (a b : List α) (r : Res (List α)) : pre a (pre b r) = pre (a ++ b) r := by
  cases r with
  | error e => rfl
  | ok x => simp [pre]
theorem tP_pos (p : Part) (h : okP p) : 0 < (tP p).length := by
  obtain ⟨a, rows, s⟩ := p
  have := h.1
  simp only [vP] at this
  rcases this.2 with ⟨rfl, _⟩ | ⟨ha, _⟩
  · simp [tP]
  · simp only [tP, if_neg (br_ne ha)]
    rcases ha with ⟨c, r, h1, _⟩ | rfl | rfl | rfl
    · rw [h1]; simp
    all_goals simp [Dl, Dt, Mi]
theorem tR_pos (r : List Part) (h : okR r) : 0 < (tR r).length := by
  cases r with
  | nil => exact absurd rfl h.1
  | cons p ps =>
    have h1 := h.2.1
    have h2 := h.2.2
    simp only [vR] at h1
    simp only [gR] at h2
    have := tP_pos p ⟨h1.1, h2.1⟩
    simp only [tR, List.length_append]; omega
theorem cR_pos (r : List Part) (h : r ≠ []) : 0 < cR r := by
  cases r with
  | nil => exact absurd rfl h
  | cons p ps => have := cP_pos p; simp only [cR]; omega
end Go.Mdl
namespace Go.Proofs.Ytkmoeokfgkmlhaa
open Go.RowKit Go.Vc Go.Mdl
set_option linter.unusedVariables false
set_option linter.unusedSimpArgs false
set_option maxRecDepth 100000
section
variable {w w1 : World} {R : Ending → World → Prop} {g n : Nat} {s : ByteArray} {l r : List UInt8} {c : UInt8}
/-- How many bytes are left, as the reader's cell tells. -/
def left (s : ByteArray) (g : Nat) (w : World) : Nat := match w.cell? ⟨g, 1, none⟩ with | some (.int _ k) => s.size - k.toNat | _ => 0
theorem RAt.left (h : RAt w g s l n) : left s g w = l.length := by
  unfold Ytkmoeokfgkmlhaa.left
  rw [h.blk.cell]
  have := h.len
  simp; omega
theorem row_calls {f : Nat} (hch : CC f) (h : RAt w g s l n) (hs : s.size ≤ 1024) (hl : l.length ≤ f) {f1 : Nat} (hf1 : l.length < f1) (hR : Ends R g s w retR (Mdl.row (choices f) f1 l n)) :
    Calls Try.prog 33 #[.pointer (some ⟨g, 0, none⟩)] w R := by
  refine ok33 _ ?_
  unfold F33
  have hgl := h.blk.lt
  obtain ⟨f1, rfl⟩ : ∃ f', f1 = f' + 1 := ⟨f1 - 1, by omega⟩
  rw [row_succ] at hR
  refine part_calls hch h hs hl ?_
  cases hp : Mdl.part (choices f) l n with
  | error e =>
    obtain ⟨pos, e⟩ := e
    rw [hp] at hR
    exact fun at_ w' f' => hR at_ w' f'
  | ok x =>
    obtain ⟨p, l1, n1⟩ := x
    rw [hp] at hR
    dsimp only at hR
    obtain ⟨ok1, le1, co1, mx1⟩ := sound_part (sound f) l n _ _ _ hp h.nle
    have tp1 := tP_pos p ok1
    have cp1 := cP_pos p
    rintro w1 _ h1 F1 ⟨e, rfl, hrd⟩
    refine ⟨_, _, _, _, _, rfl, ?_⟩
    refine al fun g6 w2 hb2 hg6 hge6 => ?_
    have h2 := h1.below hb2
    have F2 := F1.tr hb2
    have B2 : Bld KP w.heap.size 96 w2 (.slice (some ⟨g6, 0, none⟩) 1 1) [p] := Bld.one (N := KP) hg6 rfl hb2 hge6 F1.size hrd
    refine ⟨fun A m c w' => ∃ (ps : List Part) (l' : List UInt8) (n' f' : Nat), Bld KP w.heap.size 96 w' (.slice A m c) ps ∧ RAt w' g s l' n' ∧ Fm (· = g) w w' ∧ l'.length ≤ f ∧ l'.length < f' + 1 ∧ ps.length ≤ n' ∧ Ends R g s w retR (pre ps (rowT (choices f) f' l' n')),
      fun A m c w' => left s g w', ⟨[p], l1, n1, f1, B2, h2, F2, by omega, by omega, by simp; omega, hR⟩, ?_⟩
    clear hR B2 F2 h2 hg6 hge6 hb2 hrd h1 F1
    rintro A m c w3 ⟨ps, l', n', f', B3, h3, F3, hl3, hf3, hn3, hR⟩
    unfold F33_l2
    refine peek_calls h3 hs fun w4 h4 f4 => ⟨_, rfl, ?_⟩
    have F4 := F3.trans f4
    have B4 := B3.keep f4 (fun b hb e => by omega)
    have hsk := skip_len l'
    unfold rowT at hR
    refine bre (fun h44 => ?_) (fun h44 => ?_)
    · cases hs1 : skip l' with
      | nil => rw [hs1] at h44; exact absurd h44 (by decide)
      | cons c1 r1 =>
        rw [hs1] at hR h4 h44 hsk
        obtain rfl : c1 = 44 := (by rw [← UInt8.toNat_inj]; show c1.toNat = 44; simp only [hd] at h44; omega)
        dsimp only at hR
        rw [if_pos rfl] at hR
        refine began_calls h4 (fun hn w5 h5 f5 => ⟨rfl, ?_⟩) (fun hn at_ w5 f5 => ?_)
        rotate_left
        · rw [if_pos hn] at hR; exact hR _ _ (F4.trans f5)
        rw [if_neg (by omega)] at hR
        refine adv h5 hs fun w6 h6 f6 => ?_
        have F6 := (F4.trans f5).trans f6
        have B6 := (B4.keep f5 (fun b hb e => by omega)).keep f6 (fun b hb e => by omega)
        simp only [List.length_cons] at hsk
        obtain ⟨f', rfl⟩ : ∃ f2, f' = f2 + 1 := ⟨f' - 1, by omega⟩
        rw [row_succ] at hR
        refine part_calls hch h6 hs (by omega) ?_
        cases hp : Mdl.part (choices f) r1 (n' + 1) with
        | error e =>
          obtain ⟨pos, e⟩ := e
          rw [hp] at hR
          exact fun at_ w' f' => hR at_ w' (F6.trans f')
        | ok x =>
          obtain ⟨p2, l2, n2⟩ := x
          rw [hp] at hR
          dsimp only at hR
          obtain ⟨ok2, le2, co2, mx2⟩ := sound_part (sound f) r1 (n' + 1) _ _ _ hp h6.nle
          have tp2 := tP_pos p2 ok2
          have cp2 := cP_pos p2
          rintro w7 _ h7 f7 ⟨e2, rfl, hrd2⟩
          refine ⟨_, _, _, _, _, rfl, ?_⟩
          have hm := h7.nle
          unfold maxParts at hm
          refine B6.app (N := KP) (.agg #[.string (ByteArray.mk #[]), .slice none 0 0, .int .u8 0]) 48 f7 (fun b hb e => by omega) F6.size hrd2 rfl rfl rfl rfl (by omega) (by simp [maxLen]; omega) fun A' c' w8 B8 f8 => ⟨A', _, c', rfl, ⟨ps ++ [p2], l2, n2, f', B8, h7.keep f8 (by omega), (F6.trans f7).trans' f8 (fun b hb e => by omega), by omega, by omega, by simp; omega, ?_⟩, ?_⟩
          · rw [← pre_pre]; exact hR
          · dsimp only; rw [(h7.keep f8 (by omega)).left, h3.left]; omega
    · have key : rowT (choices f) f' l' n' = .ok ([], skip l', n') := by
        unfold rowT
        cases hs1 : skip l' with
        | nil => rfl
        | cons c1 r1 =>
          dsimp only
          rw [if_neg]
          rintro rfl
          rw [hs1] at h44
          exact h44 rfl
      have hR2 : Ends R g s w retR (pre ps (rowT (choices f) f' l' n')) := by unfold rowT; exact hR
      rw [key] at hR2
      simp only [pre, List.append_nil] at hR2
      obtain ⟨A', c', es, e1, e2, e3⟩ := B4.read (j := w.heap.size) (Nat.le_refl _)
      cases e1
      exact hR2 w4 _ h4 F4 ⟨(A, es.length, c), rfl, es, rfl, e2, e3⟩
theorem choices_calls : ∀ f, CC f
  | 0 => fun w g s l n R h hs hl hR => by omega
  | f + 1 => fun w g s l n R h hs hl hR => by
    have hch := choices_calls f
    refine ok17 _ ?_
    unfold F17
    have hgl := h.blk.lt
    rw [choices, rows_succ] at hR
    refine row_calls hch h hs (by omega) (f1 := f + 1) (by omega) ?_
    have snd := sound_row (sound f) (f + 1)
    cases hp : Mdl.row (choices f) (f + 1) l n with
    | error e =>
      obtain ⟨pos, e⟩ := e
      rw [hp] at hR
      exact fun at_ w' f' => hR at_ w' f'
    | ok x =>
      obtain ⟨p, l1, n1⟩ := x
      rw [hp] at hR
      dsimp only at hR
      obtain ⟨ok1, le1, co1, mx1⟩ := snd l n _ _ _ hp h.nle
      have tp1 := tR_pos p ok1
      have cp1 := cR_pos p ok1.1
      rintro w1 _ h1 F1 ⟨e, rfl, hrd⟩
      refine ⟨_, _, _, rfl, ?_⟩
      refine al fun g6 w2 hb2 hg6 hge6 => ?_
      have h2 := h1.below hb2
      have F2 := F1.tr hb2
      have B2 : Bld KW w.heap.size 77 w2 (.slice (some ⟨g6, 0, none⟩) 1 1) [p] := Bld.one (N := KW) hg6 rfl hb2 hge6 F1.size hrd
      refine ⟨fun A m c w' => ∃ (ps : List (List Part)) (l' : List UInt8) (n' f' : Nat), Bld KW w.heap.size 77 w' (.slice A m c) ps ∧ RAt w' g s l' n' ∧ Fm (· = g) w w' ∧ l'.length ≤ f ∧ l'.length < f' + 1 ∧ ps.length ≤ n' ∧ Ends R g s w retC (pre ps (rowsT (Mdl.row (choices f) (f + 1)) f' l' n')),
        fun A m c w' => left s g w', ⟨[p], l1, n1, f, B2, h2, F2, by omega, by omega, by simp; omega, hR⟩, ?_⟩
      clear hR B2 F2 h2 hg6 hge6 hb2 hrd h1 F1
      rintro A m c w3 ⟨ps, l', n', f', B3, h3, F3, hl3, hf3, hn3, hR⟩
      unfold F17_l2
      refine peek_calls h3 hs fun w4 h4 f4 => ⟨_, rfl, ?_⟩
      have F4 := F3.trans f4
      have B4 := B3.keep f4 (fun b hb e => by omega)
      have hsk := skip_len l'
      unfold rowsT at hR
      refine bre (fun h44 => ?_) (fun h44 => ?_)
      · cases hs1 : skip l' with
        | nil => rw [hs1] at h44; exact absurd h44 (by decide)
        | cons c1 r1 =>
          rw [hs1] at hR h4 h44 hsk
          obtain rfl : c1 = 124 := (by rw [← UInt8.toNat_inj]; show c1.toNat = 124; simp only [hd] at h44; omega)
          dsimp only at hR
          rw [if_pos rfl] at hR
          refine began_calls h4 (fun hn w5 h5 f5 => ⟨rfl, ?_⟩) (fun hn at_ w5 f5 => ?_)
          rotate_left
          · rw [if_pos hn] at hR; exact hR _ _ (F4.trans f5)
          rw [if_neg (by omega)] at hR
          refine adv h5 hs fun w6 h6 f6 => ?_
          have F6 := (F4.trans f5).trans f6
          have B6 := (B4.keep f5 (fun b hb e => by omega)).keep f6 (fun b hb e => by omega)
          simp only [List.length_cons] at hsk
          obtain ⟨f', rfl⟩ : ∃ f2, f' = f2 + 1 := ⟨f' - 1, by omega⟩
          rw [rows_succ] at hR
          refine row_calls hch h6 hs (by omega) (f1 := f + 1) (by omega) ?_
          cases hp : Mdl.row (choices f) (f + 1) r1 (n' + 1) with
          | error e =>
            obtain ⟨pos, e⟩ := e
            rw [hp] at hR
            exact fun at_ w' f' => hR at_ w' (F6.trans f')
          | ok x =>
            obtain ⟨p2, l2, n2⟩ := x
            rw [hp] at hR
            dsimp only at hR
            obtain ⟨ok2, le2, co2, mx2⟩ := snd r1 (n' + 1) _ _ _ hp h6.nle
            have tp2 := tR_pos p2 ok2
            have cp2 := cR_pos p2 ok2.1
            rintro w7 _ h7 f7 ⟨e2, rfl, hrd2⟩
            refine ⟨_, _, _, rfl, ?_⟩
            have hm := h7.nle
            unfold maxParts at hm
            refine B6.app (N := KW) (.slice none 0 0) 24 f7 (fun b hb e => by omega) F6.size hrd2 rfl rfl rfl rfl (by omega) (by simp [maxLen]; omega) fun A' c' w8 B8 f8 => ⟨A', _, c', rfl, ⟨ps ++ [p2], l2, n2, f', B8, h7.keep f8 (by omega), (F6.trans f7).trans' f8 (fun b hb e => by omega), by omega, by omega, by simp; omega, ?_⟩, ?_⟩
            · rw [← pre_pre]; exact hR
            · dsimp only; rw [(h7.keep f8 (by omega)).left, h3.left]; omega
      · have key : rowsT (Mdl.row (choices f) (f + 1)) f' l' n' = .ok ([], skip l', n') := by
          unfold rowsT
          cases hs1 : skip l' with
          | nil => rfl
          | cons c1 r1 =>
            dsimp only
            rw [if_neg]
            rintro rfl
            rw [hs1] at h44
            exact h44 rfl
        have hR2 : Ends R g s w retC (pre ps (rowsT (Mdl.row (choices f) (f + 1)) f' l' n')) := by unfold rowsT; exact hR
        rw [key] at hR2
        simp only [pre, List.append_nil] at hR2
        obtain ⟨A', c', es, e1, e2, e3⟩ := B4.read (j := w.heap.size) (Nat.le_refl _)
        cases e1
        exact hR2 w4 _ h4 F4 ⟨(A, es.length, c), rfl, es, rfl, e2, e3⟩
end
end Go.Proofs.Ytkmoeokfgkmlhaa
/- The document's models: the reader reads a row, choices. -/
namespace Go.Mdl
theorem pre_ok {α : Type} (ps qs : List α) (l : List UInt8) (n : Nat) : pre ps (.ok (qs, l, n)) = .ok (ps ++ qs, l, n) := rfl
theorem pre_err {α : Type} (ps : List α) (e : Nat × Nat) : pre ps (.error e : Res (List α)) = .error e := rfl
theorem qR_snoc (ps : List Part) (p : Part) : qR (ps ++ [p]) = qR ps ++ [qP p] := by simp [qR_map]
theorem qC_snoc (ps : List (List Part)) (p : List Part) : qC (ps ++ [p]) = qC ps ++ [qR p] := by simp [qC_map]
end Go.Mdl
namespace Go.Proofs.Ytkmoeokfgkmlhaa
open Go.RowKit Go.Vc Go.Mdl
set_option linter.unusedVariables false
set_option linter.unusedSimpArgs false
set_option maxRecDepth 100000
section
variable {w w1 : World} {R : Ending → World → Prop} {g n why : Nat} {s : ByteArray} {l r : List UInt8} {c : UInt8}
theorem frow_calls {f : Nat} (hch : CF f) (h : FRt w g s l n 0) (hs : s.size ≤ 1024) (hl : l.length ≤ f) {f1 : Nat} (hf1 : l.length < f1) (hR : EndsF R g s w retR4 qR (Mdl.row (choices f) f1 l n)) :
    Calls Try.prog 37 #[.pointer (some ⟨g, 0, none⟩)] w R := by
  refine ok37 _ ?_
  unfold F37
  have hgl := h.lt
  refine al fun g4 w1 hb1 hg4 hge4 => ?_
  refine ⟨fun A m c w' => ∃ (ys : List RPart) (l' : List UInt8) (n' why : Nat), Bld KP4 w.heap.size 75 w' (.slice A m c) ys ∧ FRt w' g s l' n' why ∧ Fm (· = g) w w' ∧
      (why ≠ 0 → ∃ e, Mdl.row (choices f) f1 l n = .error e) ∧ (why = 0 → ∃ (ps : List Part) (f' : Nat), ys = qR ps ∧ ps.length ≤ n' ∧ l'.length ≤ f ∧ l'.length < f' ∧ Mdl.row (choices f) f1 l n = pre ps (Mdl.row (choices f) f' l' n')),
    fun A m c w' => leftF s g w', ⟨[], l, n, 0, Bld.bare _ _ _ _ _, h.below hb1, .below hb1, fun h => absurd rfl h, fun _ => ⟨[], f1, by simp only [qR], by simp, hl, hf1, ?_⟩⟩, ?_⟩
  · cases Mdl.row (choices f) f1 l n with
    | error e => rfl
    | ok x => rfl
  clear h hb1 hg4 hge4
  rintro A m c w3 ⟨ys, l', n', why, B3, h3, F3, hE, hO⟩
  unfold F37_l2
  -- the list is handed back
  have ret : ∀ {w4 : World} {A : Option Addr} {m c : Nat} {ys : List RPart} {l' : List UInt8} {n' why : Nat}, Bld KP4 w.heap.size 75 w4 (.slice A m c) ys → FRt w4 g s l' n' why → Fm (· = g) w w4 → Says qR (Mdl.row (choices f) f1 l n) ys l' n' why → R (.returned (.slice A m c)) w4 := by
    intro w4 A m c ys l' n' why B4 h4 F4 hS
    obtain ⟨A', c', es, e1, e2, e3⟩ := B4.read (j := w.heap.size) (Nat.le_refl _)
    cases e1
    exact hR w4 _ ys l' n' why h4 F4 ⟨(A, es.length, c), rfl, es, rfl, e2, e3⟩ hS
  clear hR
  refine fldW h3 ?_
  refine bre (fun hw0 => ?_) (fun hw0 => ?_)
  rotate_left
  · have hne : why ≠ 0 := by rintro rfl; exact hw0 rfl
    obtain ⟨e, he⟩ := hE hne
    exact ret B3 h3 F3 (by rw [he]; exact hne)
  obtain rfl : why = 0 := by omega
  obtain ⟨ps, f', rfl, hn3, hl3, hf3, hrow⟩ := hO rfl
  clear hE hO
  obtain ⟨f', rfl⟩ : ∃ f2, f' = f2 + 1 := ⟨f' - 1, by omega⟩
  rw [row_succ] at hrow
  have hnm := h3.nle rfl
  unfold maxParts at hnm
  refine fpart_calls hch h3 hs hl3 ?_
  rintro w5 _ y l1 n1 why1 h5 f5 ⟨⟨ek, es, ea, sl⟩, rfl, hrd⟩ hsays
  refine ⟨_, _, _, _, _, _, rfl, ?_⟩
  have F5 := F3.trans f5
  have hqlen : (qR ps).length = ps.length := by rw [qR_map, List.length_map]
  refine B3.app (N := KP4) (.agg #[.int .u8 0, .int .u8 0, .string (ByteArray.mk #[]), .slice none 0 0]) 48 f5 (fun b hb e => by omega) F3.size hrd rfl rfl rfl rfl (by rw [hqlen]; omega) (by rw [hqlen]; simp [maxLen]; omega) fun A' c' w8 B8 f8 => ⟨A', _, c', rfl, ?_⟩
  have h8 := h5.keep f8 (by omega)
  have F8 := F5.trans' f8 (fun b hb e => by omega)
  refine ⟨fun w9 => ∃ r, why1 = 0 ∧ skip l1 = 44 :: r ∧ FRt w9 g s (44 :: r) n1 0 ∧ Fm (· = g) w w9 ∧ Bld KP4 w.heap.size 75 w9 (.slice A' ((qR ps).length + 1) c') (qR ps ++ [y]), ?_, ?_⟩
  · rintro w9 ⟨r, rfl, hsk, h9, F9, B9⟩
    unfold F37_j6
    cases hp : Mdl.part (choices f) l' n' with
    | error e => rw [hp] at hsays; exact absurd rfl hsays
    | ok x =>
      obtain ⟨p, l2, n2⟩ := x
      rw [hp] at hsays hrow
      obtain ⟨rfl, rfl, rfl, -⟩ := hsays
      dsimp only at hrow
      obtain ⟨ok2, le2, co2, mx2⟩ := sound_part (sound f) l' n' _ _ _ hp hnm
      have tp2 := tP_pos p ok2
      have cp2 := cP_pos p
      refine begin_calls h9 fun w10 why6 h10 f10 hw => ⟨rfl, ?_⟩
      refine fadv h10 hs fun w11 h11 f11 => ⟨⟨_, r, n1 + 1, why6, (B9.keep f10 (fun b hb e => by omega)).keep f11 (fun b hb e => by omega), h11, (F9.trans f10).trans f11, fun hne => ?_, fun h0 => ?_⟩, ?_⟩
      · rw [hrow]
        have : rowT (choices f) f' l1 n1 = .error ((44 :: r).length, eLong) := by
          unfold rowT; rw [hsk]; dsimp only; rw [if_pos rfl, if_pos (by have := hw.2; omega)]
        rw [this]; exact ⟨_, rfl⟩
      · have hsk2 := skip_len l1
        rw [hsk, List.length_cons] at hsk2
        refine ⟨ps ++ [p], f', (qR_snoc _ _).symm, by simp; omega, by omega, by omega, ?_⟩
        rw [hrow, pre_pre]
        congr 1
        unfold rowT; rw [hsk]; dsimp only; rw [if_pos rfl, if_neg (by have := hw.1 h0; omega)]
      · show leftF s g w11 < leftF s g w3
        rw [h11.left, h3.left]
        have hsk2 := skip_len l1
        rw [hsk, List.length_cons] at hsk2
        omega
  refine fldW h8 ?_
  refine brn (fun hwhy => ?_) (fun hwhy => ?_)
  · have hw1 : why1 ≠ 0 := fun e => hwhy (by rw [e]; rfl)
    refine ret B8 h8 F8 ?_
    rw [hrow]
    cases hp : Mdl.part (choices f) l' n' with
    | error e => exact hw1
    | ok x => rw [hp] at hsays; exact absurd hsays.2.2.2 hw1
  obtain rfl : why1 = 0 := by omega
  refine fpeek_calls h8 hs fun w9 h9 f9 => ⟨_, rfl, ?_⟩
  have F9 := F8.trans f9
  have B9 := B8.keep f9 (fun b hb e => by omega)
  refine brn (fun k44 => ?_) (fun k44 => ?_)
  · refine ret B9 h9 F9 ?_
    rw [hrow]
    cases hp : Mdl.part (choices f) l' n' with
    | error e => rw [hp] at hsays; exact absurd rfl hsays
    | ok x =>
      obtain ⟨p, l2, n2⟩ := x
      rw [hp] at hsays
      obtain ⟨rfl, rfl, rfl, -⟩ := hsays
      have key : rowT (choices f) f' l1 n1 = .ok ([], skip l1, n1) := by
        unfold rowT
        cases hs1 : skip l1 with
        | nil => rfl
        | cons c1 r1 =>
          dsimp only
          rw [if_neg]
          rintro rfl
          rw [hs1] at k44
          exact k44 rfl
      dsimp only
      rw [key]
      exact ⟨(qR_snoc _ _).symm, rfl, rfl, rfl⟩
  · cases hs1 : skip l1 with
    | nil => rw [hs1] at k44; exact absurd k44 (by decide)
    | cons c1 r1 =>
      rw [hs1] at k44 h9
      obtain rfl : c1 = 44 := (by rw [← UInt8.toNat_inj]; show c1.toNat = 44; simp only [hd] at k44; omega)
      exact ⟨r1, rfl, rfl, h9, F9, B9⟩
theorem fchoices_calls1 {f : Nat} (hch : CF f) (h : FRt w g s l n 0) (hs : s.size ≤ 1024) (hl : l.length ≤ f) {f1 : Nat} (hf1 : l.length < f1) (hR : EndsF R g s w retC4 qC (rowsL (Mdl.row (choices f) (f + 1)) f1 l n)) :
    Calls Try.prog 21 #[.pointer (some ⟨g, 0, none⟩)] w R := by
  refine ok21 _ ?_
  unfold F21
  have hgl := h.lt
  refine al fun g4 w1 hb1 hg4 hge4 => ?_
  refine ⟨fun A m c w' => ∃ (ys : List (List RPart)) (l' : List UInt8) (n' why : Nat), Bld KW4 w.heap.size 62 w' (.slice A m c) ys ∧ FRt w' g s l' n' why ∧ Fm (· = g) w w' ∧
      (why ≠ 0 → ∃ e, rowsL (Mdl.row (choices f) (f + 1)) f1 l n = .error e) ∧ (why = 0 → ∃ (ps : List (List Part)) (f' : Nat), ys = qC ps ∧ ps.length ≤ n' ∧ l'.length ≤ f ∧ l'.length < f' ∧ rowsL (Mdl.row (choices f) (f + 1)) f1 l n = pre ps (rowsL (Mdl.row (choices f) (f + 1)) f' l' n')),
    fun A m c w' => leftF s g w', ⟨[], l, n, 0, Bld.bare _ _ _ _ _, h.below hb1, .below hb1, fun h => absurd rfl h, fun _ => ⟨[], f1, by simp only [qC], by simp, hl, hf1, ?_⟩⟩, ?_⟩
  · cases rowsL (Mdl.row (choices f) (f + 1)) f1 l n with
    | error e => rfl
    | ok x => rfl
  clear h hb1 hg4 hge4
  rintro A m c w3 ⟨ys, l', n', why, B3, h3, F3, hE, hO⟩
  unfold F21_l2
  -- the list is handed back
  have ret : ∀ {w4 : World} {A : Option Addr} {m c : Nat} {ys : List (List RPart)} {l' : List UInt8} {n' why : Nat}, Bld KW4 w.heap.size 62 w4 (.slice A m c) ys → FRt w4 g s l' n' why → Fm (· = g) w w4 → Says qC (rowsL (Mdl.row (choices f) (f + 1)) f1 l n) ys l' n' why → R (.returned (.slice A m c)) w4 := by
    intro w4 A m c ys l' n' why B4 h4 F4 hS
    obtain ⟨A', c', es, e1, e2, e3⟩ := B4.read (j := w.heap.size) (Nat.le_refl _)
    cases e1
    exact hR w4 _ ys l' n' why h4 F4 ⟨(A, es.length, c), rfl, es, rfl, e2, e3⟩ hS
  clear hR
  refine fldW h3 ?_
  refine bre (fun hw0 => ?_) (fun hw0 => ?_)
  rotate_left
  · have hne : why ≠ 0 := by rintro rfl; exact hw0 rfl
    obtain ⟨e, he⟩ := hE hne
    exact ret B3 h3 F3 (by rw [he]; exact hne)
  obtain rfl : why = 0 := by omega
  obtain ⟨ps, f', rfl, hn3, hl3, hf3, hrow⟩ := hO rfl
  clear hE hO
  obtain ⟨f', rfl⟩ : ∃ f2, f' = f2 + 1 := ⟨f' - 1, by omega⟩
  rw [rows_succ] at hrow
  have hnm := h3.nle rfl
  unfold maxParts at hnm
  refine frow_calls hch h3 hs hl3 (f1 := f + 1) (by omega) ?_
  rintro w5 _ y l1 n1 why1 h5 f5 ⟨sl, rfl, hrd⟩ hsays
  refine ⟨_, _, _, rfl, ?_⟩
  have F5 := F3.trans f5
  have hqlen : (qC ps).length = ps.length := by rw [qC_map, List.length_map]
  refine B3.app (N := KW4) (.slice none 0 0) 24 f5 (fun b hb e => by omega) F3.size hrd rfl rfl rfl rfl (by rw [hqlen]; omega) (by rw [hqlen]; simp [maxLen]; omega) fun A' c' w8 B8 f8 => ⟨A', _, c', rfl, ?_⟩
  have h8 := h5.keep f8 (by omega)
  have F8 := F5.trans' f8 (fun b hb e => by omega)
  refine ⟨fun w9 => ∃ r, why1 = 0 ∧ skip l1 = 124 :: r ∧ FRt w9 g s (124 :: r) n1 0 ∧ Fm (· = g) w w9 ∧ Bld KW4 w.heap.size 62 w9 (.slice A' ((qC ps).length + 1) c') (qC ps ++ [y]), ?_, ?_⟩
  · rintro w9 ⟨r, rfl, hsk, h9, F9, B9⟩
    unfold F21_j6
    cases hp : Mdl.row (choices f) (f + 1) l' n' with
    | error e => rw [hp] at hsays; exact absurd rfl hsays
    | ok x =>
      obtain ⟨p, l2, n2⟩ := x
      rw [hp] at hsays hrow
      obtain ⟨rfl, rfl, rfl, -⟩ := hsays
      dsimp only at hrow
      obtain ⟨ok2, le2, co2, mx2⟩ := sound_row (sound f) (f + 1) l' n' _ _ _ hp hnm
      have tp2 := tR_pos p ok2
      have cp2 := cR_pos p ok2.1
      refine begin_calls h9 fun w10 why6 h10 f10 hw => ⟨rfl, ?_⟩
      refine fadv h10 hs fun w11 h11 f11 => ⟨⟨_, r, n1 + 1, why6, (B9.keep f10 (fun b hb e => by omega)).keep f11 (fun b hb e => by omega), h11, (F9.trans f10).trans f11, fun hne => ?_, fun h0 => ?_⟩, ?_⟩
      · rw [hrow]
        have : rowsT (Mdl.row (choices f) (f + 1)) f' l1 n1 = .error ((124 :: r).length, eLong) := by
          unfold rowsT; rw [hsk]; dsimp only; rw [if_pos rfl, if_pos (by have := hw.2; omega)]
        rw [this]; exact ⟨_, rfl⟩
      · have hsk2 := skip_len l1
        rw [hsk, List.length_cons] at hsk2
        refine ⟨ps ++ [p], f', (qC_snoc _ _).symm, by simp; omega, by omega, by omega, ?_⟩
        rw [hrow, pre_pre]
        congr 1
        unfold rowsT; rw [hsk]; dsimp only; rw [if_pos rfl, if_neg (by have := hw.1 h0; omega)]
      · show leftF s g w11 < leftF s g w3
        rw [h11.left, h3.left]
        have hsk2 := skip_len l1
        rw [hsk, List.length_cons] at hsk2
        omega
  refine fldW h8 ?_
  refine brn (fun hwhy => ?_) (fun hwhy => ?_)
  · have hw1 : why1 ≠ 0 := fun e => hwhy (by rw [e]; rfl)
    refine ret B8 h8 F8 ?_
    rw [hrow]
    cases hp : Mdl.row (choices f) (f + 1) l' n' with
    | error e => exact hw1
    | ok x => rw [hp] at hsays; exact absurd hsays.2.2.2 hw1
  obtain rfl : why1 = 0 := by omega
  refine fpeek_calls h8 hs fun w9 h9 f9 => ⟨_, rfl, ?_⟩
  have F9 := F8.trans f9
  have B9 := B8.keep f9 (fun b hb e => by omega)
  refine brn (fun k44 => ?_) (fun k44 => ?_)
  · refine ret B9 h9 F9 ?_
    rw [hrow]
    cases hp : Mdl.row (choices f) (f + 1) l' n' with
    | error e => rw [hp] at hsays; exact absurd rfl hsays
    | ok x =>
      obtain ⟨p, l2, n2⟩ := x
      rw [hp] at hsays
      obtain ⟨rfl, rfl, rfl, -⟩ := hsays
      have key : rowsT (Mdl.row (choices f) (f + 1)) f' l1 n1 = .ok ([], skip l1, n1) := by
        unfold rowsT
        cases hs1 : skip l1 with
        | nil => rfl
        | cons c1 r1 =>
          dsimp only
          rw [if_neg]
          rintro rfl
          rw [hs1] at k44
          exact k44 rfl
      dsimp only
      rw [key]
      exact ⟨(qC_snoc _ _).symm, rfl, rfl, rfl⟩
  · cases hs1 : skip l1 with
    | nil => rw [hs1] at k44; exact absurd k44 (by decide)
    | cons c1 r1 =>
      rw [hs1] at k44 h9
      obtain rfl : c1 = 124 := (by rw [← UInt8.toNat_inj]; show c1.toNat = 124; simp only [hd] at k44; omega)
      exact ⟨r1, rfl, rfl, h9, F9, B9⟩
theorem fchoices_calls : ∀ f, CF f
  | 0 => fun w g s l n R h hs hl hR => by omega
  | f + 1 => fun w g s l n R h hs hl hR => fchoices_calls1 (fchoices_calls f) h hs (by omega) (f1 := f + 1) hl (by rw [choices] at hR; exact hR)
end
end Go.Proofs.Ytkmoeokfgkmlhaa
/- The document's models: Parse. -/
namespace Go.Proofs.Ytkmoeokfgkmlhaa
open Go.RowKit Go.Vc Go.Mdl
set_option linter.unusedVariables false
set_option linter.unusedSimpArgs false
set_option maxRecDepth 100000
section
variable {w w1 : World} {R : Ending → World → Prop} {g n why : Nat} {s : ByteArray} {l r : List UInt8} {c : UInt8}
theorem refParse_calls {s : ByteArray} (w : World) {R : Ending → World → Prop}
    (hok : ∀ rows v w', Mdl.parse s.data.toList = .ok rows → QdC (above w.heap.size w') (qC rows) v → Below w.heap.size w w' → R (.returned (.tuple #[.slice v.1 v.2.1 v.2.2, .int .i64 0, .int .i64 0])) w')
    (herr : ∀ (e : Nat × Nat) (at_ : Int) (why : Nat) w', Mdl.parse s.data.toList = .error e → why ≠ 0 → Below w.heap.size w w' → R (.returned (.tuple #[.slice none 0 0, .int .i64 at_, .int .i64 (why : Int)])) w') :
    Calls Try.prog 6 #[.string s] w R := by
  refine ok6 _ ?_
  unfold F6
  have hlen : s.data.toList.length = s.size := by simp
  refine brd (fun hgt => ?_) (fun hle => ?_)
  · have hp : Mdl.parse s.data.toList = .error (s.data.toList.length, eLong) := by
      unfold Mdl.parse; rw [if_pos (by omega)]
    exact herr _ 0 2 w hp (by decide) (Below.refl _ _)
  have hs : s.size ≤ 1024 := by omega
  refine al fun g w1 hb1 hg hge => ?_
  have h1 : FRt w1 g s s.data.toList 0 0 := ⟨by omega, by rw [hlen]; simp, fun _ => Nat.zero_le _, Nat.zero_le _, 0, by
    rw [hlen, Nat.sub_self]; exact hg⟩
  have hpar : Mdl.parse s.data.toList = (match choices (s.data.toList.length + 1) s.data.toList 0 with
    | .error e => .error e
    | .ok (rows, l, _) => match skip l with
      | [] => .ok rows
      | c :: r => .error ((c :: r).length, eMore)) := by
    unfold Mdl.parse; rw [if_neg (by omega)] <;> rfl
  have nb : ∀ {w' : World}, Fm (· = g) w1 w' → Below w.heap.size w w' := fun hf => hb1.trans (hf.toBelow hb1.size (fun b hb e => by omega))
  refine fchoices_calls _ w1 g s _ 0 _ h1 hs (Nat.lt_succ_self _) ?_
  rintro w2 _ y l1 n1 why h2 f2 ⟨sl, rfl, hrd⟩ hsays
  refine ⟨_, _, _, rfl, ?_⟩
  refine ⟨fun w3 => ∃ l2 n2 why2, FRt w3 g s l2 n2 why2 ∧ Fm (· = g) w1 w3 ∧ Fm (· = g) w2 w3 ∧ (if why2 = 0 then ∃ rows, Mdl.parse s.data.toList = .ok rows ∧ y = qC rows else ∃ e, Mdl.parse s.data.toList = .error e), ?_, ?_⟩
  · rintro w3 ⟨l2, n2, why2, h3, f3, q3, hcase⟩
    unfold F6_j9
    obtain ⟨pl, hbk⟩ := h3.blk
    refine lI (by rw [Addr.add_mk]; exact hbk.cell 4) ?_
    refine brn (fun hne => ?_) (fun he => ?_)
    · have hw : why2 ≠ 0 := by rintro rfl; exact hne rfl
      rw [if_neg hw] at hcase
      obtain ⟨e, he⟩ := hcase
      refine dr fun w4 hb4 heq => ?_
      have hbk4 := hbk.keep hb4
      refine lI (by rw [Addr.add_mk]; exact hbk4.cell 3) ?_
      refine lI (by rw [Addr.add_mk]; exact hbk4.cell 4) ?_
      exact herr e pl why2 w4 he hw (nb (f3.tr hb4))
    · have hw : why2 = 0 := by omega
      rw [if_pos hw] at hcase
      obtain ⟨rows, hp, rfl⟩ := hcase
      have a1 : Sub (above w1.heap.size w2) (above w.heap.size w3) := above_fm q3 hb1.size (fun b hb e => by have := h1.lt; omega)
      exact hok rows sl w3 hp (QdC.sub a1 hrd) (nb f3)
  · obtain ⟨pl, hbk⟩ := h2.blk
    refine lI (by rw [Addr.add_mk]; exact hbk.cell 4) ?_
    refine bre (fun h0 => ?_) (fun h0 => ?_)
    rotate_left
    · have hw : why ≠ 0 := by rintro rfl; exact h0 rfl
      refine ⟨l1, n1, why, h2, f2, Fm.refl _ _, ?_⟩
      rw [if_neg hw, hpar]
      cases hc : choices (s.data.toList.length + 1) s.data.toList 0 with
      | error e => exact ⟨e, rfl⟩
      | ok x => rw [hc] at hsays; exact absurd hsays.2.2.2 hw
    obtain rfl : why = 0 := by omega
    cases hc : choices (s.data.toList.length + 1) s.data.toList 0 with
    | error e => rw [hc] at hsays; exact absurd rfl hsays
    | ok x =>
      obtain ⟨rows, l2, n2⟩ := x
      rw [hc] at hsays hpar
      obtain ⟨rfl, rfl, rfl, -⟩ := hsays
      dsimp only at hpar
      refine fpeek_calls h2 hs fun w3 h3 f3 => ⟨_, rfl, ?_⟩
      obtain ⟨pl3, hbk3⟩ := h3.blk
      refine lI (by rw [Addr.add_mk]; exact hbk3.cell 1) ?_
      cases hsk : skip l1 with
      | nil =>
        rw [hsk] at hpar h3
        refine brd (fun hlt => by simp at hlt) (fun hge => ?_)
        exact ⟨_, _, 0, h3, f2.trans f3, f3, by rw [if_pos rfl]; exact ⟨rows, hpar, rfl⟩⟩
      | cons c r =>
        rw [hsk] at hpar h3
        have := h3.get.2
        refine brd (fun hlt => ?_) (fun hge => by omega)
        refine lI (by rw [Addr.add_mk]; exact hbk3.cell 1) ?_
        refine bad_calls (e := 5) h3 (by decide) fun w4 h4 f4 => ⟨rfl, ?_⟩
        exact ⟨_, _, 5, h4, (f2.trans f3).trans f4, f3.trans f4, by rw [if_neg (by decide)]; exact ⟨_, hpar⟩⟩
end
end Go.Proofs.Ytkmoeokfgkmlhaa
/- The document's models: places, as the reference finds them; the same but that what follows is told more than once. -/
namespace Go.Mdl
set_option linter.unusedVariables false
set_option linter.unusedSimpArgs false
def link1 (first : List Nat) (f : List (List Nat)) (i : Nat) : List (List Nat) := f.set i (f.getD i [] ++ first)
def link (f : List (List Nat)) (last first : List Nat) : List (List Nat) := last.foldl (link1 first) f
mutual
def wP : Part → GS → Pc × GS
  | .mk a rows s, g =>
    let r := if a = Br then wC rows g ⟨[], [], false⟩ else if a = Mi then (⟨[], [], true⟩, g) else (⟨[g.1.length], [g.1.length], false⟩, (g.1 ++ [a], g.2 ++ [[]]))
    (⟨r.1.first, r.1.last, r.1.empty || (s == 42 || s == 63)⟩, (r.2.1, if s = 42 ∨ s = 43 then link r.2.2 r.1.last r.1.first else r.2.2))
def wR : List Part → GS → Pc → Pc × GS
  | [], g, all => (all, g)
  | x :: xs, g, all =>
    let r := wP x g
    wR xs (r.2.1, link r.2.2 all.last r.1.first)
      ⟨if all.empty then all.first ++ r.1.first else all.first, if r.1.empty then all.last ++ r.1.last else r.1.last, all.empty && r.1.empty⟩
def wC : List (List Part) → GS → Pc → Pc × GS
  | [], g, all => (all, g)
  | x :: xs, g, all =>
    let r := wR x g ⟨[], [], true⟩
    wC xs r.2 ⟨all.first ++ r.1.first, all.last ++ r.1.last, all.empty || r.1.empty⟩
end
theorem joined_nodup : ∀ (b a : List Nat), (a ++ b).Nodup → joined a b = a ++ b
  | [], a, _ => by simp [joined]
  | x :: b, a, h => by
    have hx : x ∉ a := fun hm => by
      rw [List.nodup_append] at h
      exact h.2.2 x hm x (by simp) rfl
    have e : join1 a x = a ++ [x] := by
      unfold join1
      rw [if_neg]
      intro hc
      exact hx (List.contains_iff_mem.1 hc)
    show joined (join1 a x) b = _
    rw [e, joined_nodup b (a ++ [x]) (by simpa using h)]
    simp
theorem joined_app (a b c : List Nat) : joined a (b ++ c) = joined (joined a b) c := by unfold joined; rw [List.foldl_append]
theorem link_len : ∀ (last : List Nat) (f : List (List Nat)) (first : List Nat), (link f last first).length = f.length
  | [], f, first => rfl
  | i :: last, f, first => by
    show (link (link1 first f i) last first).length = _
    rw [link_len last]; simp [link1]
/-- What follows, each once. -/
def Once (f f' : List (List Nat)) : Prop := f.length = f'.length ∧ ∀ i, joined [] (f'.getD i []) = f.getD i []
theorem Once.link1 {f f' : List (List Nat)} (h : Once f f') (first : List Nat) (i : Nat) : Once (behind1 first f i) (link1 first f' i) := by
  refine ⟨by simp [behind1, Mdl.link1, h.1], fun j => ?_⟩
  unfold behind1 Mdl.link1
  simp only [List.getD_eq_getElem?_getD, List.getElem?_set]
  by_cases hij : i = j
  · subst hij
    by_cases hl : i < f.length
    · simp only [if_true, hl, (h.1 ▸ hl : i < f'.length), Option.getD_some]
      have := h.2 i
      simp only [List.getD_eq_getElem?_getD] at this
      rw [joined_app, this]
    · simp only [if_true, hl, (h.1 ▸ hl : ¬ i < f'.length), if_false]
      rfl
  · simp only [hij, if_false]
    have := h.2 j
    simpa only [List.getD_eq_getElem?_getD] using this
theorem Once.link {first : List Nat} : ∀ {last : List Nat} {f f' : List (List Nat)}, Once f f' → Once (behind f last first) (link f' last first)
  | [], f, f', h => h
  | i :: last, f, f', h => Once.link (last := last) (h.link1 first i)
theorem Once.snoc {f f' : List (List Nat)} (h : Once f f') : Once (f ++ [[]]) (f' ++ [[]]) := by
  refine ⟨by simp [h.1], fun i => ?_⟩
  have := h.2 i
  simp only [List.getD_eq_getElem?_getD] at this ⊢
  by_cases hi : i < f.length
  · rw [List.getElem?_append_left hi, List.getElem?_append_left (h.1 ▸ hi)]; exact this
  · have h1 := h.1
    rw [List.getElem?_append_right (by omega), List.getElem?_append_right (by omega), h.1]
    cases hk : i - f'.length with
    | zero => rfl
    | succ k => simp [joined]
theorem sum_nodup {a b n m : Nat} {x y : List Nat} (hx : Few n x) (hy : Few m y) (h1 : ∀ i ∈ x, i < b) (h2 : ∀ i ∈ y, b ≤ i) : (x ++ y).Nodup := by
  rw [List.nodup_append]
  exact ⟨hx.1, hy.1, fun i hi j hj e => by have := h1 i hi; have := h2 j hj; omega⟩
mutual
theorem sameP : ∀ (p : Part) (g g' : GS), g.1 = g'.1 → Once g.2 g'.2 → GI g → (wP p g').1 = (uP p g).1 ∧ (wP p g').2.1 = (uP p g).2.1 ∧ Once (uP p g).2.2 (wP p g').2.2
  | .mk a rows s, g, g', h1, h2, hi => by
    have key : ∃ r r' : Pc × GS, r = (if a = Br then uC rows g ⟨[], [], false⟩ else if a = Mi then (⟨[], [], true⟩, g) else (⟨[g.1.length], [g.1.length], false⟩, (g.1 ++ [a], g.2 ++ [[]]))) ∧
        r' = (if a = Br then wC rows g' ⟨[], [], false⟩ else if a = Mi then (⟨[], [], true⟩, g') else (⟨[g'.1.length], [g'.1.length], false⟩, (g'.1 ++ [a], g'.2 ++ [[]]))) ∧ r'.1 = r.1 ∧ r'.2.1 = r.2.1 ∧ Once r.2.2 r'.2.2 := by
      refine ⟨_, _, rfl, rfl, ?_⟩
      by_cases c1 : a = Br
      · rw [if_pos c1, if_pos c1]
        exact sameC rows g g' ⟨[], [], false⟩ g.1.length h1 h2 hi ⟨Few.nil _, Few.nil _⟩ (isNone _ _ _) (Nat.le_refl _)
      · rw [if_neg c1, if_neg c1]
        by_cases c2 : a = Mi
        · rw [if_pos c2, if_pos c2]; exact ⟨rfl, h1.symm, h2⟩
        · rw [if_neg c2, if_neg c2]
          exact ⟨by rw [h1], by rw [h1], h2.snoc⟩
    obtain ⟨r, r', e1, e2, k1, k2, k3⟩ := key
    simp only [uP, wP]
    rw [← e1, ← e2]
    refine ⟨by rw [k1], k2, ?_⟩
    rw [k1]
    split
    · exact k3.link
    · exact k3
theorem sameR : ∀ (xs : List Part) (g g' : GS) (all : Pc) (a : Nat) {X : Lang}, g.1 = g'.1 → Once g.2 g'.2 → GI g → PI g.1.length all → IsG g all a X → a ≤ g.1.length →
    (wR xs g' all).1 = (uR xs g all).1 ∧ (wR xs g' all).2.1 = (uR xs g all).2.1 ∧ Once (uR xs g all).2.2 (wR xs g' all).2.2
  | [], g, g', all, a, X, h1, h2, hi, hp, his, ha => ⟨rfl, h1.symm, h2⟩
  | x :: xs, g, g', all, a, X, h1, h2, hi, hp, his, ha => by
    simp only [uR, wR]
    obtain ⟨k1, k2, k3⟩ := sameP x g g' h1 h2 hi
    obtain ⟨on1, is1⟩ := isP x g hi.1
    obtain ⟨ge, pi⟩ := gi_P x g hi
    generalize uP x g = r at k1 k2 k3 on1 is1 ge pi ⊢
    generalize wP x g' = r' at k1 k2 k3 ⊢
    obtain ⟨rp, rg⟩ := r
    obtain ⟨rp', rg'⟩ := r'
    dsimp only at k1 k2 k3 on1 is1 ge pi ⊢
    subst k1
    have lo : ∀ {l : List Nat}, (∀ i ∈ l, a ≤ i ∧ i < g.1.length) → ∀ i ∈ l, i < g.1.length := fun h i hi => (h i hi).2
    have f1 : (all.first ++ rp'.first).Nodup := sum_nodup (a := 0) hp.1 pi.1 (fun i hi => (his.f1 i hi).2) (fun i hi => (is1.f1 i hi).1)
    have f2 : (all.last ++ rp'.last).Nodup := sum_nodup (a := 0) hp.2 pi.2 (fun i hi => (his.l1 i hi).2) (fun i hi => (is1.l1 i hi).1)
    rw [joined_nodup _ _ f1, joined_nodup _ _ f2]
    have h' := his.same (G := Fol rg.2) (A' := At rg.1) (fun i j h1 h2 => fol_eq (on1.fol i h2) j) (fun i n h1 h2 => at_eq (on1.at_ i h2) n)
    have hlast : ∀ k ∈ all.last, k < rg.2.length := fun k hk => by have := (his.l1 k hk).2; have := on1.le; have := on1.len; omega
    have s1 := h'.seq is1 ha on1.le (G := Fol (behind rg.2 all.last rp'.first)) fun i j => fol_behind _ _ _ hlast
    have is2 : IsG (rg.1, behind rg.2 all.last rp'.first) ⟨if all.empty then all.first ++ rp'.first else all.first, if rp'.empty then all.last ++ rp'.last else rp'.last, all.empty && rp'.empty⟩ a (seq X (mP x)) := by
      refine s1.sub (fun i => ?_) (fun i => ?_) (by simp)
      · cases all.empty
        · simp
        · simp
      · cases rp'.empty
        · simp
        · simp [or_comm]
    have gi2 : GI (rg.1, behind rg.2 all.last rp'.first) := GI.behind (g := rg) ge.1 pi.1.2
    refine sameR xs _ (rg'.1, link rg'.2 all.last rp'.first) _ a k2.symm k3.link gi2 ?_ is2 (Nat.le_trans ha on1.le)
    have m1 := hp.1.mono on1.le
    have m2 := hp.2.mono on1.le
    have w1 : ∀ i ∈ all.first ++ rp'.first, i < rg.1.length := fun i hi => by
      rcases List.mem_append.1 hi with h | h
      · exact m1.2 i h
      · exact pi.1.2 i h
    have w2 : ∀ i ∈ all.last ++ rp'.last, i < rg.1.length := fun i hi => by
      rcases List.mem_append.1 hi with h | h
      · exact m2.2 i h
      · exact pi.2.2 i h
    refine ⟨?_, ?_⟩
    · dsimp only
      split
      · exact ⟨f1, w1⟩
      · exact m1
    · dsimp only
      split
      · exact ⟨f2, w2⟩
      · exact pi.2
theorem sameC : ∀ (xs : List (List Part)) (g g' : GS) (all : Pc) (a : Nat) {X : Lang}, g.1 = g'.1 → Once g.2 g'.2 → GI g → PI g.1.length all → IsG g all a X → a ≤ g.1.length →
    (wC xs g' all).1 = (uC xs g all).1 ∧ (wC xs g' all).2.1 = (uC xs g all).2.1 ∧ Once (uC xs g all).2.2 (wC xs g' all).2.2
  | [], g, g', all, a, X, h1, h2, hi, hp, his, ha => ⟨rfl, h1.symm, h2⟩
  | x :: xs, g, g', all, a, X, h1, h2, hi, hp, his, ha => by
    simp only [uC, wC]
    obtain ⟨k1, k2, k3⟩ := sameR x g g' ⟨[], [], true⟩ g.1.length h1 h2 hi ⟨Few.nil _, Few.nil _⟩ (isEps _ _ _) (Nat.le_refl _)
    obtain ⟨on1, is1⟩ := isR x g ⟨[], [], true⟩ g.1.length eps hi.1 (Nat.le_refl _) (isEps _ _ _)
    obtain ⟨ge, pi⟩ := gi_R x g ⟨[], [], true⟩ hi ⟨Few.nil _, Few.nil _⟩
    generalize uR x g ⟨[], [], true⟩ = r at k1 k2 k3 on1 is1 ge pi ⊢
    generalize wR x g' ⟨[], [], true⟩ = r' at k1 k2 k3 ⊢
    obtain ⟨rp, rg⟩ := r
    obtain ⟨rp', rg'⟩ := r'
    dsimp only at k1 k2 k3 on1 is1 ge pi ⊢
    subst k1
    have f1 : (all.first ++ rp'.first).Nodup := sum_nodup (a := 0) hp.1 pi.1 (fun i hi => (his.f1 i hi).2) (fun i hi => (is1.f1 i hi).1)
    have f2 : (all.last ++ rp'.last).Nodup := sum_nodup (a := 0) hp.2 pi.2 (fun i hi => (his.l1 i hi).2) (fun i hi => (is1.l1 i hi).1)
    rw [joined_nodup _ _ f1, joined_nodup _ _ f2]
    have h' := his.same (G := Fol rg.2) (A' := At rg.1) (fun i j h1 h2 => fol_eq (on1.fol i h2) j) (fun i n h1 h2 => at_eq (on1.at_ i h2) n)
    have s1 := h'.alt is1 ha on1.le
    have is2 : IsG rg ⟨all.first ++ rp'.first, all.last ++ rp'.last, all.empty || rp'.empty⟩ a (alt X (seq eps (mR x))) := by
      refine s1.sub (fun i => ?_) (fun i => ?_) (by simp)
      · simp
      · simp
    have m1 := hp.1.mono on1.le
    have m2 := hp.2.mono on1.le
    refine sameC xs rg rg' _ a k2.symm k3 ge.1 ⟨⟨f1, fun i hi => ?_⟩, ⟨f2, fun i hi => ?_⟩⟩ is2 (Nat.le_trans ha on1.le)
    · rcases List.mem_append.1 hi with h | h
      · exact m1.2 i h
      · exact pi.1.2 i h
    · rcases List.mem_append.1 hi with h | h
      · exact m2.2 i h
      · exact pi.2.2 i h
end
end Go.Mdl
/- The document's models: places: how long what follows may be. -/
namespace Go.Mdl
set_option linter.unusedVariables false
set_option linter.unusedSimpArgs false
def LBd (f : List (List Nat)) (K : Nat) : Prop := ∀ (i : Nat) l, f[i]? = some l → l.length ≤ K
theorem LBd.mono {f : List (List Nat)} {K K' : Nat} (h : LBd f K) (hk : K ≤ K') : LBd f K' := fun i l hl => Nat.le_trans (h i l hl) hk
theorem LBd.snoc {f : List (List Nat)} {K : Nat} (h : LBd f K) : LBd (f ++ [[]]) K := by
  intro i l hl
  by_cases hi : i < f.length
  · rw [List.getElem?_append_left hi] at hl; exact h i l hl
  · rw [List.getElem?_append_right (by omega)] at hl
    cases hk : i - f.length with
    | zero => rw [hk] at hl; simp at hl; subst hl; simp
    | succ k => rw [hk] at hl; simp at hl
theorem link_at (first : List Nat) : ∀ (last : List Nat) (f : List (List Nat)) (j : Nat), last.Nodup → (link f last first)[j]? = (f[j]?).map fun l => if j ∈ last then l ++ first else l
  | [], f, j, _ => by simp [link]
  | i :: last, f, j, h => by
    show (link (link1 first f i) last first)[j]? = _
    rw [link_at first last _ j (List.nodup_cons.1 h).2]
    unfold link1
    rw [List.getElem?_set]
    by_cases hij : i = j
    · subst hij
      have hn := (List.nodup_cons.1 h).1
      by_cases hl : i < f.length
      · simp [hl, hn, List.getD_eq_getElem?_getD]
      · simp [hl, List.getElem?_eq_none (Nat.le_of_not_lt hl)]
    · simp only [hij, if_false]
      congr 1
      funext l
      have : (j ∈ i :: last) ↔ j ∈ last := by simp [Ne.symm hij]
      by_cases hj : j ∈ last
      · rw [if_pos hj, if_pos (this.2 hj)]
      · rw [if_neg hj, if_neg fun h => hj (this.1 h)]
theorem LBd.link {f : List (List Nat)} {K : Nat} {last first : List Nat} (h : LBd f K) (hn : last.Nodup) (hf : first.length ≤ 128) : LBd (link f last first) (K + 128) := by
  intro i l hl
  rw [link_at first last f i hn] at hl
  cases hi : f[i]? with
  | none => rw [hi] at hl; cases hl
  | some l' =>
    rw [hi] at hl
    have := h i l' hi
    simp only [Option.map_some, Option.some.injEq] at hl
    subst hl
    split
    · simp; omega
    · omega
/-- The reference's state beside the program's. -/
structure Tw (gu gs : GS) : Prop where
  at_ : gu.1 = gs.1
  once : Once gu.2 gs.2
  gi : GI gu
theorem Tw.len {gu gs : GS} (h : Tw gu gs) : gs.1.length = gs.2.length := by rw [← h.at_, h.gi.1]; exact h.once.1
/-- A row's, or choices', state beside the program's. -/
structure Rw (gu gs : GS) (all : Pc) (a : Nat) : Prop where
  tw : Tw gu gs
  pi : PI gu.1.length all
  isg : ∃ X, IsG gu all a X
  le : a ≤ gu.1.length
def stR (x : Part) (g : GS) (all : Pc) : Pc × GS :=
  (⟨if all.empty then all.first ++ (wP x g).1.first else all.first, if (wP x g).1.empty then all.last ++ (wP x g).1.last else (wP x g).1.last, all.empty && (wP x g).1.empty⟩, ((wP x g).2.1, link (wP x g).2.2 all.last (wP x g).1.first))
def stC (x : List Part) (g : GS) (all : Pc) : Pc × GS :=
  (⟨all.first ++ (wR x g ⟨[], [], true⟩).1.first, all.last ++ (wR x g ⟨[], [], true⟩).1.last, all.empty || (wR x g ⟨[], [], true⟩).1.empty⟩, (wR x g ⟨[], [], true⟩).2)
theorem wR_cons (x : Part) (xs : List Part) (g : GS) (all : Pc) : wR (x :: xs) g all = wR xs (stR x g all).2 (stR x g all).1 := by simp only [wR]; rfl
theorem wC_cons (x : List Part) (xs : List (List Part)) (g : GS) (all : Pc) : wC (x :: xs) g all = wC xs (stC x g all).2 (stC x g all).1 := by simp only [wC]; rfl
/-- The places of the program behind one part more. -/
def guR (x : Part) (gu : GS) (all : Pc) : GS := ((uP x gu).2.1, behind (uP x gu).2.2 all.last (uP x gu).1.first)
theorem rwR {x : Part} {gu gs : GS} {all : Pc} {a : Nat} (h : Rw gu gs all a) : Rw (guR x gu all) (stR x gs all).2 (stR x gs all).1 a ∧ (wP x gs).1 = (uP x gu).1 ∧ PI (uP x gu).2.1.length (wP x gs).1 ∧ Tw (uP x gu).2 (wP x gs).2 ∧
    (∀ xs, uR (x :: xs) gu all = uR xs (guR x gu all) (stR x gs all).1) := by
  obtain ⟨⟨h1, h2, hi⟩, hp, ⟨X, his⟩, ha⟩ := h
  have hu : ∀ xs, uR (x :: xs) gu all = uR xs (guR x gu all) ⟨if all.empty then joined all.first (uP x gu).1.first else all.first, if (uP x gu).1.empty then joined all.last (uP x gu).1.last else (uP x gu).1.last, all.empty && (uP x gu).1.empty⟩ := fun xs => by
    simp only [uR]; rfl
  unfold guR stR at *
  obtain ⟨k1, k2, k3⟩ := sameP x gu gs h1 h2 hi
  obtain ⟨on1, is1⟩ := isP x gu hi.1
  obtain ⟨ge, pi⟩ := gi_P x gu hi
  generalize uP x gu = r at k1 k2 k3 on1 is1 ge pi hu ⊢
  generalize wP x gs = r' at k1 k2 k3 ⊢
  obtain ⟨rp, rg⟩ := r
  obtain ⟨rp', rg'⟩ := r'
  dsimp only at k1 k2 k3 on1 is1 ge pi hu ⊢
  subst k1
  have f1 : (all.first ++ rp'.first).Nodup := sum_nodup (a := 0) hp.1 pi.1 (fun i hi => (his.f1 i hi).2) (fun i hi => (is1.f1 i hi).1)
  have f2 : (all.last ++ rp'.last).Nodup := sum_nodup (a := 0) hp.2 pi.2 (fun i hi => (his.l1 i hi).2) (fun i hi => (is1.l1 i hi).1)
  rw [joined_nodup _ _ f1, joined_nodup _ _ f2] at hu
  have h' := his.same (G := Fol rg.2) (A' := At rg.1) (fun i j h1 h2 => fol_eq (on1.fol i h2) j) (fun i n h1 h2 => at_eq (on1.at_ i h2) n)
  have hlast : ∀ k ∈ all.last, k < rg.2.length := fun k hk => by have := (his.l1 k hk).2; have := on1.le; have := on1.len; omega
  have s1 := h'.seq is1 ha on1.le (G := Fol (behind rg.2 all.last rp'.first)) fun i j => fol_behind _ _ _ hlast
  have is2 : IsG (rg.1, behind rg.2 all.last rp'.first) ⟨if all.empty then all.first ++ rp'.first else all.first, if rp'.empty then all.last ++ rp'.last else rp'.last, all.empty && rp'.empty⟩ a (seq X (mP x)) := by
    refine s1.sub (fun i => ?_) (fun i => ?_) (by simp)
    · cases all.empty
      · simp
      · simp
    · cases rp'.empty
      · simp
      · simp [or_comm]
  have gi2 : GI (rg.1, behind rg.2 all.last rp'.first) := GI.behind (g := rg) ge.1 pi.1.2
  have m1 := hp.1.mono on1.le
  have m2 := hp.2.mono on1.le
  have w1 : ∀ i ∈ all.first ++ rp'.first, i < rg.1.length := fun i hi => by
    rcases List.mem_append.1 hi with h | h
    · exact m1.2 i h
    · exact pi.1.2 i h
  have w2 : ∀ i ∈ all.last ++ rp'.last, i < rg.1.length := fun i hi => by
    rcases List.mem_append.1 hi with h | h
    · exact m2.2 i h
    · exact pi.2.2 i h
  refine ⟨⟨⟨k2.symm, k3.link, gi2⟩, ⟨?_, ?_⟩, ⟨_, is2⟩, Nat.le_trans ha on1.le⟩, rfl, pi, ⟨k2.symm, k3, ge.1⟩, hu⟩
  · dsimp only
    split
    · exact ⟨f1, w1⟩
    · exact m1
  · dsimp only
    split
    · exact ⟨f2, w2⟩
    · exact pi.2
theorem rw0 {gu gs : GS} (h : Tw gu gs) : Rw gu gs ⟨[], [], true⟩ gu.1.length := ⟨h, ⟨Few.nil _, Few.nil _⟩, ⟨_, isEps _ _ _⟩, Nat.le_refl _⟩
theorem rw1 {gu gs : GS} (h : Tw gu gs) : Rw gu gs ⟨[], [], false⟩ gu.1.length := ⟨h, ⟨Few.nil _, Few.nil _⟩, ⟨_, isNone _ _ _⟩, Nat.le_refl _⟩
theorem rwC {x : List Part} {gu gs : GS} {all : Pc} {a : Nat} (h : Rw gu gs all a) : Rw (uR x gu ⟨[], [], true⟩).2 (stC x gs all).2 (stC x gs all).1 a ∧ (wR x gs ⟨[], [], true⟩).1 = (uR x gu ⟨[], [], true⟩).1 ∧
    (∀ xs, uC (x :: xs) gu all = uC xs (uR x gu ⟨[], [], true⟩).2 (stC x gs all).1) := by
  obtain ⟨⟨h1, h2, hi⟩, hp, ⟨X, his⟩, ha⟩ := h
  have hu : ∀ xs, uC (x :: xs) gu all = uC xs (uR x gu ⟨[], [], true⟩).2 ⟨joined all.first (uR x gu ⟨[], [], true⟩).1.first, joined all.last (uR x gu ⟨[], [], true⟩).1.last, all.empty || (uR x gu ⟨[], [], true⟩).1.empty⟩ := fun xs => by
    simp only [uC]
  unfold stC at *
  obtain ⟨k1, k2, k3⟩ := sameR x gu gs ⟨[], [], true⟩ gu.1.length h1 h2 hi ⟨Few.nil _, Few.nil _⟩ (isEps _ _ _) (Nat.le_refl _)
  obtain ⟨on1, is1⟩ := isR x gu ⟨[], [], true⟩ gu.1.length eps hi.1 (Nat.le_refl _) (isEps _ _ _)
  obtain ⟨ge, pi⟩ := gi_R x gu ⟨[], [], true⟩ hi ⟨Few.nil _, Few.nil _⟩
  generalize uR x gu ⟨[], [], true⟩ = r at k1 k2 k3 on1 is1 ge pi hu ⊢
  generalize wR x gs ⟨[], [], true⟩ = r' at k1 k2 k3 ⊢
  obtain ⟨rp, rg⟩ := r
  obtain ⟨rp', rg'⟩ := r'
  dsimp only at k1 k2 k3 on1 is1 ge pi hu ⊢
  subst k1
  have f1 : (all.first ++ rp'.first).Nodup := sum_nodup (a := 0) hp.1 pi.1 (fun i hi => (his.f1 i hi).2) (fun i hi => (is1.f1 i hi).1)
  have f2 : (all.last ++ rp'.last).Nodup := sum_nodup (a := 0) hp.2 pi.2 (fun i hi => (his.l1 i hi).2) (fun i hi => (is1.l1 i hi).1)
  rw [joined_nodup _ _ f1, joined_nodup _ _ f2] at hu
  have h' := his.same (G := Fol rg.2) (A' := At rg.1) (fun i j h1 h2 => fol_eq (on1.fol i h2) j) (fun i n h1 h2 => at_eq (on1.at_ i h2) n)
  have s1 := h'.alt is1 ha on1.le
  have is2 : IsG rg ⟨all.first ++ rp'.first, all.last ++ rp'.last, all.empty || rp'.empty⟩ a (alt X (seq eps (mR x))) := by
    refine s1.sub (fun i => ?_) (fun i => ?_) (by simp)
    · simp
    · simp
  have m1 := hp.1.mono on1.le
  have m2 := hp.2.mono on1.le
  refine ⟨⟨⟨k2.symm, k3, ge.1⟩, ⟨⟨f1, fun i hi => ?_⟩, ⟨f2, fun i hi => ?_⟩⟩, ⟨_, is2⟩, Nat.le_trans ha on1.le⟩, rfl, hu⟩
  · rcases List.mem_append.1 hi with h | h
    · exact m1.2 i h
    · exact pi.1.2 i h
  · rcases List.mem_append.1 hi with h | h
    · exact m2.2 i h
    · exact pi.2.2 i h
mutual
theorem bdP : ∀ (p : Part) (gu gs : GS) (K : Nat), Tw gu gs → LBd gs.2 K → (uP p gu).2.1.length ≤ 128 → LBd (wP p gs).2.2 (K + 256 * (2 * cP p - 1))
  | .mk a rows s, gu, gs, K, ht, hb, h128 => by
    have hsame := sameP (.mk a rows s) gu gs ht.at_ ht.once ht.gi
    have hpi := (gi_P (.mk a rows s) gu ht.gi).2
    have key : ∃ r : Pc × GS, r = (if a = Br then wC rows gs ⟨[], [], false⟩ else if a = Mi then (⟨[], [], true⟩, gs) else (⟨[gs.1.length], [gs.1.length], false⟩, (gs.1 ++ [a], gs.2 ++ [[]]))) ∧
        LBd r.2.2 (K + 512 * (cP (.mk a rows s) - 1)) := by
      refine ⟨_, rfl, ?_⟩
      by_cases c1 : a = Br
      · rw [if_pos c1]
        have hl : (uC rows gu ⟨[], [], false⟩).2.1.length ≤ 128 := by
          have : (uP (.mk a rows s) gu).2.1 = (uC rows gu ⟨[], [], false⟩).2.1 := by simp only [uP]; rw [if_pos c1]
          rw [this] at h128; exact h128
        have := bdC rows gu gs ⟨[], [], false⟩ K _ (rw1 ht) hb hl
        refine this.mono ?_
        have h1 := sC_le rows
        simp only [cP, if_pos c1]; omega
      · rw [if_neg c1]
        by_cases c2 : a = Mi
        · rw [if_pos c2]; exact hb.mono (by omega)
        · rw [if_neg c2]; exact hb.snoc.mono (by omega)
    obtain ⟨r, e1, k1⟩ := key
    have e2 : (wP (.mk a rows s) gs).1 = ⟨r.1.first, r.1.last, r.1.empty || (s == 42 || s == 63)⟩ := by simp only [wP]; rw [← e1]
    have e3 : (wP (.mk a rows s) gs).2.2 = if s = 42 ∨ s = 43 then link r.2.2 r.1.last r.1.first else r.2.2 := by simp only [wP]; rw [← e1]
    rw [e3]
    have hc := cP_pos (.mk a rows s)
    split
    · rw [← hsame.1, e2] at hpi
      refine (k1.link hpi.2.1 (Nat.le_trans hpi.1.len h128)).mono ?_
      omega
    · exact k1.mono (by omega)
theorem bdR : ∀ (xs : List Part) (gu gs : GS) (all : Pc) (K a : Nat), Rw gu gs all a → LBd gs.2 K → (uR xs gu all).2.1.length ≤ 128 → LBd (wR xs gs all).2.2 (K + 512 * sR xs)
  | [], gu, gs, all, K, a, hr, hb, h128 => hb.mono (by omega)
  | x :: xs, gu, gs, all, K, a, hr, hb, h128 => by
    obtain ⟨q1, q2, q3, q4, q5⟩ := rwR (x := x) hr
    rw [wR_cons]
    rw [q5] at h128
    have hl : (uP x gu).2.1.length ≤ 128 := Nat.le_trans (gi_R xs (guR x gu all) (stR x gs all).1 q1.tw.gi q1.pi).1.2.1 h128
    have b1 := bdP x gu gs K hr.tw hb hl
    have b2 := b1.link hr.pi.2.1 (first := (wP x gs).1.first) (Nat.le_trans q3.1.len hl)
    have := bdR xs _ _ _ _ a q1 b2 h128
    refine this.mono ?_
    have hc := cP_pos x
    simp only [sR]; omega
theorem bdC : ∀ (xs : List (List Part)) (gu gs : GS) (all : Pc) (K a : Nat), Rw gu gs all a → LBd gs.2 K → (uC xs gu all).2.1.length ≤ 128 → LBd (wC xs gs all).2.2 (K + 512 * sC xs)
  | [], gu, gs, all, K, a, hr, hb, h128 => hb.mono (by omega)
  | x :: xs, gu, gs, all, K, a, hr, hb, h128 => by
    obtain ⟨q1, q2, q5⟩ := rwC (x := x) hr
    rw [wC_cons]
    rw [q5] at h128
    have hl : (uR x gu ⟨[], [], true⟩).2.1.length ≤ 128 := Nat.le_trans (gi_C xs _ (stC x gs all).1 q1.tw.gi q1.pi).1.2.1 h128
    have b1 := bdR x gu gs ⟨[], [], true⟩ K _ (rw0 hr.tw) hb hl
    have := bdC xs _ _ _ _ a q1 b1 h128
    refine this.mono ?_
    simp only [sC]; omega
end
end Go.Mdl
set_option linter.unusedVariables false
set_option maxRecDepth 100000
namespace Go.Proofs.Ytkmoeokfgkmlhaa
open Go.Vc
-- model.placed
def F20_l5 (g9 : Addr) (x33 : Option Addr) (x33N : Nat) (L5 : Int → World → Prop) (x35 : Int) (w_3 : World) (R : Ending → World → Prop) : Prop :=
 Br (decide (x35 < ((x33N : Nat) : Int)))
 (IdxA x33 x33N x35 1 fun q37 =>
 LdI .i64 (w_3.cell? q37) fun x38 =>
 LdSl (w_3.cell? (g9.add 4)) fun x42 x42N x42C =>
 IdxA x42 x42N x38 1 fun q44 =>
 St w_3 q44 (.bool true) fun w1_7 =>
 InR .i64 (x35 + (1 : Int)) ∧ L5 (x35 + (1 : Int)) w1_7)
 (R (.returned (.pointer (some g9))) w_3)

def F20_j4 (g9 : Addr) (p : Addr) (w_2 : World) (R : Ending → World → Prop) : Prop :=
 LdSl (w_2.cell? (p.add 1)) fun x33 x33N x33C =>
 ∃ (I : Int → World → Prop) (m : Int → World → Nat), I (0 : Int) w_2 ∧
 ∀ (x35 : Int) (w1_7 : World), I x35 w1_7 → F20_l5 g9 x33 x33N (fun x35' w2 => I x35' w2 ∧ m x35' w2 < m x35 w1_7) x35 w1_7 R

def F20 (rows : Option Addr) (rowsN : Nat) (rowsC : Nat) (w_ : World) (R : Ending → World → Prop) : Prop :=
 Al w_ #[(.slice rows rowsN rowsC), (.slice none 0 0), (.slice none 0 0), (.slice none 0 0), (.slice none 0 0), (.bool false)] 60 fun g9 w1 =>
 Calls Try.prog 36 #[(.pointer (some g9)), (.slice rows rowsN rowsC)] w1 (post R fun v w1_2 =>
 ∃ (x12_0 : Option Addr) (x12_0N : Nat) (x12_0C : Nat) (x12_1 : Option Addr) (x12_1N : Nat) (x12_1C : Nat) (x12_2 : Bool), v = (.agg #[(.slice x12_0 x12_0N x12_0C), (.slice x12_1 x12_1N x12_1C), (.bool x12_2)]) ∧
 Al w1_2 #[(.slice none 0 0), (.slice none 0 0), (.bool false)] 80 fun p w1_3 =>
 St w1_3 p (.slice x12_0 x12_0N x12_0C) fun w1_4 =>
 St w1_4 (p.add 1) (.slice x12_1 x12_1N x12_1C) fun w1_5 =>
 St w1_5 (p.add 2) (.bool x12_2) fun w1_6 =>
 ∃ J4 : World → Prop, (∀  (w1_7 : World), J4 w1_7 → F20_j4 g9 p w1_7 R) ∧
 (∃ S : World → Prop, S w1_6.drew ∧ ∃ (x17 : Option Addr) (x17N : Nat) (x17C : Nat), Held S p (.slice x17 x17N x17C) ∧ ∃ (x19 : Bool), Held S (p.add 2) (.bool x19) ∧ ∃ (x23 : Option Addr) (x23N : Nat) (x23C : Nat), Held S (g9.add 1) (.slice x23 x23N x23C) ∧ (0 ≤ ((x23N : Nat) : Int) ∧ ((x23N : Nat) : Int) ≤ ((x23N : Nat) : Int) ∧ ((1 : Nat) : Int) * ((x23N : Nat) : Int) ≤ 281474976710656 ∧ Al w1_6.drew (zrow #[(.bool false)] ((((x23N : Nat) : Int)).toNat * 1)) 4 fun g25 w1_8 =>
 S w1_8 ∧ St w1_8 (g9.add 2) (.slice x17 x17N x17C) fun w1_9 =>
 S w1_9 ∧ St w1_9 (g9.add 5) (.bool x19) fun w1_10 =>
 St w1_10 (g9.add 4) (.slice (some g25) (((x23N : Nat) : Int)).toNat (((x23N : Nat) : Int)).toNat) fun w1_11 =>
 J4 w1_11)
 ∧ (St w1_6.drew (g9.add 2) (.slice x17 x17N x17C) fun w1_8 =>
 S w1_8 ∧ (0 ≤ ((x23N : Nat) : Int) ∧ ((x23N : Nat) : Int) ≤ ((x23N : Nat) : Int) ∧ ((1 : Nat) : Int) * ((x23N : Nat) : Int) ≤ 281474976710656 ∧ Al w1_8 (zrow #[(.bool false)] ((((x23N : Nat) : Int)).toNat * 1)) 4 fun g25 w1_9 =>
 S w1_9 ∧ St w1_9 (g9.add 5) (.bool x19) fun w1_10 =>
 St w1_10 (g9.add 4) (.slice (some g25) (((x23N : Nat) : Int)).toNat (((x23N : Nat) : Int)).toNat) fun w1_11 =>
 J4 w1_11)
 ∧ (St w1_8 (g9.add 5) (.bool x19) fun w1_9 =>
 0 ≤ ((x23N : Nat) : Int) ∧ ((x23N : Nat) : Int) ≤ ((x23N : Nat) : Int) ∧ ((1 : Nat) : Int) * ((x23N : Nat) : Int) ≤ 281474976710656 ∧ Al w1_9 (zrow #[(.bool false)] ((((x23N : Nat) : Int)).toNat * 1)) 4 fun g25 w1_10 =>
 St w1_10 (g9.add 4) (.slice (some g25) (((x23N : Nat) : Int)).toNat (((x23N : Nat) : Int)).toNat) fun w1_11 =>
 J4 w1_11))))

def pl20 : Plan := ⟨47, ⟨[]⟩, [(4, ⟨[], [(13, 32)]⟩)], [(5, ⟨[(35, (.s (.int .i64)))], [(6, 7), (35, 46)]⟩)]⟩

theorem eq20 (rows : Option Addr) (rowsN : Nat) (rowsC : Nat) (w : World) (R : Ending → World → Prop) : F20 rows rowsN rowsC w R = vc Try.prog Try.f20 pl20 R 100000 [.code (bodyOf Try.f20)] (argEnv 0 #[(.slice rows rowsN rowsC)].toList) w := by kernel_rfl

theorem ok20 (rows : Option Addr) (rowsN : Nat) (rowsC : Nat) {w : World} {R : Ending → World → Prop} (h : F20 rows rowsN rowsC w R) : Calls Try.prog 20 #[(.slice rows rowsN rowsC)] w R :=
  vc_calls (pl := pl20) Try.func20 (by kernel_rfl) (by kernel_rfl) (by kernel_rfl) (Eq.mp (eq20 rows rowsN rowsC w R) h)

-- (*model.Model).choices
def F36_j7 (L3 : Int → World → Prop) (x11 : Int) (w_3 : World) (R : Ending → World → Prop) : Prop :=
 InR .i64 (x11 + (1 : Int)) ∧ L3 (x11 + (1 : Int)) w_3

def F36_l3 (m_ : Option Addr) (rows : Option Addr) (rowsN : Nat) (g4 : Addr) (all : Addr) (L3 : Int → World → Prop) (x11 : Int) (w_2 : World) (R : Ending → World → Prop) : Prop :=
 Br (decide (x11 < ((rowsN : Nat) : Int)))
 (∃ J7 : World → Prop, (∀  (w1_3 : World), J7 w1_3 → F36_j7 L3 x11 w1_3 R) ∧
 (IdxA rows rowsN x11 1 fun q13 =>
 LdSl (w_2.cell? q13) fun x14 x14N x14C =>
 Calls Try.prog 51 #[(.pointer m_), (.slice x14 x14N x14C)] w_2 (post R fun v w1_3 =>
 ∃ (x17_0 : Option Addr) (x17_0N : Nat) (x17_0C : Nat) (x17_1 : Option Addr) (x17_1N : Nat) (x17_1C : Nat) (x17_2 : Bool), v = (.agg #[(.slice x17_0 x17_0N x17_0C), (.slice x17_1 x17_1N x17_1C), (.bool x17_2)]) ∧
 Al w1_3 #[(.slice none 0 0), (.slice none 0 0), (.bool false)] 80 fun p w1_4 =>
 St w1_4 p (.slice x17_0 x17_0N x17_0C) fun w1_5 =>
 St w1_5 (p.add 1) (.slice x17_1 x17_1N x17_1C) fun w1_6 =>
 St w1_6 (p.add 2) (.bool x17_2) fun w1_7 =>
 ∃ S : World → Prop, S w1_7.drew ∧ ∃ (x19 : Option Addr) (x19N : Nat) (x19C : Nat), Held S all (.slice x19 x19N x19C) ∧ ∃ (x21 : Option Addr) (x21N : Nat) (x21C : Nat), Held S p (.slice x21 x21N x21C) ∧ ∃ (x24 : Option Addr) (x24N : Nat) (x24C : Nat), Held S (all.add 1) (.slice x24 x24N x24C) ∧ ∃ (x26 : Option Addr) (x26N : Nat) (x26C : Nat), Held S (p.add 1) (.slice x26 x26N x26C) ∧ ∃ (x29 : Bool), Held S (all.add 2) (.bool x29) ∧ Calls Try.prog 44 #[(.slice x19 x19N x19C), (.slice x21 x21N x21C)] w1_7.drew (post R fun v2 w1_9 =>
 ∃ (x22 : Option Addr) (x22N : Nat) (x22C : Nat), v2 = (.slice x22 x22N x22C) ∧
 S w1_9 ∧ Calls Try.prog 44 #[(.slice x24 x24N x24C), (.slice x26 x26N x26C)] w1_9 (post R fun v3 w1_10 =>
 ∃ (x27 : Option Addr) (x27N : Nat) (x27C : Nat), v3 = (.slice x27 x27N x27C) ∧
 S w1_10 ∧ Br x29
 (St w1_10 all (.slice x22 x22N x22C) fun w1_11 =>
 St w1_11 (all.add 1) (.slice x27 x27N x27C) fun w1_12 =>
 St w1_12 (all.add 2) (.bool true) fun w1_13 =>
 J7 w1_13)
 (∃ (x32 : Bool), Held S (p.add 2) (.bool x32) ∧ St w1_10 all (.slice x22 x22N x22C) fun w1_11 =>
 St w1_11 (all.add 1) (.slice x27 x27N x27C) fun w1_12 =>
 St w1_12 (all.add 2) (.bool x32) fun w1_13 =>
 J7 w1_13))))))
 (LdSl (w_2.cell? all) fun x36_0 x36_0N x36_0C =>
 LdSl (w_2.cell? (all.add 1)) fun x36_1 x36_1N x36_1C =>
 LdB (w_2.cell? (all.add 2)) fun x36_2 =>
 St w_2 g4 (.slice x36_0 x36_0N x36_0C) fun w1_3 =>
 St w1_3 (g4.add 1) (.slice x36_1 x36_1N x36_1C) fun w1_4 =>
 St w1_4 (g4.add 2) (.bool x36_2) fun w1_5 =>
 LdSl (w1_5.cell? g4) fun res0_0 res0_0N res0_0C =>
 LdSl (w1_5.cell? (g4.add 1)) fun res0_1 res0_1N res0_1C =>
 LdB (w1_5.cell? (g4.add 2)) fun res0_2 =>
 R (.returned (.agg #[(.slice res0_0 res0_0N res0_0C), (.slice res0_1 res0_1N res0_1C), (.bool res0_2)])) w1_5)

def F36 (m_ : Option Addr) (rows : Option Addr) (rowsN : Nat) (rowsC : Nat) (w_ : World) (R : Ending → World → Prop) : Prop :=
 Al w_ #[(.slice none 0 0), (.slice none 0 0), (.bool false)] 80 fun g4 w1 =>
 Al w1 #[(.slice none 0 0), (.slice none 0 0), (.bool false)] 80 fun all w1_2 =>
 ∃ (I : Int → World → Prop) (m : Int → World → Nat), I (0 : Int) w1_2 ∧
 ∀ (x11 : Int) (w1_3 : World), I x11 w1_3 → F36_l3 m_ rows rowsN g4 all (fun x11' w2 => I x11' w2 ∧ m x11' w2 < m x11 w1_3) x11 w1_3 R

def pl36 : Plan := ⟨37, ⟨[]⟩, [(7, ⟨[], [(7, 9), (13, 35)]⟩)], [(3, ⟨[(11, (.s (.int .i64)))], [(7, 9), (11, 36)]⟩)]⟩

theorem eq36 (m_ : Option Addr) (rows : Option Addr) (rowsN : Nat) (rowsC : Nat) (w : World) (R : Ending → World → Prop) : F36 m_ rows rowsN rowsC w R = vc Try.prog Try.f36 pl36 R 100000 [.code (bodyOf Try.f36)] (argEnv 0 #[(.pointer m_), (.slice rows rowsN rowsC)].toList) w := by kernel_rfl

theorem ok36 (m_ : Option Addr) (rows : Option Addr) (rowsN : Nat) (rowsC : Nat) {w : World} {R : Ending → World → Prop} (h : F36 m_ rows rowsN rowsC w R) : Calls Try.prog 36 #[(.pointer m_), (.slice rows rowsN rowsC)] w R :=
  vc_calls (pl := pl36) Try.func36 (by kernel_rfl) (by kernel_rfl) (by kernel_rfl) (Eq.mp (eq36 m_ rows rowsN rowsC w R) h)

-- (*model.Model).row
def F51_j13 (L3 : Int → World → Prop) (x12 : Int) (w_3 : World) (R : Ending → World → Prop) : Prop :=
 InR .i64 (x12 + (1 : Int)) ∧ L3 (x12 + (1 : Int)) w_3

def F51_j12 (all : Addr) (J13 : World → Prop) (p : Addr) (w_4 : World) (R : Ending → World → Prop) : Prop :=
 LdB (w_4.cell? (all.add 2)) fun x45 =>
 Br x45
 (LdB (w_4.cell? (p.add 2)) fun x48 =>
 St w_4 (all.add 2) (.bool x48) fun w1_16 =>
 J13 w1_16)
 (St w_4 (all.add 2) (.bool false) fun w1_16 =>
 J13 w1_16)

def F51_j9 (all : Addr) (J13 : World → Prop) (p : Addr) (w_3 : World) (R : Ending → World → Prop) : Prop :=
 ∃ J12 : World → Prop, (∀  (w1_16 : World), J12 w1_16 → F51_j12 all J13 p w1_16 R) ∧
 (LdB (w_3.cell? (p.add 2)) fun x34 =>
 Br x34
 (LdSl (w_3.cell? (all.add 1)) fun x36 x36N x36C =>
 LdSl (w_3.cell? (p.add 1)) fun x38 x38N x38C =>
 Calls Try.prog 44 #[(.slice x36 x36N x36C), (.slice x38 x38N x38C)] w_3 (post R fun v3 w1_16 =>
 ∃ (x39 : Option Addr) (x39N : Nat) (x39C : Nat), v3 = (.slice x39 x39N x39C) ∧
 St w1_16 (all.add 1) (.slice x39 x39N x39C) fun w1_17 =>
 J12 w1_17))
 (LdSl (w_3.cell? (p.add 1)) fun x42 x42N x42C =>
 St w_3 (all.add 1) (.slice x42 x42N x42C) fun w1_16 =>
 J12 w1_16))

def F51_l3 (m_ : Option Addr) (row : Option Addr) (rowN : Nat) (g4 : Addr) (all : Addr) (L3 : Int → World → Prop) (x12 : Int) (w_2 : World) (R : Ending → World → Prop) : Prop :=
 Br (decide (x12 < ((rowN : Nat) : Int)))
 (∃ J13 : World → Prop, (∀  (w1_6 : World), J13 w1_6 → F51_j13 L3 x12 w1_6 R) ∧
 (IdxA row rowN x12 3 fun q14 =>
 LdStr (w_2.cell? q14) fun x15_0 =>
 LdSl (w_2.cell? (q14.add 1)) fun x15_1 x15_1N x15_1C =>
 LdI .u8 (w_2.cell? (q14.add 2)) fun x15_2 =>
 Al w_2 #[(.string (ByteArray.mk #[])), (.slice none 0 0), (.int .u8 0)] 96 fun g7 w1_6 =>
 St w1_6 g7 (.string x15_0) fun w1_7 =>
 St w1_7 (g7.add 1) (.slice x15_1 x15_1N x15_1C) fun w1_8 =>
 St w1_8 (g7.add 2) (.int .u8 x15_2) fun w1_9 =>
 LdStr (w1_9.cell? g7) fun x17_0 =>
 LdSl (w1_9.cell? (g7.add 1)) fun x17_1 x17_1N x17_1C =>
 LdI .u8 (w1_9.cell? (g7.add 2)) fun x17_2 =>
 Calls Try.prog 72 #[(.pointer m_), (.agg #[(.string x17_0), (.slice x17_1 x17_1N x17_1C), (.int .u8 x17_2)])] w1_9 (post R fun v w1_10 =>
 ∃ (x18_0 : Option Addr) (x18_0N : Nat) (x18_0C : Nat) (x18_1 : Option Addr) (x18_1N : Nat) (x18_1C : Nat) (x18_2 : Bool), v = (.agg #[(.slice x18_0 x18_0N x18_0C), (.slice x18_1 x18_1N x18_1C), (.bool x18_2)]) ∧
 Al w1_10 #[(.slice none 0 0), (.slice none 0 0), (.bool false)] 80 fun p w1_11 =>
 St w1_11 p (.slice x18_0 x18_0N x18_0C) fun w1_12 =>
 St w1_12 (p.add 1) (.slice x18_1 x18_1N x18_1C) fun w1_13 =>
 St w1_13 (p.add 2) (.bool x18_2) fun w1_14 =>
 LdSl (w1_14.cell? (all.add 1)) fun x21 x21N x21C =>
 LdSl (w1_14.cell? p) fun x23 x23N x23C =>
 Calls Try.prog 73 #[(.pointer m_), (.slice x21 x21N x21C), (.slice x23 x23N x23C)] w1_14 (post R fun v2 w1_15 =>
 v2 = (.tuple #[]) ∧
 ∃ J9 : World → Prop, (∀  (w1_16 : World), J9 w1_16 → F51_j9 all J13 p w1_16 R) ∧
 (LdB (w1_15.cell? (all.add 2)) fun x26 =>
 Br x26
 (LdSl (w1_15.cell? all) fun x28 x28N x28C =>
 LdSl (w1_15.cell? p) fun x30 x30N x30C =>
 Calls Try.prog 44 #[(.slice x28 x28N x28C), (.slice x30 x30N x30C)] w1_15 (post R fun v3 w1_16 =>
 ∃ (x31 : Option Addr) (x31N : Nat) (x31C : Nat), v3 = (.slice x31 x31N x31C) ∧
 St w1_16 all (.slice x31 x31N x31C) fun w1_17 =>
 J9 w1_17))
 (J9 w1_15))))))
 (LdSl (w_2.cell? all) fun x52_0 x52_0N x52_0C =>
 LdSl (w_2.cell? (all.add 1)) fun x52_1 x52_1N x52_1C =>
 LdB (w_2.cell? (all.add 2)) fun x52_2 =>
 St w_2 g4 (.slice x52_0 x52_0N x52_0C) fun w1_6 =>
 St w1_6 (g4.add 1) (.slice x52_1 x52_1N x52_1C) fun w1_7 =>
 St w1_7 (g4.add 2) (.bool x52_2) fun w1_8 =>
 LdSl (w1_8.cell? g4) fun res0_0 res0_0N res0_0C =>
 LdSl (w1_8.cell? (g4.add 1)) fun res0_1 res0_1N res0_1C =>
 LdB (w1_8.cell? (g4.add 2)) fun res0_2 =>
 R (.returned (.agg #[(.slice res0_0 res0_0N res0_0C), (.slice res0_1 res0_1N res0_1C), (.bool res0_2)])) w1_8)

def F51 (m_ : Option Addr) (row : Option Addr) (rowN : Nat) (rowC : Nat) (w_ : World) (R : Ending → World → Prop) : Prop :=
 Al w_ #[(.slice none 0 0), (.slice none 0 0), (.bool false)] 80 fun g4 w1 =>
 Al w1 #[(.slice none 0 0), (.slice none 0 0), (.bool false)] 80 fun all w1_2 =>
 St w1_2 all (.slice none 0 0) fun w1_3 =>
 St w1_3 (all.add 1) (.slice none 0 0) fun w1_4 =>
 St w1_4 (all.add 2) (.bool true) fun w1_5 =>
 ∃ (I : Int → World → Prop) (m : Int → World → Nat), I (0 : Int) w1_5 ∧
 ∀ (x12 : Int) (w1_6 : World), I x12 w1_6 → F51_l3 m_ row rowN g4 all (fun x12' w2 => I x12' w2 ∧ m x12' w2 < m x12 w1_6) x12 w1_6 R

def pl51 : Plan := ⟨53, ⟨[]⟩, [(12, ⟨[], [(33, 44)]⟩), (9, ⟨[], [(25, 33)]⟩), (13, ⟨[], [(7, 9), (14, 51)]⟩)], [(3, ⟨[(12, (.s (.int .i64)))], [(7, 9), (12, 52)]⟩)]⟩

theorem eq51 (m_ : Option Addr) (row : Option Addr) (rowN : Nat) (rowC : Nat) (w : World) (R : Ending → World → Prop) : F51 m_ row rowN rowC w R = vc Try.prog Try.f51 pl51 R 100000 [.code (bodyOf Try.f51)] (argEnv 0 #[(.pointer m_), (.slice row rowN rowC)].toList) w := by kernel_rfl

theorem ok51 (m_ : Option Addr) (row : Option Addr) (rowN : Nat) (rowC : Nat) {w : World} {R : Ending → World → Prop} (h : F51 m_ row rowN rowC w R) : Calls Try.prog 51 #[(.pointer m_), (.slice row rowN rowC)] w R :=
  vc_calls (pl := pl51) Try.func51 (by kernel_rfl) (by kernel_rfl) (by kernel_rfl) (Eq.mp (eq51 m_ row rowN rowC w R) h)

-- (*model.Model).part
def F72_j13 (g4 : Addr) (p : Addr) (w_4 : World) (R : Ending → World → Prop) : Prop :=
 LdSl (w_4.cell? p) fun x76_0 x76_0N x76_0C =>
 LdSl (w_4.cell? (p.add 1)) fun x76_1 x76_1N x76_1C =>
 LdB (w_4.cell? (p.add 2)) fun x76_2 =>
 St w_4 g4 (.slice x76_0 x76_0N x76_0C) fun w1_4 =>
 St w1_4 (g4.add 1) (.slice x76_1 x76_1N x76_1C) fun w1_5 =>
 St w1_5 (g4.add 2) (.bool x76_2) fun w1_6 =>
 LdSl (w1_6.cell? g4) fun res0_0 res0_0N res0_0C =>
 LdSl (w1_6.cell? (g4.add 1)) fun res0_1 res0_1N res0_1C =>
 LdB (w1_6.cell? (g4.add 2)) fun res0_2 =>
 R (.returned (.agg #[(.slice res0_0 res0_0N res0_0C), (.slice res0_1 res0_1N res0_1C), (.bool res0_2)])) w1_6

def F72_j12 (g3 : Addr) (g4 : Addr) (p : Addr) (w_3 : World) (R : Ending → World → Prop) : Prop :=
 ∃ J13 : World → Prop, (∀  (w1_4 : World), J13 w1_4 → F72_j13 g4 p w1_4 R) ∧
 (LdB (w_3.cell? (p.add 2)) fun x64 =>
 Br x64
 (St w_3 (p.add 2) (.bool true) fun w1_4 =>
 J13 w1_4)
 (LdI .u8 (w_3.cell? (g3.add 2)) fun x67 =>
 Br (x67 == (42 : Int))
 (St w_3 (p.add 2) (.bool true) fun w1_4 =>
 J13 w1_4)
 (LdI .u8 (w_3.cell? (g3.add 2)) fun x72 =>
 St w_3 (p.add 2) (.bool (x72 == (63 : Int))) fun w1_4 =>
 J13 w1_4)))

def F72_j10 (m_ : Option Addr) (g3 : Addr) (g4 : Addr) (p : Addr) (w_2 : World) (R : Ending → World → Prop) : Prop :=
 ∃ J12 : World → Prop, (∀  (w1_4 : World), J12 w1_4 → F72_j12 g3 g4 p w1_4 R) ∧
 (LdI .u8 (w_2.cell? (g3.add 2)) fun x50 =>
 Br (x50 == (42 : Int))
 (LdSl (w_2.cell? (p.add 1)) fun x59 x59N x59C =>
 LdSl (w_2.cell? p) fun x61 x61N x61C =>
 Calls Try.prog 73 #[(.pointer m_), (.slice x59 x59N x59C), (.slice x61 x61N x61C)] w_2 (post R fun v w1_4 =>
 v = (.tuple #[]) ∧
 J12 w1_4))
 (LdI .u8 (w_2.cell? (g3.add 2)) fun x54 =>
 Br (x54 == (43 : Int))
 (LdSl (w_2.cell? (p.add 1)) fun x59 x59N x59C =>
 LdSl (w_2.cell? p) fun x61 x61N x61C =>
 Calls Try.prog 73 #[(.pointer m_), (.slice x59 x59N x59C), (.slice x61 x61N x61C)] w_2 (post R fun v w1_4 =>
 v = (.tuple #[]) ∧
 J12 w1_4))
 (J12 w_2)))

def F72_j4 (m_ : Option Addr) (p : Addr) (J10 : World → Prop) (w_2 : World) (R : Ending → World → Prop) : Prop :=
 NonNil m_ fun p30 =>
 LdSl (w_2.cell? (p30.add 1)) fun x32 x32N x32C =>
 InR .i64 (((x32N : Nat) : Int) - (1 : Int)) ∧ Al w_2 #[(.int .i64 (((x32N : Nat) : Int) - (1 : Int)))] 3 fun g35 w1_4 =>
 St w1_4 p (.slice (some g35) 1 1) fun w1_5 =>
 St w1_5 (p.add 1) (.slice (some g35) 1 1) fun w1_6 =>
 J10 w1_6

def F72 (m_ : Option Addr) (x_0 : ByteArray) (x_1 : Option Addr) (x_1N : Nat) (x_1C : Nat) (x_2 : Int) (w_ : World) (R : Ending → World → Prop) : Prop :=
 Al w_ #[(.string x_0), (.slice x_1 x_1N x_1C), (.int .u8 x_2)] 96 fun g3 w1 =>
 Al w1 #[(.slice none 0 0), (.slice none 0 0), (.bool false)] 80 fun g4 w1_2 =>
 Al w1_2 #[(.slice none 0 0), (.slice none 0 0), (.bool false)] 80 fun p w1_3 =>
 ∃ J10 : World → Prop, (∀  (w1_4 : World), J10 w1_4 → F72_j10 m_ g3 g4 p w1_4 R) ∧
 (LdStr (w1_3.cell? g3) fun x8 =>
 Br (x8.toList == (ByteArray.mk #[40]).toList)
 (LdSl (w1_3.cell? (g3.add 1)) fun x44 x44N x44C =>
 Calls Try.prog 36 #[(.pointer m_), (.slice x44 x44N x44C)] w1_3 (post R fun v w1_4 =>
 ∃ (x45_0 : Option Addr) (x45_0N : Nat) (x45_0C : Nat) (x45_1 : Option Addr) (x45_1N : Nat) (x45_1C : Nat) (x45_2 : Bool), v = (.agg #[(.slice x45_0 x45_0N x45_0C), (.slice x45_1 x45_1N x45_1C), (.bool x45_2)]) ∧
 St w1_4 p (.slice x45_0 x45_0N x45_0C) fun w1_5 =>
 St w1_5 (p.add 1) (.slice x45_1 x45_1N x45_1C) fun w1_6 =>
 St w1_6 (p.add 2) (.bool x45_2) fun w1_7 =>
 J10 w1_7))
 (Br (x8.toList == (ByteArray.mk #[45]).toList)
 (St w1_3 (p.add 2) (.bool true) fun w1_4 =>
 J10 w1_4)
 (∃ J4 : World → Prop, (∀  (w1_4 : World), J4 w1_4 → F72_j4 m_ p J10 w1_4 R) ∧
 (∃ S : World → Prop, S w1_3.drew ∧ NonNil m_ fun p12 =>
 ∃ (x14 : Option Addr) (x14N : Nat) (x14C : Nat), Held S (p12.add 1) (.slice x14 x14N x14C) ∧ ∃ (x16 : ByteArray), Held S g3 (.string x16) ∧ NonNil m_ fun p20 =>
 ∃ (x22 : Option Addr) (x22N : Nat) (x22C : Nat), Held S (p20.add 3) (.slice x22 x22N x22C) ∧ (Al w1_3.drew #[(.string x16)] 9 fun g17 w1_5 =>
 S w1_5 ∧ (Raw Try.prog (Builtin.append_ #[33, 33] 33 #[(.slice x14 x14N x14C), (.slice (some g17) 1 1)]) w1_5 fun v w1_6 =>
 ∃ (x18 : Option Addr) (x18N : Nat) (x18C : Nat), v = (.slice x18 x18N x18C) ∧
 S w1_6 ∧ Al w1_6 #[(.slice none 0 0)] 56 fun g23 w1_7 =>
 S w1_7 ∧ Raw Try.prog (Builtin.append_ #[57, 57] 57 #[(.slice x22 x22N x22C), (.slice (some g23) 1 1)]) w1_7 fun v2 w1_8 =>
 ∃ (x24 : Option Addr) (x24N : Nat) (x24C : Nat), v2 = (.slice x24 x24N x24C) ∧
 NonNil m_ fun p25 =>
 St w1_8 (p25.add 1) (.slice x18 x18N x18C) fun w1_9 =>
 NonNil m_ fun p27 =>
 St w1_9 (p27.add 3) (.slice x24 x24N x24C) fun w1_10 =>
 J4 w1_10)
 ∧ (Al w1_5 #[(.slice none 0 0)] 56 fun g23 w1_6 =>
 S w1_6 ∧ Raw Try.prog (Builtin.append_ #[33, 33] 33 #[(.slice x14 x14N x14C), (.slice (some g17) 1 1)]) w1_6 fun v w1_7 =>
 ∃ (x18 : Option Addr) (x18N : Nat) (x18C : Nat), v = (.slice x18 x18N x18C) ∧
 S w1_7 ∧ Raw Try.prog (Builtin.append_ #[57, 57] 57 #[(.slice x22 x22N x22C), (.slice (some g23) 1 1)]) w1_7 fun v2 w1_8 =>
 ∃ (x24 : Option Addr) (x24N : Nat) (x24C : Nat), v2 = (.slice x24 x24N x24C) ∧
 NonNil m_ fun p25 =>
 St w1_8 (p25.add 1) (.slice x18 x18N x18C) fun w1_9 =>
 NonNil m_ fun p27 =>
 St w1_9 (p27.add 3) (.slice x24 x24N x24C) fun w1_10 =>
 J4 w1_10))
 ∧ (Al w1_3.drew #[(.slice none 0 0)] 56 fun g23 w1_5 =>
 S w1_5 ∧ Al w1_5 #[(.string x16)] 9 fun g17 w1_6 =>
 S w1_6 ∧ Raw Try.prog (Builtin.append_ #[33, 33] 33 #[(.slice x14 x14N x14C), (.slice (some g17) 1 1)]) w1_6 fun v w1_7 =>
 ∃ (x18 : Option Addr) (x18N : Nat) (x18C : Nat), v = (.slice x18 x18N x18C) ∧
 S w1_7 ∧ Raw Try.prog (Builtin.append_ #[57, 57] 57 #[(.slice x22 x22N x22C), (.slice (some g23) 1 1)]) w1_7 fun v2 w1_8 =>
 ∃ (x24 : Option Addr) (x24N : Nat) (x24C : Nat), v2 = (.slice x24 x24N x24C) ∧
 NonNil m_ fun p25 =>
 St w1_8 (p25.add 1) (.slice x18 x18N x18C) fun w1_9 =>
 NonNil m_ fun p27 =>
 St w1_9 (p27.add 3) (.slice x24 x24N x24C) fun w1_10 =>
 J4 w1_10)))))

def pl72 : Plan := ⟨77, ⟨[]⟩, [(4, ⟨[], [(9, 29)]⟩), (13, ⟨[], [(63, 76)]⟩), (12, ⟨[], [(49, 63)]⟩), (10, ⟨[], [(6, 49)]⟩)], []⟩

theorem eq72 (m_ : Option Addr) (x_0 : ByteArray) (x_1 : Option Addr) (x_1N : Nat) (x_1C : Nat) (x_2 : Int) (w : World) (R : Ending → World → Prop) : F72 m_ x_0 x_1 x_1N x_1C x_2 w R = vc Try.prog Try.f72 pl72 R 100000 [.code (bodyOf Try.f72)] (argEnv 0 #[(.pointer m_), (.agg #[(.string x_0), (.slice x_1 x_1N x_1C), (.int .u8 x_2)])].toList) w := by kernel_rfl

theorem ok72 (m_ : Option Addr) (x_0 : ByteArray) (x_1 : Option Addr) (x_1N : Nat) (x_1C : Nat) (x_2 : Int) {w : World} {R : Ending → World → Prop} (h : F72 m_ x_0 x_1 x_1N x_1C x_2 w R) : Calls Try.prog 72 #[(.pointer m_), (.agg #[(.string x_0), (.slice x_1 x_1N x_1C), (.int .u8 x_2)])] w R :=
  vc_calls (pl := pl72) Try.func72 (by kernel_rfl) (by kernel_rfl) (by kernel_rfl) (Eq.mp (eq72 m_ x_0 x_1 x_1N x_1C x_2 w R) h)

-- (*model.Model).behind
def F73_l1 (m_ : Option Addr) (last : Option Addr) (lastN : Nat) (first : Option Addr) (firstN : Nat) (firstC : Nat) (L1 : Int → World → Prop) (x10 : Int) (w_2 : World) (R : Ending → World → Prop) : Prop :=
 Br (decide (x10 < ((lastN : Nat) : Int)))
 (IdxA last lastN x10 1 fun q12 =>
 LdI .i64 (w_2.cell? q12) fun x13 =>
 ∃ S : World → Prop, S w_2.drew ∧ NonNil m_ fun p15 =>
 ∃ (x17 : Option Addr) (x17N : Nat) (x17C : Nat), Held S (p15.add 3) (.slice x17 x17N x17C) ∧ NonNil m_ fun p20 =>
 ∃ (x22 : Option Addr) (x22N : Nat) (x22C : Nat), Held S (p20.add 3) (.slice x22 x22N x22C) ∧ IdxA x22 x22N x13 1 fun q24 =>
 ∃ (x25 : Option Addr) (x25N : Nat) (x25C : Nat), Held S q24 (.slice x25 x25N x25C) ∧ Calls Try.prog 44 #[(.slice x25 x25N x25C), (.slice first firstN firstC)] w_2.drew (post R fun v w1_2 =>
 ∃ (x27 : Option Addr) (x27N : Nat) (x27C : Nat), v = (.slice x27 x27N x27C) ∧
 S w1_2 ∧ IdxA x17 x17N x13 1 fun q28 =>
 St w1_2 q28 (.slice x27 x27N x27C) fun w1_3 =>
 InR .i64 (x10 + (1 : Int)) ∧ L1 (x10 + (1 : Int)) w1_3))
 (R (.returned (.tuple #[])) w_2)

def F73 (m_ : Option Addr) (last : Option Addr) (lastN : Nat) (lastC : Nat) (first : Option Addr) (firstN : Nat) (firstC : Nat) (w_ : World) (R : Ending → World → Prop) : Prop :=
 ∃ (I : Int → World → Prop) (m : Int → World → Nat), I (0 : Int) w_ ∧
 ∀ (x10 : Int) (w1 : World), I x10 w1 → F73_l1 m_ last lastN first firstN firstC (fun x10' w2 => I x10' w2 ∧ m x10' w2 < m x10 w1) x10 w1 R

def pl73 : Plan := ⟨30, ⟨[]⟩, [], [(1, ⟨[(10, (.s (.int .i64)))], [(7, 8), (10, 30)]⟩)]⟩

theorem eq73 (m_ : Option Addr) (last : Option Addr) (lastN : Nat) (lastC : Nat) (first : Option Addr) (firstN : Nat) (firstC : Nat) (w : World) (R : Ending → World → Prop) : F73 m_ last lastN lastC first firstN firstC w R = vc Try.prog Try.f73 pl73 R 100000 [.code (bodyOf Try.f73)] (argEnv 0 #[(.pointer m_), (.slice last lastN lastC), (.slice first firstN firstC)].toList) w := by kernel_rfl

theorem ok73 (m_ : Option Addr) (last : Option Addr) (lastN : Nat) (lastC : Nat) (first : Option Addr) (firstN : Nat) (firstC : Nat) {w : World} {R : Ending → World → Prop} (h : F73 m_ last lastN lastC first firstN firstC w R) : Calls Try.prog 73 #[(.pointer m_), (.slice last lastN lastC), (.slice first firstN firstC)] w R :=
  vc_calls (pl := pl73) Try.func73 (by kernel_rfl) (by kernel_rfl) (by kernel_rfl) (Eq.mp (eq73 m_ last lastN lastC first firstN firstC w R) h)

-- model.joined
def F44_j7 (L3 : Option Addr → Nat → Nat → Int → World → Prop) (x12 : Int) (out2 : Option Addr) (outN2 : Nat) (outC2 : Nat) (w_3 : World) (R : Ending → World → Prop) : Prop :=
 InR .i64 (x12 + (1 : Int)) ∧ L3 out2 outN2 outC2 (x12 + (1 : Int)) w_3

def F44_l3 (b : Option Addr) (bN : Nat) (L3 : Option Addr → Nat → Nat → Int → World → Prop) (out : Option Addr) (outN : Nat) (outC : Nat) (x12 : Int) (w_2 : World) (R : Ending → World → Prop) : Prop :=
 Br (decide (x12 < ((bN : Nat) : Int)))
 (∃ J7 : Option Addr → Nat → Nat → World → Prop, (∀ (out2 : Option Addr) (outN2 : Nat) (outC2 : Nat) (w1_2 : World), J7 out2 outN2 outC2 w1_2 → F44_j7 L3 x12 out2 outN2 outC2 w1_2 R) ∧
 (IdxA b bN x12 1 fun q14 =>
 LdI .i64 (w_2.cell? q14) fun x15 =>
 Calls Try.prog 58 #[(.slice out outN outC), (.int .i64 x15)] w_2 (post R fun v2 w1_2 =>
 ∃ (x18 : Bool), v2 = (.bool x18) ∧
 Br (!x18)
 (Al w1_2 #[(.int .i64 x15)] 3 fun g22 w1_3 =>
 Raw Try.prog (Builtin.append_ #[56, 56] 56 #[(.slice out outN outC), (.slice (some g22) 1 1)]) w1_3 fun v3 w1_4 =>
 ∃ (x23 : Option Addr) (x23N : Nat) (x23C : Nat), v3 = (.slice x23 x23N x23C) ∧
 J7 x23 x23N x23C w1_4)
 (J7 out outN outC w1_2))))
 (R (.returned (.slice out outN outC)) w_2)

def F44 (a : Option Addr) (aN : Nat) (aC : Nat) (b : Option Addr) (bN : Nat) (bC : Nat) (w_ : World) (R : Ending → World → Prop) : Prop :=
 Calls Try.prog 57 #[(.slice a aN aC)] w_ (post R fun v w1 =>
 ∃ (x9 : Option Addr) (x9N : Nat) (x9C : Nat), v = (.slice x9 x9N x9C) ∧
 ∃ (I : Option Addr → Nat → Nat → Int → World → Prop) (m : Option Addr → Nat → Nat → Int → World → Nat), I x9 x9N x9C (0 : Int) w1 ∧
 ∀ (out : Option Addr) (outN : Nat) (outC : Nat) (x12 : Int) (w1_2 : World), I out outN outC x12 w1_2 → F44_l3 b bN (fun out' outN' outC' x12' w2 => I out' outN' outC' x12' w2 ∧ m out' outN' outC' x12' w2 < m out outN outC x12 w1_2) out outN outC x12 w1_2 R)

def pl44 : Plan := ⟨26, ⟨[]⟩, [(7, ⟨[(5, (.s .slice))], [(5, 8), (14, 24)]⟩)], [(3, ⟨[(5, (.s .slice)), (12, (.s (.int .i64)))], [(5, 8), (12, 25)]⟩)]⟩

theorem eq44 (a : Option Addr) (aN : Nat) (aC : Nat) (b : Option Addr) (bN : Nat) (bC : Nat) (w : World) (R : Ending → World → Prop) : F44 a aN aC b bN bC w R = vc Try.prog Try.f44 pl44 R 100000 [.code (bodyOf Try.f44)] (argEnv 0 #[(.slice a aN aC), (.slice b bN bC)].toList) w := by kernel_rfl

theorem ok44 (a : Option Addr) (aN : Nat) (aC : Nat) (b : Option Addr) (bN : Nat) (bC : Nat) {w : World} {R : Ending → World → Prop} (h : F44 a aN aC b bN bC w R) : Calls Try.prog 44 #[(.slice a aN aC), (.slice b bN bC)] w R :=
  vc_calls (pl := pl44) Try.func44 (by kernel_rfl) (by kernel_rfl) (by kernel_rfl) (Eq.mp (eq44 a aN aC b bN bC w R) h)

-- slices.Clone[[]int,int]
def F57 (s : Option Addr) (sN : Nat) (sC : Nat) (w_ : World) (R : Ending → World → Prop) : Prop :=
 Br (s).isNone
 (R (.returned (.slice none 0 0)) w_)
 (Al w_ #[] 3 fun g5 w1 =>
 Raw Try.prog (Builtin.append_ #[56, 56] 56 #[(.slice (some g5) 0 0), (.slice s sN sC)]) w1 fun v w1_2 =>
 ∃ (x7 : Option Addr) (x7N : Nat) (x7C : Nat), v = (.slice x7 x7N x7C) ∧
 R (.returned (.slice x7 x7N x7C)) w1_2)

def pl57 : Plan := ⟨8, ⟨[]⟩, [], []⟩

theorem eq57 (s : Option Addr) (sN : Nat) (sC : Nat) (w : World) (R : Ending → World → Prop) : F57 s sN sC w R = vc Try.prog Try.f57 pl57 R 100000 [.code (bodyOf Try.f57)] (argEnv 0 #[(.slice s sN sC)].toList) w := by kernel_rfl

theorem ok57 (s : Option Addr) (sN : Nat) (sC : Nat) {w : World} {R : Ending → World → Prop} (h : F57 s sN sC w R) : Calls Try.prog 57 #[(.slice s sN sC)] w R :=
  vc_calls (pl := pl57) Try.func57 (by kernel_rfl) (by kernel_rfl) (by kernel_rfl) (Eq.mp (eq57 s sN sC w R) h)

-- slices.Contains[[]int,int]
def F58 (s : Option Addr) (sN : Nat) (sC : Nat) (v : Int) (w_ : World) (R : Ending → World → Prop) : Prop :=
 Calls Try.prog 77 #[(.slice s sN sC), (.int .i64 v)] w_ (post R fun v2 w1 =>
 ∃ (x7 : Int), v2 = (.int .i64 x7) ∧
 R (.returned (.bool (decide (x7 ≥ (0 : Int))))) w1)

def pl58 : Plan := ⟨9, ⟨[]⟩, [], []⟩

theorem eq58 (s : Option Addr) (sN : Nat) (sC : Nat) (v : Int) (w : World) (R : Ending → World → Prop) : F58 s sN sC v w R = vc Try.prog Try.f58 pl58 R 100000 [.code (bodyOf Try.f58)] (argEnv 0 #[(.slice s sN sC), (.int .i64 v)].toList) w := by kernel_rfl

theorem ok58 (s : Option Addr) (sN : Nat) (sC : Nat) (v : Int) {w : World} {R : Ending → World → Prop} (h : F58 s sN sC v w R) : Calls Try.prog 58 #[(.slice s sN sC), (.int .i64 v)] w R :=
  vc_calls (pl := pl58) Try.func58 (by kernel_rfl) (by kernel_rfl) (by kernel_rfl) (Eq.mp (eq58 s sN sC v w R) h)

-- slices.Index[[]int,int]
def F77_l2 (s : Option Addr) (sN : Nat) (v : Int) (L2 : Int → World → Prop) (x8 : Int) (w_2 : World) (R : Ending → World → Prop) : Prop :=
 Br (decide (x8 < ((sN : Nat) : Int)))
 (IdxA s sN x8 1 fun q14 =>
 LdI .i64 (w_2.cell? q14) fun x15 =>
 Br (v == x15)
 (R (.returned (.int .i64 x8)) w_2)
 (InR .i64 (x8 + (1 : Int)) ∧ L2 (x8 + (1 : Int)) w_2))
 (R (.returned (.int .i64 (-1))) w_2)

def F77 (s : Option Addr) (sN : Nat) (sC : Nat) (v : Int) (w_ : World) (R : Ending → World → Prop) : Prop :=
 ∃ (I : Int → World → Prop) (m : Int → World → Nat), I (0 : Int) w_ ∧
 ∀ (x8 : Int) (w1 : World), I x8 w1 → F77_l2 s sN v (fun x8' w2 => I x8' w2 ∧ m x8' w2 < m x8 w1) x8 w1 R

def pl77 : Plan := ⟨19, ⟨[]⟩, [], [(2, ⟨[(8, (.s (.int .i64)))], [(4, 6), (8, 19)]⟩)]⟩

theorem eq77 (s : Option Addr) (sN : Nat) (sC : Nat) (v : Int) (w : World) (R : Ending → World → Prop) : F77 s sN sC v w R = vc Try.prog Try.f77 pl77 R 100000 [.code (bodyOf Try.f77)] (argEnv 0 #[(.slice s sN sC), (.int .i64 v)].toList) w := by kernel_rfl

theorem ok77 (s : Option Addr) (sN : Nat) (sC : Nat) (v : Int) {w : World} {R : Ending → World → Prop} (h : F77 s sN sC v w R) : Calls Try.prog 77 #[(.slice s sN sC), (.int .i64 v)] w R :=
  vc_calls (pl := pl77) Try.func77 (by kernel_rfl) (by kernel_rfl) (by kernel_rfl) (Eq.mp (eq77 s sN sC v w R) h)

-- (*model.Model).run
def F28_j14 (L8 : Option Addr → Nat → Nat → Bool → Bool → Int → World → Prop) (x33 : Int) (next2 : Option Addr) (nextN2 : Nat) (nextC2 : Nat) (ok2 : Bool) (last2 : Bool) (w_4 : World) (R : Ending → World → Prop) : Prop :=
 InR .i64 (x33 + (1 : Int)) ∧ L8 next2 nextN2 nextC2 ok2 last2 (x33 + (1 : Int)) w_4

def F28_j13 (m_ : Option Addr) (next : Option Addr) (nextN : Nat) (nextC : Nat) (J14 : Option Addr → Nat → Nat → Bool → Bool → World → Prop) (x36 : Int) (last2 : Bool) (w_4 : World) (R : Ending → World → Prop) : Prop :=
 NonNil m_ fun p58 =>
 LdSl (w_4.cell? (p58.add 3)) fun x60 x60N x60C =>
 IdxA x60 x60N x36 1 fun q62 =>
 LdSl (w_4.cell? q62) fun x63 x63N x63C =>
 Calls Try.prog 44 #[(.slice next nextN nextC), (.slice x63 x63N x63C)] w_4 (post R fun v2 w1_3 =>
 ∃ (x64 : Option Addr) (x64N : Nat) (x64C : Nat), v2 = (.slice x64 x64N x64C) ∧
 J14 x64 x64N x64C true last2 w1_3)

def F28_l8 (m_ : Option Addr) (L3 : Option Addr → Nat → Nat → Bool → Int → World → Prop) (may : Option Addr) (mayN : Nat) (mayC : Nat) (is : Bool) (x26 : Int) (x30 : ByteArray) (L8 : Option Addr → Nat → Nat → Bool → Bool → Int → World → Prop) (next : Option Addr) (nextN : Nat) (nextC : Nat) (ok : Bool) (last : Bool) (x33 : Int) (w_3 : World) (R : Ending → World → Prop) : Prop :=
 Br (decide (x33 < ((mayN : Nat) : Int)))
 (∃ J14 : Option Addr → Nat → Nat → Bool → Bool → World → Prop, (∀ (next2 : Option Addr) (nextN2 : Nat) (nextC2 : Nat) (ok2 : Bool) (last2 : Bool) (w1_2 : World), J14 next2 nextN2 nextC2 ok2 last2 w1_2 → F28_j14 L8 x33 next2 nextN2 nextC2 ok2 last2 w1_2 R) ∧
 (IdxA may mayN x33 1 fun q35 =>
 LdI .i64 (w_3.cell? q35) fun x36 =>
 NonNil m_ fun p38 =>
 LdSl (w_3.cell? (p38.add 1)) fun x40 x40N x40C =>
 IdxA x40 x40N x36 1 fun q42 =>
 LdStr (w_3.cell? q42) fun x43 =>
 Calls Try.prog 43 #[(.string x43), (.string x30)] w_3 (post R fun v w1_2 =>
 ∃ (x45 : Bool), v = (.bool x45) ∧
 Br x45
 (∃ J13 : Bool → World → Prop, (∀ (last2 : Bool) (w1_3 : World), J13 last2 w1_3 → F28_j13 m_ next nextN nextC J14 x36 last2 w1_3 R) ∧
 (Br last
 (J13 true w1_2)
 (NonNil m_ fun p49 =>
 LdSl (w1_2.cell? (p49.add 4)) fun x51 x51N x51C =>
 IdxA x51 x51N x36 1 fun q53 =>
 LdB (w1_2.cell? q53) fun x54 =>
 J13 x54 w1_2)))
 (J14 next nextN nextC ok last w1_2))))
 (Br (!ok)
 (R (.returned (.tuple #[(.int .i64 x26), (.slice may mayN mayC), (.bool is)])) w_3)
 (InR .i64 (x26 + (1 : Int)) ∧ L3 next nextN nextC last (x26 + (1 : Int)) w_3))

def F28_l3 (m_ : Option Addr) (names : Option Addr) (namesN : Nat) (L3 : Option Addr → Nat → Nat → Bool → Int → World → Prop) (may : Option Addr) (mayN : Nat) (mayC : Nat) (is : Bool) (x26 : Int) (w_2 : World) (R : Ending → World → Prop) : Prop :=
 Br (decide (x26 < ((namesN : Nat) : Int)))
 (IdxA names namesN x26 1 fun q29 =>
 LdStr (w_2.cell? q29) fun x30 =>
 ∃ (I : Option Addr → Nat → Nat → Bool → Bool → Int → World → Prop) (m : Option Addr → Nat → Nat → Bool → Bool → Int → World → Nat), I none 0 0 false false (0 : Int) w_2 ∧
 ∀ (next : Option Addr) (nextN : Nat) (nextC : Nat) (ok : Bool) (last : Bool) (x33 : Int) (w1_2 : World), I next nextN nextC ok last x33 w1_2 → F28_l8 m_ L3 may mayN mayC is x26 x30 (fun next' nextN' nextC' ok' last' x33' w2 => I next' nextN' nextC' ok' last' x33' w2 ∧ m next' nextN' nextC' ok' last' x33' w2 < m next nextN nextC ok last x33 w1_2) next nextN nextC ok last x33 w1_2 R)
 (R (.returned (.tuple #[(.int .i64 ((namesN : Nat) : Int)), (.slice may mayN mayC), (.bool is)])) w_2)

def F28 (m_ : Option Addr) (names : Option Addr) (namesN : Nat) (namesC : Nat) (w_ : World) (R : Ending → World → Prop) : Prop :=
 Dr w_ fun w1 =>
 NonNil m_ fun p17 =>
 LdSl (w1.cell? (p17.add 2)) fun x19 x19N x19C =>
 NonNil m_ fun p21 =>
 LdB (w1.cell? (p21.add 5)) fun x23 =>
 ∃ (I : Option Addr → Nat → Nat → Bool → Int → World → Prop) (m : Option Addr → Nat → Nat → Bool → Int → World → Nat), I x19 x19N x19C x23 (0 : Int) w1 ∧
 ∀ (may : Option Addr) (mayN : Nat) (mayC : Nat) (is : Bool) (x26 : Int) (w1_2 : World), I may mayN mayC is x26 w1_2 → F28_l3 m_ names namesN (fun may' mayN' mayC' is' x26' w2 => I may' mayN' mayC' is' x26' w2 ∧ m may' mayN' mayC' is' x26' w2 < m may mayN mayC is x26 w1_2) may mayN mayC is x26 w1_2 R

def pl28 : Plan := ⟨78, ⟨[]⟩, [(13, ⟨[(13, (.s .bool))], [(13, 14), (46, 56)]⟩), (14, ⟨[(11, (.s .slice)), (12, (.s .bool)), (13, (.s .bool))], [(11, 16), (35, 65)]⟩)], [(8, ⟨[(11, (.s .slice)), (12, (.s .bool)), (13, (.s .bool)), (33, (.s (.int .i64)))], [(11, 16), (33, 66)]⟩), (3, ⟨[(7, (.s .slice)), (8, (.s .bool)), (26, (.s (.int .i64)))], [(4, 16), (26, 74)]⟩)]⟩

theorem eq28 (m_ : Option Addr) (names : Option Addr) (namesN : Nat) (namesC : Nat) (w : World) (R : Ending → World → Prop) : F28 m_ names namesN namesC w R = vc Try.prog Try.f28 pl28 R 100000 [.code (bodyOf Try.f28)] (argEnv 0 #[(.pointer m_), (.slice names namesN namesC)].toList) w := by kernel_rfl

theorem ok28 (m_ : Option Addr) (names : Option Addr) (namesN : Nat) (namesC : Nat) {w : World} {R : Ending → World → Prop} (h : F28 m_ names namesN namesC w R) : Calls Try.prog 28 #[(.pointer m_), (.slice names namesN namesC)] w R :=
  vc_calls (pl := pl28) Try.func28 (by kernel_rfl) (by kernel_rfl) (by kernel_rfl) (Eq.mp (eq28 m_ names namesN namesC w R) h)

-- model.fits
def F43 (atom : ByteArray) (name : ByteArray) (w_ : World) (R : Ending → World → Prop) : Prop :=
 Br (atom.toList == (ByteArray.mk #[46]).toList)
 (R (.returned (.bool true)) w_)
 (Br (atom.toList == (ByteArray.mk #[36]).toList)
 (Br (name.toList == (ByteArray.mk #[]).toList)
 (R (.returned (.bool true)) w_)
 (Br (atom.toList == name.toList)
 (R (.returned (.bool (!(atom.toList == (ByteArray.mk #[36]).toList)))) w_)
 (R (.returned (.bool false)) w_)))
 (Br (atom.toList == name.toList)
 (R (.returned (.bool (!(atom.toList == (ByteArray.mk #[36]).toList)))) w_)
 (R (.returned (.bool false)) w_)))

def pl43 : Plan := ⟨24, ⟨[]⟩, [], []⟩

theorem eq43 (atom : ByteArray) (name : ByteArray) (w : World) (R : Ending → World → Prop) : F43 atom name w R = vc Try.prog Try.f43 pl43 R 100000 [.code (bodyOf Try.f43)] (argEnv 0 #[(.string atom), (.string name)].toList) w := by kernel_rfl

theorem ok43 (atom : ByteArray) (name : ByteArray) {w : World} {R : Ending → World → Prop} (h : F43 atom name w R) : Calls Try.prog 43 #[(.string atom), (.string name)] w R :=
  vc_calls (pl := pl43) Try.func43 (by kernel_rfl) (by kernel_rfl) (by kernel_rfl) (Eq.mp (eq43 atom name w R) h)

-- (*model.Model).Match
def F11 (m_ : Option Addr) (names : Option Addr) (namesN : Nat) (namesC : Nat) (w_ : World) (R : Ending → World → Prop) : Prop :=
 Br (m_).isNone
 (R (.returned (.tuple #[(.bool false), (.int .i64 0)])) w_)
 (Calls Try.prog 28 #[(.pointer m_), (.slice names namesN namesC)] w_ (post R fun v w1 =>
 ∃ (x14_0 : Int) (x14_1 : Option Addr) (x14_1N : Nat) (x14_1C : Nat) (x14_2 : Bool), v = (.tuple #[(.int .i64 x14_0), (.slice x14_1 x14_1N x14_1C), (.bool x14_2)]) ∧
 Br x14_2
 (R (.returned (.tuple #[(.bool (x14_0 == ((namesN : Nat) : Int))), (.int .i64 x14_0)])) w1)
 (R (.returned (.tuple #[(.bool false), (.int .i64 x14_0)])) w1)))

def pl11 : Plan := ⟨26, ⟨[]⟩, [], []⟩

theorem eq11 (m_ : Option Addr) (names : Option Addr) (namesN : Nat) (namesC : Nat) (w : World) (R : Ending → World → Prop) : F11 m_ names namesN namesC w R = vc Try.prog Try.f11 pl11 R 100000 [.code (bodyOf Try.f11)] (argEnv 0 #[(.pointer m_), (.slice names namesN namesC)].toList) w := by kernel_rfl

theorem ok11 (m_ : Option Addr) (names : Option Addr) (namesN : Nat) (namesC : Nat) {w : World} {R : Ending → World → Prop} (h : F11 m_ names namesN namesC w R) : Calls Try.prog 11 #[(.pointer m_), (.slice names namesN namesC)] w R :=
  vc_calls (pl := pl11) Try.func11 (by kernel_rfl) (by kernel_rfl) (by kernel_rfl) (Eq.mp (eq11 m_ names namesN namesC w R) h)

-- (*model.Model).Clear
def F9_l10 (m_ : Option Addr) (x25 : Option Addr) (L7 : Int → World → Prop) (x28 : Int) (x32 : Int) (L10 : Int → World → Prop) (x37 : Int) (w_4 : World) (R : Ending → World → Prop) : Prop :=
 Br (decide (x37 < (((x28).toNat : Nat) : Int)))
 (IdxA x25 (x28).toNat x37 1 fun q39 =>
 LdI .i64 (w_4.cell? q39) fun x40 =>
 ∃ S2 : World → Prop, S2 w_4.drew ∧ NonNil m_ fun p42 =>
 ∃ (x44 : Option Addr) (x44N : Nat) (x44C : Nat), Held S2 (p42.add 1) (.slice x44 x44N x44C) ∧ IdxA x44 x44N x32 1 fun q46 =>
 ∃ (x47 : ByteArray), Held S2 q46 (.string x47) ∧ NonNil m_ fun p49 =>
 ∃ (x51 : Option Addr) (x51N : Nat) (x51C : Nat), Held S2 (p49.add 1) (.slice x51 x51N x51C) ∧ IdxA x51 x51N x40 1 fun q53 =>
 ∃ (x54 : ByteArray), Held S2 q53 (.string x54) ∧ Calls Try.prog 26 #[(.string x47), (.string x54)] w_4.drew (post R fun v2 w1_5 =>
 ∃ (x55 : Bool), v2 = (.bool x55) ∧
 Br x55
 (R (.returned (.bool false)) w1_5)
 (InR .i64 (x37 + (1 : Int)) ∧ L10 (x37 + (1 : Int)) w1_5)))
 (InR .i64 (x28 + (1 : Int)) ∧ L7 (x28 + (1 : Int)) w_4)

def F9_l7 (m_ : Option Addr) (L4 : Int → World → Prop) (x22 : Int) (x25 : Option Addr) (x25N : Nat) (x25C : Nat) (L7 : Int → World → Prop) (x28 : Int) (w_3 : World) (R : Ending → World → Prop) : Prop :=
 Br (decide (x28 < ((x25N : Nat) : Int)))
 (IdxA x25 x25N x28 1 fun q31 =>
 LdI .i64 (w_3.cell? q31) fun x32 =>
 SlB 0 x28 ((x25C : Nat) : Int)
 (∃ (I : Int → World → Prop) (m : Int → World → Nat), I (0 : Int) w_3 ∧
 ∀ (x37 : Int) (w1_4 : World), I x37 w1_4 → F9_l10 m_ x25 L7 x28 x32 (fun x37' w2 => I x37' w2 ∧ m x37' w2 < m x37 w1_4) x37 w1_4 R))
 (InR .i64 (x22 + (1 : Int)) ∧ L4 (x22 + (1 : Int)) w_3)

def F9_l4 (m_ : Option Addr) (x20 : Option Addr) (x20N : Nat) (L4 : Int → World → Prop) (x22 : Int) (w_2 : World) (R : Ending → World → Prop) : Prop :=
 Br (decide (x22 < ((x20N : Nat) : Int)))
 (IdxA x20 x20N x22 1 fun q24 =>
 LdSl (w_2.cell? q24) fun x25 x25N x25C =>
 ∃ (I : Int → World → Prop) (m : Int → World → Nat), I (0 : Int) w_2 ∧
 ∀ (x28 : Int) (w1_4 : World), I x28 w1_4 → F9_l7 m_ L4 x22 x25 x25N x25C (fun x28' w2 => I x28' w2 ∧ m x28' w2 < m x28 w1_4) x28 w1_4 R)
 (R (.returned (.bool true)) w_2)

def F9 (m_ : Option Addr) (w_ : World) (R : Ending → World → Prop) : Prop :=
 Br (m_).isNone
 (R (.returned (.bool true)) w_)
 (∃ S : World → Prop, S w_.drew ∧ NonNil m_ fun p12 =>
 ∃ (x14 : Option Addr) (x14N : Nat) (x14C : Nat), Held S (p12.add 2) (.slice x14 x14N x14C) ∧ NonNil m_ fun p17 =>
 ∃ (x19 : Option Addr) (x19N : Nat) (x19C : Nat), Held S (p17.add 3) (.slice x19 x19N x19C) ∧ Al w_.drew #[(.slice x14 x14N x14C)] 56 fun g15 w1_2 =>
 S w1_2 ∧ Raw Try.prog (Builtin.append_ #[57, 57] 57 #[(.slice (some g15) 1 1), (.slice x19 x19N x19C)]) w1_2 fun v w1_3 =>
 ∃ (x20 : Option Addr) (x20N : Nat) (x20C : Nat), v = (.slice x20 x20N x20C) ∧
 ∃ (I : Int → World → Prop) (m : Int → World → Nat), I (0 : Int) w1_3 ∧
 ∀ (x22 : Int) (w1_4 : World), I x22 w1_4 → F9_l4 m_ x20 x20N (fun x22' w2 => I x22' w2 ∧ m x22' w2 < m x22 w1_4) x22 w1_4 R)

def pl9 : Plan := ⟨59, ⟨[]⟩, [], [(10, ⟨[(37, (.s (.int .i64)))], [(2, 3), (8, 9), (37, 57)]⟩), (7, ⟨[(28, (.s (.int .i64)))], [(2, 3), (5, 9), (28, 58)]⟩), (4, ⟨[(22, (.s (.int .i64)))], [(2, 9), (22, 59)]⟩)]⟩

theorem eq9 (m_ : Option Addr) (w : World) (R : Ending → World → Prop) : F9 m_ w R = vc Try.prog Try.f9 pl9 R 100000 [.code (bodyOf Try.f9)] (argEnv 0 #[(.pointer m_)].toList) w := by kernel_rfl

theorem ok9 (m_ : Option Addr) {w : World} {R : Ending → World → Prop} (h : F9 m_ w R) : Calls Try.prog 9 #[(.pointer m_)] w R :=
  vc_calls (pl := pl9) Try.func9 (by kernel_rfl) (by kernel_rfl) (by kernel_rfl) (Eq.mp (eq9 m_ w R) h)

-- model.clash
def F26 (a : ByteArray) (b : ByteArray) (w_ : World) (R : Ending → World → Prop) : Prop :=
 Br (a.toList == b.toList)
 (R (.returned (.bool true)) w_)
 (Br (a.toList == (ByteArray.mk #[46]).toList)
 (R (.returned (.bool true)) w_)
 (R (.returned (.bool (b.toList == (ByteArray.mk #[46]).toList))) w_))

def pl26 : Plan := ⟨16, ⟨[]⟩, [], []⟩

theorem eq26 (a : ByteArray) (b : ByteArray) (w : World) (R : Ending → World → Prop) : F26 a b w R = vc Try.prog Try.f26 pl26 R 100000 [.code (bodyOf Try.f26)] (argEnv 0 #[(.string a), (.string b)].toList) w := by kernel_rfl

theorem ok26 (a : ByteArray) (b : ByteArray) {w : World} {R : Ending → World → Prop} (h : F26 a b w R) : Calls Try.prog 26 #[(.string a), (.string b)] w R :=
  vc_calls (pl := pl26) Try.func26 (by kernel_rfl) (by kernel_rfl) (by kernel_rfl) (Eq.mp (eq26 a b w R) h)

end Go.Proofs.Ytkmoeokfgkmlhaa
/- Models: lists of places in memory; joined. -/
namespace Go.Proofs.Ytkmoeokfgkmlhaa
open Go.RowKit Go.Vc Go.Mdl
set_option linter.unusedVariables false
set_option linter.unusedSimpArgs false
set_option maxRecDepth 100000
/-- Places in a row. -/
def LK : Lay Nat := ⟨1, fun n => [.int .i64 (n : Int)], fun _ => rfl, fun _ => by simp [Value.oneCell'], by decide⟩
section
variable {w w1 : World} {R : Ending → World → Prop} {A D : Option Addr} {c d : Nat} {a b xs : List Nat}
theorem Rd.k {xs : List Nat} (h : Rd LK w A c xs) {n : Nat} (hn : n = xs.length) {i : Int} {k : Nat} (hi : i = k) (hk : k < xs.length) {K : Addr → Prop}
    (hK : ∀ b o, w.cell? ⟨b, o, none⟩ = some (.int .i64 (xs[k] : Int)) → K ⟨b, o, none⟩) : IdxA A n i 1 K := by
  subst hi
  refine h.idx hn (by omega) (by omega) rfl fun b o hc => ?_
  simp only [Int.toNat_natCast] at hc
  exact hK b o (hc 0 _ rfl)
theorem index_calls {v : Nat} (h : Rd LK w A c xs) (hR : ∀ x : Int, (0 ≤ x ↔ v ∈ xs) → R (.returned (.int .i64 x)) w) :
    Calls Try.prog 77 #[.slice A xs.length c, .int .i64 (v : Int)] w R := by
  refine ok77 _ _ _ _ ?_
  unfold F77
  have hm := h.1
  have hm2 := h.2.1
  unfold maxLen at hm2
  refine ⟨fun i w1 => ∃ k : Nat, i = k ∧ k ≤ xs.length ∧ w1 = w ∧ v ∉ xs.take k, fun i _ => xs.length - i.toNat, ⟨0, rfl, by omega, rfl, by simp⟩, ?_⟩
  rintro i w1 ⟨k, rfl, hk, rfl, hnot⟩
  unfold F77_l2
  refine brd (fun hlt => ?_) (fun hge => ?_)
  · have hk2 : k < xs.length := by omega
    refine h.k rfl rfl hk2 fun b o c0 => ?_
    refine lI c0 ?_
    refine bre (fun he => ?_) (fun hne => ?_)
    · refine hR _ ⟨fun _ => ?_, fun _ => by omega⟩
      have : v = xs[k] := by omega
      rw [this]; exact List.getElem_mem _
    · refine ⟨inR_i64 (by omega) (by omega), ⟨k + 1, by simp, by omega, rfl, ?_⟩, by dsimp only; omega⟩
      rw [List.take_add_one, List.getElem?_eq_getElem hk2]
      simp only [Option.toList_some, List.mem_append, List.mem_singleton, not_or]
      exact ⟨hnot, fun e => hne (by omega)⟩
  · obtain rfl : k = xs.length := by omega
    rw [List.take_length] at hnot
    exact hR _ ⟨fun h => by omega, fun h => absurd h hnot⟩
theorem contains_calls {v : Nat} (h : Rd LK w A c xs) (hR : R (.returned (.bool (xs.contains v))) w) :
    Calls Try.prog 58 #[.slice A xs.length c, .int .i64 (v : Int)] w R := by
  refine ok58 _ _ _ _ ?_
  unfold F58
  refine index_calls h fun x hx => ⟨_, rfl, ?_⟩
  have : (decide (x ≥ (0 : Int))) = xs.contains v := by
    rw [Bool.eq_iff_iff, List.contains_iff_mem, ← hx]; simp
  rw [this]; exact hR
theorem clone_calls (h : Rd LK w A c xs) (hl : xs.length ≤ 1048576) (hR : ∀ X xc w', Own LK w' w.heap.size 3 (.slice X xs.length xc) xs → Below w.heap.size w w' → R (.returned (.slice X xs.length xc)) w') :
    Calls Try.prog 57 #[.slice A xs.length c] w R := by
  refine ok57 _ _ _ ?_
  unfold F57
  cases A with
  | none =>
    have h0 := h.2.2.1 rfl
    have : xs = [] := List.eq_nil_of_length_eq_zero (by have := h.1; omega)
    subst this
    exact hR none 0 w (Own.nil _ _ _ _) (Below.refl _ _)
  | some a =>
    rw [show (some a).isNone = false from rfl, Br_f]
    refine al fun g w1 hb hg hge => ?_
    refine ap (L := LK) (xs := []) (ys := xs) (base := w.heap.size) (.int .i64 0) 8 rfl rfl rfl rfl (Own.bare _ _ _ _ _) (h.keep hb) hb.size (by simp; omega) (by simp [maxLen]; omega) fun A' c' w2 ho hgr => ?_
    simp only [List.nil_append, List.length_nil, Nat.zero_add] at ho ⊢
    exact ⟨_, _, _, rfl, hR A' c' w2 ho (hb.trans hgr.below)⟩
theorem joined_len_le : ∀ (b a : List Nat), (joined a b).length ≤ a.length + b.length
  | [], a => by simp [joined]
  | x :: b, a => by
    have : joined a (x :: b) = joined (join1 a x) b := rfl
    rw [this]
    refine Nat.le_trans (joined_len_le b _) ?_
    unfold join1
    split <;> simp <;> omega
theorem joined_take (a b : List Nat) (k : Nat) (hk : k < b.length) : joined a (b.take (k + 1)) = join1 (joined a (b.take k)) b[k] := by
  unfold joined
  rw [List.take_add_one, List.getElem?_eq_getElem hk, Option.toList_some, List.foldl_append]
  rfl
theorem joined_calls (ha : Rd LK w A c a) (hb : Rd LK w D d b) (hl : a.length + b.length ≤ 1048576) (hR : ∀ X xc w', Own LK w' w.heap.size 3 (.slice X (joined a b).length xc) (joined a b) → Below w.heap.size w w' → R (.returned (.slice X (joined a b).length xc)) w') :
    Calls Try.prog 44 #[.slice A a.length c, .slice D b.length d] w R := by
  refine ok44 _ _ _ _ _ _ ?_
  unfold F44
  refine clone_calls ha (by omega) fun X xc w1 ho hb1 => ⟨_, _, _, rfl, ?_⟩
  refine ⟨fun Y m yc i w' => ∃ k : Nat, i = k ∧ k ≤ b.length ∧ Own LK w' w.heap.size 3 (.slice Y m yc) (joined a (b.take k)) ∧ Below w.heap.size w w', fun Y m yc i w' => b.length - i.toNat, ⟨0, rfl, by omega, ho, hb1⟩, ?_⟩
  clear ho hb1 w1
  rintro Y m yc i w1 ⟨k, rfl, hk, ho, hb1⟩
  unfold F44_l3
  have hm := ho.rd.1
  subst hm
  refine brd (fun hlt => ?_) (fun hge => ?_)
  · have hk2 : k < b.length := by omega
    have hj := joined_take a b k hk2
    refine ⟨fun Y2 m2 yc2 w2 => Own LK w2 w.heap.size 3 (.slice Y2 m2 yc2) (joined a (b.take (k + 1))) ∧ Below w.heap.size w w2, ?_, ?_⟩
    · rintro Y2 m2 yc2 w2 ⟨ho2, hb2⟩
      unfold F44_j7
      exact ⟨inR_i64 (by omega) (by omega), ⟨k + 1, by simp, by omega, ho2, hb2⟩, by dsimp only; omega⟩
    · refine (hb.keep hb1).k rfl rfl hk2 fun b' o' c0 => ?_
      refine lI c0 ?_
      refine contains_calls ho.rd.2 ⟨_, rfl, ?_⟩
      rw [hj]
      unfold join1
      cases hc : (joined a (b.take k)).contains b[k] with
      | true =>
        simp only [Bool.not_true, Br_f, if_true]
        exact ⟨ho, hb1⟩
      | false =>
        simp only [Bool.not_false, Br_t, Bool.false_eq_true, if_false]
        have hle := joined_len_le (b.take k) a
        rw [List.length_take] at hle
        refine ap1 (L := LK) (x := b[k]) (.int .i64 0) 8 rfl rfl rfl rfl ho hb1.size (by omega) (by simp [maxLen]; omega) fun A' c' w2 ho2 hg2 => ⟨A', _, c', rfl, ?_, hb1.trans hg2.below⟩
        exact ho2
  · obtain rfl : k = b.length := by omega
    rw [List.take_length] at ho ⊢
    exact hR Y yc w1 ho hb1
end
theorem fits_calls {w : World} {R : Ending → World → Prop} {a x : ByteArray} (h : R (.returned (.bool (fits a x))) w) : Calls Try.prog 43 #[.string a, .string x] w R := by
  refine ok43 _ _ ?_
  unfold F43
  simp only [bytes_eq]
  unfold fits at h
  have e1 : ByteArray.mk #[46] = Dt := rfl
  have e2 : ByteArray.mk #[36] = Dl := rfl
  have e3 : ByteArray.mk #[] = ByteArray.empty := rfl
  rw [e1, e2, e3]
  by_cases h1 : a = Dt
  · rw [decide_eq_true h1] at h ⊢; simpa [Br_t] using h
  rw [decide_eq_false h1] at h ⊢
  by_cases h2 : a = Dl
  · rw [decide_eq_true h2] at h ⊢
    by_cases h3 : x = ByteArray.empty
    · rw [decide_eq_true h3] at h ⊢; simpa [Br_t, Br_f] using h
    · rw [decide_eq_false h3] at h ⊢
      by_cases h4 : a = x
      · rw [decide_eq_true h4] at h ⊢; simpa [Br_t, Br_f] using h
      · rw [decide_eq_false h4] at h ⊢; simpa [Br_t, Br_f] using h
  · rw [decide_eq_false h2] at h ⊢
    by_cases h4 : a = x
    · rw [decide_eq_true h4] at h ⊢; simpa [Br_t, Br_f] using h
    · rw [decide_eq_false h4] at h ⊢; simpa [Br_t, Br_f] using h
end Go.Proofs.Ytkmoeokfgkmlhaa
/- Models: a model under construction. -/
namespace Go.Proofs.Ytkmoeokfgkmlhaa
open Go.RowKit Go.Vc Go.Mdl
set_option linter.unusedVariables false
set_option linter.unusedSimpArgs false
set_option maxRecDepth 100000
theorem all_set1 {α : Type} (L : Lay α) (h1 : L.n = 1) {x : α} {v : Value} (hv : L.cells x = [v]) : ∀ (xs : List α) (i : Nat), L.all (xs.set i x) = (L.all xs).set i v
  | [], i => by simp [Lay.all]
  | y :: ys, i => by
    have hy := L.len y
    rw [h1] at hy
    obtain ⟨u, hu⟩ := List.length_eq_one_iff.1 hy
    have e : ∀ zs, L.all (y :: zs) = u :: L.all zs := fun zs => by simp [Lay.all, hu]
    cases i with
    | zero => rw [List.set_cons_zero, e]; simp [Lay.all, hv]
    | succ i => rw [List.set_cons_succ, e, e, List.set_cons_succ, all_set1 L h1 hv ys i]
/-- An element of a row of the call's own is stored. -/
theorem Own.put {α : Type} {L : Lay α} {w : World} {base : Nat} {e : TypeId} {A : Option Addr} {n c : Nat} {xs : List α} (h : Own L w base e (.slice A n c) xs) (h1 : L.n = 1) {i : Int} {k : Nat} (hi : i = k) (hk : k < xs.length) {x : α} {v : Value} (hv : L.cells x = [v]) {K : World → Prop}
    (hK : ∀ w', Own L w' base e (.slice A n c) (xs.set k x) → Fm (fun b => rowOf (.slice A n c) = some b) w w' → K w') : IdxA A n i 1 fun q => St w q v fun w' => K w' := by
  subst hi
  rcases h with ⟨h, rfl⟩ | ⟨_, rfl⟩ | ⟨g, c', cur, hs, hb, hh, hn, hm, hsz, ht⟩
  · simp at hk
  · simp at hk
  · simp only [Value.slice.injEq] at hs
    obtain ⟨rfl, rfl, rfl⟩ := hs
    rw [h1, Nat.mul_one] at hsz ht
    rw [IdxA_some (by omega) (by omega), Addr.add_mk, Nat.zero_add, Nat.mul_one, Int.toNat_natCast]
    refine ⟨⟨cur[k]'(by omega), by rw [Blk.cell hh]; simp [show k < cur.size by omega]⟩, Blk.frozen hh k, hK _ (.inr (.inr ⟨g, c', cur.setIfInBounds k v, by simp, hb, Blk.set hh k v, by simpa using hn, hm, by simp [h1, hsz], ?_⟩)) ⟨rfl, rfl, rfl, by simp, fun b hb2 hne => Below.heap_setCell _ _ _ _ fun e => hne (by rw [e]; rfl)⟩⟩
    rw [h1, Nat.mul_one, List.length_set, all_set1 L h1 hv, ← ht, Array.toList_setIfInBounds, List.take_set]
/-! ### What turns while a model is made -/
def tyAt (w : World) (b : Nat) (p : TypeId → Bool) : Prop := ∃ c t f, w.heap[b]? = some (.cells c t f) ∧ p t = true
def isMut (t : TypeId) : Bool := Nat.beq t 60 || (Nat.beq t 9 || Nat.beq t 56)
def isInt (t : TypeId) : Bool := Nat.beq t 3
def Mt (B : Nat) (w : World) (b : Nat) : Prop := B ≤ b ∧ tyAt w b isMut
def Fi (B : Nat) (w w1 : World) : Prop := Fm (Mt B w) w w1
section
variable {B : Nat} {w w1 w2 : World} {M : Nat → Prop}
theorem tyAt_blk {b : Nat} {c : Array Value} {t : TypeId} {p : TypeId → Bool} (h : Blk w b c t) (hp : p t = false) : ¬ tyAt w b p := by
  rintro ⟨c', t', f', h1, h2⟩
  unfold Blk at h
  rw [h] at h1
  cases h1
  rw [hp] at h2; cases h2
theorem tyAt_heap {b : Nat} {p : TypeId → Bool} (h : w1.heap[b]? = w.heap[b]?) : tyAt w1 b p ↔ tyAt w b p := by unfold tyAt; rw [h]
theorem Fi.trans (h : Fi B w w1) (k : Fi B w1 w2) : Fi B w w2 :=
  ⟨k.os.trans h.os, k.tape.trans h.tape, k.output.trans h.output, Nat.le_trans h.size k.size, fun b hb hm => by
    have h1 := h.block b hb hm
    refine (k.block b (Nat.lt_of_lt_of_le hb h.size) fun hm2 => hm ⟨hm2.1, (tyAt_heap h1).1 hm2.2⟩).trans h1⟩
theorem Fi.refl (B : Nat) (w : World) : Fi B w w := Fm.refl _ _
theorem Fi.below (h : Below w.heap.size w w1) : Fi B w w1 := Fm.below h
theorem Fi.of (h : Fm M w w1) (hm : ∀ b, b < w.heap.size → M b → Mt B w b) : Fi B w w1 := h.mono hm
/-- Behind a step that turns only blocks made since. -/
theorem Fi.new (h : Fi B w w1) (k : Fm M w1 w2) (hm : ∀ b, b < w.heap.size → ¬ M b) : Fi B w w2 := Fm.trans' h k hm
theorem Fi.blk (h : Fi B w w1) {b : Nat} {c : Array Value} {t : TypeId} (hb : Blk w b c t) (ht : isMut t = false) : Blk w1 b c t := Fm.blk h hb fun hm => tyAt_blk hb ht hm.2
theorem Fi.sub (h : Fi B w w1) {w0 : World} (h0 : Sub w0 w) (hB : ∀ b c t f, w0.heap[b]? = some (.cells c t f) → b < B) : Sub w0 w1 := fun b c t f hc => by
  have h1 := h0 b c t f hc
  have hlt := (Array.getElem?_eq_some_iff.1 h1).1
  rw [Fm.block h b hlt fun hm => by have := hB b c t f hc; have := hm.1; omega]
  exact h1
/-! ### Lists of places -/
/-- A list of places, made from block B on. -/
def RdI (B : Nat) (w : World) (v : Sv) (xs : List Nat) : Prop := v.2.1 = xs.length ∧ Rd LK w v.1 v.2.2 xs ∧ (0 < xs.length → ∀ a, v.1 = some a → B ≤ a.block ∧ tyAt w a.block isInt)
theorem RdI.fm {v : Sv} {xs : List Nat} (h : RdI B w v xs) (hf : Fm M w w1) (hm : ∀ b, M b → ¬ tyAt w b isInt) : RdI B w1 v xs := by
  obtain ⟨h1, h2, h3⟩ := h
  have key : ∀ a, 0 < xs.length → v.1 = some a → w1.heap[a.block]? = w.heap[a.block]? := fun a h0 ha => by
    have h4 := (h3 h0 a ha).2
    obtain ⟨c, t, f, h5, _⟩ := h4
    exact hf.block _ (Array.getElem?_eq_some_iff.1 h5).1 fun hM => hm _ hM (h3 h0 a ha).2
  refine ⟨h1, ⟨h2.1, h2.2.1, h2.2.2.1, fun h0 => ?_⟩, fun h0 a ha => ⟨(h3 h0 a ha).1, (tyAt_heap (key a h0 ha)).2 (h3 h0 a ha).2⟩⟩
  obtain ⟨b, o, hA, hc⟩ := h2.2.2.2 h0
  refine ⟨b, o, hA, fun j u hj => ?_⟩
  have := hc j u hj
  unfold World.cell? at this ⊢
  rw [key _ h0 hA]
  exact this
theorem RdI.fi {B' : Nat} {v : Sv} {xs : List Nat} (h : RdI B w v xs) (hf : Fi B' w w1) : RdI B w1 v xs := h.fm hf fun b hm hi => by
  obtain ⟨c, t, f, h1, h2⟩ := hm.2
  obtain ⟨c', t', f', h3, h4⟩ := hi
  rw [h1] at h3
  cases h3
  unfold isInt at h4
  have := Nat.eq_of_beq_eq_true h4
  subst this
  revert h2; decide
theorem RdI.below {v : Sv} {xs : List Nat} (h : RdI B w v xs) (hf : Below w.heap.size w w1) : RdI B w1 v xs := h.fm (M := fun _ => False) (.below hf) fun _ h => h.elim
theorem RdI.nil (B : Nat) (w : World) : RdI B w (none, 0, 0) [] := ⟨rfl, Rd.nil _ _, by simp⟩
theorem RdI.weak {B' : Nat} {v : Sv} {xs : List Nat} (h : RdI B w v xs) (hB : B' ≤ B) : RdI B' w v xs := ⟨h.1, h.2.1, fun h0 a ha => ⟨Nat.le_trans hB (h.2.2 h0 a ha).1, (h.2.2 h0 a ha).2⟩⟩
theorem RdI.sub {v : Sv} {xs : List Nat} (h : RdI B w v xs) (hs : Sub w w1) : RdI B w1 v xs :=
  ⟨h.1, hs.rd h.2.1, fun h0 a ha => ⟨(h.2.2 h0 a ha).1, by
    obtain ⟨c, t, f, h1, h2⟩ := (h.2.2 h0 a ha).2
    exact ⟨c, t, f, hs _ _ _ _ h1, h2⟩⟩⟩
/-- It reads only what is there from B on. -/
theorem RdI.above {v : Sv} {xs : List Nat} (h : RdI B w v xs) : RdI B (above B w) v xs := by
  obtain ⟨h1, h2, h3⟩ := h
  refine ⟨h1, ⟨h2.1, h2.2.1, h2.2.2.1, fun h0 => ?_⟩, fun h0 a ha => ⟨(h3 h0 a ha).1, ?_⟩⟩
  · obtain ⟨b, o, hA, hc⟩ := h2.2.2.2 h0
    refine ⟨b, o, hA, fun j u hj => ?_⟩
    have h4 := hc j u hj
    have hb : B ≤ b := (h3 h0 _ hA).1
    unfold World.cell? at h4 ⊢
    split at h4
    · rename_i c t fr he
      have := cells_only (ok := fun b => Nat.ble B b) (Nat.ble_eq_true_of_le hb) he
      unfold Ytkmoeokfgkmlhaa.above
      rw [this]; exact h4
    · cases h4
  · obtain ⟨c, t, f, h4, h5⟩ := (h3 h0 a ha).2
    exact ⟨c, t, f, cells_only (ok := fun b => Nat.ble B b) (Nat.ble_eq_true_of_le (h3 h0 a ha).1) h4, h5⟩
theorem RdI.own {k : Nat} {X : Option Addr} {n xc : Nat} {xs : List Nat} (h : Own LK w k 3 (.slice X n xc) xs) (hB : B ≤ k) : RdI B w (X, n, xc) xs := by
  obtain ⟨h1, h2⟩ := h.rd
  refine ⟨h1, h2, fun h0 a ha => ?_⟩
  rcases h with ⟨_, rfl⟩ | ⟨_, rfl⟩ | ⟨g, c', cur, hs, hb, hh, _⟩
  · simp at h0
  · simp at h0
  · simp only [Value.slice.injEq] at hs
    obtain ⟨rfl, _, _⟩ := hs
    cases ha
    exact ⟨Nat.le_trans hB hb, cur, _, _, hh, rfl⟩
/-- joined, of lists in memory. -/
theorem joinI {B1 B2 : Nat} {R : Ending → World → Prop} {v u : Sv} {a b : List Nat} (hB : B ≤ w.heap.size) (ha : RdI B1 w v a) (hb : RdI B2 w u b) (hl : a.length + b.length ≤ 1048576) (hR : ∀ (x : Sv) w', RdI B w' x (joined a b) → Below w.heap.size w w' → R (.returned (.slice x.1 x.2.1 x.2.2)) w') :
    Calls Try.prog 44 #[.slice v.1 v.2.1 v.2.2, .slice u.1 u.2.1 u.2.2] w R := by
  rw [ha.1, hb.1]
  exact joined_calls ha.2.1 hb.2.1 hl fun X xc w' ho hb' => hR (X, _, xc) w' (.own ho hB) hb'
/-! ### The model -/
def LSt : Lay ByteArray := ⟨1, fun s => [.string s], fun _ => rfl, fun _ => by simp [Value.oneCell'], by decide⟩
def RdF (B : Nat) (w : World) (vs : List Sv) (fol : List (List Nat)) : Prop := vs.length = fol.length ∧ ∀ (i : Nat) v l, vs[i]? = some v → fol[i]? = some l → RdI B w v l
abbrev mB (sl a f fs ls : Sv) (e : Bool) : Array Value := #[.slice sl.1 sl.2.1 sl.2.2, .slice a.1 a.2.1 a.2.2, .slice fs.1 fs.2.1 fs.2.2, .slice f.1 f.2.1 f.2.2, .slice ls.1 ls.2.1 ls.2.2, .bool e]
structure MI (B : Nat) (w : World) (g : Nat) (sl a f : Sv) (gs : GS) : Prop where
  ge : B ≤ g
  blk : Blk w g (mB sl a f (none, 0, 0) (none, 0, 0) false) 60
  at_ : Own LSt w B 9 (.slice a.1 a.2.1 a.2.2) gs.1
  fol : ∃ vs, Own LSv w B 56 (.slice f.1 f.2.1 f.2.2) vs ∧ RdF B w vs gs.2
def Harm (t : TypeId) : Bool := isMut t || isInt t
theorem MI.keep {g : Nat} {sl a f : Sv} {gs : GS} (h : MI B w g sl a f gs) (hf : Fm M w w1) (hm : ∀ b, M b → ¬ tyAt w b Harm) : MI B w1 g sl a f gs := by
  have hty : ∀ {b c t}, Blk w b c t → Harm t = true → ¬ M b := fun hb ht hM => hm _ hM ⟨_, _, _, hb, ht⟩
  obtain ⟨vs, h1, h2, h3⟩ := h.fol
  have row : ∀ {α : Type} {L : Lay α} {v : Value} {xs : List α} {e : TypeId}, Own L w B e v xs → Harm e = true → Own L w1 B e v xs := by
    intro α L v xs e ho he
    rcases ho with ho | ho | ⟨g, c, cur, rfl, hb, hh, hn, hmx, hs, ht⟩
    · exact .inl ho
    · exact .inr (.inl ho)
    · exact .inr (.inr ⟨g, c, cur, rfl, hb, hf.blk hh (hty hh he), hn, hmx, hs, ht⟩)
  exact ⟨h.ge, hf.blk h.blk (hty h.blk (by decide)), row h.at_ (by decide), vs, row h1 (by decide), h2, fun i v l k1 k2 => (h3 i v l k1 k2).fm hf fun b hM hi => hm b hM (by
    obtain ⟨c, t, f, q1, q2⟩ := hi
    exact ⟨c, t, f, q1, by unfold Harm; rw [q2]; simp⟩)⟩
theorem MI.below {g : Nat} {sl a f : Sv} {gs : GS} (h : MI B w g sl a f gs) (hf : Below w.heap.size w w1) : MI B w1 g sl a f gs := h.keep (M := fun _ => False) (.below hf) fun _ h => h.elim
theorem MI.box {g b : Nat} {sl a f : Sv} {gs : GS} {c : Array Value} {t : TypeId} (h : MI B w g sl a f gs) (hb : Blk w b c t) (ht : Harm t = false) (hf : Fm (· = b) w w1) : MI B w1 g sl a f gs :=
  h.keep hf fun _ e => e ▸ tyAt_blk hb ht
theorem RdI.box {b : Nat} {v : Sv} {xs : List Nat} {c : Array Value} {t : TypeId} (h : RdI B w v xs) (hb : Blk w b c t) (ht : isInt t = false) (hf : Fm (· = b) w w1) : RdI B w1 v xs :=
  h.fm hf fun _ e => e ▸ tyAt_blk hb ht
theorem MI.lens {g : Nat} {sl a f : Sv} {gs : GS} (h : MI B w g sl a f gs) : a.2.1 = gs.1.length ∧ f.2.1 = gs.2.length := by
  obtain ⟨vs, h1, h2, _⟩ := h.fol
  exact ⟨h.at_.rd.1, h1.rd.1.trans h2⟩
theorem MI.lt {g : Nat} {sl a f : Sv} {gs : GS} (h : MI B w g sl a f gs) : g < w.heap.size := h.blk.lt
/-- The row of what follows is written. -/
theorem fol_fi {g : Nat} {sl a f : Sv} {gs : GS} (h : MI B w g sl a f gs) (hf : Fm (fun b => rowOf (.slice f.1 f.2.1 f.2.2) = some b) w w1) : Fi B w w1 := by
  obtain ⟨vs, h1, _⟩ := h.fol
  refine Fi.of hf fun b hb hr => ⟨(h1.lt b hr).1, ?_⟩
  rcases h1 with ⟨e, _⟩ | ⟨⟨q, e⟩, _⟩ | ⟨g, c, cur, e, hb2, hh, _⟩
  · rw [e] at hr; cases hr
  · rw [e] at hr; cases hr
  · rw [e] at hr; cases hr
    exact ⟨cur, _, _, hh, rfl⟩
theorem row_not {α : Type} {L : Lay α} {v : Value} {xs : List α} {e : TypeId} {p : TypeId → Bool} (h : Own L w B e v xs) (hp : p e = false) : ∀ b, rowOf v = some b → ¬ tyAt w b p := by
  intro b hr
  rcases h with ⟨rfl, _⟩ | ⟨⟨q, rfl⟩, _⟩ | ⟨g, c, cur, rfl, hb2, hh, _⟩
  · cases hr
  · cases hr
  · cases hr
    exact tyAt_blk hh hp
theorem behind_calls {g : Nat} {sl a f v u : Sv} {gs : GS} {last first : List Nat} {R : Ending → World → Prop} (h : MI B w g sl a f gs) (hi : GI gs) (h128 : gs.1.length ≤ 128) (hv : RdI B w v last) (hu : RdI B w u first) (hl : ∀ k ∈ last, k < gs.1.length) (hfw : Few gs.1.length first) (hll : last.length ≤ 128)
    (hR : ∀ w', MI B w' g sl a f (gs.1, behind gs.2 last first) → Fi B w w' → R (.returned (.tuple #[])) w') :
    Calls Try.prog 73 #[.pointer (some ⟨g, 0, none⟩), .slice v.1 v.2.1 v.2.2, .slice u.1 u.2.1 u.2.2] w R := by
  refine ok73 _ _ _ _ _ _ _ ?_
  unfold F73
  refine ⟨fun i w1 => ∃ k : Nat, i = k ∧ k ≤ last.length ∧ MI B w1 g sl a f (gs.1, behind gs.2 (last.take k) first) ∧ GI (gs.1, behind gs.2 (last.take k) first) ∧ Fi B w w1, fun i _ => last.length - i.toNat, ⟨0, rfl, by omega, h, hi, Fi.refl _ _⟩, ?_⟩
  rintro i w1 ⟨k, rfl, hk, h1, hi1, f1⟩
  unfold F73_l1
  have hv1 := hv.fi f1
  have hu1 := hu.fi f1
  refine brd (fun hlt => ?_) (fun hge => ?_)
  · have hk2 : k < last.length := by have := hv.1; omega
    have hj := hl _ (List.getElem_mem hk2)
    refine hv1.2.1.k hv1.1 rfl hk2 fun b o c0 => ?_
    refine lI c0 ?_
    refine ⟨fun w' => Below w1.heap.size w1 w', (Below.refl _ _).drew, ?_⟩
    have hm := h1.blk.cell
    have ldf : Held (fun w' => Below w1.heap.size w1 w') ⟨g, 3, none⟩ (.slice f.1 f.2.1 f.2.2) := fun w' hb => kcell hb (hm 3)
    simp only [NonNil_some, Addr.add_mk, Nat.zero_add]
    refine ⟨f.1, f.2.1, f.2.2, ldf, f.1, f.2.1, f.2.2, ldf, ?_⟩
    obtain ⟨vs, o1, o2, o3⟩ := h1.fol
    have hlen : (behind gs.2 (last.take k) first).length = gs.1.length := hi1.1.symm
    have hjv : last[k] < vs.length := by rw [o2]; dsimp only; omega
    have hjf : last[k] < (behind gs.2 (last.take k) first).length := by omega
    refine o1.rd.2.held (fun _ h => h) o1.rd.1 (i := (last[k] : Int)) (by omega) (by rw [o1.rd.1]; omega) rfl fun b' o' hc => ?_
    simp only [Int.toNat_natCast] at hc
    refine ⟨_, _, _, hc 0 _ rfl, ?_⟩
    have hr : RdI B w1 vs[last[k]] ((behind gs.2 (last.take k) first)[last[k]]) := o3 _ _ _ (List.getElem?_eq_getElem hjv) (List.getElem?_eq_getElem hjf)
    have hd : Below w1.heap.size w1 w1.drew := (Below.refl _ _).drew
    have hfew := hi1.2 _ (List.getElem_mem hjf)
    have hl1 := hfew.len
    have hl2 := hfw.len
    dsimp only at hl1
    refine joinI (B := B) (by have := h1.lt; have := h1.ge; show B ≤ w1.heap.size; omega) (hr.below hd) (hu1.below hd) (by omega) fun x w2 hx hb2 => ?_
    have hb12 : Below w1.heap.size w1 w2 := btr hd hd.size hb2
    refine ⟨_, _, _, rfl, hb12, ?_⟩
    have o1' := o1.keep hb12
    refine o1'.put rfl rfl hjv (x := x) rfl fun w3 o4 f3 => ⟨inR_i64 (by have := hv.1; omega) (by have := hv.1; omega), ⟨k + 1, by simp, by omega, ?_, ?_, ?_⟩, by have := hv.1; first | omega | (dsimp only; omega)⟩
    · rw [behind_take _ _ _ _ hk2, behind1_at _ _ _ hjf]
      have h2 := h1.below hb12
      have hnot := row_not (p := isInt) o1' (by decide)
      refine ⟨h1.ge, ?_, ?_, _, o4, ?_, ?_⟩
      · exact f3.blk h2.blk (fun hr => row_not (p := fun t => Nat.beq t 60) o1' (by decide) _ hr ⟨_, _, _, h2.blk, by decide⟩)
      · rcases h2.at_ with q | q | ⟨g2, c2, cur2, q1, q2, q3, q4⟩
        · exact .inl q
        · exact .inr (.inl q)
        · exact .inr (.inr ⟨g2, c2, cur2, q1, q2, f3.blk q3 (fun hr => row_not (p := fun t => Nat.beq t 9) o1' (by decide) _ hr ⟨_, _, _, q3, by decide⟩), q4⟩)
      · simp [o2]
      · intro i v' l' q1 q2
        by_cases hil : i = last[k]
        · subst hil
          simp only [List.getElem?_set_self hjv, List.getElem?_set_self hjf, Option.some.injEq] at q1 q2
          subst q1 q2
          exact hx.fm f3 hnot
        · rw [List.getElem?_set_ne (Ne.symm hil)] at q1
          dsimp only at q2
          rw [List.getElem?_set_ne (Ne.symm hil)] at q2
          exact ((o3 i v' l' q1 q2).below hb12).fm f3 hnot
    · have := GI.behind1 hi1 hfw.2 last[k]
      rw [behind_take _ _ _ _ hk2]; exact this
    · exact f1.trans ((Fi.below hb12).trans (fol_fi (h1.below hb12) f3))
  · obtain rfl : k = last.length := by have := hv.1; omega
    rw [List.take_length] at h1
    exact hR w1 h1 f1
end
end Go.Proofs.Ytkmoeokfgkmlhaa
/- Models: a model's parts, rows and choices are placed. -/
namespace Go.Proofs.Ytkmoeokfgkmlhaa
open Go.RowKit Go.Vc Go.Mdl
set_option linter.unusedVariables false
set_option linter.unusedSimpArgs false
set_option maxRecDepth 100000
abbrev pB (x y : Sv) (e : Bool) : Array Value := #[.slice x.1 x.2.1 x.2.2, .slice y.1 y.2.1 y.2.2, .bool e]
abbrev pV (x y : Sv) (e : Bool) : Value := .agg (pB x y e)
section
variable {w w1 : World} {R : Ending → World → Prop} {g B : Nat}
theorem sizeP {c0 : Array Value} (h0 : c0.size = 3) : ∃ x y z, c0 = #[x, y, z] := by
  obtain ⟨l⟩ := c0
  match l, h0 with
  | [x, y, z], _ => exact ⟨x, y, z, rfl⟩
/-- A piece is written. -/
theorem stP {g2 : Nat} {c0 : Array Value} (hg : Blk w g2 c0 80) (h0 : c0.size = 3) {a p : Option Addr} {b d n c : Nat} {k : Bool} {K : World → Prop}
    (h : ∀ w', Fm (· = g2) w w' → Blk w' g2 (pB (a, b, d) (p, n, c) k) 80 → K w') :
    St w ⟨g2, 0, none⟩ (.slice a b d) fun w1 => St w1 (Addr.add ⟨g2, 0, none⟩ 1) (.slice p n c) fun w2 => St w2 (Addr.add ⟨g2, 0, none⟩ 2) (.bool k) fun w3 => K w3 := by
  obtain ⟨x, y, z, rfl⟩ := sizeP h0
  simp only [Addr.add_mk, Nat.zero_add]
  refine st_blk hg (by simp) fun w1 hb1 f1 => st_blk hb1 (by simp) fun w2 hb2 f2 => st_blk hb2 (by simp) fun w3 hb3 f3 => ?_
  exact h w3 ((f1.trans f2).trans f3) hb3
theorem ldP {g2 : Nat} {x y : Sv} {e : Bool} (hb : Blk w g2 (pB x y e) 80) {K : Option Addr → Nat → Nat → Option Addr → Nat → Nat → Bool → Prop} (h : K x.1 x.2.1 x.2.2 y.1 y.2.1 y.2.2 e) :
    LdSl (w.cell? ⟨g2, 0, none⟩) fun a b c => LdSl (w.cell? (Addr.add ⟨g2, 0, none⟩ 1)) fun p n d => LdB (w.cell? (Addr.add ⟨g2, 0, none⟩ 2)) fun k => K a b c p n d k := by
  simp only [hb.cell, Addr.add_mk, List.getElem?_toArray, List.getElem?_cons_zero, List.getElem?_cons_succ, LdI_some, LdB_some, LdStr_some, LdP_some, LdSl_some, LdM_some, Nat.zero_add, Br_t, Br_f]
  exact h
theorem resP {g2 : Nat} {c0 : Array Value} (hg : Blk w g2 c0 80) (h0 : c0.size = 3) {a p : Option Addr} {b d n c : Nat} {k : Bool}
    (h : ∀ w', Fm (· = g2) w w' → Blk w' g2 (pB (a, b, d) (p, n, c) k) 80 → R (.returned (pV (a, b, d) (p, n, c) k)) w') :
    St w ⟨g2, 0, none⟩ (.slice a b d) fun w1 => St w1 (Addr.add ⟨g2, 0, none⟩ 1) (.slice p n c) fun w2 => St w2 (Addr.add ⟨g2, 0, none⟩ 2) (.bool k) fun w3 =>
      LdSl (w3.cell? ⟨g2, 0, none⟩) fun a' b' c' => LdSl (w3.cell? (Addr.add ⟨g2, 0, none⟩ 1)) fun p' n' d' => LdB (w3.cell? (Addr.add ⟨g2, 0, none⟩ 2)) fun k' =>
        R (.returned (.agg #[.slice a' b' c', .slice p' n' d', .bool k'])) w3 :=
  stP hg h0 fun w' f hb => ldP hb (h w' f hb)
/-- Those that a model is made of were there before. -/
structure Old (w0 : World) (B : Nat) : Prop where
  lt : ∀ b c t f, w0.heap[b]? = some (.cells c t f) → b < B
/-- What a part, a row, choices end in. -/
def EndsM (R : Ending → World → Prop) (B : Nat) (w : World) (g : Nat) (sl : Sv) (r : Pc × GS) : Prop := ∀ (x y a f : Sv) w', MI B w' g sl a f r.2 → RdI B w' x r.1.first → RdI B w' y r.1.last → Fi B w w' → R (.returned (pV x y r.1.empty)) w'
def CM (rows : List (List Part)) : Prop := ∀ (w0 : World) (B : Nat) (w : World) (g : Nat) (sl a f : Sv) (gs : GS) (v : Sv) (R : Ending → World → Prop), Old w0 B → Sub w0 w → MI B w g sl a f gs → GI gs → gs.1.length + cC rows ≤ 128 → RdC w0 rows v →
  EndsM R B w g sl (uC rows gs ⟨[], [], false⟩) → Calls Try.prog 36 #[.pointer (some ⟨g, 0, none⟩), .slice v.1 v.2.1 v.2.2] w R
/-- While two rows of a model grow. -/
structure RI (B g : Nat) (sl a f : Sv) (fol : List (List Nat)) (bx : List (Nat × Array Value × TypeId)) (wB : World) (va vf : Value) (xs : List ByteArray) (vs : List Sv) (w : World) : Prop where
  blk : Blk w g (mB sl a f (none, 0, 0) (none, 0, 0) false) 60
  at_ : Own LSt w B 9 va xs
  fo : Own LSv w B 56 vf vs
  rdf : ∀ (i : Nat) v l, vs[i]? = some v → fol[i]? = some l → RdI B w v l
  box : ∀ p ∈ bx, Blk w p.1 p.2.1 p.2.2
  fi : Fi B wB w
theorem Own.fmT {α : Type} {L : Lay α} {v : Value} {xs : List α} {e : TypeId} {M : Nat → Prop} (h : Own L w B e v xs) (hf : Fm M w w1) (hm : ∀ b, M b → ¬ tyAt w b (fun t => Nat.beq t e)) : Own L w1 B e v xs := by
  rcases h with h | h | ⟨g, c, cur, rfl, hb, hh, hn, hmx, hs, ht⟩
  · exact .inl h
  · exact .inr (.inl h)
  · refine .inr (.inr ⟨g, c, cur, rfl, hb, hf.blk hh (fun hM => hm g hM ⟨_, _, _, hh, ?_⟩), hn, hmx, hs, ht⟩)
    show Nat.beq e e = true
    exact Nat.beq_refl e
section
variable {sl a f : Sv} {fol : List (List Nat)} {bx : List (Nat × Array Value × TypeId)} {wB : World} {va vf : Value} {xs : List ByteArray} {vs : List Sv}
theorem RI.below (h : RI B g sl a f fol bx wB va vf xs vs w) (hb : Below w.heap.size w w1) : RI B g sl a f fol bx wB va vf xs vs w1 :=
  ⟨h.blk.keep hb, h.at_.keep hb, h.fo.keep hb, fun i v l h1 h2 => (h.rdf i v l h1 h2).below hb, fun p hp => (h.box p hp).keep hb, h.fi.trans (.below hb)⟩
theorem RI.appA (h : RI B g sl a f fol bx wB va vf xs vs w) {g17 : Nat} {x : ByteArray} (hg : Blk w g17 #[.string x] 9) (hbx : ∀ p ∈ bx, Nat.beq p.2.2 9 = false) (hB : B ≤ w.heap.size) (hl : xs.length ≤ 128) {K : Value → World → Prop}
    (hK : ∀ A c w1, RI B g sl a f fol bx wB (.slice A (xs.length + 1) c) vf (xs ++ [x]) vs w1 → Fm (fun b => rowOf va = some b) w w1 → K (.slice A (xs.length + 1) c) w1) :
    Raw Try.prog (Builtin.append_ #[33, 33] 33 #[va, .slice (some ⟨g17, 0, none⟩) 1 1]) w K := by
  have hrd : Rd LSt w (some ⟨g17, 0, none⟩) 1 [x] := (Own.lit' (L := LSt) (xs := [x]) (base := 0) hg (Nat.zero_le _) rfl (by simp [maxLen])).rd.2
  refine ap (L := LSt) (xs := xs) (ys := [x]) (base := B) (.string ByteArray.empty) 16 rfl rfl rfl rfl h.at_ hrd hB (by simp; omega) (by simp [maxLen]; omega) fun A' c' w1 ho hgr => ?_
  have hf : Fm (fun b => rowOf va = some b) w w1 := Fm.grown hgr.grown fun b e => e
  have hn : ∀ {q : TypeId → Bool}, q 9 = false → ∀ b, rowOf va = some b → ¬ tyAt w b q := fun hq => row_not h.at_ hq
  refine hK A' c' w1 ⟨hf.blk h.blk fun hr => hn (q := fun t => Nat.beq t 60) (by decide) _ hr ⟨_, _, _, h.blk, by decide⟩, ho, h.fo.fmT hf (hn (by decide)), fun i v l h1 h2 => (h.rdf i v l h1 h2).fm hf (hn (by decide)), fun p hp => hf.blk (h.box p hp) fun hr => hn (q := fun t => Nat.beq t p.2.2) (by
    have := hbx p hp
    cases hh : Nat.beq 9 p.2.2 with
    | false => rfl
    | true => rw [← Nat.eq_of_beq_eq_true hh] at this; cases this) _ hr ⟨_, _, _, h.box p hp, Nat.beq_refl _⟩, h.fi.trans (Fi.of hf fun b hb hr => ⟨(h.at_.lt b hr).1, ?_⟩)⟩ hf
  rcases h.at_ with ⟨e, _⟩ | ⟨⟨q, e⟩, _⟩ | ⟨g, c, cur, e, hb2, hh, _⟩
  · rw [e] at hr; cases hr
  · rw [e] at hr; cases hr
  · rw [e] at hr; cases hr
    exact ⟨cur, _, _, hh, rfl⟩
theorem RI.appF (h : RI B g sl a f fol bx wB va vf xs vs w) {g17 : Nat} (hg : Blk w g17 #[.slice none 0 0] 56) (hlen : vs.length = fol.length) (hbx : ∀ p ∈ bx, Nat.beq p.2.2 56 = false) (hB : B ≤ w.heap.size) (hl : vs.length ≤ 128) {K : Value → World → Prop}
    (hK : ∀ A c w1, RI B g sl a f (fol ++ [[]]) bx wB va (.slice A (vs.length + 1) c) xs (vs ++ [((none, 0, 0) : Sv)]) w1 → K (.slice A (vs.length + 1) c) w1) :
    Raw Try.prog (Builtin.append_ #[57, 57] 57 #[vf, .slice (some ⟨g17, 0, none⟩) 1 1]) w K := by
  have hrd : Rd LSv w (some ⟨g17, 0, none⟩) 1 [((none, 0, 0) : Sv)] := (Own.lit' (L := LSv) (xs := [((none, 0, 0) : Sv)]) (base := 0) hg (Nat.zero_le _) rfl (by simp [maxLen])).rd.2
  refine ap (L := LSv) (xs := vs) (ys := [((none, 0, 0) : Sv)]) (base := B) (.slice none 0 0) 24 rfl rfl rfl rfl h.fo hrd hB (by simp; omega) (by simp [maxLen]; omega) fun A' c' w1 ho hgr => ?_
  have hf : Fm (fun b => rowOf vf = some b) w w1 := Fm.grown hgr.grown fun b e => e
  have hn : ∀ {q : TypeId → Bool}, q 56 = false → ∀ b, rowOf vf = some b → ¬ tyAt w b q := fun hq => row_not h.fo hq
  refine hK A' c' w1 ⟨hf.blk h.blk fun hr => hn (q := fun t => Nat.beq t 60) (by decide) _ hr ⟨_, _, _, h.blk, by decide⟩, h.at_.fmT hf (hn (by decide)), ho, fun i v l h1 h2 => ?_, fun p hp => hf.blk (h.box p hp) fun hr => hn (q := fun t => Nat.beq t p.2.2) (by
    have := hbx p hp
    cases hh : Nat.beq 56 p.2.2 with
    | false => rfl
    | true => rw [← Nat.eq_of_beq_eq_true hh] at this; cases this) _ hr ⟨_, _, _, h.box p hp, Nat.beq_refl _⟩, h.fi.trans (Fi.of hf fun b hb hr => ⟨(h.fo.lt b hr).1, ?_⟩)⟩
  · by_cases hi : i < vs.length
    · rw [List.getElem?_append_left hi] at h1
      rw [List.getElem?_append_left (by omega)] at h2
      exact (h.rdf i v l h1 h2).fm hf (hn (by decide))
    · rw [List.getElem?_append_right (by omega)] at h1 h2
      obtain ⟨k, hk⟩ : ∃ k, i = vs.length + k := ⟨i - vs.length, by omega⟩
      subst hk
      cases k with
      | zero =>
        simp at h1
        rw [← hlen] at h2
        simp at h2
        subst h1 h2
        exact RdI.nil _ _
      | succ k => simp at h1
  · rcases h.fo with ⟨e, _⟩ | ⟨⟨q, e⟩, _⟩ | ⟨g, c, cur, e, hb2, hh, _⟩
    · rw [e] at hr; cases hr
    · rw [e] at hr; cases hr
    · rw [e] at hr; cases hr
      exact ⟨cur, _, _, hh, rfl⟩
end
theorem mpart_calls {w0 : World} {ar : ByteArray} {rows : List (List Part)} {s : Nat} {e : E} {sl a f : Sv} {gs : GS} (H : ar = Mdl.Br → CM rows) (ho : Old w0 B) (hs : Sub w0 w) (h : MI B w g sl a f gs) (hi : GI gs) (hc : gs.1.length + cP (.mk ar rows s) ≤ 128) (hp : RdP w0 (.mk ar rows s) e)
    (hR : EndsM R B w g sl (uP (.mk ar rows s) gs)) :
    Calls Try.prog 72 #[.pointer (some ⟨g, 0, none⟩), .agg #[.string e.a, .slice e.sl.1 e.sl.2.1 e.sl.2.2, .int .u8 (e.s : Int)]] w R := by
  refine ok72 _ _ _ _ _ _ ?_
  unfold F72
  obtain ⟨ea, esl, es⟩ := e
  simp only [RdP] at hp
  obtain ⟨rfl, rfl, hp⟩ := hp
  replace hp : RdC w0 rows esl := hp
  rw [uP_eq] at hR
  obtain ⟨k1, k2⟩ := gi_A ea rows es gs hi
  have hcap : (uA ea rows gs).2.1.length ≤ 128 := by have := k1.2.2; omega
  have hAeq : uA ea rows gs = uA ea rows gs := rfl
  generalize hr : uA ea rows gs = r at hR k1 k2 hcap
  refine al fun g3 w1 hb1 hg3 hge3 => al fun g4 w2 hb2 hg4 hge4 => al fun p w3 hb3 hgp hgep => ?_
  have hb13 : Below w.heap.size w w3 := btr (btr hb1 hb1.size hb2) (Nat.le_trans hb1.size hb2.size) hb3
  have h3 := h.below hb13
  have f3 : Fi B w w3 := .below hb13
  have q3 : Blk w3 g3 #[.string ea, .slice esl.1 esl.2.1 esl.2.2, .int .u8 (es : Int)] 96 := (hg3.keep hb2).keep hb3
  have q4 : Blk w3 g4 (pB (none, 0, 0) (none, 0, 0) false) 80 := hg4.keep hb3
  have qp : Blk w3 p (pB (none, 0, 0) (none, 0, 0) false) 80 := hgp
  have np3 : ¬ g3 = p := by have := (hg3.keep hb2).lt; omega
  have np4 : ¬ g4 = p := by have := hg4.lt; omega
  have hlt3 : w.heap.size ≤ g3 := hge3
  have hlt4 : w.heap.size ≤ g4 := Nat.le_trans hb1.size hge4
  have hltp : w.heap.size ≤ p := Nat.le_trans (Nat.le_trans hb1.size hb2.size) hgep
  clear hb1 hb2 hb3 hg3 hg4 hgp hge3 hge4 hgep h
  refine ⟨fun w' => ∃ (x y a' f' : Sv), MI B w' g sl a' f' r.2 ∧ Blk w' p (pB x y r.1.empty) 80 ∧ RdI B w' x r.1.first ∧ RdI B w' y r.1.last ∧ Blk w' g3 #[.string ea, .slice esl.1 esl.2.1 esl.2.2, .int .u8 (es : Int)] 96 ∧ Blk w' g4 (pB (none, 0, 0) (none, 0, 0) false) 80 ∧ Fi B w w', ?_, ?_⟩
  · rintro w4 ⟨x, y, a', f', h4, qp, rx, ry, q3, q4, f4⟩
    unfold F72_j10
    refine ⟨fun w' => ∃ gs2, gs2 = (r.2.1, if es = 42 ∨ es = 43 then behind r.2.2 r.1.last r.1.first else r.2.2) ∧ MI B w' g sl a' f' gs2 ∧ Blk w' p (pB x y r.1.empty) 80 ∧ RdI B w' x r.1.first ∧ RdI B w' y r.1.last ∧ Blk w' g3 #[.string ea, .slice esl.1 esl.2.1 esl.2.2, .int .u8 (es : Int)] 96 ∧ Blk w' g4 (pB (none, 0, 0) (none, 0, 0) false) 80 ∧ Fi B w w', ?_, ?_⟩
    · rintro w5 ⟨gs2, rfl, h5, qp, rx, ry, q3, q4, f5⟩
      unfold F72_j12
      have put : ∀ (k : Bool), k = (r.1.empty || (es == 42 || es == 63)) → St w5 (Addr.add ⟨p, 0, none⟩ 2) (.bool k) fun w6 => ∃ (x' y' : Sv) (k' : Bool), Blk w6 p (pB x' y' k') 80 ∧ k' = (r.1.empty || (es == 42 || es == 63)) ∧ MI B w6 g sl a' f' (r.2.1, if es = 42 ∨ es = 43 then behind r.2.2 r.1.last r.1.first else r.2.2) ∧ RdI B w6 x' r.1.first ∧ RdI B w6 y' r.1.last ∧ Blk w6 g4 (pB (none, 0, 0) (none, 0, 0) false) 80 ∧ Fi B w w6 := fun k hk =>
        st_blk (g := p) (i := 2) qp (by simp) fun w6 hb6 f6 => ⟨x, y, k, hb6, hk, h5.box qp (by decide) f6, rx.box qp (by decide) f6, ry.box qp (by decide) f6, f6.blk q4 np4, f5.new f6 fun b hb e => by omega⟩
      refine ⟨fun w6 => ∃ (x' y' : Sv) (k' : Bool), Blk w6 p (pB x' y' k') 80 ∧ k' = (r.1.empty || (es == 42 || es == 63)) ∧ MI B w6 g sl a' f' (r.2.1, if es = 42 ∨ es = 43 then behind r.2.2 r.1.last r.1.first else r.2.2) ∧ RdI B w6 x' r.1.first ∧ RdI B w6 y' r.1.last ∧ Blk w6 g4 (pB (none, 0, 0) (none, 0, 0) false) 80 ∧ Fi B w w6, ?_, ?_⟩
      · rintro w6 ⟨x', y', k', qp, rfl, h6, rx, ry, q4, f6⟩
        unfold F72_j13
        refine ldP qp (resP q4 rfl fun w' fw _ => ?_)
        exact hR x' y' a' f' w' (h6.box q4 (by decide) fw) (rx.box q4 (by decide) fw) (ry.box q4 (by decide) fw) (f6.new fw fun b hb e => by omega)
      · refine lB (qp.cell 2) ?_
        refine br (fun he => put true (by rw [he]; rfl)) (fun he => ?_)
        refine lI (q3.cell 2) ?_
        refine bre (fun h42 => put true (by have : es = 42 := by omega
                                            rw [this]; simp)) (fun h42 => ?_)
        refine lI (q3.cell 2) ?_
        refine put _ ?_
        rw [he, Bool.false_or]
        have : (es == 42) = false := by simp; omega
        rw [this, Bool.false_or]
        rw [Bool.eq_iff_iff]; simp; omega
    · have call : (es = 42 ∨ es = 43) → LdSl (w4.cell? (Addr.add ⟨p, 0, none⟩ 1)) fun x59 x59N x59C => LdSl (w4.cell? ⟨p, 0, none⟩) fun x61 x61N x61C =>
          Calls Try.prog 73 #[.pointer (some ⟨g, 0, none⟩), .slice x59 x59N x59C, .slice x61 x61N x61C] w4 (post R fun v w5 => v = .tuple #[] ∧ ∃ gs2, gs2 = (r.2.1, if es = 42 ∨ es = 43 then behind r.2.2 r.1.last r.1.first else r.2.2) ∧ MI B w5 g sl a' f' gs2 ∧ Blk w5 p (pB x y r.1.empty) 80 ∧ RdI B w5 x r.1.first ∧ RdI B w5 y r.1.last ∧ Blk w5 g3 #[.string ea, .slice esl.1 esl.2.1 esl.2.2, .int .u8 (es : Int)] 96 ∧ Blk w5 g4 (pB (none, 0, 0) (none, 0, 0) false) 80 ∧ Fi B w w5) := fun hsg => by
        refine lSl (qp.cell 1) (lSl (qp.cell 0) ?_)
        refine behind_calls h4 k1.1 hcap ry rx k2.2.2 k2.1 (Nat.le_trans k2.2.len hcap) fun w5 h5 f5 => ⟨rfl, _, rfl, ?_⟩
        rw [if_pos hsg]
        exact ⟨h5, f5.blk qp (by decide), rx.fi f5, ry.fi f5, f5.blk q3 (by decide), f5.blk q4 (by decide), f4.trans f5⟩
      refine lI (q3.cell 2) ?_
      refine bre (fun h42 => call (.inl (by omega))) (fun h42 => ?_)
      refine lI (q3.cell 2) ?_
      refine bre (fun h43 => call (.inr (by omega))) (fun h43 => ?_)
      have hns : ¬ (es = 42 ∨ es = 43) := by omega
      exact ⟨_, rfl, by rw [if_neg hns]; exact h4, qp, rx, ry, q3, q4, f4⟩
  · refine lS (q3.cell 0) ?_
    rw [bytes_eq, bytes_eq]
    unfold uA at hr
    refine brd (fun h40 => ?_) (fun h40 => brd (fun h45 => ?_) (fun h45 => ?_))
    · replace h40 : ea = Mdl.Br := h40
      rw [if_pos h40] at hr
      refine lSl (q3.cell 1) ?_
      simp only [cP, if_pos h40] at hc
      refine H h40 w0 B w3 g sl a f gs esl _ ho (f3.sub hs ho.lt) h3 hi (by omega) hp ?_
      rw [hr]
      intro x y a' f' w4 h4 rx ry f4
      refine ⟨_, _, _, _, _, _, _, rfl, ?_⟩
      have qp4 := f4.blk qp (by decide)
      have q34 := f4.blk q3 (by decide)
      have q44 := f4.blk q4 (by decide)
      refine stP qp4 rfl fun w5 f5 hb5 => ?_
      exact ⟨x, y, a', f', h4.box qp4 (by decide) f5, hb5, rx.box qp4 (by decide) f5, ry.box qp4 (by decide) f5, f5.blk q34 np3, f5.blk q44 np4, (f3.trans f4).new f5 fun b hb e => by omega⟩
    · have h40' : ¬ ea = Mdl.Br := h40
      replace h45 : ea = Mi := h45
      rw [if_neg h40', if_pos h45] at hr
      subst hr
      refine st_blk (g := p) (i := 2) qp (by simp) fun w4 hb4 f4 => ?_
      exact ⟨(none, 0, 0), (none, 0, 0), a, f, h3.box qp (by decide) f4, hb4, RdI.nil _ _, RdI.nil _ _, f4.blk q3 np3, f4.blk q4 np4, f3.new f4 fun b hb e => by omega⟩
    · have h40' : ¬ ea = Mdl.Br := h40
      have h45' : ¬ ea = Mi := h45
      rw [if_neg h40', if_neg h45'] at hr
      subst hr
      obtain ⟨vs, o1, o2, o3⟩ := h3.fol
      have hlen : vs.length = gs.2.length := o2
      have hgl := hi.1
      have hBs : B ≤ w3.heap.size := by have := h3.lt; have := h3.ge; omega
      simp only [List.length_append, List.length_singleton] at hcap
      refine ⟨fun w' => ∃ a' f' : Sv, MI B w' g sl a' f' (gs.1 ++ [ea], gs.2 ++ [[]]) ∧ Blk w' p (pB (none, 0, 0) (none, 0, 0) false) 80 ∧ Blk w' g3 #[.string ea, .slice esl.1 esl.2.1 esl.2.2, .int .u8 (es : Int)] 96 ∧ Blk w' g4 (pB (none, 0, 0) (none, 0, 0) false) 80 ∧ Fi B w w', ?_, ?_⟩
      · rintro w4 ⟨a', f', h4, qp, q3, q4, f4⟩
        unfold F72_j4
        rw [NonNil_some]
        refine lSl (h4.blk.cell 1) ?_
        have hn := h4.lens.1
        simp only [List.length_append, List.length_singleton] at hn
        refine ⟨inR_i64 (by omega) (by omega), al fun g35 w5 hb5 hg35 hge35 => ?_⟩
        have hv : ((a'.2.1 : Nat) : Int) - 1 = (gs.1.length : Int) := by omega
        rw [hv] at hg35
        have ho35 : RdI B w5 (some ⟨g35, 0, none⟩, 1, 1) [gs.1.length] := .own (k := B) (Own.lit' (L := LK) (xs := [gs.1.length]) hg35 (by have := h4.lt; have := h4.ge; omega) rfl (by simp [maxLen])) (Nat.le_refl _)
        have qp5 := qp.keep hb5
        refine st_blk (g := p) (i := 0) qp5 (by simp) fun w6 hb6 f6 => st_blk (g := p) (i := 1) hb6 (by simp) fun w7 hb7 f7 => ?_
        have ff := f6.trans f7
        exact ⟨(some ⟨g35, 0, none⟩, 1, 1), (some ⟨g35, 0, none⟩, 1, 1), a', f', (h4.below hb5).box qp5 (by decide) ff, hb7, ho35.box qp5 (by decide) ff, ho35.box qp5 (by decide) ff, ff.blk (q3.keep hb5) np3, ff.blk (q4.keep hb5) np4, (f4.trans (.below hb5)).new ff fun b hb e => by omega⟩
      · have hd : Below w3.heap.size w3 w3.drew := (Below.refl _ _).drew
        have I0 : RI B g sl a f gs.2 [(p, pB (none, 0, 0) (none, 0, 0) false, 80), (g3, #[.string ea, .slice esl.1 esl.2.1 esl.2.2, .int .u8 (es : Int)], 96), (g4, pB (none, 0, 0) (none, 0, 0) false, 80)] w (.slice a.1 a.2.1 a.2.2) (.slice f.1 f.2.1 f.2.2) gs.1 vs w3.drew :=
          RI.below ⟨h3.blk, h3.at_, o1, fun i v l h1 h2 => o3 i v l h1 h2, by
            intro q hq
            simp only [List.mem_cons, List.not_mem_nil, or_false] at hq
            rcases hq with rfl | rfl | rfl
            · exact qp
            · exact q3
            · exact q4, f3⟩ hd
        have S : ∀ {w' : World} {fol : List (List Nat)} {va vf : Value} {xs : List ByteArray} {vs : List Sv}, RI B g sl a f fol [(p, pB (none, 0, 0) (none, 0, 0) false, 80), (g3, #[.string ea, .slice esl.1 esl.2.1 esl.2.2, .int .u8 (es : Int)], 96), (g4, pB (none, 0, 0) (none, 0, 0) false, 80)] w va vf xs vs w' →
            Blk w' g (mB sl a f (none, 0, 0) (none, 0, 0) false) 60 ∧ Blk w' g3 #[.string ea, .slice esl.1 esl.2.1 esl.2.2, .int .u8 (es : Int)] 96 := fun h => ⟨h.blk, h.box (g3, #[.string ea, .slice esl.1 esl.2.1 esl.2.2, .int .u8 (es : Int)], 96) (by simp)⟩
        have hbx1 : ∀ q ∈ [(p, pB (none, 0, 0) (none, 0, 0) false, 80), (g3, #[.string ea, .slice esl.1 esl.2.1 esl.2.2, .int .u8 (es : Int)], 96), (g4, pB (none, 0, 0) (none, 0, 0) false, 80)], Nat.beq q.2.2 9 = false := by
          intro q hq
          simp only [List.mem_cons, List.not_mem_nil, or_false] at hq
          rcases hq with rfl | rfl | rfl <;> rfl
        have hbx2 : ∀ q ∈ [(p, pB (none, 0, 0) (none, 0, 0) false, 80), (g3, #[.string ea, .slice esl.1 esl.2.1 esl.2.2, .int .u8 (es : Int)], 96), (g4, pB (none, 0, 0) (none, 0, 0) false, 80)], Nat.beq q.2.2 56 = false := by
          intro q hq
          simp only [List.mem_cons, List.not_mem_nil, or_false] at hq
          rcases hq with rfl | rfl | rfl <;> rfl
        -- the end of each way
        have fin : ∀ {w' : World} {A A' : Option Addr} {c c' : Nat}, RI B g sl a f (gs.2 ++ [[]]) [(p, pB (none, 0, 0) (none, 0, 0) false, 80), (g3, #[.string ea, .slice esl.1 esl.2.1 esl.2.2, .int .u8 (es : Int)], 96), (g4, pB (none, 0, 0) (none, 0, 0) false, 80)] w (.slice A (gs.1.length + 1) c) (.slice A' (vs.length + 1) c') (gs.1 ++ [ea]) (vs ++ [((none, 0, 0) : Sv)]) w' →
            NonNil (some ⟨g, 0, none⟩) fun p25 => St w' (p25.add 1) (.slice A (gs.1.length + 1) c) fun w1_9 => NonNil (some ⟨g, 0, none⟩) fun p27 => St w1_9 (p27.add 3) (.slice A' (vs.length + 1) c') fun w1_10 =>
              ∃ a' f' : Sv, MI B w1_10 g sl a' f' (gs.1 ++ [ea], gs.2 ++ [[]]) ∧ Blk w1_10 p (pB (none, 0, 0) (none, 0, 0) false) 80 ∧ Blk w1_10 g3 #[.string ea, .slice esl.1 esl.2.1 esl.2.2, .int .u8 (es : Int)] 96 ∧ Blk w1_10 g4 (pB (none, 0, 0) (none, 0, 0) false) 80 ∧ Fi B w w1_10 := by
          intro w' A A' c c' hI
          simp only [NonNil_some, Addr.add_mk, Nat.zero_add]
          refine st_blk hI.blk (by simp) fun w5 hb5 f5 => st_blk hb5 (by simp) fun w6 hb6 f6 => ?_
          have ff := f5.trans f6
          have hn : ∀ {q : TypeId → Bool}, q 60 = false → ∀ b, b = g → ¬ tyAt w' b q := fun hq b e => e ▸ tyAt_blk hI.blk hq
          refine ⟨(A, gs.1.length + 1, c), (A', vs.length + 1, c'), ⟨h3.ge, hb6, hI.at_.fmT ff (hn (by decide)), _, hI.fo.fmT ff (hn (by decide)), by simp [hlen], fun i v l k1 k2 => (hI.rdf i v l k1 k2).fm ff (hn (by decide))⟩, ff.blk (hI.box (p, pB (none, 0, 0) (none, 0, 0) false, 80) (by simp)) ?_, ff.blk (hI.box (g3, #[.string ea, .slice esl.1 esl.2.1 esl.2.2, .int .u8 (es : Int)], 96) (by simp)) ?_, ff.blk (hI.box (g4, pB (none, 0, 0) (none, 0, 0) false, 80) (by simp)) ?_, hI.fi.trans (Fi.of ff fun b hb e => ⟨by rw [e]; exact h3.ge, by rw [e]; exact ⟨_, _, _, hI.blk, by decide⟩⟩)⟩
          · exact fun e => tyAt_blk (p := fun t => Nat.beq t 80) hI.blk (by decide) ⟨_, _, _, e ▸ hI.box (p, pB (none, 0, 0) (none, 0, 0) false, 80) (by simp), rfl⟩
          · exact fun e => tyAt_blk (p := fun t => Nat.beq t 96) hI.blk (by decide) ⟨_, _, _, e ▸ hI.box (g3, #[.string ea, .slice esl.1 esl.2.1 esl.2.2, .int .u8 (es : Int)], 96) (by simp), rfl⟩
          · exact fun e => tyAt_blk (p := fun t => Nat.beq t 80) hI.blk (by decide) ⟨_, _, _, e ▸ hI.box (g4, pB (none, 0, 0) (none, 0, 0) false, 80) (by simp), rfl⟩
        have hBd : ∀ {w' : World}, Below w3.heap.size w3 w' → B ≤ w'.heap.size := fun h => Nat.le_trans hBs h.size
        have hl1 : gs.1.length ≤ 128 := by omega
        have hl2 : vs.length ≤ 128 := by omega
        refine ⟨fun w' => Blk w' g (mB sl a f (none, 0, 0) (none, 0, 0) false) 60 ∧ Blk w' g3 #[.string ea, .slice esl.1 esl.2.1 esl.2.2, .int .u8 (es : Int)] 96, S I0, ?_⟩
        rw [NonNil_some]
        refine ⟨a.1, a.2.1, a.2.2, fun w' h => h.1.cell 1, ea, fun w' h => h.2.cell 0, ?_⟩
        rw [NonNil_some]
        refine ⟨f.1, f.2.1, f.2.2, fun w' h => h.1.cell 3, ?_, ?_⟩
        · refine al fun g17 w5 hb5 hg17 hge17 => ?_
          have I5 := I0.below hb5
          refine ⟨S I5, ?_, ?_⟩
          · refine I5.appA hg17 hbx1 (hBd (btr hd hd.size hb5)) hl1 fun A c w6 I6 f6 => ⟨_, _, _, rfl, S I6, ?_⟩
            refine al fun g23 w7 hb7 hg23 hge23 => ?_
            have I7 := I6.below hb7
            refine ⟨S I7, ?_⟩
            exact I7.appF hg23 hlen hbx2 (by have := h3.ge; have := I7.blk.lt; omega) hl2 fun A' c' w8 I8 => ⟨_, _, _, rfl, fin I8⟩
          · refine al fun g23 w6 hb6 hg23 hge23 => ?_
            have I6 := I5.below hb6
            refine ⟨S I6, ?_⟩
            refine I6.appA (hg17.keep hb6) hbx1 (by have := h3.ge; have := I6.blk.lt; omega) hl1 fun A c w7 I7 f7 => ⟨_, _, _, rfl, S I7, ?_⟩
            exact I7.appF (f7.blk hg23 (fun hr => row_not I6.at_ (p := fun t => Nat.beq t 56) (by decide) _ hr ⟨_, _, _, hg23, by decide⟩)) hlen hbx2 (by have := h3.ge; have := I7.blk.lt; omega) hl2 fun A' c' w8 I8 => ⟨_, _, _, rfl, fin I8⟩
        · refine al fun g23 w5 hb5 hg23 hge23 => ?_
          have I5 := I0.below hb5
          refine ⟨S I5, ?_⟩
          refine al fun g17 w6 hb6 hg17 hge17 => ?_
          have I6 := I5.below hb6
          refine ⟨S I6, ?_⟩
          refine I6.appA hg17 hbx1 (by have := h3.ge; have := I6.blk.lt; omega) hl1 fun A c w7 I7 f7 => ⟨_, _, _, rfl, S I7, ?_⟩
          exact I7.appF (f7.blk (hg23.keep hb6) (fun hr => row_not I6.at_ (p := fun t => Nat.beq t 56) (by decide) _ hr ⟨_, _, _, hg23.keep hb6, by decide⟩)) hlen hbx2 (by have := h3.ge; have := I7.blk.lt; omega) hl2 fun A' c' w8 I8 => ⟨_, _, _, rfl, fin I8⟩
end
end Go.Proofs.Ytkmoeokfgkmlhaa
