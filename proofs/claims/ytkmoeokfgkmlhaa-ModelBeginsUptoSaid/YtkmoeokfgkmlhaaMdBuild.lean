/- A strings.Builder that a call has made: what is written into it. -/
import Derived.Test.YtkmoeokfgkmlhaaMdRead
import Derived.Test.YtkmoeokfgkmlhaaGMLaw
import Derived.Lib.AppendStr
import Derived.Lib.UnsafeStr
import Derived.Lib.Builder
import Derived.Laws.Externs
import Derived.Laws.IdiomCopy
namespace Go.Proofs.Ytkmoeokfgkmlhaa
open Go.RowKit Go.Vc Go.Mdl
set_option linter.unusedVariables false
set_option linter.unusedSimpArgs false
/-- Bytes in a row. -/
def LBy : Lay UInt8 := ⟨1, fun b => [.int .u8 (b.toNat : Int)], fun _ => rfl, fun _ => by simp [Value.oneCell'], by decide⟩
theorem all_bytes : ∀ l : List UInt8, LBy.all l = Lib.byteCells l
  | [] => rfl
  | x :: l => by
    have := all_bytes l
    simp only [Lay.all, List.flatMap_cons, Lib.byteCells, List.map_cons] at *
    rw [this]; rfl
/-- A builder at block b that holds these bytes. -/
def Bl (w : World) (B b : Nat) (bs : List UInt8) : Prop := B ≤ b ∧ ∃ p v, Blk w b #[p, v] 85 ∧ (p = .pointer none ∨ p = .pointer (some ⟨b, 0, none⟩)) ∧
  ((bs = [] ∧ v = .slice none 0 0) ∨ (bs ≠ [] ∧ Own LBy w B 5 v bs))
/-- The same behind a first look: its own address lies in it. -/
def BlU (w : World) (B b : Nat) (bs : List UInt8) (v : Value) : Prop := B ≤ b ∧ Blk w b #[.pointer (some ⟨b, 0, none⟩), v] 85 ∧ ((bs = [] ∧ v = .slice none 0 0) ∨ (bs ≠ [] ∧ Own LBy w B 5 v bs))
def isBl (t : TypeId) : Bool := Nat.beq t 85 || Nat.beq t 5
def tyB (w : World) (b : Nat) : Prop := ∃ c t f, w.heap[b]? = some (.cells c t f) ∧ isBl t = true
/-- Only a builder's blocks turn. -/
def Fb (B : Nat) (w w1 : World) : Prop := Fm (fun b => B ≤ b ∧ tyB w b) w w1
section
variable {B : Nat} {w w1 w2 : World} {M : Nat → Prop} {R : Ending → World → Prop} {b : Nat} {bs : List UInt8} {v : Value}
theorem tyB_blk {b : Nat} {c : Array Value} {t : TypeId} (h : Blk w b c t) (ht : isBl t = false) : ¬ tyB w b := by
  rintro ⟨c', t', f', h1, h2⟩
  unfold Blk at h
  rw [h] at h1
  cases h1
  rw [ht] at h2; cases h2
theorem Fb.trans (h : Fb B w w1) (k : Fb B w1 w2) : Fb B w w2 :=
  ⟨k.os.trans h.os, k.tape.trans h.tape, k.output.trans h.output, Nat.le_trans h.size k.size, fun b hb hm => by
    have h1 := h.block b hb hm
    refine (k.block b (Nat.lt_of_lt_of_le hb h.size) fun hm2 => hm ⟨hm2.1, ?_⟩).trans h1
    obtain ⟨c, t, f, h3, h4⟩ := hm2.2
    exact ⟨c, t, f, by rw [← h1]; exact h3, h4⟩⟩
theorem Fb.refl (B : Nat) (w : World) : Fb B w w := Fm.refl _ _
theorem Fb.below (h : Below w.heap.size w w1) : Fb B w w1 := Fm.below h
theorem Fb.of (h : Fm M w w1) (hm : ∀ b, b < w.heap.size → M b → B ≤ b ∧ tyB w b) : Fb B w w1 := h.mono hm
theorem Fb.new (h : Fb B w w1) (k : Fm M w1 w2) (hm : ∀ b, b < w.heap.size → ¬ M b) : Fb B w w2 := Fm.trans' h k hm
theorem Fb.blk (h : Fb B w w1) {b : Nat} {c : Array Value} {t : TypeId} (hb : Blk w b c t) (ht : isBl t = false) : Blk w1 b c t := Fm.blk h hb fun hm => tyB_blk hb ht hm.2
theorem Fb.sub (h : Fb B w w1) {w0 : World} (h0 : Sub w0 w) (hB : ∀ b c t f, w0.heap[b]? = some (.cells c t f) → b < B) : Sub w0 w1 := fun b c t f hc => by
  have h1 := h0 b c t f hc
  have hlt := (Array.getElem?_eq_some_iff.1 h1).1
  rw [Fm.block h b hlt fun hm => by have := hB b c t f hc; have := hm.1; omega]
  exact h1
theorem own_keepM {α : Type} {L : Lay α} {xs : List α} {e : TypeId} (h : Own L w B e v xs) (hf : Fm M w w1) (hm : ∀ b c, Blk w b c e → ¬ M b) : Own L w1 B e v xs := by
  rcases h with h | h | ⟨g, c, cur, rfl, hb, hh, hn, hmx, hs, ht⟩
  · exact .inl h
  · exact .inr (.inl h)
  · exact .inr (.inr ⟨g, c, cur, rfl, hb, hf.blk hh (hm g cur hh), hn, hmx, hs, ht⟩)
theorem Bl.keep (h : Bl w B b bs) (hf : Fm M w w1) (hm : ∀ k, M k → ¬ tyB w k) : Bl w1 B b bs := by
  obtain ⟨hB, p, v, h1, h2, h3⟩ := h
  have hM : ∀ {k c t}, Blk w k c t → isBl t = true → ¬ M k := fun hb ht hk => hm _ hk ⟨_, _, _, hb, ht⟩
  exact ⟨hB, p, v, hf.blk h1 (hM h1 (by decide)), h2, h3.imp id fun h => ⟨h.1, own_keepM h.2 hf fun k c hk => hM hk (by decide)⟩⟩
theorem Bl.below (h : Bl w B b bs) (hf : Below w.heap.size w w1) : Bl w1 B b bs := h.keep (M := fun _ => False) (.below hf) fun _ h => h.elim
theorem Bl.lt (h : Bl w B b bs) : b < w.heap.size := by obtain ⟨_, p, v, h1, _⟩ := h; exact h1.lt
set_option maxHeartbeats 1000000
set_option maxRecDepth 100000
theorem copyCheck_used (b : Nat) (w : World) (h0 : w.cell? ⟨b, 0, none⟩ = some (.pointer (some ⟨b, 0, none⟩))) :
    Calls Try.prog 76 #[.pointer (some ⟨b, 0, none⟩)] w fun e w' => e = .returned (.tuple #[]) ∧ w' = w := by
  obtain ⟨j, hj, _⟩ := Option.map_eq_some_iff.1 (show (Try.prog.info? 85).map (·.size) = some 2 by kernel_rfl)
  go_enter Try.func76, Try.ntmps76
  go_wp2
  rw [Lib.run_neq_ptr_same w _ Try.underlying83 hj]
  go_wp2
  go_end0
  exact ⟨rfl, rfl⟩
theorem copyCheck_fresh (b : Nat) (w : World) (h0 : w.cell? ⟨b, 0, none⟩ = some (.pointer none)) (hsh : w.shape? b = some (85, 2)) (hfz : w.frozen? ⟨b, 0, none⟩ = false) :
    Calls Try.prog 76 #[.pointer (some ⟨b, 0, none⟩)] w fun e w' => e = .returned (.tuple #[]) ∧ w' = w.setCell ⟨b, 0, none⟩ (.pointer (some ⟨b, 0, none⟩)) := by
  obtain ⟨j, hj, hjs⟩ := Option.map_eq_some_iff.1 (show (Try.prog.info? 85).map (·.size) = some 2 by kernel_rfl)
  go_enter Try.func76, Try.ntmps76
  go_wp2
  rw [Lib.run_to_unsafe w ⟨b, 0, none⟩ Try.underlying83 Try.underlying132 hj (by rw [hjs]; decide) hsh (Nat.zero_lt_succ 1)]
  simp only [Result.andThen]
  rw [Oper.upon_value]
  go_wp2
  rw [run_callFunc_extern Try.func90 (by kernel_rfl) (by kernel_rfl) (by kernel_rfl) (e := Extern.AbiNoEscape.same) (by kernel_rfl)]
  rw [Lib.run_noEscape]
  simp only [Result.andThen]
  rw [Oper.upon_value]
  go_wp2
  rw [Lib.run_from_unsafe w ⟨b, 0, none⟩ Try.underlying132 Try.underlying83 hj hsh (by kernel_rfl)]
  simp only [Result.andThen]
  rw [Oper.upon_value]
  go_wp2
  go_end0
  exact ⟨rfl, rfl⟩
theorem copyCheck_calls (h : Bl w B b bs) (hR : ∀ v w', BlU w' B b bs v → Fb B w w' → R (.returned (.tuple #[])) w') : Calls Try.prog 76 #[.pointer (some ⟨b, 0, none⟩)] w R := by
  obtain ⟨hB, p, v, h1, rfl | rfl, h3⟩ := h
  · refine (copyCheck_fresh b w (h1.cell 0) (by unfold Blk at h1; simp [World.shape?, h1]) (h1.frozen 0)).mono ?_
    rintro e w' ⟨rfl, rfl⟩
    have hf : Fm (· = b) w (w.setCell ⟨b, 0, none⟩ (.pointer (some ⟨b, 0, none⟩))) := (Fm.refl (fun x => x = b) _).set (fun _ => rfl) _
    refine hR v _ ⟨hB, h1.set 0 _, h3.imp id fun h => ⟨h.1, own_keepM h.2 hf fun k c hk e => ?_⟩⟩ (Fb.of hf fun k hk e => by subst e; exact ⟨hB, _, _, _, h1, by decide⟩)
    subst e
    unfold Blk at hk h1
    rw [hk] at h1; cases h1
  · refine (copyCheck_used b w (h1.cell 0)).mono ?_
    rintro e w' ⟨rfl, rfl⟩
    exact hR v _ ⟨hB, h1, h3⟩ (Fb.refl _ _)
/-- The slice of a used builder is stored anew. -/
theorem BlU.put {v' : Value} (h : BlU w B b bs v) {bs' : List UInt8} {w2 : World} (hb2 : Blk w2 b #[.pointer (some ⟨b, 0, none⟩), v] 85) (ho : bs' ≠ []) (hown : Own LBy w2 B 5 v' bs') {K : World → Prop}
    (hK : ∀ w3, Bl w3 B b bs' → Fm (· = b) w2 w3 → K w3) : NonNil (some ⟨b, 0, none⟩) fun p => St w2 (p.add 1) v' fun w3 => K w3 := by
  simp only [NonNil_some, Addr.add_mk, Nat.zero_add]
  refine st_blk hb2 (by simp) fun w3 hb3 f3 => hK w3 ⟨h.1, _, v', hb3, .inr rfl, .inr ⟨ho, own_keepM hown f3 fun k c hk e => ?_⟩⟩ f3
  subst e
  unfold Blk at hk hb2
  rw [hk] at hb2; cases hb2
theorem grow_fb {v : Value} {w1 : World} (hg : w.grownBy w1 (rowOf v)) (hr : ∀ k, rowOf v = some k → B ≤ k ∧ tyB w k) : Fb B w w1 :=
  Fb.of (M := fun k => rowOf v = some k) (Fm.grown hg fun k e => e) fun k hk e => hr k e
theorem own_row {e : TypeId} {α : Type} {L : Lay α} {xs : List α} (h : Own L w B e v xs) (he : isBl e = true) : ∀ k, rowOf v = some k → B ≤ k ∧ tyB w k := by
  intro k hk
  refine ⟨(h.lt k hk).1, ?_⟩
  rcases h with ⟨rfl, _⟩ | ⟨⟨q, rfl⟩, _⟩ | ⟨g, c, cur, rfl, hb2, hh, _⟩
  · cases hk
  · cases hk
  · cases hk; exact ⟨cur, _, _, hh, he⟩
theorem BlU.own (h : BlU w B b bs v) : Own LBy w B 5 v bs := by
  rcases h.2.2 with ⟨rfl, rfl⟩ | ⟨_, h⟩
  · exact Own.nil _ _ _ _
  · exact h
theorem writeByte_calls (h : Bl w B b bs) (hBw : B ≤ w.heap.size) (hl : bs.length ≤ 1048576) {c : UInt8} {n : Int} (hn : n = (c.toNat : Int)) (hR : ∀ w', Bl w' B b (bs ++ [c]) → Fb B w w' → R (.returned .nilIface) w') :
    Calls Try.prog 53 #[.pointer (some ⟨b, 0, none⟩), .int .u8 n] w R := by
  subst hn
  refine ok53 _ _ ?_
  unfold F53
  refine copyCheck_calls h fun v w1 h1 f1 => ⟨rfl, ?_⟩
  obtain ⟨A, c0, hv, hrd⟩ := h1.own.form
  subst hv
  rw [NonNil_some]
  refine lSl (h1.2.1.cell 1) ?_
  have hB1 : B ≤ w1.heap.size := Nat.le_trans hBw f1.size
  refine ap1 (L := LBy) (x := c) (.int .u8 0) 1 rfl rfl rfl rfl h1.own hB1 (by omega) (by simp [maxLen]; omega) fun A' c' w2 ho hg => ⟨_, _, _, rfl, ?_⟩
  have f2 : Fb B w1 w2 := grow_fb hg.grown (own_row h1.own (by decide))
  have hb2 : Blk w2 b #[.pointer (some ⟨b, 0, none⟩), .slice A bs.length c0] 85 := by
    unfold Blk
    rw [hg.grown.block b h1.2.1.lt fun e => ?_]
    · exact h1.2.1
    · have h2 := h1.own
      have h3 := h1.2.1
      rcases h2 with ⟨e1, _⟩ | ⟨⟨q, e1⟩, _⟩ | ⟨g, c1, cur, e1, hb3, hh, _⟩
      · rw [e1] at e; cases e
      · rw [e1] at e; cases e
      · rw [e1] at e
        cases e
        unfold Blk at h3
        rw [hh] at h3; cases h3
  refine h1.put hb2 (by simp) ho fun w3 h3 f3 => hR w3 h3 ((f1.trans f2).trans (Fb.of f3 fun k hk e => ?_))
  subst e
  exact ⟨h1.1, _, _, _, hb2, by decide⟩
theorem writeString_calls (h : Bl w B b bs) (hBw : B ≤ w.heap.size) {s : ByteArray} (hl : bs.length + s.size ≤ 1048576) (hR : ∀ w', Bl w' B b (bs ++ s.data.toList) → Fb B w w' → R (.returned (.tuple #[.int .i64 (s.size : Int), .nilIface])) w') :
    Calls Try.prog 54 #[.pointer (some ⟨b, 0, none⟩), .string s] w R := by
  refine ok54 _ _ ?_
  unfold F54
  refine copyCheck_calls h fun v w1 h1 f1 => ⟨rfl, ?_⟩
  obtain ⟨A, c0, hv, hrd⟩ := h1.own.form
  have hor : w1.ownsRow B 5 1 v bs.length (Lib.byteCells bs) ∧ rowOf v = v.ownBlock := by
    rcases h1.2.2 with ⟨rfl, rfl⟩ | ⟨hne, ho⟩
    · exact ⟨World.ownsRow_nil _ _ _ _, rfl⟩
    · rcases ho.row with h2 | h2
      · rw [all_bytes] at h2; exact h2
      · exact absurd h2.2 hne
  obtain ⟨hor, hrow⟩ := hor
  have h2u := h1.2.2
  subst hv
  rw [NonNil_some]
  refine lSl (h1.2.1.cell 1) ?_
  have hB1 : B ≤ w1.heap.size := Nat.le_trans hBw f1.size
  obtain ⟨i, hi, hi2⟩ := Option.map_eq_some_iff.1 (show (Try.prog.info? 5).map (fun i => (i.zero, i.size, i.bytes)) = some (some (.int .u8 0), 1, 1) by kernel_rfl)
  simp only [Prod.mk.injEq] at hi2
  obtain ⟨v', w2, r1, r2, r3, r4⟩ := Lib.run_append_own_string (P := Try.prog) w1 B 40 9 40 5 i Try.underlying40 Try.underlying9 hi hi2.1 hi2.2.1 hi2.2.2 (.slice A bs.length c0) bs.length (Lib.byteCells bs) hor s (by simp [maxLen]; omega) (by omega) hB1
  have hcells : Lib.byteCells bs ++ Lib.strCells s = LBy.all (bs ++ s.data.toList) := by rw [all_bytes, Lib.byteCells_append]; rfl
  rw [hcells] at r2
  have hlen : bs.length + s.size = (bs ++ s.data.toList).length := by simp
  rw [hlen] at r2
  have hown2 : Own LBy w2 B 5 v' (bs ++ s.data.toList) := Own.of_row r2
  obtain ⟨A', c', e1, _⟩ := hown2.form
  refine ⟨v', w2, r1, A', _, c', e1, ?_⟩
  rw [← hrow] at r3
  have f2 : Fb B w1 w2 := grow_fb r3 (own_row h1.own (by decide))
  have hb2 : Blk w2 b #[.pointer (some ⟨b, 0, none⟩), .slice A bs.length c0] 85 := by
    unfold Blk
    rw [r3.block b h1.2.1.lt fun e => ?_]
    · exact h1.2.1
    · have h2 := h1.own
      have h3 := h1.2.1
      rcases h2 with ⟨e1, _⟩ | ⟨⟨q, e1⟩, _⟩ | ⟨g, c1, cur, e1, hb3, hh, _⟩
      · rw [e1] at e; cases e
      · rw [e1] at e; cases e
      · rw [e1] at e
        cases e
        unfold Blk at h3
        rw [hh] at h3; cases h3
  by_cases hne : bs ++ s.data.toList = []
  · obtain ⟨rfl, hs0⟩ := List.append_eq_nil_iff.1 hne
    have hsz : s.size = 0 := by
      have : s.data.toList.length = s.size := by simp
      rw [hs0] at this; simpa using this.symm
    have hv0 : v' = .slice none 0 0 := r4.2 ⟨by
      rcases h2u with ⟨_, h⟩ | ⟨h, _⟩
      · exact h
      · exact absurd rfl h, hsz⟩
    subst hv0
    simp only [Value.slice.injEq] at e1
    obtain ⟨rfl, e2, rfl⟩ := e1
    rw [← e2]
    simp only [NonNil_some, Addr.add_mk, Nat.zero_add]
    refine st_blk hb2 (by simp) fun w3 hb3 f3 => hR w3 ⟨h1.1, _, _, hb3, .inr rfl, .inl ⟨hne, rfl⟩⟩ ((f1.trans f2).trans (Fb.of f3 fun k hk e => ?_))
    subst e
    exact ⟨h1.1, _, _, _, hb2, by decide⟩
  · rw [e1] at hown2
    refine h1.put hb2 hne hown2 fun w3 h3 f3 => hR w3 h3 ((f1.trans f2).trans (Fb.of f3 fun k hk e => ?_))
    subst e
    exact ⟨h1.1, _, _, _, hb2, by decide⟩
theorem string_calls (h : Bl w B b bs) (hBw : B ≤ w.heap.size) (hl : bs.length ≤ 1048576) (hR : ∀ w', Below B w w' → R (.returned (.string ⟨bs.toArray⟩)) w') : Calls Try.prog 40 #[.pointer (some ⟨b, 0, none⟩)] w R := by
  suffices hs : Calls Try.prog 40 #[.pointer (some ⟨b, 0, none⟩)] w fun e w' => e = .returned (.string ⟨bs.toArray⟩) ∧ Below B w w' by
    refine hs.mono ?_
    rintro e w' ⟨rfl, hb⟩
    exact hR w' hb
  obtain ⟨hB, p, v, hbk, hp, hv⟩ := h
  rcases hv with ⟨rfl, rfl⟩ | ⟨hne, ho⟩
  · have hUS : ∀ W, (Builtin.unsafeString_ #[105, 3] 9 #[.pointer none, .int .i64 0]).run Try.prog W = .ok (.string .empty) W := fun W => Lib.run_unsafeString_none W _ _ _ none
    have c1 : w.drew.cell? ⟨b, 1, none⟩ = some (.slice none 0 0) := by
      have : w.drew.heap[b]? = some (.cells #[p, .slice none 0 0] 85 (0, 0)) := hbk
      rw [Lib.cell_of_heap this]; rfl
    have hSD : (Builtin.unsafeSliceData_ #[40] 105 #[.slice none 0 0]).run Try.prog w.drew = .ok (.pointer none) w.drew := rfl
    go_enter Try.func40, Try.ntmps40
    go_wp2
    go_region
    all_goals (go_wp2; go_ret; exact ⟨rfl, Below.drew (Below.refl B w)⟩)
  · rcases ho with ⟨_, e⟩ | ⟨_, e⟩ | ⟨g, c, cur, rfl, hbg, hh, hn, hm, hsz, ht⟩
    · exact absurd e hne
    · exact absurd e hne
    have hl0 : bs.length ≠ 0 := by simpa using hne
    have hsz' : cur.size = c + 1 := by rw [hsz]; simp [LBy]
    have c1 : w.drew.cell? ⟨b, 1, none⟩ = some (.slice (some ⟨g, 0, none⟩) bs.length (c + 1)) := by
      have : w.drew.heap[b]? = some (.cells #[p, .slice (some ⟨g, 0, none⟩) bs.length (c + 1)] 85 (0, 0)) := hbk
      rw [Lib.cell_of_heap this]; rfl
    have hSD : (Builtin.unsafeSliceData_ #[40] 105 #[.slice (some ⟨g, 0, none⟩) bs.length (c + 1)]).run Try.prog w.drew = .ok (.pointer (some ⟨g, 0, none⟩)) w.drew :=
      Lib.run_unsafeSliceData_row _ _ _ _ _ _ (by omega)
    have hUS : (Builtin.unsafeString_ #[105, 3] 9 #[.pointer (some ⟨g, 0, none⟩), .int .i64 bs.length]).run Try.prog w.drew = .ok (.string ⟨bs.toArray⟩) (w.drew.freeze ⟨g, 0, none⟩ bs.length) := by
      refine Lib.run_unsafeString_row w.drew 105 3 9 5 Try.underlying105 (by kernel_rfl) g cur.size (by have hg' : w.drew.heap[g]? = some (.cells cur 5 (0, 0)) := hh; simp [World.shape?, hg']) bs hne (by omega) (by omega) ?_
      intro j x hx
      rw [Addr.add_mk]
      have hd : w.drew.heap[g]? = some (.cells cur 5 (0, 0)) := hh
      rw [Lib.cell_of_heap hd, Nat.zero_add, ← Array.getElem?_toList]
      have hj : j < bs.length := (List.getElem?_eq_some_iff.1 hx).1
      have h4 : (cur.toList.take (bs.length * LBy.n))[j]? = (LBy.all bs)[j]? := by rw [ht]
      rw [List.getElem?_take_of_lt (by simp [LBy]; exact hj), all_bytes] at h4
      rw [h4]
      simp [Lib.byteCells, hx]
    go_enter Try.func40, Try.ntmps40
    go_wp2
    go_region
    all_goals (go_wp2; go_ret; exact ⟨rfl, Lib.below_freeze (Below.drew (Below.refl B w)) (p := ⟨g, 0, none⟩) hbg _⟩)
end
end Go.Proofs.Ytkmoeokfgkmlhaa
