/- Models: a model under construction. -/
import Derived.Test.YtkmoeokfgkmlhaaMdMod
namespace Go.Proofs.Ytkmoeokfgkmlhaa
open Go.RowKit Go.Vc Go.Mdl
set_option linter.unusedVariables false
set_option linter.unusedSimpArgs false
set_option maxRecDepth 100000
theorem all_set1 {α : Type} (L : Lay α) (h1 : L.n = 1) {x : α} {v : Value} (hv : L.cells x = [v]) : ∀ (xs : List α) (i : Nat), L.all (xs.set i x) = (L.all xs).set i v
  | [], i => by simp [Lay.all]
  | y :: ys, i => by
    have hy := L.len y
    rw [h1] at hy
    obtain ⟨u, hu⟩ := List.length_eq_one_iff.1 hy
    have e : ∀ zs, L.all (y :: zs) = u :: L.all zs := fun zs => by simp [Lay.all, hu]
    cases i with
    | zero => rw [List.set_cons_zero, e]; simp [Lay.all, hv]
    | succ i => rw [List.set_cons_succ, e, e, List.set_cons_succ, all_set1 L h1 hv ys i]
/-- An element of a row of the call's own is stored. -/
theorem Own.put {α : Type} {L : Lay α} {w : World} {base : Nat} {e : TypeId} {A : Option Addr} {n c : Nat} {xs : List α} (h : Own L w base e (.slice A n c) xs) (h1 : L.n = 1) {i : Int} {k : Nat} (hi : i = k) (hk : k < xs.length) {x : α} {v : Value} (hv : L.cells x = [v]) {K : World → Prop}
    (hK : ∀ w', Own L w' base e (.slice A n c) (xs.set k x) → Fm (fun b => rowOf (.slice A n c) = some b) w w' → K w') : IdxA A n i 1 fun q => St w q v fun w' => K w' := by
  subst hi
  rcases h with ⟨h, rfl⟩ | ⟨_, rfl⟩ | ⟨g, c', cur, hs, hb, hh, hn, hm, hsz, ht⟩
  · simp at hk
  · simp at hk
  · simp only [Value.slice.injEq] at hs
    obtain ⟨rfl, rfl, rfl⟩ := hs
    rw [h1, Nat.mul_one] at hsz ht
    rw [IdxA_some (by omega) (by omega), Addr.add_mk, Nat.zero_add, Nat.mul_one, Int.toNat_natCast]
    refine ⟨⟨cur[k]'(by omega), by rw [Blk.cell hh]; simp [show k < cur.size by omega]⟩, Blk.frozen hh k, hK _ (.inr (.inr ⟨g, c', cur.setIfInBounds k v, by simp, hb, Blk.set hh k v, by simpa using hn, hm, by simp [h1, hsz], ?_⟩)) ⟨rfl, rfl, rfl, by simp, fun b hb2 hne => Below.heap_setCell _ _ _ _ fun e => hne (by rw [e]; rfl)⟩⟩
    rw [h1, Nat.mul_one, List.length_set, all_set1 L h1 hv, ← ht, Array.toList_setIfInBounds, List.take_set]
/-! ### What turns while a model is made -/
def tyAt (w : World) (b : Nat) (p : TypeId → Bool) : Prop := ∃ c t f, w.heap[b]? = some (.cells c t f) ∧ p t = true
def isMut (t : TypeId) : Bool := Nat.beq t 60 || (Nat.beq t 9 || Nat.beq t 56)
def isInt (t : TypeId) : Bool := Nat.beq t 3
def Mt (B : Nat) (w : World) (b : Nat) : Prop := B ≤ b ∧ tyAt w b isMut
def Fi (B : Nat) (w w1 : World) : Prop := Fm (Mt B w) w w1
section
variable {B : Nat} {w w1 w2 : World} {M : Nat → Prop}
theorem tyAt_blk {b : Nat} {c : Array Value} {t : TypeId} {p : TypeId → Bool} (h : Blk w b c t) (hp : p t = false) : ¬ tyAt w b p := by
  rintro ⟨c', t', f', h1, h2⟩
  unfold Blk at h
  rw [h] at h1
  cases h1
  rw [hp] at h2; cases h2
theorem tyAt_heap {b : Nat} {p : TypeId → Bool} (h : w1.heap[b]? = w.heap[b]?) : tyAt w1 b p ↔ tyAt w b p := by unfold tyAt; rw [h]
theorem Fi.trans (h : Fi B w w1) (k : Fi B w1 w2) : Fi B w w2 :=
  ⟨k.os.trans h.os, k.tape.trans h.tape, k.output.trans h.output, Nat.le_trans h.size k.size, fun b hb hm => by
    have h1 := h.block b hb hm
    refine (k.block b (Nat.lt_of_lt_of_le hb h.size) fun hm2 => hm ⟨hm2.1, (tyAt_heap h1).1 hm2.2⟩).trans h1⟩
theorem Fi.refl (B : Nat) (w : World) : Fi B w w := Fm.refl _ _
theorem Fi.below (h : Below w.heap.size w w1) : Fi B w w1 := Fm.below h
theorem Fi.of (h : Fm M w w1) (hm : ∀ b, b < w.heap.size → M b → Mt B w b) : Fi B w w1 := h.mono hm
/-- Behind a step that turns only blocks made since. -/
theorem Fi.new (h : Fi B w w1) (k : Fm M w1 w2) (hm : ∀ b, b < w.heap.size → ¬ M b) : Fi B w w2 := Fm.trans' h k hm
theorem Fi.blk (h : Fi B w w1) {b : Nat} {c : Array Value} {t : TypeId} (hb : Blk w b c t) (ht : isMut t = false) : Blk w1 b c t := Fm.blk h hb fun hm => tyAt_blk hb ht hm.2
theorem Fi.sub (h : Fi B w w1) {w0 : World} (h0 : Sub w0 w) (hB : ∀ b c t f, w0.heap[b]? = some (.cells c t f) → b < B) : Sub w0 w1 := fun b c t f hc => by
  have h1 := h0 b c t f hc
  have hlt := (Array.getElem?_eq_some_iff.1 h1).1
  rw [Fm.block h b hlt fun hm => by have := hB b c t f hc; have := hm.1; omega]
  exact h1
/-! ### Lists of places -/
/-- A list of places, made from block B on. -/
def RdI (B : Nat) (w : World) (v : Sv) (xs : List Nat) : Prop := v.2.1 = xs.length ∧ Rd LK w v.1 v.2.2 xs ∧ (0 < xs.length → ∀ a, v.1 = some a → B ≤ a.block ∧ tyAt w a.block isInt)
theorem RdI.fm {v : Sv} {xs : List Nat} (h : RdI B w v xs) (hf : Fm M w w1) (hm : ∀ b, M b → ¬ tyAt w b isInt) : RdI B w1 v xs := by
  obtain ⟨h1, h2, h3⟩ := h
  have key : ∀ a, 0 < xs.length → v.1 = some a → w1.heap[a.block]? = w.heap[a.block]? := fun a h0 ha => by
    have h4 := (h3 h0 a ha).2
    obtain ⟨c, t, f, h5, _⟩ := h4
    exact hf.block _ (Array.getElem?_eq_some_iff.1 h5).1 fun hM => hm _ hM (h3 h0 a ha).2
  refine ⟨h1, ⟨h2.1, h2.2.1, h2.2.2.1, fun h0 => ?_⟩, fun h0 a ha => ⟨(h3 h0 a ha).1, (tyAt_heap (key a h0 ha)).2 (h3 h0 a ha).2⟩⟩
  obtain ⟨b, o, hA, hc⟩ := h2.2.2.2 h0
  refine ⟨b, o, hA, fun j u hj => ?_⟩
  have := hc j u hj
  unfold World.cell? at this ⊢
  rw [key _ h0 hA]
  exact this
theorem RdI.fi {B' : Nat} {v : Sv} {xs : List Nat} (h : RdI B w v xs) (hf : Fi B' w w1) : RdI B w1 v xs := h.fm hf fun b hm hi => by
  obtain ⟨c, t, f, h1, h2⟩ := hm.2
  obtain ⟨c', t', f', h3, h4⟩ := hi
  rw [h1] at h3
  cases h3
  unfold isInt at h4
  have := Nat.eq_of_beq_eq_true h4
  subst this
  revert h2; decide
theorem RdI.below {v : Sv} {xs : List Nat} (h : RdI B w v xs) (hf : Below w.heap.size w w1) : RdI B w1 v xs := h.fm (M := fun _ => False) (.below hf) fun _ h => h.elim
theorem RdI.nil (B : Nat) (w : World) : RdI B w (none, 0, 0) [] := ⟨rfl, Rd.nil _ _, by simp⟩
theorem RdI.weak {B' : Nat} {v : Sv} {xs : List Nat} (h : RdI B w v xs) (hB : B' ≤ B) : RdI B' w v xs := ⟨h.1, h.2.1, fun h0 a ha => ⟨Nat.le_trans hB (h.2.2 h0 a ha).1, (h.2.2 h0 a ha).2⟩⟩
theorem RdI.sub {v : Sv} {xs : List Nat} (h : RdI B w v xs) (hs : Sub w w1) : RdI B w1 v xs :=
  ⟨h.1, hs.rd h.2.1, fun h0 a ha => ⟨(h.2.2 h0 a ha).1, by
    obtain ⟨c, t, f, h1, h2⟩ := (h.2.2 h0 a ha).2
    exact ⟨c, t, f, hs _ _ _ _ h1, h2⟩⟩⟩
/-- It reads only what is there from B on. -/
theorem RdI.above {v : Sv} {xs : List Nat} (h : RdI B w v xs) : RdI B (above B w) v xs := by
  obtain ⟨h1, h2, h3⟩ := h
  refine ⟨h1, ⟨h2.1, h2.2.1, h2.2.2.1, fun h0 => ?_⟩, fun h0 a ha => ⟨(h3 h0 a ha).1, ?_⟩⟩
  · obtain ⟨b, o, hA, hc⟩ := h2.2.2.2 h0
    refine ⟨b, o, hA, fun j u hj => ?_⟩
    have h4 := hc j u hj
    have hb : B ≤ b := (h3 h0 _ hA).1
    unfold World.cell? at h4 ⊢
    split at h4
    · rename_i c t fr he
      have := cells_only (ok := fun b => Nat.ble B b) (Nat.ble_eq_true_of_le hb) he
      unfold Ytkmoeokfgkmlhaa.above
      rw [this]; exact h4
    · cases h4
  · obtain ⟨c, t, f, h4, h5⟩ := (h3 h0 a ha).2
    exact ⟨c, t, f, cells_only (ok := fun b => Nat.ble B b) (Nat.ble_eq_true_of_le (h3 h0 a ha).1) h4, h5⟩
theorem RdI.own {k : Nat} {X : Option Addr} {n xc : Nat} {xs : List Nat} (h : Own LK w k 3 (.slice X n xc) xs) (hB : B ≤ k) : RdI B w (X, n, xc) xs := by
  obtain ⟨h1, h2⟩ := h.rd
  refine ⟨h1, h2, fun h0 a ha => ?_⟩
  rcases h with ⟨_, rfl⟩ | ⟨_, rfl⟩ | ⟨g, c', cur, hs, hb, hh, _⟩
  · simp at h0
  · simp at h0
  · simp only [Value.slice.injEq] at hs
    obtain ⟨rfl, _, _⟩ := hs
    cases ha
    exact ⟨Nat.le_trans hB hb, cur, _, _, hh, rfl⟩
/-- joined, of lists in memory. -/
theorem joinI {B1 B2 : Nat} {R : Ending → World → Prop} {v u : Sv} {a b : List Nat} (hB : B ≤ w.heap.size) (ha : RdI B1 w v a) (hb : RdI B2 w u b) (hl : a.length + b.length ≤ 1048576) (hR : ∀ (x : Sv) w', RdI B w' x (joined a b) → Below w.heap.size w w' → R (.returned (.slice x.1 x.2.1 x.2.2)) w') :
    Calls Try.prog 44 #[.slice v.1 v.2.1 v.2.2, .slice u.1 u.2.1 u.2.2] w R := by
  rw [ha.1, hb.1]
  exact joined_calls ha.2.1 hb.2.1 hl fun X xc w' ho hb' => hR (X, _, xc) w' (.own ho hB) hb'
/-! ### The model -/
def LSt : Lay ByteArray := ⟨1, fun s => [.string s], fun _ => rfl, fun _ => by simp [Value.oneCell'], by decide⟩
def RdF (B : Nat) (w : World) (vs : List Sv) (fol : List (List Nat)) : Prop := vs.length = fol.length ∧ ∀ (i : Nat) v l, vs[i]? = some v → fol[i]? = some l → RdI B w v l
abbrev mB (sl a f fs ls : Sv) (e : Bool) : Array Value := #[.slice sl.1 sl.2.1 sl.2.2, .slice a.1 a.2.1 a.2.2, .slice fs.1 fs.2.1 fs.2.2, .slice f.1 f.2.1 f.2.2, .slice ls.1 ls.2.1 ls.2.2, .bool e]
structure MI (B : Nat) (w : World) (g : Nat) (sl a f : Sv) (gs : GS) : Prop where
  ge : B ≤ g
  blk : Blk w g (mB sl a f (none, 0, 0) (none, 0, 0) false) 60
  at_ : Own LSt w B 9 (.slice a.1 a.2.1 a.2.2) gs.1
  fol : ∃ vs, Own LSv w B 56 (.slice f.1 f.2.1 f.2.2) vs ∧ RdF B w vs gs.2
def Harm (t : TypeId) : Bool := isMut t || isInt t
theorem MI.keep {g : Nat} {sl a f : Sv} {gs : GS} (h : MI B w g sl a f gs) (hf : Fm M w w1) (hm : ∀ b, M b → ¬ tyAt w b Harm) : MI B w1 g sl a f gs := by
  have hty : ∀ {b c t}, Blk w b c t → Harm t = true → ¬ M b := fun hb ht hM => hm _ hM ⟨_, _, _, hb, ht⟩
  obtain ⟨vs, h1, h2, h3⟩ := h.fol
  have row : ∀ {α : Type} {L : Lay α} {v : Value} {xs : List α} {e : TypeId}, Own L w B e v xs → Harm e = true → Own L w1 B e v xs := by
    intro α L v xs e ho he
    rcases ho with ho | ho | ⟨g, c, cur, rfl, hb, hh, hn, hmx, hs, ht⟩
    · exact .inl ho
    · exact .inr (.inl ho)
    · exact .inr (.inr ⟨g, c, cur, rfl, hb, hf.blk hh (hty hh he), hn, hmx, hs, ht⟩)
  exact ⟨h.ge, hf.blk h.blk (hty h.blk (by decide)), row h.at_ (by decide), vs, row h1 (by decide), h2, fun i v l k1 k2 => (h3 i v l k1 k2).fm hf fun b hM hi => hm b hM (by
    obtain ⟨c, t, f, q1, q2⟩ := hi
    exact ⟨c, t, f, q1, by unfold Harm; rw [q2]; simp⟩)⟩
theorem MI.below {g : Nat} {sl a f : Sv} {gs : GS} (h : MI B w g sl a f gs) (hf : Below w.heap.size w w1) : MI B w1 g sl a f gs := h.keep (M := fun _ => False) (.below hf) fun _ h => h.elim
theorem MI.box {g b : Nat} {sl a f : Sv} {gs : GS} {c : Array Value} {t : TypeId} (h : MI B w g sl a f gs) (hb : Blk w b c t) (ht : Harm t = false) (hf : Fm (· = b) w w1) : MI B w1 g sl a f gs :=
  h.keep hf fun _ e => e ▸ tyAt_blk hb ht
theorem RdI.box {b : Nat} {v : Sv} {xs : List Nat} {c : Array Value} {t : TypeId} (h : RdI B w v xs) (hb : Blk w b c t) (ht : isInt t = false) (hf : Fm (· = b) w w1) : RdI B w1 v xs :=
  h.fm hf fun _ e => e ▸ tyAt_blk hb ht
theorem MI.lens {g : Nat} {sl a f : Sv} {gs : GS} (h : MI B w g sl a f gs) : a.2.1 = gs.1.length ∧ f.2.1 = gs.2.length := by
  obtain ⟨vs, h1, h2, _⟩ := h.fol
  exact ⟨h.at_.rd.1, h1.rd.1.trans h2⟩
theorem MI.lt {g : Nat} {sl a f : Sv} {gs : GS} (h : MI B w g sl a f gs) : g < w.heap.size := h.blk.lt
/-- The row of what follows is written. -/
theorem fol_fi {g : Nat} {sl a f : Sv} {gs : GS} (h : MI B w g sl a f gs) (hf : Fm (fun b => rowOf (.slice f.1 f.2.1 f.2.2) = some b) w w1) : Fi B w w1 := by
  obtain ⟨vs, h1, _⟩ := h.fol
  refine Fi.of hf fun b hb hr => ⟨(h1.lt b hr).1, ?_⟩
  rcases h1 with ⟨e, _⟩ | ⟨⟨q, e⟩, _⟩ | ⟨g, c, cur, e, hb2, hh, _⟩
  · rw [e] at hr; cases hr
  · rw [e] at hr; cases hr
  · rw [e] at hr; cases hr
    exact ⟨cur, _, _, hh, rfl⟩
theorem row_not {α : Type} {L : Lay α} {v : Value} {xs : List α} {e : TypeId} {p : TypeId → Bool} (h : Own L w B e v xs) (hp : p e = false) : ∀ b, rowOf v = some b → ¬ tyAt w b p := by
  intro b hr
  rcases h with ⟨rfl, _⟩ | ⟨⟨q, rfl⟩, _⟩ | ⟨g, c, cur, rfl, hb2, hh, _⟩
  · cases hr
  · cases hr
  · cases hr
    exact tyAt_blk hh hp
theorem behind_calls {g : Nat} {sl a f v u : Sv} {gs : GS} {last first : List Nat} {R : Ending → World → Prop} (h : MI B w g sl a f gs) (hi : GI gs) (h128 : gs.1.length ≤ 128) (hv : RdI B w v last) (hu : RdI B w u first) (hl : ∀ k ∈ last, k < gs.1.length) (hfw : Few gs.1.length first) (hll : last.length ≤ 128)
    (hR : ∀ w', MI B w' g sl a f (gs.1, behind gs.2 last first) → Fi B w w' → R (.returned (.tuple #[])) w') :
    Calls Try.prog 73 #[.pointer (some ⟨g, 0, none⟩), .slice v.1 v.2.1 v.2.2, .slice u.1 u.2.1 u.2.2] w R := by
  refine ok73 _ _ _ _ _ _ _ ?_
  unfold F73
  refine ⟨fun i w1 => ∃ k : Nat, i = k ∧ k ≤ last.length ∧ MI B w1 g sl a f (gs.1, behind gs.2 (last.take k) first) ∧ GI (gs.1, behind gs.2 (last.take k) first) ∧ Fi B w w1, fun i _ => last.length - i.toNat, ⟨0, rfl, by omega, h, hi, Fi.refl _ _⟩, ?_⟩
  rintro i w1 ⟨k, rfl, hk, h1, hi1, f1⟩
  unfold F73_l1
  have hv1 := hv.fi f1
  have hu1 := hu.fi f1
  refine brd (fun hlt => ?_) (fun hge => ?_)
  · have hk2 : k < last.length := by have := hv.1; omega
    have hj := hl _ (List.getElem_mem hk2)
    refine hv1.2.1.k hv1.1 rfl hk2 fun b o c0 => ?_
    refine lI c0 ?_
    refine ⟨fun w' => Below w1.heap.size w1 w', (Below.refl _ _).drew, ?_⟩
    have hm := h1.blk.cell
    have ldf : Held (fun w' => Below w1.heap.size w1 w') ⟨g, 3, none⟩ (.slice f.1 f.2.1 f.2.2) := fun w' hb => kcell hb (hm 3)
    simp only [NonNil_some, Addr.add_mk, Nat.zero_add]
    refine ⟨f.1, f.2.1, f.2.2, ldf, f.1, f.2.1, f.2.2, ldf, ?_⟩
    obtain ⟨vs, o1, o2, o3⟩ := h1.fol
    have hlen : (behind gs.2 (last.take k) first).length = gs.1.length := hi1.1.symm
    have hjv : last[k] < vs.length := by rw [o2]; dsimp only; omega
    have hjf : last[k] < (behind gs.2 (last.take k) first).length := by omega
    refine o1.rd.2.held (fun _ h => h) o1.rd.1 (i := (last[k] : Int)) (by omega) (by rw [o1.rd.1]; omega) rfl fun b' o' hc => ?_
    simp only [Int.toNat_natCast] at hc
    refine ⟨_, _, _, hc 0 _ rfl, ?_⟩
    have hr : RdI B w1 vs[last[k]] ((behind gs.2 (last.take k) first)[last[k]]) := o3 _ _ _ (List.getElem?_eq_getElem hjv) (List.getElem?_eq_getElem hjf)
    have hd : Below w1.heap.size w1 w1.drew := (Below.refl _ _).drew
    have hfew := hi1.2 _ (List.getElem_mem hjf)
    have hl1 := hfew.len
    have hl2 := hfw.len
    dsimp only at hl1
    refine joinI (B := B) (by have := h1.lt; have := h1.ge; show B ≤ w1.heap.size; omega) (hr.below hd) (hu1.below hd) (by omega) fun x w2 hx hb2 => ?_
    have hb12 : Below w1.heap.size w1 w2 := btr hd hd.size hb2
    refine ⟨_, _, _, rfl, hb12, ?_⟩
    have o1' := o1.keep hb12
    refine o1'.put rfl rfl hjv (x := x) rfl fun w3 o4 f3 => ⟨inR_i64 (by have := hv.1; omega) (by have := hv.1; omega), ⟨k + 1, by simp, by omega, ?_, ?_, ?_⟩, by have := hv.1; first | omega | (dsimp only; omega)⟩
    · rw [behind_take _ _ _ _ hk2, behind1_at _ _ _ hjf]
      have h2 := h1.below hb12
      have hnot := row_not (p := isInt) o1' (by decide)
      refine ⟨h1.ge, ?_, ?_, _, o4, ?_, ?_⟩
      · exact f3.blk h2.blk (fun hr => row_not (p := fun t => Nat.beq t 60) o1' (by decide) _ hr ⟨_, _, _, h2.blk, by decide⟩)
      · rcases h2.at_ with q | q | ⟨g2, c2, cur2, q1, q2, q3, q4⟩
        · exact .inl q
        · exact .inr (.inl q)
        · exact .inr (.inr ⟨g2, c2, cur2, q1, q2, f3.blk q3 (fun hr => row_not (p := fun t => Nat.beq t 9) o1' (by decide) _ hr ⟨_, _, _, q3, by decide⟩), q4⟩)
      · simp [o2]
      · intro i v' l' q1 q2
        by_cases hil : i = last[k]
        · subst hil
          simp only [List.getElem?_set_self hjv, List.getElem?_set_self hjf, Option.some.injEq] at q1 q2
          subst q1 q2
          exact hx.fm f3 hnot
        · rw [List.getElem?_set_ne (Ne.symm hil)] at q1
          dsimp only at q2
          rw [List.getElem?_set_ne (Ne.symm hil)] at q2
          exact ((o3 i v' l' q1 q2).below hb12).fm f3 hnot
    · have := GI.behind1 hi1 hfw.2 last[k]
      rw [behind_take _ _ _ _ hk2]; exact this
    · exact f1.trans ((Fi.below hb12).trans (fol_fi (h1.below hb12) f3))
  · obtain rfl : k = last.length := by have := hv.1; omega
    rw [List.take_length] at h1
    exact hR w1 h1 f1
end
end Go.Proofs.Ytkmoeokfgkmlhaa
