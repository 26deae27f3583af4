/- Words for proofs about the formulas that 'vc' reckons. -/
import Derived.Test.YtkmoeokfgkmlhaaVcSnd9
import Derived.Below
import Derived.IntWalk
namespace Go.Vc
open Go Go.RowKit
set_option linter.unusedVariables false
section
variable {w w' w0 : World} {k : IntKind} {R : Ending → World → Prop}

theorem Br_t {X Y : Prop} : Br true X Y = X := rfl
theorem Br_f {X Y : Prop} : Br false X Y = Y := rfl
theorem br {b : Bool} {X Y : Prop} (h1 : b = true → X) (h2 : b = false → Y) : Br b X Y := by cases b; exact h2 rfl; exact h1 rfl
theorem brd {p : Prop} [Decidable p] {X Y : Prop} (h1 : p → X) (h2 : ¬ p → Y) : Br (decide p) X Y :=
  br (fun h => h1 (of_decide_eq_true h)) (fun h => h2 (of_decide_eq_false h))
theorem bre {a b : Int} {X Y : Prop} (h1 : a = b → X) (h2 : a ≠ b → Y) : Br (a == b) X Y :=
  br (fun h => h1 (by simpa using h)) (fun h => h2 (by simpa using h))
theorem brn {a b : Int} {X Y : Prop} (h1 : a ≠ b → X) (h2 : a = b → Y) : Br (a != b) X Y :=
  br (fun h => h1 (by simpa using h)) (fun h => h2 (by simpa using h))
theorem brnot {b : Bool} {X Y : Prop} : Br (!b) X Y = Br b Y X := by cases b <;> rfl

theorem LdI_some {n : Int} {K : Int → Prop} : LdI k (some (.int k n)) K = K n := by simp [LdI]
theorem LdB_some {b : Bool} {K : Bool → Prop} : LdB (some (.bool b)) K = K b := by simp [LdB]
theorem LdStr_some {s : ByteArray} {K : ByteArray → Prop} : LdStr (some (.string s)) K = K s := by simp [LdStr]
theorem LdP_some {p : Option Addr} {K : Option Addr → Prop} : LdP (some (.pointer p)) K = K p := by simp [LdP]
theorem LdSl_some {p : Option Addr} {n c : Nat} {K : Option Addr → Nat → Nat → Prop} : LdSl (some (.slice p n c)) K = K p n c := by
  apply propext
  constructor
  · rintro ⟨p', n', c', h1, h2⟩; cases h1; exact h2
  · intro h; exact ⟨p, n, c, rfl, h⟩
theorem LdM_some {r : Option Nat} {K : Option Nat → Prop} : LdM (some (.map r)) K = K r := by simp [LdM]
theorem LdV_some {v : Value} {K : Value → Prop} : LdV (some v) K = K v := by simp [LdV]
theorem NonNil_some {a : Addr} {K : Addr → Prop} : NonNil (some a) K = K a := rfl
theorem IdxA_some {a : Addr} {n : Nat} {i : Int} {sz : Nat} {K : Addr → Prop} (h0 : 0 ≤ i) (h1 : i < n) : IdxA (some a) n i sz K = K (a.add (i.toNat * sz)) := by simp [IdxA, h0, h1]
theorem Addr.add_mk (b o n : Nat) : Addr.add ⟨b, o, none⟩ n = ⟨b, o + n, none⟩ := by
  unfold Addr.add; split
  · rename_i h; subst h; rfl
  · rfl

/-- Two ways that answer a bool each. -/
theorem brR {b x y : Bool} : Br b (R (.returned (.bool x)) w) (R (.returned (.bool y)) w) = R (.returned (.bool (bif b then x else y))) w := by cases b <;> rfl
theorem cond_f {b x : Bool} : (bif b then x else false) = (b && x) := by cases b <;> rfl
theorem cond_t {b x : Bool} : (bif b then true else x) = (b || x) := by cases b <;> rfl
/-! ### Blocks -/
/-- Block b is these cells. -/
def Blk (w : World) (b : Nat) (c : Array Value) (t : TypeId) : Prop := w.heap[b]? = some (.cells c t (0, 0))
theorem Blk.cell {b : Nat} {c : Array Value} {t : TypeId} (h : Blk w b c t) (i : Nat) : w.cell? ⟨b, i, none⟩ = c[i]? := by unfold Blk at h; simp [World.cell?, h]
theorem Blk.frozen {b : Nat} {c : Array Value} {t : TypeId} (h : Blk w b c t) (i : Nat) : w.frozen? ⟨b, i, none⟩ = false := by unfold Blk at h; simp [World.frozen?, h]
theorem Blk.lt {b : Nat} {c : Array Value} {t : TypeId} (h : Blk w b c t) : b < w.heap.size := (Array.getElem?_eq_some_iff.1 h).1
theorem Blk.alloc_new (w : World) (c : Array Value) (t : TypeId) : Blk (w.alloc (.cells c t)) w.heap.size c t := by
  show (w.heap.push _)[w.heap.size]? = _
  simp
theorem Blk.alloc {b : Nat} {c : Array Value} {t : TypeId} (h : Blk w b c t) (o : Obj) : Blk (w.alloc o) b c t := by
  have hl := h.lt
  unfold Blk at *; rw [Below.heap_alloc _ _ _ hl]; exact h
theorem Blk.drew {b : Nat} {c : Array Value} {t : TypeId} (h : Blk w b c t) : Blk w.drew b c t := h
theorem Blk.set {b : Nat} {c : Array Value} {t : TypeId} (h : Blk w b c t) (i : Nat) (v : Value) : Blk (w.setCell ⟨b, i, none⟩ v) b (c.setIfInBounds i v) t := by
  unfold Blk at *
  simp [World.setCell, Array.getElem?_modify, h]
theorem Blk.other {b : Nat} {c : Array Value} {t : TypeId} (h : Blk w b c t) {a : Addr} (ha : a.block ≠ b) (v : Value) : Blk (w.setCell a v) b c t := by
  unfold Blk at *
  rw [Below.heap_setCell _ _ _ _ (Ne.symm ha)]; exact h
theorem Blk.below {b B : Nat} {c : Array Value} {t : TypeId} (h : Blk w b c t) (hb : Below B w w') (hlt : b < B) : Blk w' b c t := by
  unfold Blk at *
  rw [hb.block b hlt]; exact h
theorem Blk.keep {b : Nat} {c : Array Value} {t : TypeId} (h : Blk w b c t) (hb : Below w.heap.size w w') : Blk w' b c t := h.below hb h.lt

/-- A new variable, by what is known of it. -/
theorem al {c : Array Value} {t : TypeId} {K : Addr → World → Prop} (h : ∀ g w1, Below w.heap.size w w1 → Blk w1 g c t → w.heap.size ≤ g → K ⟨g, 0, none⟩ w1) : Al w c t K :=
  h _ _ ((Below.refl _ _).alloc (Nat.le_refl _) _) (Blk.alloc_new w c t) (Nat.le_refl _)
theorem dr {K : World → Prop} (h : ∀ w1 : World, Below w.heap.size w w1 → (∀ b : Nat, w1.heap[b]? = w.heap[b]?) → K w1) : Dr w K := h _ ((Below.refl _ _).drew) (fun _ => rfl)
/-- A new variable into which a struct is stored, field by field. -/
theorem st_new {c : Array Value} {t : TypeId} {g : Nat} {K : World → Prop} {i : Nat} {v : Value} (hg : Blk w g c t) (hi : i < c.size) (h : ∀ w1, Blk w1 g (c.setIfInBounds i v) t → w1 = w.setCell ⟨g, i, none⟩ v → K w1) : St w ⟨g, i, none⟩ v K := by
  refine ⟨⟨c[i], by rw [hg.cell]; simp [hi]⟩, hg.frozen i, h _ (hg.set i v) rfl⟩
theorem al2 {z0 z1 v0 v1 : Value} {t : TypeId} {K : Addr → World → Prop} (h : ∀ g w1, Below w.heap.size w w1 → Blk w1 g #[v0, v1] t → w.heap.size ≤ g → K ⟨g, 0, none⟩ w1) :
    Al w #[z0, z1] t fun p w1 => St w1 p v0 fun w2 => St w2 (p.add 1) v1 fun w3 => K p w3 := by
  refine al fun g w1 hb hg hge => ?_
  simp only [Addr.add_mk]
  refine st_new hg (by simp) fun w2 hg2 e2 => st_new hg2 (by simp) fun w3 hg3 e3 => h g w3 ?_ hg3 hge
  subst e2 e3
  exact (hb.setCell (by simpa using hge) _).setCell (by simpa using hge) _
theorem al3 {z0 z1 z2 v0 v1 v2 : Value} {t : TypeId} {K : Addr → World → Prop} (h : ∀ g w1, Below w.heap.size w w1 → Blk w1 g #[v0, v1, v2] t → w.heap.size ≤ g → K ⟨g, 0, none⟩ w1) :
    Al w #[z0, z1, z2] t fun p w1 => St w1 p v0 fun w2 => St w2 (p.add 1) v1 fun w3 => St w3 (p.add 2) v2 fun w4 => K p w4 := by
  refine al fun g w1 hb hg hge => ?_
  simp only [Addr.add_mk]
  refine st_new hg (by simp) fun w2 hg2 e2 => st_new hg2 (by simp) fun w3 hg3 e3 => st_new hg3 (by simp) fun w4 hg4 e4 => h g w4 ?_ hg4 hge
  subst e2 e3 e4
  exact ((hb.setCell (by simpa using hge) _).setCell (by simpa using hge) _).setCell (by simpa using hge) _
theorem al4 {z0 z1 z2 z3 v0 v1 v2 v3 : Value} {t : TypeId} {K : Addr → World → Prop} (h : ∀ g w1, Below w.heap.size w w1 → Blk w1 g #[v0, v1, v2, v3] t → w.heap.size ≤ g → K ⟨g, 0, none⟩ w1) :
    Al w #[z0, z1, z2, z3] t fun p w1 => St w1 p v0 fun w2 => St w2 (p.add 1) v1 fun w3 => St w3 (p.add 2) v2 fun w4 => St w4 (p.add 3) v3 fun w5 => K p w5 := by
  refine al fun g w1 hb hg hge => ?_
  simp only [Addr.add_mk]
  refine st_new hg (by simp) fun w2 hg2 e2 => st_new hg2 (by simp) fun w3 hg3 e3 => st_new hg3 (by simp) fun w4 hg4 e4 => st_new hg4 (by simp) fun w5 hg5 e5 => h g w5 ?_ hg5 hge
  subst e2 e3 e4 e5
  exact (((hb.setCell (by simpa using hge) _).setCell (by simpa using hge) _).setCell (by simpa using hge) _).setCell (by simpa using hge) _
theorem below_size (h : Below w.heap.size w w') : w.heap.size ≤ w'.heap.size := h.size
theorem btr {B : Nat} {a b c : World} (h : Below B a b) (hB : B ≤ b.heap.size) (k : Below b.heap.size b c) : Below B a c := h.trans (k.mono hB)
end
end Go.Vc
