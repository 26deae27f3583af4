/- What is wrong with a forest's spans: a plain function on lists, with the open ones on a stack (the top first). -/
import Derived.Test.YtaanlildniiijaaAxis
import Derived.Test.YtaanlildniiijaaSl
namespace Go.Proofs.Ytaanlildniiijaa
open Go.RowKit
def LSp : Lay Sp := { n := 3, cells := fun s => [.int .u64 s.b, .int .u64 s.e, .int .i64 s.l], len := fun _ => rfl, one := by intro x u hu; simp at hu; rcases hu with rfl | rfl | rfl <;> rfl, pos := by decide }
theorem Try.infoSp : (Try.prog.info? 29).map (fun i => (i.zero, i.size, i.bytes)) = some (some (.agg #[.int .u64 0, .int .u64 0, .int .i64 0]), 3, 24) := by kernel_rfl
def popS (x : Sp) : List Sp → List Sp
  | [] => []
  | t :: r => if t.e < x.b then popS x r else t :: r
def badS (x : Sp) : List Sp → Bool
  | [] => x.l != 0
  | t :: r => decide (t.e ≤ x.e) || x.l != ((t :: r).length : Int)
def prevS (l : List Sp) (k : Nat) (x : Sp) : Bool := decide (0 < k) && decide (x.b ≤ (l.getD (k - 1) ⟨0, 0, 0⟩).b)
def chkF (l : List Sp) : Nat → List Sp → List Sp → Int × Int
  | _, _, [] => (0, 0)
  | k, st, x :: r => if canB x = false then (k, 110) else if prevS l k x then (k, 71) else if badS x (popS x st) then (k, 111) else chkF l (k + 1) (x :: popS x st) r
def chk (l : List Sp) : Int × Int := if l.length > 8192 then (0, 2) else chkF l 0 [] l
theorem chkF_end (l : List Sp) (st : List Sp) : chkF l l.length st (l.drop l.length) = (0, 0) := by simp [chkF]
theorem chkF_at (l : List Sp) (k : Nat) (st : List Sp) (h : k < l.length) : chkF l k st (l.drop k) = (if canB l[k] = false then ((k : Int), 110) else if prevS l k l[k] then ((k : Int), 71) else if badS l[k] (popS l[k] st) then ((k : Int), 111) else chkF l (k + 1) (l[k] :: popS l[k] st) (l.drop (k + 1))) := by
  rw [List.drop_eq_getElem_cons h]; rfl
theorem popS_cons (x t : Sp) (r : List Sp) : popS x (t :: r) = if t.e < x.b then popS x r else t :: r := rfl
theorem popS_len (x : Sp) : ∀ st, (popS x st).length ≤ st.length
  | [] => Nat.le_refl _
  | t :: r => by
    unfold popS; split
    · exact Nat.le_succ_of_le (popS_len x r)
    · exact Nat.le_refl _
theorem Rd.sp {w : World} {A : Option Addr} {c : Nat} {xs : List Sp} (h : Rd LSp w A c xs) (i : Nat) (hi : i < xs.length) :
    ∃ b o, A = some ⟨b, o, none⟩ ∧ w.cell? ⟨b, o + i * 3, none⟩ = some (.int .u64 xs[i].b) ∧ w.cell? ⟨b, o + i * 3 + 1, none⟩ = some (.int .u64 xs[i].e) ∧ w.cell? ⟨b, o + i * 3 + 2, none⟩ = some (.int .i64 xs[i].l) := by
  obtain ⟨b, o, hA, hc⟩ := h.at i hi
  exact ⟨b, o, hA, hc 0 _ rfl, hc 1 _ rfl, hc 2 _ rfl⟩
/-- The top of a stack. -/
theorem Own.top {w : World} {base : Nat} {e : TypeId} {A : Option Addr} {n c : Nat} {t : Sp} {r : List Sp} (h : Own LSp w base e (.slice A n c) (t :: r).reverse) :
    ∃ b o, A = some ⟨b, o, none⟩ ∧ w.cell? ⟨b, o + r.length * 3, none⟩ = some (.int .u64 t.b) ∧ w.cell? ⟨b, o + r.length * 3 + 1, none⟩ = some (.int .u64 t.e) ∧ w.cell? ⟨b, o + r.length * 3 + 2, none⟩ = some (.int .i64 t.l) := by
  obtain ⟨b, o, hA, h1, h2, h3⟩ := h.rd.2.sp r.length (by simp)
  exact ⟨b, o, hA, by simpa using h1, by simpa using h2, by simpa using h3⟩
theorem Own.popS {w : World} {base : Nat} {e : TypeId} {A : Option Addr} {c : Nat} {t : Sp} {r : List Sp} (h : Own LSp w base e (.slice A (r.length + 1) c) (t :: r).reverse) : Own LSp w base e (.slice A r.length c) r.reverse := by
  have h' : Own LSp w base e (.slice A (r.reverse.length + 1) c) (r.reverse ++ [t]) := by simpa using h
  simpa using h'.pop
/-- One span, laid down for an append. -/
theorem Rd.sp1 (W : World) (x : Sp) (t : TypeId) {g : Nat} (hg : g = W.heap.size) : Rd LSp (W.alloc (.cells #[.int .u64 x.b, .int .u64 x.e, .int .i64 x.l] t)) (some ⟨g, 0, none⟩) 1 [x] := by
  subst hg; exact Rd.lit1 _ _ _ _ rfl
def lenV : Value → Nat
  | .slice _ n _ => n
  | _ => 0
end Go.Proofs.Ytaanlildniiijaa
