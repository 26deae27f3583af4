/- The tests of two spans: what they answer. -/
import Derived.Test.YtaanlildniiijaaGAxis
import Derived.Test.YtaanlildniiijaaVcAp
namespace Go.Proofs.Ytaanlildniiijaa
open Go.RowKit Go.Vc
structure Sp where
  b : Int
  e : Int
  l : Int
  deriving DecidableEq, Inhabited
def spv (s : Sp) : Value := .agg #[.int .u64 s.b, .int .u64 s.e, .int .i64 s.l]
def canB (a : Sp) : Bool := decide (a.b ≥ 1) && (decide (a.b < a.e) && (decide (a.e < 4611686018427387904) && (decide (a.l ≥ 0) && decide (a.l < 64))))
def selfB (a b : Sp) : Bool := (a.b == b.b) && (a.e == b.e)
def ancB (a b : Sp) : Bool := decide (a.b < b.b) && decide (b.e < a.e)
def behB (a b : Sp) : Bool := decide (b.e < a.b)
def parB (a b : Sp) : Bool := ancB a b && (decide (a.l < b.l) && (a.l + 1 == b.l))
/-- It makes a bool of these, and nothing that was there turns. -/
abbrev B1 (f : Nat) (args : Array Value) (b : Bool) : Prop := ∀ {w : World} {R : Ending → World → Prop}, (∀ w', Below w.heap.size w w' → R (.returned (.bool b)) w') → Calls Try.prog f args w R
theorem canB_l {a : Sp} (h : canB a = true) : 0 ≤ a.l ∧ a.l < 64 := by simp [canB] at h; omega
section
variable {w w' : World}
/-- A variable with a span. -/
def BSp (w : World) (g : Nat) (s : Sp) (t : TypeId) : Prop := Blk w g #[.int .u64 s.b, .int .u64 s.e, .int .i64 s.l] t
theorem can_calls (a : Sp) : B1 52 #[spv a] (canB a) := fun h => by
  refine ok52 a.b a.e a.l ?_
  unfold F52
  refine al fun g w1 hb hg _ => ?_
  simpa [Addr.add_mk, hg.cell, LdI_some, brR, cond_f, canB] using h w1 hb
theorem valid_calls (a : Sp) : B1 53 #[spv a] (canB a) := fun h => by
  refine ok53 a.b a.e a.l ?_
  unfold F53
  refine al fun g w1 hb hg _ => ?_
  simpa [Addr.add_mk, hg.cell, LdI_some, brR, cond_f, canB] using h w1 hb
theorem self_calls (a b : Sp) : B1 11 #[spv a, spv b] (selfB a b) := fun h => by
  refine ok11 a.b a.e a.l b.b b.e b.l ?_
  unfold F11
  refine al fun g w1 hb hg _ => al fun g' w2 hb' hg' _ => ?_
  have hg1 := hg.keep hb'
  have H := h w2 (btr hb hb.size hb')
  simpa [Addr.add_mk, hg1.cell, hg'.cell, LdI_some, brR, cond_f, selfB] using H
theorem anc_calls (a b : Sp) : B1 12 #[spv a, spv b] (ancB a b) := fun h => by
  refine ok12 a.b a.e a.l b.b b.e b.l ?_
  unfold F12
  refine al fun g w1 hb hg _ => al fun g' w2 hb' hg' _ => ?_
  have hg1 := hg.keep hb'
  have H := h w2 (btr hb hb.size hb')
  simpa [Addr.add_mk, hg1.cell, hg'.cell, LdI_some, brR, cond_f, ancB] using H
theorem selfR_calls (a b : Sp) : B1 20 #[spv a, spv b] (selfB a b) := fun h => by
  refine ok20 a.b a.e a.l b.b b.e b.l ?_
  unfold F20
  refine al fun g w1 hb hg _ => al fun g' w2 hb' hg' _ => ?_
  have hg1 := hg.keep hb'
  have H := h w2 (btr hb hb.size hb')
  simpa [Addr.add_mk, hg1.cell, hg'.cell, LdI_some, brR, cond_f, selfB] using H
theorem ancR_calls (a b : Sp) : B1 21 #[spv a, spv b] (ancB a b) := fun h => by
  refine ok21 a.b a.e a.l b.b b.e b.l ?_
  unfold F21
  refine al fun g w1 hb hg _ => al fun g' w2 hb' hg' _ => ?_
  have hg1 := hg.keep hb'
  have H := h w2 (btr hb hb.size hb')
  simpa [Addr.add_mk, hg1.cell, hg'.cell, LdI_some, brR, cond_f, ancB] using H
theorem inR_i64 {z : Int} (h0 : -9223372036854775808 ≤ z) (h1 : z ≤ 9223372036854775807) : InR .i64 z := ⟨by simpa [IntKind.min, IntKind.signed, IntKind.bits] using h0, by simpa [IntKind.max, IntKind.signed, IntKind.bits] using h1⟩
theorem par_calls (a b : Sp) (h0 : -9223372036854775808 ≤ a.l) (h1 : b.l ≤ 9223372036854775807) : B1 22 #[spv a, spv b] (parB a b) := fun h => by
  refine ok22 a.b a.e a.l b.b b.e b.l ?_
  unfold F22
  refine al fun g w1 hb hg _ => al fun g' w2 hb' hg' _ => ?_
  have hg1 := hg.keep hb'
  simp only [Addr.add_mk, hg1.cell, hg'.cell, List.getElem?_toArray, List.getElem?_cons_zero, List.getElem?_cons_succ, LdI_some, Nat.zero_add]
  refine anc_calls a b fun w3 hb3 => ⟨_, rfl, ?_⟩
  have H := h w3 (btr (btr hb hb.size hb') (Nat.le_trans hb.size hb'.size) hb3)
  unfold parB at H
  have hg2 := hg1.keep hb3
  have hg3 := hg'.keep hb3
  simp only [Addr.add_mk, hg2.cell, hg3.cell, List.getElem?_toArray, List.getElem?_cons_zero, List.getElem?_cons_succ, LdI_some, Nat.zero_add]
  refine br (fun ha => ?_) (fun ha => by simpa [ha] using H)
  refine brd (fun hl => ⟨inR_i64 (by omega) (by omega), ?_⟩) (fun hl => by simpa [ha, hl] using H)
  simpa [ha, hl] using H
theorem parR_calls (a b : Sp) (h0 : -9223372036854775808 ≤ a.l) (h1 : b.l ≤ 9223372036854775807) : B1 23 #[spv a, spv b] (parB a b) := fun h => by
  refine ok23 a.b a.e a.l b.b b.e b.l ?_
  unfold F23
  refine al fun g w1 hb hg _ => al fun g' w2 hb' hg' _ => ?_
  have hg1 := hg.keep hb'
  simp only [Addr.add_mk, hg1.cell, hg'.cell, List.getElem?_toArray, List.getElem?_cons_zero, List.getElem?_cons_succ, LdI_some, Nat.zero_add]
  refine ancR_calls a b fun w3 hb3 => ⟨_, rfl, ?_⟩
  have H := h w3 (btr (btr hb hb.size hb') (Nat.le_trans hb.size hb'.size) hb3)
  unfold parB at H
  have hg2 := hg1.keep hb3
  have hg3 := hg'.keep hb3
  simp only [Addr.add_mk, hg2.cell, hg3.cell, List.getElem?_toArray, List.getElem?_cons_zero, List.getElem?_cons_succ, LdI_some, Nat.zero_add]
  refine br (fun ha => ?_) (fun ha => by simpa [ha] using H)
  refine brd (fun hl => ⟨inR_i64 (by omega) (by omega), ?_⟩) (fun hl => by simpa [ha, hl] using H)
  simpa [ha, hl] using H
theorem relSame_calls (a : Sp) {R : Ending → World → Prop} (h : ∀ w', Below w.heap.size w w' → R (.returned (.tuple #[.int .i64 (if canB a then 1 else 0), .int .i64 (if canB a then 0 else 110)])) w') : Calls Try.prog 29 #[spv a, spv a] w R := by
  refine ok29 a.b a.e a.l a.b a.e a.l ?_
  unfold F29
  refine al fun g w1 hb hg _ => al fun g' w2 hb' hg' _ => ⟨fun _ => False, fun _ h => h.elim, ?_⟩
  have hg1 := hg.keep hb'
  simp only [hg1.cell, hg'.cell, Addr.add_mk, List.getElem?_toArray, List.getElem?_cons_zero, List.getElem?_cons_succ, LdI_some, LdB_some, LdStr_some, LdP_some, LdSl_some, LdM_some, Nat.zero_add, Br_t, Br_f]
  refine can_calls a fun w3 hb3 => ⟨_, rfl, ?_⟩
  have hg2 := hg1.keep hb3
  have hg3 := hg'.keep hb3
  have B3 := btr (btr hb hb.size hb') (Nat.le_trans hb.size hb'.size) hb3
  cases hc : canB a
  · have H := h w3 B3
    rw [hc] at H
    exact H
  · simp only [hg2.cell, hg3.cell, Addr.add_mk, List.getElem?_toArray, List.getElem?_cons_zero, List.getElem?_cons_succ, LdI_some, LdB_some, LdStr_some, LdP_some, LdSl_some, LdM_some, Nat.zero_add, Br_t, Br_f, Bool.not_true]
    refine can_calls a fun w4 hb4 => ⟨_, rfl, ?_⟩
    have hg4 := hg2.keep hb4
    have hg5 := hg3.keep hb4
    simp only [hc, hg4.cell, hg5.cell, Addr.add_mk, List.getElem?_toArray, List.getElem?_cons_zero, List.getElem?_cons_succ, LdI_some, LdB_some, LdStr_some, LdP_some, LdSl_some, LdM_some, Nat.zero_add, Br_t, Br_f, Bool.not_true]
    refine self_calls a a fun w5 hb5 => ⟨_, rfl, ?_⟩
    have H := h w5 (btr (btr B3 B3.size hb4) (Nat.le_trans B3.size hb4.size) hb5)
    rw [hc] at H
    have hs : selfB a a = true := by simp [selfB]
    rw [hs]
    exact H
end
end Go.Proofs.Ytaanlildniiijaa
