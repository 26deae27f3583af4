/- LocksBoth: the least mode that is both does not hang on the order or on brackets, and what fits with both fits with each. -/
import Derived.Test.YtfhkgnfphfmhiaaGreatDoorProg
import Derived.Shelf.Sort.Plain
import Derived.Shelf.Slices.In.SortNone
import Derived.Sort.EveryDepth
import Derived.Test.YtfhkgnfphfmhiaaGreatDoorRows
import Derived.Test.YtfhkgnfphfmhiaaGreatDoorCards
import Derived.Test.YtfhkgnfphfmhiaaGreatDoorTie
import Derived.WalkKit
import Derived.Lib.SmallJoins
import Derived.RowKit3
import Derived.ProofKit
import Derived.OpenShut
import Derived.ShutString
import Derived.ChangeOld
import Derived.Below
import Derived.Carry
import Derived.SizedLaws
import Derived.LaidMore
import Derived.PinnedBridge
import Derived.Lib.LaidIn
import Derived.Lib.LaidU8T
import Derived.SevenTiedAt
import Derived.Stop.Joined
import Derived.Deep.DeepHandedRow
import Derived.JoinedCond
import Derived.Deep.CondSized
import Derived.Test.YtfhkgnfphfmhiaaGreatDoorBo4
/- Documents in plain: all nodes within the roots. -/
namespace Go.Proofs.YtfhkgnfphfmhiaaGreatDoor
open Go.RowKit Go.Vc
set_option linter.unusedVariables false
set_option linter.unusedSimpArgs false
set_option maxRecDepth 100000
section
variable {A : Nat → Option Sl} {roots loose : List Nat} {D : Im}
theorem wi_sib (h0 : A 0 = none) {z n y c : Nat} (hz : Ch A z c) (hn : Ch A n c) (h1 : Wi A z y) (h2 : Wi A n y) : z = n := by
  obtain ⟨d1, e1⟩ := h1.de
  obtain ⟨d2, e2⟩ := h2.de
  have c1 := e1.ch h0 hz
  have c2 := e2.ch h0 hn
  have := c1.fn c2
  have : d1 = d2 := by omega
  subst this
  exact e1.fn e2
theorem all_wi (hA : WfA A roots []) {r x y : Nat} {s : Sl} (hx : A x = some s) (hy : y ∈ allA A r x) : Wi A x y := by
  obtain ⟨d, _, hd⟩ := (mem_allA hA r x y ⟨s, hx⟩ (fun z hz => by simp at hz)).1 hy
  exact hd.wi
theorem rootsAll_nodup (hA : WfA A roots []) : (roots.flatMap (allA A 65)).Nodup := by
  have hr : ∀ z ∈ roots, ∃ u, A z = some u ∧ Ch A z 1 := fun z hz => by
    obtain ⟨_, u, u1, u2⟩ := hA.root.2 z hz
    exact ⟨u, u1, .succ (hA.ne0 u1) u1 (by rw [u2]; exact .zero)⟩
  refine flatMap_nodup _ _ hA.root.1 (fun z hz => ?_) fun a ha b hb hab y hy hy2 => ?_
  · obtain ⟨u, u1, _⟩ := hr z hz
    exact all_nodup hA 65 z ⟨u, u1⟩ fun z hz => by simp at hz
  · obtain ⟨u, u1, u2⟩ := hr a ha
    obtain ⟨v, v1, v2⟩ := hr b hb
    exact hab (wi_sib hA.zero u2 v2 (all_wi hA u1 hy) (all_wi hA v1 hy2))
/-- Every node is within a root. -/
theorem mem_roots (hA : WfA A roots []) : ∀ (c y : Nat) {s : Sl}, A y = some s → Ch A y c → ∃ z ∈ roots, Wi A z y
  | 0, y, s, hy, hc => by cases hc; exact absurd rfl (hA.ne0 hy)
  | c + 1, y, s, hy, hc => by
    have hmem := hA.mem y s hy (by simp)
    rcases hA.par y s hy with h0 | ⟨u, hu, _⟩
    · rw [h0, lstA_zero] at hmem
      exact ⟨y, hmem, .self⟩
    · have hch : Ch A s.parent c := by
        cases hc with
        | succ _ ha h3 => rw [hy] at ha; cases ha; exact h3
      obtain ⟨z, hz, hw⟩ := mem_roots hA c s.parent hu hch
      exact ⟨z, hz, .up hy hw⟩
theorem mem_all_roots (hA : WfA A roots []) {y : Nat} : y ∈ roots.flatMap (allA A 65) ↔ ∃ s, A y = some s := by
  constructor
  · intro h
    obtain ⟨z, hz, hy⟩ := List.mem_flatMap.1 h
    obtain ⟨_, u, u1, u2⟩ := hA.root.2 z hz
    exact all_live hA ⟨u, u1⟩ (fun z hz => by simp at hz) hy
  · rintro ⟨s, hs⟩
    obtain ⟨c, c1, c2⟩ := hA.chain y s hs
    obtain ⟨z, hz, hw⟩ := mem_roots hA c y hs c2
    obtain ⟨_, u, u1, u2⟩ := hA.root.2 z hz
    exact List.mem_flatMap.2 ⟨z, hz, (mem_all hA ⟨u, u1⟩ (fun z hz => by simp at hz) (.succ (hA.ne0 u1) u1 (by rw [u2]; exact .zero)) (by omega)).2 hw⟩
theorem rootsAll_few (hS : WfS D.sl) (hA : WfA (slA D.sl) D.roots []) : (D.roots.flatMap (allA (slA D.sl) 65)).length ≤ 4096 :=
  Nat.le_trans (live_few (fun y hy => (mem_all_roots hA).1 hy) (rootsAll_nodup hA)) hS.few
end
end Go.Proofs.YtfhkgnfphfmhiaaGreatDoor
/- Locks: the steps of a lock. -/
namespace Go.Proofs.YtfhkgnfphfmhiaaGreatDoor
open Go.RowKit Go.Vc
set_option linter.unusedVariables false
set_option linter.unusedSimpArgs false
set_option maxRecDepth 100000
def parA (A : Nat → Option Sl) (x : Nat) : Nat := match A x with | some s => s.parent | none => 0
/-- A node and the nodes around it, from within. -/
def upA (A : Nat → Option Sl) : Nat → Nat → List Nat
  | 0, _ => []
  | r + 1, x => if x = 0 then [] else x :: upA A r (parA A x)
theorem upA_ch {A : Nat → Option Sl} : ∀ {c x : Nat}, Ch A x c → ∀ {r : Nat}, c ≤ r → upA A r x = upA A c x ∧ (upA A c x).length = c
  | 0, x, h, r, _ => by
    cases h
    cases r with
    | zero => exact ⟨rfl, rfl⟩
    | succ r => exact ⟨by simp [upA], rfl⟩
  | c + 1, x, h, r, hr => by
    cases h with
    | succ h0 ha h3 =>
      obtain ⟨r, rfl⟩ : ∃ q, r = q + 1 := ⟨r - 1, by omega⟩
      rename_i s
      have e : parA A x = s.parent := by unfold parA; rw [ha]
      have ih := upA_ch h3 (r := r) (by omega)
      rw [upA, upA, if_neg h0, if_neg h0, e, ih.1]
      exact ⟨rfl, by rw [List.length_cons, ih.2]⟩
def arM (mode : Int) : Int := if mode = 1 ∨ mode = 3 then 1 else 2
def stepsH (A : Nat → Option Sl) (n : Nat) (mode : Int) : List (Nat × Int) :=
  if n = 0 then [(0, mode)] else (((n, mode) :: (upA A 64 (parA A n)).map fun x => (x, arM mode)) ++ [(0, arM mode)]).reverse
theorem Z64 {A : Nat → Option Sl} {D : Im} {roots loose : List Nat} (hA : WfA A roots loose) {n : Nat} {s : Sl} (hn : A n = some s) : ∃ c, c < 64 ∧ Ch A s.parent c := by
  obtain ⟨c, c1, c2⟩ := hA.chain n s hn
  cases c2 with
  | zero => exact absurd rfl (hA.ne0 hn)
  | succ h0 ha h3 => rw [hn] at ha; cases ha; exact ⟨_, by omega, h3⟩
section
variable {w w1 w2 : World} {K : KP} {T : TS} {had : Nat → Wt → Bool} {fl fw : Int → Option Value} {vl vw : Nat → Sv} {W : Nat → List Ew} {M : Nat → Prop} {R : Ending → World → Prop}
/-- slices.Reverse of steps. -/
theorem revS_calls {xs : List (Nat × Int)} {A : Option Addr} {n c B : Nat} (ho : OwnO LSt2 w B 88 (.slice A n c) xs) (hl : xs.length ≤ 1048576)
    (hR : ∀ w', OwnO LSt2 w' B 88 (.slice A n c) xs.reverse → Fm (fun b => rowOf (.slice A n c) = some b) w w' → R (.returned (.tuple #[])) w') : Calls Tryz.prog 54 #[.slice A n c] w R := by
  refine ok54 A n c ?_
  unfold F54
  have hn := ho.rd.1
  refine ⟨inR_i64 (by omega) (by omega), fun i j w' => ∃ (k : Nat) (ys : List (Nat × Int)), i = k ∧ j = (xs.length : Int) - 1 - k ∧ 2 * k ≤ xs.length + 1 ∧ ys.length = xs.length ∧ (∀ t, t < xs.length → ys[t]? = if t < k ∨ xs.length ≤ t + k then xs[xs.length - 1 - t]? else xs[t]?) ∧ OwnO LSt2 w' B 88 (.slice A n c) ys ∧ Fm (fun b => rowOf (.slice A n c) = some b) w w',
    fun i _ _ => xs.length + 1 - i.toNat, ⟨0, xs, rfl, by omega, by omega, rfl, fun t ht => by rw [if_neg (by omega)], ho, .refl _ _⟩, ?_⟩
  rintro _ _ w1 ⟨k, ys, rfl, rfl, hk, hy, hat, o1, f1⟩
  unfold F54_l1
  refine brd (fun hlt => ?_) (fun hge => ?_)
  · have hk2 : 2 * k + 1 < xs.length := by omega
    have hd : Below w1.heap.size w1 w1.drew := (Below.refl _ _).drew
    have od := o1.keep hd
    have hrd := od.rd
    have ej : ((xs.length : Int) - 1 - (k : Nat)) = ((xs.length - 1 - k : Nat) : Int) := by omega
    rw [ej]
    have hjl : xs.length - 1 - k < ys.length := by omega
    have hil : k < ys.length := by omega
    obtain ⟨g, o, l, rfl, hr, hb, hll, hcj, hpj⟩ := od.elem hjl
    obtain ⟨g', o', l', hA', _, hb', _, hci, -⟩ := od.elem hil
    cases hA'
    have el : l' = l := by
      unfold Blk at hb hb'
      rw [hb] at hb'
      simp only [Option.some.injEq, Obj.cells.injEq, and_true] at hb'
      have := congrArg Array.toList hb'
      simpa using this.symm
    subst el
    have hL2 : LSt2.n = 2 := rfl
    rw [hL2] at hll hcj hci hpj
    refine ⟨fun w' => Blk w' g l'.toArray 88, hb, ?_⟩
    rw [IdxA_some (by omega) (by omega)]
    simp only [Addr.add_mk, Int.toNat_natCast]
    have r0 := hcj 0 _ rfl
    have r1 := hcj 1 _ rfl
    have s0 := hci 0 _ rfl
    have s1 := hci 1 _ rfl
    refine ⟨_, fun w' hS => by rw [cellL hS, ← Nat.add_zero (o + (xs.length - 1 - k) * 2), r0], _, fun w' hS => by rw [cellL hS, r1], ?_⟩
    rw [IdxA_some (by omega) (by omega)]
    simp only [Addr.add_mk, Int.toNat_natCast]
    refine ⟨_, fun w' hS => by rw [cellL hS, ← Nat.add_zero (o + k * 2), s0], _, fun w' hS => by rw [cellL hS, s1], ?_⟩
    have hput1 := od.put (i := (k : Int)) rfl hil ys[xs.length - 1 - k] (sz := 2) rfl (K := fun w' => IdxA (some ⟨g, o, none⟩) n ((xs.length - 1 - k : Nat) : Int) 2 fun q => St w' q (.int .u64 (ys[k].1 : Nat)) fun w'' => St w'' (q.add 1) (.int .i64 ys[k].2) fun w''' => InR .i64 (((k : Nat) : Int) + (1 : Int)) ∧ InR .i64 (((xs.length - 1 - k : Nat) : Int) - (1 : Int)) ∧ ((∃ (k' : Nat) (ys' : List (Nat × Int)), (((k : Nat) : Int) + (1 : Int)) = k' ∧ (((xs.length - 1 - k : Nat) : Int) - (1 : Int)) = (xs.length : Int) - 1 - k' ∧ 2 * k' ≤ xs.length + 1 ∧ ys'.length = xs.length ∧ (∀ t, t < xs.length → ys'[t]? = if t < k' ∨ xs.length ≤ t + k' then xs[xs.length - 1 - t]? else xs[t]?) ∧ OwnO LSt2 w''' B 88 (.slice (some ⟨g, o, none⟩) n c) ys' ∧ Fm (fun b => rowOf (.slice (some ⟨g, o, none⟩) n c) = some b) w w''') ∧ xs.length + 1 - (((k : Nat) : Int) + (1 : Int)).toNat < xs.length + 1 - ((k : Nat) : Int).toNat)) fun w2 o2 f2 => ?_
    · simp only [LSt2, StL] at hput1
      revert hput1
      rw [IdxA_some (by omega) (by omega)]
      simp only [Addr.add_mk, Nat.add_zero, Nat.zero_add, Int.toNat_natCast]
      rw [IdxA_some (by omega) (by omega)]
      simp only [Addr.add_mk, Nat.add_zero, Nat.zero_add, Int.toNat_natCast]
      exact id
    · have hput2 := o2.put (i := ((xs.length - 1 - k : Nat) : Int)) rfl (k := xs.length - 1 - k) (by rw [List.length_set]; omega) ys[k] (sz := 2) rfl (K := fun w''' => InR .i64 (((k : Nat) : Int) + (1 : Int)) ∧ InR .i64 (((xs.length - 1 - k : Nat) : Int) - (1 : Int)) ∧ ((∃ (k' : Nat) (ys' : List (Nat × Int)), (((k : Nat) : Int) + (1 : Int)) = k' ∧ (((xs.length - 1 - k : Nat) : Int) - (1 : Int)) = (xs.length : Int) - 1 - k' ∧ 2 * k' ≤ xs.length + 1 ∧ ys'.length = xs.length ∧ (∀ t, t < xs.length → ys'[t]? = if t < k' ∨ xs.length ≤ t + k' then xs[xs.length - 1 - t]? else xs[t]?) ∧ OwnO LSt2 w''' B 88 (.slice (some ⟨g, o, none⟩) n c) ys' ∧ Fm (fun b => rowOf (.slice (some ⟨g, o, none⟩) n c) = some b) w w''') ∧ xs.length + 1 - (((k : Nat) : Int) + (1 : Int)).toNat < xs.length + 1 - ((k : Nat) : Int).toNat)) fun w3 o3 f3 => ?_
      · simp only [LSt2, StL] at hput2
        revert hput2
        rw [IdxA_some (by omega) (by omega), IdxA_some (by omega) (by omega)]
        simp only [Addr.add_mk, Nat.add_zero, Nat.zero_add, Int.toNat_natCast]
        exact id
      · refine ⟨inR_i64 (by omega) (by omega), inR_i64 (by omega) (by omega), ⟨k + 1, _, by simp, by omega, by omega, by rw [List.length_set, List.length_set]; exact hy, fun t ht => ?_, o3, ((f1.tr hd).trans f2).trans f3⟩, by omega⟩
        rw [List.getElem?_set, List.getElem?_set]
        simp only [List.length_set]
        by_cases e1 : xs.length - 1 - k = t
        · subst e1
          rw [if_pos rfl, if_pos (by omega), if_pos (by omega), show xs.length - 1 - (xs.length - 1 - k) = k by omega]
          have := hat k (by omega)
          rw [if_neg (by omega), List.getElem?_eq_getElem hil] at this
          exact this
        · rw [if_neg e1]
          by_cases e2 : k = t
          · subst e2
            rw [if_pos rfl, if_pos (by omega), if_pos (by omega)]
            have := hat (xs.length - 1 - k) (by omega)
            rw [if_neg (by omega), List.getElem?_eq_getElem hjl] at this
            exact this
          · rw [if_neg e2, hat t ht]
            by_cases h3 : t < k ∨ xs.length ≤ t + k
            · rw [if_pos h3, if_pos (by omega)]
            · rw [if_neg h3, if_neg (by omega)]
  · have : ys = xs.reverse := by
      refine List.ext_getElem? fun t => ?_
      rcases Nat.lt_or_ge t xs.length with ht | ht
      · rw [hat t ht, List.getElem?_reverse ht]
        by_cases h3 : t < k ∨ xs.length ≤ t + k
        · rw [if_pos h3]
        · rw [if_neg h3]; congr 1; omega
      · rw [List.getElem?_eq_none (by omega), List.getElem?_eq_none (by simpa using ht)]
    rw [← this] at hR
    exact hR w1 o1 f1
end
end Go.Proofs.YtfhkgnfphfmhiaaGreatDoor
/- Locks: what is wrong with an owner and a place; the steps of a lock, in memory. -/
namespace Go.Proofs.YtfhkgnfphfmhiaaGreatDoor
open Go.RowKit Go.Vc
set_option linter.unusedVariables false
set_option linter.unusedSimpArgs false
set_option maxRecDepth 100000
abbrev allR' (D : Im) : List Nat := D.roots.flatMap (allA (slA D.sl) 65)
/-- A table's document, and its places. -/
structure KD (K : KP) : Prop where
  s : WfS K.S.D.sl
  a : WfA (slA K.S.D.sl) K.S.D.roots []
  pl : K.pl = 0 :: allR' K.S.D
theorem KD.mem {K : KP} (h : KD K) {x : Nat} : x ∈ K.pl ↔ x = 0 ∨ ∃ s, slA K.S.D.sl x = some s := by
  rw [h.pl, List.mem_cons, mem_all_roots h.a]
section
variable {w w1 w2 : World} {K : KP} {T : TS} {had : Nat → Wt → Bool} {fl fw : Int → Option Value} {vl vw : Nat → Sv} {W : Nat → List Ew} {M : Nat → Prop} {R : Ending → World → Prop} {o : Nat → Nat} {θ : Th} {S : PS}
theorem slvF0 {v : Sv} {A : Option Addr} {n c : Nat} (h : slV v = .slice A n c) : v = (A, n, c) := by
  obtain ⟨v1, v2, v3⟩ := v
  unfold slV at h
  simp only [Value.slice.injEq] at h
  obtain ⟨rfl, rfl, rfl⟩ := h; rfl
theorem All0T_calls (h : PM w o θ S) (hS : WfS S.D.sl) (hA : WfA (slA S.D.sl) S.D.roots [])
    (hK : ∀ v' w', Below w.heap.size w w' → Own LHn w' w.heap.size 41 (slV v') (allR' S.D) → R (.returned (.tuple #[slV v', .int .i64 0])) w') : Calls Tryz.prog 23 #[.pointer (some ⟨θ.g, 0, none⟩), .int .u64 0] w R := by
  refine ok23 (some ⟨θ.g, 0, none⟩) 0 ?_
  unfold F23
  refine bre (fun _ => ?_) (fun e => absurd rfl e)
  obtain ⟨nv, rv, hd⟩ := h.doc
  obtain ⟨A, c, hvf, hrd⟩ := hd.r1.form
  have e1 := slvF0 hvf
  have cv' : w.cell? ⟨θ.g, 1, none⟩ = some (.slice rv.1 rv.2.1 rv.2.2) := by rw [hd.blk.cell]; rfl
  simp only [NonNil_some, Addr.add_mk, Nat.zero_add, cv', Addr.add_mk, List.getElem?_toArray, List.getElem?_cons_zero, List.getElem?_cons_succ, LdI_some, LdB_some, LdStr_some, LdP_some, LdSl_some, LdM_some, Nat.zero_add, Br_t, Br_f]
  have hf := rootsAll_few hS hA
  refine allP_calls h hA 65 (l := S.D.roots) (v := rv) (cc := 1) (xs := []) (by rw [e1]; simp) (by rw [e1]; exact hrd) h.rts.2 (fun y hy => by
    obtain ⟨_, t, ht, tp⟩ := hA.root.2 y hy
    exact ⟨t, ht, .succ (hA.ne0 ht) ht (by rw [tp]; exact .zero)⟩) (by omega) (Below.refl _ _) (.inl ⟨rfl, rfl⟩) (by simp only [List.length_nil]; omega) fun A' n' c' w' hb' ho' => ⟨A', n', c', rfl, ?_⟩
  rw [List.nil_append] at ho'
  exact hK (A', n', c') w' hb' ho'
def askF (K : KP) (who : Int) (n : Nat) : Int := if 1 ≤ who ∧ who ≤ 32 then (if n ∈ K.pl then 0 else 8) else 1
theorem asksT_calls (h : StP w K T had fl vl fw vw W) (hD : KD K) (who : Int) {n : Nat} (hn : n < 18446744073709551616) (hR : ∀ w', Below w.heap.size w w' → R (.returned (.int .i64 (askF K who n))) w') :
    Calls Tryz.prog 27 #[.pointer (some ⟨K.tg, 0, none⟩), .int .i64 who, .int .u64 (n : Nat)] w R := by
  refine ok27 (some ⟨K.tg, 0, none⟩) who n ?_
  unfold F27
  refine ⟨fun w' => w = w' ∧ 1 ≤ who ∧ who ≤ 32, ?_, ?_⟩
  · rintro _ ⟨rfl, h1, h2⟩
    unfold F27_j3
    simp only [NonNil_some, h.cells.1, Addr.add_mk, List.getElem?_toArray, List.getElem?_cons_zero, List.getElem?_cons_succ, LdI_some, LdB_some, LdStr_some, LdP_some, LdSl_some, LdM_some, Nat.zero_add, Br_t, Br_f]
    have e0 : askF K who n = if n ∈ K.pl then 0 else 8 := by unfold askF; rw [if_pos ⟨h1, h2⟩]
    rw [e0] at hR
    by_cases hz : n = 0
    · subst hz
      rw [if_pos (hD.mem.2 (.inl rfl))] at hR
      exact All0T_calls h.pm hD.s hD.a fun v' w' hb _ => ⟨_, _, _, _, rfl, hR w' hb⟩
    · refine AllT_calls h.pm hD.s hD.a hn hz fun v' w' hb _ => ⟨_, _, _, _, rfl, ?_⟩
      have e1 : (if (slA K.S.D.sl n).isSome = true then (0 : Int) else 8) = if n ∈ K.pl then 0 else 8 := by
        have : (slA K.S.D.sl n).isSome = true ↔ n ∈ K.pl := by rw [hD.mem, Option.isSome_iff_exists]; exact ⟨.inr, fun h => h.resolve_left hz⟩
        simp only [this]
      rw [e1]; exact hR w' hb
  · have e1 : ¬ (1 ≤ who ∧ who ≤ 32) → askF K who n = 1 := fun h => if_neg h
    refine brd (fun h1 => ?_) (fun h1 => brd (fun h2 => ?_) (fun h2 => ⟨rfl, by omega, by omega⟩))
    · rw [e1 (by omega)] at hR; exact hR w (Below.refl _ _)
    · rw [e1 (by omega)] at hR; exact hR w (Below.refl _ _)
theorem stepsT_calls (h : StP w K T had fl vl fw vw W) (hD : KD K) {n : Nat} (hn : n ∈ K.pl) {mode : Int} (hR : ∀ v w', Below w.heap.size w w' → OwnO LSt2 w' w.heap.size 88 (slV v) (stepsH (slA K.S.D.sl) n mode) → R (.returned (slV v)) w') :
    Calls Tryz.prog 28 #[.pointer (some ⟨K.tg, 0, none⟩), .int .u64 (n : Nat), .int .i64 mode] w R := by
  refine ok28 (some ⟨K.tg, 0, none⟩) n mode ?_
  unfold F28
  refine al fun g w1 hb1 b1 hge1 => ?_
  have hs1 := hb1.size
  have o1 : OwnO LSt2 w1 w.heap.size 88 (.slice (some ⟨g, 0, none⟩) 1 1) [(n, mode)] := (Own.lit' (L := LSt2) (xs := [(n, mode)]) b1 hge1 (by rw [LSt2.all_one]; rfl) (by simp [maxLen])).o
  refine bre (fun hz => ?_) (fun hz => ?_)
  · have hz : n = 0 := by omega
    subst hz
    refine hR (some ⟨g, 0, none⟩, 1, 1) w1 hb1 ?_
    unfold stepsH; rw [if_pos rfl]; exact o1
  have hz : n ≠ 0 := by omega
  obtain ⟨s, hs⟩ := (hD.mem.1 hn).resolve_left hz
  obtain ⟨c0, hc0, hch⟩ := Z64 (D := K.S.D) hD.a hs
  have hpn : parA (slA K.S.D.sl) n = s.parent := by unfold parA; rw [hs]
  have hst : stepsH (slA K.S.D.sl) n mode = (((n, mode) :: (upA (slA K.S.D.sl) c0 s.parent).map fun x => (x, arM mode)) ++ [(0, arM mode)]).reverse := by
    unfold stepsH; rw [if_neg hz, hpn, (upA_ch hch (r := 64) (by omega)).1]
  refine ⟨fun ar w' => ar = arM mode ∧ w1 = w', ?_, ?_⟩
  · rintro _ _ ⟨rfl, rfl⟩
    unfold F28_j7
    have h1 := h.keep hb1
    simp only [NonNil_some, h1.cells.1, Addr.add_mk, List.getElem?_toArray, List.getElem?_cons_zero, List.getElem?_cons_succ, LdI_some, LdB_some, LdStr_some, LdP_some, LdSl_some, LdM_some, Nat.zero_add, Br_t, Br_f]
    refine Parent_calls h1.pm hD.a hs fun w2 hb2 => ⟨_, _, rfl, ?_⟩
    have B2 := btr hb1 hs1 hb2
    refine ⟨fun A' N C p w' => ∃ (c pn : Nat) (dn : List Nat), N = dn.length + 1 ∧ p = (pn : Nat) ∧ Ch (slA K.S.D.sl) pn c ∧ dn.length + c = c0 ∧ upA (slA K.S.D.sl) c0 s.parent = dn ++ upA (slA K.S.D.sl) c pn ∧ Below w.heap.size w w' ∧ OwnO LSt2 w' w.heap.size 88 (.slice A' N C) ((n, mode) :: dn.map fun x => (x, arM mode)),
      fun _ N _ _ _ => 70 - N, ⟨c0, s.parent, [], rfl, rfl, hch, by simp, by simp, B2, o1.keep hb2⟩, ?_⟩
    rintro A' N C _ w3 ⟨c, pn, dn, rfl, rfl, hcp, hlen, hup, B3, o3⟩
    unfold F28_l8
    have hs3 := B3.size
    refine brn (fun hp => ?_) (fun hp => ?_)
    · cases hcp with
      | zero => exact absurd rfl hp
      | @succ _ c' t h0 ha h3 =>
        refine al fun g4 w4 hb4 b4 hge4 => ?_
        have B4 := btr B3 hs3 hb4
        refine apO (L := LSt2) (xs := (n, mode) :: dn.map fun x => (x, arM mode)) (ys := [(pn, arM mode)]) (base := w.heap.size) (.agg #[.int .u64 0, .int .i64 0]) 16 rfl (by kernel_rfl) (by kernel_rfl) (by kernel_rfl) (o3.keep hb4) ?_ B4.size (by simp; omega) (by simp [maxLen]; omega) fun A5 c5 w5 o5 g5 => ⟨_, _, _, rfl, ?_⟩
        · refine ⟨by simp, by simp [maxLen], fun h0 => (by cases h0), fun _ => ⟨g4, 0, rfl, fun j u hj => ?_⟩⟩
          rw [LSt2.all_one] at hj
          rw [b4.cell]; simpa [LSt2] using hj
        have B5 := B4.trans g5.below
        have h5 := h.keep B5
        simp only [NonNil_some, h5.cells.1, Addr.add_mk, List.getElem?_toArray, List.getElem?_cons_zero, List.getElem?_cons_succ, LdI_some, LdB_some, LdStr_some, LdP_some, LdSl_some, LdM_some, Nat.zero_add, Br_t, Br_f]
        refine Parent_calls h5.pm hD.a ha fun w6 hb6 => ⟨_, _, rfl, ?_⟩
        have hpt : parA (slA K.S.D.sl) pn = t.parent := by unfold parA; rw [ha]
        refine ⟨⟨c', t.parent, dn ++ [pn], by simp, rfl, h3, by simp; omega, ?_, btr B5 B5.size hb6, ?_⟩, by simp; omega⟩
        · rw [hup, upA, if_neg h0, hpt]; simp
        · have := o5.keep hb6
          simpa using this
    · have hp : pn = 0 := by omega
      subst hp
      have hc0' : c = 0 := by
        cases hcp with
        | zero => rfl
        | succ h0 _ _ => exact absurd rfl h0
      subst hc0'
      rw [upA, List.append_nil] at hup
      refine al fun g4 w4 hb4 b4 hge4 => ?_
      have B4 := btr B3 hs3 hb4
      refine apO (L := LSt2) (xs := (n, mode) :: dn.map fun x => (x, arM mode)) (ys := [(0, arM mode)]) (base := w.heap.size) (.agg #[.int .u64 0, .int .i64 0]) 16 rfl (by kernel_rfl) (by kernel_rfl) (by kernel_rfl) (o3.keep hb4) ?_ B4.size (by simp; omega) (by simp [maxLen]; omega) fun A5 c5 w5 o5 g5 => ⟨_, _, _, rfl, ?_⟩
      · refine ⟨by simp, by simp [maxLen], fun h0 => (by cases h0), fun _ => ⟨g4, 0, rfl, fun j u hj => ?_⟩⟩
        rw [LSt2.all_one] at hj
        rw [b4.cell]; simpa [LSt2] using hj
      have B5 := B4.trans g5.below
      have hnn := o5.rd.1
      refine revS_calls o5 (by simp; omega) fun w6 o6 f6 => ⟨rfl, ?_⟩
      refine hR (A5, _, c5) w6 (B5.trans (f6.toBelow B5.size fun b hb e => ?_)) ?_
      · have := (o5.lt b e).1; omega
      · rw [hst, hup]; exact o6
  · unfold arM
    refine bre (fun h1 => ⟨by rw [if_pos (.inl h1)], rfl⟩) (fun h1 => bre (fun h2 => ⟨by rw [if_pos (.inr h2)], rfl⟩) (fun h2 => ⟨by rw [if_neg (by omega)], rfl⟩))
end
end Go.Proofs.YtfhkgnfphfmhiaaGreatDoor
/- Locks: where one waits; one waits no more (ranges over the map of waiters). -/
namespace Go.Proofs.YtfhkgnfphfmhiaaGreatDoor
open Go.RowKit Go.Vc
set_option linter.unusedVariables false
set_option linter.unusedSimpArgs false
set_option maxRecDepth 100000
theorem raw_and {P : Program} {α : Type} {s : Sem α} {w : World} {K1 K2 : α → World → Prop} (h1 : Raw P s w K1) (h2 : Raw P s w K2) : Raw P s w fun v w' => K1 v w' ∧ K2 v w' := by
  obtain ⟨v, w1, e, k⟩ := h1
  obtain ⟨v2, w2, e2, k2⟩ := h2
  rw [e] at e2
  cases e2
  exact ⟨v, w1, e, k, k2⟩
theorem raw_mono {P : Program} {α : Type} {s : Sem α} {w : World} {K1 K2 : α → World → Prop} (h1 : Raw P s w K1) (h : ∀ v w', K1 v w' → K2 v w') : Raw P s w K2 := by
  obtain ⟨v, w1, e, k⟩ := h1
  exact ⟨v, w1, e, h v w1 k⟩
theorem itr_not {q : IntKind} {w : World} {b g : Nat} {f : Int → Option Value} {left : Int → Prop} {cur : Option Int} (h : Itr q w b g f left cur) (e : TypeId) : ¬ IsE w e g := by
  rintro ⟨c, hc⟩
  obtain ⟨_, _, _, _, _, _, _, h1, _⟩ := h
  unfold Blk at hc
  rw [hc] at h1; cases h1
theorem mp_fun {q : IntKind} {w : World} {b : Nat} {f f' : Int → Option Value} (h : Mp q w b f) (h' : Mp q w b f') : f = f' := by
  obtain ⟨es, c, h1, e1⟩ := h
  obtain ⟨es', c', h2, e2⟩ := h'
  rw [h1] at h2
  cases h2
  have aux : ∀ {f f' : Int → Option Value}, MpE q es c f → MpE q es c f' → ∀ k v, f k = some v → f' k = some v := fun e1 e2 k v hk => by
    obtain ⟨x, hx, hxk⟩ := e1.has k v hk
    obtain ⟨k1, a1, a2⟩ := e1.key x hx
    obtain ⟨k2, b1, b2⟩ := e2.key x hx
    rw [hxk] at a1 b1
    cases a1; cases b1
    rw [a2] at hk
    cases hk; exact b2
  funext k
  cases hf : f k with
  | some v => exact (aux e1 e2 k v hf).symm
  | none =>
    cases hf' : f' k with
    | none => rfl
    | some v => rw [aux e2 e1 k v hf'] at hf; cases hf
theorem TS.ext {T T' : TS} (h1 : T.has = T'.has) (h2 : T.wt = T'.wt) : T = T' := by
  cases T; cases T'; simp_all
section
variable {w w1 w2 : World} {K : KP} {T : TS} {had : Nat → Wt → Bool} {fl fw : Int → Option Value} {vl vw : Nat → Sv} {W : Nat → List Ew} {M : Nat → Prop} {R : Ending → World → Prop}
theorem StP.keys (h : StP w K T had fl vl fw vw W) : ∀ k, fw k ≠ none → k ∈ K.pl.map fun x : Nat => (x : Int) := fun k hk => by
  obtain ⟨p, hp, rfl⟩ := h.rw.key k hk
  exact List.mem_map.2 ⟨_, List.getElem_mem hp, rfl⟩
theorem StP.atKey (h : StP w K T had fl vl fw vw W) {k : Int} {v : Value} (hk : fw k = some v) : ∃ p, ∃ hp : p < K.pl.length, k = ((K.pl[p] : Nat) : Int) ∧ v = slV (vw p) := by
  obtain ⟨p, hp, rfl⟩ := h.rw.key k (by rw [hk]; simp)
  have := h.rw.val p hp
  rw [hk] at this
  exact ⟨p, hp, rfl, this⟩
/-- A place that the map lacks has no waiters. -/
theorem StP.noKey (h : StP w K T had fl vl fw vw W) {p : Nat} (hp : p < K.pl.length) (hk : fw ((K.pl[p] : Nat) : Int) = none) : T.wt p = [] := by
  have h1 := h.rw.val p hp
  rw [hk] at h1
  have h2 := (h.rw.own p hp)
  rw [← h1] at h2
  have h3 : (Option.none : Option Value).getD (.slice none 0 0) = .slice none 0 0 := rfl
  rw [h3] at h2
  have h4 := h2.rd.1
  have h5 := (h.ws p hp).len
  exact List.eq_nil_of_length_eq_zero (by omega)
theorem StP.keyInj (h : StP w K T had fl vl fw vw W) {p q : Nat} (hp : p < K.pl.length) (hq : q < K.pl.length) (e : ((K.pl[p] : Nat) : Int) = ((K.pl[q] : Nat) : Int)) : p = q := nodup_idx h.nd hp hq (by omega)
theorem unwaitT_calls (h : StP w K T had fl vl fw vw W) (hT : TI K.pl.length T) (who : Nat) (hR : ∀ w' fw' vw' W', StpF K w w' vl vw vl vw' → StP w' K (T.away who) had fl vl fw' vw' W' → R (.returned (.tuple #[])) w') :
    Calls Tryz.prog 57 #[.pointer (some ⟨K.tg, 0, none⟩), .int .i64 (who : Nat)] w R := by
  refine ok57 (some ⟨K.tg, 0, none⟩) who ?_
  unfold F57
  refine al fun g w1 hb1 b1 hge1 => ?_
  have h1 := h.keep hb1
  simp only [NonNil_some, Addr.add_mk, Nat.zero_add, h1.cells.2.2.2, LdM_some]
  refine h1.mw.range lkMapW fun w2 hb2 i2 => ⟨_, rfl, ?_⟩
  have hs1 := hb1.size
  have B2 := btr hb1 hs1 hb2
  refine loopG (Body := fun L w' => F57_l2 (some ⟨K.tg, 0, none⟩) ⟨g, 0, none⟩ w1.heap.size L w' R)
    (J := fun c w' => ∃ (left : Int → Prop) (cur : Option Int) (ls : List Int) (T' : TS) (fw' : Int → Option Value) (vw' : Nat → Sv) (W' : Nat → List Ew), ls.length = c ∧ (∀ k, left k → k ∈ ls) ∧ (∀ k, left k → fw' k ≠ none) ∧ Itr .u64 w' K.bw w1.heap.size fw' left cur ∧ StpF K w w' vl vw vl vw' ∧ StP w' K T' had fl vl fw' vw' W' ∧ T'.has = T.has ∧
      (∀ p, K.pl.length ≤ p → T'.wt p = T.wt p) ∧ (∀ p (hp : p < K.pl.length), (left ((K.pl[p] : Nat) : Int) → T'.wt p = T.wt p) ∧ (¬ left ((K.pl[p] : Nat) : Int) → T'.wt p = (T.wt p).filter fun x => decide (x.who ≠ who))) ∧ Blk w' g #[.int .i64 (who : Nat)] 3)
    (c0 := (K.pl.map fun x : Nat => (x : Int)).length)
    ⟨_, none, _, T, fw, vw, W, rfl, fun k hk => h.keys k hk, fun k hk => hk, i2, .below B2, h.keep B2, rfl, fun _ _ => rfl, fun p hp => ⟨fun _ => rfl, fun hn => ?_⟩, b1.keep hb2⟩ ?_
  · have := h.noKey hp (Classical.not_not.1 hn)
    rw [this]; rfl
  rintro c w3 ⟨left, cur, ls, T', fw', vw', W', rfl, hls, hlf, i3, f3, h3, hhas, hout, hin, bg⟩ L hL
  unfold F57_l2
  have hitg : w1.heap.size ≠ g := by have := b1.lt; omega
  refine i3.next 0 (fun hno => .inl ⟨rfl, ?_⟩) fun k v w4 hk hfk f4 i4 => .inr ⟨_, _, rfl, ?_⟩
  · have : T' = T.away who := by
      refine TS.ext hhas (funext fun p => ?_)
      show T'.wt p = (T.wt p).filter _
      rcases Nat.lt_or_ge p K.pl.length with hp | hp
      · exact (hin p hp).2 (hno _)
      · rw [hout p hp, hT.wn p hp]; rfl
    subst this
    exact hR w3 _ _ _ f3 h3
  obtain ⟨p, hp, rfl, rfl⟩ := h3.atKey hfk
  refine i4.entry hfk ⟨_, _, _, _, rfl, ?_⟩
  have hM : ∀ b, b = w1.heap.size → K.B0 ≤ b ∧ ¬ RowP K vl vw' b ∧ ¬ IsE w3 88 b := fun b e => by
    subst e
    refine ⟨Nat.le_trans h.sz hs1, fun e => ?_, itr_not i3 _⟩
    rcases h3.rowp e with e | e | ⟨_, e | e⟩
    · have := h.ml.lt; omega
    · exact i3.ne e.symm
    · exact itr_not i3 _ e
    · exact itr_not i3 _ e
  have h4 := h3.fmR f4 hM
  have bg4 := f4.blk bg (fun e => hitg e.symm)
  have hd : Below w4.heap.size w4 w4.drew := (Below.refl _ _).drew
  have h4d := h4.keep hd
  have i4d : Itr .u64 w4.drew K.bw w1.heap.size fw' _ _ := i4.fm (M := fun _ => False) (.below hd) (fun h => h) (fun h => h)
  refine ⟨fun w' => Blk w' K.tg _ 80, h4d.tab, ?_⟩
  simp only [NonNil_some, Addr.add_mk, Nat.zero_add]
  refine ⟨_, fun w' hS => by rw [hS.cell]; rfl, ?_⟩
  have hrow : ∀ b, rowOf (slV (vw' p)) = some b → K.B0 ≤ b ∧ IsE w4.drew 92 b := h4d.rw.row hp
  have hgr : ¬ rowOf (slV (vw' p)) = some g := fun e => absurd (isE_one (hrow g e).2 ⟨_, bg4.drew⟩) (by decide)
  have hlenW : (W' p).length ≤ 1048576 := by rw [(h4d.ws p hp).len, (hin p hp).1 hk]; have := hT.few p; omega
  · refine delW_calls (v := vw' p) (fun y => y.who == ((who : Nat) : Int)) (h4d.rw.own p hp) hlenW (fun y hy w5 K' R' f5 hK => ⟨by kernel_rfl, unwait1_calls (by rw [(f5.blk bg4.drew hgr).cell]; rfl) fun w6 hb6 => hK w6 hb6⟩) fun v' w5 o5 f5 r5 => ⟨_, _, _, rfl, ?_⟩
    have lo : ∀ b, b < K.B0 → ¬ rowOf (slV (vw' p)) = some b := fun b hb e => by have := (hrow b e).1; omega
    refine ⟨f5.blk h4d.tab (lo _ h.tb.1), ?_⟩
    have hz : Z2 (WtR w5 K.pl (had p)) ((T'.wt p).filter fun x => decide (x.who ≠ who)) ((W' p).filter fun y => !(y.who == ((who : Nat) : Int))) := by
      refine Z2.mono (fun a e k => k.fm f5 fun b hb e => absurd (isE_one hb (hrow b e).2) (by decide)) ((h4d.ws p hp).fil fun a e k => ?_)
      rw [k.who, Bool.eq_iff_iff]; simp; omega
    have i5 : Itr .u64 w5 K.bw w1.heap.size fw' _ _ := i4d.fm f5 (lo _ h.mb.2.1) fun e => itr_not i4d _ (hrow _ e).2
    have hr5 : rowOf (slV v') = rowOf (slV (vw' p)) ∨ rowOf (slV v') = none ∨ ∃ g, rowOf (slV v') = some g ∧ w4.drew.heap.size ≤ g := by
      cases e : rowOf (slV v') with
      | none => exact .inr (.inl rfl)
      | some b => exact .inl (r5 b e).symm
    have A1 := h4d.setW (k := ((K.pl[p] : Nat) : Int)) hp f5 o5 hr5 hz rfl (K' := fun w6 => ∃ fw6, StpF K w4.drew w6 vl vw' vl (updN vw' p v') ∧ StP w6 K (T'.setW p ((T'.wt p).filter fun x => decide (x.who ≠ who))) had fl vl fw6 (updN vw' p v') (updN W' p ((W' p).filter fun y => !(y.who == ((who : Nat) : Int))))) fun w6 fw6 f6 h6 => ⟨fw6, f6, h6⟩
    have A2 := i5.update lkMapW lkKey ((K.pl[p] : Nat) : Int) (by rw [hfk]; simp) (slV v') (K := fun w6 => Itr .u64 w6 K.bw w1.heap.size (upd fw' ((K.pl[p] : Nat) : Int) (some (slV v'))) (fun j => left j ∧ j ≠ ((K.pl[p] : Nat) : Int)) (some ((K.pl[p] : Nat) : Int)) ∧ Fm (· = K.bw) w5 w6) fun w6 i6 f6 => ⟨i6, f6⟩
    refine raw_mono (raw_and A1 A2) ?_
    rintro _ w6 ⟨⟨fw6, f6, h6⟩, i6, q6⟩
    have efw : fw6 = upd fw' ((K.pl[p] : Nat) : Int) (some (slV v')) := mp_fun h6.mw i6.mp
    rw [efw] at h6
    refine hL w6 (ls.filter fun j => decide (j ≠ ((K.pl[p] : Nat) : Int))).length ⟨_, _, _, _, _, _, _, rfl, fun j hj => List.mem_filter.2 ⟨hls j hj.1, decide_eq_true hj.2⟩, fun j hj => ?_, i6, ?_, h6, hhas, fun q hq => ?_, fun q hq => ⟨fun hl => ?_, fun hl => ?_⟩, ?_⟩ ?_
    · unfold upd; rw [if_neg hj.2]; exact hlf j hj.1
    · have F4 : StpF K w w4.drew vl vw vl vw' := ⟨(f3.fm.trans' f4 fun b hb e => by have e : b = w1.heap.size := e; omega).tr hd, f3.rows⟩
      exact F4.trans f6
    · show updN T'.wt p _ q = _
      rw [updN_ne _ _ (by omega)]; exact hout q hq
    · show updN T'.wt p _ q = _
      have : q ≠ p := fun e => hl.2 (by subst e; rfl)
      rw [updN_ne _ _ this]; exact (hin q hq).1 hl.1
    · show updN T'.wt p _ q = _
      by_cases e : q = p
      · subst e; rw [updN_same, (hin q hq).1 hk]
      · rw [updN_ne _ _ e]
        exact (hin q hq).2 fun h9 => hl ⟨h9, fun e2 => e (h.keyInj hq hp e2)⟩
    · exact q6.blk (f5.blk bg4.drew hgr) fun e => by have := h.mw.lt; omega
    · refine Nat.lt_of_le_of_ne (List.length_filter_le _ _) fun e => ?_
      have := (List.length_filter_eq_length_iff.1 e) _ (hls _ hk)
      simp at this
end
end Go.Proofs.YtfhkgnfphfmhiaaGreatDoor
/- Locks: where one waits. -/
namespace Go.Proofs.YtfhkgnfphfmhiaaGreatDoor
open Go.RowKit Go.Vc
set_option linter.unusedVariables false
set_option linter.unusedSimpArgs false
set_option maxRecDepth 100000
section
variable {w w1 w2 : World} {K : KP} {T : TS} {had : Nat → Wt → Bool} {fl fw : Int → Option Value} {vl vw : Nat → Sv} {W : Nat → List Ew} {M : Nat → Prop} {R : Ending → World → Prop}
theorem waitingT_calls (h : StP w K T had fl vl fw vw W) (hT : TI K.pl.length T) (who : Nat)
    (hR1 : ∀ p (hp : p < K.pl.length) i (hi : i < (T.wt p).length) w', (T.wt p)[i].who = who → Below w.heap.size w w' → R (.returned (.tuple #[.int .u64 (K.pl[p] : Nat), .int .i64 (i : Nat), .bool true])) w')
    (hR0 : ∀ w', NoW K.pl.length T who → Below w.heap.size w w' → R (.returned (.tuple #[.int .u64 0, .int .i64 0, .bool false])) w') :
    Calls Tryz.prog 62 #[.pointer (some ⟨K.tg, 0, none⟩), .int .i64 (who : Nat)] w R := by
  refine ok62 (some ⟨K.tg, 0, none⟩) who ?_
  unfold F62
  refine al fun g w1 hb1 b1 hge1 => ?_
  have h1 := h.keep hb1
  simp only [NonNil_some, Addr.add_mk, Nat.zero_add, h1.cells.2.2.2, LdM_some]
  refine h1.mw.range lkMapW fun w2 hb2 i2 => ⟨_, rfl, ?_⟩
  have hs1 := hb1.size
  have B2 := btr hb1 hs1 hb2
  refine loopG (Body := fun L w' => F62_l2 ⟨g, 0, none⟩ w1.heap.size L w' R)
    (J := fun c w' => ∃ (left : Int → Prop) (cur : Option Int) (ls : List Int), ls.length = c ∧ (∀ k, left k → k ∈ ls) ∧ (∀ k, left k → fw k ≠ none) ∧ Itr .u64 w' K.bw w1.heap.size fw left cur ∧ Below w.heap.size w w' ∧
      (∀ p (hp : p < K.pl.length), ¬ left ((K.pl[p] : Nat) : Int) → ∀ x ∈ T.wt p, x.who ≠ who) ∧ Blk w' g #[.int .i64 (who : Nat)] 3)
    (c0 := (K.pl.map fun x : Nat => (x : Int)).length)
    ⟨_, none, _, rfl, fun k hk => h.keys k hk, fun k hk => hk, i2, B2, fun p hp hn => ?_, b1.keep hb2⟩ ?_
  · rw [h.noKey hp (Classical.not_not.1 hn)]; intro x hx; cases hx
  rintro c w3 ⟨left, cur, ls, rfl, hls, hlf, i3, B3, hin, bg⟩ L hL
  unfold F62_l2
  have hitg : w1.heap.size ≠ g := by have := b1.lt; omega
  refine i3.next 0 (fun hno => .inl ⟨rfl, ?_⟩) fun k v w4 hk hfk f4 i4 => .inr ⟨_, _, rfl, ?_⟩
  · exact hR0 w3 (fun p hp => hin p hp (hno _)) B3
  have B4 : Below w.heap.size w w4 := B3.trans (f4.toBelow B3.size fun b hb e => by have e : b = w1.heap.size := e; omega)
  have h4 := h.keep B4
  obtain ⟨p, hp, rfl, rfl⟩ := h.atKey hfk
  have bg4 := f4.blk bg (fun e => hitg e.symm)
  refine i4.entry hfk ⟨_, _, _, _, rfl, ?_⟩
  refine indexW_calls (W p) (vw p) _ (fun y => y.who == ((who : Nat) : Int)) (h4.rrW hT hp) (fun y hy w5 K' R' hb5 hK => ⟨by kernel_rfl, waiting1_calls (by rw [(bg4.keep hb5).cell]; rfl) fun w6 hb6 => hK w6 hb6⟩) fun w5 hb5 => ⟨_, rfl, ?_⟩
  have B5 := btr B4 B4.size hb5
  have hlen := (h.ws p hp).len
  rcases idxQ_cases (fun y : Ew => y.who == ((who : Nat) : Int)) (W p) 0 with ⟨h3, h5⟩ | ⟨i, h3, hi, ⟨_, h5⟩, -⟩
  · rw [h3]
    refine brd (fun hh => absurd hh (by decide)) (fun _ => ?_)
    refine hL w5 (ls.filter fun j => decide (j ≠ ((K.pl[p] : Nat) : Int))).length ⟨_, _, _, rfl, fun j hj => List.mem_filter.2 ⟨hls j hj.1, decide_eq_true hj.2⟩, fun j hj => hlf j hj.1, i4.fm (M := fun _ => False) (.below hb5) (fun h => h) (fun h => h), B5, fun q hq hn x hx => ?_, bg4.keep hb5⟩ ?_
    · by_cases e : q = p
      · subst e
        obtain ⟨i, hi, rfl⟩ := List.mem_iff_getElem.1 hx
        have hz := (h.ws q hq).get i hi (by omega)
        have hmem : (W q)[i]'(by omega) ∈ (W q).filter fun y => !(y.who == ((who : Nat) : Int)) := by rw [h5]; exact List.getElem_mem _
        have := (List.mem_filter.1 hmem).2
        intro e2
        rw [hz.who, e2] at this
        simp at this
      · exact hin q hq (fun h9 => hn ⟨h9, fun e2 => e (h.keyInj hq hp e2)⟩) x hx
    · refine Nat.lt_of_le_of_ne (List.length_filter_le _ _) fun e => ?_
      have := (List.length_filter_eq_length_iff.1 e) _ (hls _ hk)
      simp at this
  · rw [h3, Nat.zero_add]
    refine brd (fun _ => ?_) (fun hh => absurd (by omega) hh)
    have hz := (h.ws p hp).get i (by omega) hi
    refine hR1 p hp i (by omega) w5 ?_ B5
    have h5 : (W p)[i].who = ((who : Nat) : Int) := by simpa using h5
    rw [hz.who] at h5; omega
end
end Go.Proofs.YtfhkgnfphfmhiaaGreatDoor
set_option linter.unusedVariables false
namespace Go.Proofs
open Go.Shelf
def Tryz.lays189_ren : Go.Shelf.Ren := ⟨fun | 189 => 82 | 125 => 114 | 257 => 113 | 128 => 136 | 129 => 137 | 294 => 127 | 295 => 128 | 296 => 129 | 297 => 130 | 298 => 131 | 299 => 132 | 216 => 133 | 300 => 134 | 301 => 135 | 328 => 154 | 329 => 155 | 330 => 156 | 331 => 157 | 332 => 158 | 215 => 159 | 343 => 169 | n => n, fun | 28 => 39 | 3 => 3 | 46 => 161 | 0 => 0 | 51 => 150 | 53 => 40 | 4 => 4 | 183 => 209 | 182 => 208 | 131 => 184 | 5 => 5 | 9 => 9 | 218 => 223 | 222 => 227 | 228 => 235 | 229 => 236 | n => n, fun | n => n⟩
theorem Tryz.lays189 : Go.Proofs.Lays.n189 Tryz.prog Tryz.lays189_ren := {
  mixed := by kernel_rfl
  f125 := Tryz.func114.trans (congrArg some (by kernel_rfl))
  f128 := Tryz.func136.trans (congrArg some (by kernel_rfl))
  f129 := Tryz.func137.trans (congrArg some (by kernel_rfl))
  f189 := Tryz.func82.trans (congrArg some (by kernel_rfl))
  f215 := Tryz.func159.trans (congrArg some (by kernel_rfl))
  f216 := Tryz.func133.trans (congrArg some (by kernel_rfl))
  f257 := Tryz.func113.trans (congrArg some (by kernel_rfl))
  f294 := Tryz.func127.trans (congrArg some (by kernel_rfl))
  f295 := Tryz.func128.trans (congrArg some (by kernel_rfl))
  f296 := Tryz.func129.trans (congrArg some (by kernel_rfl))
  f297 := Tryz.func130.trans (congrArg some (by kernel_rfl))
  f298 := Tryz.func131.trans (congrArg some (by kernel_rfl))
  f299 := Tryz.func132.trans (congrArg some (by kernel_rfl))
  f300 := Tryz.func134.trans (congrArg some (by kernel_rfl))
  f301 := Tryz.func135.trans (congrArg some (by kernel_rfl))
  f328 := Tryz.func154.trans (congrArg some (by kernel_rfl))
  f329 := Tryz.func155.trans (congrArg some (by kernel_rfl))
  f330 := Tryz.func156.trans (congrArg some (by kernel_rfl))
  f331 := Tryz.func157.trans (congrArg some (by kernel_rfl))
  f332 := Tryz.func158.trans (congrArg some (by kernel_rfl))
  f343 := Tryz.func169.trans (congrArg some (by kernel_rfl))
  t0 := Tryz.underlying0
  a0 := Tryz.isAgg0
  z0 := Tryz.sizeOf0
  v0 := Tryz.zeroValue0
  t3 := Tryz.underlying3
  a3 := Tryz.isAgg3
  z3 := Tryz.sizeOf3
  v3 := Tryz.zeroValue3
  t4 := Tryz.underlying4
  a4 := Tryz.isAgg4
  z4 := Tryz.sizeOf4
  v4 := Tryz.zeroValue4
  t5 := Tryz.underlying5
  a5 := Tryz.isAgg5
  z5 := Tryz.sizeOf5
  v5 := Tryz.zeroValue5
  t9 := Tryz.underlying9
  a9 := Tryz.isAgg9
  z9 := Tryz.sizeOf9
  v9 := Tryz.zeroValue9
  t28 := Tryz.underlying39
  a28 := Tryz.isAgg39
  z28 := Tryz.sizeOf39
  v28 := Tryz.zeroValue39
  t46 := Tryz.underlying161
  a46 := Tryz.isAgg161
  z46 := Tryz.sizeOf161
  v46 := Tryz.zeroValue161
  t51 := Tryz.underlying150
  a51 := Tryz.isAgg150
  z51 := Tryz.sizeOf150
  v51 := Tryz.zeroValue150
  t53 := Tryz.underlying40
  a53 := Tryz.isAgg40
  z53 := Tryz.sizeOf40
  v53 := Tryz.zeroValue40
  t131 := Tryz.underlying184
  a131 := Tryz.isAgg184
  z131 := Tryz.sizeOf184
  v131 := Tryz.zeroValue184
  t182 := Tryz.underlying208
  a182 := Tryz.isAgg208
  z182 := Tryz.sizeOf208
  v182 := Tryz.zeroValue208
  t183 := Tryz.underlying209
  a183 := Tryz.isAgg209
  z183 := Tryz.sizeOf209
  v183 := Tryz.zeroValue209
  t218 := Tryz.underlying223
  a218 := Tryz.isAgg223
  z218 := Tryz.sizeOf223
  v218 := Tryz.zeroValue223
  t222 := Tryz.underlying227
  a222 := Tryz.isAgg227
  z222 := Tryz.sizeOf227
  v222 := Tryz.zeroValue227
  t228 := Tryz.underlying235
  a228 := Tryz.isAgg235
  z228 := Tryz.sizeOf235
  v228 := Tryz.zeroValue235
  t229 := Tryz.underlying236
  a229 := Tryz.isAgg236
  z229 := Tryz.sizeOf236
  v229 := Tryz.zeroValue236 }

end Go.Proofs
/- Locks: rows of owners: sorted, each once. -/
namespace Go.Proofs.YtfhkgnfphfmhiaaGreatDoor
open Go.RowKit Go.Vc
open Go.Sort (Holds putRow grow)
set_option linter.unusedSimpArgs false
set_option maxRecDepth 100000
theorem all_I (xs : List Int) : LI.all xs = xs.map (Value.int .i64) := by
  induction xs with
  | nil => rfl
  | cons x xs ih => simp [Lay.all, LI] at ih ⊢; exact ih
section
variable {w w1 w2 : World} {R : Ending → World → Prop} {A : Option Addr} {n c B : Nat} {xs : List Int}
theorem sortI_calls (ho : OwnO LI w B 3 (.slice A n c) xs) (hl : xs.length ≤ 1048576)
    (h : ∀ zs w', OwnO LI w' B 3 (.slice A n c) zs → Fm (fun b => rowOf (.slice A n c) = some b) w w' → zs.Perm xs → zs.Pairwise (· ≤ ·) → R (.returned (.tuple #[])) w') : Calls Tryz.prog 82 #[.slice A n c] w R := by
  have ho0 := ho
  have hno : n = 0 → Calls Tryz.prog 82 #[.slice A n c] w R := by
    rintro rfl
    refine (Any.slices_Sort_int_none Tryz.lays189 A c w).mono fun e w1 ⟨he, hw⟩ => ?_
    subst he hw
    have : xs = [] := List.eq_nil_of_length_eq_zero ho0.rd.1.symm
    subst this
    exact h [] _ ho0 (.refl _ _) (List.Perm.refl _) .nil
  rcases ho with ⟨he, rfl⟩ | ⟨⟨a, he⟩, rfl⟩ | ⟨g, o, c', cl, he, hb, hh, hn, hm, hs, ht⟩
  · simp only [Value.slice.injEq] at he; exact hno he.2.1
  · simp only [Value.slice.injEq] at he; exact hno he.2.1
  · simp only [Value.slice.injEq] at he
    obtain ⟨rfl, rfl, rfl⟩ := he
    have h1 : LI.n = 1 := rfl
    rw [h1] at hs ht
    have hat : ∀ j (hj : j < xs.length), cl[o + j]? = some (.int .i64 xs[j]) := fun j hj => by
      have : ((cl.drop o).take (xs.length * 1))[j]? = (LI.all xs)[j]? := by rw [ht]
      rw [List.getElem?_take_of_lt (by omega), List.getElem?_drop, all_I, List.getElem?_map, List.getElem?_eq_getElem hj] at this
      exact this
    have hH : Holds (Value.int .i64) w g o xs.toArray := fun j hj => by
      have hj' : j < xs.length := by simpa using hj
      refine ⟨?_, hh.frozen _⟩
      rw [cellL hh, hat j hj', getElem!_pos _ j hj]; rfl
    refine (Any.slices_Sort_int Tryz.lays189 g o (c' + 1) xs w hH hh.lt (by omega)).mono fun e w1 ⟨he, q, os, hw⟩ => ?_
    subst he
    have hperm := List.mergeSort_perm xs (fun x y => decide (x ≤ y))
    have hpl : (xs.mergeSort fun x y => decide (x ≤ y)).length = xs.length := hperm.length_eq
    have hlt := hh.lt
    have hsz : (putRow (Value.int .i64) (Go.Sort.ahead w q) g o (xs.mergeSort fun x y => decide (x ≤ y)).toArray).heap.size = w.heap.size := Go.Sort.size_putRow _ _ _ _ _
    have hF : Fm (fun b => b = g) w w1 := by
      subst hw
      refine ⟨rfl, rfl, rfl, by rw [Go.Sort.size_grow, hsz]; exact Nat.le_add_right _ _, fun b hb2 hne => ?_⟩
      rw [Go.Sort.heap_grow_old _ _ (by rw [hsz]; exact hb2)]
      unfold putRow Go.Sort.mapBlock
      show (w.heap.modify g _)[b]? = _
      rw [Array.getElem?_modify, if_neg (fun e => hne e.symm)]
    have hblk : w1.heap[g]? = some (.cells (Go.Sort.putCells (Value.int .i64) o (xs.mergeSort fun x y => decide (x ≤ y)).toArray cl.toArray) 3 (0, 0)) := by
      subst hw
      rw [Go.Sort.heap_grow_old _ _ (by rw [hsz]; exact hlt)]
      unfold putRow Go.Sort.mapBlock
      show (w.heap.modify g _)[g]? = _
      unfold Blk at hh
      rw [Array.getElem?_modify, if_pos rfl, hh]; rfl
    have hO : OwnO LI w1 B 3 (.slice (some ⟨g, o, none⟩) (xs.mergeSort fun x y => decide (x ≤ y)).length (c' + 1)) (xs.mergeSort fun x y => decide (x ≤ y)) := by
      refine .inr (.inr ⟨g, o, c', (Go.Sort.putCells (Value.int .i64) o (xs.mergeSort fun x y => decide (x ≤ y)).toArray cl.toArray).toList, rfl, hb, ?_, by rw [hpl]; exact hn, hm, ?_, ?_⟩)
      · unfold Blk; rw [hblk]
      · rw [h1]; simp only [Array.length_toList, Go.Sort.putCells, Array.size_mapIdx, List.size_toArray]; exact hs
      · refine List.ext_getElem? fun t => ?_
        rw [hpl, h1]
        by_cases h9 : t < xs.length
        · have h2 : o + t < cl.length := by omega
          have h9' : t < (xs.mergeSort fun x y => decide (x ≤ y)).length := by rw [hpl]; exact h9
          rw [List.getElem?_take_of_lt (by omega), List.getElem?_drop, all_I, List.getElem?_map, List.getElem?_eq_getElem h9']
          simp only [Go.Sort.putCells, Array.getElem?_toList, Array.getElem?_mapIdx, List.getElem?_toArray, List.getElem?_eq_getElem h2, Option.map_some, List.size_toArray]
          rw [if_pos (by omega), Nat.add_sub_cancel_left, getElem!_pos _ _ (by simpa using h9')]
          rfl
        · rw [List.getElem?_eq_none (by rw [List.length_take]; omega), List.getElem?_eq_none (by rw [LI.all_length, hpl, h1]; omega)]
    rw [hpl] at hO
    refine h _ w1 hO (hF.mono fun b _ e => by rw [e]; rfl) hperm ?_
    have := List.pairwise_mergeSort (le := fun x y : Int => decide (x ≤ y)) (fun a b c h1 h2 => by simp at *; omega) (fun a b => by simp; omega) xs
    exact this.imp fun h => by simpa using h
/-- slices.Compact of a sorted row. -/
theorem compI_calls (ho : OwnO LI w B 3 (.slice A n c) xs) (hl : xs.length ≤ 1048576) (hs : xs.Pairwise (· ≤ ·))
    (h : ∀ (v : Sv) zs w', OwnO LI w' B 3 (slV v) zs → Fm (fun b => rowOf (.slice A n c) = some b) w w' → zs.Pairwise (· < ·) → (∀ x, x ∈ zs ↔ x ∈ xs) → R (.returned (slV v)) w') : Calls Tryz.prog 83 #[.slice A n c] w R := by
  refine ok83 A n c ?_
  unfold F83
  have hn := ho.rd.1
  have hmx := ho.rd.2.2.1
  unfold maxLen at hmx
  have hle := ho.rd.2.1
  refine brd (fun hlt => ?_) (fun hge => ?_)
  · refine h (A, n, c) xs w ho (.refl _ _) ?_ fun x => Iff.rfl
    match xs, hn with
    | [], _ => exact .nil
    | [x], _ => exact List.pairwise_singleton _ _
    | x :: y :: l, hn => simp at hn; omega
  refine ⟨fun i w' => ∃ k : Nat, i = k ∧ 1 ≤ k ∧ k ≤ xs.length ∧ (xs.take k).Pairwise (· < ·) ∧ Below w.heap.size w w', fun i _ => xs.length - i.toNat, ⟨1, rfl, by omega, by omega, ?_, Below.refl _ _⟩, ?_⟩
  · match xs, hn with
    | [], hn => simp at hn; omega
    | x :: l, _ => simp
  rintro _ w1 ⟨k, rfl, hk1, hk, hp, B1⟩
  unfold F83_l4
  refine brd (fun hlt => ?_) (fun hge => ?_)
  · have hk2 : k < xs.length := by omega
    refine dr fun w2 hb2 _ => ?_
    have B2 := btr B1 B1.size hb2
    have o2 := ho.keep B2
    refine o2.rd.2.idx hn (by omega) (by omega) rfl fun b o hc => ?_
    simp only [Int.toNat_natCast] at hc
    have c0 := hc 0 _ rfl
    simp only [Nat.add_zero] at c0
    simp only [c0, Addr.add_mk, List.getElem?_toArray, List.getElem?_cons_zero, List.getElem?_cons_succ, LdI_some, LdB_some, LdStr_some, LdP_some, LdSl_some, LdM_some, Nat.zero_add, Br_t, Br_f]
    refine ⟨inR_i64 (by omega) (by omega), ?_⟩
    have ek : ((k : Nat) : Int) - 1 = ((k - 1 : Nat) : Int) := by omega
    rw [ek]
    refine o2.rd.2.idx hn (by omega) (by omega) rfl fun b o hc => ?_
    simp only [Int.toNat_natCast] at hc
    have c1 := hc 0 _ rfl
    simp only [Nat.add_zero] at c1
    simp only [c1, Addr.add_mk, List.getElem?_toArray, List.getElem?_cons_zero, List.getElem?_cons_succ, LdI_some, LdB_some, LdStr_some, LdP_some, LdSl_some, LdM_some, Nat.zero_add, Br_t, Br_f]
    refine bre (fun heq => ?_) (fun hne => ?_)
    · refine ⟨by omega, by omega, by omega, ?_⟩
      refine ⟨fun k' i w' => ∃ (a j : Nat) (ys : List Int), k' = a ∧ i = j ∧ 1 ≤ j ∧ k + j ≤ xs.length ∧ 1 ≤ a ∧ a + 1 ≤ k + j ∧ ys.length = xs.length ∧ (ys.take a).Pairwise (· < ·) ∧ (∀ x, x ∈ ys.take a ↔ x ∈ xs.take (k + j)) ∧ ys.drop (k + j - 1) = xs.drop (k + j - 1) ∧ OwnO LI w' B 3 (.slice A n c) ys ∧ Fm (fun b => rowOf (.slice A n c) = some b) w w',
        fun _ i _ => xs.length - i.toNat, ⟨k, 1, xs, rfl, rfl, by omega, by omega, hk1, by omega, rfl, hp, fun x => ?_, rfl, o2, .below B2⟩, ?_⟩
      · rw [List.take_succ_eq_append_getElem hk2, List.mem_append, List.mem_singleton, heq]
        exact ⟨.inl, fun h => h.elim id fun e => by rw [e]; exact List.mem_take_iff_getElem.2 ⟨k - 1, by omega, rfl⟩⟩
      rintro _ _ w3 ⟨a, j, ys, rfl, rfl, hj1, hj, ha1, ha, hy, hpa, hmem, hdr, o3, f3⟩
      unfold F83_l9
      have hn' : (((n : Nat) : Int)).toNat - (((k : Nat) : Int)).toNat = n - k := by omega
      have hsa : SlA A c (((k : Nat) : Int)).toNat 1 = SlA A c k 1 := by rw [Int.toNat_natCast]
      rw [hn', hsa]
      have hyat : ∀ t (h1 : t < ys.length) (h2 : t < xs.length), k + j - 1 ≤ t → ys[t] = xs[t] := fun t h1 h2 h3 => by
        have h6 : (ys.drop (k + j - 1))[t - (k + j - 1)]? = (xs.drop (k + j - 1))[t - (k + j - 1)]? := by rw [hdr]
        rw [List.getElem?_drop, List.getElem?_drop, show k + j - 1 + (t - (k + j - 1)) = t by omega, List.getElem?_eq_getElem h1, List.getElem?_eq_getElem h2] at h6
        exact Option.some.inj h6
      refine brd (fun hlt => ?_) (fun hge => ?_)
      · have hkj : k + j < xs.length := by omega
        have hkj' : k + j < ys.length := by omega
        have hlast : ∀ x ∈ xs.take (k + j), x ≤ xs[k + j - 1] := fun x hx => by
          obtain ⟨t, ht, rfl⟩ := List.mem_take_iff_getElem.1 hx
          rcases Nat.lt_or_ge t (k + j - 1) with h4 | h4
          · exact List.pairwise_iff_getElem.1 hs t (k + j - 1) (by omega) (by omega) h4
          · have : t = k + j - 1 := by omega
            subst this; omega
        refine ⟨fun i w' => ∃ (a' : Nat) (ys' : List Int), i = a' ∧ 1 ≤ a' ∧ a' ≤ k + j ∧ ys'.length = xs.length ∧ (ys'.take a').Pairwise (· < ·) ∧ (∀ x, x ∈ ys'.take a' ↔ x ∈ xs.take (k + j + 1)) ∧ ys'.drop (k + j) = xs.drop (k + j) ∧ OwnO LI w' B 3 (.slice A n c) ys' ∧ Fm (fun b => rowOf (.slice A n c) = some b) w w', ?_, ?_⟩
        · rintro _ w4 ⟨a', ys', rfl, q1, q2, q3, q4, q5, q6, q7, q8⟩
          unfold F83_j10
          exact ⟨inR_i64 (by omega) (by omega), ⟨a', j + 1, ys', rfl, by simp, by omega, by omega, q1, by omega, q3, q4, q5, q6, q7, q8⟩, by dsimp only; omega⟩
        refine dr fun w4 hb4 _ => ?_
        have o4 := o3.keep hb4
        have f4 := f3.tr hb4
        have hcap := o4.rd.2.2.1
        unfold maxLen at hcap
        have hsl := o4.rd.2.slice (k := k) (by omega)
        refine hsl.idx (by rw [List.length_drop]; omega) (by omega) (by omega) rfl fun b o hc => ?_
        simp only [Int.toNat_natCast] at hc
        have d0 := hc 0 _ rfl
        simp only [Nat.add_zero] at d0
        simp only [d0, Addr.add_mk, List.getElem?_toArray, List.getElem?_cons_zero, List.getElem?_cons_succ, LdI_some, LdB_some, LdStr_some, LdP_some, LdSl_some, LdM_some, Nat.zero_add, Br_t, Br_f]
        refine ⟨inR_i64 (by omega) (by omega), ?_⟩
        have ej : ((j : Nat) : Int) - 1 = ((j - 1 : Nat) : Int) := by omega
        rw [ej]
        refine hsl.idx (by rw [List.length_drop]; omega) (by omega) (by omega) rfl fun b o hc => ?_
        simp only [Int.toNat_natCast] at hc
        have d1 := hc 0 _ rfl
        simp only [Nat.add_zero] at d1
        simp only [d1, Addr.add_mk, List.getElem?_toArray, List.getElem?_cons_zero, List.getElem?_cons_succ, LdI_some, LdB_some, LdStr_some, LdP_some, LdSl_some, LdM_some, Nat.zero_add, Br_t, Br_f, List.getElem_drop]
        have y1 := hyat (k + j) hkj' hkj (by omega)
        have y2 := hyat (k + (j - 1)) (by omega) (by omega) (by omega)
        have e2 : xs[k + (j - 1)]'(by omega) = xs[k + j - 1]'(by omega) := by congr 1; omega
        have hdr2 : ∀ zs : List Int, zs.drop (k + j - 1) = xs.drop (k + j - 1) → zs.drop (k + j) = xs.drop (k + j) := fun zs e => by
          have := congrArg (List.drop 1) e
          rwa [List.drop_drop, List.drop_drop, show k + j - 1 + 1 = k + j by omega] at this
        refine brn (fun hne => ?_) (fun heq2 => ?_)
        · rw [y1, y2, e2] at hne
          refine hsl.idx (by rw [List.length_drop]; omega) (by omega) (by omega) rfl fun b o hc => ?_
          simp only [Int.toNat_natCast] at hc
          have d2 := hc 0 _ rfl
          simp only [Nat.add_zero] at d2
          simp only [d2, Addr.add_mk, List.getElem?_toArray, List.getElem?_cons_zero, List.getElem?_cons_succ, LdI_some, LdB_some, LdStr_some, LdP_some, LdSl_some, LdM_some, Nat.zero_add, Br_t, Br_f, List.getElem_drop, y1]
          have hput := o4.put (i := (a : Int)) rfl (k := a) (by omega) xs[k + j] (sz := 1) rfl (K := fun w' => InR .i64 (((a : Nat) : Int) + (1 : Int)) ∧ (∃ (a' : Nat) (ys' : List Int), (((a : Nat) : Int) + (1 : Int)) = a' ∧ 1 ≤ a' ∧ a' ≤ k + j ∧ ys'.length = xs.length ∧ (ys'.take a').Pairwise (· < ·) ∧ (∀ x, x ∈ ys'.take a' ↔ x ∈ xs.take (k + j + 1)) ∧ ys'.drop (k + j) = xs.drop (k + j) ∧ OwnO LI w' B 3 (.slice A n c) ys' ∧ Fm (fun b => rowOf (.slice A n c) = some b) w w')) fun w5 o5 f5 => ?_
          · simp only [LI, StL, Addr.add_mk] at hput
            obtain ⟨gg, oo, ll, hA, -⟩ := o4.elem (i := a) (by omega)
            revert hput
            rw [hA, IdxA_some (by omega) (by omega), IdxA_some (by omega) (by omega)]
            simp only [Addr.add_mk, Nat.add_zero]
            exact id
          · refine ⟨inR_i64 (by omega) (by omega), a + 1, _, by simp, by omega, by omega, by rw [List.length_set]; exact hy, ?_, fun x => ?_, ?_, o5, f4.trans f5⟩
            · rw [List.take_succ_eq_append_getElem (by rw [List.length_set]; omega), List.getElem_set_self, List.take_set, List.set_eq_of_length_le (by rw [List.length_take]; omega), List.pairwise_append]
              refine ⟨hpa, List.pairwise_singleton _ _, fun x hx y hy2 => ?_⟩
              obtain rfl := List.mem_singleton.1 hy2
              have h7 := hlast x ((hmem x).1 hx)
              have h8 := List.pairwise_iff_getElem.1 hs (k + j - 1) (k + j) (by omega) hkj (by omega)
              omega
            · rw [List.take_succ_eq_append_getElem (l := ys.set a _) (by rw [List.length_set]; omega), List.getElem_set_self, List.take_set, List.set_eq_of_length_le (by rw [List.length_take]; omega), List.take_succ_eq_append_getElem hkj, List.mem_append, List.mem_append, hmem]
            · rw [List.drop_set_of_lt (by omega)]; exact hdr2 ys hdr
        · rw [y1, y2, e2] at heq2
          refine ⟨a, ys, rfl, ha1, by omega, hy, hpa, fun x => ?_, hdr2 ys hdr, o4, f4⟩
          rw [hmem, List.take_succ_eq_append_getElem hkj, List.mem_append, List.mem_singleton, heq2]
          exact ⟨.inl, fun h => h.elim id fun e => by rw [e]; exact List.mem_take_iff_getElem.2 ⟨k + j - 1, by omega, rfl⟩⟩
      · have hkj : k + j = xs.length := by omega
        refine ⟨by omega, by omega, by omega, ?_⟩
        have e1 : (((n : Nat) : Int)).toNat = n := by omega
        have e2 : (((a : Nat) : Int)).toNat = a := by omega
        rw [e1, e2]
        refine (o3.clear (P := Tryz.prog) (a := a) (by omega) (by kernel_rfl) (z := .int .i64 0) (by kernel_rfl) (by kernel_rfl) (by simp [Value.cells, Value.oneCell']) (K := fun w' => SlB 0 (a : Nat) ((c : Nat) : Int) (R (.returned (.slice A a c)) w')) fun w4 o4 f4 => ?_)
        refine ⟨by omega, by omega, by omega, ?_⟩
        refine h (A, a, c) (ys.take a) w4 o4 (f3.trans f4) hpa fun x => ?_
        rw [hmem, hkj, List.take_length]
    · refine ⟨inR_i64 (by omega) (by omega), ⟨k + 1, by simp, by omega, by omega, ?_, B2⟩, by omega⟩
      rw [List.take_succ_eq_append_getElem hk2, List.pairwise_append]
      refine ⟨hp, List.pairwise_singleton _ _, fun x hx y hy => ?_⟩
      obtain rfl := List.mem_singleton.1 hy
      obtain ⟨t, ht, rfl⟩ := List.mem_take_iff_getElem.1 hx
      have h8 := List.pairwise_iff_getElem.1 hs (k - 1) k (by omega) hk2 (by omega)
      rcases Nat.lt_or_ge t (k - 1) with h4 | h4
      · have := List.pairwise_iff_getElem.1 hs t (k - 1) (by omega) (by omega) h4; omega
      · have : t = k - 1 := by omega
        subst this; omega
  · have hk2 : k = xs.length := by omega
    rw [hk2, List.take_length] at hp
    exact h (A, n, c) xs w1 (ho.keep B1) (.below B1) hp fun x => Iff.rfl
end
end Go.Proofs.YtfhkgnfphfmhiaaGreatDoor
/- Locks: whom one has to go behind. -/
namespace Go.Proofs.YtfhkgnfphfmhiaaGreatDoor
open Go.RowKit Go.Vc
set_option linter.unusedSimpArgs false
set_option maxRecDepth 100000
theorem behB_iff {T : TS} {n who i : Nat} : T.behB n who i = true ↔ ∃ p, p < n ∧ ∃ k, ∃ hk : k < (T.wt p).length, (T.wt p)[k].who = who ∧ ((i ≠ who ∧ T.has p i ≠ 0 ∧ FitsL (T.wt p)[k].mode (T.has p i) = false) ∨ ∃ j, ∃ hj : j < (T.wt p).length, j < k ∧ (T.wt p)[j].who = i) := by
  unfold TS.behB
  rw [List.any_eq_true]
  constructor
  · rintro ⟨p, hp, h⟩
    rw [List.any_eq_true] at h
    obtain ⟨k, hk, h⟩ := h
    rw [List.mem_range] at hp hk
    rw [List.getElem?_eq_getElem hk] at h
    dsimp only at h
    rw [Bool.and_eq_true, Bool.or_eq_true, Bool.and_eq_true] at h
    refine ⟨p, hp, k, hk, of_decide_eq_true h.1, ?_⟩
    rcases h.2 with h2 | h2
    · have := of_decide_eq_true h2.1
      exact .inl ⟨this.1, this.2, by simpa using h2.2⟩
    · rw [List.any_eq_true] at h2
      obtain ⟨x, hx, h3⟩ := h2
      obtain ⟨j, hj, rfl⟩ := List.mem_take_iff_getElem.1 hx
      exact .inr ⟨j, by omega, by omega, of_decide_eq_true h3⟩
  · rintro ⟨p, hp, k, hk, h1, h2⟩
    refine ⟨p, List.mem_range.2 hp, List.any_eq_true.2 ⟨k, List.mem_range.2 hk, ?_⟩⟩
    rw [List.getElem?_eq_getElem hk]
    dsimp only
    rw [Bool.and_eq_true, Bool.or_eq_true, Bool.and_eq_true]
    refine ⟨decide_eq_true h1, ?_⟩
    rcases h2 with h2 | ⟨j, hj, h3, h4⟩
    · exact .inl ⟨decide_eq_true ⟨h2.1, h2.2.1⟩, by simp [h2.2.2]⟩
    · exact .inr (List.any_eq_true.2 ⟨_, List.mem_take_iff_getElem.2 ⟨j, by omega, rfl⟩, decide_eq_true h4⟩)
theorem behind_mem {n : Nat} {T : TS} (hT : TI n T) {who x : Nat} : x ∈ T.behind n who ↔ T.behB n who x = true := by
  unfold TS.behind
  rw [List.mem_filter]
  refine ⟨fun h => h.2, fun h => ⟨?_, h⟩⟩
  obtain ⟨p, hp, k, hk, h1, h2⟩ := behB_iff.1 h
  rcases h2 with h2 | ⟨j, hj, _, h4⟩
  · have := hT.own p x h2.2.1
    exact own32_mem.2 ⟨this.2.1, this.2.2.1⟩
  · have := hT.ww p _ (List.getElem_mem hj)
    rw [← h4]; exact own32_mem.2 ⟨this.lo, this.hi⟩
theorem behind_pw (T : TS) (n who : Nat) : (T.behind n who).Pairwise (· < ·) := own32_pw.filter _
/-- Rising rows of the same members are the same. -/
theorem rise_eq {a b : List Int} (ha : a.Pairwise (· < ·)) (hb : b.Pairwise (· < ·)) (h : ∀ x, x ∈ a ↔ x ∈ b) : a = b := by
  have na : a.Nodup := ha.imp fun h => by omega
  have nb : b.Nodup := hb.imp fun h => by omega
  have hp : a.Perm b := (List.perm_ext_iff_of_nodup na nb).2 h
  exact List.Perm.eq_of_pairwise (le := fun a b : Int => a < b) (fun x y _ _ h1 h2 => by omega) ha hb hp
section
variable {w w1 w2 : World} {K : KP} {T : TS} {had : Nat → Wt → Bool} {fl fw : Int → Option Value} {vl vw : Nat → Sv} {W : Nat → List Ew} {M : Nat → Prop} {R : Ending → World → Prop}
theorem behT_calls (h : StP w K T had fl vl fw vw W) (hT : TI K.pl.length T) (who : Nat)
    (hR : ∀ (v : Sv) w', Below w.heap.size w w' → OwnO LI w' w.heap.size 3 (slV v) ((T.behind K.pl.length who).map fun i : Nat => (i : Int)) → R (.returned (slV v)) w') :
    Calls Tryz.prog 43 #[.pointer (some ⟨K.tg, 0, none⟩), .int .i64 (who : Nat)] w R := by
  refine ok43 (some ⟨K.tg, 0, none⟩) who ?_
  unfold F43
  refine waitingT_calls h hT who (fun p hp i hi w1 hwho hb1 => ⟨_, _, _, rfl, ?_⟩) fun w1 hno hb1 => ⟨_, _, _, rfl, ?_⟩
  · rw [Bool.not_true, Br_f]
    have h1 := h.keep hb1
    have hs1 := hb1.size
    simp only [NonNil_some, Addr.add_mk, Nat.zero_add, h1.cells.2.2.1, LdM_some]
    refine h1.lookL hp rfl ⟨_, _, _, rfl, ?_⟩
    have hrl := h1.rl.rr hp (by have := hsL_len T p; omega)
    have hrw := h1.rrW hT hp
    have hvl := hrl.2.1
    have hvw := hrw.2.1
    have hlen := (h1.ws p hp).len
    have hll := hsL_len T p
    have hfew := hT.few p
    have hz := (h1.ws p hp).get i hi (by omega)
    have hmd := (hT.ww p _ (List.getElem_mem hi))
    refine ⟨fun A' N C j w' => ∃ k : Nat, j = k ∧ k ≤ (hsL T p).length ∧ Below w.heap.size w w' ∧ N ≤ k ∧ OwnO LI w' w.heap.size 3 (.slice A' N C) ((((hsL T p).take k).filter fun y => decide (y.1 ≠ (who : Int)) && !fitsL y.2 (T.wt p)[i].mode).map (·.1)),
      fun _ _ _ j _ => (hsL T p).length - j.toNat, ⟨0, rfl, by omega, hb1, by omega, .nil _ _ _ _⟩, ?_⟩
    rintro A' N C _ w2 ⟨k, rfl, hk, B2, hNk, o2⟩
    unfold F43_l6
    have hs2 := B2.size
    have h2 := h.keep B2
    have hN := o2.rd.1
    refine brd (fun hlt => ?_) (fun hge => ?_)
    · have hk2 : k < (hsL T p).length := by omega
      have htk : ((((hsL T p).take (k + 1)).filter fun y => decide (y.1 ≠ (who : Int)) && !fitsL y.2 (T.wt p)[i].mode).map (·.1)) = ((((hsL T p).take k).filter fun y => decide (y.1 ≠ (who : Int)) && !fitsL y.2 (T.wt p)[i].mode).map (·.1)) ++ (if (decide ((hsL T p)[k].1 ≠ (who : Int)) && !fitsL (hsL T p)[k].2 (T.wt p)[i].mode) = true then [(hsL T p)[k].1] else []) := by
        rw [List.take_succ_eq_append_getElem hk2, List.filter_append, List.map_append]
        congr 1
        rw [List.filter_cons]; split <;> rfl
      refine ⟨fun A3 N3 C3 w' => Below w.heap.size w w' ∧ N3 ≤ k + 1 ∧ OwnO LI w' w.heap.size 3 (.slice A3 N3 C3) ((((hsL T p).take (k + 1)).filter fun y => decide (y.1 ≠ (who : Int)) && !fitsL y.2 (T.wt p)[i].mode).map (·.1)), ?_, ?_⟩
      · rintro A3 N3 C3 w3 ⟨B3, hN3, o3⟩
        unfold F43_j10
        exact ⟨inR_i64 (by omega) (by omega), ⟨k + 1, by simp, by omega, B3, hN3, o3⟩, by dsimp only; omega⟩
      have hrl2 := h2.rl.rr hp (by omega)
      refine hrl2.2.2.hd hrl2.2.1 rfl (k := k) hk2 fun b o c0 c1 => ?_
      simp only [Addr.add_mk, c0, c1, Addr.add_mk, List.getElem?_toArray, List.getElem?_cons_zero, List.getElem?_cons_succ, LdI_some, LdB_some, LdStr_some, LdP_some, LdSl_some, LdM_some, Nat.zero_add, Br_t, Br_f]
      refine al2 fun g w3 hb3 b3 hge3 => ?_
      have B3 := btr B2 hs2 hb3
      have h3 := h2.keep hb3
      have hd : Below w3.heap.size w3 w3.drew := (Below.refl _ _).drew
      have B3d := btr B3 B3.size hd
      have h3d := h3.keep hd
      refine ⟨fun w' => Below w3.heap.size w3 w', hd, _, fun w' hS => by rw [(b3.keep hS).cell]; rfl, ?_⟩
      refine brn (fun hne => ?_) (fun heq => ?_)
      · refine ⟨_, fun w' hS => by rw [Addr.add_mk, (b3.keep hS).cell]; rfl, ?_⟩
        simp only [NonNil_some, Addr.add_mk, Nat.zero_add]
        refine ⟨_, fun w' hS => (h3.keep hS).cells.2.2.2, ?_⟩
        refine h3d.lookW hp rfl ⟨_, _, _, rfl, hd, ?_⟩
        have hrw3 := h3.rrW hT hp
        refine hrw3.2.2.idx hrw3.2.1 (by omega) (by omega) rfl fun b o hc => ?_
        simp only [Int.toNat_natCast] at hc
        have e1 := hc 1 _ rfl
        simp only [Addr.add_mk]
        refine ⟨_, fun w' hS => kcell hS e1, ?_⟩
        rw [hz.mode]
        refine fits_calls ⟨_, rfl, ?_⟩
        rw [brnot]
        refine br (fun hf => ?_) (fun hf => ?_)
        · refine ⟨B3d, by omega, ?_⟩
          rw [htk, if_neg (by simp [hf]), List.append_nil]
          exact o2.keep (btr hb3 hb3.size hd)
        · simp only [b3.drew.cell, List.getElem?_toArray, List.getElem?_cons_zero, List.getElem?_cons_succ, Addr.add_mk, List.getElem?_toArray, List.getElem?_cons_zero, List.getElem?_cons_succ, LdI_some, LdB_some, LdStr_some, LdP_some, LdSl_some, LdM_some, Nat.zero_add, Br_t, Br_f]
          refine al fun g4 w4 hb4 b4 hge4 => ?_
          have B4 := btr B3d B3d.size hb4
          refine apO (L := LI) (ys := [(hsL T p)[k].1]) (base := w.heap.size) (.int .i64 0) 8 rfl (by kernel_rfl) (by kernel_rfl) (by kernel_rfl) (o2.keep (btr (btr hb3 hb3.size hd) (Nat.le_trans hb3.size hd.size) hb4)) ?_ B4.size (by rw [← hN]; simp only [List.length_singleton]; omega) (by rw [← hN]; simp only [List.length_singleton, maxLen]; omega) fun A5 c5 w5 o5 g5 => ⟨_, _, _, rfl, B4.trans g5.below, by rw [← hN]; simp only [List.length_singleton]; omega, ?_⟩
          · refine ⟨by simp, by simp [maxLen], fun h0 => (by cases h0), fun _ => ⟨g4, 0, rfl, fun j u hj => ?_⟩⟩
            rw [LI.all_one] at hj
            rw [b4.cell]; simpa [LI] using hj
          · rw [htk, if_pos (by rw [Bool.and_eq_true]; exact ⟨decide_eq_true hne, by simp [hf]⟩)]
            exact o5
      · refine ⟨B3d, by omega, ?_⟩
        rw [htk, if_neg (by simp [heq]), List.append_nil]
        exact o2.keep (btr hb3 hb3.size hd)
    · have hk2 : k = (hsL T p).length := by omega
      subst hk2
      rw [List.take_length] at o2
      have hN := o2.rd.1
      simp only [NonNil_some, Addr.add_mk, Nat.zero_add, h2.cells.2.2.2, LdM_some]
      refine h2.lookW hp rfl ⟨_, _, _, rfl, ?_⟩
      have hrw2 := h2.rrW hT hp
      have hcw := hrw2.2.2.1
      have hnw := hrw2.2.1
      have ei : (((i : Nat) : Int)).toNat = i := by omega
      refine ⟨by omega, by omega, by omega, ?_⟩
      generalize hL0 : (((hsL T p).filter fun y => decide (y.1 ≠ (who : Int)) && !fitsL y.2 (T.wt p)[i].mode).map (·.1)) = L0 at o2 hN
      have hL0n : L0.length ≤ 32 := by rw [← hN]; omega
      refine ⟨fun A' N C j w' => ∃ k : Nat, j = k ∧ k ≤ i ∧ Below w.heap.size w w' ∧ OwnO LI w' w.heap.size 3 (.slice A' N C) (L0 ++ ((T.wt p).take k).map fun x => (x.who : Int)),
        fun _ _ _ j _ => i - j.toNat, ⟨0, rfl, by omega, B2, by simpa using o2⟩, ?_⟩
      rintro A3 N3 C3 _ w3 ⟨k, rfl, hk, B3, o3⟩
      unfold F43_l12
      have h3 := h.keep B3
      rw [ei]
      refine brd (fun hlt => ?_) (fun hge => ?_)
      · have hk2 : k < i := by omega
        have hrw3 := h3.rrW hT hp
        have hz3 := (h3.ws p hp).get k (by omega) (by omega)
        refine (hrw3.2.2.take i).idx (by rw [List.length_take]; omega) (by omega) (by omega) rfl fun b o hc => ?_
        simp only [Int.toNat_natCast, List.getElem_take] at hc
        have c0 := hc 0 _ rfl
        have c1 := hc 1 _ rfl
        have c2 := hc 2 _ rfl
        have c3 := hc 3 _ rfl
        simp only [Nat.add_zero] at c0
        simp only [Addr.add_mk, c0, c1, c2, c3, Addr.add_mk, List.getElem?_toArray, List.getElem?_cons_zero, List.getElem?_cons_succ, LdI_some, LdB_some, LdStr_some, LdP_some, LdSl_some, LdM_some, Nat.zero_add, Br_t, Br_f]
        refine al4 fun g w4 hb4 b4 hge4 => ?_
        simp only [Addr.add_mk, b4.cell, List.getElem?_toArray, List.getElem?_cons_zero, List.getElem?_cons_succ, Addr.add_mk, List.getElem?_toArray, List.getElem?_cons_zero, List.getElem?_cons_succ, LdI_some, LdB_some, LdStr_some, LdP_some, LdSl_some, LdM_some, Nat.zero_add, Br_t, Br_f]
        refine al fun g5 w5 hb5 b5 hge5 => ?_
        have B5 := btr (btr B3 B3.size hb4) (Nat.le_trans B3.size hb4.size) hb5
        refine apO (L := LI) (ys := [(W p)[k].who]) (base := w.heap.size) (.int .i64 0) 8 rfl (by kernel_rfl) (by kernel_rfl) (by kernel_rfl) (o3.keep (btr hb4 hb4.size hb5)) ?_ B5.size (by simp; omega) (by simp [maxLen]; omega) fun A6 c6 w6 o6 g6 => ⟨_, _, _, rfl, inR_i64 (by omega) (by omega), ⟨k + 1, by simp, by omega, B5.trans g6.below, ?_⟩, by first | omega | (dsimp only; omega)⟩
        · refine ⟨by simp, by simp [maxLen], fun h0 => (by cases h0), fun _ => ⟨g5, 0, rfl, fun j u hj => ?_⟩⟩
          rw [LI.all_one] at hj
          rw [b5.cell]; simpa [LI] using hj
        · have e9 : L0 ++ ((T.wt p).take (k + 1)).map (fun x => (x.who : Int)) = (L0 ++ ((T.wt p).take k).map fun x => (x.who : Int)) ++ [(W p)[k].who] := by
            rw [List.take_succ_eq_append_getElem (by omega), List.map_append, List.append_assoc, hz3.who]; rfl
          have hN6 := o6.rd.1
          rw [e9]
          have hN3 := o3.rd.1
          exact o6
      · have hk2 : k = i := by omega
        subst hk2
        have hl3 : (L0 ++ ((T.wt p).take k).map fun x => (x.who : Int)).length ≤ 1048576 := by simp; omega
        refine sortI_calls o3 hl3 fun zs w4 o4 f4 hp4 hs4 => ⟨rfl, ?_⟩
        refine compI_calls o4 (by rw [hp4.length_eq]; exact hl3) hs4 fun v ys w5 o5 f5 hpw hm5 => ⟨_, _, _, rfl, ?_⟩
        have hrow : ∀ b, rowOf (.slice A3 N3 C3) = some b → w.heap.size ≤ b := fun b hb => (o3.lt b hb).1
        have B5 : Below w.heap.size w w5 := (B3.trans (f4.toBelow B3.size fun b hb e => by have := hrow b e; omega)).trans (f5.toBelow (Nat.le_trans B3.size f4.size) fun b hb e => by have := hrow b e; omega)
        have he : ys = (T.behind K.pl.length who).map fun i : Nat => (i : Int) := by
          refine rise_eq hpw (by rw [List.pairwise_map]; exact (behind_pw T _ who).imp fun h => by omega) fun x => ?_
          rw [hm5, hp4.mem_iff, List.mem_append, ← hL0]
          simp only [List.mem_map, List.mem_filter, Bool.and_eq_true, decide_eq_true_eq, Bool.not_eq_true']
          have huniq : ∀ q (hq : q < K.pl.length) j (hj : j < (T.wt q).length), (T.wt q)[j].who = who → ∃ e : q = p, j = k := fun q hq j hj e => by
            have e1 : q = p := hT.once q p _ (List.getElem_mem hj) _ (List.getElem_mem hi) (by rw [e, hwho])
            subst e1
            refine ⟨rfl, ?_⟩
            have e2 : ((T.wt q).map (·.who))[j]'(by simpa using hj) = ((T.wt q).map (·.who))[k]'(by simpa using hi) := by rw [List.getElem_map, List.getElem_map, e, hwho]
            exact nodup_idx (hT.nd q) _ _ e2
          constructor
          · rintro (⟨y, ⟨hy, h5, h6⟩, rfl⟩ | ⟨y, hy, rfl⟩)
            · rw [hsL_fm, fmL_mem] at hy
              obtain ⟨j, hj, hj0, rfl⟩ := hy
              refine ⟨j, (behind_mem hT).2 (behB_iff.2 ⟨p, hp, k, hi, hwho, .inl ⟨by dsimp only at h5; omega, hj0, ?_⟩⟩), rfl⟩
              rw [FitsL_known ⟨hmd.m0, hmd.m1⟩ (hT.own p j hj0).2.2.2]; exact h6
            · obtain ⟨j, hj, rfl⟩ := List.mem_take_iff_getElem.1 hy
              exact ⟨_, (behind_mem hT).2 (behB_iff.2 ⟨p, hp, k, hi, hwho, .inr ⟨j, by omega, by omega, rfl⟩⟩), rfl⟩
          · rintro ⟨a, ha, rfl⟩
            obtain ⟨q, hq, j, hj, e1, e2⟩ := behB_iff.1 ((behind_mem hT).1 ha)
            obtain ⟨rfl, rfl⟩ := huniq q hq j hj e1
            rcases e2 with ⟨e2, e3, e4⟩ | ⟨j2, hj2, e3, e4⟩
            · refine .inl ⟨((a : Int), T.has q a), ⟨fmL_mem.2 ⟨a, ?_, e3, rfl⟩, by dsimp only; omega, ?_⟩, rfl⟩
              · have := hT.own q a e3
                exact own32_mem.2 ⟨this.2.1, this.2.2.1⟩
              · rw [FitsL_known ⟨hmd.m0, hmd.m1⟩ (hT.own q a e3).2.2.2] at e4; exact e4
            · exact .inr ⟨_, List.mem_take_iff_getElem.2 ⟨j2, by omega, rfl⟩, by rw [e4]⟩
        rw [he] at o5
        exact hR v w5 B5 (o5.rebase fun b hb => (o5.lt b hb).1)
  · rw [Bool.not_false, Br_t]
    have : T.behind K.pl.length who = [] := by
      apply List.eq_nil_iff_forall_not_mem.2
      intro x hx
      obtain ⟨p, hp, k, hk, e1, _⟩ := behB_iff.1 ((behind_mem hT).1 hx)
      exact hno p hp _ (List.getElem_mem hk) e1
    refine hR (none, 0, 0) w1 hb1 ?_
    rw [this]; exact .nil _ _ _ _
end
end Go.Proofs.YtfhkgnfphfmhiaaGreatDoor
/- Locks: whether one has to go behind itself. -/
namespace Go.Proofs.YtfhkgnfphfmhiaaGreatDoor
open Go.RowKit Go.Vc
set_option linter.unusedSimpArgs false
set_option maxRecDepth 100000
theorem lkMapR : Tryz.prog.underlying 170 = some (.map 3 171) := by kernel_rfl
theorem lkKeyI : Tryz.prog.underlying 3 = some (.int .i64) := by kernel_rfl
theorem lkZeroR (w : World) : (zeroValue 171).run Tryz.prog w = .ok (.agg #[]) w := by kernel_rfl
theorem loopG3 {Body : (Option Addr → Nat → Nat → World → Prop) → Option Addr → Nat → Nat → World → Prop} (J : Nat → Option Addr → Nat → Nat → World → Prop) {c0 : Nat} {a : Option Addr} {n c : Nat} {w : World} (h0 : J c0 a n c w)
    (hs : ∀ k a1 n1 c1 w1, J k a1 n1 c1 w1 → ∀ L : Option Addr → Nat → Nat → World → Prop, (∀ a2 n2 c2 w2 k2, J k2 a2 n2 c2 w2 → k2 < k → L a2 n2 c2 w2) → Body L a1 n1 c1 w1) :
    ∃ (I : Option Addr → Nat → Nat → World → Prop) (m : Option Addr → Nat → Nat → World → Nat), I a n c w ∧ ∀ a1 n1 c1 w1, I a1 n1 c1 w1 → Body (fun a2 n2 c2 w2 => I a2 n2 c2 w2 ∧ m a2 n2 c2 w2 < m a1 n1 c1 w1) a1 n1 c1 w1 := by
  refine ⟨fun a n c w' => ∃ k, J k a n c w', fun a n c w' => leastN fun k => J k a n c w', ⟨c0, h0⟩, ?_⟩
  rintro a1 n1 c1 w1 ⟨k, hk⟩
  obtain ⟨h1, h2⟩ := leastN_spec (p := fun k => J k a1 n1 c1 w1) hk
  exact hs _ a1 n1 c1 w1 h1 _ fun a2 n2 c2 w2 k2 hj hlt => ⟨⟨k2, hj⟩, Nat.lt_of_le_of_lt ((leastN_spec (p := fun k => J k a2 n2 c2 w2) hj).2 k2 hj) hlt⟩
section
variable {w w1 w2 : World} {K : KP} {T : TS} {had : Nat → Wt → Bool} {fl fw : Int → Option Value} {vl vw : Nat → Sv} {W : Nat → List Ew} {M : Nat → Prop} {R : Ending → World → Prop}
theorem ringT_calls (h : StP w K T had fl vl fw vw W) (hT : TI K.pl.length T) (who : Nat) (hR : ∀ w', Below w.heap.size w w' → R (.returned (.bool (T.ring K.pl.length who))) w') :
    Calls Tryz.prog 63 #[.pointer (some ⟨K.tg, 0, none⟩), .int .i64 (who : Nat)] w R := by
  refine ok63 (some ⟨K.tg, 0, none⟩) who ?_
  unfold F63
  have hb1 : Below w.heap.size w (w.alloc (.map #[] 0)) := (Below.refl _ _).alloc (Nat.le_refl _) _
  have hm1 := Mp.made w .i64
  show Calls _ _ _ (w.alloc (.map #[] 0)) _
  generalize hw1 : w.alloc (.map #[] 0) = w1 at hb1 hm1 ⊢
  have hs1 := hb1.size
  have h1 := h.keep hb1
  have hbl : ∀ x, (T.behind K.pl.length x).length ≤ 32 := fun x => by
    have := List.length_filter_le (T.behB K.pl.length x) own32
    simpa [TS.behind, own32] using this
  have hbm : ∀ x, ∀ y ∈ T.behind K.pl.length x, 1 ≤ y ∧ y ≤ 32 := fun x y hy => own32_mem.1 (List.mem_filter.1 hy).1
  refine behT_calls h1 hT who fun v w2 hb2 o2 => ⟨_, _, _, rfl, ?_⟩
  have B2 := btr hb1 hs1 hb2
  have hm2 : Mp .i64 w2 w.heap.size fun _ => none := hm1.fm (M := fun _ => False) (.below hb2) fun h => h
  refine loopG3 (Body := fun L a n c w' => F63_l3 (some ⟨K.tg, 0, none⟩) who w.heap.size L a n c w' R)
    (J := fun k a n c w' => ∃ (q seen : List Nat) (f : Int → Option Value), Below w.heap.size w w' ∧ OwnO LI w' w.heap.size 3 (.slice a n c) (q.map fun i : Nat => (i : Int)) ∧ Mp .i64 w' w.heap.size f ∧ (∀ x v, f x = some v → v = .agg #[]) ∧ (∀ x : Nat, f x ≠ none ↔ x ∈ seen) ∧ seen.Nodup ∧ (∀ x ∈ seen, 1 ≤ x ∧ x ≤ 32) ∧ (∀ x ∈ q, 1 ≤ x ∧ x ≤ 32) ∧
      ringF (T.behind K.pl.length) who k q seen = T.ring K.pl.length who ∧ 33 * (32 - seen.length) + q.length < k ∧ k ≤ 2000) (c0 := 2000)
    ⟨T.behind K.pl.length who, [], fun _ => none, B2, o2.rebase fun b hb => Nat.le_trans hs1 (o2.lt b hb).1, hm2, fun x v e => (by cases e), fun x => (by simp), List.nodup_nil, fun x hx => (by cases hx), hbm who, rfl, by have := hbl who; simp only [List.length_nil]; omega, by omega⟩ ?_
  rintro k a n c w3 ⟨q, seen, f, B3, o3, m3, hfv, hfs, hnd, hse, hqe, hrg, hms, hk⟩ L hL
  unfold F63_l3
  have hn := o3.rd.1
  have hcap := o3.rd.2.1
  rw [List.length_map] at hn hcap
  have hs3 := B3.size
  refine brd (fun hgt => ?_) (fun hgt => ?_)
  · obtain ⟨x, q, rfl⟩ : ∃ x q', q = x :: q' := by
      cases q with
      | nil => simp at hn; omega
      | cons x q => exact ⟨x, q, rfl⟩
    obtain ⟨k, rfl⟩ : ∃ k', k = k' + 1 := ⟨k - 1, by omega⟩
    simp only [List.length_cons] at hn hcap hms
    refine o3.rd.2.idx (by simp; omega) (by omega) (by omega) rfl fun b o hc => ?_
    have c0 := hc 0 _ rfl
    simp only [Nat.add_zero] at c0
    simp only [c0, Addr.add_mk, List.getElem?_toArray, List.getElem?_cons_zero, List.getElem?_cons_succ, LdI_some, LdB_some, LdStr_some, LdP_some, LdSl_some, LdM_some, Nat.zero_add, Br_t, Br_f]
    refine ⟨by omega, by omega, by omega, ?_⟩
    rw [ringF] at hrg
    refine bre (fun he => ?_) (fun hne => ?_)
    · have he : ((x : Nat) : Int) = (who : Nat) := he
      have he : x = who := by omega
      rw [if_pos he] at hrg
      rw [hrg]; exact hR w3 B3
    have hne : ((x : Nat) : Int) ≠ (who : Nat) := hne
    have hne : x ≠ who := fun e => hne (by rw [e])
    rw [if_neg hne] at hrg
    refine m3.look lkMapR lkKeyI (lkZeroR w3) _ true ?_
    rw [if_pos rfl]
    have hgd : (f ((x : Nat) : Int)).getD (.agg #[]) = .agg #[] := by
      cases e : f ((x : Nat) : Int) with
      | none => rfl
      | some v => exact hfv _ v e
    have ex : ((x :: q).map fun i : Nat => (i : Int))[((0 : Int)).toNat]'(by simp) = ((x : Nat) : Int) := rfl
    rw [ex, hgd]
    refine ⟨_, rfl, ?_⟩
    refine al fun g8 w4 hb4 b4 hge4 => ?_
    have B4 := btr B3 hs3 hb4
    have o4 := o3.keep hb4
    have m4 : Mp .i64 w4 w.heap.size f := m3.fm (M := fun _ => False) (.below hb4) fun h => h
    have e1 : ((1 : Int)).toNat = 1 := rfl
    have e2 : (((n : Nat) : Int)).toNat = n := by omega
    rw [e1, e2]
    have ot := (OwnO.tail (L := LI) (x := ((x : Nat) : Int)) (xs := q.map fun i : Nat => (i : Int)) (by exact o4)).1
    rw [brnot]
    refine br (fun hin => ?_) (fun hin => ?_)
    · have hin2 : x ∈ seen := (hfs x).1 (by intro e; rw [e] at hin; cases hin)
      rw [if_pos hin2] at hrg
      exact hL _ _ _ w4 k ⟨q, seen, f, B4, ot, m4, hfv, hfs, hnd, hse, fun y hy => hqe y (by simp [hy]), hrg, by omega, by omega⟩ (by omega)
    · have hin2 : x ∉ seen := fun e => by
        have := (hfs x).2 e
        cases e3 : f ((x : Nat) : Int) with
        | none => exact this e3
        | some v => rw [e3] at hin; cases hin
      rw [if_neg hin2] at hrg
      refine m4.update lkMapR lkKeyI _ _ fun w5 m5 f5 => ?_
      have hr10 : ¬ RowP K vl vw w.heap.size := fun e => by have := h.rowlt e; omega
      have h4 := h.keep B4
      have h5 := h4.fmR f5 fun b e => by
        have e : b = w.heap.size := e
        subst e
        exact ⟨h.sz, hr10, mp_not m4⟩
      have B5 : Below w.heap.size w w5 := B4.trans (f5.toBelow B4.size fun b hb e => by have e : b = w.heap.size := e; omega)
      have nrow : ∀ {u : Value} {ys : List Int} {w' : World} {b' : Nat}, OwnO LI w' b' 3 u ys → ∀ {ff}, Mp .i64 w' w.heap.size ff → ¬ rowOf u = some w.heap.size := fun ho ff hm e => mp_not hm (ho.row _ e).2
      have o5 := ot.fm f5 fun b hb e => by
        have e : b = w.heap.size := e
        subst e
        exact nrow ot m4 hb
      have hx := hqe x (by simp)
      refine behT_calls h5 hT x fun v w6 hb6 o6 => ⟨_, _, _, rfl, ?_⟩
      have B6 := btr B5 B5.size hb6
      have o56 := o5.keep hb6
      have m6 : Mp .i64 w6 w.heap.size _ := m5.fm (M := fun _ => False) (.below hb6) fun h => h
      have hbx := hbl x
      have hn6 := o6.rd
      refine apO (L := LI) (base := w.heap.size) (.int .i64 0) 8 hn6.1 (by kernel_rfl) (by kernel_rfl) (by kernel_rfl) o56 hn6.2 B6.size (by simp; omega) (by simp [maxLen]; omega) fun A7 c7 w7 o7 g7 => ⟨_, _, _, rfl, ?_⟩
      have m7 := m6.fm (Fm.grown (M := fun b => rowOf _ = some b) g7.grown fun b hb => hb) (nrow o56 m6)
      have hsn : seen.length < 32 := by
        have := sub32 (l := x :: seen) (List.nodup_cons.2 ⟨hin2, hnd⟩) fun y hy => by
          rcases List.mem_cons.1 hy with e | e
          · rw [e]; exact hx
          · exact hse y e
        rw [List.length_cons] at this; omega
      refine hL _ _ _ w7 k ⟨q ++ T.behind K.pl.length x, x :: seen, _, B6.trans g7.below, by rw [List.map_append]; exact o7, m7, fun y u e => ?_, fun y => ?_, List.nodup_cons.2 ⟨hin2, hnd⟩, fun y hy => ?_, fun y hy => ?_, hrg, ?_, by omega⟩ (by omega)
      · unfold upd at e
        split at e
        · cases e; rfl
        · exact hfv y u e
      · unfold upd
        by_cases e : y = x
        · subst e; rw [if_pos rfl]; simp
        · rw [if_neg (by omega), hfs y, List.mem_cons]; simp [e]
      · rcases List.mem_cons.1 hy with e | e
        · rw [e]; exact hx
        · exact hse y e
      · rcases List.mem_append.1 hy with e | e
        · exact hqe y (by simp [e])
        · exact hbm x y e
      · simp only [List.length_append, List.length_cons]; omega
  · have : q = [] := List.eq_nil_of_length_eq_zero (by omega)
    subst this
    cases k with
    | zero => omega
    | succ k =>
      rw [ringF] at hrg
      rw [← hrg] at hR
      exact hR w3 B3
end
end Go.Proofs.YtfhkgnfphfmhiaaGreatDoor
/- Locks: Lock. -/
namespace Go.Proofs.YtfhkgnfphfmhiaaGreatDoor
open Go.RowKit Go.Vc
set_option linter.unusedSimpArgs false
set_option maxRecDepth 100000
theorem TI.queue {n : Nat} {T : TS} (h : TI n T) {p : Nat} {x : Wt} (hp : p < n) (hx : WtI n x) (hn : NoW n T x.who) : TI n (T.queue p x) := by
  have hm : ∀ q y, y ∈ (T.queue p x).wt q → y ∈ T.wt q ∨ (q = p ∧ y = x) := fun q y hy => by
    have hy : y ∈ updN T.wt p _ q := hy
    by_cases e : q = p
    · subst e; rw [updN_same, List.mem_append, List.mem_cons] at hy
      rcases hy with hy | hy | hy
      · exact .inl (List.mem_of_mem_take hy)
      · exact .inr ⟨rfl, hy⟩
      · exact .inl (List.mem_of_mem_drop hy)
    · rw [updN_ne _ _ e] at hy; exact .inl hy
  have hlt : ∀ q y, y ∈ T.wt q → q < n := fun q y hy => by
    rcases Nat.lt_or_ge q n with h1 | h1
    · exact h1
    · rw [h.wn q h1] at hy; cases hy
  refine ⟨h.own, fun q hq => ?_, fun q y hy => ?_, fun q r y hy z hz e => ?_, fun q => ?_⟩
  · show updN T.wt p _ q = []
    rw [updN_ne _ _ (by omega)]; exact h.wn q hq
  · rcases hm q y hy with h1 | ⟨rfl, rfl⟩
    · exact h.ww q y h1
    · exact hx
  · rcases hm q y hy with h1 | ⟨rfl, rfl⟩ <;> rcases hm r z hz with h2 | ⟨rfl, rfl⟩
    · exact h.once q r y h1 z h2 e
    · exact absurd e (hn q (hlt q y h1) y h1)
    · exact absurd e.symm (hn r (hlt r z h2) z h2)
    · rfl
  · show ((updN T.wt p _ q).map _).Nodup
    by_cases e : q = p
    · subst e; rw [updN_same]
      have hperm : ((T.wt q).take (T.spot q x.who) ++ x :: (T.wt q).drop (T.spot q x.who)).Perm (x :: T.wt q) := by
        have := List.perm_middle (a := x) (l₁ := (T.wt q).take (T.spot q x.who)) (l₂ := (T.wt q).drop (T.spot q x.who))
        rwa [List.take_append_drop] at this
      refine (hperm.map (·.who)).nodup_iff.2 ?_
      rw [List.map_cons, List.nodup_cons]
      refine ⟨fun hmem => ?_, h.nd q⟩
      obtain ⟨y, hy, e⟩ := List.mem_map.1 hmem
      exact hn q hp y hy e
    · rw [updN_ne _ _ e]; exact h.nd q
theorem TI.away {n : Nat} {T : TS} (h : TI n T) (who : Nat) : TI n (T.away who) := by
  have hm : ∀ q y, y ∈ (T.away who).wt q → y ∈ T.wt q := fun q y hy => (List.mem_filter.1 hy).1
  refine ⟨h.own, fun q hq => ?_, fun q y hy => h.ww q y (hm q y hy), fun q r y hy z hz e => h.once q r y (hm q y hy) z (hm r z hz) e, fun q => ?_⟩
  · show (T.wt q).filter _ = []
    rw [h.wn q hq]; rfl
  · exact (h.nd q).sublist ((List.filter_sublist).map _)
theorem upA_mem {A : Nat → Option Sl} : ∀ {c x : Nat}, Ch A x c → ∀ y ∈ upA A c x, ∃ s, A y = some s
  | 0, x, _, y, hy => by rw [upA] at hy; cases hy
  | c + 1, x, h, y, hy => by
    cases h with
    | succ h0 ha h3 =>
      rename_i s
      have e : parA A x = s.parent := by unfold parA; rw [ha]
      rw [upA, if_neg h0, e, List.mem_cons] at hy
      rcases hy with rfl | hy
      · exact ⟨s, ha⟩
      · exact upA_mem h3 y hy
def stepsI (K : KP) (n : Nat) (mode : Int) : List (Nat × Int) := (stepsH (slA K.S.D.sl) n mode).map fun s => (K.pl.idxOf s.1, s.2)
theorem stepsH_mem {K : KP} (hD : KD K) {n : Nat} (hn : n ∈ K.pl) {mode : Int} (hm : 1 ≤ mode ∧ mode ≤ 5) : (stepsH (slA K.S.D.sl) n mode).length ≤ 67 ∧ 0 < (stepsH (slA K.S.D.sl) n mode).length ∧ ∀ s ∈ stepsH (slA K.S.D.sl) n mode, s.1 ∈ K.pl ∧ 1 ≤ s.2 ∧ s.2 ≤ 5 := by
  have har : 1 ≤ arM mode ∧ arM mode ≤ 5 := by unfold arM; split <;> omega
  unfold stepsH
  by_cases hz : n = 0
  · rw [if_pos hz]
    refine ⟨by simp, by simp, fun s hs => ?_⟩
    obtain rfl := List.mem_singleton.1 hs
    exact ⟨hD.mem.2 (.inl rfl), hm⟩
  · rw [if_neg hz]
    obtain ⟨s, hs⟩ := (hD.mem.1 hn).resolve_left hz
    obtain ⟨c, hc, hch⟩ := Z64 (D := K.S.D) hD.a hs
    have hpn : parA (slA K.S.D.sl) n = s.parent := by unfold parA; rw [hs]
    obtain ⟨e1, e2⟩ := upA_ch hch (r := 64) (by omega)
    rw [hpn, e1]
    refine ⟨by simp; omega, by simp, fun t ht => ?_⟩
    rw [List.mem_reverse, List.mem_append, List.mem_cons, List.mem_singleton] at ht
    rcases ht with (rfl | ht) | rfl
    · exact ⟨hn, hm⟩
    · obtain ⟨y, hy, rfl⟩ := List.mem_map.1 ht
      exact ⟨hD.mem.2 (.inr (upA_mem hch y hy)), har⟩
    · exact ⟨hD.mem.2 (.inl rfl), har⟩
theorem stepsI_ok {K : KP} (hD : KD K) {n : Nat} (hn : n ∈ K.pl) {mode : Int} (hm : 1 ≤ mode ∧ mode ≤ 5) : (∀ s ∈ stepsI K n mode, s.1 < K.pl.length ∧ 1 ≤ s.2 ∧ s.2 ≤ 5) ∧ (stepsI K n mode).map (fun s => (K.pl.getD s.1 0, s.2)) = stepsH (slA K.S.D.sl) n mode := by
  obtain ⟨_, _, h⟩ := stepsH_mem hD hn hm
  refine ⟨fun s hs => ?_, ?_⟩
  · obtain ⟨t, ht, rfl⟩ := List.mem_map.1 hs
    exact ⟨List.idxOf_lt_length_iff.2 (h t ht).1, (h t ht).2⟩
  · unfold stepsI
    rw [List.map_map]
    have : ∀ t ∈ stepsH (slA K.S.D.sl) n mode, ((fun s : Nat × Int => (K.pl.getD s.1 0, s.2)) ∘ fun s => (K.pl.idxOf s.1, s.2)) t = t := fun t ht => by
      have hlt := List.idxOf_lt_length_iff.2 (h t ht).1
      simp only [Function.comp, List.getD_eq_getElem?_getD, List.getElem?_eq_getElem hlt, Option.getD_some, List.getElem_idxOf]
    exact (List.map_congr_left this).trans (List.map_id' _)
theorem waits_iff {n who : Nat} {T : TS} : T.waits n who = true ↔ ∃ p, p < n ∧ ∃ x ∈ T.wt p, x.who = who := by
  unfold TS.waits
  simp only [List.any_eq_true, List.mem_range, decide_eq_true_eq]
def lockF (K : KP) (T : TS) (who : Int) (n : Nat) (mode : Int) : TS × Int :=
  if 1 ≤ who ∧ who ≤ 32 ∧ 1 ≤ mode ∧ mode ≤ 5 then (if n ∈ K.pl then T.lock K.pl.length who.toNat (stepsI K n mode) else (T, 8)) else (T, 1)
section
variable {w w1 w2 : World} {K : KP} {T : TS} {had : Nat → Wt → Bool} {fl fw : Int → Option Value} {vl vw : Nat → Sv} {W : Nat → List Ew} {M : Nat → Prop} {R : Ending → World → Prop}
theorem rstep_of (hD : KD K) {n : Nat} (hn : n ∈ K.pl) {mode : Int} (hm : 1 ≤ mode ∧ mode ≤ 5) {v : Sv} {B : Nat} (ho : OwnO LSt2 w B 88 (slV v) (stepsH (slA K.S.D.sl) n mode)) : RStep w K.pl (stepsI K n mode) v := by
  obtain ⟨h1, h2, _⟩ := stepsH_mem hD hn hm
  obtain ⟨_, h4⟩ := stepsI_ok hD hn hm
  have hl : (stepsI K n mode).length = (stepsH (slA K.S.D.sl) n mode).length := by unfold stepsI; rw [List.length_map]
  have hr := ho.rd
  refine ⟨by omega, by rw [hl]; exact hr.1, by rw [h4]; exact hr.2, fun b o hb => ?_⟩
  obtain ⟨g, o', l, hA, _, hB, _⟩ := ho.elem h2
  rw [hA] at hb
  cases hb
  exact ⟨_, hB⟩
theorem lock1T_calls (h : StP w K T (hdT T) fl vl fw vw W) (hT : TI K.pl.length T) (hD : KD K) (who : Int) {n : Nat} (hn : n < 18446744073709551616) (mode : Int)
    (hR : ∀ w' T' fl' vl' fw' vw' W' (e : Int), lockF K T who n mode = (T', e) → StpF K w w' vl vw vl' vw' → StP w' K T' (hdT T') fl' vl' fw' vw' W' → TI K.pl.length T' → R (.returned (.int .i64 e)) w') :
    Calls Tryz.prog 31 #[.pointer (some ⟨K.tg, 0, none⟩), .int .i64 who, .int .u64 (n : Nat), .int .i64 mode] w R := by
  refine ok31 (some ⟨K.tg, 0, none⟩) who n mode ?_
  unfold F31
  have bad : ¬ (1 ≤ who ∧ who ≤ 32 ∧ 1 ≤ mode ∧ mode ≤ 5) → ∀ w', Below w.heap.size w w' → R (.returned (.int .i64 1)) w' := fun hb w' hB => hR w' T fl vl fw vw W 1 (by unfold lockF; rw [if_neg hb]) (.below hB) (h.keep hB) hT
  refine ⟨fun w' => w = w' ∧ 1 ≤ who ∧ who ≤ 32 ∧ 1 ≤ mode ∧ mode ≤ 5, ?_, ?_⟩
  · rintro _ ⟨rfl, g1, g2, g3, g4⟩
    unfold F31_j3
    obtain ⟨wh, rfl⟩ : ∃ wh : Nat, who = wh := ⟨who.toNat, by omega⟩
    have hgo : lockF K T (wh : Nat) n mode = if n ∈ K.pl then T.lock K.pl.length wh (stepsI K n mode) else (T, 8) := by unfold lockF; rw [if_pos ⟨g1, g2, g3, g4⟩, Int.toNat_natCast]
    refine asksT_calls h hD _ hn fun w1 hb1 => ⟨_, rfl, ?_⟩
    have ha : askF K (wh : Nat) n = if n ∈ K.pl then 0 else 8 := by unfold askF; rw [if_pos ⟨g1, g2⟩]
    rw [ha]
    by_cases hin : n ∈ K.pl
    · rw [if_pos hin] at hgo ⊢
      refine brn (fun e => absurd rfl e) (fun _ => ?_)
      have h1 := h.keep hb1
      refine waitingT_calls h1 hT wh (fun p hp i hi w2 hwho hb2 => ⟨_, _, _, rfl, ?_⟩) fun w2 hno hb2 => ⟨_, _, _, rfl, ?_⟩
      · rw [Br_t]
        refine hR w2 T fl vl fw vw W 211 ?_ (.below (btr hb1 hb1.size hb2)) (h1.keep hb2) hT
        rw [hgo]; unfold TS.lock; rw [if_pos (waits_iff.2 ⟨p, hp, _, List.getElem_mem hi, hwho⟩)]
      · rw [Br_f]
        have B2 := btr hb1 hb1.size hb2
        have h2 := h1.keep hb2
        have hnw : ¬ T.waits K.pl.length wh = true := fun e => by
          obtain ⟨p, hp, x, hx, e⟩ := waits_iff.1 e
          exact hno p hp x hx e
        refine stepsT_calls h2 hD hin fun v w3 hb3 o3 => ⟨_, _, _, rfl, ?_⟩
        have B3 := btr B2 B2.size hb3
        have h3 := h2.keep hb3
        have hrs := rstep_of hD hin ⟨g3, g4⟩ o3
        have hlk : T.lock K.pl.length wh (stepsI K n mode) = match TS.walk wh T (stepsI K n mode) with
          | (T', none) => (T', 0)
          | (T', some (p, x)) => if (T'.queue p x).ring K.pl.length wh = true then ((T'.queue p x).away wh, 281) else (T'.queue p x, 280) := by
          unfold TS.lock; rw [if_neg hnw]; rfl
        refine takesT_calls h3 hT (by omega) hno hrs (stepsI_ok hD hin ⟨g3, g4⟩).1 (fun w4 T' fl' vl' hwk hwt f4 h4 hT4 => ⟨_, _, _, _, _, _, _, _, rfl, ?_⟩) fun w4 T' fl' vl' p x vr hp hwk hwt hxw hxi _ hrv f4 h4 hT4 => ⟨_, _, _, _, _, _, _, _, rfl, ?_⟩
        · refine al4 fun g w5 hb5 b5 hge5 => ?_
          rw [Br_t]
          rw [hlk, hwk] at hgo
          exact hR w5 _ _ _ _ _ _ 0 hgo (((StpF.below B3).trans f4).trans (.below hb5)) (h4.keep hb5) hT4
        · refine al4 fun g w5 hb5 b5 hge5 => ?_
          rw [Br_f]
          simp only [Addr.add_mk, Nat.zero_add, b5.cell, List.getElem?_toArray, List.getElem?_cons_zero, List.getElem?_cons_succ, Addr.add_mk, List.getElem?_toArray, List.getElem?_cons_zero, List.getElem?_cons_succ, LdI_some, LdB_some, LdStr_some, LdP_some, LdSl_some, LdM_some, Nat.zero_add, Br_t, Br_f]
          have h5 := h4.keep hb5
          have hrv5 := hrv.fm (M := fun _ => False) (.below hb5) fun _ _ h => h
          have hno' : NoW K.pl.length T' x.who := fun q hq y hy => by rw [hwt] at hy; rw [hxw]; exact hno q hq y hy
          have hTq := hT4.queue hp hxi hno'
          refine waitT_calls h5 hT4 hp hrv5 fun w6 fw6 vw6 W6 f6 h6 => ⟨rfl, ?_⟩
          have F6 := (((StpF.below B3).trans f4).trans (.below hb5)).trans f6
          refine ringT_calls h6 hTq wh fun w7 hb7 => ⟨_, rfl, ?_⟩
          have F7 := F6.trans (.below hb7)
          have h7 := h6.keep hb7
          rw [hlk, hwk] at hgo
          dsimp only at hgo
          refine br (fun hr => ?_) (fun hr => ?_)
          · rw [if_pos hr] at hgo
            refine unwaitT_calls h7 hTq wh fun w8 fw8 vw8 W8 f8 h8 => ⟨rfl, ?_⟩
            exact hR w8 _ _ _ _ _ _ 281 hgo (F7.trans f8) h8 (hTq.away wh)
          · rw [if_neg (by rw [hr]; decide)] at hgo
            exact hR w7 _ _ _ _ _ _ 280 hgo F7 h7 hTq
    · rw [if_neg hin] at hgo ⊢
      refine brn (fun _ => ?_) (fun e => absurd e (by decide))
      exact hR w1 T fl vl fw vw W 8 hgo (.below hb1) (h.keep hb1) hT
  · refine brd (fun _ => bad (by omega) w (Below.refl _ _)) (fun h1 => brd (fun _ => bad (by omega) w (Below.refl _ _)) (fun h2 => ?_))
    refine known_calls ⟨_, rfl, ?_⟩
    rw [brnot]
    refine br (fun hk => ?_) (fun hk => ?_)
    · have := of_decide_eq_true (show decide (1 ≤ mode ∧ mode ≤ 5) = true from hk)
      exact ⟨rfl, by omega, by omega, this.1, this.2⟩
    · have := of_decide_eq_false (show decide (1 ≤ mode ∧ mode ≤ 5) = false from hk)
      exact bad (by omega) w (Below.refl _ _)
end
end Go.Proofs.YtfhkgnfphfmhiaaGreatDoor
/- Locks: all of an owner's locks are given back; how much is asked for. -/
namespace Go.Proofs.YtfhkgnfphfmhiaaGreatDoor
open Go.RowKit Go.Vc
set_option linter.unusedSimpArgs false
set_option maxRecDepth 100000
theorem fmL_drop (g : Nat → Int) (who : Nat) : ∀ l : List Nat, fmL (fun i => if i = who then 0 else g i) l = (fmL g l).filter fun y => !(y.1 == (who : Int))
  | [] => rfl
  | x :: l => by
    have ih := fmL_drop g who l
    rw [fmL_cons, fmL_cons, ih]
    by_cases e : x = who
    · subst e
      rw [if_pos rfl, if_pos rfl]
      split
      · rfl
      · rw [List.filter_cons, if_neg (by simp)]
    · rw [if_neg e]
      split
      · rfl
      · rw [List.filter_cons, if_pos (by simp; omega)]
theorem TI.drop {n : Nat} {T : TS} (h : TI n T) (who : Nat) : TI n (T.drop who) := by
  refine ⟨fun p i hi => ?_, h.wn, h.ww, h.once, h.nd⟩
  have hi : (if i = who then 0 else T.has p i) ≠ 0 := hi
  show p < n ∧ 1 ≤ i ∧ i ≤ 32 ∧ 1 ≤ (if i = who then 0 else T.has p i) ∧ (if i = who then 0 else T.has p i) ≤ 5
  by_cases e : i = who
  · rw [if_pos e] at hi; exact absurd rfl hi
  · rw [if_neg e] at hi ⊢; exact h.own p i hi
theorem restL_cons (x : Wt) (l : List Wt) : restL (x :: l) = x.rest.length + 1 + restL l := by unfold restL; simp
theorem restL_app (a b : List Wt) : restL (a ++ b) = restL a + restL b := by unfold restL; simp
theorem ask_succ (T : TS) (n : Nat) : T.ask (n + 1) = T.ask n + restL (T.wt n) := by unfold TS.ask; rw [List.range_succ]; simp
theorem ask_out (T : TS) {p : Nat} (l : List Wt) : ∀ n, n ≤ p → (T.setW p l).ask n = T.ask n
  | 0, _ => rfl
  | n + 1, h => by
    rw [ask_succ, ask_succ, ask_out T (p := p) l n (by omega)]
    show _ + restL (updN T.wt p l n) = _
    rw [updN_ne T.wt l (show n ≠ p by omega)]
theorem ask_setW (T : TS) {p : Nat} (l : List Wt) : ∀ n, p < n → (T.setW p l).ask n + restL (T.wt p) = T.ask n + restL l
  | 0, h => by omega
  | n + 1, h => by
    rw [ask_succ, ask_succ]
    show _ + restL (updN T.wt p l n) + _ = _
    by_cases e : n = p
    · subst e; rw [updN_same, ask_out T l n (Nat.le_refl _)]; omega
    · rw [updN_ne _ _ e]
      have := ask_setW T (p := p) l n (by omega); omega
theorem ask_as {T T' : TS} (n : Nat) (h : T'.wt = T.wt) : T'.ask n = T.ask n := by unfold TS.ask; rw [h]
theorem ask_queue (T : TS) {n p : Nat} (x : Wt) (hp : p < n) : (T.queue p x).ask n = T.ask n + x.rest.length + 1 := by
  have h := ask_setW T ((T.wt p).take (T.spot p x.who) ++ x :: (T.wt p).drop (T.spot p x.who)) n hp
  have h2 : restL (T.wt p) = restL ((T.wt p).take (T.spot p x.who)) + restL ((T.wt p).drop (T.spot p x.who)) := by rw [← restL_app, List.take_append_drop]
  rw [restL_app, restL_cons] at h
  unfold TS.queue
  omega
section
variable {w w1 w2 : World} {K : KP} {T T' : TS} {had : Nat → Wt → Bool} {fl fw : Int → Option Value} {vl vw : Nat → Sv} {W : Nat → List Ew} {M : Nat → Prop} {R : Ending → World → Prop}
/-- The locks of a place turned, and are put back: whatever they are then. -/
theorem StP.setLg (h : StP w K T had fl vl fw vw W) (ht : T'.wt = T.wt) {p : Nat} (hp : p < K.pl.length) (hh : ∀ q, q ≠ p → hsL T' q = hsL T q) (hf : Fm (fun b => rowOf (slV (vl p)) = some b) w w1) {u : Sv} (ho : OwnO LHd w1 K.B0 83 (slV u) (hsL T' p))
    (hr : rowOf (slV u) = rowOf (slV (vl p)) ∨ rowOf (slV u) = none ∨ ∃ g, rowOf (slV u) = some g ∧ w.heap.size ≤ g) {k : Int} (hk : k = ((K.pl[p] : Nat) : Int)) {K' : World → Prop}
    (hK : ∀ w2 fl', StpF K w w2 vl vw (updN vl p u) vw → StP w2 K T' had fl' (updN vl p u) fw vw W → K' w2) : Raw Tryz.prog (Instr.mapUpdate 77 (.map (some K.bl)) (.int .u64 k) (slV u)) w1 fun _ w2 => K' w2 := by
  subst hk
  have hrow : ∀ b, rowOf (slV (vl p)) = some b → K.B0 ≤ b ∧ IsE w 83 b := h.rl.row hp
  have hml : Mp .u64 w1 K.bl fl := h.ml.fm hf fun e => by have := (hrow _ e).1; have := h.mb.1; omega
  have hrl := h.rl.turn h.nd hp hf ho hr
  refine hml.update lkMap lkKey _ _ fun w2 m2 f2 => ?_
  have F : Fm (fun b => rowOf (slV (vl p)) = some b ∨ b = K.bl) w w2 := (hf.mono fun b _ e => .inl e).trans (f2.mono fun b _ e => .inr e)
  have lo : ∀ b, b < K.B0 → b ≠ K.bl → ¬ (rowOf (slV (vl p)) = some b ∨ b = K.bl) := fun b hb hne e => by
    rcases e with e | e
    · have := (hrow b e).1; omega
    · exact hne e
  have ne1 : ∀ b e, IsE w e b → e ≠ 83 → ¬ (rowOf (slV (vl p)) = some b ∨ b = K.bl) := fun b e hb hne k => by
    rcases k with k | k
    · exact hne (isE_one hb (hrow b k).2)
    · rw [k] at hb; exact mp_not h.ml hb
  have nw : ∀ e, ¬ IsE w1 e K.bl := fun e => mp_not hml
  refine hK w2 _ ⟨F.mono fun b _ e => ?_, fun b hb e => ?_⟩ ⟨F.blk h.tab (lo _ h.tb.1 h.tb.2.1), h.pm.keep F (fun b hb => ?_) (fun _ _ => rfl) (fun b hb => Nat.lt_of_lt_of_le (h.pm.lt b hb) F.size), h.pcc, own_fm h.plc F fun b hb => lo b (h.plb b hb).1 (h.plb b hb).2.1, h.plb, h.tb, h.mb, Nat.le_trans h.sz F.size, h.nd, h.few, h.hlt,
    m2, (hrl.fm f2 fun b _ hb e => nw _ (by rw [← e]; exact hb)).as fun q _ => ?_, h.mw.fm F (lo _ h.mb.2.1 (Ne.symm h.mb.2.2)), h.rw.fm F fun b _ hb => ne1 b _ hb (by decide), fun q hq => ?_⟩
  · rcases e with e | e
    · exact .inr (.inr (.inl ⟨p, hp, e⟩))
    · exact .inl e
  · rcases e with e | e | ⟨q, hq, e⟩ | e
    · exact .inl e
    · exact .inr (.inl e)
    · by_cases e1 : q = p
      · subst e1; rw [updN_same] at e
        rcases hr with hr | hr | ⟨g, hr, hg⟩
        · exact .inr (.inr (.inl ⟨q, hq, by rw [← hr]; exact e⟩))
        · rw [hr] at e; cases e
        · rw [hr] at e; cases e; omega
      · rw [updN_ne _ _ e1] at e; exact .inr (.inr (.inl ⟨q, hq, e⟩))
    · exact .inr (.inr (.inr e))
  · have h0 : K.o b ≠ 0 := by
      intro h0; rw [h0] at hb
      rcases hb with h1 | h1 | h1 | h1 <;> omega
    exact lo b (h.pcc b h0).1 (h.pcc b h0).2.1
  · by_cases e : q = p
    · subst e; rw [updN_same]
    · rw [updN_ne _ _ e, hh q e]
  · rw [ht]; exact (h.ws q hq).mono fun x y k => k.fm F fun b hb => ne1 b _ hb (by decide)
theorem StP.keysL (h : StP w K T had fl vl fw vw W) : ∀ k, fl k ≠ none → k ∈ K.pl.map fun x : Nat => (x : Int) := fun k hk => by
  obtain ⟨p, hp, rfl⟩ := h.rl.key k hk
  exact List.mem_map.2 ⟨_, List.getElem_mem hp, rfl⟩
theorem StP.atKeyL (h : StP w K T had fl vl fw vw W) {k : Int} {v : Value} (hk : fl k = some v) : ∃ p, ∃ hp : p < K.pl.length, k = ((K.pl[p] : Nat) : Int) ∧ v = slV (vl p) := by
  obtain ⟨p, hp, rfl⟩ := h.rl.key k (by rw [hk]; simp)
  have := h.rl.val p hp
  rw [hk] at this
  exact ⟨p, hp, rfl, this⟩
theorem StP.noKeyL (h : StP w K T had fl vl fw vw W) (hT : TI K.pl.length T) {p : Nat} (hp : p < K.pl.length) (hk : fl ((K.pl[p] : Nat) : Int) = none) (i : Nat) : T.has p i = 0 := by
  have h1 := h.rl.val p hp
  rw [hk] at h1
  have h2 := (h.rl.own p hp)
  rw [← h1] at h2
  have h3 : (Option.none : Option Value).getD (.slice none 0 0) = .slice none 0 0 := rfl
  rw [h3] at h2
  have h4 := h2.rd.1
  apply Classical.byContradiction
  intro hne
  have hmem : ((i : Int), T.has p i) ∈ hsL T p := fmL_mem.2 ⟨i, own32_mem.2 ⟨(hT.own p i hne).2.1, (hT.own p i hne).2.2.1⟩, hne, rfl⟩
  have := List.length_pos_of_mem hmem
  omega
/-- What is done behind the locks' map was gone through: the rest of 'frees'. -/
theorem dropT_calls (h : StP w K T had fl vl fw vw W) (hT : TI K.pl.length T) (who : Nat)
    (hR : ∀ w' g fl' vl', StpF K w w' vl vw vl' vw → StP w' K (T.drop who) had fl' vl' fw vw W → Blk w' g #[.int .i64 (who : Nat)] 3 → ¬ RowP K vl' vw g → w.heap.size ≤ g →
      Calls Tryz.prog 57 #[.pointer (some ⟨K.tg, 0, none⟩), .int .i64 (who : Nat)] w' (post R fun v3 w1_4 => v3 = (.tuple #[]) ∧
        ∃ (I : Option Addr → Nat → Nat → World → Prop) (m : Option Addr → Nat → Nat → World → Nat), I none 0 0 w1_4 ∧
        ∀ (done : Option Addr) (doneN : Nat) (doneC : Nat) (w1_5 : World), I done doneN doneC w1_5 → F30_l7 (some ⟨K.tg, 0, none⟩) (fun done' doneN' doneC' w2 => I done' doneN' doneC' w2 ∧ m done' doneN' doneC' w2 < m done doneN doneC w1_5) done doneN doneC w1_5 R)) :
    Calls Tryz.prog 30 #[.pointer (some ⟨K.tg, 0, none⟩), .int .i64 (who : Nat)] w R := by
  refine ok30 (some ⟨K.tg, 0, none⟩) who ?_
  unfold F30
  refine al fun g w1 hb1 b1 hge1 => ?_
  have h1 := h.keep hb1
  simp only [NonNil_some, Addr.add_mk, Nat.zero_add, h1.cells.2.2.1, LdM_some]
  refine h1.ml.range lkMap fun w2 hb2 i2 => ⟨_, rfl, ?_⟩
  have hs1 := hb1.size
  have B2 := btr hb1 hs1 hb2
  refine loopG (Body := fun L w' => F30_l2 (some ⟨K.tg, 0, none⟩) ⟨g, 0, none⟩ w1.heap.size L w' R)
    (J := fun c w' => ∃ (left : Int → Prop) (cur : Option Int) (ls : List Int) (T' : TS) (fl' : Int → Option Value) (vl' : Nat → Sv), ls.length = c ∧ (∀ k, left k → k ∈ ls) ∧ (∀ k, left k → fl' k ≠ none) ∧ Itr .u64 w' K.bl w1.heap.size fl' left cur ∧ StpF K w w' vl vw vl' vw ∧ StP w' K T' had fl' vl' fw vw W ∧ T'.wt = T.wt ∧
      (∀ p, K.pl.length ≤ p → T'.has p = T.has p) ∧ (∀ p (hp : p < K.pl.length), (left ((K.pl[p] : Nat) : Int) → T'.has p = T.has p) ∧ (¬ left ((K.pl[p] : Nat) : Int) → T'.has p = fun i => if i = who then 0 else T.has p i)) ∧ Blk w' g #[.int .i64 (who : Nat)] 3)
    (c0 := (K.pl.map fun x : Nat => (x : Int)).length)
    ⟨_, none, _, T, fl, vl, rfl, fun k hk => h.keysL k hk, fun k hk => hk, i2, .below B2, h.keep B2, rfl, fun _ _ => rfl, fun p hp => ⟨fun _ => rfl, fun hn => ?_⟩, b1.keep hb2⟩ ?_
  · have := h.noKeyL hT hp (Classical.not_not.1 hn)
    funext i; rw [this i]; split <;> rfl
  rintro c w3 ⟨left, cur, ls, T', fl', vl', rfl, hls, hlf, i3, f3, h3, hwt, hout, hin, bg⟩ L hL
  unfold F30_l2
  have hitg : w1.heap.size ≠ g := by have := b1.lt; omega
  have hgr0 : ¬ RowP K vl' vw g := fun e => by
    rcases h3.rowp e with e | e | ⟨_, e | e⟩
    · have := h.ml.lt; omega
    · have := h.mw.lt; omega
    · exact absurd (isE_one e ⟨_, bg⟩) (by decide)
    · exact absurd (isE_one e ⟨_, bg⟩) (by decide)
  refine i3.next 0 (fun hno => .inl ⟨rfl, ?_⟩) fun k v w4 hk hfk f4 i4 => .inr ⟨_, _, rfl, ?_⟩
  · have : T' = T.drop who := by
      refine TS.ext (funext fun p => ?_) hwt
      show T'.has p = fun i => if i = who then 0 else T.has p i
      rcases Nat.lt_or_ge p K.pl.length with hp | hp
      · exact (hin p hp).2 (hno _)
      · rw [hout p hp]; funext i
        by_cases e : T.has p i = 0
        · rw [e]; split <;> rfl
        · have := (hT.own p i e).1; omega
    subst this
    simp only [bg.cell, List.getElem?_toArray, List.getElem?_cons_zero, List.getElem?_cons_succ, Addr.add_mk, List.getElem?_toArray, List.getElem?_cons_zero, List.getElem?_cons_succ, LdI_some, LdB_some, LdStr_some, LdP_some, LdSl_some, LdM_some, Nat.zero_add, Br_t, Br_f]
    exact hR w3 g _ _ f3 h3 bg hgr0 hge1
  obtain ⟨p, hp, rfl, rfl⟩ := h3.atKeyL hfk
  refine i4.entry hfk ⟨_, _, _, _, rfl, ?_⟩
  have hM : ∀ b, b = w1.heap.size → K.B0 ≤ b ∧ ¬ RowP K vl' vw b ∧ ¬ IsE w3 88 b := fun b e => by
    subst e
    refine ⟨Nat.le_trans h.sz hs1, fun e => ?_, itr_not i3 _⟩
    rcases h3.rowp e with e | e | ⟨_, e | e⟩
    · exact i3.ne e.symm
    · have := h.mw.lt; omega
    · exact itr_not i3 _ e
    · exact itr_not i3 _ e
  have h4 := h3.fmR f4 hM
  have bg4 := f4.blk bg (fun e => hitg e.symm)
  have hd : Below w4.heap.size w4 w4.drew := (Below.refl _ _).drew
  have h4d := h4.keep hd
  have i4d : Itr .u64 w4.drew K.bl w1.heap.size fl' _ _ := i4.fm (M := fun _ => False) (.below hd) (fun h => h) (fun h => h)
  refine ⟨fun w' => Blk w' K.tg _ 80, h4d.tab, ?_⟩
  simp only [NonNil_some, Addr.add_mk, Nat.zero_add]
  refine ⟨_, fun w' hS => by rw [hS.cell]; rfl, ?_⟩
  have hrow : ∀ b, rowOf (slV (vl' p)) = some b → K.B0 ≤ b ∧ IsE w4.drew 83 b := h4d.rl.row hp
  have hgr : ¬ rowOf (slV (vl' p)) = some g := fun e => absurd (isE_one (hrow g e).2 ⟨_, bg4.drew⟩) (by decide)
  refine delH_calls (v := vl' p) (fun y => y.1 == ((who : Nat) : Int)) (h4d.rl.own p hp) (by have := hsL_len T' p; omega) (fun y hy w5 K' R' f5 hK => ⟨by kernel_rfl, frees1_calls (by rw [(f5.blk bg4.drew hgr).cell]; rfl) fun w6 hb6 => hK w6 hb6⟩) fun v' w5 o5 f5 r5 => ⟨_, _, _, rfl, ?_⟩
  have lo : ∀ b, b < K.B0 → ¬ rowOf (slV (vl' p)) = some b := fun b hb e => by have := (hrow b e).1; omega
  refine ⟨f5.blk h4d.tab (lo _ h.tb.1), ?_⟩
  have i5 : Itr .u64 w5 K.bl w1.heap.size fl' _ _ := i4d.fm f5 (lo _ h.mb.1) fun e => itr_not i4d _ (hrow _ e).2
  have hr5 : rowOf (slV v') = rowOf (slV (vl' p)) ∨ rowOf (slV v') = none ∨ ∃ g, rowOf (slV v') = some g ∧ w4.drew.heap.size ≤ g := by
    cases e : rowOf (slV v') with
    | none => exact .inr (.inl rfl)
    | some b => exact .inl (r5 b e).symm
  have hnew : ∀ q, hsL ⟨updN T'.has p (fun i => if i = who then 0 else T'.has p i), T'.wt⟩ q = if q = p then (hsL T' p).filter (fun y => !(y.1 == ((who : Nat) : Int))) else hsL T' q := fun q => by
    rw [hsL_fm]
    show fmL (updN T'.has p _ q) own32 = _
    by_cases e : q = p
    · subst e; rw [updN_same, if_pos rfl, fmL_drop]; rfl
    · rw [updN_ne _ _ e, if_neg e]; rfl
  have A1 := h4d.setLg (T' := ⟨updN T'.has p (fun i => if i = who then 0 else T'.has p i), T'.wt⟩) (k := ((K.pl[p] : Nat) : Int)) rfl hp (fun q hq => by rw [hnew, if_neg hq]) f5 (by rw [hnew, if_pos rfl]; exact o5) hr5 rfl (K' := fun w6 => ∃ fl6, StpF K w4.drew w6 vl' vw (updN vl' p v') vw ∧ StP w6 K ⟨updN T'.has p (fun i => if i = who then 0 else T'.has p i), T'.wt⟩ had fl6 (updN vl' p v') fw vw W) fun w6 fl6 f6 h6 => ⟨fl6, f6, h6⟩
  have A2 := i5.update lkMap lkKey ((K.pl[p] : Nat) : Int) (by rw [hfk]; simp) (slV v') (K := fun w6 => Itr .u64 w6 K.bl w1.heap.size (upd fl' ((K.pl[p] : Nat) : Int) (some (slV v'))) (fun j => left j ∧ j ≠ ((K.pl[p] : Nat) : Int)) (some ((K.pl[p] : Nat) : Int)) ∧ Fm (· = K.bl) w5 w6) fun w6 i6 f6 => ⟨i6, f6⟩
  refine raw_mono (raw_and A1 A2) ?_
  rintro _ w6 ⟨⟨fl6, f6, h6⟩, i6, q6⟩
  have efl : fl6 = upd fl' ((K.pl[p] : Nat) : Int) (some (slV v')) := mp_fun h6.ml i6.mp
  rw [efl] at h6
  refine hL w6 (ls.filter fun j => decide (j ≠ ((K.pl[p] : Nat) : Int))).length ⟨_, _, _, _, _, _, rfl, fun j hj => List.mem_filter.2 ⟨hls j hj.1, decide_eq_true hj.2⟩, fun j hj => ?_, i6, ?_, h6, hwt, fun q hq => ?_, fun q hq => ⟨fun hl => ?_, fun hl => ?_⟩, ?_⟩ ?_
  · unfold upd; rw [if_neg hj.2]; exact hlf j hj.1
  · have F4 : StpF K w w4.drew vl vw vl' vw := ⟨(f3.fm.trans' f4 fun b hb e => by have e : b = w1.heap.size := e; omega).tr hd, f3.rows⟩
    exact F4.trans f6
  · show updN T'.has p _ q = _
    rw [updN_ne _ _ (by omega)]; exact hout q hq
  · show updN T'.has p _ q = _
    have : q ≠ p := fun e => hl.2 (by subst e; rfl)
    rw [updN_ne _ _ this]; exact (hin q hq).1 hl.1
  · show updN T'.has p _ q = _
    by_cases e : q = p
    · subst e; rw [updN_same, (hin q hq).1 hk]
    · rw [updN_ne _ _ e]
      exact (hin q hq).2 fun h9 => hl ⟨h9, fun e2 => e (h.keyInj hq hp e2)⟩
  · exact q6.blk (f5.blk bg4.drew hgr) fun e => by have := h.ml.lt; omega
  · refine Nat.lt_of_le_of_ne (List.length_filter_le _ _) fun e => ?_
    have := (List.length_filter_eq_length_iff.1 e) _ (hls _ hk)
    simp at this
end
end Go.Proofs.YtfhkgnfphfmhiaaGreatDoor
/- Locks: Free. -/
namespace Go.Proofs.YtfhkgnfphfmhiaaGreatDoor
open Go.RowKit Go.Vc
set_option linter.unusedSimpArgs false
set_option maxRecDepth 100000
theorem ask_le {T : TS} {B : Nat} : ∀ n, (∀ p, p < n → restL (T.wt p) ≤ B) → T.ask n ≤ n * B
  | 0, _ => by simp [TS.ask]
  | n + 1, h => by
    have := ask_le n fun p hp => h p (by omega)
    have := h n (by omega)
    rw [ask_succ, Nat.add_mul, Nat.one_mul]; omega
theorem restL_le {l : List Wt} (h : ∀ x ∈ l, x.rest.length ≤ 1048576) : restL l ≤ l.length * 1048577 := by
  induction l with
  | nil => simp [restL]
  | cons x l ih =>
    have := ih fun y hy => h y (by simp [hy])
    have := h x (by simp)
    rw [restL_cons, List.length_cons, Nat.add_mul]; omega
theorem TI.tail {n : Nat} {T : TS} (h : TI n T) {p : Nat} {x : Wt} {l : List Wt} (hw : T.wt p = x :: l) : TI n (T.setW p l) ∧ NoW n (T.setW p l) x.who := by
  have hm : ∀ q y, y ∈ (T.setW p l).wt q → y ∈ T.wt q := fun q y hy => by
    have hy : y ∈ updN T.wt p l q := hy
    by_cases e : q = p
    · subst e; rw [updN_same] at hy; rw [hw]; exact List.mem_cons_of_mem _ hy
    · rw [updN_ne _ _ e] at hy; exact hy
  have hnd := h.nd p
  rw [hw, List.map_cons, List.nodup_cons] at hnd
  refine ⟨⟨h.own, fun q hq => ?_, fun q y hy => h.ww q y (hm q y hy), fun q r y hy z hz e => h.once q r y (hm q y hy) z (hm r z hz) e, fun q => ?_⟩, fun q hq y hy e => ?_⟩
  · show updN T.wt p l q = []
    by_cases e : q = p
    · subst e; have := h.wn q hq; rw [hw] at this; cases this
    · rw [updN_ne _ _ e]; exact h.wn q hq
  · show ((updN T.wt p l q).map _).Nodup
    by_cases e : q = p
    · subst e; rw [updN_same]; exact hnd.2
    · rw [updN_ne _ _ e]; exact h.nd q
  · have e1 : q = p := h.once q p y (hm q y hy) x (by rw [hw]; simp) e
    subst e1
    have hy : y ∈ updN T.wt q l q := hy
    rw [updN_same] at hy
    exact hnd.1 (List.mem_map.2 ⟨y, hy, e⟩)
theorem loopG4 {Body : (Option Addr → Nat → Nat → Bool → World → Prop) → Option Addr → Nat → Nat → Bool → World → Prop} (J : Nat → Option Addr → Nat → Nat → Bool → World → Prop) {c0 : Nat} {a : Option Addr} {n c : Nat} {b : Bool} {w : World} (h0 : J c0 a n c b w)
    (hs : ∀ k a1 n1 c1 b1 w1, J k a1 n1 c1 b1 w1 → ∀ L : Option Addr → Nat → Nat → Bool → World → Prop, (∀ a2 n2 c2 b2 w2 k2, J k2 a2 n2 c2 b2 w2 → k2 < k → L a2 n2 c2 b2 w2) → Body L a1 n1 c1 b1 w1) :
    ∃ (I : Option Addr → Nat → Nat → Bool → World → Prop) (m : Option Addr → Nat → Nat → Bool → World → Nat), I a n c b w ∧ ∀ a1 n1 c1 b1 w1, I a1 n1 c1 b1 w1 → Body (fun a2 n2 c2 b2 w2 => I a2 n2 c2 b2 w2 ∧ m a2 n2 c2 b2 w2 < m a1 n1 c1 b1 w1) a1 n1 c1 b1 w1 := by
  refine ⟨fun a n c b w' => ∃ k, J k a n c b w', fun a n c b w' => leastN fun k => J k a n c b w', ⟨c0, h0⟩, ?_⟩
  rintro a1 n1 c1 b1 w1 ⟨k, hk⟩
  obtain ⟨h1, h2⟩ := leastN_spec (p := fun k => J k a1 n1 c1 b1 w1) hk
  exact hs _ a1 n1 c1 b1 w1 h1 _ fun a2 n2 c2 b2 w2 k2 hj hlt => ⟨⟨k2, hj⟩, Nat.lt_of_le_of_lt ((leastN_spec (p := fun k => J k a2 n2 c2 b2 w2) hj).2 k2 hj) hlt⟩
/-- A round of letting in: the table as it is. -/
structure FrS (w0 w : World) (K : KP) (vl0 vw0 : Nat → Sv) (A0 : Nat) (T : TS) (out : List Nat) (a : Option Addr) (n c : Nat) : Prop where
  st : ∃ fl vl fw vw W, StpF K w0 w vl0 vw0 vl vw ∧ StP w K T (hdT T) fl vl fw vw W
  ti : TI K.pl.length T
  own : OwnO LI w w0.heap.size 3 (.slice a n c) (out.map fun i : Nat => (i : Int))
  few : out.length + T.ask K.pl.length ≤ A0
  sz : w0.heap.size ≤ w.heap.size
  b0 : K.B0 ≤ w0.heap.size
section
variable {w0 w w1 w2 : World} {K : KP} {T T' : TS} {had : Nat → Wt → Bool} {fl fw : Int → Option Value} {vl vw vl0 vw0 : Nat → Sv} {W : Nat → List Ew} {M : Nat → Prop} {R : Ending → World → Prop} {A0 : Nat} {out : List Nat} {a : Option Addr} {n c : Nat}
theorem StP.notRow (h : StP w K T had fl vl fw vw W) {b : Nat} {e : TypeId} (he : IsE w e b) (h1 : e ≠ 83) (h2 : e ≠ 92) : ¬ RowP K vl vw b := fun k => by
  rcases h.rowp k with k | k | ⟨_, k | k⟩
  · rw [k] at he; exact mp_not h.ml he
  · rw [k] at he; exact mp_not h.mw he
  · exact h1 (isE_one he k)
  · exact h2 (isE_one he k)
theorem FrS.keep (h : FrS w0 w K vl0 vw0 A0 T out a n c) (hb : Below w.heap.size w w1) : FrS w0 w1 K vl0 vw0 A0 T out a n c := by
  obtain ⟨⟨fl, vl, fw, vw, W, h1, h2⟩, h3, h4, h5, h6, h7⟩ := h
  exact ⟨⟨fl, vl, fw, vw, W, h1.trans (.below hb), h2.keep hb⟩, h3, h4.keep hb, h5, Nat.le_trans h6 hb.size, h7⟩
/-- The first one at a place is let in. -/
theorem frees12 (h : FrS w0 w K vl0 vw0 A0 T out a n c) (hA : A0 ≤ 4398046511104) {p : Nat} (hp : p < K.pl.length) {x : Wt} {l : List Wt} (hw : T.wt p = x :: l) (hft : T.fits x.who p x.mode = true) {L : Option Addr → Nat → Nat → Bool → World → Prop}
    (hL1 : ∀ w' T2 a' n' c', TS.walk x.who ((T.setW p l).put p x.who x.mode) x.rest = (T2, none) → T2.ask K.pl.length < T.ask K.pl.length → FrS w0 w' K vl0 vw0 A0 T2 (out ++ [x.who]) a' n' c' → L a' n' c' true w')
    (hL2 : ∀ w' T2 q y, TS.walk x.who ((T.setW p l).put p x.who x.mode) x.rest = (T2, some (q, y)) → (T2.queue q y).ask K.pl.length < T.ask K.pl.length → FrS w0 w' K vl0 vw0 A0 (T2.queue q y) out a n c → L a n c true w') :
    F30_j12 (some ⟨K.tg, 0, none⟩) ((K.pl[p] : Nat) : Int) L a n c w R := by
  obtain ⟨⟨fl, vl, fw, vw, W, f0, h0⟩, hT, ho, hfew, hsz, hb0⟩ := h
  unfold F30_j12
  have hrw := h0.rrW hT hp
  have hvn := hrw.2.1
  have hlen := (h0.ws p hp).len
  rw [hw, List.length_cons] at hlen
  have hz0 := (h0.ws p hp).get 0 (by rw [hw]; simp) (by omega)
  simp only [hw, List.getElem_cons_zero] at hz0
  have hxi := hT.ww p x (by rw [hw]; simp)
  simp only [NonNil_some, Addr.add_mk, Nat.zero_add, h0.cells.2.2.2, LdM_some]
  refine h0.lookW hp rfl ⟨_, _, _, rfl, ?_⟩
  refine hrw.2.2.idx hrw.2.1 (by omega) (by omega) rfl fun b o hc => ?_
  have c0 := hc 0 _ rfl
  have c1 := hc 1 _ rfl
  have c2 := hc 2 _ rfl
  have c3 := hc 3 _ rfl
  simp only [Nat.add_zero] at c0
  have e0 : ((0 : Int)).toNat = 0 := rfl
  simp only [e0] at c0 c1 c2 c3
  rw [hz0.who] at c0
  rw [hz0.mode] at c1
  simp only [Addr.add_mk, c0, c1, c2, c3, Addr.add_mk, List.getElem?_toArray, List.getElem?_cons_zero, List.getElem?_cons_succ, LdI_some, LdB_some, LdStr_some, LdP_some, LdSl_some, LdM_some, Nat.zero_add, Br_t, Br_f]
  refine al4 fun g w1 hb1 b1 hge1 => ?_
  have hd : Below w1.heap.size w1 w1.drew := (Below.refl _ _).drew
  have B1 := btr hb1 hb1.size hd
  have h1 := h0.keep B1
  refine ⟨fun w' => Below w1.heap.size w1 w', hd, ?_⟩
  have hc1 := h0.keep hb1
  refine ⟨_, fun w' hS => (hc1.keep hS).cells.2.2.2, ?_⟩
  refine ⟨_, fun w' hS => (hc1.keep hS).cells.2.2.2, ?_⟩
  refine h1.lookW hp rfl ⟨_, _, _, rfl, hd, ?_⟩
  have hrw1 := h1.rrW hT hp
  have hc1' := hrw1.2.2.1
  have hn1 := hrw1.2.1
  refine ⟨by omega, by omega, by omega, ?_⟩
  have e1 : ((1 : Int)).toNat = 1 := rfl
  rw [e1, Int.toNat_natCast]
  obtain ⟨y0, W', eW, hy0, hyt⟩ := show ∃ e es', W p = e :: es' ∧ WtR w1.drew K.pl (hdT T p) x e ∧ Z2 (WtR w1.drew K.pl (hdT T p)) l es' by
    have := h1.ws p hp
    rw [hw] at this
    exact this
  have hO1 := h1.rw.own p hp
  rw [eW] at hO1
  have ht := OwnO.tail (L := LWt) (x := y0) (xs := W') (by exact hO1)
  have hr : rowOf (.slice (SlA (vw p).1 (vw p).2.2 1 4) ((vw p).2.1 - 1) ((vw p).2.2 - 1)) = rowOf (slV (vw p)) ∨ rowOf (.slice (SlA (vw p).1 (vw p).2.2 1 4) ((vw p).2.1 - 1) ((vw p).2.2 - 1)) = none ∨ ∃ g, rowOf (.slice (SlA (vw p).1 (vw p).2.2 1 4) ((vw p).2.1 - 1) ((vw p).2.2 - 1)) = some g ∧ w1.drew.heap.size ≤ g := by
    cases e : rowOf (.slice (SlA (vw p).1 (vw p).2.2 1 4) ((vw p).2.1 - 1) ((vw p).2.2 - 1)) with
    | none => exact .inr (.inl rfl)
    | some b => exact .inl (ht.2 b e).symm
  obtain ⟨hT1, hno⟩ := hT.tail hw
  have b1d : Blk w1.drew g _ 92 := b1.drew
  have hng : ¬ RowP K vl vw g := fun e => by have := h0.rowlt e; omega
  have how : ∀ b, rowOf (.slice a n c) = some b → w0.heap.size ≤ b ∧ ¬ RowP K vl vw b := fun b hb => ⟨(ho.row b hb).1, h0.notRow (ho.row b hb).2 (by decide) (by decide)⟩
  refine h1.setW (u := (SlA (vw p).1 (vw p).2.2 1 4, (vw p).2.1 - 1, (vw p).2.2 - 1)) hp (.refl _ _) ht.1 hr hyt rfl fun w2 fw2 f2 h2 => ?_
  have f02 := f0.trans ((StpF.below B1).trans f2)
  have b2 := f2.fm.blk b1d hng
  simp only [b2.cell, List.getElem?_toArray, List.getElem?_cons_zero, List.getElem?_cons_succ, Addr.add_mk, List.getElem?_toArray, List.getElem?_cons_zero, List.getElem?_cons_succ, LdI_some, LdB_some, LdStr_some, LdP_some, LdSl_some, LdM_some, Nat.zero_add, Br_t, Br_f]
  have h2' : StP w2 K (T.setW p l) (hdT (T.setW p l)) fl vl fw2 _ _ := h2
  have hng2 : ¬ RowP K vl (updN vw p (SlA (vw p).1 (vw p).2.2 1 4, (vw p).2.1 - 1, (vw p).2.2 - 1)) g := fun e => hng (f2.rows g b1d.lt e)
  refine givesT_calls h2' hT1 hp (who := x.who) ⟨hxi.lo, hxi.hi⟩ (by have := hxi.m0; omega) fun w3 fl3 vl3 f3 h3 => ⟨rfl, ?_⟩
  have b3 := f3.fm.blk b2 hng2
  have hng3 : ¬ RowP K vl3 _ g := fun e => hng2 (f3.rows g b2.lt e)
  simp only [b3.cell, List.getElem?_toArray, List.getElem?_cons_zero, List.getElem?_cons_succ, Addr.add_mk, List.getElem?_toArray, List.getElem?_cons_zero, List.getElem?_cons_succ, LdI_some, LdB_some, LdStr_some, LdP_some, LdSl_some, LdM_some, Nat.zero_add, Br_t, Br_f]
  have f03 := f02.trans f3
  have hT3 := hT1.put hp ⟨hxi.lo, hxi.hi⟩ ⟨hxi.m0, hxi.m1⟩
  have h3' := h3.asHad (had' := hdT ((T.setW p l).put p x.who x.mode)) fun q hq z hz => put_hd (hno q hq z hz)
  have nst : ∀ {w' : World} {fl' fw' : Int → Option Value} {vl' vw' : Nat → Sv} {W' : Nat → List Ew} {T'' : TS} {had'' : Nat → Wt → Bool}, StP w' K T'' had'' fl' vl' fw' vw' W' → ∀ b, IsE w' 88 b → ¬ RowP K vl' vw' b := fun h b hb => h.notRow hb (by decide) (by decide)
  have hrs : RStep w3 K.pl x.rest y0.rest := ((hy0.rest.fm f2.fm (nst h1)).fm f3.fm (nst h2'))
  have eyr : (W p)[0]'(by omega) = y0 := by simp [eW]
  simp only [e0, eyr] at *
  refine takesT_calls h3' hT3 ⟨hxi.lo, hxi.hi⟩ (fun q hq z hz => hno q hq z hz) hrs hxi.st (fun w4 T2 fl4 vl4 hwk hwt f4 h4 hT4 => ⟨_, _, _, _, _, _, _, _, rfl, ?_⟩) fun w4 T2 fl4 vl4 q y vr hq hwk hwt hyw hyi hyr hrv f4 h4 hT4 => ⟨_, _, _, _, _, _, _, _, rfl, ?_⟩
  · have hask : T2.ask K.pl.length + x.rest.length + 1 = T.ask K.pl.length := by
      rw [ask_as (T' := T2) (T := T.setW p l) _ hwt]
      have := ask_setW T l K.pl.length hp
      rw [hw, restL_cons] at this; omega
    refine al4 fun g5 w5 hb5 b5 hge5 => ?_
    rw [Br_t]
    have b4 := (f4.fm.blk b3 hng3).keep hb5
    simp only [b4.cell, List.getElem?_toArray, List.getElem?_cons_zero, List.getElem?_cons_succ, Addr.add_mk, List.getElem?_toArray, List.getElem?_cons_zero, List.getElem?_cons_succ, LdI_some, LdB_some, LdStr_some, LdP_some, LdSl_some, LdM_some, Nat.zero_add, Br_t, Br_f]
    refine al fun g6 w6 hb6 b6 hge6 => ?_
    have F6 := ((f03.trans f4).trans (.below hb5)).trans (.below hb6)
    have h6 := (h4.keep hb5).keep hb6
    have o6 : OwnO LI w6 w0.heap.size 3 (.slice a n c) (out.map fun i : Nat => (i : Int)) := by
      have q1 := (ho.keep B1).fm f2.fm fun b hb => (how b hb).2
      have q2 := q1.fm f3.fm fun b hb => h2'.notRow (q1.row b hb).2 (by decide) (by decide)
      have q3 := q2.fm f4.fm fun b hb => h3'.notRow (q2.row b hb).2 (by decide) (by decide)
      exact (q3.keep hb5).keep hb6
    have hs6 : w0.heap.size ≤ w6.heap.size := F6.fm.size
    refine apO (L := LI) (ys := [((x.who : Nat) : Int)]) (base := w0.heap.size) (.int .i64 0) 8 rfl (by kernel_rfl) (by kernel_rfl) (by kernel_rfl) o6 ?_ hs6 (by simp; omega) (by simp [maxLen]; omega) fun A7 c7 w7 o7 g7 => ⟨_, _, _, rfl, ?_⟩
    · refine ⟨by simp, by simp [maxLen], fun h0 => (by cases h0), fun _ => ⟨g6, 0, rfl, fun j u hj => ?_⟩⟩
      rw [LI.all_one] at hj
      rw [b6.cell]; simpa [LI] using hj
    · have F7 : Fm (fun b => rowOf (.slice a n c) = some b) w6 w7 := Fm.grown g7.grown fun b hb => hb
      refine hL1 w7 T2 _ _ _ hwk (by omega) ⟨⟨fl4, vl4, fw2, _, _, ⟨F6.fm.trans' F7 fun b hb e => by have := (how b e).1; omega, F6.rows⟩, h6.fmR F7 fun b e => ?_⟩, hT4, by rw [List.map_append]; exact o7, by rw [List.length_append, List.length_singleton]; omega, Nat.le_trans hs6 F7.size, hb0⟩
      have he := (o6.row b e).2
      exact ⟨Nat.le_trans hb0 (o6.row b e).1, h6.notRow he (by decide) (by decide), fun e2 => absurd (isE_one e2 he) (by decide)⟩
  · have hask : (T2.queue q y).ask K.pl.length < T.ask K.pl.length := by
      rw [ask_queue T2 y hq, ask_as (T' := T2) (T := T.setW p l) _ hwt]
      have := ask_setW T l K.pl.length hp
      obtain ⟨k, hk, hkl⟩ := hyr
      rw [hw, restL_cons] at this
      have : y.rest.length < x.rest.length := by rw [hk, List.length_drop]; omega
      omega
    refine al4 fun g5 w5 hb5 b5 hge5 => ?_
    rw [Br_f]
    simp only [b5.cell, List.getElem?_toArray, List.getElem?_cons_zero, List.getElem?_cons_succ, Addr.add_mk, List.getElem?_toArray, List.getElem?_cons_zero, List.getElem?_cons_succ, LdI_some, LdB_some, LdStr_some, LdP_some, LdSl_some, LdM_some, Nat.zero_add, Br_t, Br_f]
    have hno4 : NoW K.pl.length T2 y.who := fun r hr z hz => by rw [hwt] at hz; rw [hyw]; exact hno r hr z hz
    have hTq := hT4.queue hq hyi hno4
    have hrv5 := hrv.fm (M := fun _ => False) (.below hb5) fun _ _ h => h
    have h5 := h4.keep hb5
    refine waitT_calls h5 hT4 hq hrv5 fun w6 fw6 vw6 W6 f6 h6 => ⟨rfl, ?_⟩
    have F6 := ((f03.trans f4).trans (.below hb5)).trans f6
    have o6 : OwnO LI w6 w0.heap.size 3 (.slice a n c) (out.map fun i : Nat => (i : Int)) := by
      have q1 := (ho.keep B1).fm f2.fm fun b hb => (how b hb).2
      have q2 := q1.fm f3.fm fun b hb => h2'.notRow (q1.row b hb).2 (by decide) (by decide)
      have q3 := (q2.fm f4.fm fun b hb => h3'.notRow (q2.row b hb).2 (by decide) (by decide)).keep hb5
      exact q3.fm f6.fm fun b hb => h5.notRow (q3.row b hb).2 (by decide) (by decide)
    exact hL2 w6 T2 q y hwk hask ⟨⟨fl4, vl4, fw6, vw6, W6, F6, h6⟩, hTq, o6, by omega, F6.fm.size, hb0⟩
end
end Go.Proofs.YtfhkgnfphfmhiaaGreatDoor
/- Locks: Free, its loops. -/
namespace Go.Proofs.YtfhkgnfphfmhiaaGreatDoor
open Go.RowKit Go.Vc
set_option linter.unusedSimpArgs false
set_option maxRecDepth 100000
section
variable {w0 w w1 w2 : World} {K : KP} {T T' : TS} {had : Nat → Wt → Bool} {fl fw : Int → Option Value} {vl vw vl0 vw0 : Nat → Sv} {W : Nat → List Ew} {M : Nat → Prop} {R : Ending → World → Prop} {A0 : Nat} {out : List Nat} {a : Option Addr} {n c : Nat}
theorem freesT_calls (h : StP w K T (hdT T) fl vl fw vw W) (hT : TI K.pl.length T) (who : Nat)
    (hR : ∀ (v : Sv) w' T' out fl' vl' fw' vw' W', T.free K.pl.length who = (T', out) → StpF K w w' vl vw vl' vw' → StP w' K T' (hdT T') fl' vl' fw' vw' W' → TI K.pl.length T' → OwnO LI w' w.heap.size 3 (slV v) (out.map fun i : Nat => (i : Int)) → out.length ≤ 4398046511104 → R (.returned (slV v)) w') :
    Calls Tryz.prog 30 #[.pointer (some ⟨K.tg, 0, none⟩), .int .i64 (who : Nat)] w R := by
  refine dropT_calls h hT who fun w1 g fl1 vl1 f1 h1 b1 hng hge => ?_
  refine unwaitT_calls h1 (hT.drop who) who fun w2 fw2 vw2 W2 f2 h2 => ⟨rfl, ?_⟩
  have hT2 := (hT.drop who).away who
  have h2' : StP w2 K ((T.drop who).away who) (hdT ((T.drop who).away who)) fl1 vl1 fw2 vw2 W2 := h2.asHad fun q hq x hx => by
    have hx := of_decide_eq_true (List.mem_filter.1 (show x ∈ (T.wt q).filter fun x => decide (x.who ≠ who) from hx)).2
    have e : ((T.drop who).away who).has q x.who = T.has q x.who := if_neg hx
    unfold hdT; rw [e]
  have hfree : T.free K.pl.length who = TS.freeL (((T.drop who).away who).ask K.pl.length + 1) K.pl.length (((T.drop who).away who).ask K.pl.length + 1) ((T.drop who).away who) [] := rfl
  generalize hT0 : (T.drop who).away who = T0 at hT2 h2' hfree
  have hask0 : T0.ask K.pl.length ≤ K.pl.length * 33554464 := ask_le _ fun p hp => by
    have h1 := restL_le (l := T0.wt p) fun x hx => by
      obtain ⟨i, hi, rfl⟩ := List.mem_iff_getElem.1 hx
      exact ((h2'.ws p hp).get i hi (by rw [(h2'.ws p hp).len]; exact hi)).rest.len
    have h2 := hT2.few p
    omega
  have hpl := h.few
  generalize hFe : T0.ask K.pl.length + 1 = F at hfree
  have hA : T0.ask K.pl.length ≤ 4398046511104 := by omega
  have F2 := f1.trans f2
  rw [hfree] at hR
  generalize hA0 : T0.ask K.pl.length = A0 at hA
  refine loopG3 (Body := fun L a n c w' => F30_l7 (some ⟨K.tg, 0, none⟩) L a n c w' R)
    (J := fun f a n c w' => ∃ T' out, FrS w w' K vl vw A0 T' out a n c ∧ TS.freeL F K.pl.length f T' out = TS.freeL F K.pl.length F T0 [] ∧ T'.ask K.pl.length < f ∧ f ≤ F) (c0 := F)
    ⟨T0, [], ⟨⟨_, _, _, _, _, F2, h2'⟩, hT2, .nil _ _ _ _, by simp only [List.length_nil]; omega, F2.fm.size, h.sz⟩, rfl, by omega, Nat.le_refl _⟩ ?_
  rintro f a n c w3 ⟨T', out, hF, hrun, hlt, hle⟩ L hL
  unfold F30_l7
  obtain ⟨f, rfl⟩ : ∃ f', f = f' + 1 := ⟨f - 1, by omega⟩
  rw [TS.freeL] at hrun
  have hF' := hF
  obtain ⟨⟨fl3, vl3, fw3, vw3, W3, f3, h3⟩, _, _, _, _, _⟩ := hF'
  have c1 : w3.cell? ⟨K.tg, 1, none⟩ = some (.slice K.pv.1 K.pv.2.1 K.pv.2.2) := h3.cells.2.1
  simp only [NonNil_some, Addr.add_mk, Nat.zero_add, c1, LdSl_some]
  refine ⟨fun a n c any i w' => ∃ (p : Nat) (T2 : TS) (out2 : List Nat), i = p ∧ p ≤ K.pl.length ∧ FrS w w' K vl vw A0 T2 out2 a n c ∧ TS.pass F T2 ((List.range K.pl.length).drop p) out2 any = TS.pass F T' (List.range K.pl.length) out false ∧ T2.ask K.pl.length ≤ T'.ask K.pl.length ∧ (any = true → T2.ask K.pl.length < T'.ask K.pl.length),
    fun _ _ _ _ i _ => K.pl.length - i.toNat, ⟨0, T', out, rfl, Nat.zero_le _, hF, by rw [List.drop_zero], Nat.le_refl _, fun e => by cases e⟩, ?_⟩
  rintro a1 n1 c1' any _ w4 ⟨p, T2, out2, rfl, hp, hF2, hps, hle2, hlt2⟩
  unfold F30_l9
  have hF2' := hF2
  obtain ⟨⟨fl4, vl4, fw4, vw4, W4, f4, h4⟩, _, _, _, _, _⟩ := hF2'
  have hpr := h4.plc.rd
  refine brd (fun hlt3 => ?_) (fun hge3 => ?_)
  · have hp2 : p < K.pl.length := by omega
    have hdr : (List.range K.pl.length).drop p = p :: (List.range K.pl.length).drop (p + 1) := by
      rw [List.drop_eq_getElem_cons (by simpa using hp2), List.getElem_range]
    rw [hdr, TS.pass] at hps
    refine ⟨fun a n c any' w' => ∃ (T3 : TS) (out3 : List Nat), FrS w w' K vl vw A0 T3 out3 a n c ∧ TS.look F T2 p out2 any = (T3, out3, any') ∧ T3.ask K.pl.length ≤ T2.ask K.pl.length ∧ (any' = true → T3.ask K.pl.length < T'.ask K.pl.length), ?_, ?_⟩
    · rintro a5 n5 c5 any5 w5 ⟨T3, out3, hF3, hlk, q1, q2⟩
      unfold F30_j20
      rw [hlk] at hps
      exact ⟨inR_i64 (by omega) (by omega), ⟨p + 1, T3, out3, by simp, by omega, hF3, hps, by omega, q2⟩, by first | omega | (dsimp only; omega)⟩
    refine hpr.2.hn hpr.1 rfl (k := p) hp2 fun b o c0 => ?_
    simp only [c0, LdI_some]
    refine loopG4 (Body := fun L' a n c any' w' => F30_l11 (some ⟨K.tg, 0, none⟩) _ ((K.pl[p] : Nat) : Int) L' a n c any' w' R)
      (J := fun k a n c any' w' => ∃ (T3 : TS) (out3 : List Nat), FrS w w' K vl vw A0 T3 out3 a n c ∧ TS.look k T3 p out3 any' = TS.look F T2 p out2 any ∧ T3.ask K.pl.length < k ∧ T3.ask K.pl.length ≤ T2.ask K.pl.length ∧ (any' = true → T3.ask K.pl.length < T'.ask K.pl.length)) (c0 := F)
      ⟨T2, out2, hF2, rfl, by omega, Nat.le_refl _, hlt2⟩ ?_
    rintro k a5 n5 c5 any5 w5 ⟨T3, out3, hF3, hlk, hk, q1, q2⟩ L' hL'
    unfold F30_l11
    obtain ⟨k, rfl⟩ : ∃ k', k = k' + 1 := ⟨k - 1, by omega⟩
    rw [TS.look] at hlk
    refine ⟨fun w' => FrS w w' K vl vw A0 T3 out3 a5 n5 c5 ∧ ∃ x l, T3.wt p = x :: l ∧ T3.fits x.who p x.mode = true, ?_, ?_⟩
    · rintro w6 ⟨hF6, x, l, hwx, hft⟩
      rw [hwx] at hlk
      dsimp only at hlk
      rw [if_pos hft] at hlk
      refine frees12 hF6 (by omega) hp2 hwx hft (fun w' T4 a' n' c' hwk hask hF7 => hL' _ _ _ true w' k ⟨T4, out3 ++ [x.who], hF7, ?_, by omega, by omega, fun _ => by omega⟩ (by omega)) fun w' T4 q y hwk hask hF7 => hL' _ _ _ true w' k ⟨T4.queue q y, out3, hF7, ?_, by omega, by omega, fun _ => by omega⟩ (by omega)
      · rw [hwk] at hlk; exact hlk
      · rw [hwk] at hlk; exact hlk
    · have hF3' := hF3
      obtain ⟨⟨fl5, vl5, fw5, vw5, W5, f5, h5⟩, hT3, _, _, _, _⟩ := hF3'
      have hd : Below w5.heap.size w5 w5.drew := (Below.refl _ _).drew
      have h5d := h5.keep hd
      refine ⟨fun w' => Below w5.heap.size w5 w', hd, ?_⟩
      simp only [NonNil_some, Addr.add_mk, Nat.zero_add]
      refine ⟨_, fun w' hS => (h5.keep hS).cells.2.2.2, ?_⟩
      refine h5d.lookW hp2 rfl ⟨_, _, _, rfl, hd, ?_⟩
      have hrw := h5.rrW hT3 hp2
      have hvn := hrw.2.1
      have hlen := (h5.ws p hp2).len
      refine brd (fun hgt => ?_) (fun hgt => ?_)
      · obtain ⟨x, l, hwx⟩ : ∃ x l, T3.wt p = x :: l := by
          cases e : T3.wt p with
          | nil => rw [e] at hlen; simp only [List.length_nil] at hlen; omega
          | cons x l => exact ⟨x, l, rfl⟩
        have hz0 := (h5.ws p hp2).get 0 (by rw [hwx]; simp) (by omega)
        simp only [hwx, List.getElem_cons_zero] at hz0
        have hxi := hT3.ww p x (by rw [hwx]; simp)
        rw [hwx] at hlk
        dsimp only at hlk
        have hfin : ∀ w', Below w5.drew.heap.size w5.drew w' → Br (T3.fits x.who p x.mode) (FrS w w' K vl vw A0 T3 out3 a5 n5 c5 ∧ ∃ x l, T3.wt p = x :: l ∧ T3.fits x.who p x.mode = true) (∃ (T3' : TS) (out3' : List Nat), FrS w w' K vl vw A0 T3' out3' a5 n5 c5 ∧ TS.look F T2 p out2 any = (T3', out3', any5) ∧ T3'.ask K.pl.length ≤ T2.ask K.pl.length ∧ (any5 = true → T3'.ask K.pl.length < T'.ask K.pl.length)) := fun w' hb => by
          have hF7 := hF3.keep (btr hd hd.size hb)
          refine br (fun hft => ⟨hF7, x, l, hwx, hft⟩) (fun hft => ⟨T3, out3, hF7, ?_, q1, q2⟩)
          rw [if_neg (by rw [hft]; decide)] at hlk
          exact hlk.symm
        have hidx : ∀ {Q : Addr → Prop}, (∀ b o, w5.cell? ⟨b, o, none⟩ = some (.int .i64 x.who) → w5.cell? ⟨b, o + 1, none⟩ = some (.int .i64 x.mode) → Q ⟨b, o, none⟩) → IdxA (vw5 p).1 (vw5 p).2.1 (0 : Int) 4 Q := fun hQ => by
          refine hrw.2.2.idx hvn (by omega) (by omega) rfl fun b o hc => ?_
          have c0 := hc 0 _ rfl
          have c1 := hc 1 _ rfl
          simp only [Nat.add_zero] at c0
          have e0 : ((0 : Int)).toNat = 0 := rfl
          simp only [e0] at c0 c1
          rw [hz0.who] at c0
          rw [hz0.mode] at c1
          exact hQ b o c0 c1
        refine ⟨_, fun w' hS => (h5.keep hS).cells.2.2.2, _, fun w' hS => (h5.keep hS).cells.2.2.2, ?_, ?_⟩
        · refine h5d.lookW hp2 rfl ⟨_, _, _, rfl, hd, ?_⟩
          refine hidx fun b o e1 e2 => ?_
          refine ⟨_, fun w' hS => kcell hS e1, ?_⟩
          refine h5d.lookW hp2 rfl ⟨_, _, _, rfl, hd, ?_⟩
          refine hidx fun b o e1 e2 => ?_
          simp only [Addr.add_mk]
          refine ⟨_, fun w' hS => kcell hS e2, ?_⟩
          exact freeT_calls h5d hT3 hp2 x.who ⟨hxi.m0, hxi.m1⟩ fun w' hb => ⟨_, rfl, hfin w' hb⟩
        · refine h5d.lookW hp2 rfl ⟨_, _, _, rfl, hd, ?_⟩
          refine hidx fun b o e1 e2 => ?_
          simp only [Addr.add_mk]
          refine ⟨_, fun w' hS => kcell hS e2, ?_⟩
          refine h5d.lookW hp2 rfl ⟨_, _, _, rfl, hd, ?_⟩
          refine hidx fun b o e1 e2 => ?_
          refine ⟨_, fun w' hS => kcell hS e1, ?_⟩
          exact freeT_calls h5d hT3 hp2 x.who ⟨hxi.m0, hxi.m1⟩ fun w' hb => ⟨_, rfl, hfin w' hb⟩
      · have hem : T3.wt p = [] := List.eq_nil_of_length_eq_zero (by omega)
        rw [hem] at hlk
        have hj : ∃ (T3' : TS) (out3' : List Nat), FrS w w5.drew K vl vw A0 T3' out3' a5 n5 c5 ∧ TS.look F T2 p out2 any = (T3', out3', any5) ∧ T3'.ask K.pl.length ≤ T2.ask K.pl.length ∧ (any5 = true → T3'.ask K.pl.length < T'.ask K.pl.length) := ⟨T3, out3, hF3.keep hd, hlk.symm, q1, q2⟩
        exact ⟨hj, hj⟩
  · have hp2 : p = K.pl.length := by omega
    subst hp2
    rw [List.drop_of_length_le (by simp), TS.pass] at hps
    rw [← hps] at hrun
    cases any with
    | true =>
      rw [Bool.not_true, Br_f]
      have := hlt2 rfl
      exact hL _ _ _ w4 f ⟨T2, out2, hF2, hrun, by omega, by omega⟩ (by omega)
    | false =>
      rw [Bool.not_false, Br_t]
      have hfew := hF2.few
      exact hR (a1, n1, c1') w4 T2 out2 _ _ _ _ _ hrun.symm f4 h4 hF2.ti hF2.own (by omega)
end
end Go.Proofs.YtfhkgnfphfmhiaaGreatDoor
/- Locks: New. -/
namespace Go.Proofs.YtfhkgnfphfmhiaaGreatDoor
open Go.RowKit Go.Vc
set_option linter.unusedSimpArgs false
set_option maxRecDepth 100000
def TS0 : TS := ⟨fun _ _ => 0, fun _ => []⟩
theorem ti0 (n : Nat) : TI n TS0 := ⟨fun p i h => absurd rfl h, fun _ _ => rfl, fun p x hx => (by cases hx), fun p q x hx => (by cases hx), fun _ => List.nodup_nil⟩
theorem hsL0 (p : Nat) : hsL TS0 p = [] := by
  unfold hsL TS0
  rw [List.filter_eq_nil_iff.2 fun i _ => by simp]; rfl
theorem alM {w : World} (q : IntKind) {K : Nat → World → Prop} (h : ∀ r w1, Below w.heap.size w w1 → Mp q w1 r (fun _ => none) → r = w.heap.size → w1.heap.size = w.heap.size + 1 → K r w1) : AlM w K :=
  h _ _ ((Below.refl _ _).alloc (Nat.le_refl _) _) (Mp.made w q) rfl (by simp)
section
variable {w w1 w2 : World} {R : Ending → World → Prop} {o o0 : Nat → Nat} {θ : Th} {S : PS}
theorem PM.hlt (h : PM w o θ S) {x : Nat} {s : Sl} (hx : slA S.D.sl x = some s) : x < 18446744073709551616 := by
  obtain ⟨i, i1, i2, i3, i4⟩ := h.of hx
  have hgen := (h.rng s (List.mem_of_getElem? i3)).gen
  have hfew := h.few
  obtain ⟨k, k1, k2, k3, k4⟩ := slA_iff.1 hx
  have := (List.getElem?_eq_some_iff.1 k2).1
  unfold hnd at k4; omega
theorem begun_calls (hP : PM w o0 θ S) (hS : WfS S.D.sl) (hA : WfA (slA S.D.sl) S.D.roots [])
    (hR : ∀ w' K, Below w.heap.size w w' → StP w' K TS0 (hdT TS0) (fun _ => none) (fun _ => (none, 0, 0)) (fun _ => none) (fun _ => (none, 0, 0)) (fun _ => []) → KD K → K.S.D = S.D → w.heap.size ≤ K.tg ∧ w.heap.size ≤ K.bl ∧ w.heap.size ≤ K.bw ∧ (∀ b, K.o b ≠ 0 → w.heap.size ≤ b) ∧ w.heap.size ≤ K.B0 ∧ (∀ b, rowOf (slV K.pv) = some b → w.heap.size ≤ b) → R (.returned (.tuple #[.pointer (some ⟨K.tg, 0, none⟩), .int .i64 0])) w') :
    Calls Tryz.prog 42 #[.pointer (some ⟨θ.g, 0, none⟩)] w R := by
  refine ok42 (some ⟨θ.g, 0, none⟩) ?_
  unfold F42
  rw [Option.isNone_some, Br_f]
  refine Clone_calls hP fun gc bs o' w1 hb1 hp1 hcol => ⟨_, rfl, ?_⟩
  have hs1 := hb1.size
  refine alM .u64 fun r1 wa hba hma hr1 hsa => alM .u64 fun r2 wb hbb hmb hr2 hsb => ?_
  subst hr1 hr2
  refine al fun gt w4 hb4 b4 hge4 => ?_
  have hs4 := hb4.size
  have B4 : Below w1.heap.size w1 w4 := btr (btr hba hba.size hbb) (by omega) hb4
  have hp4 : PM w4 o' ⟨gc, 67, []⟩ ⟨S.D, bs, S.lv, S.wn, S.lo⟩ := hp1.below B4
  have hma4 : Mp .u64 w4 w1.heap.size fun _ => none := (hma.fm (M := fun _ => False) (.below hbb) fun h => h).fm (M := fun _ => False) (.below hb4) fun h => h
  have hmb4 : Mp .u64 w4 wa.heap.size fun _ => none := hmb.fm (M := fun _ => False) (.below hb4) fun h => h
  simp only [b4.cell, List.getElem?_toArray, List.getElem?_cons_zero, List.getElem?_cons_succ, Addr.add_mk, List.getElem?_toArray, List.getElem?_cons_zero, List.getElem?_cons_succ, LdI_some, LdB_some, LdStr_some, LdP_some, LdSl_some, LdM_some, Nat.zero_add, Br_t, Br_f]
  refine All0T_calls (θ := ⟨gc, 67, []⟩) (S := ⟨S.D, bs, S.lv, S.wn, S.lo⟩) hp4 hS hA fun v w5 hb5 ov => ⟨v.1, v.2.1, v.2.2, 0, rfl, ?_⟩
  have hs5 := hb5.size
  refine al fun g6 w6 hb6 b6 hge6 => ?_
  have hs6 := hb6.size
  have hfew : (allR' S.D).length ≤ 4096 := rootsAll_few hS hA
  have ov : Own LHn w5 w4.heap.size 41 (slV v) (allR' S.D) := ov
  have hrd := (ov.keep hb6).rd
  refine ap (L := LHn) (xs := [0]) (ys := allR' S.D) (base := w5.heap.size) (.int .u64 0) 8 hrd.1 (by kernel_rfl) (by kernel_rfl) (by kernel_rfl) (Own.lit' (L := LHn) (xs := [0]) b6 hge6 (by rw [LHn.all_one]; rfl) (by simp [maxLen])) hrd.2 hs6 (by rw [List.length_singleton]; omega) (by rw [List.length_singleton]; unfold maxLen; omega) fun A7 c7 w7 o7 g7 => ⟨_, _, _, rfl, ?_⟩
  have B7 : Below w5.heap.size w5 w7 := hb6.trans g7.below
  have B47 := btr hb5 hs5 B7
  have b7 := b4.keep B47
  refine st_blk (g := gt) (i := 1) b7 (by simp) fun w8 b8 f8 => ?_
  simp only [List.setIfInBounds_toArray, List.set_cons_zero, List.set_cons_succ] at b8
  have hs7 : w4.heap.size ≤ w7.heap.size := B47.size
  have hs8 := f8.size
  have hgt : gt < w4.heap.size := b4.lt
  have hplt : ∀ b, o' b ≠ 0 → b < w1.heap.size := fun b hb => hp1.lt b hb
  have F8 : Fm (· = gt) w4 w8 := (Fm.below B47).trans f8
  have hp8 : PM w8 o' ⟨gc, 67, []⟩ ⟨S.D, bs, S.lv, S.wn, S.lo⟩ := hp4.keep F8 (fun b hb e => by
    have e : b = gt := e
    have h0 : o' b ≠ 0 := by
      intro h0; rw [h0] at hb
      rcases hb with h1 | h1 | h1 | h1 <;> omega
    have := hplt b h0; omega) (fun _ _ => rfl) (fun b hb => by have := hplt b hb; omega)
  have o8 : Own LHn w8 w5.heap.size 41 (.slice A7 ([0].length + (allR' S.D).length) c7) ([0] ++ allR' S.D) := own_fm o7 f8 fun b hb e => by
    have e : b = gt := e
    have := (o7.lt b hb).1; omega
  have hm8 : Mp .u64 w8 w1.heap.size fun _ => none := hma4.fm F8 fun e => by have e : w1.heap.size = gt := e; omega
  have hn8 : Mp .u64 w8 wa.heap.size fun _ => none := hmb4.fm F8 fun e => by have e : wa.heap.size = gt := e; omega
  have hpl : ([0] ++ allR' S.D : List Nat) = 0 :: allR' S.D := rfl
  have hBel : Below w.heap.size w w8 := btr hb1 hs1 (B4.trans (F8.toBelow B4.size fun b hb e => by have e : b = gt := e; omega))
  have hrw8 := fun b hb => (o8.lt b hb)
  refine hR w8 ⟨gt, w1.heap.size, wa.heap.size, w8.heap.size, 0 :: allR' S.D, (A7, [0].length + (allR' S.D).length, c7), o', ⟨gc, 67, []⟩, ⟨S.D, bs, S.lv, S.wn, S.lo⟩⟩ hBel
    ⟨b8, hp8, fun b hb => ?_, o8.rebase fun _ _ => Nat.zero_le _, fun b hb => ?_, ?_, ?_, Nat.le_refl _, ?_, ?_, fun x hx => ?_, hm8, ?_, hn8, ?_, fun p hp => rfl⟩ ⟨hS, hA, rfl⟩ rfl ⟨?_, ?_, ?_, fun b hb => ?_, ?_, fun b hb => ?_⟩
  · dsimp only; have := hplt b hb; omega
  · have := hrw8 b hb; dsimp only; omega
  · dsimp only; omega
  · dsimp only; omega
  · show (0 :: allR' S.D).Nodup
    rw [List.nodup_cons]
    refine ⟨fun h0 => ?_, rootsAll_nodup hA⟩
    obtain ⟨s, hs⟩ := (mem_all_roots hA).1 h0
    exact hA.ne0 hs rfl
  · show (0 :: allR' S.D).length ≤ 4097
    rw [List.length_cons]; omega
  · rcases List.mem_cons.1 hx with rfl | hx
    · decide
    · obtain ⟨s, hs⟩ := (mem_all_roots hA).1 hx
      exact hp4.hlt (S := ⟨S.D, bs, S.lv, S.wn, S.lo⟩) hs
  · exact ⟨fun k hk => absurd rfl hk, fun p hp => rfl, fun p hp => by rw [hsL0]; exact .nil _ _ _ _, fun p q _ _ _ => .inl rfl⟩
  · exact ⟨fun k hk => absurd rfl hk, fun p hp => rfl, fun p hp => .nil _ _ _ _, fun p q _ _ _ => .inl rfl⟩
  · dsimp only; omega
  · dsimp only; omega
  · dsimp only; omega
  · exact hcol b hb
  · dsimp only; omega
  · have := hrw8 b hb; omega
theorem New_calls (hP : PM w o0 θ S) (hS : WfS S.D.sl) (hA : WfA (slA S.D.sl) S.D.roots [])
    (hR : ∀ w' K, Below w.heap.size w w' → StP w' K TS0 (hdT TS0) (fun _ => none) (fun _ => (none, 0, 0)) (fun _ => none) (fun _ => (none, 0, 0)) (fun _ => []) → KD K → K.S.D = S.D → w.heap.size ≤ K.tg ∧ w.heap.size ≤ K.bl ∧ w.heap.size ≤ K.bw ∧ (∀ b, K.o b ≠ 0 → w.heap.size ≤ b) ∧ w.heap.size ≤ K.B0 ∧ (∀ b, rowOf (slV K.pv) = some b → w.heap.size ≤ b) → R (.returned (.tuple #[.pointer (some ⟨K.tg, 0, none⟩), .int .i64 0])) w') :
    Calls Tryz.prog 20 #[.pointer (some ⟨θ.g, 0, none⟩)] w R := by
  refine ok20 (some ⟨θ.g, 0, none⟩) ?_
  unfold F20
  exact begun_calls hP hS hA fun w' K h1 h2 h3 h4 h5 => ⟨_, _, rfl, hR w' K h1 h2 h3 h4 h5⟩
end
end Go.Proofs.YtfhkgnfphfmhiaaGreatDoor
/- Locks: May, Lock, Free, as they are called. -/
namespace Go.Proofs.YtfhkgnfphfmhiaaGreatDoor
open Go.RowKit Go.Vc
set_option linter.unusedSimpArgs false
set_option maxRecDepth 100000
def mayP (T : TS) (who : Nat) (change : Bool) (s : Nat × Int) : Bool := decide (T.has s.1 who = 5) || (!change && (decide (T.has s.1 who = 3) || decide (T.has s.1 who = 4)))
def mayF (K : KP) (T : TS) (who : Int) (n : Nat) (change : Bool) : Bool × Int := if askF K who n = 0 then ((stepsI K n 1).any (mayP T who.toNat change), 0) else (false, askF K who n)
def freeF (K : KP) (T : TS) (who : Int) : TS × List Nat × Int := if 1 ≤ who ∧ who ≤ 32 then ((T.free K.pl.length who.toNat).1, (T.free K.pl.length who.toNat).2, 0) else (T, [], 1)
section
variable {w w1 w2 : World} {K : KP} {T : TS} {had : Nat → Wt → Bool} {fl fw : Int → Option Value} {vl vw : Nat → Sv} {W : Nat → List Ew} {M : Nat → Prop} {R : Ending → World → Prop}
theorem askF_zero {who : Int} {n : Nat} (h : askF K who n = 0) : (1 ≤ who ∧ who ≤ 32) ∧ n ∈ K.pl := by
  unfold askF at h
  split at h
  · rename_i h1
    split at h
    · rename_i h2; exact ⟨h1, h2⟩
    · exact absurd h (by decide)
  · exact absurd h (by decide)
theorem mayT_calls (h : StP w K T had fl vl fw vw W) (hT : TI K.pl.length T) (hD : KD K) (who : Int) {n : Nat} (hn : n < 18446744073709551616) (change : Bool)
    (hR : ∀ w', Below w.heap.size w w' → R (.returned (.tuple #[.bool (mayF K T who n change).1, .int .i64 (mayF K T who n change).2])) w') :
    Calls Tryz.prog 13 #[.pointer (some ⟨K.tg, 0, none⟩), .int .i64 who, .int .u64 (n : Nat), .bool change] w R := by
  refine ok13 (some ⟨K.tg, 0, none⟩) who n change ?_
  unfold F13
  refine asksT_calls h hD who hn fun w1 hb1 => ⟨_, rfl, ?_⟩
  refine brn (fun hne => ?_) (fun he => ?_)
  · have e : mayF K T who n change = (false, askF K who n) := by unfold mayF; rw [if_neg hne]
    rw [e] at hR; exact hR w1 hb1
  obtain ⟨hw, hin⟩ := askF_zero he
  obtain ⟨wh, rfl⟩ : ∃ wh : Nat, who = wh := ⟨who.toNat, by omega⟩
  have e : mayF K T (wh : Nat) n change = ((stepsI K n 1).any (mayP T wh change), 0) := by unfold mayF; rw [if_pos he]; rfl
  rw [e] at hR
  dsimp only at hR
  have h1 := h.keep hb1
  have hs1 := hb1.size
  refine stepsT_calls h1 hD hin fun v w2 hb2 o2 => ⟨_, _, _, rfl, ?_⟩
  have B2 := btr hb1 hs1 hb2
  obtain ⟨hsl, _, hmem⟩ := stepsH_mem hD hin (mode := 1) (by omega)
  have hIl : (stepsI K n 1).length = (stepsH (slA K.S.D.sl) n 1).length := by unfold stepsI; rw [List.length_map]
  have hvn := o2.rd.1
  refine ⟨fun i w' => ∃ k : Nat, i = k ∧ k ≤ (stepsI K n 1).length ∧ Below w2.heap.size w2 w' ∧ ((stepsI K n 1).drop k).any (mayP T wh change) = (stepsI K n 1).any (mayP T wh change), fun i _ => (stepsI K n 1).length - i.toNat, ⟨0, rfl, by omega, Below.refl _ _, by simp⟩, ?_⟩
  rintro _ w3 ⟨k, rfl, hk, B3, hany⟩
  unfold F13_l5
  refine brd (fun hlt => ?_) (fun hge => ?_)
  · have hk2 : k < (stepsI K n 1).length := by omega
    have hk3 : k < (stepsH (slA K.S.D.sl) n 1).length := by omega
    rw [List.drop_eq_getElem_cons hk2, List.any_cons] at hany
    have hel : (stepsI K n 1)[k] = (K.pl.idxOf (stepsH (slA K.S.D.sl) n 1)[k].1, (stepsH (slA K.S.D.sl) n 1)[k].2) := by simp only [stepsI, List.getElem_map]
    have hip := (hmem _ (List.getElem_mem hk3)).1
    have hix := List.idxOf_lt_length_iff.2 hip
    have hpe : K.pl[K.pl.idxOf (stepsH (slA K.S.D.sl) n 1)[k].1] = (stepsH (slA K.S.D.sl) n 1)[k].1 := List.getElem_idxOf hix
    refine ⟨fun w' => Below w2.heap.size w2 w' ∧ mayP T wh change (stepsI K n 1)[k] = false, ?_, ?_⟩
    · rintro w4 ⟨B4, hf⟩
      unfold F13_j14
      rw [hf, Bool.false_or] at hany
      exact ⟨inR_i64 (by omega) (by omega), ⟨k + 1, by simp, by omega, B4, hany⟩, by first | omega | (dsimp only; omega)⟩
    refine (o2.keep B3).rd.2.idx hvn (by omega) (by omega) rfl fun b o hc => ?_
    simp only [Int.toNat_natCast] at hc
    have c0 := hc 0 _ rfl
    have c1 := hc 1 _ rfl
    simp only [Nat.add_zero] at c0
    simp only [Addr.add_mk, c0, c1, Addr.add_mk, List.getElem?_toArray, List.getElem?_cons_zero, List.getElem?_cons_succ, LdI_some, LdB_some, LdStr_some, LdP_some, LdSl_some, LdM_some, Nat.zero_add, Br_t, Br_f]
    refine al2 fun g w4 hb4 b4 hge4 => ?_
    simp only [Addr.add_mk, b4.cell, List.getElem?_toArray, List.getElem?_cons_zero, List.getElem?_cons_succ, Addr.add_mk, List.getElem?_toArray, List.getElem?_cons_zero, List.getElem?_cons_succ, LdI_some, LdB_some, LdStr_some, LdP_some, LdSl_some, LdM_some, Nat.zero_add, Br_t, Br_f]
    have B4 := btr B3 B3.size hb4
    have h4 := (h1.keep hb2).keep B4
    have hh := hasT_calls (R := post R fun v w1_6 => ∃ (x32 : Int), v = (.int .i64 x32) ∧ Br (x32 == (5 : Int)) (R (.returned (.tuple #[(.bool true), (.int .i64 0)])) w1_6) (Br (x32 == (3 : Int)) (Br (x32 == (3 : Int)) (Br (!change) (R (.returned (.tuple #[(.bool true), (.int .i64 0)])) w1_6) (Below w2.heap.size w2 w1_6 ∧ mayP T wh change (stepsI K n 1)[k] = false)) (Below w2.heap.size w2 w1_6 ∧ mayP T wh change (stepsI K n 1)[k] = false)) (Br (x32 == (4 : Int)) (Br (!change) (R (.returned (.tuple #[(.bool true), (.int .i64 0)])) w1_6) (Below w2.heap.size w2 w1_6 ∧ mayP T wh change (stepsI K n 1)[k] = false)) (Below w2.heap.size w2 w1_6 ∧ mayP T wh change (stepsI K n 1)[k] = false)))) h4 hT hix wh fun w5 hb5 => ⟨_, rfl, ?_⟩
    · rw [hpe] at hh; exact hh
    have B5 := btr B4 B4.size hb5
    have BB := btr B2 B2.size B5
    have hm : mayP T wh change (stepsI K n 1)[k] = (decide (T.has (K.pl.idxOf (stepsH (slA K.S.D.sl) n 1)[k].1) wh = 5) || (!change && (decide (T.has (K.pl.idxOf (stepsH (slA K.S.D.sl) n 1)[k].1) wh = 3) || decide (T.has (K.pl.idxOf (stepsH (slA K.S.D.sl) n 1)[k].1) wh = 4)))) := by unfold mayP; rw [hel]
    rw [hm] at hany ⊢
    generalize T.has (K.pl.idxOf (stepsH (slA K.S.D.sl) n 1)[k].1) wh = m at hany ⊢
    have hyes : (decide (m = 5) || (!change && (decide (m = 3) || decide (m = 4)))) = true → R (.returned (.tuple #[(.bool true), (.int .i64 0)])) w5 := fun e => by
      rw [e, Bool.true_or] at hany
      rw [← hany] at hR; exact hR w5 BB
    refine bre (fun e => hyes (by simp [e])) (fun e5 => bre (fun e3 => bre (fun _ => ?_) (fun e => absurd e3 e)) (fun e3 => bre (fun e4 => ?_) (fun e4 => ⟨B5, by simp [e5, e3, e4]⟩)))
    · exact br (fun hc => hyes (by rw [hc, e3]; rfl)) (fun hc => ⟨B5, by rw [hc, decide_eq_false e5]; rfl⟩)
    · exact br (fun hc => hyes (by rw [hc, e4]; rfl)) (fun hc => ⟨B5, by rw [hc, decide_eq_false e5]; rfl⟩)
  · have hk2 : k = (stepsI K n 1).length := by omega
    rw [hk2, List.drop_length, List.any_nil] at hany
    rw [← hany] at hR
    exact hR w3 (btr B2 B2.size B3)
theorem LockT_calls (h : StP w K T (hdT T) fl vl fw vw W) (hT : TI K.pl.length T) (hD : KD K) (who : Int) {n : Nat} (hn : n < 18446744073709551616) (mode : Int)
    (hR : ∀ w' T' fl' vl' fw' vw' W' (e : Int), lockF K T who n mode = (T', e) → StpF K w w' vl vw vl' vw' → StP w' K T' (hdT T') fl' vl' fw' vw' W' → TI K.pl.length T' → R (.returned (.int .i64 e)) w') :
    Calls Tryz.prog 15 #[.pointer (some ⟨K.tg, 0, none⟩), .int .i64 who, .int .u64 (n : Nat), .int .i64 mode] w R := by
  refine ok15 (some ⟨K.tg, 0, none⟩) who n mode ?_
  unfold F15
  exact lock1T_calls h hT hD who hn mode fun w' T' fl' vl' fw' vw' W' e h1 h2 h3 h4 => ⟨_, rfl, hR w' T' fl' vl' fw' vw' W' e h1 h2 h3 h4⟩
theorem FreeT_calls (h : StP w K T (hdT T) fl vl fw vw W) (hT : TI K.pl.length T) (who : Int)
    (hR : ∀ (v : Sv) w' T' out e fl' vl' fw' vw' W', freeF K T who = (T', out, e) → StpF K w w' vl vw vl' vw' → StP w' K T' (hdT T') fl' vl' fw' vw' W' → TI K.pl.length T' → OwnO LI w' w.heap.size 3 (slV v) (out.map fun i : Nat => (i : Int)) → out.length ≤ 4398046511104 → R (.returned (.tuple #[slV v, .int .i64 e])) w') :
    Calls Tryz.prog 14 #[.pointer (some ⟨K.tg, 0, none⟩), .int .i64 who] w R := by
  refine ok14 (some ⟨K.tg, 0, none⟩) who ?_
  unfold F14
  have bad : ¬ (1 ≤ who ∧ who ≤ 32) → R (.returned (.tuple #[.slice none 0 0, .int .i64 1])) w := fun hb => hR (none, 0, 0) w T [] 1 fl vl fw vw W (by unfold freeF; rw [if_neg hb]) (.refl _ _ _ _) h hT (.nil _ _ _ _) (by simp)
  refine ⟨fun w' => w = w' ∧ 1 ≤ who ∧ who ≤ 32, ?_, brd (fun _ => bad (by omega)) fun h1 => brd (fun _ => bad (by omega)) fun h2 => ⟨rfl, by omega, by omega⟩⟩
  rintro _ ⟨rfl, g1, g2⟩
  unfold F14_j3
  obtain ⟨wh, rfl⟩ : ∃ wh : Nat, who = wh := ⟨who.toNat, by omega⟩
  exact freesT_calls h hT wh fun v w' T' out fl' vl' fw' vw' W' hfr hF hS hTi hO hl => ⟨_, _, _, rfl, hR v w' T' out 0 fl' vl' fw' vw' W' (by unfold freeF; rw [if_pos ⟨g1, g2⟩, Int.toNat_natCast, hfr]) hF hS hTi hO hl⟩
end
end Go.Proofs.YtfhkgnfphfmhiaaGreatDoor
/- Documents of the reference: how many nodes. -/
namespace Go.Proofs.YtfhkgnfphfmhiaaGreatDoor
open Go.RowKit Go.Vc
set_option linter.unusedSimpArgs false
set_option maxRecDepth 100000
section
variable {w w1 : World} {g : Nat} {D : Im} {vs vr : Sv}
end
end Go.Proofs.YtfhkgnfphfmhiaaGreatDoor
set_option maxRecDepth 100000
namespace Go.Proofs.YtfhkgnfphfmhiaaGreatDoor
open Go.Vc
-- espalierlaw03.CopiedImage
end Go.Proofs.YtfhkgnfphfmhiaaGreatDoor
/- Documents: an image's copy. -/
namespace Go.Proofs.YtfhkgnfphfmhiaaGreatDoor
open Go.RowKit Go.Vc
set_option linter.unusedSimpArgs false
end Go.Proofs.YtfhkgnfphfmhiaaGreatDoor
/- Documents of the reference: Load. -/
namespace Go.Proofs.YtfhkgnfphfmhiaaGreatDoor
open Go.RowKit Go.Vc
set_option linter.unusedSimpArgs false
end Go.Proofs.YtfhkgnfphfmhiaaGreatDoor
/- Documents of the program: a node of a slot. -/
namespace Go.Proofs.YtfhkgnfphfmhiaaGreatDoor
open Go.RowKit Go.Vc
set_option linter.unusedSimpArgs false
end Go.Proofs.YtfhkgnfphfmhiaaGreatDoor
/- Documents of the program: a node of a slot, its attributes in a row of its own. -/
namespace Go.Proofs.YtfhkgnfphfmhiaaGreatDoor
open Go.RowKit Go.Vc
set_option linter.unusedSimpArgs false
end Go.Proofs.YtfhkgnfphfmhiaaGreatDoor
/- Documents of the program: a node of an image is put down. -/
namespace Go.Proofs.YtfhkgnfphfmhiaaGreatDoor
open Go.RowKit Go.Vc
set_option linter.unusedSimpArgs false
section
variable {w w1 w2 : World} {o o1 : Nat → Nat} {θ : Th} {S : PS} {M : Nat → Prop} {bs : List Nat}
end
end Go.Proofs.YtfhkgnfphfmhiaaGreatDoor
/- Documents: what an image is that can be loaded, in plain: it hangs together. -/
namespace Go.Proofs.YtfhkgnfphfmhiaaGreatDoor
open Go.RowKit Go.Vc
set_option linter.unusedSimpArgs false
--PURE
end Go.Proofs.YtfhkgnfphfmhiaaGreatDoor
/- Documents of the program: the nodes of an image are hung together. -/
namespace Go.Proofs.YtfhkgnfphfmhiaaGreatDoor
open Go.RowKit Go.Vc
set_option linter.unusedSimpArgs false
section
variable {w0 w w1 : World} {o o1 : Nat → Nat} {g gl : Nat} {vs vr : Sv} {sl : List Sl} {sn sn' : List Nat} {S : PS} {R : Ending → World → Prop}
end
end Go.Proofs.YtfhkgnfphfmhiaaGreatDoor
/- Documents of the program: the nodes of an image are hung together: the walk. -/
namespace Go.Proofs.YtfhkgnfphfmhiaaGreatDoor
open Go.RowKit Go.Vc
set_option linter.unusedSimpArgs false
section
variable {w0 w w1 : World} {o o1 : Nat → Nat} {g gl : Nat} {vs vr : Sv} {sl : List Sl} {sn sn1 sn2 : List Nat} {S S1 S7 : PS} {R : Ending → World → Prop} {p x k : Nat} {l : List Nat} {s : Sl}
end
end Go.Proofs.YtfhkgnfphfmhiaaGreatDoor
/- Documents of the program: the nodes of an image are hung together: all of them. -/
namespace Go.Proofs.YtfhkgnfphfmhiaaGreatDoor
open Go.RowKit Go.Vc
set_option linter.unusedSimpArgs false
section
variable {w0 w w1 : World} {o o1 : Nat → Nat} {g gl : Nat} {vs vr : Sv} {sl : List Sl} {sn sn1 sn2 : List Nat} {S S1 S7 : PS} {R : Ending → World → Prop} {p x k : Nat} {l : List Nat} {s : Sl} {X : Im}
end
end Go.Proofs.YtfhkgnfphfmhiaaGreatDoor
/- The empty document of the program. -/
namespace Go.Proofs.YtfhkgnfphfmhiaaGreatDoor
open Go.RowKit Go.Vc
set_option linter.unusedSimpArgs false
section
variable {w : World} {g : Nat}
def S0 : PS := ⟨⟨[], []⟩, [], 0, 0, 0⟩
theorem pm_zero {ty : TypeId} {tl : List Value} (hB : Blk w g (docC (none, 0, 0) (none, 0, 0) 0 0 0 tl) ty) : PM w (fun b => if b = g then 1 else 0) ⟨g, ty, tl⟩ S0 := by
  refine ⟨if_pos rfl, fun b hb => ?_, rfl, by decide, fun i b hb => (by cases hb), ⟨(none, 0, 0), (none, 0, 0), hB, .inl ⟨rfl, rfl⟩, fun x hx => (by cases hx), .inl ⟨rfl, rfl⟩, fun x hx => (by cases hx)⟩, fun i b s hb => (by cases hb), fun s hs => (by cases hs), ⟨fun h hh => (by cases hh), by decide⟩, by decide⟩
  have hb : (if b = g then 1 else 0) ≠ 0 := hb
  by_cases e : b = g
  · rw [e]; exact hB.lt
  · rw [if_neg e] at hb; exact absurd rfl hb
theorem pi_zero : PI S0 := ⟨rfl, rfl, by decide, fun j t hj ht => (by cases ht)⟩
end
end Go.Proofs.YtfhkgnfphfmhiaaGreatDoor
namespace Go.Proofs.YtfhkgnfphfmhiaaGreatDoor
open Go.Vc
-- (espalierlaw28.pair).stands
-- (espalierlaw28.pair).step
-- espalierlaw28.LocksAll
-- espalierlaw28.LocksApart
-- espalierlaw28.LocksBoth
def F3_j7 (a : Int) (b : Int) (c : Int) (x27 : Int) (w_2 : World) (R : Ending → World → Prop) : Prop :=
 Calls Tryz.prog 10 #[(.int .i64 ((1 : Int) + ((a.tmod (5 : Int))))), (.int .i64 ((1 : Int) + ((b.tmod (5 : Int)))))] w_2 (post R fun v3 w1_3 =>
 ∃ (x60 : Bool), v3 = (.bool x60) ∧
 Calls Tryz.prog 10 #[(.int .i64 ((1 : Int) + ((b.tmod (5 : Int))))), (.int .i64 ((1 : Int) + ((a.tmod (5 : Int)))))] w1_3 (post R fun v4 w1_4 =>
 ∃ (x63 : Bool), v4 = (.bool x63) ∧
 Br (!(x60 == x63))
 (R (.returned (.bool false)) w1_4)
 (Calls Tryz.prog 10 #[(.int .i64 x27), (.int .i64 ((1 : Int) + ((c.tmod (5 : Int)))))] w1_4 (post R fun v5 w1_5 =>
 ∃ (x67 : Bool), v5 = (.bool x67) ∧
 Calls Tryz.prog 10 #[(.int .i64 ((1 : Int) + ((a.tmod (5 : Int))))), (.int .i64 ((1 : Int) + ((c.tmod (5 : Int)))))] w1_5 (post R fun v6 w1_6 =>
 ∃ (x70 : Bool), v6 = (.bool x70) ∧
 Br x70
 (Calls Tryz.prog 10 #[(.int .i64 ((1 : Int) + ((b.tmod (5 : Int))))), (.int .i64 ((1 : Int) + ((c.tmod (5 : Int)))))] w1_6 (post R fun v7 w1_7 =>
 ∃ (x74 : Bool), v7 = (.bool x74) ∧
 R (.returned (.bool (x67 == x74))) w1_7))
 (R (.returned (.bool (x67 == false))) w1_6))))))

def F3 (a : Int) (b : Int) (c : Int) (w_ : World) (R : Ending → World → Prop) : Prop :=
 Calls Tryz.prog 8 #[] w_ (post R fun v w1 =>
 ∃ (x11 : Bool), v = (.bool x11) ∧
 Br (!x11)
 (R (.returned (.bool false)) w1)
 (InR .i64 ((a.tmod (5 : Int))) ∧ InR .i64 ((1 : Int) + ((a.tmod (5 : Int)))) ∧ InR .i64 ((b.tmod (5 : Int))) ∧ InR .i64 ((1 : Int) + ((b.tmod (5 : Int)))) ∧ InR .i64 ((c.tmod (5 : Int))) ∧ InR .i64 ((1 : Int) + ((c.tmod (5 : Int)))) ∧ Calls Tryz.prog 9 #[(.int .i64 ((1 : Int) + ((a.tmod (5 : Int))))), (.int .i64 ((1 : Int) + ((b.tmod (5 : Int)))))] w1 (post R fun v2 w1_2 =>
 ∃ (x27 : Int), v2 = (.int .i64 x27) ∧
 ∃ J7 : World → Prop, (∀  (w1_3 : World), J7 w1_3 → F3_j7 a b c x27 w1_3 R) ∧
 (Calls Tryz.prog 9 #[(.int .i64 ((1 : Int) + ((b.tmod (5 : Int))))), (.int .i64 ((1 : Int) + ((a.tmod (5 : Int)))))] w1_2 (post R fun v3 w1_3 =>
 ∃ (x31 : Int), v3 = (.int .i64 x31) ∧
 Br (x27 != x31)
 (R (.returned (.bool false)) w1_3)
 (Calls Tryz.prog 9 #[(.int .i64 ((1 : Int) + ((a.tmod (5 : Int))))), (.int .i64 ((1 : Int) + ((a.tmod (5 : Int)))))] w1_3 (post R fun v4 w1_4 =>
 ∃ (x36 : Int), v4 = (.int .i64 x36) ∧
 Br (x36 != ((1 : Int) + ((a.tmod (5 : Int)))))
 (R (.returned (.bool false)) w1_4)
 (Calls Tryz.prog 9 #[(.int .i64 ((1 : Int) + ((a.tmod (5 : Int))))), (.int .i64 x27)] w1_4 (post R fun v5 w1_5 =>
 ∃ (x43 : Int), v5 = (.int .i64 x43) ∧
 Br (x43 != x27)
 (R (.returned (.bool false)) w1_5)
 (Calls Tryz.prog 9 #[(.int .i64 x27), (.int .i64 ((1 : Int) + ((c.tmod (5 : Int)))))] w1_5 (post R fun v6 w1_6 =>
 ∃ (x50 : Int), v6 = (.int .i64 x50) ∧
 Calls Tryz.prog 9 #[(.int .i64 ((1 : Int) + ((b.tmod (5 : Int))))), (.int .i64 ((1 : Int) + ((c.tmod (5 : Int)))))] w1_6 (post R fun v7 w1_7 =>
 ∃ (x54 : Int), v7 = (.int .i64 x54) ∧
 Calls Tryz.prog 9 #[(.int .i64 ((1 : Int) + ((a.tmod (5 : Int))))), (.int .i64 x54)] w1_7 (post R fun v8 w1_8 =>
 ∃ (x55 : Int), v8 = (.int .i64 x55) ∧
 Br (x50 != x55)
 (R (.returned (.bool false)) w1_8)
 (J7 w1_8))))))))))))))

def pl3 : Plan := ⟨77, ⟨[]⟩, [(7, ⟨[], [(6, 7), (28, 58)]⟩)], []⟩

theorem eq3 (a : Int) (b : Int) (c : Int) (w : World) (R : Ending → World → Prop) : F3 a b c w R = vc Tryz.prog Tryz.f3 pl3 R 100000 [.code (bodyOf Tryz.f3)] (argEnv 0 #[(.int .u8 a), (.int .u8 b), (.int .u8 c)].toList) w := by kernel_rfl

theorem ok3 (a : Int) (b : Int) (c : Int) {w : World} {R : Ending → World → Prop} (h : F3 a b c w R) : Calls Tryz.prog 3 #[(.int .u8 a), (.int .u8 b), (.int .u8 c)] w R :=
  vc_calls (pl := pl3) Tryz.func3 (by kernel_rfl) (by kernel_rfl) (by kernel_rfl) (Eq.mp (eq3 a b c w R) h)

-- espalierlaw28.LocksFit
-- espalierlaw28.LocksFree
-- espalierlaw28.begins
-- espalierlaw28.document
-- espalierlaw28.held
-- espalierlaw28.lives
def F8_j7 (x26_0 : Option Addr) (x26_0N : Nat) (x31_0 : Option Addr) (w_2 : World) (R : Ending → World → Prop) : Prop :=
 ∃ S : World → Prop, S w_2.drew ∧ IdxA x26_0 x26_0N (0 : Int) 1 fun q55 =>
 ∃ (x56 : Int), Held S q55 (.int .u64 x56) ∧ IdxA x26_0 x26_0N (1 : Int) 1 fun q60 =>
 ∃ (x61 : Int), Held S q60 (.int .u64 x61) ∧ Calls Tryz.prog 15 #[(.pointer x31_0), (.int .i64 1), (.int .u64 x56), (.int .i64 5)] w_2.drew (post R fun v4 w1_7 =>
 ∃ (x57 : Int), v4 = (.int .i64 x57) ∧
 S w1_7 ∧ Calls Tryz.prog 15 #[(.pointer x31_0), (.int .i64 2), (.int .u64 x61), (.int .i64 3)] w1_7 (post R fun v5 w1_8 =>
 ∃ (x62 : Int), v5 = (.int .i64 x62) ∧
 Calls Tryz.prog 14 #[(.pointer x31_0), (.int .i64 1)] w1_8 (post R fun v6 w1_9 =>
 ∃ (x65_0 : Option Addr) (x65_0N : Nat) (x65_0C : Nat) (x65_1 : Int), v6 = (.tuple #[(.slice x65_0 x65_0N x65_0C), (.int .i64 x65_1)]) ∧
 IdxA x26_0 x26_0N (1 : Int) 1 fun q71 =>
 LdI .u64 (w1_9.cell? q71) fun x72 =>
 Calls Tryz.prog 13 #[(.pointer x31_0), (.int .i64 2), (.int .u64 x72), (.bool false)] w1_9 (post R fun v7 w1_10 =>
 ∃ (x73_0 : Bool) (x73_1 : Int), v7 = (.tuple #[(.bool x73_0), (.int .i64 x73_1)]) ∧
 Br (x57 == (0 : Int))
 (Br (x62 == (280 : Int))
 (Br (x65_1 == (0 : Int))
 (Br (((x65_0N : Nat) : Int) == (1 : Int))
 (IdxA x65_0 x65_0N (0 : Int) 1 fun q93 =>
 LdI .i64 (w1_10.cell? q93) fun x94 =>
 Br (x94 == (2 : Int))
 (Br x73_0
 (R (.returned (.bool (x73_1 == (0 : Int)))) w1_10)
 (R (.returned (.bool false)) w1_10))
 (R (.returned (.bool false)) w1_10))
 (R (.returned (.bool false)) w1_10))
 (R (.returned (.bool false)) w1_10))
 (R (.returned (.bool false)) w1_10))
 (R (.returned (.bool false)) w1_10)))))

def F8  (w_ : World) (R : Ending → World → Prop) : Prop :=
 Al w_ #[(.slice none 0 0), (.slice none 0 0), (.int .i64 0), (.int .i64 0), (.int .i64 0)] 67 fun g15 w1 =>
 Al w1 #[(.int .i64 1), (.string (ByteArray.mk #[98])), (.slice none 0 0), (.string (ByteArray.mk #[])), (.slice none 0 0)] 73 fun g19 w1_2 =>
 Calls Tryz.prog 22 #[(.pointer (some g15)), (.int .i64 2), (.int .u64 0), (.agg #[(.int .i64 1), (.string (ByteArray.mk #[97])), (.slice none 0 0), (.string (ByteArray.mk #[])), (.slice (some g19) 1 1)])] w1_2 (post R fun v w1_3 =>
 ∃ (x21_0 : Int) (x21_1 : Int), v = (.tuple #[(.int .u64 x21_0), (.int .i64 x21_1)]) ∧
 Calls Tryz.prog 23 #[(.pointer (some g15)), (.int .u64 0)] w1_3 (post R fun v2 w1_4 =>
 ∃ (x26_0 : Option Addr) (x26_0N : Nat) (x26_0C : Nat) (x26_1 : Int), v2 = (.tuple #[(.slice x26_0 x26_0N x26_0C), (.int .i64 x26_1)]) ∧
 Calls Tryz.prog 20 #[(.pointer (some g15))] w1_4 (post R fun v3 w1_5 =>
 ∃ (x31_0 : Option Addr) (x31_1 : Int), v3 = (.tuple #[(.pointer x31_0), (.int .i64 x31_1)]) ∧
 ∃ J7 : World → Prop, (∀  (w1_6 : World), J7 w1_6 → F8_j7 x26_0 x26_0N x31_0 w1_6 R) ∧
 (Br (x21_1 != (0 : Int))
 (R (.returned (.bool false)) w1_5)
 (Br (x26_1 != (0 : Int))
 (R (.returned (.bool false)) w1_5)
 (Br (x31_1 != (0 : Int))
 (R (.returned (.bool false)) w1_5)
 (Br (x31_0).isNone
 (R (.returned (.bool false)) w1_5)
 (Br (((x26_0N : Nat) : Int) != (2 : Int))
 (R (.returned (.bool false)) w1_5)
 (J7 w1_5)))))))))

def pl8 : Plan := ⟨104, ⟨[]⟩, [(7, ⟨[], [(0, 1), (34, 53)]⟩)], []⟩

theorem eq8  (w : World) (R : Ending → World → Prop) : F8  w R = vc Tryz.prog Tryz.f8 pl8 R 100000 [.code (bodyOf Tryz.f8)] (argEnv 0 #[].toList) w := by kernel_rfl

theorem ok8  {w : World} {R : Ending → World → Prop} (h : F8  w R) : Calls Tryz.prog 8 #[] w R :=
  vc_calls (pl := pl8) Tryz.func8 (by kernel_rfl) (by kernel_rfl) (by kernel_rfl) (Eq.mp (eq8  w R) h)

-- espalierlaw28.played
-- espalierlaw28.whos
end Go.Proofs.YtfhkgnfphfmhiaaGreatDoor
/- Locks: the document's example. -/
namespace Go.Proofs.YtfhkgnfphfmhiaaGreatDoor
open Go.RowKit Go.Vc
set_option linter.unusedSimpArgs false
def exB : Tr := .mk 1 (ByteArray.mk #[98]) [] noB []
def exT : Tr := .mk 1 (ByteArray.mk #[97]) [] noB [exB]
def exD : Im := (insF ⟨[], []⟩ 2 0 exT).1
def exP : List Nat := 0 :: allR' exD
def stepsG (pl : List Nat) (D : Im) (n : Nat) (mode : Int) : List (Nat × Int) := (stepsH (slA D.sl) n mode).map fun s => (pl.idxOf s.1, s.2)
def lockG (pl : List Nat) (D : Im) (T : TS) (who : Int) (n : Nat) (mode : Int) : TS × Int :=
  if 1 ≤ who ∧ who ≤ 32 ∧ 1 ≤ mode ∧ mode ≤ 5 then (if n ∈ pl then T.lock pl.length who.toNat (stepsG pl D n mode) else (T, 8)) else (T, 1)
def askG (pl : List Nat) (who : Int) (n : Nat) : Int := if 1 ≤ who ∧ who ≤ 32 then (if n ∈ pl then 0 else 8) else 1
def mayG (pl : List Nat) (D : Im) (T : TS) (who : Int) (n : Nat) (change : Bool) : Bool × Int := if askG pl who n = 0 then ((stepsG pl D n 1).any (mayP T who.toNat change), 0) else (false, askG pl who n)
def freeG (pl : List Nat) (T : TS) (who : Int) : TS × List Nat × Int := if 1 ≤ who ∧ who ≤ 32 then ((T.free pl.length who.toNat).1, (T.free pl.length who.toNat).2, 0) else (T, [], 1)
def exH1 : Nat := (allR' exD).getD 0 0
def exH2 : Nat := (allR' exD).getD 1 0
def exT1 : TS := (lockG exP exD TS0 1 exH1 5).1
def exT2 : TS := (lockG exP exD exT1 2 exH2 3).1
def exT3 : TS := (freeG exP exT2 1).1
theorem ex_ins : (insF ⟨[], []⟩ 2 0 exT).2.2 = 0 := by decide +kernel
theorem ex_all : allR' exD = [exH1, exH2] ∧ exH1 < 18446744073709551616 ∧ exH2 < 18446744073709551616 := by decide +kernel
theorem ex_l1 : (lockG exP exD TS0 1 exH1 5).2 = 0 := by decide +kernel
theorem ex_l2 : (lockG exP exD exT1 2 exH2 3).2 = 280 := by decide +kernel
theorem ex_f : (freeG exP exT2 1).2 = ([2], 0) := by decide +kernel
theorem ex_m : mayG exP exD exT3 2 exH2 false = (true, 0) := by decide +kernel
section
variable {w : World} {R : Ending → World → Prop}
theorem lives_calls (hT : Tabs w) (hR : ∀ w', Below w.heap.size w w' → R (.returned (.bool true)) w') : Calls Tryz.prog 8 #[] w R := by
  refine ok8 ?_
  unfold F8
  refine al fun g w1 hb1 b1 hge1 => al fun g2 w2 hb2 b2 hge2 => ?_
  have hs1 := hb1.size
  have B2 := btr hb1 hs1 hb2
  have b12 := b1.keep hb2
  have hg := b1.lt
  have hp := pm_zero (w := w2) (g := g) (ty := 67) (tl := []) b12
  have hgg : g2 ≠ g := by omega
  have hwc : Blk (wc (fun b => if b = g then 1 else 0) w2) g2 _ _ := cells_only (ok := fun b => Nat.beq (if b = g then 1 else 0) 0) (by simp [hgg]) b2
  have hTc : Tabs (wc (fun b => if b = g then 1 else 0) w2) := hT.sub fun b c t fr hb => by
    have hlt := (Array.getElem?_eq_some_iff.1 hb).1
    refine cells_only (ok := fun b => Nat.beq (if b = g then 1 else 0) 0) ?_ (by rw [B2.block b hlt]; exact hb)
    have : b ≠ g := by omega
    simp [this]
  have hrt : RTr (wc (fun b => if b = g then 1 else 0) w2) exT ⟨1, ByteArray.mk #[97], (none, 0, 0), noB, (some ⟨g2, 0, none⟩, 1, 1)⟩ := by
    unfold exT
    simp only [RTr]
    refine ⟨by trivial, by trivial, by trivial, rr_nil, by simp, [⟨1, ByteArray.mk #[98], (none, 0, 0), noB, (none, 0, 0)⟩], rfl, (Own.lit' (L := LE5) (base := 0) (xs := [⟨1, ByteArray.mk #[98], (none, 0, 0), noB, (none, 0, 0)⟩]) hwc (Nat.zero_le _) (by rw [LE5.all_one]; rfl) (by simp [maxLen])).rd.2, ?_⟩
    simp only [RTl]
    refine ⟨_, [], rfl, ?_, rfl⟩
    unfold exB
    simp only [RTr]
    exact ⟨by trivial, by trivial, by trivial, rr_nil, by simp, [], rfl, Rd.nil _ _, by simp [RTl]⟩
  refine insert_calls (θ := ⟨g, 67, []⟩) (x := exT) (e := ⟨1, ByteArray.mk #[97], (none, 0, 0), noB, (some ⟨g2, 0, none⟩, 1, 1)⟩) (wh := 2) (a := 0) hp pi_zero nil_wf hTc hrt (by decide) fun w3 o3 S3 hp3 hi3 hD3 ev => ⟨_, _, rfl, ?_⟩
  have hD3 : S3.D = exD := hD3
  have hw3 : Wf S3.D := by rw [hD3]; exact ins_wf nil_wf 2 0 exT
  have B3 : Below w.heap.size w w3 := B2.trans (ev.fm.toBelow B2.size fun b hb e => by
    have e : pc (if b = g then 1 else 0) := e
    rw [if_neg (by omega)] at e
    rcases e with e | e | e | e <;> omega)
  refine All0T_calls (θ := ⟨g, 67, []⟩) (S := S3) hp3 hw3.s hw3.a fun v w4 hb4 ov => ⟨v.1, v.2.1, v.2.2, 0, rfl, ?_⟩
  rw [hD3, ex_all.1] at ov
  have B4 := btr B3 B3.size hb4
  refine New_calls (θ := ⟨g, 67, []⟩) (S := S3) (hp3.below hb4) hw3.s hw3.a fun w5 K hb5 hSt hKD hKS hKb => ⟨some ⟨K.tg, 0, none⟩, 0, rfl, ?_⟩
  have B5 := btr B4 B4.size hb5
  have hKS : K.S.D = exD := hKS.trans hD3
  have hpl : K.pl = exP := by rw [hKD.pl, hKS]; rfl
  have hn := ov.rd.1
  have e2 : (insF S0.D 2 0 exT).2.2 = 0 := ex_ins
  refine ⟨fun w' => w5 = w', ?_, ?_⟩
  · rintro _ rfl
    unfold F8_j7
    obtain ⟨ga, ca, pre, rest, hv, _, _, hB, _, _, _⟩ := ov.o.row1 (by simp)
    have hB5 := hB.keep hb5
    have a0 : (pre ++ (LHn.all [exH1, exH2] ++ rest))[pre.length + 0]? = some (.int .u64 (exH1 : Nat)) := by rw [List.getElem?_append_right (by omega), Nat.add_sub_cancel_left]; rfl
    have a1 : (pre ++ (LHn.all [exH1, exH2] ++ rest))[pre.length + 1]? = some (.int .u64 (exH2 : Nat)) := by rw [List.getElem?_append_right (by omega), Nat.add_sub_cancel_left]; rfl
    rw [hv]
    dsimp only
    have hd : Below w5.heap.size w5 w5.drew := (Below.refl _ _).drew
    have hSd := hSt.keep hd
    refine ⟨fun w' => Blk w' ga (pre ++ (LHn.all [exH1, exH2] ++ rest)).toArray 41, hB5, ?_⟩
    rw [IdxA_some (by omega) (by decide)]
    refine ⟨_, fun w' hS => by rw [Addr.add_mk]; exact (cellL hS _).trans a0, ?_⟩
    rw [IdxA_some (by omega) (by decide)]
    refine ⟨_, fun w' hS => by rw [Addr.add_mk]; exact (cellL hS _).trans a1, ?_⟩
    have hti := ti0 K.pl.length
    have nr : ∀ {w' : World} {fl' fw' : Int → Option Value} {vl' vw' : Nat → Sv} {W' : Nat → List Ew} {T'' : TS} {had'' : Nat → Wt → Bool}, StP w' K T'' had'' fl' vl' fw' vw' W' → Blk w' ga (pre ++ (LHn.all [exH1, exH2] ++ rest)).toArray 41 → ¬ RowP K vl' vw' ga := fun h hb => h.notRow ⟨_, hb⟩ (by decide) (by decide)
    refine LockT_calls hSd hti hKD 1 ex_all.2.1 5 fun w6 T6 fl6 vl6 fw6 vw6 W6 e6 hl6 f6 h6 t6 => ⟨_, rfl, ?_⟩
    have k6 : lockG exP exD TS0 1 exH1 5 = (T6, e6) := by rw [← hl6, ← hpl, ← hKS]; rfl
    obtain rfl : T6 = exT1 := by unfold exT1; rw [k6]
    obtain rfl : e6 = 0 := by have := ex_l1; rw [k6] at this; exact this
    have hB6 := f6.fm.blk hB5.drew (nr hSd hB5.drew)
    refine ⟨hB6, ?_⟩
    refine LockT_calls h6 t6 hKD 2 ex_all.2.2 3 fun w7 T7 fl7 vl7 fw7 vw7 W7 e7 hl7 f7 h7 t7 => ⟨_, rfl, ?_⟩
    have k7 : lockG exP exD exT1 2 exH2 3 = (T7, e7) := by rw [← hl7, ← hpl, ← hKS]; rfl
    obtain rfl : T7 = exT2 := by unfold exT2; rw [k7]
    obtain rfl : e7 = 280 := by have := ex_l2; rw [k7] at this; exact this
    have hB7 := f7.fm.blk hB6 (nr h6 hB6)
    refine FreeT_calls h7 t7 1 fun v8 w8 T8 out8 e8 fl8 vl8 fw8 vw8 W8 hl8 f8 h8 t8 o8 _ => ⟨v8.1, v8.2.1, v8.2.2, e8, rfl, ?_⟩
    have k8 : freeG exP exT2 1 = (T8, out8, e8) := by rw [← hl8, ← hpl]; rfl
    obtain rfl : T8 = exT3 := by unfold exT3; rw [k8]
    obtain ⟨rfl, rfl⟩ : out8 = [2] ∧ e8 = 0 := by have := ex_f; rw [k8] at this; cases this; exact ⟨rfl, rfl⟩
    have hB8 := f8.fm.blk hB7 (nr h7 hB7)
    rw [IdxA_some (by omega) (by decide)]
    have a1' : w8.cell? ((⟨ga, pre.length, none⟩ : Addr).add (((1 : Int)).toNat * 1)) = some (.int .u64 (exH2 : Nat)) := by rw [Addr.add_mk]; exact (cellL hB8 _).trans a1
    rw [a1', LdI_some]
    refine mayT_calls h8 t8 hKD 2 ex_all.2.2 false fun w9 hb9 => ⟨_, _, rfl, ?_⟩
    have k9 : mayF K exT3 2 exH2 false = (true, 0) := by rw [← ex_m, ← hpl, ← hKS]; rfl
    rw [k9]
    have B9 : Below w.heap.size w w9 := by
      have lo : ∀ {w' : World} {fl' fw' : Int → Option Value} {vl' vw' : Nat → Sv} {W' : Nat → List Ew} {T'' : TS} {had'' : Nat → Wt → Bool}, StP w' K T'' had'' fl' vl' fw' vw' W' → ∀ b, b < w.heap.size → ¬ RowP K vl' vw' b := fun h b hb e => by
        have hs4 := B4.size
        rcases h.rowp e with e | e | ⟨e, _⟩
        · have := hKb.2.1; omega
        · have := hKb.2.2.1; omega
        · have := hKb.2.2.2.2.1; omega
      have q1 := btr B5 B5.size hd
      have q2 := q1.trans (f6.fm.toBelow q1.size (lo hSd))
      have q3 := q2.trans (f7.fm.toBelow q2.size (lo h6))
      have q4 := q3.trans (f8.fm.toBelow q3.size (lo h7))
      exact btr q4 q4.size hb9
    have hn8 := o8.rd.1
    refine bre (fun _ => ?_) (fun e => absurd rfl e)
    refine bre (fun _ => ?_) (fun e => absurd rfl e)
    refine bre (fun _ => ?_) (fun e => absurd rfl e)
    refine bre (fun _ => ?_) (fun e => absurd (by rw [hn8]; rfl) e)
    refine (o8.keep hb9).rd.2.idx hn8 (by omega) (by simp at hn8; omega) rfl fun b o hc => ?_
    have c0 := hc 0 _ rfl
    simp only [Nat.add_zero] at c0
    simp only [c0, LdI_some]
    exact bre (fun _ => hR w9 B9) (fun e => absurd rfl e)
  · rw [e2]
    refine brn (fun e => absurd rfl e) (fun _ => brn (fun e => absurd rfl e) (fun _ => brn (fun e => absurd rfl e) (fun _ => ?_)))
    rw [Option.isNone_some, Br_f]
    exact brn (fun e => absurd (by rw [hn]; rfl) e) (fun _ => rfl)
end
end Go.Proofs.YtfhkgnfphfmhiaaGreatDoor
/- LocksBoth: the least mode that is both. -/
namespace Go.Proofs.YtfhkgnfphfmhiaaGreatDoor
open Go.RowKit Go.Vc
set_option linter.unusedSimpArgs false
theorem both_laws {x y z : Int} (hx : 1 ≤ x ∧ x ≤ 5) (hy : 1 ≤ y ∧ y ≤ 5) (hz : 1 ≤ z ∧ z ≤ 5) :
    BothL x y = BothL y x ∧ BothL x x = x ∧ BothL x (BothL x y) = BothL x y ∧ BothL (BothL x y) z = BothL x (BothL y z) ∧ FitsL x y = FitsL y x ∧ FitsL (BothL x y) z = (FitsL x z && FitsL y z) := by
  have h1 : x = 1 ∨ x = 2 ∨ x = 3 ∨ x = 4 ∨ x = 5 := by omega
  have h2 : y = 1 ∨ y = 2 ∨ y = 3 ∨ y = 4 ∨ y = 5 := by omega
  have h3 : z = 1 ∨ z = 2 ∨ z = 3 ∨ z = 4 ∨ z = 5 := by omega
  rcases h1 with rfl | rfl | rfl | rfl | rfl <;> rcases h2 with rfl | rfl | rfl | rfl | rfl <;> rcases h3 with rfl | rfl | rfl | rfl | rfl <;> decide
section
variable {w : World} {R : Ending → World → Prop}
theorem locksBoth_calls {a b c : Int} (ha : 0 ≤ a ∧ a ≤ 255) (hb : 0 ≤ b ∧ b ≤ 255) (hc : 0 ≤ c ∧ c ≤ 255) (hT : Tabs w) (hR : ∀ w', Below w.heap.size w w' → R (.returned (.bool true)) w') :
    Calls Tryz.prog 3 #[.int .u8 a, .int .u8 b, .int .u8 c] w R := by
  have tm : ∀ z : Int, 0 ≤ z → z.tmod 5 = z % 5 := fun z hz => Int.tmod_eq_emod_of_nonneg hz
  refine ok3 a b c ?_
  unfold F3
  rw [tm a ha.1, tm b hb.1, tm c hc.1]
  refine lives_calls hT fun w1 hb1 => ⟨_, rfl, ?_⟩
  rw [Bool.not_true, Br_f]
  have hx : 1 ≤ 1 + a % 5 ∧ 1 + a % 5 ≤ 5 := by omega
  have hy : 1 ≤ 1 + b % 5 ∧ 1 + b % 5 ≤ 5 := by omega
  have hz : 1 ≤ 1 + c % 5 ∧ 1 + c % 5 ≤ 5 := by omega
  obtain ⟨e1, e2, e3, e4, e5, e6⟩ := both_laws hx hy hz
  refine ⟨inR_i64 (by omega) (by omega), inR_i64 (by omega) (by omega), inR_i64 (by omega) (by omega), inR_i64 (by omega) (by omega), inR_i64 (by omega) (by omega), inR_i64 (by omega) (by omega), ?_⟩
  have hab : a % 5 = a.tmod 5 := (tm a ha.1).symm
  have hbb : b % 5 = b.tmod 5 := (tm b hb.1).symm
  have hcb : c % 5 = c.tmod 5 := (tm c hc.1).symm
  refine Both_calls ⟨_, rfl, ?_⟩
  refine ⟨fun w' => w1 = w', ?_, ?_⟩
  · rintro _ rfl
    unfold F3_j7
    rw [← hab, ← hbb, ← hcb]
    refine Fits_calls ⟨_, rfl, Fits_calls ⟨_, rfl, ?_⟩⟩
    rw [e5, show (FitsL (1 + b % 5) (1 + a % 5) == FitsL (1 + b % 5) (1 + a % 5)) = true from by simp, Bool.not_true, Br_f]
    refine Fits_calls ⟨_, rfl, Fits_calls ⟨_, rfl, ?_⟩⟩
    refine br (fun h1 => Fits_calls ⟨_, rfl, ?_⟩) (fun h1 => ?_)
    · rw [e6, h1, Bool.true_and, beq_self_eq_true]; exact hR w1 hb1
    · rw [e6, h1, Bool.false_and]; exact hR w1 hb1
  · refine Both_calls ⟨_, rfl, brn (fun h => absurd e1 h) fun _ => ?_⟩
    refine Both_calls ⟨_, rfl, brn (fun h => absurd e2 h) fun _ => ?_⟩
    refine Both_calls ⟨_, rfl, brn (fun h => absurd e3 h) fun _ => ?_⟩
    refine Both_calls ⟨_, rfl, Both_calls ⟨_, rfl, Both_calls ⟨_, rfl, brn (fun h => absurd e4 h) fun _ => rfl⟩⟩⟩
end
end Go.Proofs.YtfhkgnfphfmhiaaGreatDoor
/- LocksBoth: the least mode that is both does not hang on the order or on brackets, and what fits with both fits with each. -/
namespace Go.Proofs.YtfhkgnfphfmhiaaGreatDoor.locksBoth
open Go.ChangeShapes Go.WideShapes Go.ChangeAt Go.RowKit Go.Joins Go.Lib Go.Vc
open Go.ChangeMaps (open_string shut_string)
set_option linter.unusedSimpArgs false
theorem own : ownKnob Tryz.prog.godebug = none := by kernel_rfl
theorem laidOut : laidOutB Tryz.prog = true := by kernel_rfl
/-- A world in which the tables are laid. -/
noncomputable def laidWorld (os : Os) : World :=
  let w0 := World.holding Tryz.prog os ⟨#[], #[], []⟩
  let put (h : Array Obj) (g : Nat) (cs : Array Value) : Array Obj := h.modify g fun
    | .cells _ t frozen => .cells cs t frozen
    | o => o
  let h1 := put w0.heap 0 (Lib.firstTab.map fun z => Value.int .u8 z).toArray
  let h2 := put h1 1 ((List.range 16).flatMap fun i => [Value.int .u8 (Lib.accLo i), Value.int .u8 (Lib.accHi i)]).toArray
  { w0 with heap := h2 }
theorem laid_met (os : Os) : laidMet Tryz.prog Rows.locksBothUptoRow.laid ((laidWorld os).forCall (fun _ _ => 0) ⟨#[], #[.int .u8 0, .int .u8 0, .int .u8 0], []⟩).memory :=
  (LaidIn.of_run (l := Rows.locksBothUptoRow.laid) [1, 0] 8 (by kernel_rfl) (by kernel_rfl) (by kernel_rfl) (by kernel_rfl)).met
theorem u8Types : U8Types Tryz.prog decRen := { decLays with }
theorem tabs_of {W : World} (h : laidMet Tryz.prog Rows.locksBothUptoRow.laid W) : Tabs W :=
  utf8Tabs_of_readsT (ρ := decRen) u8Types ⟨by kernel_rfl, by kernel_rfl, by kernel_rfl, by kernel_rfl, by kernel_rfl, by kernel_rfl, by kernel_rfl⟩
    (by rw [← Pinned.utf8First_eq]; exact Lib.laidMet.reads h (.tail _ (.head _))) (Lib.laidMet.reads h (.head _))
theorem reads (os : Os) {H : Type} (enc : TypeId × Value → H) : ∃ places, DataW.whole enc Tryz.prog ((laidWorld os).forCall (fun _ _ => 0) ⟨#[], #[.int .u8 0, .int .u8 0, .int .u8 0], []⟩).memory Tryz.f3.params.toList Rows.locksBothSpec.vars false (#[.int .u8 0, .int .u8 0, .int .u8 0] : Array Value).toList 8 = some ([.lit (.int .u8 0), .lit (.int .u8 0), .lit (.int .u8 0)], [], places) :=
  ⟨[], by kernel_rfl⟩
theorem lifted (os : Os) (started : os.Started) (H : Type) (enc : TypeId × Value → H) (F : Stop.Interp) :
    ReturnsInHanded {} Tryz.checked os 3 .any ((Rows.OpenSpec.upto Rows.locksBothSpec).preRow enc Tryz.prog Tryz.f3 Rows.locksBothUptoRow.domain false Rows.locksBothUptoRow.laid) (((Rows.OpenSpec.upto Rows.locksBothSpec).at F).post enc Tryz.prog Tryz.f3 false true false false) := by
  obtain ⟨places, hx⟩ := reads os enc
  refine returnsInHanded_of_row (C := Tryz.checked) (s := Rows.OpenSpec.upto Rows.locksBothSpec) own started (by kernel_rfl) Tryz.func3
    (witness_row_at (enc := enc) (C := Tryz.checked) false (laidWorld os) #[.int .u8 0, .int .u8 0, .int .u8 0] rfl (by kernel_rfl) (by kernel_rfl) (by kernel_rfl)
      (OpenSpec.preRow_of_cond 8 hx (by kernel_rfl) (fun k hk => by cases hk; kernel_rfl) (by kernel_rfl) (laid_met os))) ?_
  intro W base args ds gs before hval0 hW _ hcond hsz0 hL _ _
  rw [MakeChecks.laidMetH_plain _ _ _ (by kernel_rfl)] at hL
  have hT : Tabs W := tabs_of hL
  have hk : Rows.uptoSmall H (ds ++ gs) = true := hcond _ rfl
  have hval : ∀ (j : Nat) t v, Tryz.f3.params[j]? = some t → args[j]? = some v → Value.okWide Tryz.prog W .any base t v := hval0
  have hWw : DataW.Whole enc Tryz.prog Tryz.f3.params.toList Rows.locksBothSpec.vars false W args.toList ds gs before := hW
  clear hW
  have hW := hWw
  obtain ⟨p, q, hA0, hV, rfl, hfz, hnd⟩ := hW
  have hW' := hWw
  have hA : DataW.TrodAll enc Tryz.prog W 0 (fun _ => true) true Tryz.f3.params.toList args.toList ds p := hA0
  rw [Tryz.params3] at hA hval
  obtain ⟨v0, vs0, d0, ds0, p0, q0, hargs, rfl, rfl, h0, r0⟩ := trodAll_cons hA
  obtain ⟨v1, vs1, d1, ds1, p1, q1, rfl, rfl, rfl, h1, r1⟩ := trodAll_cons r0
  obtain ⟨v2, vs2, d2, ds2, p2, q2, rfl, rfl, rfl, h2, r2⟩ := trodAll_cons r1
  obtain ⟨rfl, rfl, rfl⟩ := trodAll_nil r2
  obtain rfl : args = #[v0, v1, v2] := by cases args; simp_all
  obtain ⟨rfl, rfl⟩ := trodVars_none hV
  have k0 := h0
  have lt0 : ∀ x ∈ p0, x.block < W.heap.size := by obtain ⟨m, hm⟩ := k0; exact DataW.trod_lt m _ _ _ hm
  have k1 := h1
  have lt1 : ∀ x ∈ p1, x.block < W.heap.size := by obtain ⟨m, hm⟩ := k1; exact DataW.trod_lt m _ _ _ hm
  have k2 := h2
  have lt2 : ∀ x ∈ p2, x.block < W.heap.size := by obtain ⟨m, hm⟩ := k2; exact DataW.trod_lt m _ _ _ hm
  clear hA0 hval0
  obtain ⟨wa, rfl, rfl, rfl, hwa⟩ := open_int Tryz.underlying5 (hval 0 5 _ rfl rfl) h0
  have ra : 0 ≤ wa ∧ wa ≤ 255 := by simpa [Lit.wf, IntKind.min, IntKind.max, IntKind.signed, IntKind.bits] using hwa
  obtain ⟨wb, rfl, rfl, rfl, hwb⟩ := open_int Tryz.underlying5 (hval 1 5 _ rfl rfl) h1
  have rb : 0 ≤ wb ∧ wb ≤ 255 := by simpa [Lit.wf, IntKind.min, IntKind.max, IntKind.signed, IntKind.bits] using hwb
  obtain ⟨wc, rfl, rfl, rfl, hwc⟩ := open_int Tryz.underlying5 (hval 2 5 _ rfl rfl) h2
  have rc : 0 ≤ wc ∧ wc ≤ 255 := by simpa [Lit.wf, IntKind.min, IntKind.max, IntKind.signed, IntKind.bits] using hwc
  refine (locksBoth_calls (R := fun e W' => e = .returned (.bool true) ∧ Below W.heap.size W W') ra rb rc hT fun w' hb => ⟨rfl, hb⟩).mono fun e W' ⟨he, bel⟩ => ?_
  subst he
  exact ⟨_, rfl, _, _, _, [], _, [], hW', trodAll_mk1 (shut_bool Tryz.underlying4 _), (trodAll_cons_mk (Below.trod laidOut (by kernel_rfl) (of_decide_eq_true (by kernel_rfl)) k0 bel lt0) (trodAll_cons_mk (Below.trod laidOut (by kernel_rfl) (of_decide_eq_true (by kernel_rfl)) k1 bel lt1) (trodAll_cons_mk (Below.trod laidOut (by kernel_rfl) (of_decide_eq_true (by kernel_rfl)) k2 bel lt2) trodAll_mk0))), rfl, bel.frame _, fun h => by cases h⟩
theorem said : Rows.LocksBothUptoSaid :=
  OpenClaim.holds_of_cond 3 Tryz.f3 rfl rfl rfl rfl rfl rfl rfl ⟨rfl, rfl, rfl, rfl, rfl⟩ rfl rfl rfl rfl rfl (by kernel_rfl) Tryz.func3 (by kernel_rfl)
    (of_decide_eq_true (by kernel_rfl)) (by unfold Func.isWrapper; first | (rw [if_neg (of_decide_eq_false (by kernel_rfl))]; exact ⟨rfl, rfl⟩) | (rw [if_pos (of_decide_eq_true (by kernel_rfl))]; kernel_rfl))
    (fun os started H enc _ F => by rw [OpenClaim.pre_eq_preRow]; exact lifted os started H enc F)
theorem plain (f : FuncId) (fn : Func) (hf : Tryz.pinned.checked.prog.funcNamed "espalier/espalierlaw28.LocksBoth" = some f) (hfn : Tryz.pinned.checked.prog.funcs[f]? = some fn) :
    false = Tryz.pinned.checked.prog.looks [] ∧ ∀ (j : Nat) t, fn.params[j]? = some t → Tryz.pinned.checked.prog.wantsStandIn t = false := by
  obtain rfl : f = 3 := Option.some.inj ((show Tryz.prog.funcNamed "espalier/espalierlaw28.LocksBoth" = some 3 by kernel_rfl).symm.trans hf) |>.symm
  obtain rfl : fn = Tryz.f3 := (Option.some.inj (Tryz.func3.symm.trans hfn)).symm
  refine ⟨by kernel_rfl, fun j t ht => ?_⟩
  have hm : t ∈ Tryz.f3.params.toList := by simpa using Array.mem_of_getElem? ht
  have hall : (Tryz.f3.params.toList.all fun u => !Tryz.prog.wantsStandIn u) = true := by kernel_rfl
  exact (show Tryz.prog.wantsStandIn t = false by simpa using List.all_eq_true.1 hall t hm)
end Go.Proofs.YtfhkgnfphfmhiaaGreatDoor.locksBoth
namespace Go.Proofs.YtfhkgnfphfmhiaaGreatDoor
open Go.ChangeShapes Go.WideShapes Go.ChangeAt Go.RowKit Go.Joins Go.Lib
theorem locksBoth_holds : Rows.LocksBothUptoCardSaid :=
  Claim7.holds_tied_plain_at .later [] _ _ _ _ locksBoth.said (fun _ h => by cases h) (by kernel_rfl) (fun _ h => by cases h) locksBothUpto_row_tie rfl ⟨rfl, rfl⟩ (by kernel_rfl) rfl locksBoth.plain (by kernel_rfl)
#print axioms locksBoth_holds
end Go.Proofs.YtfhkgnfphfmhiaaGreatDoor
