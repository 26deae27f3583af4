/- That 'vc' suffices: whichever operation that looks at no world. -/
import Derived.Test.YtkmoeokfgkmlhaaVcSnd4
namespace Go.Vc
open Go
set_option linter.unusedSimpArgs false
set_option linter.unusedVariables false
section
variable {P : Program} {n : Nat} {e : Env} {a : Act} {o : Oper} {w : World}

theorem map_some_bound {lo : Operand} {v : Option Value} {F : Int → Prop} (h : bound (some v) 0 F) : ∃ k n, v = some (.int k n) ∧ F n := by
  rcases bound_spec h with ⟨h1, _⟩ | ⟨k, n, h1, h2⟩
  · cases h1
  · exact ⟨k, n, by simpa using h1, h2⟩

theorem sure_conv {K : Value → Prop} {ex : Bool} {s d : TypeId} {x : Operand} (ho : o.op = .convert s d x) {k k' : IntKind} {z : Int} {q : TypeDesc}
    (hx : a.eval x = .int k z) (hd : P.underlying d = some (.int k')) (hsr : P.underlying s = some q) (h : num ex k' z K) : Sure P a o K :=
  ⟨_, fun w => by simp [execOp, ho, hx, convert, run_und hd, run_und hsr, Conv.intToInt], run_num h⟩
theorem sure_convS {K : Value → Prop} {s d : TypeId} {x : Operand} (ho : o.op = .convert s d x) {z : ByteArray} {q : TypeDesc}
    (hx : a.eval x = .string z) (hd : P.underlying d = some .string) (hsr : P.underlying s = some q) (h : K (.string z)) : Sure P a o K :=
  ⟨_, fun w => by simp [execOp, ho, hx, convert, run_und hd, run_und hsr], h⟩

theorem vcPure_sound {K : Value → Prop} {ex : Bool} (hs : Sat n e a) (h : vcPure P ex o e K) : Sure P a o K := by
  unfold vcPure at h
  split at h
  · -- move
    rename_i x ho
    split at h
    · rename_i v hv; exact sure_move x (.inl ho) (hs.ev hv) h
    · exact h.elim
  · rename_i x ho
    split at h
    · rename_i v hv; exact sure_move x (.inr ho) (hs.ev hv) h
    · exact h.elim
  · -- pick
    rename_i c x y ho
    split at h
    · rename_i b u v hc hx hy; exact sure_pick ho (hs.ev hc) (hs.ev hx) (hs.ev hy) h
    · exact h.elim
  · rename_i x ho
    split at h
    · rename_i p hp; exact sure_nil ho (hs.ev hp) h
    · exact general_sound hs h
  · -- indexAddr
    rename_i t x i ho
    split at h
    · rename_i p m c k j hx hi
      split at h
      · rename_i el hu
        split at h
        · rename_i sz hz; exact sure_idxA ho (hs.ev hx) (hs.ev hi) hu hz h
        · exact h.elim
      · exact h.elim
    · rename_i q k j hx hi
      split at h
      · rename_i m el hu
        split at h
        · exact h.elim
        · split at h
          · rename_i sz hz; exact sure_idxR ho (hs.ev hx) (hs.ev hi) hu hz h
          · exact h.elim
      · exact h.elim
    · exact h.elim
  · -- index
    rename_i t x i ho
    split at h
    · rename_i s k j hx hi
      split at h
      · rename_i hu; exact sure_idxS ho (hs.ev hx) (hs.ev hi) hu h
      · exact h.elim
    · exact h.elim
  · -- slice
    rename_i t x lo hi ho
    split at h
    · rename_i s hx
      split at h
      · rename_i hu; exact sure_slS hs ho (hs.ev hx) hu h
      · exact h.elim
    · rename_i p m c hx
      split at h
      · rename_i el hu
        split at h
        · rename_i sz hz
          split at h
          · refine sure_sl hs ho (hs.ev hx) hu hz (l := 0) (.inl ⟨rfl, rfl⟩) ?_
            simpa [map_add_zero, add_zero] using h
          · rename_i lo'
            obtain ⟨k, j, h1, h2⟩ := map_some_bound (lo := lo') h
            exact sure_sl hs ho (hs.ev hx) hu hz (l := j) (.inr ⟨lo', k, rfl, hs.ev h1⟩) h2
        · exact h.elim
      · exact h.elim
    · exact h.elim
  · -- binOp
    rename_i op t x y yt ho
    split at h
    · rename_i k p k' q hx hy
      split at h
      · exact sure_shI ho (hs.ev hx) (hs.ev hy) h
      · exact sure_shI ho (hs.ev hx) (hs.ev hy) h
      · rename_i n1 n2
        split at h
        · rename_i hk
          obtain rfl := IntKind.same_eq hk
          exact sure_binI hs ho (hs.ev hx) (hs.ev hy) (fun e => n1 e) (fun e => n2 e) h
        · exact h.elim
    · rename_i p q hx hy
      split at h
      · exact sure_cat ho (hs.ev hx) (hs.ev hy) h
      · exact general_sound hs h
    · exact general_sound hs h
    · rename_i xs ys hx hy
      split at h
      · rename_i ks ha hf hg
        split at h
        · rename_i r he; exact sure_eqL ho (hs.ev hx) (hs.ev hy) ha hf hg he h
        · exact h.elim
      · exact h.elim
    · rename_i v u n1 n2 n3 n4 hx hy
      split at h
      · rename_i hn
        split at h
        · rename_i d hu; exact sure_nilR ho hu hn (hs.ev hx) h
        · exact h.elim
      · split at h
        · split at h
          · rename_i d hu; exact sure_nilL ho hu (hs.ev hy) h
          · exact h.elim
        · exact general_sound hs h
    · exact h.elim
  · -- convert
    rename_i s d x ho
    split at h
    · rename_i k z hx
      split at h
      · rename_i k' q hd hsr; exact sure_conv ho (hs.ev hx) hd hsr h
      · exact general_sound hs h
    · rename_i z hx
      split at h
      · rename_i q hd hsr; exact sure_convS ho (hs.ev hx) hd hsr h
      · exact h.elim
    · exact general_sound hs h
  · exact general_sound hs h
end
end Go.Vc
