/- LocksBoth: the least mode that is both does not hang on the order or on brackets, and what fits with both fits with each. -/
import Derived.Test.YtfhkgnfphfmhiaaGreatDoorProg
import Derived.Lib.Bytealg
import Derived.Laws.Externs
import Derived.Shelf.SlSortCmp.NoneTotal
import Derived.Laws.CopyRow
import Derived.Test.YtfhkgnfphfmhiaaGreatDoorBo3
/- Documents of the program: a node's cells, its attributes; one more node. -/
namespace Go.Proofs.YtfhkgnfphfmhiaaGreatDoor
open Go.RowKit Go.Vc
set_option linter.unusedVariables false
set_option linter.unusedSimpArgs false
set_option maxRecDepth 100000
section
variable {w w1 w2 : World} {o o1 o2 : Nat → Nat} {θ : Th} {S : PS} {M : Nat → Prop} {bs : List Nat}
/-- One cell of a node is stored. -/
theorem PM.stN (h : PM w o θ S) {i b : Nat} {s s' : Sl} (hb : S.bs[i]? = some b) (hs : S.D.sl[i]? = some s) {j : Nat} {v : Value} (hj : j < 9) (he : ∀ a kv, (nodeC i s a (ptrH S.bs s.parent) kv).setIfInBounds j v = nodeC i s' a (ptrH S.bs s'.parent) kv)
    (ha : s'.attrs = s.attrs) (hk : s'.kids = s.kids) (hg : s'.gen < 4294967296) (hp : s'.parent = 0 ∨ inN S.D.sl.length s'.parent) {K : World → Prop} (hK : ∀ w1, PM w1 o θ (S.setS i s') → EvC (fun c => c = 8 + 4 * i ∨ c = 9 + 4 * i ∨ c = 10 + 4 * i) w o w1 o → K w1) : St w ⟨b, j, none⟩ v K := by
  obtain ⟨a, kv, hn⟩ := h.nodes i b s hb hs
  have hcb := h.nc i b hb
  refine st_blk hn.blk (by simpa [nodeC] using hj) fun w1 b1 f1 => ?_
  rw [he] at b1
  have hrs := h.rng s (List.mem_of_getElem? hs)
  have hN : NodeR w1 (cl o none (9 + 4 * i)) S.bs i b s' a kv := by
    rw [cl_none]
    refine ⟨b1, ?_, hn.at2, ?_, hn.kd2⟩
    · rw [ha]
      refine own_fm hn.at1 f1 fun x hx e => ?_
      have e : x = b := e
      have := hn.at2 x hx; rw [e, hcb] at this; omega
    · rw [hk]
      refine own_fm hn.kd1 f1 fun x hx e => ?_
      have e : x = b := e
      have := hn.kd2 x hx; rw [e, hcb] at this; omega
  have := h.setNode (r := none) (c := 9 + 4 * i) hb hs f1 (fun x hx => .inl (.inl (by have e : x = b := hx; rw [e]; exact hcb))) (.inl rfl) (fun x hx => by cases hx) hN ⟨hg, hp, by rw [hk]; exact hrs.kids, by rw [hk]; exact hrs.few, by rw [ha]; exact hrs.atf⟩
  rw [cl_none] at this
  exact hK w1 this.1 this.2
theorem node_set1 {i : Nat} {s : Sl} {a kv : Sv} {par : Option Addr} (g : Nat) : (nodeC i s a par kv).setIfInBounds 1 (.int .u32 (g : Nat)) = nodeC i { s with gen := g } a par kv := by simp [nodeC]
theorem node_set2 {i : Nat} {s : Sl} {a kv : Sv} {par : Option Addr} (l : Bool) : (nodeC i s a par kv).setIfInBounds 2 (.bool l) = nodeC i { s with live := l } a par kv := by simp [nodeC]
theorem node_set3 {i : Nat} {s : Sl} {a kv : Sv} {par : Option Addr} (k : Int) : (nodeC i s a par kv).setIfInBounds 3 (.int .i64 k) = nodeC i { s with kind := k } a par kv := by simp [nodeC]
theorem node_set6 {i : Nat} {s : Sl} {a kv : Sv} {par : Option Addr} (n : ByteArray) : (nodeC i s a par kv).setIfInBounds 6 (.string n) = nodeC i { s with text := n } a par kv := by simp [nodeC]
theorem node_set7 {i : Nat} {s : Sl} {a kv : Sv} {par q : Option Addr} (p : Nat) : (nodeC i s a par kv).setIfInBounds 7 (.pointer q) = nodeC i { s with parent := p } a q kv := by simp [nodeC]
theorem PM.stGen (h : PM w o θ S) {i b : Nat} {s : Sl} (hb : S.bs[i]? = some b) (hs : S.D.sl[i]? = some s) {g : Nat} (hg : g < 4294967296) {K : World → Prop} (hK : ∀ w1, PM w1 o θ (S.setS i { s with gen := g }) → EvC (fun c => c = 8 + 4 * i ∨ c = 9 + 4 * i ∨ c = 10 + 4 * i) w o w1 o → K w1) : St w ⟨b, 1, none⟩ (.int .u32 (g : Nat)) K :=
  h.stN (s' := { s with gen := g }) hb hs (by omega) (fun _ _ => node_set1 g) rfl rfl hg (h.rng s (List.mem_of_getElem? hs)).par hK
theorem PM.stLiv (h : PM w o θ S) {i b : Nat} {s : Sl} (hb : S.bs[i]? = some b) (hs : S.D.sl[i]? = some s) (l : Bool) {K : World → Prop} (hK : ∀ w1, PM w1 o θ (S.setS i { s with live := l }) → EvC (fun c => c = 8 + 4 * i ∨ c = 9 + 4 * i ∨ c = 10 + 4 * i) w o w1 o → K w1) : St w ⟨b, 2, none⟩ (.bool l) K :=
  h.stN (s' := { s with live := l }) hb hs (by omega) (fun _ _ => node_set2 l) rfl rfl (h.rng s (List.mem_of_getElem? hs)).gen (h.rng s (List.mem_of_getElem? hs)).par hK
theorem PM.stKind (h : PM w o θ S) {i b : Nat} {s : Sl} (hb : S.bs[i]? = some b) (hs : S.D.sl[i]? = some s) (k : Int) {K : World → Prop} (hK : ∀ w1, PM w1 o θ (S.setS i { s with kind := k }) → EvC (fun c => c = 8 + 4 * i ∨ c = 9 + 4 * i ∨ c = 10 + 4 * i) w o w1 o → K w1) : St w ⟨b, 3, none⟩ (.int .i64 k) K :=
  h.stN (s' := { s with kind := k }) hb hs (by omega) (fun _ _ => node_set3 k) rfl rfl (h.rng s (List.mem_of_getElem? hs)).gen (h.rng s (List.mem_of_getElem? hs)).par hK
theorem PM.stText (h : PM w o θ S) {i b : Nat} {s : Sl} (hb : S.bs[i]? = some b) (hs : S.D.sl[i]? = some s) (n : ByteArray) {K : World → Prop} (hK : ∀ w1, PM w1 o θ (S.setS i { s with text := n }) → EvC (fun c => c = 8 + 4 * i ∨ c = 9 + 4 * i ∨ c = 10 + 4 * i) w o w1 o → K w1) : St w ⟨b, 6, none⟩ (.string n) K :=
  h.stN (s' := { s with text := n }) hb hs (by omega) (fun _ _ => node_set6 n) rfl rfl (h.rng s (List.mem_of_getElem? hs)).gen (h.rng s (List.mem_of_getElem? hs)).par hK
theorem PM.stPar (h : PM w o θ S) {i b : Nat} {s : Sl} (hb : S.bs[i]? = some b) (hs : S.D.sl[i]? = some s) {p : Nat} (hp : p = 0 ∨ inN S.D.sl.length p) {K : World → Prop} (hK : ∀ w1, PM w1 o θ (S.setS i { s with parent := p }) → EvC (fun c => c = 8 + 4 * i ∨ c = 9 + 4 * i ∨ c = 10 + 4 * i) w o w1 o → K w1) : St w ⟨b, 7, none⟩ (.pointer (ptrH S.bs p)) K :=
  h.stN (s' := { s with parent := p }) hb hs (by omega) (fun _ _ => node_set7 p) rfl rfl (h.rng s (List.mem_of_getElem? hs)).gen hp hK
theorem pb_app {b h : Nat} (hh : inN bs.length h) : pb (bs ++ [b]) h = pb bs h := by
  obtain ⟨h1, h2⟩ := hh
  unfold pb
  rw [List.getD_eq_getElem?_getD, List.getD_eq_getElem?_getD, List.getElem?_append_left (by omega)]
theorem ptr_app {b h : Nat} (hh : h = 0 ∨ inN bs.length h) : ptrH (bs ++ [b]) h = ptrH bs h := by
  unfold ptrH
  split
  · rfl
  · rw [pb_app (hh.resolve_left (by assumption))]
theorem map_pb_app {b : Nat} {l : List Nat} (hl : ∀ h ∈ l, inN bs.length h) : l.map (pb (bs ++ [b])) = l.map (pb bs) := List.map_congr_left fun h hh => pb_app (hl h hh)
/-- One more node, that nobody has been. -/
theorem PM.grow (h : PM w o θ S) {b : Nat} (hb0 : w.heap.size ≤ b) (hB : Blk w1 b (nodeC S.D.sl.length (deadS 0) (none, 0, 0) none (none, 0, 0)) 152) {v v' : Sv} (hc : ∀ x, rowOf (slV v) = some x → o x = 2) (hf : Fm (fun x => rowOf (slV v) = some x) w w1)
    (hO : Own LPt w1 0 102 (slV v') (S.bs ++ [b])) (hr : rowOf (slV v') = rowOf (slV v) ∨ rowOf (slV v') = none ∨ ∃ g, rowOf (slV v') = some g ∧ w.heap.size ≤ g ∧ g ≠ b) (hl : S.D.sl.length < 4096) {K : World → Prop}
    (hK : ∀ w2 o2, PM w2 o2 θ { S with D := { S.D with sl := S.D.sl ++ [deadS 0] }, bs := S.bs ++ [b] } → EvC (fun c => c = 1 ∨ c = 2) w o w2 o2 → K w2) : St w1 ⟨θ.g, 0, none⟩ (slV v') K := by
  have ob0 : o b = 0 := Classical.byContradiction fun h0 => by have := h.lt b h0; omega
  have hrc : ∀ x, rowOf (slV v') = some x → (o x = 2 ∨ (o x = 0 ∧ w.heap.size ≤ x)) ∧ x ≠ b := fun x hx => by
    rcases hr with e | e | ⟨g, e, hge, hgb⟩
    · have := hc x (by rw [← e]; exact hx)
      exact ⟨.inl this, fun e => by rw [e, ob0] at this; omega⟩
    · rw [e] at hx; cases hx
    · rw [e] at hx; cases hx
      refine ⟨.inr ⟨Classical.byContradiction fun h0 => ?_, hge⟩, hgb⟩
      have := h.lt _ h0; omega
  obtain ⟨nv, rv, hd⟩ := h.doc
  have hg1 := h.col
  have hbl := h.len
  have hb1 : Blk w1 θ.g (docC nv rv S.lv S.wn S.lo θ.tl) θ.t := hf.blk hd.blk fun e => by have := hc _ e; omega
  refine st_blk hb1 (Nat.lt_of_lt_of_le (by omega) doc_size) fun w2 b2 f2 => ?_
  rw [doc_set0] at b2
  have hbg : b ≠ θ.g := fun e => by rw [e, hg1] at ob0; omega
  have F : Fm (fun x => o x = 1 ∨ o x = 2) w w2 := (hf.mono fun x _ e => .inr (hc x e)).trans (f2.mono fun x _ e => .inl (by have e : x = θ.g := e; rw [e]; exact hg1))
  have hlt2 : ∀ x, rowOf (slV v') = some x → x < w2.heap.size := fun x hx => Nat.lt_of_lt_of_le (hO.lt x hx).2 f2.size
  have hbl2 : b < w2.heap.size := Nat.lt_of_lt_of_le hB.lt f2.size
  let o2 : Nat → Nat := fun x => if x = b then 8 + 4 * S.D.sl.length else cl o (rowOf (slV v')) 2 x
  have hold : ∀ x, o x ≠ 0 → o2 x = o x := fun x hx => by
    show (if x = b then _ else _) = _
    rw [if_neg (fun e => hx (by rw [e]; exact ob0)), cl_old hx]
  have hob : o2 b = 8 + 4 * S.D.sl.length := by
    show (if b = b then _ else _) = _
    rw [if_pos rfl]
  have hrow2 : ∀ x, rowOf (slV v') = some x → o2 x = 2 := fun x hx => by
    show (if x = b then _ else _) = _
    obtain ⟨e1, e2⟩ := hrc x hx
    rw [if_neg e2]
    exact cl_row hx (e1.elim .inr fun e => .inl e.1)
  have hnew : ∀ x, o x = 0 → o2 x ≠ 0 → w.heap.size ≤ x ∧ x < w2.heap.size ∧ (o2 x = 2 ∨ o2 x = 8 + 4 * S.D.sl.length) := fun x h0 h2 => by
    by_cases e : x = b
    · subst e; exact ⟨hb0, hbl2, .inr hob⟩
    · have e3 : o2 x = cl o (rowOf (slV v')) 2 x := by
        show (if x = b then _ else _) = _
        rw [if_neg e]
      by_cases e4 : rowOf (slV v') = some x
      · refine ⟨?_, hlt2 x e4, .inl (hrow2 x e4)⟩
        rcases (hrc x e4).1 with e5 | e5
        · rw [h0] at e5; omega
        · exact e5.2
      · rw [e3] at h2
        unfold cl at h2
        rw [if_neg (fun e => e4 e.1)] at h2
        exact absurd h0 h2
  have Fn : ∀ x, o x ≠ 0 → o x ≠ 1 → o x ≠ 2 → ¬ (o x = 1 ∨ o x = 2) := fun x _ h1 h2 h3 => h3.elim h1 h2
  have hkid : ∀ s ∈ S.D.sl, ∀ x ∈ s.kids, inN S.bs.length x := fun s hs x hx => by rw [hbl]; exact (h.rng s hs).kids x hx
  have inN1 : ∀ x, inN S.D.sl.length x → inN (S.D.sl ++ [deadS 0]).length x := fun x hx => ⟨hx.1, by have := hx.2; simp; omega⟩
  refine hK w2 o2 ⟨by rw [hold _ (by omega)]; exact hg1, fun x hx => ?_, by simp [hbl], by simp; omega, fun i b' hb' => ?_, ⟨v', rv, ?_⟩, fun i b' s hb' hs => ?_, fun s hs => ?_, ⟨fun x hx => inN1 x (h.rts.1 x hx), h.rts.2⟩, h.cnt⟩ ⟨F, hold, fun x hx h0 => ?_, fun x hx => ?_⟩
  · by_cases h0 : o x = 0
    · exact (hnew x h0 hx).2.1
    · exact Nat.lt_of_lt_of_le (h.lt x h0) F.size
  · rcases Nat.lt_or_ge i S.bs.length with hi | hi
    · have hb' : S.bs[i]? = some b' := by rw [← hb']; exact (List.getElem?_append_left hi).symm
      have := h.nc i b' hb'
      rw [hold _ (by omega)]; exact this
    · have hb' : (S.bs ++ [b])[i]? = some b' := hb'
      rw [List.getElem?_append_right hi] at hb'
      have hi2 : i - S.bs.length = 0 := by
        have := (List.getElem?_eq_some_iff.1 hb').1
        simp at this; omega
      rw [hi2] at hb'
      simp at hb'
      subst hb'
      rw [hob]; omega
  · refine ⟨b2, own_fm hO f2 fun x hx e => ?_, hrow2, ?_, fun x hx => ?_⟩
    · have e : x = θ.g := e
      rcases (hrc x hx).1 with e2 | ⟨e2, _⟩ <;> rw [e, hg1] at e2 <;> omega
    · show Own LPt w2 0 _ (slV rv) (S.D.roots.map (pb (S.bs ++ [b])))
      rw [map_pb_app (fun x hx => by rw [hbl]; exact h.rts.1 x hx)]
      exact own_fm hd.r1 F fun x hx => by have := hd.r2 x hx; omega
    · have := hd.r2 x hx
      rw [hold _ (by omega)]; exact this
  · rcases Nat.lt_or_ge i S.bs.length with hi | hi
    · have hb' : S.bs[i]? = some b' := by rw [← hb']; exact (List.getElem?_append_left hi).symm
      have hs : S.D.sl[i]? = some s := by rw [← hs]; exact (List.getElem?_append_left (by omega)).symm
      obtain ⟨a, kv, hn⟩ := h.nodes i b' s hb' hs
      have hn2 := hn.keep (o1 := o2) (h.nc i b' hb') F (fun x hx => Fn x (by omega) (by omega) (by omega)) fun x hx => hold x (by omega)
      have hsm := List.mem_of_getElem? hs
      refine ⟨a, kv, ⟨?_, hn2.at1, hn2.at2, ?_, hn2.kd2⟩⟩
      · show Blk w2 b' (nodeC i s a (ptrH (S.bs ++ [b]) s.parent) kv) _
        rw [ptr_app (by rw [hbl]; exact (h.rng s hsm).par)]; exact hn2.blk
      · show Own LPt w2 0 _ (slV kv) (s.kids.map (pb (S.bs ++ [b])))
        rw [map_pb_app (hkid s hsm)]; exact hn2.kd1
    · have hb' : (S.bs ++ [b])[i]? = some b' := hb'
      have hs : (S.D.sl ++ [deadS 0])[i]? = some s := hs
      rw [List.getElem?_append_right hi] at hb'
      rw [List.getElem?_append_right (by omega)] at hs
      have hi2 : i - S.bs.length = 0 := by
        have := (List.getElem?_eq_some_iff.1 hb').1
        simp at this; omega
      rw [hi2] at hb'
      rw [show i - S.D.sl.length = 0 by omega] at hs
      simp at hb' hs
      subst hb' hs
      have e : i = S.D.sl.length := by omega
      subst e
      refine ⟨(none, 0, 0), (none, 0, 0), ⟨f2.blk hB hbg, Own.nil _ _ _ _, fun x hx => (by cases hx), Own.nil _ _ _ _, fun x hx => (by cases hx)⟩⟩
  · rcases List.mem_append.1 hs with hs | hs
    · have r := h.rng s hs
      exact ⟨r.gen, r.par.imp id (inN1 _), fun x hx => inN1 x (r.kids x hx), r.few, r.atf⟩
    · rw [List.mem_singleton] at hs
      subst hs
      exact ⟨by simp [deadS], .inl rfl, by simp [deadS], by simp [deadS], by simp [deadS]⟩
  · refine Classical.byContradiction fun h2 => ?_
    have := (hnew x h0 h2).1
    omega
  · by_cases h0 : o x = 0
    · refine .inr ?_
      rcases (hnew x h0 hx).2.2 with e | e <;> rw [e]
      · exact .inr (.inl rfl)
      · exact (pc_nd _).1
    · exact .inl h0
end
end Go.Proofs.YtfhkgnfphfmhiaaGreatDoor
/- Documents of the program: handles, nodes, lists, levels; the place of a pointer in a row. -/
namespace Go.Proofs.YtfhkgnfphfmhiaaGreatDoor
open Go.RowKit Go.Vc
set_option linter.unusedVariables false
set_option linter.unusedSimpArgs false
set_option maxRecDepth 100000
section
variable {w w1 w2 : World} {o o1 o2 : Nat → Nat} {θ : Th} {S : PS} {M : Nat → Prop} {bs : List Nat} {R : Ending → World → Prop}
theorem PM.cGen (h : PM w o θ S) {i b : Nat} {s : Sl} (hb : S.bs[i]? = some b) (hs : S.D.sl[i]? = some s) : w.cell? ⟨b, 1, none⟩ = some (.int .u32 (s.gen : Nat)) := by
  obtain ⟨a, kv, hn⟩ := h.nodes i b s hb hs; rw [hn.blk.cell]; rfl
theorem PM.cIdx (h : PM w o θ S) {i b : Nat} {s : Sl} (hb : S.bs[i]? = some b) (hs : S.D.sl[i]? = some s) : w.cell? ⟨b, 0, none⟩ = some (.int .u32 (i + 1 : Nat)) := by
  obtain ⟨a, kv, hn⟩ := h.nodes i b s hb hs; rw [hn.blk.cell]; rfl
theorem PM.cLive (h : PM w o θ S) {i b : Nat} {s : Sl} (hb : S.bs[i]? = some b) (hs : S.D.sl[i]? = some s) : w.cell? ⟨b, 2, none⟩ = some (.bool s.live) := by
  obtain ⟨a, kv, hn⟩ := h.nodes i b s hb hs; rw [hn.blk.cell]; rfl
theorem PM.cKind (h : PM w o θ S) {i b : Nat} {s : Sl} (hb : S.bs[i]? = some b) (hs : S.D.sl[i]? = some s) : w.cell? ⟨b, 3, none⟩ = some (.int .i64 s.kind) := by
  obtain ⟨a, kv, hn⟩ := h.nodes i b s hb hs; rw [hn.blk.cell]; rfl
theorem PM.cPar (h : PM w o θ S) {i b : Nat} {s : Sl} (hb : S.bs[i]? = some b) (hs : S.D.sl[i]? = some s) : w.cell? ⟨b, 7, none⟩ = some (.pointer (ptrH S.bs s.parent)) := by
  obtain ⟨a, kv, hn⟩ := h.nodes i b s hb hs; rw [hn.blk.cell]; rfl
theorem PM.cKids (h : PM w o θ S) {i b : Nat} {s : Sl} (hb : S.bs[i]? = some b) (hs : S.D.sl[i]? = some s) : ∃ v : Sv, w.cell? ⟨b, 8, none⟩ = some (slV v) ∧ Own LPt w 0 102 (slV v) (s.kids.map (pb S.bs)) ∧ ∀ x, rowOf (slV v) = some x → o x = 9 + 4 * i := by
  obtain ⟨a, kv, hn⟩ := h.nodes i b s hb hs
  exact ⟨kv, by rw [hn.blk.cell]; rfl, hn.kd1, hn.kd2⟩
/-- The node of a handle. -/
theorem PM.of (h : PM w o θ S) {x : Nat} {s : Sl} (hx : slA S.D.sl x = some s) : ∃ i, x % 4294967296 = i + 1 ∧ S.bs[i]? = some (pb S.bs x) ∧ S.D.sl[i]? = some s ∧ inN S.D.sl.length x := by
  obtain ⟨i, h1, h2, h3, h4⟩ := slA_iff.1 hx
  have hl := (List.getElem?_eq_some_iff.1 h2).1
  have hin : inN S.D.sl.length x := ⟨by omega, by omega⟩
  obtain ⟨k1, _⟩ := pb_get h.len hin
  rw [h1, Nat.add_sub_cancel] at k1
  exact ⟨i, h1, k1, h2, hin⟩
theorem PM.prd (h : PM w o θ S) : PRd w θ.g S.D.sl S.bs := by
  obtain ⟨⟨v, v1, v2, _⟩, _⟩ := h.cells
  obtain ⟨A, c, e, hr⟩ := v2.form
  have hfew := h.few
  refine ⟨h.len, by omega, ⟨A, c, by rw [v1, e], hr⟩, fun i hi => ?_, fun i hi hi' => h.cGen (List.getElem?_eq_getElem hi) (List.getElem?_eq_getElem hi'), fun i hi hi' => h.cLive (List.getElem?_eq_getElem hi) (List.getElem?_eq_getElem hi'), fun s hs => (h.rng s hs).gen⟩
  exact h.cIdx (List.getElem?_eq_getElem hi) (List.getElem?_eq_getElem (by rw [← h.len]; exact hi))
/-- The pointer to a live node, or none. -/
def ptrL (S : PS) (x : Nat) : Option Addr := if (slA S.D.sl x).isSome then some ⟨pb S.bs x, 0, none⟩ else none
theorem ptrN_L (hl : S.bs.length = S.D.sl.length) (x : Nat) : ptrN S.bs (atF S.D.sl x) = ptrL S x := by
  unfold ptrL slA
  cases ha : atF S.D.sl x with
  | none => rfl
  | some k =>
    obtain ⟨h1, s, h2, _⟩ := atF_iff.1 ha
    have hk : k < S.bs.length := by rw [hl]; exact (List.getElem?_eq_some_iff.1 h2).1
    rw [ptrN_some hk]
    have : pb S.bs x = S.bs[k] := by
      unfold pb; rw [h1, Nat.add_sub_cancel, List.getD_eq_getElem?_getD, List.getElem?_eq_getElem hk]; rfl
    simp only [Option.bind_some, h2, Option.isSome_some, if_true, this]
theorem atL_calls (h : PM w o θ S) {x : Nat} (hx : x < 18446744073709551616) (hK : ∀ w', Below w.heap.size w w' → R (.returned (.pointer (ptrL S x))) w') : Calls Tryz.prog 46 #[.pointer (some ⟨θ.g, 0, none⟩), .int .u64 (x : Nat)] w R :=
  atP_calls h.prd hx fun w' hb => by rw [ptrN_L h.len]; exact hK w' hb
theorem hnd_calls (h : PM w o θ S) {x : Nat} {s : Sl} (hx : slA S.D.sl x = some s) (hK : ∀ w', Below w.heap.size w w' → R (.returned (.int .u64 (x : Nat))) w') : Calls Tryz.prog 51 #[.pointer (some ⟨pb S.bs x, 0, none⟩)] w R := by
  obtain ⟨i, h1, h2, h3, h4⟩ := h.of hx
  obtain ⟨j, j1, j2, j3, j4⟩ := slA_iff.1 hx
  obtain rfl : j = i := by omega
  obtain ⟨hi, e1⟩ := List.getElem?_eq_some_iff.1 h2
  obtain ⟨hi', e2⟩ := List.getElem?_eq_some_iff.1 h3
  rw [← e1]
  refine hndP_calls h.prd hi hi' fun w' hb => ?_
  rw [e2, j4]; exact hK w' hb
theorem list_calls {p : Nat} (hK : R (.returned (.pointer (some (lad θ.g S.bs p)))) w) : Calls Tryz.prog 87 #[.pointer (some ⟨θ.g, 0, none⟩), .pointer (ptrH S.bs p)] w R := by
  refine ok87 (some ⟨θ.g, 0, none⟩) (ptrH S.bs p) ?_
  unfold F87
  unfold ptrH lad at *
  by_cases h0 : p = 0
  · rw [if_pos h0] at *
    exact hK
  · rw [if_neg h0] at *
    simpa [Br, NonNil, Addr.add_mk] using hK
theorem level_calls (h : PM w o θ S) (h0 : slA S.D.sl 0 = none) {p c : Nat} (hc : Ch (slA S.D.sl) p c) (hc2 : c ≤ 64) (hK : R (.returned (.int .i64 ((c : Nat) - 1))) w) : Calls Tryz.prog 48 #[.pointer (ptrH S.bs p)] w R := by
  refine ok48 (ptrH S.bs p) ?_
  unfold F48
  refine ⟨fun n i w' => ∃ (q d : Nat), n = ptrH S.bs q ∧ Ch (slA S.D.sl) q d ∧ d ≤ c ∧ i = (c : Nat) - 1 - (d : Nat) ∧ w = w', fun n i w' => ((c : Nat) - i).toNat, ⟨p, c, rfl, hc, Nat.le_refl _, by omega, rfl⟩, ?_⟩
  rintro n i _ ⟨q, d, rfl, hd, hdc, rfl, rfl⟩
  unfold F48_l2
  cases hd with
  | zero =>
    have e : (ptrH S.bs 0).isNone = true := by simp [ptrH]
    rw [e]
    simp only [Bool.not_true, Br_f]
    simpa using hK
  | @succ q d s hq0 ha h3 =>
    have e : ptrH S.bs q = some ⟨pb S.bs q, 0, none⟩ := by unfold ptrH; rw [if_neg hq0]
    rw [e]
    obtain ⟨k, k1, k2, k3, _⟩ := h.of ha
    simp only [Option.isNone_some, Bool.not_false, Br_t, NonNil_some, Addr.add_mk, Nat.zero_add, h.cPar k2 k3, Addr.add_mk, List.getElem?_toArray, List.getElem?_cons_zero, List.getElem?_cons_succ, LdI_some, LdB_some, LdStr_some, LdP_some, LdSl_some, LdM_some, Nat.zero_add, Br_t, Br_f]
    exact ⟨inR_i64 (by omega) (by omega), ⟨s.parent, d, rfl, h3, by omega, by omega, trivial⟩, (by first | omega | (dsimp only; omega))⟩
theorem shaped_calls {wh : Int} {a : Nat} (hK : R (.returned (.bool (!decide (wh < 1 ∨ 4 < wh ∨ (a = 0 ∧ 2 < wh))))) w) : Calls Tryz.prog 44 #[.int .i64 wh, .int .u64 (a : Nat)] w R := by
  refine ok44 wh a ?_
  unfold F44
  refine brd (fun h1 => brd (fun h2 => brn (fun h3 => ?_) (fun h3 => ?_)) (fun h2 => ?_)) (fun h1 => ?_)
  · rw [show decide (wh < 1 ∨ 4 < wh ∨ (a = 0 ∧ 2 < wh)) = false from decide_eq_false (by omega)] at hK; exact hK
  · have e : (!decide (wh < 1 ∨ 4 < wh ∨ (a = 0 ∧ 2 < wh))) = decide (wh ≤ 2) := by
      by_cases h : wh ≤ 2
      · rw [decide_eq_true h, decide_eq_false (by omega)]; rfl
      · rw [decide_eq_false h, decide_eq_true (by omega)]; rfl
    rw [e] at hK; exact hK
  · rw [show decide (wh < 1 ∨ 4 < wh ∨ (a = 0 ∧ 2 < wh)) = true from decide_eq_true (by omega)] at hK; exact hK
  · rw [show decide (wh < 1 ∨ 4 < wh ∨ (a = 0 ∧ 2 < wh)) = true from decide_eq_true (by omega)] at hK; exact hK
/-- The parent under which a place lies. -/
theorem par_calls (h : PM w o θ S) {wh : Int} {a : Nat} (hsh : ¬ (wh < 1 ∨ 4 < wh ∨ (a = 0 ∧ 2 < wh))) (ha : a = 0 ∨ ∃ s, slA S.D.sl a = some s)
    (hK : R (.returned (.tuple #[.pointer (ptrH S.bs (placeF S.D wh a).1), .int .i64 (placeF S.D wh a).2])) w) : Calls Tryz.prog 47 #[.pointer (some ⟨θ.g, 0, none⟩), .int .i64 wh, .pointer (ptrH S.bs a)] w R := by
  refine ok47 (some ⟨θ.g, 0, none⟩) wh (ptrH S.bs a) ?_
  unfold F47
  unfold placeF at hK
  rw [if_neg hsh] at hK
  by_cases h0 : a = 0
  · rw [if_pos h0] at hK
    have e : ptrH S.bs a = none := by unfold ptrH; rw [if_pos h0]
    have e0 : ptrH S.bs 0 = none := rfl
    rw [e]
    rw [e0] at hK
    refine ⟨fun w' => w = w', fun w' e => by subst e; unfold F47_j5; exact hK, ?_⟩
    refine brd (fun h1 => by omega) (fun h1 => ?_)
    exact rfl
  · rw [if_neg h0] at hK
    obtain ⟨s, hs⟩ := ha.resolve_left h0
    rw [hs] at hK
    obtain ⟨k, k1, k2, k3, _⟩ := h.of hs
    have e : ptrH S.bs a = some ⟨pb S.bs a, 0, none⟩ := by unfold ptrH; rw [if_neg h0]
    rw [e]
    dsimp only at hK
    refine ⟨fun w' => w = w' ∧ wh ≤ 2 ∧ s.kind ≠ 2, ?_, ?_⟩
    · rintro _ ⟨rfl, h1, h2⟩
      unfold F47_j5
      rw [if_pos h1, if_neg h2, e] at hK; exact hK
    · refine brd (fun h1 => ?_) (fun h1 => ?_)
      · rw [if_neg (by omega)] at hK
        simp only [NonNil_some, Addr.add_mk, Nat.zero_add, h.cPar k2 k3, Addr.add_mk, List.getElem?_toArray, List.getElem?_cons_zero, List.getElem?_cons_succ, LdI_some, LdB_some, LdStr_some, LdP_some, LdSl_some, LdM_some, Nat.zero_add, Br_t, Br_f]
        exact hK
      · rw [if_pos (by omega)] at hK
        simp only [Option.isNone_some, Bool.not_false, Br_t, NonNil_some, Addr.add_mk, Nat.zero_add, h.cKind k2 k3, Addr.add_mk, List.getElem?_toArray, List.getElem?_cons_zero, List.getElem?_cons_succ, LdI_some, LdB_some, LdStr_some, LdP_some, LdSl_some, LdM_some, Nat.zero_add, Br_t, Br_f]
        refine bre (fun h2 => ?_) (fun h2 => ⟨trivial, by omega, h2⟩)
        rw [if_pos h2] at hK
        exact hK
/-- The place of a pointer in a row. -/
theorem idx_calls {l : List Nat} {v : Sv} {b : Nat} (hv : v.2.1 = l.length) (hr : Rd LPt w v.1 v.2.2 l) (hl : l.length ≤ 1048576) (hok : ∀ x, x = b ∨ x ∈ l → ∃ c t, w.heap[x]? = some (.cells c t (0, 0))) (hm : b ∈ l)
    (hK : R (.returned (.int .i64 (l.idxOf b : Nat))) w) : Calls Tryz.prog 88 #[slV v, .pointer (some ⟨b, 0, none⟩)] w R := by
  refine ok88 v.1 v.2.1 v.2.2 (some ⟨b, 0, none⟩) ?_
  unfold F88
  refine ⟨fun i w' => ∃ k : Nat, i = k ∧ k ≤ l.idxOf b ∧ w = w', fun i _ => l.length - i.toNat, ⟨0, rfl, by omega, rfl⟩, ?_⟩
  rintro i _ ⟨k, rfl, hk, rfl⟩
  unfold F88_l2
  have hlt : l.idxOf b < l.length := List.idxOf_lt_length_iff.2 hm
  refine brd (fun h1 => ?_) (fun h1 => by omega)
  have hk2 : k < l.length := by omega
  refine hr.pt hv rfl hk2 fun x y c0 => ?_
  simp only [c0, Addr.add_mk, List.getElem?_toArray, List.getElem?_cons_zero, List.getElem?_cons_succ, LdI_some, LdB_some, LdStr_some, LdP_some, LdSl_some, LdM_some, Nat.zero_add, Br_t, Br_f]
  refine ⟨fun p q e1 e2 hne => ?_, brd (fun e => ?_) (fun e => ?_)⟩
  · cases e1; cases e2
    exact ⟨hok _ (.inl rfl), hok _ (.inr (List.getElem_mem hk2))⟩
  · have e : b = l[k] := by simpa using e
    have : l.idxOf b = k := by
      rcases Nat.lt_or_ge k (l.idxOf b) with h2 | h2
      · have := List.not_of_lt_findIdx (p := (· == b)) (xs := l) h2
        exact absurd e.symm (by simpa using this)
      · omega
    rw [this] at hK; exact hK
  · have e : l[k] ≠ b := fun h2 => e (by rw [h2])
    have : k ≠ l.idxOf b := fun h2 => e (by
      have := List.getElem_idxOf hlt
      simp only [← h2] at this
      exact this)
    exact ⟨inR_i64 (by omega) (by omega), ⟨k + 1, by simp, by omega, trivial⟩, (by first | omega | (dsimp only; omega))⟩
end
end Go.Proofs.YtfhkgnfphfmhiaaGreatDoor
/- Documents of the program: counters; a node that nobody is yet. -/
namespace Go.Proofs.YtfhkgnfphfmhiaaGreatDoor
open Go.RowKit Go.Vc
set_option linter.unusedVariables false
set_option linter.unusedSimpArgs false
set_option maxRecDepth 100000
def wornN (sl : List Sl) : Nat := (sl.filter fun s => !s.live && decide (4294967295 ≤ s.gen)).length
theorem tk_sum (sl : List Sl) : tk sl = liveN sl + wornN sl := by
  induction sl with
  | nil => rfl
  | cons s l ih =>
    unfold tk liveN wornN at *
    simp only [List.filter_cons]
    cases hl : s.live <;> cases hd : decide (4294967295 ≤ s.gen) <;> simp_all <;> omega
theorem live_set {sl : List Sl} {k : Nat} {a b : Sl} (h : sl[k]? = some a) : liveN (sl.set k b) + (if a.live then 1 else 0) = liveN sl + (if b.live then 1 else 0) := filter_set_len (fun s : Sl => s.live) sl k a b h
theorem worn_set {sl : List Sl} {k : Nat} {a b : Sl} (h : sl[k]? = some a) : wornN (sl.set k b) + (if (!a.live && decide (4294967295 ≤ a.gen)) then 1 else 0) = wornN sl + (if (!b.live && decide (4294967295 ≤ b.gen)) then 1 else 0) := filter_set_len (fun s : Sl => !s.live && decide (4294967295 ≤ s.gen)) sl k a b h
theorem live_room {sl : List Sl} : liveN (roomF sl) = liveN sl ∧ wornN (roomF sl) = wornN sl := by
  unfold roomF liveN wornN
  split
  · exact ⟨rfl, rfl⟩
  · rw [List.filter_append, List.filter_append]; simp [deadS]
/-- A slot that has just come to life. -/
def bornS (g : Nat) : Sl := ⟨g, true, 0, noB, [], noB, 0, []⟩
structure PI (S : PS) : Prop where
  lv : S.lv = liveN S.D.sl
  wn : S.wn = wornN S.D.sl
  lo : S.lo ≤ S.D.sl.length
  lo2 : ∀ (i : Nat) (s : Sl), i < S.lo → S.D.sl[i]? = some s → s.live = true ∨ 4294967295 ≤ s.gen
/-- The document's colours, but for the nodes that are live. -/
def Cl (S : PS) (c : Nat) : Prop := pc c ∧ ∀ (i : Nat) (s : Sl), S.D.sl[i]? = some s → s.live = true → c ≠ 8 + 4 * i
theorem free_low {sl : List Sl} {n : Nat} (h : ∀ (i : Nat) (s : Sl), i < n → sl[i]? = some s → s.live = true ∨ 4294967295 ≤ s.gen) (hn : n ≤ sl.length) : n ≤ freeI sl := by
  refine Classical.byContradiction fun hlt => ?_
  have hf : freeI sl < sl.length := by omega
  obtain ⟨s, h1, h2, h3⟩ := freeI_lt hf
  rcases h _ s (by omega) h1 with h4 | h4
  · rw [h2] at h4; cases h4
  · omega
theorem below_free {sl : List Sl} {i : Nat} {s : Sl} (hi : i < freeI sl) (hs : sl[i]? = some s) : s.live = true ∨ 4294967295 ≤ s.gen := by
  have h1 := List.not_of_lt_findIdx (p := fun s : Sl => !s.live && decide (s.gen < 4294967295)) (xs := sl) hi
  obtain ⟨hl, e⟩ := List.getElem?_eq_some_iff.1 hs
  rw [e] at h1
  cases hv : s.live
  · simp [hv] at h1; exact .inr h1
  · exact .inl rfl
def lowIn (g : Nat) (w : World) : Nat := match w.cell? ⟨g, 4, none⟩ with | some (.int _ n) => n.toNat | _ => 0
section
variable {w w1 w2 : World} {o o1 o2 : Nat → Nat} {θ : Th} {S : PS} {M : Nat → Prop} {bs : List Nat} {R : Ending → World → Prop}
theorem Cl_zero : ¬ Cl S 0 := fun h => not_pc0 h.1
theorem Cl_doc {c : Nat} (h : c = 1 ∨ c = 2 ∨ c = 3) : Cl S c := by
  refine ⟨?_, fun i s _ _ => by omega⟩
  unfold pc; omega
theorem Cl_node {c i : Nat} (h : c = 8 + 4 * i ∨ c = 9 + 4 * i ∨ c = 10 + 4 * i) (hd : ∀ s, S.D.sl[i]? = some s → s.live = false) : Cl S c := by
  refine ⟨?_, fun j s hs hl e => ?_⟩
  · unfold pc; omega
  · have : j = i := by omega
    subst this
    rw [hd s hs] at hl; cases hl
theorem lowIn_pm (h : PM w o θ S) : lowIn θ.g w = S.lo := by unfold lowIn; rw [h.cells.2.2.2]; simp
theorem fresh_calls (h : PM w o θ S) (hp : PI S) (hw : WfS S.D.sl) (ht : tk S.D.sl < 4096) (hK : ∀ w' o' S' b, PM w' o' θ S' → PI S' → S'.D = { S.D with sl := (roomF S.D.sl).set (freeI S.D.sl) (bornS (genI S.D.sl)) } → (∃ x, S'.bs = S.bs ++ x) →
      S'.bs[freeI S.D.sl]? = some b → EvC (Cl S) w o w' o' → R (.returned (.pointer (some ⟨b, 0, none⟩))) w') : Calls Tryz.prog 85 #[.pointer (some ⟨θ.g, 0, none⟩)] w R := by
  refine ok85 (some ⟨θ.g, 0, none⟩) ?_
  unfold F85
  have hlo := free_low hp.lo2 hp.lo
  have hfl := freeI_le (sl := S.D.sl)
  have hfew := h.few
  have hlt := h.lt
  have tr : ∀ {w1 w2 : World} {o1 o2 : Nat → Nat}, EvC (Cl S) w o w1 o1 → EvC (Cl S) w1 o1 w2 o2 → EvC (Cl S) w o w2 o2 := fun a b => a.trans Cl_zero hlt (fun _ _ h => h) b
  refine ⟨fun w' => PM w' o θ { S with lo := freeI S.D.sl } ∧ EvC (Cl S) w o w' o, ?_, ?_⟩
  · rintro w1 ⟨h1, e1⟩
    unfold F85_j3
    refine ⟨fun w' => ∃ o' S', PM w' o' θ S' ∧ S'.D = { S.D with sl := roomF S.D.sl } ∧ S'.lv = S.lv ∧ S'.wn = S.wn ∧ S'.lo = freeI S.D.sl ∧ (∃ x, S'.bs = S.bs ++ x) ∧ EvC (Cl S) w o w' o', ?_, ?_⟩
    · rintro w2 ⟨o2, S2, h2, hD, hlv, hwn, hlo2, hbs, e2⟩
      unfold F85_j5
      refine dr fun w3 hb3 _ => ?_
      have h3 := h2.below hb3
      obtain ⟨⟨v, v1, v2, v3⟩, _, _, c4⟩ := h3.cells
      obtain ⟨A, c, ev, hr⟩ := v2.form
      obtain ⟨s, s1, s2, s3, s4⟩ := room_get hw
      have hsl : S2.D.sl = roomF S.D.sl := by rw [hD]
      have hgl := (List.getElem?_eq_some_iff.1 s1).1
      have hlen := h3.len
      rw [hsl] at hlen
      have hgb : freeI S.D.sl < S2.bs.length := by omega
      have k1 : S2.bs[freeI S.D.sl]? = some S2.bs[freeI S.D.sl] := List.getElem?_eq_getElem hgb
      generalize hb : S2.bs[freeI S.D.sl] = b at k1
      have k2 : S2.D.sl[freeI S.D.sl]? = some s := by rw [hsl]; exact s1
      rw [hlo2] at c4
      rw [ev] at v1
      have hdead : ∀ t, S.D.sl[freeI S.D.sl]? = some t → t.live = false := fun t ht => by
        have := room_old ht
        rw [s1] at this; cases this; exact s4
      simp only [NonNil_some, v1, c4, Addr.add_mk, List.getElem?_toArray, List.getElem?_cons_zero, List.getElem?_cons_succ, LdI_some, LdB_some, LdStr_some, LdP_some, LdSl_some, LdM_some, Nat.zero_add, Br_t, Br_f]
      refine hr.pt rfl rfl hgb fun x y c0 => ?_
      rw [hb] at c0
      simp only [c0, NonNil_some, h3.cGen k1 k2, Addr.add_mk, List.getElem?_toArray, List.getElem?_cons_zero, List.getElem?_cons_succ, LdI_some, LdB_some, LdStr_some, LdP_some, LdSl_some, LdM_some, Nat.zero_add, Br_t, Br_f]
      have e5 : ((s.gen : Nat) : Int) + 1 = ((s.gen + 1 : Nat) : Int) := by omega
      rw [e5]
      refine ⟨⟨by simp [IntKind.min, IntKind.signed]; omega, by simp [IntKind.max, IntKind.signed, IntKind.bits]; omega⟩, ?_⟩
      refine h3.stGen k1 k2 (g := s.gen + 1) (by omega) fun w4 h4 e4 => ?_
      have k3 : (S2.setS (freeI S.D.sl) { s with gen := s.gen + 1 }).D.sl[freeI S.D.sl]? = some { s with gen := s.gen + 1 } := by simp [PS.setS, hsl, hgl]
      refine h4.stLiv (b := b) k1 k3 true fun w5 h5 e5' => ?_
      obtain ⟨_, d2, _, _⟩ := h5.cells
      have d2 : w5.cell? ⟨θ.g, 2, none⟩ = some (.int .i64 (S.lv : Nat)) := by rw [← hlv]; exact d2
      simp only [d2, Addr.add_mk, List.getElem?_toArray, List.getElem?_cons_zero, List.getElem?_cons_succ, LdI_some, LdB_some, LdStr_some, LdP_some, LdSl_some, LdM_some, Nat.zero_add, Br_t, Br_f]
      have hlvn := hp.lv
      have htk := tk_sum S.D.sl
      have e6 : ((S.lv : Nat) : Int) + 1 = ((S.lv + 1 : Nat) : Int) := by omega
      rw [e6]
      refine ⟨inR_i64 (by omega) (by omega), h5.stLive (S.lv + 1) (by omega) fun w6 h6 e7 => ?_⟩
      have hev : EvC (Cl S) w o w6 o2 := by
        refine tr (tr (tr (tr e2 (EvC.below hb3)) (e4.mono fun c hc => Cl_node hc hdead)) (e5'.mono fun c hc => Cl_node hc hdead)) (e7.mono fun c hc => Cl_doc hc)
      obtain ⟨S6, hS6⟩ : ∃ S6 : PS, S6 = { (S2.setS (freeI S.D.sl) { s with gen := s.gen + 1 }).setS (freeI S.D.sl) { { s with gen := s.gen + 1 } with live := true } with lv := S.lv + 1 } := ⟨_, rfl⟩
      have h6' : PM w6 o2 θ S6 := by rw [hS6]; exact h6
      have hfin : S6.D.sl = (roomF S.D.sl).set (freeI S.D.sl) (bornS (genI S.D.sl)) := by
        rw [hS6]
        show (S2.D.sl.set _ _).set _ _ = _
        rw [List.set_set, hsl, genI_eq s1]
        congr 1
        rw [s2]; rfl
      have f1 : S6.lv = S.lv + 1 := by rw [hS6]
      have f2 : S6.wn = S2.wn := by rw [hS6]; rfl
      have f3 : S6.lo = S2.lo := by rw [hS6]; rfl
      have f4 : S6.bs = S2.bs := by rw [hS6]; rfl
      have f5 : S6.D.roots = S2.D.roots := by rw [hS6]; rfl
      have hset := live_set (b := (bornS (genI S.D.sl))) s1
      have wset := worn_set (b := (bornS (genI S.D.sl))) s1
      rw [s4] at hset wset
      have hg2 : ¬ 4294967295 ≤ s.gen := by omega
      simp [live_room.1, live_room.2, hg2, show (bornS (genI S.D.sl)).live = true from rfl] at hset wset
      refine hK w6 o2 S6 b h6' ⟨?_, ?_, ?_, ?_⟩ ?_ (by rw [f4]; exact hbs) (by rw [f4]; exact k1) hev
      · rw [f1, hfin]; omega
      · rw [f2, hfin, hwn, hp.wn]; omega
      · rw [f3, hfin, hlo2, List.length_set]; omega
      · intro i t hi ht2
        rw [f3, hlo2] at hi
        rw [hfin, List.getElem?_set_ne (by omega)] at ht2
        have hi2 : i < S.D.sl.length := by omega
        have := room_old (List.getElem?_eq_getElem hi2)
        rw [this] at ht2
        exact below_free hi (by rw [← ht2]; exact List.getElem?_eq_getElem hi2)
      · cases hS : S6.D with
        | mk l r =>
          rw [hS] at hfin f5
          dsimp only at hfin f5
          rw [hfin, f5, hD]
    · refine dr fun w2 hb2 _ => ?_
      have h2 := h1.below hb2
      obtain ⟨⟨v, v1, v2, v3⟩, _, _, c4⟩ := h2.cells
      obtain ⟨A, c, ev, hr⟩ := v2.form
      rw [ev] at v1
      have c4 : w2.cell? ⟨θ.g, 4, none⟩ = some (.int .i64 (freeI S.D.sl : Nat)) := c4
      have hlen : S.bs.length = S.D.sl.length := h2.len
      simp only [NonNil_some, v1, c4, Addr.add_mk, List.getElem?_toArray, List.getElem?_cons_zero, List.getElem?_cons_succ, LdI_some, LdB_some, LdStr_some, LdP_some, LdSl_some, LdM_some, Nat.zero_add, Br_t, Br_f]
      refine bre (fun heq => ?_) (fun hne => ?_)
      · have heq : freeI S.D.sl = S.bs.length := Int.ofNat.inj heq
        have hfull : ¬ freeI S.D.sl < S.D.sl.length := by omega
        have hl4 : S.D.sl.length < 4096 := by have := tk_full hfull; omega
        refine ⟨fun w' => Below w2.heap.size w2 w', (Below.refl _ _).drew, ?_⟩
        refine ⟨_, _, _, fun w' hb => by rw [(sub_below hb).cell v1], ?_⟩
        refine ⟨_, fun w' hb => by rw [(sub_below hb).cell c4], ?_⟩
        have e5 : ((freeI S.D.sl : Nat) : Int) + 1 = ((freeI S.D.sl + 1 : Nat) : Int) := by omega
        rw [e5]
        refine ⟨inR_i64 (by omega) (by omega), ⟨by simp [IntKind.min, IntKind.signed]; omega, by simp [IntKind.max, IntKind.signed, IntKind.bits]; omega⟩, ?_⟩
        refine al fun b w3 hb3 bn hge3 => ?_
        have D3 : Below w2.heap.size w2 w3 := btr ((Below.refl _ w2).drew) (by simp) hb3
        refine ⟨D3, al fun g5 w4 hb4 b5 hge4 => ?_⟩
        have D4 := btr D3 D3.size hb4
        refine ⟨D4, ?_⟩
        have hO4 : Own LPt w4 0 102 (.slice A S.bs.length c) S.bs := by rw [← ev]; exact v2.keep D4
        have hbl := bn.lt
        have hgeb : w2.heap.size ≤ b := by simpa using hge3
        refine ap (L := LPt) (xs := S.bs) (ys := [b]) (base := 0) (.pointer none) 8 rfl (by kernel_rfl) (by kernel_rfl) (by kernel_rfl) hO4 ?_ (Nat.zero_le _) (by simp; omega) (by simp [maxLen]; omega) fun A' c' w5 o5 g5' => ⟨A', _, c', rfl, ?_⟩
        · refine ⟨by simp, by simp [maxLen], fun h0 => (by cases h0), fun _ => ⟨g5, 0, rfl, fun j u hj => ?_⟩⟩
          rw [LPt.all_one] at hj
          rw [b5.cell]; simpa [LPt] using hj
        · have F5 : Fm (fun x => rowOf (slV (A, S.bs.length, c)) = some x) w2 w5 := (Fm.below D4).trans (Fm.grown g5'.grown fun x hx => hx)
          have hbn5 : Blk w5 b (nodeC S.D.sl.length (deadS 0) (none, 0, 0) none (none, 0, 0)) 152 := by
            have bn4 := bn.keep hb4
            have : Blk w5 b _ 152 := (Fm.grown g5'.grown (M := fun x => rowOf (slV (A, S.bs.length, c)) = some x) fun x hx => hx).blk bn4 fun e => by
              have := v3 b (by rw [ev]; exact e)
              have := h2.lt b (by rw [this]; decide)
              omega
            rw [heq, hlen] at this
            exact this
          refine h2.grow (v := (A, S.bs.length, c)) (v' := (A', S.bs.length + 1, c')) hgeb hbn5 (fun x hx => v3 x (by rw [ev]; exact hx)) F5 o5 ?_ hl4 fun w6 o6 h6 e6 => ?_
          · rcases g5'.row with e | e | ⟨g, e, hge⟩
            · exact .inl e
            · exact .inr (.inl e)
            · refine .inr (.inr ⟨g, e, ?_, ?_⟩)
              · have := D4.size; omega
              · have := hb4.size; omega
          · refine ⟨o6, _, h6, ?_, rfl, rfl, rfl, ⟨[b], rfl⟩, tr (tr e1 (EvC.below hb2)) (e6.mono fun c hc => Cl_doc (by omega))⟩
            show { S.D with sl := S.D.sl ++ [deadS 0] } = _
            unfold roomF
            rw [if_neg hfull]
      · have hne : freeI S.D.sl ≠ S.bs.length := fun e => hne (by rw [e])
        refine ⟨o, _, h2, ?_, rfl, rfl, rfl, ⟨[], by simp⟩, tr e1 (EvC.below hb2)⟩
        show S.D = _
        unfold roomF
        rw [if_pos (by omega)]
  · refine ⟨fun w' => ∃ n, n ≤ freeI S.D.sl ∧ PM w' o θ { S with lo := n } ∧ EvC (Cl S) w o w' o, fun w' => 4097 - lowIn θ.g w', ⟨S.lo, hlo, h, EvC.refl⟩, ?_⟩
    rintro w1 ⟨n, hn, h1, e1⟩
    have hlw : lowIn θ.g w1 = n := lowIn_pm h1
    unfold F85_l1
    refine ⟨fun w' => n < freeI S.D.sl ∧ PM w' o θ { S with lo := n } ∧ EvC (Cl S) w o w' o, ?_, ?_⟩
    · rintro w2 ⟨hn2, h2, e2⟩
      unfold F85_j2
      obtain ⟨_, _, _, c4⟩ := h2.cells
      have c4 : w2.cell? ⟨θ.g, 4, none⟩ = some (.int .i64 (n : Nat)) := c4
      simp only [NonNil_some, c4, Addr.add_mk, List.getElem?_toArray, List.getElem?_cons_zero, List.getElem?_cons_succ, LdI_some, LdB_some, LdStr_some, LdP_some, LdSl_some, LdM_some, Nat.zero_add, Br_t, Br_f]
      have e5 : ((n : Nat) : Int) + 1 = ((n + 1 : Nat) : Int) := by omega
      rw [e5]
      refine ⟨inR_i64 (by omega) (by omega), h2.stLow (n + 1) (by omega) fun w3 h3 e3 => ⟨⟨n + 1, by omega, h3, tr e2 (e3.mono fun c hc => Cl_doc hc)⟩, ?_⟩⟩
      have := lowIn_pm h3
      dsimp only at this
      rw [this, hlw]; omega
    · refine dr fun w2 hb2 _ => ?_
      have h2 := h1.below hb2
      have e2 := tr e1 (EvC.below hb2)
      obtain ⟨⟨v, v1, v2, v3⟩, _, _, c4⟩ := h2.cells
      obtain ⟨A, c, ev, hr⟩ := v2.form
      rw [ev] at v1
      have c4 : w2.cell? ⟨θ.g, 4, none⟩ = some (.int .i64 (n : Nat)) := c4
      have hlen : S.bs.length = S.D.sl.length := h2.len
      simp only [NonNil_some, v1, c4, Addr.add_mk, List.getElem?_toArray, List.getElem?_cons_zero, List.getElem?_cons_succ, LdI_some, LdB_some, LdStr_some, LdP_some, LdSl_some, LdM_some, Nat.zero_add, Br_t, Br_f]
      have exit : (∀ s, S.D.sl[n]? = some s → s.live = false ∧ s.gen < 4294967295) → n = freeI S.D.sl := fun hs => by
        refine Classical.byContradiction fun hne => ?_
        have hlt2 : n < freeI S.D.sl := by omega
        have hl : n < S.D.sl.length := by omega
        have := below_free hlt2 (List.getElem?_eq_getElem hl)
        obtain ⟨a, b⟩ := hs _ (List.getElem?_eq_getElem hl)
        rcases this with h3 | h3
        · rw [a] at h3; cases h3
        · omega
      refine brd (fun hlt2 => ?_) (fun hge => ?_)
      · have hnl : n < S.bs.length := by simpa using hlt2
        have k1 : S.bs[n]? = some S.bs[n] := List.getElem?_eq_getElem hnl
        have k2 : S.D.sl[n]? = some (S.D.sl[n]'(by omega)) := List.getElem?_eq_getElem (by omega)
        generalize hb : S.bs[n] = b at k1
        generalize (S.D.sl[n]'(by omega)) = s at k2
        refine hr.pt rfl rfl hnl fun x y c0 => ?_
        rw [hb] at c0
        have gl := h2.cLive k1 k2
        have gg := h2.cGen k1 k2
        simp only [c0, gl, NonNil_some, Addr.add_mk, List.getElem?_toArray, List.getElem?_cons_zero, List.getElem?_cons_succ, LdI_some, LdB_some, LdStr_some, LdP_some, LdSl_some, LdM_some, Nat.zero_add, Br_t, Br_f]
        have notfree : (s.live = true ∨ 4294967295 ≤ s.gen) → n < freeI S.D.sl := fun hs => by
          refine Nat.lt_of_le_of_ne hn fun e => ?_
          have hf : freeI S.D.sl < S.D.sl.length := by omega
          obtain ⟨t, t1, t2, t3⟩ := freeI_lt hf
          rw [← e, k2] at t1; cases t1
          rcases hs with h3 | h3
          · rw [t2] at h3; cases h3
          · omega
        refine br (fun hl => ⟨notfree (.inl hl), h2, e2⟩) (fun hl => ?_)
        refine hr.pt rfl rfl hnl fun x y c0 => ?_
        rw [hb] at c0
        simp only [c0, gg, NonNil_some, Addr.add_mk, List.getElem?_toArray, List.getElem?_cons_zero, List.getElem?_cons_succ, LdI_some, LdB_some, LdStr_some, LdP_some, LdSl_some, LdM_some, Nat.zero_add, Br_t, Br_f]
        refine bre (fun hg => ⟨notfree (.inr (by omega)), h2, e2⟩) (fun hg => ?_)
        have hsg := (h.rng s (List.mem_of_getElem? k2)).gen
        have := exit fun t ht => by rw [k2] at ht; cases ht; exact ⟨hl, by omega⟩
        rw [← this]
        exact ⟨h2, e2⟩
      · have := exit fun t ht => by
          have := (List.getElem?_eq_some_iff.1 ht).1
          have hge : ¬ ((n : Nat) : Int) < ((S.bs.length : Nat) : Int) := hge
          omega
        rw [← this]
        exact ⟨h2, e2⟩
end
end Go.Proofs.YtfhkgnfphfmhiaaGreatDoor
/- Documents of the program: new nodes of a tree. -/
namespace Go.Proofs.YtfhkgnfphfmhiaaGreatDoor
open Go.RowKit Go.Vc
set_option linter.unusedVariables false
set_option linter.unusedSimpArgs false
set_option maxRecDepth 100000
theorem cloneOwn_calls (l : List At) (v : Sv) {w : World} {R : Ending → World → Prop} (hl : RR LAt w l v) (h : ∀ v' w', Below w.heap.size w w' → Own LAt w' w.heap.size 156 (slV v') l → R (.returned (slV v')) w') :
    Calls Tryz.prog 86 #[slV v] w R := by
  refine ok86 v.1 v.2.1 v.2.2 ?_
  unfold F86
  refine br (fun hz => ?_) (fun hz => ?_)
  · have h1 : v.1 = none := by simpa using hz
    have h2 := hl.2.2.2.2.1 h1
    have h3 := hl.2.2.1
    have : l = [] := List.eq_nil_of_length_eq_zero (by omega)
    subst this
    exact h (none, 0, 0) w (Below.refl _ _) (Own.nil _ _ _ _)
  · refine al fun g w1 hb1 b1 hge => ?_
    obtain ⟨h1, h2, h3⟩ := hl.keep hb1
    have hm : l.length * 32 ≤ 1048576 * 32 := Nat.mul_le_mul h1 (Nat.le_refl _)
    refine ap (L := LAt) (xs := []) (ys := l) (base := w.heap.size) (.agg #[.string ⟨#[]⟩, .string ⟨#[]⟩]) 32 h2 rfl rfl rfl (Own.bare _ _ _ _ _) h3 hb1.size (by simp only [List.length_nil, Nat.zero_add]; omega) (by simp [maxLen]; omega) fun A' c' w2 o2 g2 => ⟨_, _, _, rfl, ?_⟩
    exact h (A', _, c') w2 (hb1.trans g2.below) (by rw [List.nil_append] at o2; exact o2)
theorem makesF_snoc {x : Tr} {h i : Nat} : ∀ (l : List Tr) (sl : List Sl), makesF (l ++ [x]) h i sl = (makeF x h (makesF l h i sl)).modify i fun s => { s with kids := s.kids ++ [freshH (makesF l h i sl)] }
  | [], sl => by
    rw [List.nil_append, makesF]
    simp only [makesF]
  | y :: l, sl => by
    rw [List.cons_append, makesF]
    conv => rhs; simp only [makesF]
    exact makesF_snoc l _
theorem okL_take : ∀ (l : List Tr) (k : Nat), okL l → okL (l.take k)
  | [], k, h => by simp [okL]
  | x :: l, 0, h => by simp [okL]
  | x :: l, k + 1, h => by
    simp only [List.take_succ_cons, okL] at *
    exact ⟨h.1, okL_take l k h.2⟩
theorem okL_get : ∀ (l : List Tr) (k : Nat) (hk : k < l.length), okL l → okT l[k]
  | [], k, hk, h => by simp at hk
  | x :: l, 0, hk, h => by simp only [okL] at h; exact h.1
  | x :: l, k + 1, hk, h => by simp only [okL] at h; exact okL_get l k (by simpa using hk) h.2
theorem dpL_take : ∀ (l : List Tr) (k : Nat), dpL (l.take k) ≤ dpL l
  | [], k => by simp [dpL]
  | x :: l, 0 => by simp [dpL]
  | x :: l, k + 1 => by
    have := dpL_take l k
    simp only [List.take_succ_cons, dpL]; omega
theorem dpL_get : ∀ (l : List Tr) (k : Nat) (hk : k < l.length), dpT l[k] ≤ dpL l
  | [], k, hk => by simp at hk
  | x :: l, 0, hk => by simp only [List.getElem_cons_zero, dpL]; omega
  | x :: l, k + 1, hk => by
    have := dpL_get l k (by simpa using hk)
    simp only [List.getElem_cons_succ, dpL]; omega
theorem szL_get : ∀ (l : List Tr) (k : Nat) (hk : k < l.length), szL (l.take k) + szT l[k] ≤ szL l
  | [], k, hk => by simp at hk
  | x :: l, 0, hk => by simp only [List.take_zero, List.getElem_cons_zero, szL]; omega
  | x :: l, k + 1, hk => by
    have := szL_get l k (by simpa using hk)
    simp only [List.take_succ_cons, List.getElem_cons_succ, szL]; omega
theorem szL_take : ∀ (l : List Tr) (k : Nat), szL (l.take k) ≤ szL l
  | [], k => by simp
  | x :: l, 0 => by simp [szL]
  | x :: l, k + 1 => by
    have := szL_take l k
    simp only [List.take_succ_cons, szL]; omega
section
variable {w w1 w2 : World} {o o1 o2 : Nat → Nat} {θ : Th} {S : PS} {M : Nat → Prop} {bs : List Nat} {R : Ending → World → Prop}
theorem PI.set (h : PI S) {i : Nat} {s s' : Sl} (hs : S.D.sl[i]? = some s) (hl : s'.live = s.live) (hg : s'.gen = s.gen) : PI (S.setS i s') := by
  have h1 := live_set (b := s') hs
  have h2 := worn_set (b := s') hs
  rw [hl] at h1
  rw [hl, hg] at h2
  refine ⟨?_, ?_, ?_, fun j t hj ht => ?_⟩
  · show S.lv = liveN (S.D.sl.set i s'); rw [h.lv]; omega
  · show S.wn = wornN (S.D.sl.set i s'); rw [h.wn]; omega
  · show S.lo ≤ (S.D.sl.set i s').length; rw [List.length_set]; exact h.lo
  · have ht : (S.D.sl.set i s')[j]? = some t := ht
    by_cases e : i = j
    · subst e
      rw [List.getElem?_set_self (List.getElem?_eq_some_iff.1 hs).1] at ht
      cases ht
      rw [hl, hg]; exact h.lo2 i s hj hs
    · rw [List.getElem?_set_ne e] at ht
      exact h.lo2 j t hj ht
theorem pb_ext {y : List Nat} {h : Nat} (hh : inN bs.length h) : pb (bs ++ y) h = pb bs h := by
  obtain ⟨h1, h2⟩ := hh
  unfold pb
  rw [List.getD_eq_getElem?_getD, List.getD_eq_getElem?_getD, List.getElem?_append_left (by omega)]
theorem ptr_ext {y : List Nat} {h : Nat} (hh : h = 0 ∨ inN bs.length h) : ptrH (bs ++ y) h = ptrH bs h := by
  unfold ptrH
  split
  · rfl
  · rw [pb_ext (hh.resolve_left (by assumption))]
theorem live_inN {sl : List Sl} {p : Nat} (hp : p = 0 ∨ ∃ t, slA sl p = some t ∧ t.kind = 1) : p = 0 ∨ inN sl.length p := by
  rcases hp with hp | ⟨t, ht, _⟩
  · exact .inl hp
  · obtain ⟨k, h1, h2, _⟩ := slA_iff.1 ht
    have := (List.getElem?_eq_some_iff.1 h2).1
    exact .inr ⟨by omega, by omega⟩
theorem live_few {sl : List Sl} {l : List Nat} (hl : ∀ h ∈ l, ∃ s, slA sl h = some s) (hn : l.Nodup) : l.length ≤ sl.length := by
  have h1 : (l.map fun h => h % 4294967296 - 1).Nodup := by
    refine List.pairwise_map.2 (List.Pairwise.imp_of_mem (fun {a b} ha hb hab e => ?_) hn)
    obtain ⟨s, hs⟩ := hl a ha
    obtain ⟨t, ht⟩ := hl b hb
    obtain ⟨i, i1, i2, i3, i4⟩ := slA_iff.1 hs
    obtain ⟨j, j1, j2, j3, j4⟩ := slA_iff.1 ht
    obtain rfl : i = j := by omega
    rw [i2] at j2; cases j2
    exact hab (i4.symm.trans j4)
  have h2 := nodup_sub h1 (b := List.range sl.length) fun x hx => by
    obtain ⟨h, hh, rfl⟩ := List.mem_map.1 hx
    obtain ⟨s, hs⟩ := hl h hh
    obtain ⟨i, i1, i2, i3, i4⟩ := slA_iff.1 hs
    have := (List.getElem?_eq_some_iff.1 i2).1
    exact List.mem_range.2 (by omega)
  simpa using h2
theorem setS_setS {i : Nat} {a b : Sl} : (S.setS i a).setS i b = S.setS i b := by unfold PS.setS; dsimp only; rw [List.set_set]
theorem make_calls : ∀ (x : Tr) {w : World} {o : Nat → Nat} {S : PS} {p c : Nat} {loose : List Nat} {e : E5} {R : Ending → World → Prop}, PM w o θ S → PI S → okT x → WfS S.D.sl → WfA (slA S.D.sl) S.D.roots loose → (p = 0 ∨ ∃ t, slA S.D.sl p = some t ∧ t.kind = 1) →
    Ch (slA S.D.sl) p c → c + dpT x ≤ 64 → tk S.D.sl + szT x ≤ 4096 → RTr (wc o w) x e →
    (∀ w' o' S', PM w' o' θ S' → PI S' → S'.D = { S.D with sl := makeF x p S.D.sl } → (∃ y, S'.bs = S.bs ++ y) → EvC (Cl S) w o w' o' → R (.returned (.pointer (ptrH S'.bs (freshH S.D.sl)))) w') →
    Calls Tryz.prog 49 #[.pointer (some ⟨θ.g, 0, none⟩), .agg #[.int .i64 e.kind, .string e.nm, slV e.ats, .string e.text, slV e.kids], .pointer (ptrH S.bs p)] w R := by
  refine Tr.ind fun kind nm attrs text kids ih => ?_
  intro w o S p c loose e R h hp hok hw hA hpp hc hd ht hT hK
  simp only [RTr] at hT
  obtain ⟨t1, t2, t3, t4, t5, es, t6, t7, t8⟩ := hT
  have hel := t8.len
  have hW := make_wf (.mk kind nm attrs text kids) hok hw hA hpp hc hd ht
  unfold okT at hok
  obtain ⟨ok1, ok2, ok3⟩ := hok
  unfold dpT at hd
  unfold szT at ht
  have htk : tk S.D.sl < 4096 := by split at ht <;> omega
  have hlt := h.lt
  refine ok49 (some ⟨θ.g, 0, none⟩) e.kind e.nm e.ats.1 e.ats.2.1 e.ats.2.2 e.text e.kids.1 e.kids.2.1 e.kids.2.2 (ptrH S.bs p) ?_
  unfold F49
  refine al fun g4 w1 hb1 b4 hge4 => ?_
  have h1 := h.below hb1
  have o4 : o g4 = 0 := Classical.byContradiction fun h0 => by have := hlt g4 h0; omega
  refine fresh_calls h1 hp hw htk fun w2 o2 S2 b h2 p2 hD2 ⟨y2, hy2⟩ hb2 e2 => ⟨_, rfl, ?_⟩
  have tr : ∀ {w1 w2 : World} {o1 o2 : Nat → Nat}, EvC (Cl S) w o w1 o1 → EvC (Cl S) w1 o1 w2 o2 → EvC (Cl S) w o w2 o2 := fun a b => a.trans Cl_zero hlt (fun _ _ h => h) b
  have E2 : EvC (Cl S) w o w2 o2 := tr (EvC.below hb1) e2
  obtain ⟨sd, d1, d2, d3, d4⟩ := room_get hw
  generalize hi : freeI S.D.sl = i at *
  generalize hg : genI S.D.sl = g at *
  have hgl := (List.getElem?_eq_some_iff.1 d1).1
  have hsl2 : S2.D.sl = (roomF S.D.sl).set i (bornS g) := by rw [hD2]
  have k2 : S2.D.sl[i]? = some (bornS g) := by rw [hsl2]; simp [hgl]
  have hdead : ∀ t, S.D.sl[i]? = some t → t.live = false := fun t ht => by
    have := room_old ht
    rw [d1] at this; cases this; exact d4
  -- the copy of the argument stays
  have g4k : ∀ {w' : World} {o' : Nat → Nat} {ce : Array Value} {ty : TypeId}, EvC (Cl S) w1 o w' o' → Blk w1 g4 ce ty → Blk w' g4 ce ty := fun ev hb => ev.fm.blk hb (by rw [o4]; exact Cl_zero)
  have B2 := g4k e2 b4
  simp only [Addr.add_mk, Nat.zero_add, NonNil_some, B2.cell, List.getElem?_toArray, List.getElem?_cons_zero, List.getElem?_cons_succ, Addr.add_mk, List.getElem?_toArray, List.getElem?_cons_zero, List.getElem?_cons_succ, LdI_some, LdB_some, LdStr_some, LdP_some, LdSl_some, LdM_some, Nat.zero_add, Br_t, Br_f]
  refine h2.stKind hb2 k2 e.kind fun w3 h3 e3 => ?_
  have h3 : PM w3 o2 θ (S2.setS i ⟨g, true, e.kind, noB, [], noB, 0, []⟩) := h3
  have kS : ∀ s', (S2.setS i s').D.sl[i]? = some s' := fun s' => by simp [PS.setS, hsl2, hgl]
  have hpn : p = 0 ∨ inN S.bs.length p := by rw [h.len]; exact live_inN hpp
  have hlen2 : S.D.sl.length ≤ S2.D.sl.length := by
    rw [hsl2, List.length_set]
    rcases room_len (sl := S.D.sl) with h | h <;> omega
  have hlenS : ∀ s', (S2.setS i s').D.sl.length = S2.D.sl.length := fun s' => by simp [PS.setS]
  have hpn2 : p = 0 ∨ inN (S2.setS i ⟨g, true, e.kind, noB, [], noB, 0, []⟩).D.sl.length p := by
    rcases hpn with e | ⟨a, b⟩
    · exact .inl e
    · refine .inr ⟨a, ?_⟩
      rw [h.len] at b
      rw [hlenS]; omega
  have hpe : ptrH S.bs p = ptrH (S2.setS i ⟨g, true, e.kind, noB, [], noB, 0, []⟩).bs p := by
    show _ = ptrH S2.bs p
    rw [hy2]; exact (ptr_ext hpn).symm
  rw [hpe]
  refine h3.stPar (b := b) hb2 (kS _) hpn2 fun w4 h4 e4 => ?_
  have h4 : PM w4 o2 θ (S2.setS i ⟨g, true, e.kind, noB, [], noB, p, []⟩) := by rw [setS_setS] at h4; exact h4
  have nd : ∀ {c : Nat}, (c = 8 + 4 * i ∨ c = 9 + 4 * i ∨ c = 10 + 4 * i) → Cl S c := fun hc => Cl_node hc hdead
  have e24 : EvC (Cl S) w1 o w4 o2 := (e2.trans Cl_zero h1.lt (fun _ _ h => h) (e3.mono fun c hc => nd hc)).trans Cl_zero h1.lt (fun _ _ h => h) (e4.mono fun c hc => nd hc)
  have E4 : EvC (Cl S) w o w4 o2 := tr (EvC.below hb1) e24
  have B4 := g4k e24 b4
  have p4 : PI (S2.setS i ⟨g, true, e.kind, noB, [], noB, p, []⟩) := p2.set k2 rfl rfl
  have hh : freshH S.D.sl % 4294967296 = i + 1 := by
    have := (room_wf hw htk).few
    unfold freshH; rw [hi]; exact hnd_mod (by omega)
  have hne : freshH S.D.sl ≠ 0 := by unfold freshH hnd; omega
  have hfin : ∀ {bs' : List Nat}, (∃ y, bs' = S2.bs ++ y) → pb bs' (freshH S.D.sl) = b := fun {bs'} ⟨y, hy⟩ => by
    unfold pb
    rw [hh, Nat.add_sub_cancel, hy, List.getD_eq_getElem?_getD, List.getElem?_append_left (List.getElem?_eq_some_iff.1 hb2).1, hb2]; rfl
  have hfinp : ∀ {bs' : List Nat}, (∃ y, bs' = S2.bs ++ y) → ptrH bs' (freshH S.D.sl) = some ⟨b, 0, none⟩ := fun {bs'} hy => by
    unfold ptrH
    rw [if_neg hne, hfin hy]
  have hDS : ∀ s', (S2.setS i s').D = { S.D with sl := (roomF S.D.sl).set i s' } := fun s' => by
    show { S2.D with sl := S2.D.sl.set i s' } = _
    rw [hD2]
    dsimp only
    rw [List.set_set]
  simp only [Addr.add_mk, Nat.zero_add, NonNil_some, B4.cell, List.getElem?_toArray, List.getElem?_cons_zero, List.getElem?_cons_succ, Addr.add_mk, List.getElem?_toArray, List.getElem?_cons_zero, List.getElem?_cons_succ, LdI_some, LdB_some, LdStr_some, LdP_some, LdSl_some, LdM_some, Nat.zero_add, Br_t, Br_f]
  refine bre (fun hk => ?_) (fun hk => ?_)
  · -- a text
    refine h4.stText (b := b) hb2 (kS _) e.text fun w5 h5 e5 => ?_
    have h5 : PM w5 o2 θ (S2.setS i ⟨g, true, e.kind, noB, [], e.text, p, []⟩) := by rw [setS_setS] at h5; exact h5
    have := hK w5 o2 _ h5 (p2.set k2 rfl rfl) ?_ ⟨y2, hy2⟩ (tr E4 (e5.mono fun c hc => nd hc))
    · have e6 := hfinp (bs' := S2.bs) ⟨[], by simp⟩
      rw [← e6]; exact this
    · rw [hDS]
      unfold makeF
      rw [if_pos (by rw [← t1]; exact hk), hi, hg, ← t1, ← t3]
  · -- an element
    have hk1 : kind ≠ 2 := by rw [← t1]; exact hk
    have hkk : kind = 1 := ok2.resolve_right hk1
    rw [if_neg hk1] at hd ht
    have hd4 : Below w4.heap.size w4 w4.drew := (Below.refl _ _).drew
    refine ⟨fun w' => Below w4.heap.size w4 w', hd4, ?_⟩
    refine ⟨_, fun w' hb => by rw [(B4.keep hb).cell]; rfl, ?_⟩
    refine ⟨_, _, _, fun w' hb => by rw [(B4.keep hb).cell]; rfl, ?_⟩
    have E4d : EvC (Cl S) w o w4.drew o2 := tr E4 (EvC.below hd4)
    have hats : RR LAt w4.drew attrs e.ats := (t4.sub (EvP.sub (E4d.mono fun c h => h.1))).sub sub_of_only
    refine cloneOwn_calls attrs e.ats hats fun a w5 hb5 ha => ⟨_, _, _, rfl, ?_⟩
    have D5 : Below w4.heap.size w4 w5 := btr hd4 (by simp) hb5
    refine ⟨D5, ?_⟩
    obtain ⟨a0, kv0, hn⟩ := h4.nodes i b _ hb2 (kS _)
    have hb6 : o2 b = 8 + 4 * i := h4.nc i b hb2
    have hbl := hn.blk.lt
    refine st_blk (hn.blk.keep D5) (by simp [nodeC]) fun w6 b6 f6 => st_blk b6 (by simp [nodeC]) fun w7 b7 f7 => ?_
    have b7 : Blk w7 b (nodeC i ⟨g, true, e.kind, e.nm, attrs, noB, p, []⟩ a (ptrH S2.bs p) kv0) 152 := by
      simpa [nodeC, slV, PS.setS] using b7
    have F67 : Fm (· = b) w5 w7 := Fm.trans f6 f7
    have harow : ∀ x, rowOf (slV a) = some x → w4.heap.size ≤ x := fun x hx => by have := (ha.lt x hx).1; simpa using this
    have F47b : Fm (· = b) w4 w7 := (Fm.below D5).trans F67
    have F47 : Fm (fun x => o2 x = 8 + 4 * i ∨ o2 x = 9 + 4 * i ∨ o2 x = 10 + 4 * i) w4 w7 := F47b.mono fun x _ e => .inl (by have e : x = b := e; rw [e]; exact hb6)
    have oz : ∀ x, w4.heap.size ≤ x → o2 x = 0 := fun x hx => Classical.byContradiction fun h0 => by have := h4.lt x h0; omega
    have hN : NodeR w7 (cl o2 (rowOf (slV a)) (10 + 4 * i)) S2.bs i b ⟨g, true, e.kind, e.nm, attrs, noB, p, []⟩ a kv0 := by
      refine ⟨b7, (own_fm ha F67 fun x hx e => ?_).rebase fun k _ => Nat.zero_le _, fun x hx => cl_row hx (.inl (oz x (harow x hx))), own_fm hn.kd1 F47b fun x hx e => ?_, fun x hx => ?_⟩
      · have e : x = b := e
        have := harow x hx; omega
      · have e : x = b := e
        have := hn.kd2 x hx; rw [e, hb6] at this; omega
      · have := hn.kd2 x hx
        rw [cl_old (by omega)]; exact this
    have rg4 := h4.rng _ (List.mem_of_getElem? (kS _))
    obtain ⟨h7, e7⟩ := h4.setNode (r := rowOf (slV a)) (c := 10 + 4 * i) hb2 (kS _) F47 (fun x hx => .inl hx) (.inr rfl) (fun x hx => ⟨fun _ => harow x hx, Nat.lt_of_lt_of_le (ha.lt x hx).2 F67.size⟩) hN ⟨rg4.gen, rg4.par, by simp, by simp, t4.1⟩
    generalize cl o2 (rowOf (slV a)) (10 + 4 * i) = o7 at h7 e7
    rw [setS_setS] at h7
    have e17 : EvC (Cl S) w1 o w7 o7 := e24.trans Cl_zero h1.lt (fun _ _ h => h) (e7.mono fun c hc => nd hc)
    have E7 : EvC (Cl S) w o w7 o7 := tr (EvC.below hb1) e17
    have B7 := g4k e17 b4
    simp only [Addr.add_mk, Nat.zero_add, NonNil_some, B7.cell, List.getElem?_toArray, List.getElem?_cons_zero, List.getElem?_cons_succ, Addr.add_mk, List.getElem?_toArray, List.getElem?_cons_zero, List.getElem?_cons_succ, LdI_some, LdB_some, LdStr_some, LdP_some, LdSl_some, LdM_some, Nat.zero_add, Br_t, Br_f]
    clear hN F47 F47b F67 b7 b6 f6 f7 hn ha hats D5 hd4 B4 e4 e3 h3 h4 hb5 E4d E4 e24
    -- the node hangs loose
    have hok7 : okSl ⟨g, true, 1, nm, attrs, noB, p, []⟩ := ⟨by rw [hkk] at ok1; unfold ownF at ok1 ⊢; exact ok1, .inl ⟨rfl, rfl⟩⟩
    obtain ⟨M7, hs7⟩ := one_wf (s := ⟨g, true, 1, nm, attrs, noB, p, []⟩) hok7 rfl rfl rfl hg.symm hw hA hpp hc (by omega) (by omega)
    rw [hi] at M7 hs7
    generalize hsl7 : (roomF S.D.sl).set i ⟨g, true, 1, nm, attrs, noB, p, []⟩ = sl7 at M7 hs7
    have hD7 : (S2.setS i ⟨g, true, e.kind, e.nm, attrs, noB, p, []⟩).D = { S.D with sl := sl7 } := by rw [hDS, ← hsl7, t1, hkk, t2]
    have p7 : PI (S2.setS i ⟨g, true, e.kind, e.nm, attrs, noB, p, []⟩) := p2.set k2 rfl rfl
    have hbs7 : (S2.setS i ⟨g, true, e.kind, e.nm, attrs, noB, p, []⟩).bs = S2.bs := rfl
    generalize S2.setS i ⟨g, true, e.kind, e.nm, attrs, noB, p, []⟩ = S7 at h7 hD7 p7 hbs7
    generalize hH : freshH S.D.sl = hh0 at *
    have hc7 : Ch (slA sl7) hh0 (c + 1) := .succ hne hs7 (hc.mono fun y t hy => ⟨t, M7.ext y t hy, rfl⟩)
    have mt7 := M7.tk
    have hmake : makeF (.mk kind nm attrs text kids) p S.D.sl = makesF kids hh0 i sl7 := by
      unfold makeF
      rw [if_neg hk1, hi, hg, hkk, hsl7, hH]
    rw [hmake] at hK
    have WK : ∀ k, k ≤ kids.length → WfS (makesF (kids.take k) hh0 i sl7) ∧ WfA (slA (makesF (kids.take k) hh0 i sl7)) S.D.roots (hh0 :: loose) ∧ (∃ ks, slA (makesF (kids.take k) hh0 i sl7) hh0 = some { (⟨g, true, 1, nm, attrs, noB, p, []⟩ : Sl) with kids := [] ++ ks }) ∧ tk (makesF (kids.take k) hh0 i sl7) = tk sl7 + szL (kids.take k) ∧ (∀ y t, slA S.D.sl y = some t → slA (makesF (kids.take k) hh0 i sl7) y = some t) := fun k hk => by
      have ht2 := szL_take kids k
      have hd2 := dpL_take kids k
      obtain ⟨r1, r2, r3, r4, r5, r6⟩ := makes_wf (kids.take k) (fun x hx {sl loose p c} => make_wf x (roots := S.D.roots)) (sl := sl7) (loose := hh0 :: loose) (h := hh0) (c := c + 1) (i := i) (okL_take _ _ (ok3 hkk)) M7.wfs M7.wf hh hs7 rfl hc7 (by omega) (by omega)
      refine ⟨r1, r2, r4, r5, fun y t hy => r3 y t ?_ (M7.ext y t hy)⟩
      rintro rfl
      have := M7.new
      rw [this] at hy; cases hy
    refine ⟨fun j w' => ∃ (k : Nat) (o' : Nat → Nat) (S' : PS), j = k ∧ k ≤ kids.length ∧ PM w' o' θ S' ∧ PI S' ∧ S'.D = { S.D with sl := makesF (kids.take k) hh0 i sl7 } ∧ (∃ y, S'.bs = S2.bs ++ y) ∧ EvC (Cl S) w1 o w' o', fun j _ => kids.length - j.toNat,
      ⟨0, o7, S7, rfl, by omega, h7, p7, by simpa [makesF] using hD7, ⟨[], by simp [hbs7]⟩, e17⟩, ?_⟩
    rintro j w8 ⟨k, o8, S8, rfl, hk8, h8, p8, hD8, ⟨y8, hy8⟩, e8⟩
    unfold F49_l8
    have hsub8 : Sub (wc o w) (wc o8 w8) := EvP.sub ((tr (EvC.below hb1) e8).mono fun c h => h.1)
    have hr8 : Rd LE5 w8 e.kids.1 e.kids.2.2 es := sub_of_only.rd (hsub8.rd t7)
    refine brd (fun hlt8 => ?_) (fun hge8 => ?_)
    rotate_left
    · have hk9 : k = kids.length := by omega
      subst hk9
      rw [List.take_length] at hD8
      have := hK w8 o8 S8 h8 p8 hD8 ⟨y2 ++ y8, by rw [hy8, hy2, List.append_assoc]⟩ (tr (EvC.below hb1) e8)
      rw [hfinp ⟨y8, hy8⟩] at this
      exact this
    · have hk9 : k < kids.length := by omega
      have hk10 : k < es.length := by omega
      obtain ⟨r1, r2, ⟨ks, r4⟩, r5, r6⟩ := WK k hk8
      have hsnoc := makesF_snoc (x := kids[k]) (h := hh0) (i := i) (kids.take k) sl7
      generalize hslk : makesF (kids.take k) hh0 i sl7 = slk at *
      have hsl8 : S8.D.sl = slk := by rw [hD8]
      have hro8 : S8.D.roots = S.D.roots := by rw [hD8]
      rw [List.nil_append] at r4
      have hs8 : slA S8.D.sl hh0 = some ⟨g, true, 1, nm, attrs, noB, p, ks⟩ := by rw [hsl8]; exact r4
      refine hr8.e5 t6 rfl (k := k) hk10 fun bb oo c0 c1 c2 c3 c4 => ?_
      simp only [Addr.add_mk, Nat.zero_add, c0, c1, c2, c3, c4, Addr.add_mk, List.getElem?_toArray, List.getElem?_cons_zero, List.getElem?_cons_succ, LdI_some, LdB_some, LdStr_some, LdP_some, LdSl_some, LdM_some, Nat.zero_add, Br_t, Br_f]
      refine al fun kb w9 hb9 bk9 hge9 => ?_
      refine st_blk bk9 (by simp) fun u1 q1 f1 => st_blk q1 (by simp) fun u2 q2 f2 => st_blk q2 (by simp) fun u3 q3 f3 => st_blk q3 (by simp) fun u4 q4 f4 => st_blk q4 (by simp) fun w10 q5 f5 => ?_
      simp only [List.setIfInBounds_toArray, List.set_cons_zero, List.set_cons_succ] at q5
      have FK : Fm (· = kb) w9 w10 := (((f1.trans f2).trans f3).trans f4).trans f5
      have D10 : Below w8.heap.size w8 w10 := hb9.trans (FK.toBelow hb9.size fun b hb e => by have e : b = kb := e; omega)
      have D10d : Below w8.heap.size w8 w10.drew := btr D10 D10.size ((Below.refl _ _).drew)
      have h10 := h8.below D10d
      obtain ⟨i8, i8a, i8b, i8c, i8d⟩ := h10.of hs8
      obtain rfl : i = i8 := by omega
      have hpb8 : pb S8.bs hh0 = b := hfin ⟨y8, hy8⟩
      rw [hpb8] at i8b
      obtain ⟨v, cv, ov, rv, lv⟩ := h10.list (.inr i8d)
      have hlad : lad θ.g S8.bs hh0 = ⟨b, 8, none⟩ := by unfold lad; rw [if_neg hne, hpb8]
      rw [hlad] at cv
      have okb : o8 kb = 0 := Classical.byContradiction fun h0 => by have := h8.lt kb h0; omega
      simp only [Addr.add_mk, Nat.zero_add, NonNil_some]
      refine ⟨fun w' => w'.cell? ⟨b, 8, none⟩ = some (slV v) ∧ Blk w' kb #[.int .i64 es[k].kind, .string es[k].nm, slV es[k].ats, .string es[k].text, slV es[k].kids] 73, ⟨cv, q5⟩, ?_⟩
      refine ⟨_, _, _, fun w' hw' => hw'.1, ?_⟩
      refine ⟨_, fun w' hw' => by rw [hw'.2.cell]; rfl, ?_⟩
      refine ⟨_, fun w' hw' => by rw [hw'.2.cell]; rfl, ?_⟩
      refine ⟨_, _, _, fun w' hw' => by rw [hw'.2.cell]; rfl, ?_⟩
      refine ⟨_, fun w' hw' => by rw [hw'.2.cell]; rfl, ?_⟩
      refine ⟨_, _, _, fun w' hw' => by rw [hw'.2.cell]; rfl, ?_⟩
      have hdk := dpL_get kids k hk9
      have hzk := szL_get kids k hk9
      have hA8 : WfA (slA S8.D.sl) S8.D.roots (hh0 :: loose) := by rw [hsl8, hro8]; exact r2
      have hw8 : WfS S8.D.sl := by rw [hsl8]; exact r1
      have hck : Ch (slA S8.D.sl) hh0 (c + 1) := by
        rw [hsl8]
        exact .succ hne r4 (hc.mono fun y t hy => ⟨t, r6 y t hy, rfl⟩)
      have om1 : c + 1 + dpT kids[k] ≤ 64 := by omega
      have om2 : tk S8.D.sl + szT kids[k] ≤ 4096 := by rw [hsl8]; omega
      have key := fun R => ih kids[k] (List.getElem_mem hk9) (w := w10.drew) (o := o8) (S := S8) (p := hh0) (c := c + 1) (loose := hh0 :: loose) (e := es[k]) (R := R) h10 p8 (okL_get kids k hk9 (ok3 hkk)) hw8 hA8 (.inr ⟨_, hs8, rfl⟩) hck om1 om2
        (RTr.sub (EvP.sub (EvC.below D10d)) _ _ (RTr.sub hsub8 _ _ (t8.get k hk9 hk10)))
      rw [hfinp ⟨y8, hy8⟩] at key
      refine key _ fun w11 o11 S11 h11 p11 hD11 ⟨y11, hy11⟩ e11 => ⟨_, rfl, ?_⟩
      clear key
      -- what making the child leaves as it is
      have hlive8 : ∃ s, S8.D.sl[i]? = some s ∧ s.live = true := ⟨_, i8c, slA_live hs8⟩
      have hbk : w11.heap[b]? = w10.drew.heap[b]? := e11.fm.block b (Array.getElem?_eq_some_iff.1 (h10.nodes i b _ i8b i8c).choose_spec.choose_spec.blk).1 (by
        rw [h10.nc i b i8b]
        rintro ⟨_, hc⟩
        exact hc i _ i8c (slA_live hs8) rfl)
      have hcell : w11.cell? ⟨b, 8, none⟩ = some (slV v) := by
        rw [← cv]; unfold World.cell?; rw [hbk]
      have hkb : Blk w11 kb #[.int .i64 es[k].kind, .string es[k].nm, slV es[k].ats, .string es[k].text, slV es[k].kids] 73 := e11.fm.blk (show Blk w10.drew kb _ _ from q5) (by rw [okb]; exact Cl_zero)
      have Mk := make_wf kids[k] (okL_get kids k hk9 (ok3 hkk)) hw8 hA8 (.inr ⟨_, hs8, rfl⟩) hck om1 om2
      have hne2 : freshH S8.D.sl ≠ 0 := by unfold freshH hnd; omega
      have hptr : ptrH S11.bs (freshH S8.D.sl) = some ⟨pb S11.bs (freshH S8.D.sl), 0, none⟩ := by unfold ptrH; rw [if_neg hne2]
      rw [hptr]
      have hsl11 : S11.D.sl = makeF kids[k] hh0 S8.D.sl := by rw [hD11]
      have hro11 : S11.D.roots = S.D.roots := by rw [hD11, hD8]
      have hs11 : slA S11.D.sl hh0 = some ⟨g, true, 1, nm, attrs, noB, p, ks⟩ := by rw [hsl11]; exact Mk.ext _ _ hs8
      obtain ⟨i11, i11a, i11b, i11c, i11d⟩ := h11.of hs11
      obtain rfl : i = i11 := by omega
      have hpb11 : pb S11.bs hh0 = b := hfin ⟨y8 ++ y11, by rw [hy11, hy8, List.append_assoc]⟩
      rw [hpb11] at i11b
      obtain ⟨v11, cv11, ov11, rv11, lv11⟩ := h11.list (.inr i11d)
      have hlad11 : lad θ.g S11.bs hh0 = ⟨b, 8, none⟩ := by unfold lad; rw [if_neg hne, hpb11]
      rw [hlad11, hcell] at cv11
      have hvv : v11 = v := by
        obtain ⟨a1, a2, a3⟩ := v
        obtain ⟨c1, c2, c3⟩ := v11
        unfold slV at cv11
        simp only [Option.some.injEq, Value.slice.injEq] at cv11
        obtain ⟨rfl, rfl, rfl⟩ := cv11
        rfl
      subst hvv
      have hlst : lstR S11.D hh0 = ks := by
        unfold lstR
        rw [if_neg hne, hh, Nat.add_sub_cancel, i11c]
      rw [hlst] at ov11
      refine ⟨⟨hcell, hkb⟩, al fun g57 w12 hb12 b57 hge57 => ⟨⟨by rw [(sub_below hb12).cell hcell], hkb.keep hb12⟩, ?_⟩⟩
      obtain ⟨A9, c9, hv9, hr9⟩ := ov11.form
      have hlen9 : (ks.map (pb S11.bs)).length = ks.length := List.length_map _
      have hks4 : ks.length ≤ S8.D.sl.length := live_few (fun x hx => by
        obtain ⟨_, t, ht, _⟩ := (hA8.kid hh0 _ hs8).2 x hx
        exact ⟨t, ht⟩) (hA8.kid hh0 _ hs8).1
      have hfew8 := h8.few
      have hO12 : Own LPt w12 0 102 (slV v11) (ks.map (pb S11.bs)) := ov11.keep hb12
      refine ap (L := LPt) (xs := ks.map (pb S11.bs)) (ys := [pb S11.bs (freshH S8.D.sl)]) (base := 0) (v := slV v11) (.pointer none) 8 rfl (by kernel_rfl) (by kernel_rfl) (by kernel_rfl) hO12 ?_ (Nat.zero_le _) (by rw [hlen9]; simp; omega) (by rw [hlen9]; simp [maxLen]; omega) fun A' c' w13 o13 g13 => ⟨A', _, c', rfl, ?_⟩
      · refine ⟨by simp, by simp [maxLen], fun h0 => (by cases h0), fun _ => ⟨g57, 0, rfl, fun j u hj => ?_⟩⟩
        rw [LPt.all_one] at hj
        rw [b57.cell]; simpa [LPt] using hj
      · obtain ⟨st, hst, hstp⟩ := Mk.top
        have hst11 : slA S11.D.sl (freshH S8.D.sl) = some st := by rw [hsl11]; exact hst
        have F13 : Fm (fun x => rowOf (slV v11) = some x) w11 w13 := (Fm.below hb12).trans (Fm.grown g13.grown fun x hx => hx)
        have hrow13 : rowOf (slV (A', (ks.map (pb S11.bs)).length + [pb S11.bs (freshH S8.D.sl)].length, c')) = rowOf (slV v11) ∨ rowOf (slV (A', (ks.map (pb S11.bs)).length + [pb S11.bs (freshH S8.D.sl)].length, c')) = none ∨ ∃ g, rowOf (slV (A', (ks.map (pb S11.bs)).length + [pb S11.bs (freshH S8.D.sl)].length, c')) = some g ∧ w11.heap.size ≤ g := by
          rcases g13.row with e | e | ⟨g, e, hge⟩
          · exact .inl e
          · exact .inr (.inl e)
          · exact .inr (.inr ⟨g, e, by have := hb12.size; omega⟩)
        have hkin : ∀ x ∈ ks ++ [freshH S8.D.sl], inN S11.D.sl.length x := fun x hx => by
          rcases List.mem_append.1 hx with hx | hx
          · exact (h11.rng _ (List.mem_of_getElem? i11c)).kids x hx
          · rw [List.mem_singleton] at hx
            subst hx
            obtain ⟨_, _, _, _, hin⟩ := h11.of hst11
            exact hin
        have hst14 := fun K => h11.setList (K := K) (p := hh0) (v' := (A', (ks.map (pb S11.bs)).length + [pb S11.bs (freshH S8.D.sl)].length, c')) (l := ks ++ [freshH S8.D.sl]) (.inr i11d) rv11 F13 (by rw [List.map_append]; exact o13) hrow13 ⟨hkin, by simp; omega⟩
        rw [hlad11] at hst14
        refine hst14 _ fun w14 o14 h14 e14 => ⟨inR_i64 (by omega) (by omega), ⟨k + 1, o14, _, by simp, by omega, h14, ?_, ?_, ⟨y8 ++ y11, ?_⟩, ?_⟩, (by first | omega | (dsimp only; omega))⟩
        · -- the counters
          have hi11 := i11c
          have e5 : (setI S11.D hh0 (ks ++ [freshH S8.D.sl])).sl = S11.D.sl.set i ⟨g, true, 1, nm, attrs, noB, p, ks ++ [freshH S8.D.sl]⟩ := by
            unfold setI
            rw [if_neg hne, hh, Nat.add_sub_cancel, modify_set _ _ _ _ hi11]
          have e6 : (setI S11.D hh0 (ks ++ [freshH S8.D.sl])).roots = S11.D.roots := by
            unfold setI
            rw [if_neg hne]
          have := p11.set (s' := ⟨g, true, 1, nm, attrs, noB, p, ks ++ [freshH S8.D.sl]⟩) hi11 rfl rfl
          refine ⟨?_, ?_, ?_, ?_⟩
          · show S11.lv = liveN (setI _ _ _).sl; rw [e5]; exact this.lv
          · show S11.wn = wornN (setI _ _ _).sl; rw [e5]; exact this.wn
          · show S11.lo ≤ (setI _ _ _).sl.length; rw [e5]; exact this.lo
          · intro j t hj ht
            have ht : (setI S11.D hh0 (ks ++ [freshH S8.D.sl])).sl[j]? = some t := ht
            rw [e5] at ht
            exact this.lo2 j t hj ht
        · show setI S11.D hh0 (ks ++ [freshH S8.D.sl]) = _
          rw [List.take_succ_eq_append_getElem hk9, hsnoc]
          unfold setI
          rw [if_neg hne, hh, Nat.add_sub_cancel]
          have hi8 : (makeF kids[k] hh0 slk)[i]? = some ⟨g, true, 1, nm, attrs, noB, p, ks⟩ := by rw [← hsl8, ← hsl11]; exact i11c
          rw [hD11, hD8]
          dsimp only
          rw [modify_set _ _ _ _ hi8, modify_set _ _ _ _ hi8]
        · show S11.bs = _
          rw [hy11, hy8, List.append_assoc]
        · have hC : ∀ b, b < w1.heap.size → Cl S8 (o b) → Cl S (o b) := fun x _ hx => ⟨hx.1, fun j t hj hl => by
            have hjl : j + 1 < 4294967296 := by
              have := (List.getElem?_eq_some_iff.1 hj).1
              have := hw.few
              omega
            have h1 := r6 _ _ (slA_hnd hjl hj hl)
            rw [← hsl8] at h1
            obtain ⟨j', j1, j2, j3, j4⟩ := slA_iff.1 h1
            rw [hnd_mod hjl] at j1
            obtain rfl : j' = j := by omega
            exact hx.2 j' t j2 j3⟩
          have e18 := (e8.trans Cl_zero h1.lt (fun _ _ h => h) (EvC.below (C := Cl S) D10d)).trans Cl_zero h1.lt hC e11
          exact e18.trans Cl_zero h1.lt (fun x _ hx => by
            refine nd ?_
            unfold lcC at hx
            rw [if_neg hne, hh, Nat.add_sub_cancel] at hx
            exact hx) e14
end
end Go.Proofs.YtfhkgnfphfmhiaaGreatDoor
/- Documents of the program: whether one lies within another, how deep one is; a node put at a place, taken out. -/
namespace Go.Proofs.YtfhkgnfphfmhiaaGreatDoor
open Go.RowKit Go.Vc
set_option linter.unusedVariables false
set_option linter.unusedSimpArgs false
set_option maxRecDepth 100000
section
variable {w w1 w2 : World} {o o1 o2 : Nat → Nat} {θ : Th} {S : PS} {M : Nat → Prop} {bs : List Nat} {R : Ending → World → Prop}
theorem ptrL_H (h0 : slA S.D.sl 0 = none) {x : Nat} (hx : x = 0 ∨ ∃ s, slA S.D.sl x = some s) : ptrL S x = ptrH S.bs x := by
  unfold ptrL ptrH
  rcases hx with rfl | ⟨s, hs⟩
  · rw [h0]; simp
  · have : x ≠ 0 := fun e => by subst e; rw [h0] at hs; cases hs
    rw [hs, if_neg this]; simp
theorem lstI_R {p : Nat} (hp : p = 0 ∨ ∃ s, slA S.D.sl p = some s) : lstR S.D p = lstI S.D p := by
  unfold lstR lstI lstA
  by_cases h0 : p = 0
  · rw [if_pos h0, if_pos h0]
  · rw [if_neg h0, if_neg h0]
    obtain ⟨s, hs⟩ := hp.resolve_left h0
    obtain ⟨k, h1, h2, _⟩ := slA_iff.1 hs
    rw [h1, Nat.add_sub_cancel, h2, hs]
/-- Two live handles with one block are one. -/
theorem pb_inj (h : PM w o θ S) {x y : Nat} {s t : Sl} (hx : slA S.D.sl x = some s) (hy : slA S.D.sl y = some t) (e : pb S.bs x = pb S.bs y) : x = y := by
  obtain ⟨i, i1, i2, i3, _⟩ := h.of hx
  obtain ⟨j, j1, j2, j3, _⟩ := h.of hy
  rw [e] at i2
  obtain rfl := nodup_col h i2 j2
  obtain ⟨i', a1, a2, a3, a4⟩ := slA_iff.1 hx
  obtain ⟨j', b1, b2, b3, b4⟩ := slA_iff.1 hy
  obtain rfl : i' = i := by omega
  obtain rfl : j' = i' := by omega
  rw [a2] at b2; cases b2
  exact a4.symm.trans b4
theorem idxOf_map {f : Nat → Nat} {a : Nat} : ∀ {l : List Nat}, (∀ x ∈ l, f x = f a → x = a) → (l.map f).idxOf (f a) = l.idxOf a
  | [], _ => rfl
  | x :: l, h => by
    rw [List.map_cons, List.idxOf_cons, List.idxOf_cons]
    by_cases e : x = a
    · subst e; simp
    · have h1 : f x ≠ f a := fun e2 => e (h x (by simp) e2)
      have e1 : (f x == f a) = false := by simpa using h1
      have e2 : (x == a) = false := by simpa using e
      rw [e1, e2]
      simp only [cond_false]
      rw [idxOf_map fun y hy => h y (by simp [hy])]
theorem pb_cells (h : PM w o θ S) {x : Nat} {s : Sl} (hx : slA S.D.sl x = some s) : ∃ c t, w.heap[pb S.bs x]? = some (.cells c t (0, 0)) := by
  obtain ⟨i, i1, i2, i3, _⟩ := h.of hx
  obtain ⟨a, kv, hn⟩ := h.nodes _ _ _ i2 i3
  exact ⟨_, _, hn.blk⟩
theorem idxH_calls (h : PM w o θ S) {l : List Nat} {v : Sv} {a : Nat} {s : Sl} (hv : v.2.1 = l.length) (hr : Rd LPt w v.1 v.2.2 (l.map (pb S.bs))) (hl : l.length ≤ 1048576) (ha : slA S.D.sl a = some s) (hll : ∀ x ∈ l, ∃ t, slA S.D.sl x = some t) (hm : a ∈ l)
    (hK : R (.returned (.int .i64 (l.idxOf a : Nat))) w) : Calls Tryz.prog 88 #[slV v, .pointer (some ⟨pb S.bs a, 0, none⟩)] w R := by
  refine idx_calls (l := l.map (pb S.bs)) (by rw [List.length_map]; exact hv) hr (by rw [List.length_map]; exact hl) (fun x hx => ?_) (List.mem_map.2 ⟨a, hm, rfl⟩) ?_
  · rcases hx with rfl | hx
    · exact pb_cells h ha
    · obtain ⟨y, hy, rfl⟩ := List.mem_map.1 hx
      obtain ⟨t, ht⟩ := hll y hy
      exact pb_cells h ht
  · rw [idxOf_map fun x hx e => ?_]
    · exact hK
    · obtain ⟨t, ht⟩ := hll x hx
      exact pb_inj h ht ha e
/-- A node comes to stand at a place. -/
theorem put_calls (h : PM w o θ S) {n p a : Nat} {wh : Int} {s : Sl} (hn : slA S.D.sl n = some s) (hp : p = 0 ∨ ∃ t, slA S.D.sl p = some t) (hll : ∀ x ∈ lstI S.D p, ∃ t, slA S.D.sl x = some t) (hfew : (lstI S.D p).length ≤ 4096)
    (ha : 2 < wh → a ∈ lstI S.D p) (hnp : n ≠ p)
    (hK : ∀ w' o', PM w' o' θ { S with D := updI (putI S.D n p wh a) n fun s => { s with parent := p } } → EvP w o w' o' → R (.returned (.tuple #[])) w') :
    Calls Tryz.prog 50 #[.pointer (some ⟨θ.g, 0, none⟩), .pointer (some ⟨pb S.bs n, 0, none⟩), .pointer (ptrH S.bs p), .int .i64 wh, .pointer (ptrH S.bs a)] w R := by
  obtain ⟨i, i1, i2, i3, i4⟩ := h.of hn
  have hpn : p = 0 ∨ inN S.D.sl.length p := by
    rcases hp with e | ⟨t, ht⟩
    · exact .inl e
    · obtain ⟨_, _, _, _, hin⟩ := h.of ht; exact .inr hin
  refine ok50 (some ⟨θ.g, 0, none⟩) (some ⟨pb S.bs n, 0, none⟩) (ptrH S.bs p) wh (ptrH S.bs a) ?_
  unfold F50
  refine list_calls ⟨_, rfl, ?_⟩
  obtain ⟨v, cv, ov, rv, lv⟩ := h.list hpn
  rw [lstI_R hp] at ov lv
  generalize hL : lstI S.D p = l at *
  obtain ⟨A, c, hv, hr⟩ := ov.form
  have hv2 : v = (A, l.length, c) := by
    obtain ⟨a1, a2, a3⟩ := v
    unfold slV at hv
    simp only [Value.slice.injEq, List.length_map] at hv
    obtain ⟨rfl, rfl, rfl⟩ := hv
    rfl
  have cv' : w.cell? (lad θ.g S.bs p) = some (.slice A l.length c) := by rw [cv, hv2]; rfl
  rw [hv2] at ov rv
  have hpos : posF wh a l ≤ l.length := by
    unfold posF
    split
    · omega
    · split
      · exact List.idxOf_le_length
      · split
        · have := List.idxOf_lt_length_iff.2 (ha (by omega)); omega
        · omega
  refine ⟨fun j w' => w = w' ∧ j = (posF wh a l : Nat), ?_, ?_⟩
  · rintro j _ ⟨rfl, rfl⟩
    unfold F50_j9
    simp only [NonNil_some, cv', LdSl_some]
    refine al fun gx w1 hb1 bx hgex => ?_
    have h1 := h.below hb1
    refine insP_calls (x := pb S.bs n) (ov.keep hb1) (by rw [List.length_map]; exact hpos) bx rfl (fun e => by
      have := rv gx e
      have := h.lt gx (by unfold lcl at this; split at this <;> omega)
      omega) (by rw [List.length_map]; omega) fun v' w2 o2 f2 r2 => ⟨_, _, _, rfl, ?_⟩
    rw [← List.map_take, ← List.map_drop, ← List.map_cons, ← List.map_append] at o2
    refine h1.setList (v' := v') (l := insAt l (posF wh a l) n) hpn rv f2 o2 r2 ⟨fun x hx => ?_, ?_⟩ fun w3 o3 h3 e3 => ?_
    · rcases mem_insAt.1 hx with rfl | hx
      · exact i4
      · obtain ⟨t, ht⟩ := hll x hx
        obtain ⟨_, _, _, _, hin⟩ := h.of ht
        exact hin
    · unfold insAt; simp; omega
    · have e4 : slA (setI S.D p (insAt l (posF wh a l) n)).sl n = some s := by
        rw [(setI_A (l := insAt l (posF wh a l) n) hp).1, setA_of hn, if_neg (fun e => hnp e.1)]
      obtain ⟨j, j1, j2, j3, j4⟩ := h3.of e4
      obtain rfl : i = j := by omega
      simp only [NonNil_some, Addr.add_mk, Nat.zero_add]
      have hlen3 : (setI S.D p (insAt l (posF wh a l) n)).sl.length = S.D.sl.length := by
        unfold setI; split
        · rfl
        · simp
      have := fun K => h3.stPar (K := K) j2 j3 (p := p) (by dsimp only; rw [hlen3]; exact hpn)
      refine this _ fun w4 h4 e4' => ?_
      refine hK w4 o3 ?_ (EvP.trans (EvP.trans (EvC.below hb1) (e3.mono fun c hc => ?_)) (e4'.mono fun c hc => ?_))
      · have e5 : ({ S with D := setI S.D p (insAt l (posF wh a l) n) } : PS).setS i { s with parent := p } = { S with D := updI (putI S.D n p wh a) n fun s => { s with parent := p } } := by
          unfold PS.setS updI putI
          rw [hL, i1, Nat.add_sub_cancel, modify_set _ _ _ _ j3]
        rw [← e5]; exact h4
      · unfold lcC at hc
        unfold pc
        split at hc <;> omega
      · unfold pc; omega
  · refine bre (fun h2 => ?_) (fun h2 => bre (fun h3 => ?_) (fun h3 => bre (fun h4 => ?_) (fun h4 => ?_)))
    · simp only [NonNil_some, cv', LdSl_some]
      exact ⟨trivial, by unfold posF; rw [if_pos h2]⟩
    · simp only [NonNil_some, cv', LdSl_some]
      have ham := ha (by omega)
      obtain ⟨t, ht⟩ := hll a ham
      have a0 : ptrH S.bs a = some ⟨pb S.bs a, 0, none⟩ := by
        unfold ptrH; rw [if_neg]
        rintro rfl; rw [slA_zero] at ht; cases ht
      rw [a0]
      refine idxH_calls (v := (A, l.length, c)) h rfl hr lv ht hll ham ⟨_, rfl, rfl, ?_⟩
      unfold posF; rw [if_neg h2, if_pos h3]
    · simp only [NonNil_some, cv', LdSl_some]
      have ham := ha (by omega)
      obtain ⟨t, ht⟩ := hll a ham
      have a0 : ptrH S.bs a = some ⟨pb S.bs a, 0, none⟩ := by
        unfold ptrH; rw [if_neg]
        rintro rfl; rw [slA_zero] at ht; cases ht
      rw [a0]
      have hlt := List.idxOf_lt_length_iff.2 ham
      refine idxH_calls (v := (A, l.length, c)) h rfl hr lv ht hll ham ⟨_, rfl, inR_i64 (by omega) (by omega), rfl, ?_⟩
      unfold posF; rw [if_neg h2, if_neg h3, if_pos h4]; omega
    · exact ⟨rfl, by unfold posF; rw [if_neg h2, if_neg h3, if_neg h4]; rfl⟩
end
end Go.Proofs.YtfhkgnfphfmhiaaGreatDoor
/- Documents of the program: what is wrong with a tree; how deep a node's subtree is. -/
namespace Go.Proofs.YtfhkgnfphfmhiaaGreatDoor
open Go.RowKit Go.Vc
set_option linter.unusedVariables false
set_option linter.unusedSimpArgs false
set_option maxRecDepth 100000
theorem Tabs.sub {w w1 : World} (h : Tabs w) (hs : Sub w w1) : Tabs w1 := ⟨fun c hc => hs.cell (h.1 c hc), fun i hi => ⟨hs.cell (h.2 i hi).1, hs.cell (h.2 i hi).2⟩⟩
theorem looks_app : ∀ (l m : List Tr) (deep n : Nat), looksF (l ++ m) deep n = if (looksF l deep n).2 ≠ 0 then looksF l deep n else looksF m deep (looksF l deep n).1
  | [], m, deep, n => by simp [looksF]
  | x :: l, m, deep, n => by
    rw [List.cons_append, looksF]
    conv => rhs; rw [looksF]
    by_cases h : (lookF x deep n).2 ≠ 0
    · simp only [if_pos h]
    · simp only [if_neg h]
      exact looks_app l m deep _
theorem dpL_snoc (l : List Tr) (x : Tr) : dpL (l ++ [x]) = max (dpL l) (dpT x) := by
  induction l with
  | nil => simp [dpL]
  | cons y l ih => simp only [List.cons_append, dpL, ih]; omega
theorem subB {w w' : World} {gl : Nat} (hf : Fm (· = gl) w w') : Sub (but gl w) (but gl w') :=
  sub_only (fun b _ h => h) fun b hb h => hf.block b hb fun e => by
    have e : b = gl := e
    subst e
    rw [show Nat.beq b b = true from Nat.beq_refl b] at h; cases h
theorem look_calls : ∀ (x : Tr) {w : World} {gl deep n md : Nat} {e : E5} {R : Ending → World → Prop}, Blk w gl #[.int .i64 (n : Nat), .int .i64 (md : Nat)] 100 → RTr (but gl w) x e → Tabs (but gl w) → n ≤ 4096 → deep ≤ 65 → 1 ≤ deep → md ≤ 65 →
    (∀ w' n' md', Fm (· = gl) w w' → Blk w' gl #[.int .i64 (n' : Nat), .int .i64 (md' : Nat)] 100 → n' = (lookF x deep n).1 → ((lookF x deep n).2 = 0 → md' = max md (deep + dpT x - 1)) → R (.returned (.int .i64 (lookF x deep n).2)) w') →
    Calls Tryz.prog 45 #[.pointer (some ⟨gl, 0, none⟩), .agg #[.int .i64 e.kind, .string e.nm, slV e.ats, .string e.text, slV e.kids], .int .i64 (deep : Nat)] w R := by
  refine Tr.ind fun kind nm attrs text kids ih => ?_
  intro w gl deep n md e R hB hT hTb hn hd hd1 hmd hK
  have hT0 := hT
  simp only [RTr] at hT
  obtain ⟨t1, t2, t3, t4, t5, es, t6, t7, t8⟩ := hT
  have hel := t8.len
  refine ok45 (some ⟨gl, 0, none⟩) e.kind e.nm e.ats.1 e.ats.2.1 e.ats.2.2 e.text e.kids.1 e.kids.2.1 e.kids.2.2 (deep : Nat) ?_
  unfold F45
  refine al fun g4 w1 hb1 b4 hge4 => ?_
  have hgl := hB.lt
  have hB1 := hB.keep hb1
  have hne4 : g4 ≠ gl := by omega
  have hlook : lookF (.mk kind nm attrs text kids) deep n = if 64 < deep ∨ 4096 ≤ n then (n, 2) else if ownF kind nm attrs text ≠ 0 then (n, ownF kind nm attrs text) else if kind = 2 then (n + 1, 0) else looksF kids (deep + 1) (n + 1) := by rw [lookF]
  refine ⟨fun w' => w1 = w' ∧ ¬ (64 < deep ∨ 4096 ≤ n), ?_, ?_⟩
  · rintro _ ⟨rfl, hlim⟩
    rw [if_neg hlim] at hlook
    unfold F45_j3
    simp only [Addr.add_mk, Nat.zero_add, NonNil_some, b4.cell, List.getElem?_toArray, List.getElem?_cons_zero, List.getElem?_cons_succ, Addr.add_mk, List.getElem?_toArray, List.getElem?_cons_zero, List.getElem?_cons_succ, LdI_some, LdB_some, LdStr_some, LdP_some, LdSl_some, LdM_some, Nat.zero_add, Br_t, Br_f]
    have hs1 : Sub (but gl w) (but gl w1) := subB (.below hb1)
    refine own1_calls e.kind e.nm attrs e.ats e.text e.kids ((hTb.sub hs1).sub sub_of_only) ((t4.sub hs1).sub sub_of_only) fun w2 hb2 => ⟨_, rfl, ?_⟩
    rw [t1, t2, t3]
    have hB2 := hB1.keep hb2
    have b42 := b4.keep hb2
    refine brn (fun hne => ?_) (fun heq => ?_)
    · rw [if_pos hne] at hlook
      have := hK w2 n md (.below (btr hb1 hb1.size hb2)) hB2 (by rw [hlook]) (fun h => by rw [hlook] at h; exact absurd h hne)
      rw [hlook] at this; exact this
    rw [if_neg (by rw [heq]; simp)] at hlook
    simp only [Addr.add_mk, Nat.zero_add, NonNil_some, hB2.cell, List.getElem?_toArray, List.getElem?_cons_zero, List.getElem?_cons_succ, Addr.add_mk, List.getElem?_toArray, List.getElem?_cons_zero, List.getElem?_cons_succ, LdI_some, LdB_some, LdStr_some, LdP_some, LdSl_some, LdM_some, Nat.zero_add, Br_t, Br_f]
    have e5 : ((n : Nat) : Int) + 1 = ((n + 1 : Nat) : Int) := by omega
    rw [e5]
    refine ⟨inR_i64 (by omega) (by omega), st_blk hB2 (by simp) fun w3 hB3 f3 => ?_⟩
    simp only [List.setIfInBounds_toArray, List.set_cons_zero, List.set_cons_succ] at hB3
    simp only [Addr.add_mk, Nat.zero_add, NonNil_some, hB3.cell, List.getElem?_toArray, List.getElem?_cons_zero, List.getElem?_cons_succ, Addr.add_mk, List.getElem?_toArray, List.getElem?_cons_zero, List.getElem?_cons_succ, LdI_some, LdB_some, LdStr_some, LdP_some, LdSl_some, LdM_some, Nat.zero_add, Br_t, Br_f]
    refine st_blk hB3 (by simp) fun w4 hB4 f4 => ?_
    simp only [List.setIfInBounds_toArray, List.set_cons_zero, List.set_cons_succ] at hB4
    have e6 : (if ((deep : Nat) : Int) > ((md : Nat) : Int) then ((deep : Nat) : Int) else ((md : Nat) : Int)) = ((max md deep : Nat) : Int) := by
      split <;> omega
    rw [e6] at hB4
    have F4 : Fm (· = gl) w w4 := ((Fm.below (btr hb1 hb1.size hb2)).trans f3).trans f4
    have b44 : Blk w4 g4 _ 73 := (f3.trans f4).blk b42 (fun e => hne4 e)
    simp only [Addr.add_mk, Nat.zero_add, NonNil_some, b44.cell, List.getElem?_toArray, List.getElem?_cons_zero, List.getElem?_cons_succ, Addr.add_mk, List.getElem?_toArray, List.getElem?_cons_zero, List.getElem?_cons_succ, LdI_some, LdB_some, LdStr_some, LdP_some, LdSl_some, LdM_some, Nat.zero_add, Br_t, Br_f]
    have hpos : dpT (.mk kind nm attrs text kids) = if kind = 2 then 1 else 1 + dpL kids := by rw [dpT]
    refine bre (fun hk => ?_) (fun hk => ?_)
    · rw [if_pos (by rw [← t1]; exact hk)] at hlook hpos
      have := hK w4 (n + 1) (max md deep) F4 hB4 (by rw [hlook]) (fun _ => by rw [hpos]; omega)
      rw [hlook] at this; exact this
    · rw [if_neg (by rw [← t1]; exact hk)] at hlook hpos
      refine ⟨fun j w' => ∃ k n' md' : Nat, j = k ∧ k ≤ kids.length ∧ Fm (· = gl) w w' ∧ Blk w' gl #[.int .i64 (n' : Nat), .int .i64 (md' : Nat)] 100 ∧ (looksF (kids.take k) (deep + 1) (n + 1)).2 = 0 ∧ n' = (looksF (kids.take k) (deep + 1) (n + 1)).1 ∧ md' = max (max md deep) (deep + dpL (kids.take k)) ∧ n' ≤ 4096 ∧ md' ≤ 65, fun j _ => kids.length - j.toNat,
        ⟨0, n + 1, max md deep, rfl, by omega, F4, hB4, by simp [looksF], by simp [looksF], by simp [dpL], by omega, by omega⟩, ?_⟩
      rintro j w5 ⟨k, n5, md5, rfl, hk5, F5, hB5, q1, q2, q3, q4, q5⟩
      unfold F45_l11
      have hs5 : Sub (but gl w) (but gl w5) := subB F5
      have hr5 : Rd LE5 w5 e.kids.1 e.kids.2.2 es := sub_of_only.rd (hs5.rd t7)
      refine brd (fun hlt => ?_) (fun hge => ?_)
      · have hk6 : k < kids.length := by omega
        have hk7 : k < es.length := by omega
        refine hr5.e5 t6 rfl (k := k) hk7 fun bb oo c0 c1 c2 c3 c4 => ?_
        simp only [Addr.add_mk, Nat.zero_add, c0, c1, c2, c3, c4, Addr.add_mk, List.getElem?_toArray, List.getElem?_cons_zero, List.getElem?_cons_succ, LdI_some, LdB_some, LdStr_some, LdP_some, LdSl_some, LdM_some, Nat.zero_add, Br_t, Br_f]
        refine al fun kb w6 hb6 bk6 hge6 => ?_
        refine st_blk bk6 (by simp) fun u1 s1 f1 => st_blk s1 (by simp) fun u2 s2 f2 => st_blk s2 (by simp) fun u3 s3 f3 => st_blk s3 (by simp) fun u4 s4 f4 => st_blk s4 (by simp) fun w7 s5 f5 => ?_
        simp only [List.setIfInBounds_toArray, List.set_cons_zero, List.set_cons_succ] at s5
        have FK : Fm (· = kb) w6 w7 := (((f1.trans f2).trans f3).trans f4).trans f5
        have D7 : Below w5.heap.size w5 w7 := hb6.trans (FK.toBelow hb6.size fun b hb e => by have e : b = kb := e; omega)
        simp only [Addr.add_mk, Nat.zero_add, NonNil_some, s5.cell, List.getElem?_toArray, List.getElem?_cons_zero, List.getElem?_cons_succ, Addr.add_mk, List.getElem?_toArray, List.getElem?_cons_zero, List.getElem?_cons_succ, LdI_some, LdB_some, LdStr_some, LdP_some, LdSl_some, LdM_some, Nat.zero_add, Br_t, Br_f]
        have e8 : ((deep : Nat) : Int) + 1 = ((deep + 1 : Nat) : Int) := by omega
        rw [e8]
        have hs7 : Sub (but gl w) (but gl w7) := hs5.trans (subB (.below D7))
        refine ⟨inR_i64 (by omega) (by omega), ?_⟩
        refine ih kids[k] (List.getElem_mem hk6) (gl := gl) (n := n5) (md := md5) (e := es[k]) (hB5.keep D7) (RTr.sub hs7 _ _ (t8.get k hk6 hk7)) (hTb.sub hs7) q4 (by omega) (by omega) q5 fun w8 n8 md8 F8 hB8 z1 z2 => ⟨_, rfl, ?_⟩
        have F58 : Fm (· = gl) w w8 := (F5.trans (.below D7)).trans F8
        have hst := looks_app (kids.take k) [kids[k]] (deep + 1) (n + 1)
        rw [if_neg (by rw [q1]; simp), ← q2] at hst
        have hst2 : looksF [kids[k]] (deep + 1) n5 = lookF kids[k] (deep + 1) n5 := by
          rw [looksF]
          by_cases h : (lookF kids[k] (deep + 1) n5).2 ≠ 0
          · rw [if_pos h]
          · rw [if_neg h, looksF]
            have h : (lookF kids[k] (deep + 1) n5).2 = 0 := by simpa using h
            rw [← h]
        rw [hst2, ← List.take_succ_eq_append_getElem hk6] at hst
        refine brn (fun hne => ?_) (fun heq => ?_)
        · have hall := looks_app (kids.take (k + 1)) (kids.drop (k + 1)) (deep + 1) (n + 1)
          rw [List.take_append_drop, hst, if_pos hne] at hall
          rw [hall] at hlook
          have := hK w8 n8 md8 F58 hB8 (by rw [hlook]; exact z1) (fun h => by rw [hlook] at h; exact absurd h hne)
          rw [hlook] at this; exact this
        · obtain ⟨a1, a2, a3, a4⟩ := look_ok kids[k] (deep + 1) n5 heq
          have z2 := z2 heq
          refine ⟨inR_i64 (by omega) (by omega), ⟨k + 1, n8, md8, by simp, by omega, F58, hB8, by rw [hst]; exact heq, by rw [hst]; exact z1, ?_, by omega, by omega⟩, (by first | omega | (dsimp only; omega))⟩
          rw [List.take_succ_eq_append_getElem hk6, dpL_snoc]
          omega
      · have hk6 : k = kids.length := by omega
        subst hk6
        rw [List.take_length] at q1 q2 q3
        have := hK w5 n5 md5 F5 hB5 (by rw [hlook]; exact q2) (fun _ => by rw [hpos]; omega)
        rw [hlook, q1] at this; exact this
  · have hbad : (64 < deep ∨ 4096 ≤ n) → R (.returned (.int .i64 2)) w1 := fun h => by
      rw [if_pos h] at hlook
      have := hK w1 n md (.below hb1) hB1 (by rw [hlook]) (fun h => by rw [hlook] at h; cases h)
      rw [hlook] at this; exact this
    refine brd (fun h => hbad (.inl (by omega))) (fun h => ?_)
    simp only [Addr.add_mk, Nat.zero_add, NonNil_some, hB1.cell, List.getElem?_toArray, List.getElem?_cons_zero, List.getElem?_cons_succ, Addr.add_mk, List.getElem?_toArray, List.getElem?_cons_zero, List.getElem?_cons_succ, LdI_some, LdB_some, LdStr_some, LdP_some, LdSl_some, LdM_some, Nat.zero_add, Br_t, Br_f]
    exact brd (fun h2 => hbad (.inr (by omega))) (fun h2 => ⟨trivial, by omega⟩)
section
variable {w w1 w2 : World} {o o1 o2 : Nat → Nat} {θ : Th} {S : PS} {M : Nat → Prop} {bs : List Nat} {R : Ending → World → Prop}
end
end Go.Proofs.YtfhkgnfphfmhiaaGreatDoor
/- Documents of the program: Insert, Move. -/
namespace Go.Proofs.YtfhkgnfphfmhiaaGreatDoor
open Go.RowKit Go.Vc
set_option linter.unusedVariables false
set_option linter.unusedSimpArgs false
set_option maxRecDepth 100000
section
variable {w w1 w2 : World} {o o1 o2 : Nat → Nat} {θ : Th} {S : PS} {M : Nat → Prop} {bs : List Nat} {R : Ending → World → Prop}
theorem lst_live {loose : List Nat} (hA : WfA (slA S.D.sl) S.D.roots loose) (p : Nat) : ∀ x ∈ lstI S.D p, ∃ t, slA S.D.sl x = some t := fun x hx => by
  obtain ⟨_, t, ht, _⟩ := (hA.lst p).2 x hx
  exact ⟨t, ht⟩
theorem lst_few {loose : List Nat} (hw : WfS S.D.sl) (hA : WfA (slA S.D.sl) S.D.roots loose) (p : Nat) : (lstI S.D p).length ≤ 4096 :=
  Nat.le_trans (live_few (lst_live hA p) (hA.lst p).1) hw.few
theorem upd_same {D : Im} {n : Nat} {f : Sl → Sl} {s : Sl} (hn : slA D.sl n = some s) (hf : f s = s) : updI D n f = D := by
  obtain ⟨k, h1, h2, _⟩ := slA_iff.1 hn
  unfold updI
  rw [h1, Nat.add_sub_cancel, modify_set _ _ _ _ h2, hf]
  have : D.sl.set k s = D.sl := by
    refine List.ext_getElem? fun j => ?_
    by_cases e : k = j
    · subst e; rw [List.getElem?_set_self (List.getElem?_eq_some_iff.1 h2).1, h2]
    · rw [List.getElem?_set_ne e]
  rw [this]
theorem insert_calls (h : PM w o θ S) (hp : PI S) (hw : Wf S.D) (hT : Tabs (wc o w)) {x : Tr} {e : E5} (hx : RTr (wc o w) x e) {wh : Int} {a : Nat} (ha : a < 18446744073709551616)
    (hK : ∀ w' o' S', PM w' o' θ S' → PI S' → S'.D = (insF S.D wh a x).1 → EvP w o w' o' → R (.returned (.tuple #[.int .u64 ((insF S.D wh a x).2.1 : Nat), .int .i64 (insF S.D wh a x).2.2])) w') :
    Calls Tryz.prog 22 #[.pointer (some ⟨θ.g, 0, none⟩), .int .i64 wh, .int .u64 (a : Nat), .agg #[.int .i64 e.kind, .string e.nm, slV e.ats, .string e.text, slV e.kids]] w R := by
  have h00 := slA_zero S.D.sl
  have hfewS := h.few
  refine ok22 (some ⟨θ.g, 0, none⟩) wh (a : Nat) e.kind e.nm e.ats.1 e.ats.2.1 e.ats.2.2 e.text e.kids.1 e.kids.2.1 e.kids.2.2 ?_
  unfold F22
  refine al fun g7 w1 hb1 b7 hge7 => ?_
  have h1 := h.below hb1
  refine shaped_calls ⟨_, rfl, ?_⟩
  rw [Bool.not_not]
  have hpl : (placeF S.D wh a) = if wh < 1 ∨ 4 < wh ∨ (a = 0 ∧ 2 < wh) then ((0, 1) : Nat × Int) else if a = 0 then (0, 0) else match slA S.D.sl a with
    | none => (0, 8)
    | some s => if wh ≤ 2 then (if s.kind = 2 then (0, 31) else (a, 0)) else (s.parent, 0) := by unfold placeF; rfl
  refine brd (fun hsh => ?_) (fun hsh => ?_)
  · rw [if_pos hsh] at hpl
    have e1 : insF S.D wh a x = (S.D, 0, 1) := by unfold insF; rw [hpl, if_pos rfl]
    have := hK w1 o S h1 hp (by rw [e1]) (EvC.below hb1)
    rw [e1] at this; exact this
  rw [if_neg hsh] at hpl
  have hne1 : (placeF S.D wh a).2 ≠ 1 := by
    rw [hpl]
    split
    · simp
    · split
      · simp
      · split
        · split <;> simp
        · simp
  refine al fun gl w2 hb2 bl hgel => ?_
  have h2 := h1.below hb2
  have b72 := b7.keep hb2
  have B12 := btr hb1 hb1.size hb2
  simp only [Addr.add_mk, Nat.zero_add, NonNil_some, b72.cell, List.getElem?_toArray, List.getElem?_cons_zero, List.getElem?_cons_succ, Addr.add_mk, List.getElem?_toArray, List.getElem?_cons_zero, List.getElem?_cons_succ, LdI_some, LdB_some, LdStr_some, LdP_some, LdSl_some, LdM_some, Nat.zero_add, Br_t, Br_f]
  have hlsub : Sub w (but gl w2) := old_but B12 (by have := hb1.size; omega)
  refine look_calls x (gl := gl) (deep := 1) (n := 0) (md := 0) (e := e) bl (RTr.sub (sub_of_only.trans hlsub) _ _ hx) (hT.sub (sub_of_only.trans hlsub)) (by omega) (by omega) (by omega) (by omega) fun w3 n3 md3 F3 hB3 q1 q2 => ⟨_, rfl, ?_⟩
  have og : o gl = 0 := Classical.byContradiction fun h0 => by have := h1.lt gl h0; have := hb1.size; omega
  have o7 : o g7 = 0 := Classical.byContradiction fun h0 => by have := h.lt g7 h0; omega
  have h3 : PM w3 o θ S := h2.keep F3 (fun b hb hm => by have hm : b = gl := hm; rw [hm, og] at hb; exact not_pc0 hb) (fun _ _ => rfl) fun b hb => Nat.lt_of_lt_of_le (h2.lt b hb) F3.size
  have E3 : EvP w o w3 o := ⟨(Fm.below B12).trans' F3 (fun b hb hm => by have hm : b = gl := hm; have := hb1.size; omega), fun _ _ => rfl, fun _ _ h => h, fun _ h => .inl h⟩
  refine brn (fun hne => ?_) (fun heq => ?_)
  · have e1 : insF S.D wh a x = (S.D, 0, (lookF x 1 0).2) := by unfold insF; rw [if_neg hne1, if_pos hne]
    have := hK w3 o S h3 hp (by rw [e1]) E3
    rw [e1] at this; exact this
  obtain ⟨k1, k2, k3, k4⟩ := look_ok x 1 0 heq
  have q2 := q2 heq
  rw [k2] at q1
  have hdpos := dpT_pos x
  have hmd : md3 = dpT x := by rw [q2]; omega
  refine atL_calls h3 ha fun w4 hb4 => ⟨_, rfl, ?_⟩
  have h4 := h3.below hb4
  have E4 := EvP.trans E3 (EvC.below hb4)
  have bl4 := hB3.keep hb4
  have b74 : Blk w4 g7 _ 73 := (F3.blk b72 (fun e => by have e : g7 = gl := e; have := b7.lt; omega)).keep hb4
  refine ⟨fun w' => w4 = w' ∧ (a = 0 ∨ ∃ s, slA S.D.sl a = some s), ?_, ?_⟩
  · rintro _ ⟨rfl, hae⟩
    unfold F22_j10
    rw [ptrL_H h00 hae]
    refine par_calls h4 hsh hae ⟨_, _, rfl, ?_⟩
    have hins : insF S.D wh a x = if (placeF S.D wh a).2 ≠ 0 then (S.D, 0, (placeF S.D wh a).2) else
        if 64 < cntI S.D (placeF S.D wh a).1 + dpT x then (S.D, 0, 32) else if 4096 < tk S.D.sl + szT x then (S.D, 0, 33) else
        (putI { S.D with sl := makeF x (placeF S.D wh a).1 S.D.sl } (freshH S.D.sl) (placeF S.D wh a).1 wh a, freshH S.D.sl, 0) := by
      unfold insF; rw [if_neg hne1, if_neg (by rw [heq]; simp)]
    refine brn (fun hne => ?_) (fun hpz => ?_)
    · rw [if_pos hne] at hins
      have := hK w4 o S h4 hp (by rw [hins]) E4
      rw [hins] at this; exact this
    rw [if_neg (by rw [hpz]; simp)] at hins
    obtain ⟨p1, p2, p3, p4, p5, p6⟩ := place_ok hw hpz
    generalize hP : (placeF S.D wh a).1 = p at *
    obtain ⟨c1, c2⟩ := hw.cnt (p1.imp id fun ⟨t, h, _⟩ => ⟨t, h⟩)
    have hd4 : Below w4.heap.size w4 w4.drew := (Below.refl _ _).drew
    refine ⟨fun w' => Below w4.heap.size w4 w', hd4, ?_⟩
    simp only [Addr.add_mk, Nat.zero_add]
    refine ⟨_, fun w' hb => by rw [(bl4.keep hb).cell]; rfl, ?_⟩
    refine level_calls (h4.below hd4) h00 c2 c1 ⟨_, rfl, hd4, ?_⟩
    refine ⟨inR_i64 (by clear p1; omega) (by clear p1; omega), inR_i64 (by clear p1; omega) (by clear p1; omega), ?_⟩
    refine brd (fun hgt => ?_) (fun hle => ?_)
    · rw [if_pos (by clear p1; omega)] at hins
      have := hK w4.drew o S (h4.below hd4) hp (by rw [hins]) (EvP.trans E4 (EvC.below hd4))
      rw [hins] at this; exact this
    rw [if_neg (by clear p1; omega)] at hins
    refine dr fun w5 hb5 _ => ?_
    have D5 := btr hd4 (by simp) hb5
    have h5 := h4.below D5
    have bl5 := bl4.keep D5
    obtain ⟨_, d2, d3, _⟩ := h5.cells
    have htk := tk_sum S.D.sl
    have hlv := hp.lv
    have hwn := hp.wn
    have htl := tk_le (sl := S.D.sl)
    simp only [NonNil_some, d2, d3, bl5.cell, List.getElem?_toArray, List.getElem?_cons_zero, List.getElem?_cons_succ, Addr.add_mk, List.getElem?_toArray, List.getElem?_cons_zero, List.getElem?_cons_succ, LdI_some, LdB_some, LdStr_some, LdP_some, LdSl_some, LdM_some, Nat.zero_add, Br_t, Br_f]
    refine ⟨inR_i64 (by clear p1; omega) (by clear p1; omega), inR_i64 (by clear p1; omega) (by clear p1; omega), ?_⟩
    refine brd (fun hgt => ?_) (fun hle2 => ?_)
    · rw [if_pos (by clear p1; omega)] at hins
      have := hK w5 o S h5 hp (by rw [hins]) (EvP.trans E4 (EvC.below D5))
      rw [hins] at this; exact this
    rw [if_neg (by clear p1; omega)] at hins
    have b75 := b74.keep D5
    simp only [Addr.add_mk, Nat.zero_add, NonNil_some, b75.cell, List.getElem?_toArray, List.getElem?_cons_zero, List.getElem?_cons_succ, Addr.add_mk, List.getElem?_toArray, List.getElem?_cons_zero, List.getElem?_cons_succ, LdI_some, LdB_some, LdStr_some, LdP_some, LdSl_some, LdM_some, Nat.zero_add, Br_t, Br_f]
    have E5 := EvP.trans E4 (EvC.below D5)
    refine make_calls x (p := p) (c := cntI S.D p) (loose := []) h5 hp k1 hw.s hw.a p1 c2 (by clear p1; omega) (by clear p1; omega) (RTr.sub E5.sub _ _ hx) fun w6 o6 S6 h6 p6' hD6 ⟨y6, hy6⟩ e6 => ⟨_, rfl, ?_⟩
    have Mk := make_wf x k1 hw.s hw.a p1 c2 (by clear p1; omega) (by clear p1; omega)
    obtain ⟨st, st1, st2⟩ := Mk.top
    have hne0 : freshH S.D.sl ≠ 0 := by unfold freshH hnd; omega
    have hsl6 : S6.D.sl = makeF x p S.D.sl := by rw [hD6]
    have hro6 : S6.D.roots = S.D.roots := by rw [hD6]
    have hn6 : slA S6.D.sl (freshH S.D.sl) = some st := by rw [hsl6]; exact st1
    have hA6 : WfA (slA S6.D.sl) S6.D.roots [freshH S.D.sl] := by rw [hsl6, hro6]; exact Mk.wf
    have hpe : p = 0 ∨ ∃ t, slA S6.D.sl p = some t := by
      rcases p1 with e | ⟨t, ht, _⟩
      · exact .inl e
      · exact .inr ⟨t, by rw [hsl6]; exact Mk.ext _ _ ht⟩
    have hptr : ptrH S6.bs (freshH S.D.sl) = some ⟨pb S6.bs (freshH S.D.sl), 0, none⟩ := by unfold ptrH; rw [if_neg hne0]
    have hpp : ptrH S.bs p = ptrH S6.bs p := by
      rw [hy6]
      refine (ptr_ext ?_).symm
      rw [h.len]; exact live_inN p1
    have hpa : ptrH S.bs a = ptrH S6.bs a := by
      rw [hy6]
      refine (ptr_ext ?_).symm
      rw [h.len]
      rcases hae with e | ⟨s, hs⟩
      · exact .inl e
      · obtain ⟨_, _, _, _, hin⟩ := h.of hs; exact .inr hin
    have hnp : freshH S.D.sl ≠ p := fun e => by
      rcases p1 with e1 | ⟨t, ht, _⟩
      · exact hne0 (e.trans e1)
      · rw [← e, Mk.new] at ht; cases ht
    rw [hptr, hpp, hpa]
    have hlst6 : lstI S6.D p = lstI S.D p := by
      unfold lstI lstA
      rw [hro6]
      by_cases h0 : p = 0
      · rw [if_pos h0, if_pos h0]
      · rw [if_neg h0, if_neg h0]
        obtain ⟨t, ht, _⟩ := p1.resolve_left h0
        rw [ht, hsl6, Mk.ext _ _ ht]
    refine put_calls h6 hn6 hpe (lst_live hA6 p) (lst_few (by rw [hsl6]; exact Mk.wfs) hA6 p) (fun h2 => ?_) hnp fun w7 o7 h7 e7 => ⟨rfl, ?_⟩
    · rw [hlst6]
      obtain ⟨s, s1, s2⟩ := p4 h2
      have := hw.a.mem a s s1 (by simp)
      rw [s2] at this; exact this
    have hput : updI (putI S6.D (freshH S.D.sl) p wh a) (freshH S.D.sl) (fun s => { s with parent := p }) = putI S6.D (freshH S.D.sl) p wh a := by
      have e4 : slA (putI S6.D (freshH S.D.sl) p wh a).sl (freshH S.D.sl) = some st := by
        unfold putI
        rw [(setI_A (l := insAt (lstI S6.D p) (posF wh a (lstI S6.D p)) (freshH S.D.sl)) hpe).1, setA_of hn6, if_neg (fun e => hnp e.1)]
      refine upd_same e4 ?_
      cases st
      simp only at st2
      simp only [st2]
    rw [hput] at h7
    have e4 : slA (putI S6.D (freshH S.D.sl) p wh a).sl (freshH S.D.sl) = some st := by
      unfold putI
      rw [(setI_A (l := insAt (lstI S6.D p) (posF wh a (lstI S6.D p)) (freshH S.D.sl)) hpe).1, setA_of hn6, if_neg (fun e => hnp e.1)]
    refine hnd_calls h7 e4 fun w8 hb8 => ⟨_, rfl, ?_⟩
    have p7 : PI { S6 with D := putI S6.D (freshH S.D.sl) p wh a } := by
      unfold putI setI
      by_cases h0 : p = 0
      · rw [if_pos h0]; exact ⟨p6'.lv, p6'.wn, p6'.lo, p6'.lo2⟩
      · rw [if_neg h0]
        obtain ⟨t, ht⟩ := hpe.resolve_left h0
        obtain ⟨k, m1, m2, _⟩ := slA_iff.1 ht
        rw [m1, Nat.add_sub_cancel, modify_set _ _ _ _ m2]
        exact p6'.set (s' := { t with kids := insAt (lstI S6.D p) (posF wh a (lstI S6.D p)) (freshH S.D.sl) }) m2 rfl rfl
    have := hK w8 o7 { S6 with D := putI S6.D (freshH S.D.sl) p wh a } (h7.below hb8) p7 (by rw [hins, hD6]) (EvP.trans (EvP.trans (EvP.trans E5 (e6.mono fun c h => h.1)) e7) (EvC.below hb8))
    rw [hins] at this; exact this
  · have hbad : slA S.D.sl a = none → a ≠ 0 → R (.returned (.tuple #[.int .u64 0, .int .i64 8])) w4 := fun hn h0 => by
      rw [if_neg h0, hn] at hpl
      have e1 : insF S.D wh a x = (S.D, 0, 8) := by unfold insF; rw [if_neg hne1, if_neg (by rw [heq]; simp), if_pos (by rw [hpl]; simp), hpl]
      have := hK w4 o S h4 hp (by rw [e1]) E4
      rw [e1] at this; exact this
    refine brn (fun h0 => ?_) (fun h0 => ⟨rfl, .inl (by omega)⟩)
    have h0 : a ≠ 0 := by omega
    cases hs : slA S.D.sl a with
    | none =>
      have e : ptrL S a = none := by unfold ptrL; rw [hs]; rfl
      rw [e]
      simp only [Option.isNone_none, Br_t]
      exact hbad hs h0
    | some s =>
      have e : (ptrL S a).isNone = false := by unfold ptrL; rw [hs]; rfl
      rw [e, Br_f]
      exact ⟨rfl, .inr ⟨s, rfl⟩⟩
end
end Go.Proofs.YtfhkgnfphfmhiaaGreatDoor
/- Documents of the program: Delete. -/
namespace Go.Proofs.YtfhkgnfphfmhiaaGreatDoor
open Go.RowKit Go.Vc
set_option linter.unusedVariables false
set_option linter.unusedSimpArgs false
set_option maxRecDepth 100000
section
variable {w w1 w2 : World} {o o1 o2 : Nat → Nat} {θ : Th} {S : PS} {M : Nat → Prop} {bs : List Nat} {R : Ending → World → Prop}
end
end Go.Proofs.YtfhkgnfphfmhiaaGreatDoor
set_option linter.unusedVariables false
set_option maxRecDepth 100000
namespace Go.Proofs.YtfhkgnfphfmhiaaGreatDoor
open Go.Vc

end Go.Proofs.YtfhkgnfphfmhiaaGreatDoor
/- Strings in their order; attributes by their names; strings.Compare. -/
namespace Go.Proofs.YtfhkgnfphfmhiaaGreatDoor
open Go.RowKit Go.Vc
set_option linter.unusedSimpArgs false
end Go.Proofs.YtfhkgnfphfmhiaaGreatDoor
/- Documents of the program: SetName, SetText, SetAttr, DropAttr. -/
namespace Go.Proofs.YtfhkgnfphfmhiaaGreatDoor
open Go.RowKit Go.Vc
set_option linter.unusedSimpArgs false
section
variable {w w1 w2 : World} {o o1 o2 : Nat → Nat} {θ : Th} {S : PS} {M : Nat → Prop} {bs : List Nat} {R : Ending → World → Prop}
end
end Go.Proofs.YtfhkgnfphfmhiaaGreatDoor
/- Documents of the program: SetAttr, DropAttr. -/
namespace Go.Proofs.YtfhkgnfphfmhiaaGreatDoor
open Go.RowKit Go.Vc
set_option linter.unusedSimpArgs false
section
variable {w w1 w2 : World} {o o1 o2 : Nat → Nat} {θ : Th} {S : PS} {M : Nat → Prop} {bs : List Nat} {R : Ending → World → Prop}
end
end Go.Proofs.YtfhkgnfphfmhiaaGreatDoor
/- Documents of the program: Kids, Roots, Parent, Level, All. -/
namespace Go.Proofs.YtfhkgnfphfmhiaaGreatDoor
open Go.RowKit Go.Vc
set_option linter.unusedSimpArgs false
section
variable {w w1 w2 w0 : World} {o o1 o2 : Nat → Nat} {θ : Th} {S : PS} {M : Nat → Prop} {bs : List Nat} {R : Ending → World → Prop} {loose : List Nat}
theorem slvF {v : Sv} {A : Option Addr} {n c : Nat} (h : slV v = .slice A n c) : v = (A, n, c) := by
  obtain ⟨a1, a2, a3⟩ := v
  unfold slV at h
  simp only [Value.slice.injEq] at h
  obtain ⟨rfl, rfl, rfl⟩ := h
  rfl
theorem hx_lt (h : PM w o θ S) {x : Nat} {s : Sl} (hx : slA S.D.sl x = some s) : x < 18446744073709551616 := by
  obtain ⟨i, i1, i2, i3, i4⟩ := h.of hx
  have hgen := (h.rng s (List.mem_of_getElem? i3)).gen
  have hf := h.few
  obtain ⟨k, k1, k2, k3, k4⟩ := slA_iff.1 hx
  have := (List.getElem?_eq_some_iff.1 k2).1
  unfold hnd at k4; omega
theorem Parent_calls (h : PM w o θ S) (hA : WfA (slA S.D.sl) S.D.roots loose) {x : Nat} {s : Sl} (hx : slA S.D.sl x = some s)
    (hK : ∀ w', Below w.heap.size w w' → R (.returned (.tuple #[.int .u64 (s.parent : Nat), .int .i64 0])) w') : Calls Tryz.prog 53 #[.pointer (some ⟨θ.g, 0, none⟩), .int .u64 (x : Nat)] w R := by
  refine ok53 (some ⟨θ.g, 0, none⟩) x ?_
  unfold F53
  obtain ⟨i, i1, i2, i3, i4⟩ := h.of hx
  refine atL_calls h (hx_lt h hx) fun w1 hb1 => ⟨_, rfl, ?_⟩
  have e : ptrL S x = some ⟨pb S.bs x, 0, none⟩ := by unfold ptrL; rw [hx]; rfl
  rw [e]
  have h1 := h.below hb1
  simp only [Option.isNone_some, Br_f, NonNil_some, Addr.add_mk, Nat.zero_add, h1.cPar i2 i3, Addr.add_mk, List.getElem?_toArray, List.getElem?_cons_zero, List.getElem?_cons_succ, LdI_some, LdB_some, LdStr_some, LdP_some, LdSl_some, LdM_some, Nat.zero_add, Br_t, Br_f]
  rcases hA.par x s hx with hp | ⟨t, ht, _⟩
  · have e2 : ptrH S.bs s.parent = none := by unfold ptrH; rw [if_pos hp]
    rw [e2]
    refine hndN_calls ⟨_, rfl, ?_⟩
    have := hK w1 hb1
    rw [hp] at this; exact this
  · have p0 : s.parent ≠ 0 := fun e => by rw [e, slA_zero] at ht; cases ht
    have e2 : ptrH S.bs s.parent = some ⟨pb S.bs s.parent, 0, none⟩ := by unfold ptrH; rw [if_neg p0]
    rw [e2]
    exact hnd_calls h1 ht fun w2 hb2 => ⟨_, rfl, hK w2 (btr hb1 hb1.size hb2)⟩
theorem all_fewP {D : Im} (hS : WfS D.sl) (hA : WfA (slA D.sl) D.roots []) {r x : Nat} (hx : ∃ s, slA D.sl x = some s) : (allA (slA D.sl) r x).length ≤ 4096 :=
  Nat.le_trans (live_few (fun y hy => all_live hA hx (fun z hz => by simp at hz) hy) (all_nodup hA r x hx fun z hz => by simp at hz)) hS.few
theorem allP_calls (h : PM w0 o θ S) (hA : WfA (slA S.D.sl) S.D.roots loose) : ∀ (r : Nat) {l : List Nat} {v : Sv} {cc : Nat} {w : World} {A : Option Addr} {n c : Nat} {xs : List Nat} {R : Ending → World → Prop}, v.2.1 = l.length → Rd LPt w0 v.1 v.2.2 (l.map (pb S.bs)) → l.length ≤ 1048576 → (∀ x ∈ l, ∃ t, slA S.D.sl x = some t ∧ Ch (slA S.D.sl) x cc) → 65 ≤ cc + r →
    Below w0.heap.size w0 w → Own LHn w w0.heap.size 41 (.slice A n c) xs → xs.length + (l.flatMap (allA (slA S.D.sl) r)).length ≤ 4398046511104 →
    (∀ A' n' c' w', Below w0.heap.size w0 w' → Own LHn w' w0.heap.size 41 (.slice A' n' c') (xs ++ l.flatMap (allA (slA S.D.sl) r)) → R (.returned (.slice A' n' c')) w') →
    Calls Tryz.prog 52 #[.slice v.1 v.2.1 v.2.2, .slice A n c] w R := by
  intro r
  induction r with
  | zero =>
    intro l v cc w A n c xs R hv hr hl hll hcr hb ho hlen hK
    have hl0 : l = [] := by
      cases l with
      | nil => rfl
      | cons x l =>
        obtain ⟨t, t1, t2⟩ := hll x (by simp)
        obtain ⟨c', h1, h2⟩ := hA.chain x t t1
        have := t2.fn h2; omega
    subst hl0
    refine ok52 v.1 v.2.1 v.2.2 A n c ?_
    unfold F52
    refine ⟨fun A' n' c' j w' => j = 0 ∧ A' = A ∧ n' = n ∧ c' = c ∧ w' = w, fun _ _ _ _ _ => 0, ⟨rfl, rfl, rfl, rfl, rfl⟩, ?_⟩
    rintro _ _ _ _ _ ⟨rfl, rfl, rfl, rfl, rfl⟩
    unfold F52_l2
    refine brd (fun hlt => absurd hlt (by rw [hv]; simp)) (fun _ => hK _ _ _ _ hb (by simpa using ho))
  | succ r ih =>
    intro l v cc w A n c xs R hv hr hl hll hcr hb ho hlen hK
    refine ok52 v.1 v.2.1 v.2.2 A n c ?_
    unfold F52
    refine ⟨fun A' n' c' j w' => ∃ k : Nat, j = k ∧ k ≤ l.length ∧ Below w0.heap.size w0 w' ∧ Own LHn w' w0.heap.size 41 (.slice A' n' c') (xs ++ (l.take k).flatMap (allA (slA S.D.sl) (r + 1))), fun _ _ _ j _ => l.length - j.toNat, ⟨0, rfl, by omega, hb, by simpa using ho⟩, ?_⟩
    rintro A1 n1 c1 j w1 ⟨k, rfl, hk, hb1, ho1⟩
    unfold F52_l2
    refine brd (fun hlt => ?_) (fun hge => ?_)
    · have hk2 : k < l.length := by omega
      refine (hr.keep hb1).pt (by rw [List.length_map]; exact hv) rfl (k := k) (by rw [List.length_map]; exact hk2) fun bb oo cx => ?_
      rw [List.getElem_map] at cx
      simp only [cx, Addr.add_mk, List.getElem?_toArray, List.getElem?_cons_zero, List.getElem?_cons_succ, LdI_some, LdB_some, LdStr_some, LdP_some, LdSl_some, LdM_some, Nat.zero_add, Br_t, Br_f]
      obtain ⟨t, t1, t2⟩ := hll l[k] (List.getElem_mem hk2)
      obtain ⟨i, i1, i2, i3, i4⟩ := h.of t1
      have hdr : Below w1.heap.size w1 w1.drew := (Below.refl _ _).drew
      have B1d := btr hb1 hb1.size hdr
      obtain ⟨kv, ck, ok, rk⟩ := h.cKids i2 i3
      obtain ⟨Ak, ckk, hkf, hkr⟩ := ok.form
      have ek := slvF hkf
      have hkids : ∀ y ∈ t.kids, ∃ u, slA S.D.sl y = some u ∧ u.parent = l[k] := fun y hy => ((hA.kid _ t t1).2 y hy).2
      have hst : (l.take (k + 1)).flatMap (allA (slA S.D.sl) (r + 1)) = (l.take k).flatMap (allA (slA S.D.sl) (r + 1)) ++ (l[k] :: t.kids.flatMap (allA (slA S.D.sl) r)) := by
        rw [List.take_succ_eq_append_getElem hk2, List.flatMap_append, ← allA_some t1]; simp
      have hle : ((l.take (k + 1)).flatMap (allA (slA S.D.sl) (r + 1))).length ≤ (l.flatMap (allA (slA S.D.sl) (r + 1))).length := by
        have e : l.flatMap (allA (slA S.D.sl) (r + 1)) = (l.take (k + 1)).flatMap (allA (slA S.D.sl) (r + 1)) ++ (l.drop (k + 1)).flatMap (allA (slA S.D.sl) (r + 1)) := by rw [← List.flatMap_append, List.take_append_drop]
        rw [e, List.length_append]; omega
      rw [hst, List.length_append, List.length_cons] at hle
      refine ⟨fun w' => Below w0.heap.size w0 w', B1d, ?_⟩
      simp only [NonNil_some, Addr.add_mk, Nat.zero_add]
      refine ⟨kv.1, kv.2.1, kv.2.2, fun w' hw => (sub_below hw).cell ck, ?_⟩
      refine hnd_calls (h.below B1d) t1 fun w2 hb2 => ⟨_, rfl, ?_⟩
      have B2 := btr B1d B1d.size hb2
      refine ⟨B2, ?_⟩
      refine ap1S (L := LHn) (x := l[k]) (S := fun w' => Below w0.heap.size w0 w') (.int .u64 0) 8 rfl (by kernel_rfl) (by kernel_rfl) (by kernel_rfl) ((ho1.keep hdr).keep hb2) B2.size (by simp only [List.length_append]; omega) (by simp only [maxLen, List.length_append]; omega) (fun w' hb' => btr B2 B2.size hb') fun A3 c3 w3 o3 g3 => ⟨A3, _, c3, rfl, ?_⟩
      have B3 := B2.trans g3.below
      refine ⟨B3, ?_⟩
      refine ih (l := t.kids) (v := kv) (cc := cc + 1) (by rw [ek]; simp) (by rw [ek]; exact hkr) (Nat.le_trans (live_few (fun y hy => by obtain ⟨u, hu, _⟩ := hkids y hy; exact ⟨u, hu⟩) (hA.kid _ t t1).1) (by have := h.few; omega)) (fun y hy => by
        obtain ⟨u, u1, u2⟩ := hkids y hy
        exact ⟨u, u1, .succ (hA.ne0 u1) u1 (by rw [u2]; exact t2)⟩) (by omega) B3 o3 (by simp only [List.length_append, List.length_singleton]; omega) fun A4 n4 c4 w4 hb4 o4 => ⟨A4, n4, c4, rfl, inR_i64 (by omega) (by omega), ⟨k + 1, by simp, by omega, hb4, ?_⟩, (by first | omega | (dsimp only; omega))⟩
      rw [hst, ← List.append_assoc]
      rw [List.append_assoc _ [l[k]], List.singleton_append] at o4
      exact o4
    · have hk2 : k = l.length := by omega
      subst hk2
      rw [List.take_length] at ho1
      exact hK _ _ _ _ hb1 ho1
theorem AllT_calls (h : PM w o θ S) (hS : WfS S.D.sl) (hA : WfA (slA S.D.sl) S.D.roots []) {x : Nat} (hxl : x < 18446744073709551616) (h0 : x ≠ 0)
    (hK : ∀ v' w', Below w.heap.size w w' → (∀ s, slA S.D.sl x = some s → Own LHn w' w.heap.size 41 (slV v') (allA (slA S.D.sl) 65 x)) → R (.returned (.tuple #[slV v', .int .i64 (if (slA S.D.sl x).isSome = true then 0 else 8)])) w') : Calls Tryz.prog 23 #[.pointer (some ⟨θ.g, 0, none⟩), .int .u64 (x : Nat)] w R := by
  refine ok23 (some ⟨θ.g, 0, none⟩) x ?_
  unfold F23
  refine bre (fun e => absurd (by omega) h0) (fun _ => ?_)
  refine atL_calls h hxl fun w1 hb1 => ⟨_, rfl, ?_⟩
  have h1 := h.below hb1
  cases hx : slA S.D.sl x with
  | none =>
    have e : ptrL S x = none := by unfold ptrL; rw [hx]; rfl
    rw [e]
    simp only [Option.isNone_none, Br_t]
    have := hK (none, 0, 0) w1 hb1 (fun s hs => by rw [hx] at hs; cases hs)
    rw [hx] at this
    exact this
  | some s =>
    have e : ptrL S x = some ⟨pb S.bs x, 0, none⟩ := by unfold ptrL; rw [hx]; rfl
    rw [e]
    simp only [Option.isNone_some, Br_f]
    refine al fun g20 w2 hb2 b2 hge2 => ?_
    have B2 := btr hb1 hb1.size hb2
    obtain ⟨c, c1, c2⟩ := hA.chain x s hx
    have hlen := all_fewP hS hA (r := 65) ⟨s, hx⟩
    have hone : ([x] : List Nat).flatMap (allA (slA S.D.sl) 65) = allA (slA S.D.sl) 65 x := by simp
    refine allP_calls (h.below B2) hA 65 (l := [x]) (v := (some ⟨g20, 0, none⟩, 1, 1)) (cc := c) (xs := []) rfl ?_ (by simp) (fun y hy => by rw [List.mem_singleton] at hy; subst hy; exact ⟨s, hx, c2⟩) (by omega) (Below.refl _ _) (.inl ⟨rfl, rfl⟩) (by rw [hone]; simp only [List.length_nil]; omega) fun A' n' c' w' hb' ho' => ⟨A', n', c', rfl, ?_⟩
    · refine ⟨by simp, by simp [maxLen], fun h0 => (by cases h0), fun _ => ⟨g20, 0, rfl, fun j u hj => ?_⟩⟩
      rw [List.map_singleton, LPt.all_one] at hj
      rw [b2.cell]; simpa [LPt] using hj
    · rw [hone, List.nil_append] at ho'
      have := hK (A', n', c') w' (btr B2 B2.size hb') (fun s' _ => ho'.rebase fun k hk => Nat.le_trans B2.size (ho'.lt k hk).1)
      rw [hx] at this
      exact this
end
end Go.Proofs.YtfhkgnfphfmhiaaGreatDoor
/- Documents of the program: a copy of its own. -/
namespace Go.Proofs.YtfhkgnfphfmhiaaGreatDoor
open Go.RowKit Go.Vc
set_option linter.unusedSimpArgs false
/-- A node of the copy: its parent and its children are the copy's own, or still the old ones. -/
structure CNode (w0 w : World) (o : Nat → Nat) (S : PS) (bs : List Nat) (dn : Bool) (j b : Nat) (s : Sl) (a kv : Sv) : Prop where
  blk : Blk w b (nodeC j s a (ptrH (bif dn then bs else S.bs) s.parent) kv) 152
  at1 : Own LAt w 0 156 (slV a) s.attrs
  at2 : ∀ x, rowOf (slV a) = some x → o x = 10 + 4 * j
  kd1 : dn = true → Own LPt w 0 102 (slV kv) (s.kids.map (pb bs))
  kd2 : dn = true → ∀ x, rowOf (slV kv) = some x → o x = 9 + 4 * j
  kd3 : dn = false → kv.2.1 = s.kids.length ∧ Rd LPt w0 kv.1 kv.2.2 (s.kids.map (pb S.bs))
structure CDoc (w0 w : World) (o : Nat → Nat) (S : PS) (gb gc : Nat) (bs : List Nat) (nv : Sv) (k : Nat) : Prop where
  bel : Below w0.heap.size w0 w
  box : Blk w gb #[.pointer (some ⟨gc, 0, none⟩)] 64
  doc : Blk w gc (docC nv (none, 0, 0) S.lv S.wn S.lo []) 67
  nv1 : Own LPt w 0 102 (slV nv) bs
  nv2 : ∀ x, rowOf (slV nv) = some x → o x = 2
  col : o gc = 1
  bc : o gb = 0
  lt : ∀ b, o b ≠ 0 → w0.heap.size ≤ b ∧ b < w.heap.size
  gbl : w0.heap.size ≤ gb
  len : bs.length ≤ S.D.sl.length
  nc : ∀ (j b : Nat), bs[j]? = some b → o b = 8 + 4 * j
  nd : ∀ (j b : Nat) (s : Sl), bs[j]? = some b → S.D.sl[j]? = some s → ∃ a kv, CNode w0 w o S bs (decide (j < k)) j b s a kv
theorem inR_u32 {z : Int} (h0 : 0 ≤ z) (h1 : z ≤ 4294967295) : InR .u32 z := ⟨by simpa [IntKind.min, IntKind.signed] using h0, by simpa [IntKind.max, IntKind.signed, IntKind.bits] using h1⟩
section
variable {w w0 w1 : World} {o o0 o1 : Nat → Nat} {θ : Th} {S : PS} {bs : List Nat} {nv : Sv} {gb gc k : Nat} {M : Nat → Prop} {R : Ending → World → Prop}
theorem CNode.keep {dn : Bool} {j b : Nat} {s : Sl} {a kv : Sv} (h : CNode w0 w o S bs dn j b s a kv) (hb : o b = 8 + 4 * j) (hf : Fm M w w1) (hm : ∀ x, (o x = 8 + 4 * j ∨ o x = 9 + 4 * j ∨ o x = 10 + 4 * j) → ¬ M x) (ho : ∀ x, o x ≠ 0 → o1 x = o x) : CNode w0 w1 o1 S bs dn j b s a kv :=
  ⟨hf.blk h.blk (hm b (.inl hb)), own_fm h.at1 hf fun x hx => hm x (.inr (.inr (h.at2 x hx))), fun x hx => by have := h.at2 x hx; rw [ho x (by omega)]; exact this,
    fun hd => own_fm (h.kd1 hd) hf fun x hx => hm x (.inr (.inl (h.kd2 hd x hx))), fun hd x hx => by have := h.kd2 hd x hx; rw [ho x (by omega)]; exact this, h.kd3⟩
theorem CDoc.keep (h : CDoc w0 w o S gb gc bs nv k) (hf : Fm M w w1) (hm : ∀ b, b < w.heap.size → M b → o b = 0 ∧ b ≠ gb ∧ w0.heap.size ≤ b) : CDoc w0 w1 o S gb gc bs nv k := by
  have hM : ∀ x, o x ≠ 0 → ¬ M x := fun x hx hmx => hx (hm x (h.lt x hx).2 hmx).1
  refine ⟨h.bel.trans (hf.toBelow h.bel.size fun b hb hmb => ?_), hf.blk h.box fun e => (hm gb h.box.lt e).2.1 rfl, hf.blk h.doc (hM gc (by rw [h.col]; decide)), own_fm h.nv1 hf fun x hx => hM x (by rw [h.nv2 x hx]; decide), h.nv2, h.col, h.bc,
    fun b hb => ⟨(h.lt b hb).1, Nat.lt_of_lt_of_le (h.lt b hb).2 hf.size⟩, h.gbl, h.len, h.nc, fun j b s hb hs => ?_⟩
  · have := (hm b (Nat.lt_of_lt_of_le hb h.bel.size) hmb).2.2; omega
  · obtain ⟨a, kv, hn⟩ := h.nd j b s hb hs
    exact ⟨a, kv, hn.keep (h.nc j b hb) hf (fun x hx => hM x (by omega)) fun _ _ => rfl⟩
theorem CDoc.below (h : CDoc w0 w o S gb gc bs nv k) (hb : Below w.heap.size w w1) : CDoc w0 w1 o S gb gc bs nv k :=
  h.keep (M := fun _ => False) (.below hb) fun _ _ h => h.elim
theorem rdO {α : Type} {L : Lay α} {B : Nat} {e : TypeId} {v : Sv} {xs : List α} (h : Own L w B e (slV v) xs) : v.2.1 = xs.length ∧ Rd L w v.1 v.2.2 xs := by
  obtain ⟨A, c, hv, hr⟩ := h.form
  rw [slvF hv]; exact ⟨rfl, hr⟩
/-- The copies of nodes. -/
theorem turn_calls (hP : PM w0 o0 θ S) (h : CDoc w0 w o S gb gc bs nv k) (hlen : bs.length = S.D.sl.length) {l : List Nat} {v : Sv} (hv : v.2.1 = l.length) (hr : Rd LPt w0 v.1 v.2.2 (l.map (pb S.bs))) (hl : l.length ≤ 1048576) (hin : ∀ x ∈ l, inN S.D.sl.length x)
    (hK : ∀ r w', Below w.heap.size w w' → Own LPt w' w.heap.size 102 (slV r) (l.map (pb bs)) → R (.returned (slV r)) w') : Calls Tryz.prog 112 #[slV v, .pointer (some ⟨gb, 0, none⟩)] w R := by
  refine ok112 v.1 v.2.1 v.2.2 ⟨gb, 0, none⟩ ?_
  unfold F112
  have hfew := hP.few
  refine ⟨fun A n c x w' => ∃ m : Nat, x = m ∧ m ≤ l.length ∧ Below w.heap.size w w' ∧ Own LPt w' w.heap.size 102 (.slice A n c) ((l.take m).map (pb bs)), fun _ _ _ x _ => l.length - x.toNat, ⟨0, rfl, by omega, .refl _ _, by simpa using Own.nil _ _ _ _⟩, ?_⟩
  rintro A n c _ w1 ⟨m, rfl, hm, hb1, ho⟩
  unfold F112_l3
  have B1 := btr h.bel h.bel.size hb1
  have h1 := h.below hb1
  refine brd (fun hlt => ?_) (fun hge => ?_)
  · have hm2 : m < l.length := by omega
    refine (hr.keep B1).pt (by rw [List.length_map, hv]) rfl (k := m) (by rw [List.length_map]; exact hm2) fun b o c0 => ?_
    rw [List.getElem_map] at c0
    simp only [c0, Addr.add_mk, List.getElem?_toArray, List.getElem?_cons_zero, List.getElem?_cons_succ, LdI_some, LdB_some, LdStr_some, LdP_some, LdSl_some, LdM_some, Nat.zero_add, Br_t, Br_f]
    have hdr : Below w1.heap.size w1 w1.drew := (Below.refl _ _).drew
    obtain ⟨p1, s, p2⟩ := pb_get hP.len (hin _ (List.getElem_mem hm2))
    have pin := hin _ (List.getElem_mem hm2)
    obtain ⟨x, hx⟩ : ∃ x, l[m] = x := ⟨_, rfl⟩
    rw [hx] at c0 p1 p2 pin ⊢
    unfold inN at pin
    obtain ⟨n1, n2⟩ := rdO h1.nv1
    refine ⟨fun w' => Below w1.heap.size w1 w', hdr, ?_⟩
    refine ⟨_, fun w' hw => by rw [(h1.box.keep hw).cell]; rfl, ?_⟩
    refine ⟨_, _, _, fun w' hw => by rw [(h1.doc.keep hw).cell]; rfl, ?_⟩
    refine ⟨_, fun w' hw => (hP.below (btr B1 B1.size hw)).cIdx p1 p2, ?_⟩
    refine ⟨inR_u32 (by omega) (by omega), ?_⟩
    refine n2.held (fun _ h => h) n1 (by omega) (by omega) rfl fun b2 o2 cc => ?_
    have cc := cc 0 _ rfl
    have e1 : (((x % 4294967296 - 1 + 1 : Nat) : Int) - 1).toNat = x % 4294967296 - 1 := by omega
    have e2 : bs[(((x % 4294967296 - 1 + 1 : Nat) : Int) - 1).toNat]'(by omega) = pb bs x := by
      unfold pb
      rw [List.getD_eq_getElem?_getD, List.getElem?_eq_getElem (by omega)]
      simp only [e1, Option.getD_some]
    simp only [e2, Nat.add_zero] at cc
    refine ⟨_, cc, ?_⟩
    refine ap1 (L := LPt) (x := pb bs x) (xs := (l.take m).map (pb bs)) (.pointer none) 8 rfl (by kernel_rfl) (by kernel_rfl) (by kernel_rfl) (ho.keep hdr) (by simpa using hb1.size) (by rw [List.length_map, List.length_take]; omega) (by rw [List.length_map, List.length_take]; simp [maxLen]; omega) fun A' c' w4 o4 g4 => ⟨A', _, c', rfl, inR_i64 (by omega) (by omega), ⟨m + 1, by simp, by omega, (btr hb1 hb1.size hdr).trans g4.below, ?_⟩, (by first | omega | (dsimp only; omega))⟩
    rw [List.take_succ_eq_append_getElem hm2, List.map_append, hx]; exact o4
  · have hm2 : m = l.length := by omega
    subst hm2
    rw [List.take_length] at ho
    exact hK (A, n, c) w1 hb1 ho
/-- One node more. -/
theorem CDoc.push (h : CDoc w0 w o S gb gc bs nv 0) {gm : Nat} {s : Sl} (hs : S.D.sl[bs.length]? = some s) {a kv nv' : Sv} (hf : Fm (fun b => rowOf (slV nv) = some b ∨ b = gc) w w1) (hgm : w.heap.size ≤ gm)
    (bm : Blk w1 gm (nodeC bs.length s a (ptrH S.bs s.parent) kv) 152) (ha : Own LAt w1 0 156 (slV a) s.attrs) (har : ∀ x, rowOf (slV a) = some x → w.heap.size ≤ x ∧ x ≠ gm)
    (hk : kv.2.1 = s.kids.length ∧ Rd LPt w0 kv.1 kv.2.2 (s.kids.map (pb S.bs))) (hd : Blk w1 gc (docC nv' (none, 0, 0) S.lv S.wn S.lo []) 67) (hn : Own LPt w1 0 102 (slV nv') (bs ++ [gm]))
    (hnr : ∀ x, rowOf (slV nv') = some x → rowOf (slV nv) = some x ∨ (w.heap.size ≤ x ∧ x ≠ gm ∧ rowOf (slV a) ≠ some x)) : ∃ o', CDoc w0 w1 o' S gb gc (bs ++ [gm]) nv' 0 := by
  have hnew : ∀ x, w.heap.size ≤ x → o x = 0 := fun x hx => Classical.byContradiction fun e => by have := (h.lt x e).2; omega
  have hcol := h.col
  have hbc := h.bc
  have hgb := h.box.lt
  have hgc := h.doc.lt
  have hws := h.bel.size
  have hss := hf.size
  let o2 : Nat → Nat := fun x => if x = gm then 8 + 4 * bs.length else if rowOf (slV a) = some x then 10 + 4 * bs.length else if rowOf (slV nv') = some x then 2 else o x
  have hold : ∀ x, o x ≠ 0 → o2 x = o x := fun x hx => by
    have hxl := (h.lt x hx).2
    show (if x = gm then _ else _) = _
    rw [if_neg (by omega), if_neg (fun e => by have := (har x e).1; omega)]
    split
    · rename_i e
      rcases hnr x e with e2 | e2
      · exact (h.nv2 x e2).symm
      · omega
    · rfl
  have hM : ∀ x, o x ≠ 0 → o x ≠ 2 → o x ≠ 1 → ¬ (rowOf (slV nv) = some x ∨ x = gc) := fun x h0 h2 h1 e => by
    rcases e with e | e
    · exact h2 (h.nv2 x e)
    · subst e; exact h1 h.col
  refine ⟨o2, h.bel.trans (hf.toBelow h.bel.size fun b hb e => ?_), hf.blk h.box fun e => ?_, hd, hn, fun x hx => ?_, ?_, ?_, fun b hb => ?_, h.gbl, ?_, fun j b hb => ?_, fun j b t hb ht => ?_⟩
  · rcases e with e | e
    · have := (h.lt b (by rw [h.nv2 b e]; decide)).1; omega
    · have := (h.lt gc (by rw [h.col]; decide)).1; omega
  · rcases e with e | e
    · rw [h.nv2 gb e] at hbc; cases hbc
    · rw [e, hcol] at hbc; cases hbc
  · show (if x = gm then _ else _) = _
    rcases hnr x hx with e | ⟨e1, e2, e3⟩
    · have := (h.lt x (by rw [h.nv2 x e]; decide)).2
      rw [if_neg (by omega), if_neg (fun e => by have := (har x e).1; omega), if_pos hx]
    · rw [if_neg e2, if_neg e3, if_pos hx]
  · rw [hold gc (by rw [hcol]; decide)]; exact hcol
  · show (if gb = gm then _ else _) = _
    rw [if_neg (by omega), if_neg (fun e => by have := (har gb e).1; omega), if_neg (fun e => ?_)]
    · exact hbc
    · rcases hnr gb e with e2 | e2
      · rw [h.nv2 gb e2] at hbc; cases hbc
      · omega
  · by_cases h0 : o b = 0
    · have hb2 : (if b = gm then 8 + 4 * bs.length else if rowOf (slV a) = some b then 10 + 4 * bs.length else if rowOf (slV nv') = some b then 2 else o b) ≠ 0 := hb
      by_cases e1 : b = gm
      · subst e1; exact ⟨by omega, bm.lt⟩
      rw [if_neg e1] at hb2
      by_cases e2 : rowOf (slV a) = some b
      · exact ⟨by have := (har b e2).1; omega, (ha.lt b e2).2⟩
      rw [if_neg e2] at hb2
      by_cases e3 : rowOf (slV nv') = some b
      · rcases hnr b e3 with e4 | e4
        · rw [h.nv2 b e4] at h0; cases h0
        · exact ⟨by omega, (hn.lt b e3).2⟩
      rw [if_neg e3] at hb2
      exact absurd h0 hb2
    · have := h.lt b h0; exact ⟨this.1, by omega⟩
  · have := (List.getElem?_eq_some_iff.1 hs).1
    rw [List.length_append]; simp only [List.length_singleton]; omega
  · rw [List.getElem?_append] at hb
    split at hb
    · have := h.nc j b hb
      rw [hold b (by omega)]; exact this
    · rename_i hj
      have hj2 : j = bs.length := by
        have := (List.getElem?_eq_some_iff.1 hb).1
        simp only [List.length_singleton] at this; omega
      subst hj2
      rw [Nat.sub_self, List.getElem?_cons_zero] at hb
      cases hb
      show (if gm = gm then _ else _) = _
      rw [if_pos rfl]
  · rw [List.getElem?_append] at hb
    split at hb
    · obtain ⟨a2, kv2, hN⟩ := h.nd j b t hb ht
      have hc := h.nc j b hb
      have e0 : decide (j < 0) = false := decide_eq_false (by omega)
      rw [e0] at hN ⊢
      have hN2 := hN.keep (o1 := o2) hc hf (fun x hx => hM x (by omega) (by omega) (by omega)) hold
      exact ⟨a2, kv2, hN2.blk, hN2.at1, hN2.at2, (fun e => by cases e), (fun e => by cases e), hN2.kd3⟩
    · rename_i hj
      have hj2 : j = bs.length := by
        have := (List.getElem?_eq_some_iff.1 hb).1
        simp only [List.length_singleton] at this; omega
      subst hj2
      rw [Nat.sub_self, List.getElem?_cons_zero] at hb
      cases hb
      rw [hs] at ht; cases ht
      have e0 : decide (bs.length < 0) = false := decide_eq_false (by omega)
      rw [e0]
      refine ⟨a, kv, bm, ha, fun x hx => ?_, (fun e => by cases e), (fun e => by cases e), fun _ => hk⟩
      show (if x = gm then _ else _) = _
      rw [if_neg (har x hx).2, if_pos hx]
/-- One node turned. -/
theorem CDoc.step (h : CDoc w0 w o S gb gc bs nv k) {b : Nat} {s : Sl} {a kv : Sv} (hb : bs[k]? = some b) (hs : S.D.sl[k]? = some s) (hf : Fm (· = b) w w1) (bm : Blk w1 b (nodeC k s a (ptrH bs s.parent) kv) 152)
    (ha : Own LAt w 0 156 (slV a) s.attrs) (ha2 : ∀ x, rowOf (slV a) = some x → o x = 10 + 4 * k) (hkv : Own LPt w1 0 102 (slV kv) (s.kids.map (pb bs))) (hr : ∀ x, rowOf (slV kv) = some x → o x = 0 ∧ w0.heap.size ≤ x ∧ x ≠ gb) :
    ∃ o', CDoc w0 w1 o' S gb gc bs nv (k + 1) := by
  have hcol := h.col
  have hbc := h.bc
  have hbb := h.nc k b hb
  have hws := h.bel.size
  have hbl := h.lt b (by omega)
  have hold : ∀ x, o x ≠ 0 → cl o (rowOf (slV kv)) (9 + 4 * k) x = o x := fun x hx => cl_old hx
  refine ⟨cl o (rowOf (slV kv)) (9 + 4 * k), h.bel.trans (hf.toBelow h.bel.size fun x hx e => ?_), hf.blk h.box fun e => ?_, hf.blk h.doc fun e => ?_, own_fm h.nv1 hf fun x hx e => ?_, fun x hx => ?_, ?_, ?_, fun x hx => ?_, h.gbl, h.len, fun j c hc => ?_, fun j c t hc ht => ?_⟩
  · have e : x = b := e
    omega
  · have e : gb = b := e
    rw [e, hbb] at hbc; omega
  · have e : gc = b := e
    rw [e, hbb] at hcol; omega
  · have e : x = b := e
    have := h.nv2 x hx
    rw [e, hbb] at this; omega
  · rw [hold x (by rw [h.nv2 x hx]; decide)]; exact h.nv2 x hx
  · rw [hold gc (by rw [hcol]; decide)]; exact hcol
  · unfold cl; rw [if_neg (fun e => (hr gb e.1).2.2 rfl)]; exact hbc
  · by_cases e : o x = 0
    · unfold cl at hx
      by_cases e2 : rowOf (slV kv) = some x ∧ o x = 0
      · exact ⟨(hr x e2.1).2.1, (hkv.lt x e2.1).2⟩
      · rw [if_neg e2] at hx; exact absurd e hx
    · have := h.lt x e; have := hf.size; exact ⟨(h.lt x e).1, by omega⟩
  · have := h.nc j c hc
    rw [hold c (by omega)]; exact this
  · by_cases ej : j = k
    · subst ej
      rw [hb] at hc; cases hc
      rw [hs] at ht; cases ht
      rw [decide_eq_true (by omega)]
      refine ⟨a, kv, bm, own_fm ha hf fun x hx e => ?_, fun x hx => ?_, fun _ => hkv, fun _ x hx => ?_, (fun e => by cases e)⟩
      · have e : x = b := e
        have := ha2 x hx
        rw [e, hbb] at this; omega
      · rw [hold x (by rw [ha2 x hx]; omega)]; exact ha2 x hx
      · exact cl_row hx (.inl (hr x hx).1)
    · obtain ⟨a2, kv2, hN⟩ := h.nd j c t hc ht
      have e1 : decide (j < k + 1) = decide (j < k) := decide_eq_decide.2 (by omega)
      rw [e1]
      have hcc := h.nc j c hc
      exact ⟨a2, kv2, hN.keep hcc hf (fun x hx e => by
        have e : x = b := e
        rw [e, hbb] at hx; omega) hold⟩
/-- The copy, when all is turned. -/
theorem CDoc.pm (hP : PM w0 o0 θ S) (h : CDoc w0 w o S gb gc bs nv S.D.sl.length) (hlen : bs.length = S.D.sl.length) {rv : Sv} (hf : Fm (· = gc) w w1) (hd : Blk w1 gc (docC nv rv S.lv S.wn S.lo []) 67)
    (hrv : Own LPt w1 0 102 (slV rv) (S.D.roots.map (pb bs))) (hr : ∀ x, rowOf (slV rv) = some x → o x = 0 ∧ w0.heap.size ≤ x) :
    ∃ o', PM w1 o' ⟨gc, 67, []⟩ ⟨S.D, bs, S.lv, S.wn, S.lo⟩ ∧ ∀ b, o' b ≠ 0 → w0.heap.size ≤ b := by
  have hcol := h.col
  have hold : ∀ x, o x ≠ 0 → cl o (rowOf (slV rv)) 3 x = o x := fun x hx => cl_old hx
  have hss := hf.size
  refine ⟨cl o (rowOf (slV rv)) 3, ⟨?_, fun x hx => ?_, hlen, hP.few, fun j c hc => ?_, ⟨nv, rv, hd, own_fm h.nv1 hf fun x hx e => ?_, fun x hx => ?_, hrv, fun x hx => cl_row hx (.inl (hr x hx).1)⟩, fun j c t hc ht => ?_, hP.rng, hP.rts, hP.cnt⟩, fun x hx => ?_⟩
  · show cl o _ 3 gc = 1
    rw [hold gc (by rw [hcol]; decide)]; exact hcol
  · by_cases e : o x = 0
    · unfold cl at hx
      by_cases e2 : rowOf (slV rv) = some x ∧ o x = 0
      · exact (hrv.lt x e2.1).2
      · rw [if_neg e2] at hx; exact absurd e hx
    · have := (h.lt x e).2; omega
  · have := h.nc j c hc
    rw [hold c (by omega)]; exact this
  · have e : x = gc := e
    have := h.nv2 x hx
    rw [e, hcol] at this; omega
  · rw [hold x (by rw [h.nv2 x hx]; decide)]; exact h.nv2 x hx
  · have hj := (List.getElem?_eq_some_iff.1 ht).1
    obtain ⟨a, kv, hN⟩ := h.nd j c t hc ht
    rw [decide_eq_true hj] at hN
    have hcc := h.nc j c hc
    have hN2 := hN.keep (o1 := cl o (rowOf (slV rv)) 3) hcc hf (fun x hx e => by
      have e : x = gc := e
      rw [e, hcol] at hx; omega) hold
    exact ⟨a, kv, hN2.blk, hN2.at1, hN2.at2, hN2.kd1 rfl, hN2.kd2 rfl⟩
  · by_cases e : o x = 0
    · unfold cl at hx
      by_cases e2 : rowOf (slV rv) = some x ∧ o x = 0
      · exact (hr x e2.1).2
      · rw [if_neg e2] at hx; exact absurd e hx
    · exact (h.lt x e).1
theorem rr_own {B : Nat} {e : TypeId} {α : Type} {L : Lay α} {v : Sv} {l : List α} (h : Own L w B e (slV v) l) (hl : l.length ≤ 1048576) : RR L w l v := by
  obtain ⟨h1, h2⟩ := rdO h
  exact ⟨hl, h1, h2⟩
/-- The loop that copies nodes. -/
theorem clone1 (hP : PM w0 o0 θ S) (hC : CDoc w0 w o S gb gc [] (none, 0, 0) 0) {v : Sv} (hv : Own LPt w0 0 102 (slV v) S.bs)
    (hK : ∀ w' o' bs nv, bs.length = S.D.sl.length → CDoc w0 w' o' S gb gc bs nv 0 → F81_l3 (some ⟨θ.g, 0, none⟩) ⟨gb, 0, none⟩ v.1 v.2.1 (fun _ _ => False) (S.bs.length : Nat) w' R) :
    ∃ (I : Int → World → Prop) (m : Int → World → Nat), I (0 : Int) w ∧
      ∀ (x29 : Int) (w1 : World), I x29 w1 → F81_l3 (some ⟨θ.g, 0, none⟩) ⟨gb, 0, none⟩ v.1 v.2.1 (fun x29' w2 => I x29' w2 ∧ m x29' w2 < m x29 w1) x29 w1 R := by
  obtain ⟨n1, n2⟩ := rdO hv
  have hlen := hP.len
  have hfew := hP.few
  refine ⟨fun x w' => ∃ (m : Nat) (o' : Nat → Nat) (bs : List Nat) (nv : Sv), x = m ∧ m ≤ S.bs.length ∧ bs.length = m ∧ CDoc w0 w' o' S gb gc bs nv 0, fun x _ => S.bs.length - x.toNat, ⟨0, o, [], _, rfl, by omega, rfl, hC⟩, ?_⟩
  rintro _ w1 ⟨m, o1, bs, nv, rfl, hm, hbm, h1⟩
  by_cases hml : m < S.bs.length
  · unfold F81_l3
    refine brd (fun hlt => ?_) (fun hge => absurd (by omega) hge)
    have B1 := h1.bel
    refine (n2.keep B1).pt n1 rfl (k := m) hml fun b oo c0 => ?_
    simp only [c0, Addr.add_mk, List.getElem?_toArray, List.getElem?_cons_zero, List.getElem?_cons_succ, LdI_some, LdB_some, LdStr_some, LdP_some, LdSl_some, LdM_some, Nat.zero_add, Br_t, Br_f]
    obtain ⟨s, hs⟩ : ∃ s, S.D.sl[m]? = some s := ⟨_, List.getElem?_eq_getElem (by omega)⟩
    have hgb : S.bs[m]? = some S.bs[m] := List.getElem?_eq_getElem hml
    generalize S.bs[m] = b0 at *
    obtain ⟨a, kv, hN⟩ := hP.nodes m b0 s hgb hs
    have hr := hP.rng s (List.mem_of_getElem? hs)
    have bN := hN.blk.keep B1
    have bN' := bN
    unfold nodeC at bN'
    simp only [NonNil_some, Addr.add_mk, Nat.zero_add, bN'.cell, List.getElem?_toArray, List.getElem?_cons_zero, List.getElem?_cons_succ, Addr.add_mk, List.getElem?_toArray, List.getElem?_cons_zero, List.getElem?_cons_succ, LdI_some, LdB_some, LdStr_some, LdP_some, LdSl_some, LdM_some, Nat.zero_add, Br_t, Br_f]
    refine al fun gm w2 hb2 b2 hge2 => ?_
    refine st_blk b2 (by simp) fun u1 q1 f1 => st_blk q1 (by simp) fun u2 q2 f2 => st_blk q2 (by simp) fun u3 q3 f3 => st_blk q3 (by simp) fun u4 q4 f4 => st_blk q4 (by simp) fun u5 q5 f5 => st_blk q5 (by simp) fun u6 q6 f6 => st_blk q6 (by simp) fun u7 q7 f7 => st_blk q7 (by simp) fun u8 q8 f8 => st_blk q8 (by simp) fun w3 b3 f9 => ?_
    simp only [List.setIfInBounds_toArray, List.set_cons_zero, List.set_cons_succ] at b3
    have F3 : Fm (· = gm) w2 w3 := ((((((((f1.trans f2).trans f3).trans f4).trans f5).trans f6).trans f7).trans f8).trans f9)
    clear q1 q2 q3 q4 q5 q6 q7 q8 f1 f2 f3 f4 f5 f6 f7 f8 f9
    have D3 : Below w1.heap.size w1 w3 := hb2.trans (F3.toBelow hb2.size fun b hb e => by have e : b = gm := e; omega)
    have bN3 := bN'.keep D3
    simp only [NonNil_some, Addr.add_mk, Nat.zero_add, bN3.cell, List.getElem?_toArray, List.getElem?_cons_zero, List.getElem?_cons_succ, Addr.add_mk, List.getElem?_toArray, List.getElem?_cons_zero, List.getElem?_cons_succ, LdI_some, LdB_some, LdStr_some, LdP_some, LdSl_some, LdM_some, Nat.zero_add, Br_t, Br_f]
    have ra := (rr_own hN.at1 hr.atf).keep (btr B1 B1.size D3)
    refine cloneOwn_calls s.attrs a ra fun a' w4 hb4 oa => ⟨_, _, _, rfl, ?_⟩
    have D4 := btr D3 D3.size hb4
    refine st_blk (b3.keep hb4) (by simp) fun w5 b5 f5 => ?_
    simp only [List.setIfInBounds_toArray, List.set_cons_zero, List.set_cons_succ] at b5
    have hs1 := D3.size
    have hs4 := hb4.size
    have D5 : Below w1.heap.size w1 w5 := D4.trans (f5.toBelow D4.size fun b hb e => by have e : b = gm := e; omega)
    have h5 := h1.below D5
    have hs5 := f5.size
    have hgm : gm < w3.heap.size := b3.lt
    have oa5 : Own LAt w5 0 156 (slV a') s.attrs := (own_fm oa f5 fun x hx e => by have e : x = gm := e; have := (oa.lt x hx).1; omega).rebase fun _ _ => Nat.zero_le _
    have har : ∀ x, rowOf (slV a') = some x → w3.heap.size ≤ x ∧ x < w5.heap.size := fun x hx => ⟨(oa.lt x hx).1, (oa5.lt x hx).2⟩
    have hdr : Below w5.heap.size w5 w5.drew := (Below.refl _ _).drew
    have h5d := h5.below hdr
    have hgcol := h5.col
    have hbcol := h5.bc
    obtain ⟨l1, l2⟩ := rdO h5.nv1
    refine ⟨fun w' => Blk w' gb #[.pointer (some ⟨gc, 0, none⟩)] 64 ∧ Blk w' gc (docC nv (none, 0, 0) S.lv S.wn S.lo []) 67, ⟨h5d.box, h5d.doc⟩, ?_⟩
    refine ⟨_, fun w' hw => by rw [hw.1.cell]; rfl, _, fun w' hw => by rw [hw.1.cell]; rfl, ?_⟩
    refine ⟨_, _, _, fun w' hw => by rw [hw.2.cell]; rfl, ?_⟩
    refine ap1S (L := LPt) (x := gm) (xs := bs) (base := 0) (.pointer none) 8 rfl (by kernel_rfl) (by kernel_rfl) (by kernel_rfl) h5d.nv1 (Nat.zero_le _) (by omega) (by simp [maxLen]; omega) (fun w' hb => ⟨h5d.box.keep hb, h5d.doc.keep hb⟩) fun A' c' w6 o6 g6 => ⟨A', _, c', rfl, ?_⟩
    have FG : Fm (fun b => rowOf (slV nv) = some b) w5.drew w6 := Fm.grown g6.grown fun b hb => hb
    have bb6 := FG.blk h5d.box fun e => by rw [h5.nv2 gb e] at hbcol; cases hbcol
    have bc6 := FG.blk h5d.doc fun e => by rw [h5.nv2 gc e] at hgcol; cases hgcol
    refine ⟨⟨bb6, bc6⟩, ?_⟩
    simp only [NonNil_some]
    refine st_blk bc6 (by simp [docC]) fun w7 b7 f7 => ⟨inR_i64 (by omega) (by omega), ?_⟩
    rw [show Value.slice A' (bs.length + 1) c' = slV (A', bs.length + 1, c') from rfl, doc_set0] at b7
    have FF : Fm (fun b => rowOf (slV nv) = some b ∨ b = gc) w5.drew w7 := (FG.mono fun b _ e => .inl e).trans (f7.mono fun b _ e => .inr e)
    have hgcl := h5.doc.lt
    have FF1 : Fm (fun b => rowOf (slV nv) = some b ∨ b = gc) w1 w7 := (Fm.below (btr D5 D5.size hdr)).trans FF
    have hgcw := (h1.lt gc (by rw [h1.col]; decide)).2
    have hnvl : ∀ x, rowOf (slV nv) = some x → x < w1.heap.size := fun x hx => (h1.lt x (by rw [h1.nv2 x hx]; decide)).2
    have hdl : w5.drew.heap.size = w5.heap.size := rfl
    have bm7 : Blk w7 gm (nodeC bs.length s a' (ptrH S.bs s.parent) kv) 152 := by
      refine FF.blk (show Blk w5.drew gm _ _ from ?_) fun e => ?_
      · have := b5.keep hdr
        rw [hbm]; exact this
      · rcases e with e | e
        · have := hnvl gm e; omega
        · omega
    obtain ⟨o', hC'⟩ := h1.push (s := s) (a := a') (kv := kv) (nv' := (A', bs.length + 1, c')) (gm := gm) (w1 := w7) (by rw [hbm]; exact hs) FF1 hge2 bm7
      (own_fm oa5 ((Fm.below hdr).trans FF) fun x hx e => by
        rcases e with e | e
        · have := hnvl x e; have := (har x hx).1; omega
        · have := (har x hx).1; omega)
      (fun x hx => ⟨by have := (har x hx).1; omega, by have := (har x hx).1; omega⟩) ⟨by have := (rdO hN.kd1).1; rwa [List.length_map] at this, (rdO hN.kd1).2⟩ b7
      (own_fm o6 f7 fun x hx e => by
        have e : x = gc := e
        have hx : rowOf (Value.slice A' (bs.length + 1) c') = some x := hx
        rcases g6.row with e2 | e2 | ⟨g, e2, e3⟩
        · have hx2 : rowOf (slV nv) = some x := by
            have : rowOf (slV (A', bs.length + 1, c')) = rowOf (slV nv) := e2
            rw [← this]; exact hx
          rw [e, ] at hx2
          rw [h5.nv2 gc hx2] at hgcol; cases hgcol
        · have : rowOf (slV (A', bs.length + 1, c')) = none := e2
          rw [e2] at hx; cases hx
        · have : rowOf (Value.slice A' (bs.length + 1) c') = some g := e2
          rw [this] at hx; cases hx; omega)
      (fun x hx => by
        have hx : rowOf (Value.slice A' (bs.length + 1) c') = some x := hx
        rcases g6.row with e2 | e2 | ⟨g, e2, e3⟩
        · rw [e2] at hx; exact .inl hx
        · rw [e2] at hx; cases hx
        · rw [e2] at hx; cases hx
          exact .inr ⟨by omega, by omega, fun e => by have := (har x e).2; omega⟩)
    exact ⟨⟨m + 1, o', bs ++ [gm], _, by simp, by omega, by simp; omega, hC'⟩, (by first | omega | (dsimp only; omega))⟩
  · have hm2 : m = S.bs.length := by omega
    subst hm2
    have := hK w1 o1 bs nv (by omega) h1
    unfold F81_l3 at this ⊢
    refine brd (fun hlt => absurd hlt (by omega)) (fun hge => ?_)
    rw [decide_eq_false (by omega), Br_f] at this
    exact this
/-- The loop that turns nodes, and what comes behind it. -/
theorem clone2 (hP : PM w0 o0 θ S) (hC : CDoc w0 w o S gb gc bs nv 0) (hlen : bs.length = S.D.sl.length) {v : Sv} (hv : Own LPt w0 0 102 (slV v) S.bs)
    (hK : ∀ o' w', Below w0.heap.size w0 w' → PM w' o' ⟨gc, 67, []⟩ ⟨S.D, bs, S.lv, S.wn, S.lo⟩ → (∀ b, o' b ≠ 0 → w0.heap.size ≤ b) → R (.returned (.pointer (some ⟨gc, 0, none⟩))) w') :
    ∃ (I : Int → World → Prop) (m : Int → World → Nat), I (0 : Int) w ∧
      ∀ (x58 : Int) (w1 : World), I x58 w1 → F81_l11 (some ⟨θ.g, 0, none⟩) ⟨gb, 0, none⟩ v.1 v.2.1 (fun x58' w2 => I x58' w2 ∧ m x58' w2 < m x58 w1) x58 w1 R := by
  obtain ⟨n1, n2⟩ := rdO hv
  have hl0 := hP.len
  have hfew := hP.few
  refine ⟨fun x w' => ∃ (m : Nat) (o' : Nat → Nat), x = m ∧ m ≤ S.bs.length ∧ CDoc w0 w' o' S gb gc bs nv m, fun x _ => S.bs.length - x.toNat, ⟨0, o, rfl, by omega, hC⟩, ?_⟩
  rintro _ w1 ⟨m, o1, rfl, hm, h1⟩
  have B1 := h1.bel
  have hdr : Below w1.heap.size w1 w1.drew := (Below.refl _ _).drew
  have B1d := btr B1 B1.size hdr
  have h1d := h1.below hdr
  obtain ⟨l1, l2⟩ := rdO h1.nv1
  have hcol := h1.col
  have hbc := h1.bc
  unfold F81_l11
  refine brd (fun hlt => ?_) (fun hge => ?_)
  · have hml : m < S.bs.length := by omega
    refine ⟨fun w' => ∃ o', CDoc w0 w' o' S gb gc bs nv (m + 1), ?_, ?_⟩
    · rintro w' ⟨o', h'⟩
      exact ⟨inR_i64 (by omega) (by omega), ⟨m + 1, o', by simp, by omega, h'⟩, (by first | omega | (dsimp only; omega))⟩
    refine (n2.keep B1).pt n1 rfl (k := m) hml fun b oo c0 => ?_
    simp only [c0, Addr.add_mk, List.getElem?_toArray, List.getElem?_cons_zero, List.getElem?_cons_succ, LdI_some, LdB_some, LdStr_some, LdP_some, LdSl_some, LdM_some, Nat.zero_add, Br_t, Br_f]
    obtain ⟨s, hs⟩ : ∃ s, S.D.sl[m]? = some s := ⟨_, List.getElem?_eq_getElem (by omega)⟩
    have hgb : S.bs[m]? = some S.bs[m] := List.getElem?_eq_getElem hml
    obtain ⟨bn, hbn⟩ : ∃ bn, bs[m]? = some bn := ⟨_, List.getElem?_eq_getElem (by omega)⟩
    obtain ⟨hbl, hbn'⟩ := List.getElem?_eq_some_iff.1 hbn
    generalize S.bs[m] = b0 at *
    obtain ⟨a0, kv0, hN⟩ := hP.nodes m b0 s hgb hs
    have hr := hP.rng s (List.mem_of_getElem? hs)
    obtain ⟨a, kv, hQ⟩ := h1.nd m bn s hbn hs
    rw [decide_eq_false (by omega)] at hQ
    have hbnc := h1.nc m bn hbn
    refine ⟨fun w' => Below w1.heap.size w1 w', hdr, ?_⟩
    refine ⟨_, fun w' hw => by rw [(h1.box.keep hw).cell]; rfl, ?_⟩
    refine ⟨_, _, _, fun w' hw => by rw [(h1.doc.keep hw).cell]; rfl, ?_⟩
    refine l2.held (fun _ h => h) l1 (by omega) (by omega) rfl fun b2 o2 cc => ?_
    have cc := cc 0 _ rfl
    simp only [Int.toNat_natCast, hbn', Nat.add_zero] at cc
    refine ⟨_, cc, ?_⟩
    simp only [NonNil_some, Addr.add_mk, Nat.zero_add]
    refine ⟨_, _, _, fun w' hw => by rw [((hN.blk.keep B1).keep hw).cell]; rfl, ?_⟩
    obtain ⟨q1, q2⟩ := rdO hN.kd1
    rw [List.length_map] at q1
    refine ⟨by kernel_rfl, turn_calls hP h1d hlen q1 q2 hr.few hr.kids fun r w2 hb2 or2 => ⟨_, _, _, rfl, ?_⟩⟩
    have D2 := btr hdr hdr.size hb2
    refine ⟨D2, ?_⟩
    have h2 := h1.below D2
    have hws := D2.size
    have hrr : ∀ x, rowOf (slV r) = some x → w1.heap.size ≤ x ∧ x < w2.heap.size := fun x hx => ⟨(or2.lt x hx).1, (or2.lt x hx).2⟩
    have hbnl := h1.lt bn (by omega)
    have b2 := hQ.blk.keep D2
    refine st_blk b2 (by simp [nodeC]) fun w3 b3 f3 => ?_
    have e8 : (nodeC m s a (ptrH (bif false then bs else S.bs) s.parent) kv).setIfInBounds 8 (.slice r.1 r.2.1 r.2.2) = nodeC m s a (ptrH S.bs s.parent) r := by simp [nodeC]
    rw [e8] at b3
    have hgbl := h1.gbl
    have hws0 := B1.size
    have hwb := h1.box.lt
    have fin : ∀ w' : World, Fm (· = bn) w2 w' → Blk w' bn (nodeC m s a (ptrH bs s.parent) r) 152 → ∃ o', CDoc w0 w' o' S gb gc bs nv (m + 1) := fun w' f b =>
      h2.step hbn hs f b (hQ.at1.keep D2) hQ.at2 (own_fm (or2.rebase fun _ _ => Nat.zero_le _) f fun x hx e => by have e : x = bn := e; have := (hrr x hx).1; omega)
        fun x hx => ⟨Classical.byContradiction fun e => by have := (h1.lt x e).2; have := (hrr x hx).1; omega, by have := (hrr x hx).1; omega, by have := (hrr x hx).1; omega⟩
    have D3 : Below w0.heap.size w0 w3 := (btr B1 B1.size D2).trans (f3.toBelow (btr B1 B1.size D2).size fun b hb e => by have e : b = bn := e; omega)
    have cp : w3.cell? ⟨b0, 7, none⟩ = some (.pointer (ptrH S.bs s.parent)) := by rw [(hN.blk.keep D3).cell]; rfl
    simp only [cp, Addr.add_mk, List.getElem?_toArray, List.getElem?_cons_zero, List.getElem?_cons_succ, LdI_some, LdB_some, LdStr_some, LdP_some, LdSl_some, LdM_some, Nat.zero_add, Br_t, Br_f]
    by_cases hp0 : s.parent = 0
    · have e1 : ptrH S.bs s.parent = none := by unfold ptrH; rw [if_pos hp0]
      rw [e1]
      simp only [Option.isNone_none, Bool.not_true, Br_f]
      refine fin w3 f3 ?_
      have e2 : ptrH bs s.parent = none := by unfold ptrH; rw [if_pos hp0]
      rw [e2, ← e1]; exact b3
    · have hpin := hr.par.resolve_left hp0
      have e1 : ptrH S.bs s.parent = some ⟨pb S.bs s.parent, 0, none⟩ := by unfold ptrH; rw [if_neg hp0]
      rw [e1]
      simp only [Option.isNone_some, Bool.not_false, Br_t]
      have hdr3 : Below w3.heap.size w3 w3.drew := (Below.refl _ _).drew
      have bx3 := f3.blk h2.box fun e => by have e : gb = bn := e; rw [e] at hbc; omega
      have bd3 := f3.blk h2.doc fun e => by have e : gc = bn := e; rw [e] at hcol; omega
      have ho3 := own_fm h2.nv1 f3 fun x hx e => by
        have e : x = bn := e
        have := h2.nv2 x hx
        rw [e] at this; omega
      obtain ⟨p1, s2, p2⟩ := pb_get hP.len hpin
      unfold inN at hpin
      obtain ⟨j1, j2⟩ := rdO ho3
      refine ⟨fun w' => Below w3.heap.size w3 w', hdr3, ?_⟩
      refine ⟨_, fun w' hw => by rw [(bx3.keep hw).cell]; rfl, ?_⟩
      simp only [NonNil_some, Addr.add_mk, Nat.zero_add]
      refine ⟨_, _, _, fun w' hw => by rw [(bd3.keep hw).cell]; rfl, ?_⟩
      refine j2.held (fun _ h => h) j1 (by omega) (by omega) rfl fun b4 o4 cc4 => ?_
      have cc4 := cc4 0 _ rfl
      simp only [Int.toNat_natCast, hbn', Nat.add_zero] at cc4
      refine ⟨_, cc4, ?_⟩
      refine ⟨_, fun w' hw => by rw [(bx3.keep hw).cell]; rfl, ?_⟩
      simp only [NonNil_some, Addr.add_mk, Nat.zero_add]
      refine ⟨_, _, _, fun w' hw => by rw [(bd3.keep hw).cell]; rfl, ?_⟩
      refine ⟨_, fun w' hw => by rw [((hN.blk.keep D3).keep hw).cell]; show _ = some (Value.pointer (ptrH S.bs s.parent)); rfl, ?_⟩
      rw [e1]
      simp only [NonNil_some, Addr.add_mk, Nat.zero_add]
      refine ⟨_, fun w' hw => (hP.below (btr D3 D3.size hw)).cIdx p1 p2, inR_u32 (by omega) (by omega), ?_⟩
      refine j2.held (fun _ h => h) j1 (by omega) (by omega) rfl fun b5 o5 cc5 => ?_
      have cc5 := cc5 0 _ rfl
      have e3 : (((s.parent % 4294967296 - 1 + 1 : Nat) : Int) - 1).toNat = s.parent % 4294967296 - 1 := by omega
      have e4 : bs[(((s.parent % 4294967296 - 1 + 1 : Nat) : Int) - 1).toNat]'(by omega) = pb bs s.parent := by
        unfold pb
        rw [List.getD_eq_getElem?_getD, List.getElem?_eq_getElem (by omega)]
        simp only [e3, Option.getD_some]
      simp only [e4, Nat.add_zero] at cc5
      refine ⟨_, cc5, ?_⟩
      refine st_blk (b3.keep hdr3) (by simp [nodeC]) fun w5 b5 f5 => ?_
      have e7 : (nodeC m s a (ptrH S.bs s.parent) r).setIfInBounds 7 (.pointer (some ⟨pb bs s.parent, 0, none⟩)) = nodeC m s a (ptrH bs s.parent) r := by
        have : ptrH bs s.parent = some ⟨pb bs s.parent, 0, none⟩ := by unfold ptrH; rw [if_neg hp0]
        rw [this]; simp [nodeC]
      rw [e7] at b5
      exact fin w5 ((f3.trans (Fm.below hdr3)).trans f5) b5
  · have hm2 : m = S.D.sl.length := by omega
    subst hm2
    obtain ⟨nv0, rv0, hd⟩ := hP.doc
    refine ⟨fun w' => Below w1.heap.size w1 w', hdr, ?_⟩
    refine ⟨_, fun w' hw => by rw [(h1.box.keep hw).cell]; rfl, ?_⟩
    simp only [NonNil_some, Addr.add_mk, Nat.zero_add]
    refine ⟨_, _, _, fun w' hw => by rw [((hd.blk.keep B1).keep hw).cell]; rfl, ?_⟩
    obtain ⟨q1, q2⟩ := rdO hd.r1
    rw [List.length_map] at q1
    refine ⟨by kernel_rfl, turn_calls hP h1d hlen q1 q2 hP.rts.2 hP.rts.1 fun r w2 hb2 or2 => ⟨_, _, _, rfl, ?_⟩⟩
    have D2 := btr hdr hdr.size hb2
    refine ⟨D2, ?_⟩
    have h2 := h1.below D2
    have hws := D2.size
    refine st_blk h2.doc (by simp [docC]) fun w3 b3 f3 => ?_
    rw [show Value.slice r.1 r.2.1 r.2.2 = slV r from rfl, show (none, 0, 0) = ((none, 0, 0) : Sv) from rfl, doc_set1] at b3
    have bx3 := f3.blk h2.box fun e => by have e : gb = gc := e; rw [e, hcol] at hbc; cases hbc
    have cb : w3.cell? ⟨gb, 0, none⟩ = some (.pointer (some ⟨gc, 0, none⟩)) := by rw [bx3.cell]; rfl
    simp only [cb, Addr.add_mk, List.getElem?_toArray, List.getElem?_cons_zero, List.getElem?_cons_succ, LdI_some, LdB_some, LdStr_some, LdP_some, LdSl_some, LdM_some, Nat.zero_add, Br_t, Br_f]
    have hgcl := (h1.lt gc (by rw [hcol]; decide))
    have hrr : ∀ x, rowOf (slV r) = some x → w1.heap.size ≤ x ∧ x < w2.heap.size := fun x hx => ⟨(or2.lt x hx).1, (or2.lt x hx).2⟩
    have hws0 := B1.size
    obtain ⟨o', hPM, ho'⟩ := h2.pm hP hlen f3 b3 (own_fm (or2.rebase fun _ _ => Nat.zero_le _) f3 fun x hx e => by have e : x = gc := e; have := (hrr x hx).1; omega)
      fun x hx => ⟨Classical.byContradiction fun e => by have := (h1.lt x e).2; have := (hrr x hx).1; omega, by have := (hrr x hx).1; omega⟩
    exact hK o' w3 ((btr B1 B1.size D2).trans (f3.toBelow (btr B1 B1.size D2).size fun b hb e => by have e : b = gc := e; omega)) hPM ho'
/-- A copy of its own. -/
theorem Clone_calls (hP : PM w o0 θ S) (hK : ∀ gc bs o' w', Below w.heap.size w w' → PM w' o' ⟨gc, 67, []⟩ ⟨S.D, bs, S.lv, S.wn, S.lo⟩ → (∀ b, o' b ≠ 0 → w.heap.size ≤ b) → R (.returned (.pointer (some ⟨gc, 0, none⟩))) w') :
    Calls Tryz.prog 81 #[.pointer (some ⟨θ.g, 0, none⟩)] w R := by
  refine ok81 (some ⟨θ.g, 0, none⟩) ?_
  unfold F81
  obtain ⟨nv0, rv0, hd⟩ := hP.doc
  have hdr : Below w.heap.size w w.drew := (Below.refl _ _).drew
  have start : ∀ (w' : World) (gb gc : Nat), Below w.heap.size w w' → w.heap.size ≤ gb → w.heap.size ≤ gc → gb ≠ gc → Blk w' gb #[.pointer (some ⟨gc, 0, none⟩)] 64 → Blk w' gc (docC (none, 0, 0) (none, 0, 0) S.lv S.wn S.lo []) 67 →
      CDoc w w' (fun b => if b = gc then 1 else 0) S gb gc [] (none, 0, 0) 0 := fun w' gb gc hb h1 h2 h3 b1 b2 =>
    ⟨hb, b1, b2, Own.nil _ _ _ _, fun x hx => (by cases hx), if_pos rfl, if_neg h3, fun b hb => (by
      by_cases e : b = gc
      · subst e; exact ⟨h2, b2.lt⟩
      · rw [if_neg e] at hb; exact absurd rfl hb), h1, by simp, fun j b hb => (by simp at hb), fun j b s hb => (by simp at hb)⟩
  refine ⟨fun c w' => ∃ gb gc, c = ⟨gb, 0, none⟩ ∧ CDoc w w' (fun b => if b = gc then 1 else 0) S gb gc [] (none, 0, 0) 0, ?_, ?_⟩
  · rintro _ w1 ⟨gb, gc, rfl, h1⟩
    unfold F81_j2
    have c0 : w1.cell? ⟨θ.g, 0, none⟩ = some (.slice nv0.1 nv0.2.1 nv0.2.2) := by rw [(hd.blk.keep h1.bel).cell]; rfl
    simp only [NonNil_some, c0, Addr.add_mk, List.getElem?_toArray, List.getElem?_cons_zero, List.getElem?_cons_succ, LdI_some, LdB_some, LdStr_some, LdP_some, LdSl_some, LdM_some, Nat.zero_add, Br_t, Br_f]
    refine clone1 hP h1 hd.n1 fun w2 o2 bs nv hl h2 => ?_
    unfold F81_l3
    obtain ⟨n1, n2⟩ := rdO hd.n1
    refine brd (fun hlt => absurd hlt (by omega)) fun _ => ?_
    have c2 : w2.cell? ⟨θ.g, 0, none⟩ = some (.slice nv0.1 nv0.2.1 nv0.2.2) := by rw [(hd.blk.keep h2.bel).cell]; rfl
    simp only [NonNil_some, c2, Addr.add_mk, List.getElem?_toArray, List.getElem?_cons_zero, List.getElem?_cons_succ, LdI_some, LdB_some, LdStr_some, LdP_some, LdSl_some, LdM_some, Nat.zero_add, Br_t, Br_f]
    exact clone2 hP h2 hl hd.n1 fun o' w' hb hPM ho => hK gc bs o' w' hb hPM ho
  · refine ⟨fun w' => Below w.heap.size w w', hdr, ?_⟩
    simp only [NonNil_some, Addr.add_mk, Nat.zero_add]
    refine ⟨_, fun w' hw => by rw [(hd.blk.keep hw).cell]; rfl, _, fun w' hw => by rw [(hd.blk.keep hw).cell]; rfl, _, fun w' hw => by rw [(hd.blk.keep hw).cell]; rfl, ?_, ?_⟩
    · refine al fun gc w1 hb1 b1 hge1 => al fun gb w2 hb2 b2 hge2 => ?_
      refine st_blk b2 (by simp) fun w3 b3 f3 => ?_
      simp only [List.setIfInBounds_toArray, List.set_cons_zero, List.set_cons_succ] at b3
      have D2 := btr (btr hdr hdr.size hb1) (btr hdr hdr.size hb1).size hb2
      have hl1 := b1.lt
      have hs1 := hb1.size
      have hds : w.drew.heap.size = w.heap.size := rfl
      exact ⟨gb, gc, rfl, start w3 gb gc (D2.trans (f3.toBelow D2.size fun b hb e => by have e : b = gb := e; omega)) (by omega) (by omega) (by omega) b3 (f3.blk (b1.keep hb2) fun e => by have e : gc = gb := e; omega)⟩
    · refine al fun gb w1 hb1 b1 hge1 => ⟨btr hdr hdr.size hb1, ?_⟩
      refine al fun gc w2 hb2 b2 hge2 => ?_
      refine st_blk (b1.keep hb2) (by simp) fun w3 b3 f3 => ?_
      simp only [List.setIfInBounds_toArray, List.set_cons_zero, List.set_cons_succ] at b3
      have D2 := btr (btr hdr hdr.size hb1) (btr hdr hdr.size hb1).size hb2
      have hl1 := b1.lt
      have hs1 := hb1.size
      have hds : w.drew.heap.size = w.heap.size := rfl
      exact ⟨gb, gc, rfl, start w3 gb gc (D2.trans (f3.toBelow D2.size fun b hb e => by have e : b = gb := e; omega)) (by omega) (by omega) (by omega) b3 (f3.blk b2 fun e => by have e : gc = gb := e; omega)⟩
end
end Go.Proofs.YtfhkgnfphfmhiaaGreatDoor
/- Locks: the program's table in memory. -/
namespace Go.Proofs.YtfhkgnfphfmhiaaGreatDoor
open Go.RowKit Go.Vc
set_option linter.unusedSimpArgs false
/-- What stays of a table. -/
structure KP where
  tg : Nat
  bl : Nat
  bw : Nat
  B0 : Nat
  pl : List Nat
  pv : Sv
  o : Nat → Nat
  θ : Th
  S : PS
def LSt2 : Lay (Nat × Int) := ⟨2, fun x => [.int .u64 (x.1 : Nat), .int .i64 x.2], fun _ => rfl, fun _ => by simp [Value.oneCell'], by decide⟩
/-- Blocks that a table's calls may turn. -/
def MPs (w : World) (K : KP) (b : Nat) : Prop := b = K.bl ∨ b = K.bw ∨ (K.B0 ≤ b ∧ (IsE w 83 b ∨ IsE w 92 b))
def hsL (T : TS) (p : Nat) : List (Int × Int) := (own32.filter fun i => decide (T.has p i ≠ 0)).map fun i : Nat => ((i : Int), T.has p i)
structure RStep (w : World) (pl : List Nat) (l : List (Nat × Int)) (v : Sv) : Prop where
  len : l.length ≤ 1048576
  n : v.2.1 = l.length
  rd : Rd LSt2 w v.1 v.2.2 (l.map fun s => (pl.getD s.1 0, s.2))
  ty : ∀ b o, v.1 = some ⟨b, o, none⟩ → IsE w 88 b
structure WtR (w : World) (pl : List Nat) (had : Wt → Bool) (x : Wt) (y : Ew) : Prop where
  who : y.who = x.who
  mode : y.mode = x.mode
  had : y.had = had x
  rest : RStep w pl x.rest y.rest
structure StP (w : World) (K : KP) (T : TS) (had : Nat → Wt → Bool) (fl : Int → Option Value) (vl : Nat → Sv) (fw : Int → Option Value) (vw : Nat → Sv) (W : Nat → List Ew) : Prop where
  tab : Blk w K.tg #[.pointer (some ⟨K.θ.g, 0, none⟩), slV K.pv, .map (some K.bl), .map (some K.bw)] 80
  pm : PM w K.o K.θ K.S
  pcc : ∀ b, K.o b ≠ 0 → b < K.B0 ∧ b ≠ K.bl ∧ b ≠ K.bw
  plc : Own LHn w 0 41 (slV K.pv) K.pl
  plb : ∀ b, rowOf (slV K.pv) = some b → b < K.B0 ∧ b ≠ K.bl ∧ b ≠ K.bw
  tb : K.tg < K.B0 ∧ K.tg ≠ K.bl ∧ K.tg ≠ K.bw
  mb : K.bl < K.B0 ∧ K.bw < K.B0 ∧ K.bl ≠ K.bw
  sz : K.B0 ≤ w.heap.size
  nd : K.pl.Nodup
  few : K.pl.length ≤ 4097
  hlt : ∀ x ∈ K.pl, x < 18446744073709551616
  ml : Mp .u64 w K.bl fl
  rl : Rows LHd w K.B0 83 K.pl (hsL T) fl vl
  mw : Mp .u64 w K.bw fw
  rw : Rows LWt w K.B0 92 K.pl W fw vw
  ws : ∀ p, p < K.pl.length → Z2 (WtR w K.pl (had p)) (T.wt p) (W p)
section
variable {w w1 w2 : World} {K : KP} {T : TS} {had : Nat → Wt → Bool} {fl fw : Int → Option Value} {vl vw : Nat → Sv} {W : Nat → List Ew} {M : Nat → Prop}
theorem mp_not {q : IntKind} {e : TypeId} {b : Nat} {f : Int → Option Value} (h : Mp q w b f) : ¬ IsE w e b := by
  rintro ⟨c, hc⟩
  obtain ⟨es, cl, h1, -⟩ := h
  unfold Blk at hc
  rw [hc] at h1; cases h1
theorem isE_one {e e' : TypeId} {b : Nat} (h : IsE w e b) (h' : IsE w e' b) : e = e' := by
  obtain ⟨c, hc⟩ := h
  obtain ⟨c', hc'⟩ := h'
  unfold Blk at hc hc'
  rw [hc] at hc'; cases hc'; rfl
theorem RStep.fm {pl : List Nat} {l : List (Nat × Int)} {v : Sv} (h : RStep w pl l v) (hf : Fm M w w1) (hm : ∀ b, IsE w 88 b → ¬ M b) : RStep w1 pl l v := by
  refine ⟨h.len, h.n, ⟨h.rd.1, h.rd.2.1, h.rd.2.2.1, fun h0 => ?_⟩, fun b o hb => (h.ty b o hb).fm hf (hm b (h.ty b o hb))⟩
  obtain ⟨b, o, hA, hc⟩ := h.rd.2.2.2 h0
  refine ⟨b, o, hA, fun j u hj => ?_⟩
  have ht := h.ty b o hA
  have := hc j u hj
  unfold World.cell? at this ⊢
  rw [hf.block b ht.lt (hm b ht)]; exact this
theorem WtR.fm {pl : List Nat} {hd : Wt → Bool} {x : Wt} {y : Ew} (h : WtR w pl hd x y) (hf : Fm M w w1) (hm : ∀ b, IsE w 88 b → ¬ M b) : WtR w1 pl hd x y := ⟨h.who, h.mode, h.had, h.rest.fm hf hm⟩
/-- What turns beside it leaves it. -/
theorem StP.fm (h : StP w K T had fl vl fw vw W) (hf : Fm M w w1) (hm : ∀ b, M b → K.B0 ≤ b ∧ ¬ IsE w 83 b ∧ ¬ IsE w 92 b ∧ ¬ IsE w 88 b) : StP w1 K T had fl vl fw vw W := by
  have lo : ∀ b, b < K.B0 → ¬ M b := fun b hb hM => by have := (hm b hM).1; omega
  refine ⟨hf.blk h.tab (lo _ h.tb.1), h.pm.keep hf (fun b hb => lo b (h.pcc b (by unfold pc at hb; omega)).1) (fun _ _ => rfl) (fun b hb => Nat.lt_of_lt_of_le (h.pm.lt b hb) hf.size), h.pcc, own_fm h.plc hf fun b hb => lo b (h.plb b hb).1, h.plb, h.tb, h.mb, Nat.le_trans h.sz hf.size, h.nd, h.few, h.hlt,
    h.ml.fm hf (lo _ h.mb.1), h.rl.fm hf fun b _ hb hM => (hm b hM).2.1 hb, h.mw.fm hf (lo _ h.mb.2.1), h.rw.fm hf fun b _ hb hM => (hm b hM).2.2.1 hb,
    fun p hp => (h.ws p hp).mono fun x y k => k.fm hf fun b hb hM => (hm b hM).2.2.2 hb⟩
theorem StP.keep (h : StP w K T had fl vl fw vw W) (hb : Below w.heap.size w w1) : StP w1 K T had fl vl fw vw W := h.fm (M := fun _ => False) (.below hb) fun _ h => h.elim
end
end Go.Proofs.YtfhkgnfphfmhiaaGreatDoor
/- Locks: what an owner has at a place; whether a mode fits there. -/
namespace Go.Proofs.YtfhkgnfphfmhiaaGreatDoor
open Go.RowKit Go.Vc
set_option linter.unusedSimpArgs false
def fmL (g : Nat → Int) (l : List Nat) : List (Int × Int) := (l.filter fun i => decide (g i ≠ 0)).map fun i : Nat => ((i : Int), g i)
theorem hsL_fm (T : TS) (p : Nat) : hsL T p = fmL (T.has p) own32 := rfl
theorem fmL_app (g : Nat → Int) (a b : List Nat) : fmL g (a ++ b) = fmL g a ++ fmL g b := by unfold fmL; simp
theorem fmL_cons (g : Nat → Int) (x : Nat) (l : List Nat) : fmL g (x :: l) = if g x = 0 then fmL g l else ((x : Int), g x) :: fmL g l := by
  unfold fmL
  by_cases h : g x = 0
  · rw [if_pos h, List.filter_cons_of_neg (by simp [h])]
  · rw [if_neg h, List.filter_cons_of_pos (by simp [h])]; rfl
theorem fmL_mem {g : Nat → Int} {l : List Nat} {y : Int × Int} : y ∈ fmL g l ↔ ∃ i ∈ l, g i ≠ 0 ∧ y = ((i : Int), g i) := by
  unfold fmL
  simp only [List.mem_map, List.mem_filter, decide_eq_true_eq]
  constructor
  · rintro ⟨i, ⟨h1, h2⟩, rfl⟩; exact ⟨i, h1, h2, rfl⟩
  · rintro ⟨i, h1, h2, rfl⟩; exact ⟨i, ⟨h1, h2⟩, rfl⟩
theorem own32_pw : own32.Pairwise (· < ·) := by unfold own32; decide
theorem fmL_pw {g : Nat → Int} {l : List Nat} (h : l.Pairwise (· < ·)) : (fmL g l).Pairwise fun a b => a.1 < b.1 := by
  unfold fmL
  rw [List.pairwise_map]
  exact (h.filter _).imp fun h => by dsimp only; omega
theorem fmL_len (g : Nat → Int) (l : List Nat) : (fmL g l).length ≤ l.length := by unfold fmL; rw [List.length_map]; exact List.length_filter_le _ _
theorem hsL_len (T : TS) (p : Nat) : (hsL T p).length ≤ 32 := fmL_len _ _
theorem fmL_as {g g' : Nat → Int} {l : List Nat} (h : ∀ i ∈ l, g' i = g i) : fmL g' l = fmL g l := by
  induction l with
  | nil => rfl
  | cons x l ih => rw [fmL_cons, fmL_cons, h x (by simp), ih fun i hi => h i (by simp [hi])]
theorem hasF_fm {g : Nat → Int} {who : Nat} : ∀ {l : List Nat}, hasF (fmL g l) who = if who ∈ l then g who else 0
  | [] => rfl
  | x :: l => by
    have ih := hasF_fm (g := g) (who := who) (l := l)
    rw [fmL_cons]
    by_cases hx : x = who
    · subst hx
      rw [if_pos (show x ∈ x :: l from by simp)]
      by_cases h : g x = 0
      · rw [if_pos h, ih]; split <;> simp [h]
      · rw [if_neg h, hasF, if_pos rfl]
    · have e1 : (who ∈ x :: l) ↔ who ∈ l := by simp [Ne.symm hx]
      by_cases h : g x = 0
      · rw [if_pos h, ih]; simp only [e1]
      · rw [if_neg h, hasF, if_neg (fun e => hx (by have e : ((x : Nat) : Int) = who := e; omega)), ih]; simp only [e1]
theorem hasF_hs {n : Nat} {T : TS} (hT : TI n T) (p who : Nat) : hasF (hsL T p) who = T.has p who := by
  rw [hsL_fm, hasF_fm]
  split
  · rfl
  · rename_i h
    by_cases h2 : T.has p who = 0
    · exact h2.symm
    · have := hT.own p who h2
      exact absurd (own32_mem.2 ⟨this.2.1, this.2.2.1⟩) h
theorem fitsL_symm {a b : Int} (ha : 1 ≤ a ∧ a ≤ 5) (hb : 1 ≤ b ∧ b ≤ 5) : fitsL a b = fitsL b a := by
  have h1 : a = 1 ∨ a = 2 ∨ a = 3 ∨ a = 4 ∨ a = 5 := by omega
  have h2 : b = 1 ∨ b = 2 ∨ b = 3 ∨ b = 4 ∨ b = 5 := by omega
  rcases h1 with rfl | rfl | rfl | rfl | rfl <;> rcases h2 with rfl | rfl | rfl | rfl | rfl <;> rfl
theorem known_of {a : Int} (ha : 1 ≤ a ∧ a ≤ 5) : knownB a = true := by unfold knownB; exact decide_eq_true ha
theorem FitsL_known {a b : Int} (ha : 1 ≤ a ∧ a ≤ 5) (hb : 1 ≤ b ∧ b ≤ 5) : FitsL a b = fitsL b a := by
  unfold FitsL; rw [known_of ha, known_of hb, fitsL_symm ha hb]; rfl
theorem free_fits {n : Nat} {T : TS} (hT : TI n T) {who p : Nat} {m : Int} (hm : 1 ≤ m ∧ m ≤ 5) : (!(hsL T p).any (freeP who m)) = T.fits who p m := by
  unfold TS.fits
  rw [Bool.eq_iff_iff, Bool.not_eq_true', ← Bool.not_eq_true, List.any_eq_true, List.all_eq_true]
  constructor
  · intro h i hi
    by_cases h1 : i = who ∨ T.has p i = 0
    · rw [decide_eq_true h1]; rfl
    · rw [decide_eq_false h1, Bool.false_or]
      have h2 : T.has p i ≠ 0 := fun e => h1 (.inr e)
      have h3 := hT.own p i h2
      rw [FitsL_known hm h3.2.2.2]
      cases h4 : fitsL (T.has p i) m with
      | true => rfl
      | false =>
        refine absurd ⟨((i : Int), T.has p i), fmL_mem.2 ⟨i, hi, h2, rfl⟩, ?_⟩ h
        unfold freeP
        rw [Bool.and_eq_true]
        exact ⟨by have : i ≠ who := fun e => h1 (.inl e); simp; omega, by simp [h4]⟩
  · rintro h ⟨y, hy, hf⟩
    rw [hsL_fm, fmL_mem] at hy
    obtain ⟨i, hi, h2, rfl⟩ := hy
    unfold freeP at hf
    rw [Bool.and_eq_true] at hf
    have h1 := h i hi
    rw [Bool.or_eq_true] at h1
    rcases h1 with h1 | h1
    · have h1 := of_decide_eq_true h1
      rcases h1 with h1 | h1
      · subst h1; simp at hf
      · exact h2 h1
    · rw [FitsL_known hm (hT.own p i h2).2.2.2] at h1
      simp [h1] at hf
section
variable {w w1 w2 : World} {K : KP} {T : TS} {had : Nat → Wt → Bool} {fl fw : Int → Option Value} {vl vw : Nat → Sv} {W : Nat → List Ew} {M : Nat → Prop} {R : Ending → World → Prop}
theorem StP.heldAt (h : StP w K T had fl vl fw vw W) {p : Nat} (hp : p < K.pl.length) : HeldAt w fl (K.pl[p] : Nat) (hsL T p) :=
  ⟨vl p, h.rl.val p hp, h.rl.rr hp (Nat.le_trans (hsL_len T p) (by decide))⟩
theorem StP.cells (h : StP w K T had fl vl fw vw W) : w.cell? ⟨K.tg, 0, none⟩ = some (.pointer (some ⟨K.θ.g, 0, none⟩)) ∧ w.cell? ⟨K.tg, 1, none⟩ = some (slV K.pv) ∧ w.cell? ⟨K.tg, 2, none⟩ = some (.map (some K.bl)) ∧ w.cell? ⟨K.tg, 3, none⟩ = some (.map (some K.bw)) := by
  refine ⟨?_, ?_, ?_, ?_⟩ <;> (rw [h.tab.cell]; rfl)
theorem hasT_calls (h : StP w K T had fl vl fw vw W) (hT : TI K.pl.length T) {p : Nat} (hp : p < K.pl.length) (who : Nat) (hR : ∀ w', Below w.heap.size w w' → R (.returned (.int .i64 (T.has p who))) w') :
    Calls Tryz.prog 29 #[.pointer (some ⟨K.tg, 0, none⟩), .int .i64 (who : Nat), .int .u64 (K.pl[p] : Nat)] w R :=
  has_calls h.cells.2.2.1 h.ml (h.heldAt hp) who fun w' hb => by rw [hasF_hs hT]; exact hR w' hb
theorem freeT_calls (h : StP w K T had fl vl fw vw W) (hT : TI K.pl.length T) {p : Nat} (hp : p < K.pl.length) (who : Nat) {m : Int} (hm : 1 ≤ m ∧ m ≤ 5) (hR : ∀ w', Below w.heap.size w w' → R (.returned (.bool (T.fits who p m))) w') :
    Calls Tryz.prog 58 #[.pointer (some ⟨K.tg, 0, none⟩), .int .i64 (who : Nat), .int .u64 (K.pl[p] : Nat), .int .i64 m] w R :=
  free_calls h.cells.2.2.1 h.ml (h.heldAt hp) who m fun w' hb => by rw [free_fits hT hm]; exact hR w' hb
end
end Go.Proofs.YtfhkgnfphfmhiaaGreatDoor
/- Locks: one place of the table turned. -/
namespace Go.Proofs.YtfhkgnfphfmhiaaGreatDoor
open Go.RowKit Go.Vc
set_option linter.unusedSimpArgs false
theorem lkMapW : Tryz.prog.underlying 78 = some (.map 41 90) := by kernel_rfl
theorem lkZeroW (w : World) : (zeroValue 90).run Tryz.prog w = .ok (.slice none 0 0) w := by kernel_rfl
/-- The blocks of a table that its calls turn. -/
def RowP (K : KP) (vl vw : Nat → Sv) (b : Nat) : Prop := b = K.bl ∨ b = K.bw ∨ (∃ p, p < K.pl.length ∧ rowOf (slV (vl p)) = some b) ∨ ∃ p, p < K.pl.length ∧ rowOf (slV (vw p)) = some b
structure StpF (K : KP) (w w' : World) (vl vw vl' vw' : Nat → Sv) : Prop where
  fm : Fm (RowP K vl vw) w w'
  rows : ∀ b, b < w.heap.size → RowP K vl' vw' b → RowP K vl vw b
theorem StpF.refl (K : KP) (w : World) (vl vw : Nat → Sv) : StpF K w w vl vw vl vw := ⟨Fm.refl _ _, fun _ _ h => h⟩
theorem StpF.below {K : KP} {w w' : World} {vl vw : Nat → Sv} (h : Below w.heap.size w w') : StpF K w w' vl vw vl vw := ⟨.below h, fun _ _ h => h⟩
theorem StpF.trans {K : KP} {w w1 w2 : World} {vl vw vl1 vw1 vl2 vw2 : Nat → Sv} (h : StpF K w w1 vl vw vl1 vw1) (k : StpF K w1 w2 vl1 vw1 vl2 vw2) : StpF K w w2 vl vw vl2 vw2 := by
  refine ⟨⟨k.fm.os.trans h.fm.os, k.fm.tape.trans h.fm.tape, k.fm.output.trans h.fm.output, Nat.le_trans h.fm.size k.fm.size, fun b hb hm => ?_⟩, fun b hb hr => h.rows b hb (k.rows b (Nat.lt_of_lt_of_le hb h.fm.size) hr)⟩
  rw [k.fm.block b (Nat.lt_of_lt_of_le hb h.fm.size) fun e => hm (h.rows b hb e), h.fm.block b hb hm]
section
variable {w w1 w2 : World} {K : KP} {T : TS} {had : Nat → Wt → Bool} {fl fw : Int → Option Value} {vl vw : Nat → Sv} {W : Nat → List Ew} {M : Nat → Prop} {R : Ending → World → Prop}
theorem StP.rowp (h : StP w K T had fl vl fw vw W) {b : Nat} (hb : RowP K vl vw b) : MPs w K b := by
  rcases hb with e | e | ⟨p, hp, e⟩ | ⟨p, hp, e⟩
  · exact .inl e
  · exact .inr (.inl e)
  · exact .inr (.inr ⟨(h.rl.row hp b e).1, .inl (h.rl.row hp b e).2⟩)
  · exact .inr (.inr ⟨(h.rw.row hp b e).1, .inr (h.rw.row hp b e).2⟩)
theorem Rows.fmR {α : Type} {L : Lay α} {B : Nat} {e : TypeId} {pl : List Nat} {X : Nat → List α} {f : Int → Option Value} {v : Nat → Sv} (h : Rows L w B e pl X f v) (hf : Fm M w w1) (hm : ∀ p, p < pl.length → ∀ b, rowOf (slV (v p)) = some b → ¬ M b) : Rows L w1 B e pl X f v :=
  ⟨h.key, h.val, fun p hp => (h.own p hp).fm hf fun b hb => hm p hp b hb, h.ap⟩
/-- What turns beside its rows leaves it. -/
theorem StP.fmR (h : StP w K T had fl vl fw vw W) (hf : Fm M w w1) (hm : ∀ b, M b → K.B0 ≤ b ∧ ¬ RowP K vl vw b ∧ ¬ IsE w 88 b) : StP w1 K T had fl vl fw vw W := by
  have lo : ∀ b, b < K.B0 → ¬ M b := fun b hb hM => by have := (hm b hM).1; omega
  refine ⟨hf.blk h.tab (lo _ h.tb.1), h.pm.keep hf (fun b hb => lo b (h.pcc b ?_).1) (fun _ _ => rfl) (fun b hb => Nat.lt_of_lt_of_le (h.pm.lt b hb) hf.size), h.pcc, own_fm h.plc hf fun b hb => lo b (h.plb b hb).1, h.plb, h.tb, h.mb, Nat.le_trans h.sz hf.size, h.nd, h.few, h.hlt,
    h.ml.fm hf (lo _ h.mb.1), h.rl.fmR hf fun p hp b hb hM => (hm b hM).2.1 (.inr (.inr (.inl ⟨p, hp, hb⟩))), h.mw.fm hf (lo _ h.mb.2.1), h.rw.fmR hf fun p hp b hb hM => (hm b hM).2.1 (.inr (.inr (.inr ⟨p, hp, hb⟩))),
    fun p hp => (h.ws p hp).mono fun x y k => k.fm hf fun b hb hM => (hm b hM).2.2 hb⟩
  intro h0; rw [h0] at hb
  rcases hb with h1 | h1 | h1 | h1 <;> omega
theorem StP.rowlt (h : StP w K T had fl vl fw vw W) {b : Nat} (hb : RowP K vl vw b) : b < w.heap.size := by
  rcases hb with e | e | ⟨p, hp, e⟩ | ⟨p, hp, e⟩
  · rw [e]; exact h.ml.lt
  · rw [e]; exact h.mw.lt
  · exact (h.rl.row hp b e).2.lt
  · exact (h.rw.row hp b e).2.lt
theorem put_hs (T : TS) (p i : Nat) (m : Int) (q : Nat) : hsL (T.put p i m) q = updN (hsL T) p (hsL (T.put p i m) p) q := by
  by_cases h : q = p
  · rw [h, updN_same]
  · rw [updN_ne _ _ h]; unfold hsL TS.put; simp only [updN_ne _ _ h]
/-- The waiters of a place turned, and are put back. -/
theorem StP.setW (h : StP w K T had fl vl fw vw W) {p : Nat} (hp : p < K.pl.length) (hf : Fm (fun b => rowOf (slV (vw p)) = some b) w w1) {u : Sv} {ys : List Ew} (ho : OwnO LWt w1 K.B0 92 (slV u) ys)
    (hr : rowOf (slV u) = rowOf (slV (vw p)) ∨ rowOf (slV u) = none ∨ ∃ g, rowOf (slV u) = some g ∧ w.heap.size ≤ g) {l : List Wt} (hz : Z2 (WtR w1 K.pl (had p)) l ys) {k : Int} (hk : k = ((K.pl[p] : Nat) : Int)) {K' : World → Prop}
    (hK : ∀ w2 fw', StpF K w w2 vl vw vl (updN vw p u) → StP w2 K (T.setW p l) had fl vl fw' (updN vw p u) (updN W p ys) → K' w2) : Raw Tryz.prog (Instr.mapUpdate 78 (.map (some K.bw)) (.int .u64 k) (slV u)) w1 fun _ w2 => K' w2 := by
  subst hk
  have hrow : ∀ b, rowOf (slV (vw p)) = some b → K.B0 ≤ b ∧ IsE w 92 b := h.rw.row hp
  have hmw : Mp .u64 w1 K.bw fw := h.mw.fm hf fun e => by have := (hrow _ e).1; have := h.mb.2.1; omega
  have hrw := h.rw.turn h.nd hp hf ho hr
  refine hmw.update lkMapW lkKey _ _ fun w2 m2 f2 => ?_
  have F : Fm (fun b => rowOf (slV (vw p)) = some b ∨ b = K.bw) w w2 := (hf.mono fun b _ e => .inl e).trans (f2.mono fun b _ e => .inr e)
  have lo : ∀ b, b < K.B0 → b ≠ K.bw → ¬ (rowOf (slV (vw p)) = some b ∨ b = K.bw) := fun b hb hne e => by
    rcases e with e | e
    · have := (hrow b e).1; omega
    · exact hne e
  have ne1 : ∀ b e, IsE w e b → e ≠ 92 → ¬ (rowOf (slV (vw p)) = some b ∨ b = K.bw) := fun b e hb hne k => by
    rcases k with k | k
    · exact hne (isE_one hb (hrow b k).2)
    · rw [k] at hb; exact mp_not h.mw hb
  have nw : ∀ e, ¬ IsE w1 e K.bw := fun e => mp_not hmw
  refine hK w2 _ ⟨F.mono fun b _ e => ?_, fun b hb e => ?_⟩ ⟨F.blk h.tab (lo _ h.tb.1 h.tb.2.2), h.pm.keep F (fun b hb => ?_) (fun _ _ => rfl) (fun b hb => Nat.lt_of_lt_of_le (h.pm.lt b hb) F.size), h.pcc, own_fm h.plc F fun b hb => lo b (h.plb b hb).1 (h.plb b hb).2.2, h.plb, h.tb, h.mb, Nat.le_trans h.sz F.size, h.nd, h.few, h.hlt,
    h.ml.fm F (lo _ h.mb.1 h.mb.2.2), h.rl.fm F fun b _ hb => ne1 b _ hb (by decide), m2, hrw.fm f2 fun b _ hb e => nw _ (by rw [← e]; exact hb), fun q hq => ?_⟩
  · rcases e with e | e
    · exact .inr (.inr (.inr ⟨p, hp, e⟩))
    · exact .inr (.inl e)
  · rcases e with e | e | e | ⟨q, hq, e⟩
    · exact .inl e
    · exact .inr (.inl e)
    · exact .inr (.inr (.inl e))
    · by_cases e1 : q = p
      · subst e1; rw [updN_same] at e
        rcases hr with hr | hr | ⟨g, hr, hg⟩
        · exact .inr (.inr (.inr ⟨q, hq, by rw [← hr]; exact e⟩))
        · rw [hr] at e; cases e
        · rw [hr] at e; cases e; omega
      · rw [updN_ne _ _ e1] at e; exact .inr (.inr (.inr ⟨q, hq, e⟩))
  · have h0 : K.o b ≠ 0 := by
      intro h0; rw [h0] at hb
      rcases hb with h1 | h1 | h1 | h1 <;> omega
    exact lo b (h.pcc b h0).1 (h.pcc b h0).2.2
  · by_cases e1 : q = p
    · subst e1
      show Z2 _ (updN T.wt q l q) _
      rw [updN_same, updN_same]
      exact hz.mono fun x y k => k.fm f2 fun b hb e => nw _ (by rw [← e]; exact hb)
    · show Z2 _ (updN T.wt p l q) _
      rw [updN_ne _ _ e1, updN_ne _ _ e1]
      exact (h.ws q hq).mono fun x y k => k.fm F fun b hb => ne1 b _ hb (by decide)
/-- The locks of a place turned where they lie. -/
theorem StP.placeL (h : StP w K T had fl vl fw vw W) {p i : Nat} {m : Int} (hp : p < K.pl.length) (hf : Fm (fun b => rowOf (slV (vl p)) = some b) w w1) (ho : OwnO LHd w1 K.B0 83 (slV (vl p)) (hsL (T.put p i m) p)) :
    StpF K w w1 vl vw vl vw ∧ StP w1 K (T.put p i m) had fl vl fw vw W := by
  have hrow : ∀ b, rowOf (slV (vl p)) = some b → K.B0 ≤ b ∧ IsE w 83 b := h.rl.row hp
  have hrl := h.rl.place h.nd hp hf ho
  have lo : ∀ b, b < K.B0 → ¬ (rowOf (slV (vl p)) = some b) := fun b hb e => by have := (hrow b e).1; omega
  have ne1 : ∀ b e, IsE w e b → e ≠ 83 → ¬ (rowOf (slV (vl p)) = some b) := fun b e hb hne k => hne (isE_one hb (hrow b k).2)
  refine ⟨⟨hf.mono fun b _ e => .inr (.inr (.inl ⟨p, hp, e⟩)), fun _ _ e => e⟩, ⟨hf.blk h.tab (lo _ h.tb.1), h.pm.keep hf (fun b hb => ?_) (fun _ _ => rfl) (fun b hb => Nat.lt_of_lt_of_le (h.pm.lt b hb) hf.size), h.pcc, own_fm h.plc hf fun b hb => lo b (h.plb b hb).1, h.plb, h.tb, h.mb, Nat.le_trans h.sz hf.size, h.nd, h.few, h.hlt,
    h.ml.fm hf (lo _ h.mb.1), hrl.as fun q _ => (put_hs T p i m q).symm, h.mw.fm hf (lo _ h.mb.2.1), h.rw.fm hf fun b _ hb => ne1 b _ hb (by decide), fun q hq => (h.ws q hq).mono fun x y k => k.fm hf fun b hb => ne1 b _ hb (by decide)⟩⟩
  have h0 : K.o b ≠ 0 := by
    intro h0; rw [h0] at hb
    rcases hb with h1 | h1 | h1 | h1 <;> omega
  exact lo b (h.pcc b h0).1
/-- The locks of a place turned, and are put back. -/
theorem StP.setL (h : StP w K T had fl vl fw vw W) {p i : Nat} {m : Int} (hp : p < K.pl.length) (hf : Fm (fun b => rowOf (slV (vl p)) = some b) w w1) {u : Sv} (ho : OwnO LHd w1 K.B0 83 (slV u) (hsL (T.put p i m) p))
    (hr : rowOf (slV u) = rowOf (slV (vl p)) ∨ rowOf (slV u) = none ∨ ∃ g, rowOf (slV u) = some g ∧ w.heap.size ≤ g) {k : Int} (hk : k = ((K.pl[p] : Nat) : Int)) {K' : World → Prop}
    (hK : ∀ w2 fl', StpF K w w2 vl vw (updN vl p u) vw → StP w2 K (T.put p i m) had fl' (updN vl p u) fw vw W → K' w2) : Raw Tryz.prog (Instr.mapUpdate 77 (.map (some K.bl)) (.int .u64 k) (slV u)) w1 fun _ w2 => K' w2 := by
  subst hk
  have hrow : ∀ b, rowOf (slV (vl p)) = some b → K.B0 ≤ b ∧ IsE w 83 b := h.rl.row hp
  have hml : Mp .u64 w1 K.bl fl := h.ml.fm hf fun e => by have := (hrow _ e).1; have := h.mb.1; omega
  have hrl := h.rl.turn h.nd hp hf ho hr
  refine hml.update lkMap lkKey _ _ fun w2 m2 f2 => ?_
  have F : Fm (fun b => rowOf (slV (vl p)) = some b ∨ b = K.bl) w w2 := (hf.mono fun b _ e => .inl e).trans (f2.mono fun b _ e => .inr e)
  have lo : ∀ b, b < K.B0 → b ≠ K.bl → ¬ (rowOf (slV (vl p)) = some b ∨ b = K.bl) := fun b hb hne e => by
    rcases e with e | e
    · have := (hrow b e).1; omega
    · exact hne e
  have ne1 : ∀ b e, IsE w e b → e ≠ 83 → ¬ (rowOf (slV (vl p)) = some b ∨ b = K.bl) := fun b e hb hne k => by
    rcases k with k | k
    · exact hne (isE_one hb (hrow b k).2)
    · rw [k] at hb; exact mp_not h.ml hb
  have nw : ∀ e, ¬ IsE w1 e K.bl := fun e => mp_not hml
  refine hK w2 _ ⟨F.mono fun b _ e => ?_, fun b hb e => ?_⟩ ⟨F.blk h.tab (lo _ h.tb.1 h.tb.2.1), h.pm.keep F (fun b hb => ?_) (fun _ _ => rfl) (fun b hb => Nat.lt_of_lt_of_le (h.pm.lt b hb) F.size), h.pcc, own_fm h.plc F fun b hb => lo b (h.plb b hb).1 (h.plb b hb).2.1, h.plb, h.tb, h.mb, Nat.le_trans h.sz F.size, h.nd, h.few, h.hlt,
    m2, (hrl.fm f2 fun b _ hb e => nw _ (by rw [← e]; exact hb)).as fun q _ => (put_hs T p i m q).symm, h.mw.fm F (lo _ h.mb.2.1 (Ne.symm h.mb.2.2)), h.rw.fm F fun b _ hb => ne1 b _ hb (by decide), fun q hq => (h.ws q hq).mono fun x y k => k.fm F fun b hb => ne1 b _ hb (by decide)⟩
  · rcases e with e | e
    · exact .inr (.inr (.inl ⟨p, hp, e⟩))
    · exact .inl e
  · rcases e with e | e | ⟨q, hq, e⟩ | e
    · exact .inl e
    · exact .inr (.inl e)
    · by_cases e1 : q = p
      · subst e1; rw [updN_same] at e
        rcases hr with hr | hr | ⟨g, hr, hg⟩
        · exact .inr (.inr (.inl ⟨q, hq, by rw [← hr]; exact e⟩))
        · rw [hr] at e; cases e
        · rw [hr] at e; cases e; omega
      · rw [updN_ne _ _ e1] at e; exact .inr (.inr (.inl ⟨q, hq, e⟩))
    · exact .inr (.inr (.inr e))
  · have h0 : K.o b ≠ 0 := by
      intro h0; rw [h0] at hb
      rcases hb with h1 | h1 | h1 | h1 <;> omega
    exact lo b (h.pcc b h0).1 (h.pcc b h0).2.1
theorem StP.lookW (h : StP w K T had fl vl fw vw W) {p : Nat} (hp : p < K.pl.length) {k : Int} (hk : k = ((K.pl[p] : Nat) : Int)) {K' : Value → World → Prop} (hK : K' (slV (vw p)) w) : Raw Tryz.prog (Instr.lookup 78 (.map (some K.bw)) (.int .u64 k) false) w K' := by
  subst hk
  refine h.mw.look lkMapW lkKey (lkZeroW w) _ false ?_
  simp only [Bool.false_eq_true, if_false, h.rw.val p hp]
  exact hK
theorem StP.lookL (h : StP w K T had fl vl fw vw W) {p : Nat} (hp : p < K.pl.length) {k : Int} (hk : k = ((K.pl[p] : Nat) : Int)) {K' : Value → World → Prop} (hK : K' (slV (vl p)) w) : Raw Tryz.prog (Instr.lookup 77 (.map (some K.bl)) (.int .u64 k) false) w K' := by
  subst hk
  refine h.ml.look lkMap lkKey (lkZero w) _ false ?_
  simp only [Bool.false_eq_true, if_false, h.rl.val p hp]
  exact hK
end
end Go.Proofs.YtfhkgnfphfmhiaaGreatDoor
namespace Go.Proofs
open Go.Shelf
def Tryz.laysHd_ren : Go.Shelf.Ren := ⟨fun | 6 => 96 | 15 => 114 | 14 => 120 | 28 => 136 | 29 => 137 | 20 => 141 | 21 => 142 | 22 => 143 | 23 => 144 | 24 => 145 | 25 => 146 | 26 => 147 | 27 => 148 | 46 => 162 | 47 => 155 | 48 => 156 | 49 => 163 | 50 => 164 | 57 => 172 | n => n, fun | 22 => 81 | 24 => 83 | 25 => 167 | 3 => 3 | 39 => 161 | 0 => 0 | 53 => 150 | 55 => 40 | 4 => 4 | 46 => 209 | 45 => 208 | 50 => 184 | 5 => 5 | 9 => 9 | 66 => 223 | 70 => 227 | 76 => 235 | 77 => 236 | n => n, fun | n => n⟩
theorem Tryz.laysHd : Go.Proofs.SlLaysF0.n6 Tryz.prog Tryz.laysHd_ren := {
  mixed := by kernel_rfl
  f6 := ⟨"slices.SortFunc[[]espalier/locks.held,espalier/locks.held]", by decide, Tryz.func96.trans (congrArg some (by kernel_rfl))⟩
  f14 := ⟨"slices.pdqsortCmpFunc[espalier/locks.held]", by decide, Tryz.func120.trans (congrArg some (by kernel_rfl))⟩
  f15 := Tryz.func114.trans (congrArg some (by kernel_rfl))
  f20 := ⟨"slices.insertionSortCmpFunc[espalier/locks.held]", by decide, Tryz.func141.trans (congrArg some (by kernel_rfl))⟩
  f21 := ⟨"slices.heapSortCmpFunc[espalier/locks.held]", by decide, Tryz.func142.trans (congrArg some (by kernel_rfl))⟩
  f22 := ⟨"slices.breakPatternsCmpFunc[espalier/locks.held]", by decide, Tryz.func143.trans (congrArg some (by kernel_rfl))⟩
  f23 := ⟨"slices.choosePivotCmpFunc[espalier/locks.held]", by decide, Tryz.func144.trans (congrArg some (by kernel_rfl))⟩
  f24 := ⟨"slices.reverseRangeCmpFunc[espalier/locks.held]", by decide, Tryz.func145.trans (congrArg some (by kernel_rfl))⟩
  f25 := ⟨"slices.partialInsertionSortCmpFunc[espalier/locks.held]", by decide, Tryz.func146.trans (congrArg some (by kernel_rfl))⟩
  f26 := ⟨"slices.partitionEqualCmpFunc[espalier/locks.held]", by decide, Tryz.func147.trans (congrArg some (by kernel_rfl))⟩
  f27 := ⟨"slices.partitionCmpFunc[espalier/locks.held]", by decide, Tryz.func148.trans (congrArg some (by kernel_rfl))⟩
  f28 := Tryz.func136.trans (congrArg some (by kernel_rfl))
  f29 := Tryz.func137.trans (congrArg some (by kernel_rfl))
  f46 := ⟨"slices.siftDownCmpFunc[espalier/locks.held]", by decide, Tryz.func162.trans (congrArg some (by kernel_rfl))⟩
  f47 := Tryz.func155.trans (congrArg some (by kernel_rfl))
  f48 := Tryz.func156.trans (congrArg some (by kernel_rfl))
  f49 := ⟨"slices.medianAdjacentCmpFunc[espalier/locks.held]", by decide, Tryz.func163.trans (congrArg some (by kernel_rfl))⟩
  f50 := ⟨"slices.medianCmpFunc[espalier/locks.held]", by decide, Tryz.func164.trans (congrArg some (by kernel_rfl))⟩
  f57 := ⟨"slices.order2CmpFunc[espalier/locks.held]", by decide, Tryz.func172.trans (congrArg some (by kernel_rfl))⟩
  t0 := Tryz.underlying0
  a0 := Tryz.isAgg0
  z0 := Tryz.sizeOf0
  v0 := Tryz.zeroValue0
  t3 := Tryz.underlying3
  a3 := Tryz.isAgg3
  z3 := Tryz.sizeOf3
  v3 := Tryz.zeroValue3
  t4 := Tryz.underlying4
  a4 := Tryz.isAgg4
  z4 := Tryz.sizeOf4
  v4 := Tryz.zeroValue4
  t5 := Tryz.underlying5
  a5 := Tryz.isAgg5
  z5 := Tryz.sizeOf5
  v5 := Tryz.zeroValue5
  t9 := Tryz.underlying9
  a9 := Tryz.isAgg9
  z9 := Tryz.sizeOf9
  v9 := Tryz.zeroValue9
  t22 := Tryz.underlying81
  a22 := Tryz.isAgg81
  z22 := Tryz.sizeOf81
  v22 := Tryz.zeroValue81
  t25 := Tryz.underlying167
  a25 := Tryz.isAgg167
  z25 := Tryz.sizeOf167
  v25 := Tryz.zeroValue167
  t39 := Tryz.underlying161
  a39 := Tryz.isAgg161
  z39 := Tryz.sizeOf161
  v39 := Tryz.zeroValue161
  t45 := Tryz.underlying208
  a45 := Tryz.isAgg208
  z45 := Tryz.sizeOf208
  v45 := Tryz.zeroValue208
  t46 := Tryz.underlying209
  a46 := Tryz.isAgg209
  z46 := Tryz.sizeOf209
  v46 := Tryz.zeroValue209
  t50 := Tryz.underlying184
  a50 := Tryz.isAgg184
  z50 := Tryz.sizeOf184
  v50 := Tryz.zeroValue184
  t53 := Tryz.underlying150
  a53 := Tryz.isAgg150
  z53 := Tryz.sizeOf150
  v53 := Tryz.zeroValue150
  t55 := Tryz.underlying40
  a55 := Tryz.isAgg40
  z55 := Tryz.sizeOf40
  v55 := Tryz.zeroValue40
  t66 := Tryz.underlying223
  a66 := Tryz.isAgg223
  z66 := Tryz.sizeOf223
  v66 := Tryz.zeroValue223
  t70 := Tryz.underlying227
  a70 := Tryz.isAgg227
  z70 := Tryz.sizeOf227
  v70 := Tryz.zeroValue227
  t76 := Tryz.underlying235
  a76 := Tryz.isAgg235
  z76 := Tryz.sizeOf235
  v76 := Tryz.zeroValue235
  t77 := Tryz.underlying236
  a77 := Tryz.isAgg236
  z77 := Tryz.sizeOf236
  v77 := Tryz.zeroValue236 }

end Go.Proofs
/- Locks: locks sorted by their owners, by the shelf's contract of slices.SortFunc. -/
namespace Go.Proofs.YtfhkgnfphfmhiaaGreatDoor
open Go.RowKit Go.Vc
open Go.Lib
open Go.Sort (SWO HoldsK PermIn SortedIn grow putRow putRowK flatK Holds)
set_option linter.unusedSimpArgs false
abbrev Vh := {s : Int × Int // 1 ≤ s.1 ∧ s.1 ≤ 32}
instance : Inhabited Vh := ⟨⟨(1, 0), by decide⟩⟩
def encH (x : Vh) : List Value := LHd.cells x.1
def cfH (x y : Vh) : Int := x.1.1 - y.1.1
theorem ltOf_cfH (x y : Vh) : ltOf cfH x y = true ↔ x.1.1 < y.1.1 := by
  unfold ltOf cfH
  simp; omega
theorem swoH : SWO (ltOf cfH) where
  irrefl x := by
    rw [← Bool.not_eq_true, ltOf_cfH]; omega
  trans x y z h1 h2 := by
    rw [ltOf_cfH] at *; omega
  ntrans x y z h1 h2 := by
    rw [← Bool.not_eq_true, ltOf_cfH] at *; omega
theorem alH {w : World} {c : Array Value} {t : TypeId} {K : Addr → World → Prop} (h : ∀ g w1, w1 = w.alloc (.cells c t) → Below w.heap.size w w1 → Blk w1 g c t → w.heap.size ≤ g → K ⟨g, 0, none⟩ w1) : Al w c t K :=
  h _ _ rfl ((Below.refl _ _).alloc (Nat.le_refl _) _) (Blk.alloc_new w c t) (Nat.le_refl _)
theorem cmpH_calls (x y : Vh) (W : World) : Calls Tryz.prog 97 #[.agg (encH x).toArray, .agg (encH y).toArray] W fun e w' => e = .returned (.int .i64 (cfH x y)) ∧ ∃ q os', w' = grow (W.drewN q) os' := by
  obtain ⟨⟨xb, xe⟩, hx⟩ := x
  obtain ⟨⟨yb, ye⟩, hy⟩ := y
  dsimp only at hx hy
  refine ok97 xb xe yb ye ?_
  unfold F97
  refine alH fun ga w1 e1 hb1 ba g1 => alH fun gb w2 e2 hb2 bb g2 => ?_
  have ba2 := ba.keep hb2
  simp only [Addr.add_mk, Nat.zero_add, ba2.cell, bb.cell, List.getElem?_toArray, List.getElem?_cons_zero, List.getElem?_cons_succ, Addr.add_mk, List.getElem?_toArray, List.getElem?_cons_zero, List.getElem?_cons_succ, LdI_some, LdB_some, LdStr_some, LdP_some, LdSl_some, LdM_some, Nat.zero_add, Br_t, Br_f]
  refine ⟨inR_i64 (by omega) (by omega), rfl, 0, #[.cells #[.int .i64 xb, .int .i64 xe] 83] ++ #[.cells #[.int .i64 yb, .int .i64 ye] 83], ?_⟩
  rw [e2, e1, Go.Sort.alloc_eq_grow, Go.Sort.alloc_eq_grow, Go.Sort.grow_grow]; rfl
theorem cmpLaysH (blk off size : Nat) (w : World) : CmpLays Tryz.prog 97 #[] encH 2 cfH blk off size w := fun _ _ _ _ x y => cmpH_calls x y _
theorem flatH_get (d : Array Vh) (t : Nat) (h : t < d.size * 2) : (flatK encH 2 d)[t]? = (LHd.all (d.toList.map (·.1)))[t]? := by
  have h3 : t / 2 < d.size := by omega
  have hm : t % 2 < 2 := Nat.mod_lt _ (by decide)
  have e : t = t / 2 * 2 + t % 2 := by omega
  have h1 := LHd.all_at (d.toList.map (·.1)) (t / 2) (by simpa using h3) (t % 2) hm
  rw [show LHd.n = 2 from rfl, ← e] at h1
  rw [h1, Array.getElem?_eq_getElem (by simpa using h), ← getElem!_pos (flatK encH 2 d) t (by simpa using h), Go.Sort.get_flatK _ _ _ _ h]
  have hl : t % 2 < (encH d[t / 2]).length := by rw [show (encH d[t / 2]).length = 2 from rfl]; exact hm
  rw [getElem!_pos d _ h3, getElem!_pos (encH d[t / 2]) _ hl]
  simp only [List.getElem_map, Array.getElem_toList]
  rw [List.getElem?_eq_getElem (by exact hl)]; rfl
theorem sortH_calls (l : List (Int × Int)) (hl : ∀ s ∈ l, 1 ≤ s.1 ∧ s.1 ≤ 32) (hz : l.length ≤ 16777216) {A : Option Addr} {n c base : Nat} {w : World} {R : Ending → World → Prop} (ho : OwnO LHd w base 83 (.slice A n c) l)
    (h : ∀ l' w', Fm (fun b => rowOf (.slice A n c) = some b) w w' → l'.Perm l → l'.Pairwise (fun a b => a.1 ≤ b.1) → OwnO LHd w' base 83 (.slice A n c) l' → R (.returned (.tuple #[])) w') :
    Calls Tryz.prog 96 #[.slice A n c, .func (.func 97) #[] #[]] w R := by
  have ho0 := ho
  have hno : n = 0 → Calls Tryz.prog 96 #[.slice A n c, .func (.func 97) #[] #[]] w R := by
    rintro rfl
    have hc := AnyF.slices_SortFunc_none Tryz.laysHd A c (.func (.func 97) #[] #[]) w
    change Calls Tryz.prog 96 _ _ _ at hc
    refine hc.mono ?_
    rintro e w' ⟨rfl, rfl⟩
    obtain ⟨hn, -⟩ := ho0.rd
    have : l = [] := List.eq_nil_of_length_eq_zero hn.symm
    subst this
    exact h [] w' (Fm.refl _ _) (List.Perm.refl _) .nil ho0
  rcases ho with ⟨he, rfl⟩ | ⟨⟨a, he⟩, rfl⟩ | ⟨g, o, c', cl, he, hb, hh, hn, hm, hs, ht⟩
  · simp only [Value.slice.injEq] at he; exact hno he.2.1
  · simp only [Value.slice.injEq] at he; exact hno he.2.1
  · simp only [Value.slice.injEq] at he
    obtain ⟨rfl, rfl, rfl⟩ := he
    have hd : ((l.pmap (fun s hs => (⟨s, hs⟩ : Vh)) hl).toArray.toList.map (·.1)) = l := by simp [List.map_pmap]
    generalize hdd : (l.pmap (fun s hs => (⟨s, hs⟩ : Vh)) hl).toArray = d at hd
    have hsz : d.size = l.length := by rw [← hd]; simp
    have hn2 : LHd.n = 2 := rfl
    rw [hn2] at hs ht
    have eg : ∀ args w, (callFunc 97 args).run Tryz.prog w = .ok (.enter 97 args) w := enters_of Tryz.func97 (by kernel_rfl) rfl
    have hat : ∀ j, j < d.size * 2 → cl[o + j]? = (LHd.all l)[j]? := fun j hj => by
      rw [← ht, List.getElem?_take_of_lt (by omega), List.getElem?_drop]
    have hH : HoldsK encH 2 w g o d := by
      intro j hj
      have hj2 : j < d.size * 2 := by simpa using hj
      refine ⟨?_, hh.frozen _⟩
      rw [cellL hh, getElem!_pos (flatK encH 2 d) _ hj, id, ← Array.getElem?_eq_getElem hj, flatH_get d j hj2, hd]
      exact hat j hj2
    have hc := AnyQ.slices_SortFunc Tryz.laysHd 2 Tryz.isAgg83 Tryz.sizeOf83 encH (fun _ => rfl) (fun x v hv => LHd.one x.1 v hv) cfH swoH 97 #[] g o (c' + 1) d w eg (cmpLaysH g o d.size w) hH hh.lt (by omega)
    change Calls Tryz.prog 96 _ _ _ at hc
    rw [← hsz]
    refine hc.mono ?_
    rintro e w' ⟨rfl, d', q, os, hp, hso, rfl⟩
    obtain ⟨hp1, -, hp3⟩ := hp
    have htk : d'.toList.take d.size = d'.toList := List.take_of_length_le (by simp [hp1])
    have hperm : d'.toList.Perm d.toList := by rw [← htk]; simpa using hp3
    have hlt := hh.lt
    have hlt2 : g < (putRowK encH 2 (Go.Sort.ahead w q) g o d').heap.size := by unfold putRowK; rw [Go.Sort.size_putRow]; exact hlt
    have hblk : (sortWorldK encH 2 w g o q d' os).heap[g]? = some (.cells (Go.Sort.putCells id o (flatK encH 2 d') cl.toArray) 83 (0, 0)) := by
      unfold sortWorldK
      rw [Go.Sort.heap_grow_old _ _ hlt2]
      unfold putRowK putRow Go.Sort.mapBlock
      show (w.heap.modify g _)[g]? = _
      unfold Blk at hh
      rw [Array.getElem?_modify, if_pos rfl, hh]; rfl
    have hF : Fm (fun b => b = g) w (sortWorldK encH 2 w g o q d' os) := by
      refine ⟨rfl, rfl, rfl, ?_, fun b hb2 hne => ?_⟩
      · unfold sortWorldK
        rw [Go.Sort.size_grow]; unfold putRowK; rw [Go.Sort.size_putRow]; exact Nat.le_add_right _ _
      · unfold sortWorldK
        rw [Go.Sort.heap_grow_old _ _ (by unfold putRowK; rw [Go.Sort.size_putRow]; exact hb2)]
        unfold putRowK putRow Go.Sort.mapBlock
        show (w.heap.modify g _)[b]? = _
        rw [Array.getElem?_modify, if_neg (fun e => hne e.symm)]
    have hlen : (d'.toList.map (·.1)).length = d.size := by rw [List.length_map, Array.length_toList, hp1]
    have hO : OwnO LHd (sortWorldK encH 2 w g o q d' os) base 83 (.slice (some ⟨g, o, none⟩) (d'.toList.map (·.1)).length (c' + 1)) (d'.toList.map (·.1)) := by
      refine .inr (.inr ⟨g, o, c', (Go.Sort.putCells id o (flatK encH 2 d') cl.toArray).toList, rfl, hb, ?_, by rw [hlen, hsz]; exact hn, hm, ?_, ?_⟩)
      · unfold Blk; rw [hblk]
      · rw [hn2]; simp only [Array.length_toList, Go.Sort.putCells, Array.size_mapIdx, List.size_toArray]; exact hs
      · refine List.ext_getElem? fun t => ?_
        rw [hlen, hn2]
        by_cases h9 : t < d.size * 2
        · have h9' : t < d'.size * 2 := by rw [hp1]; exact h9
          have hl2 : l.length * 2 ≤ (c' + 1) * 2 := Nat.mul_le_mul_right _ hn
          rw [List.getElem?_take_of_lt h9, List.getElem?_drop, ← flatH_get d' t h9']
          have h2 : o + t < cl.length := by omega
          simp only [Go.Sort.putCells, Array.getElem?_toList, Array.getElem?_mapIdx, List.getElem?_toArray, List.getElem?_eq_getElem h2, Option.map_some, Go.Sort.size_flatK]
          rw [if_pos (by omega), Nat.add_sub_cancel_left, id, getElem!_pos _ _ (by simpa using h9'), Array.getElem?_eq_getElem (by simpa using h9')]
        · rw [List.getElem?_eq_none (by rw [List.length_take]; omega), List.getElem?_eq_none (by rw [LHd.all_length, hlen, hn2]; omega)]
    rw [hlen, hsz] at hO
    refine h _ _ (hF.mono fun b _ e => by rw [e]; rfl) ?_ ?_ hO
    · have := hperm.map (·.1); rw [hd] at this; exact this
    · rw [List.pairwise_map]
      refine List.pairwise_iff_getElem.2 fun i j hi hj hij => ?_
      have hi2 : i < d'.size := by simpa using hi
      have hj2 : j < d'.size := by simpa using hj
      have := hso i j (by omega) hij (by omega)
      rw [getElem!_pos d' j hj2, getElem!_pos d' i hi2, ← Bool.not_eq_true, ltOf_cfH] at this
      simp only [Array.getElem_toList]; omega
end Go.Proofs.YtfhkgnfphfmhiaaGreatDoor
/- Locks: somebody waits; where one waits; one waits no more. -/
namespace Go.Proofs.YtfhkgnfphfmhiaaGreatDoor
open Go.RowKit Go.Vc
set_option linter.unusedSimpArgs false
theorem least_ex (p : Nat → Prop) : ∀ n, p n → ∃ m, p m ∧ ∀ k, p k → m ≤ k := by
  intro n
  induction n using Nat.strongRecOn with
  | ind n ih =>
    intro hn
    by_cases h : ∃ k, p k ∧ k < n
    · obtain ⟨k, hk, hlt⟩ := h; exact ih k hlt hk
    · exact ⟨n, hn, fun k hk => Nat.le_of_not_lt fun hlt => h ⟨k, hk, hlt⟩⟩
open Classical in
/-- The least number of which something holds. -/
noncomputable def leastN (p : Nat → Prop) : Nat := if h : ∃ m, p m ∧ ∀ k, p k → m ≤ k then Classical.choose h else 0
theorem leastN_spec {p : Nat → Prop} {n : Nat} (h : p n) : p (leastN p) ∧ ∀ k, p k → leastN p ≤ k := by
  have h2 := least_ex p n h
  unfold leastN
  rw [dif_pos h2]
  exact Classical.choose_spec h2
/-- A loop whose rounds grow fewer, by a number that no variable keeps. -/
theorem loopG {Body : (World → Prop) → World → Prop} (J : Nat → World → Prop) {c0 : Nat} {w : World} (h0 : J c0 w) (hs : ∀ c w1, J c w1 → ∀ L : World → Prop, (∀ w2 c2, J c2 w2 → c2 < c → L w2) → Body L w1) :
    ∃ (I : World → Prop) (m : World → Nat), I w ∧ ∀ w1, I w1 → Body (fun w2 => I w2 ∧ m w2 < m w1) w1 := by
  refine ⟨fun w' => ∃ c, J c w', fun w' => leastN fun c => J c w', ⟨c0, h0⟩, ?_⟩
  rintro w1 ⟨c, hc⟩
  obtain ⟨h1, h2⟩ := leastN_spec (p := fun c => J c w1) hc
  exact hs _ w1 h1 _ fun w2 c2 hj hlt => ⟨⟨c2, hj⟩, Nat.lt_of_le_of_lt ((leastN_spec (p := fun c => J c w2) hj).2 c2 hj) hlt⟩
theorem tw_lt {α : Type} {f : α → Bool} : ∀ {l : List α} {k : Nat} (h : k < (l.takeWhile f).length) (h2 : k < l.length), f l[k] = true
  | x :: l, k, h, h2 => by
    rw [List.takeWhile_cons] at h
    by_cases hx : f x = true
    · rw [if_pos hx] at h
      cases k with
      | zero => exact hx
      | succ k => exact tw_lt (l := l) (by simpa using h) (by simpa using h2)
    · rw [if_neg hx] at h; simp at h
theorem tw_le {α : Type} {f : α → Bool} : ∀ (l : List α), (l.takeWhile f).length ≤ l.length
  | [] => by simp
  | x :: l => by
    rw [List.takeWhile_cons]
    have := tw_le (f := f) l
    split <;> simp <;> omega
theorem tw_stop {α : Type} {f : α → Bool} : ∀ {l : List α} (h : (l.takeWhile f).length < l.length), f l[(l.takeWhile f).length] = false
  | x :: l, h => by
    by_cases hx : f x = true
    · have e : (x :: l).takeWhile f = x :: l.takeWhile f := by rw [List.takeWhile_cons, if_pos hx]
      simp only [e, List.length_cons, List.getElem_cons_succ] at h ⊢
      exact tw_stop (l := l) (by omega)
    · have e : (x :: l).takeWhile f = [] := by rw [List.takeWhile_cons, if_neg hx]
      simp only [e, List.length_nil, List.getElem_cons_zero]
      simpa using hx
theorem Z2.ins {α β : Type} {R : α → β → Prop} {a : α} {e : β} (h : R a e) : ∀ {l : List α} {es : List β} (i : Nat), Z2 R l es → Z2 R (l.take i ++ a :: l.drop i) (es.take i ++ e :: es.drop i)
  | l, es, 0, k => by simp only [List.take_zero, List.drop_zero, List.nil_append]; exact ⟨e, es, rfl, h, k⟩
  | [], es, i + 1, k => by
    cases k
    simp only [List.take_nil, List.drop_nil, List.nil_append]; exact ⟨e, [], rfl, h, rfl⟩
  | x :: l, es, i + 1, k => by
    obtain ⟨y, es', rfl, k1, k2⟩ := k
    simp only [List.take_succ_cons, List.drop_succ_cons, List.cons_append]
    exact ⟨y, _, rfl, k1, Z2.ins h i k2⟩
theorem Z2.fil {α β : Type} {R : α → β → Prop} {p : α → Bool} {q : β → Bool} : ∀ {l : List α} {es : List β}, Z2 R l es → (∀ a e, R a e → q e = p a) → Z2 R (l.filter p) (es.filter q)
  | [], es, k, _ => by cases k; rfl
  | x :: l, es, k, h => by
    obtain ⟨y, es', rfl, k1, k2⟩ := k
    have ih := Z2.fil k2 h
    rw [List.filter_cons, List.filter_cons, h _ _ k1]
    split
    · exact ⟨y, _, rfl, k1, ih⟩
    · exact ih
def hdT (T : TS) (p : Nat) (x : Wt) : Bool := decide (T.has p x.who ≠ 0)
theorem sub32 : ∀ {l : List Nat}, l.Nodup → (∀ x ∈ l, 1 ≤ x ∧ x ≤ 32) → l.length ≤ 32 := fun {l} hn h => by
  have := nodup_sub hn (b := own32) fun k hk => own32_mem.2 (h k hk)
  simpa [own32] using this
theorem TI.few {n : Nat} {T : TS} (h : TI n T) (p : Nat) : (T.wt p).length ≤ 32 := by
  have := sub32 (h.nd p) fun x hx => by
    obtain ⟨y, hy, rfl⟩ := List.mem_map.1 hx
    exact ⟨(h.ww p y hy).lo, (h.ww p y hy).hi⟩
  simpa using this
section
variable {w w1 w2 : World} {K : KP} {T : TS} {had : Nat → Wt → Bool} {fl fw : Int → Option Value} {vl vw : Nat → Sv} {W : Nat → List Ew} {M : Nat → Prop} {R : Ending → World → Prop}
theorem StP.rrW (h : StP w K T had fl vl fw vw W) (hT : TI K.pl.length T) {p : Nat} (hp : p < K.pl.length) : RR LWt w (W p) (vw p) := h.rw.rr hp (by rw [(h.ws p hp).len]; have := hT.few p; omega)
theorem waitT_calls (h : StP w K T (hdT T) fl vl fw vw W) (hT : TI K.pl.length T) {p : Nat} (hp : p < K.pl.length) {x : Wt} {v : Sv} (hv : RStep w K.pl x.rest v)
    (hR : ∀ w' fw' vw' W', StpF K w w' vl vw vl vw' → StP w' K (T.queue p x) (hdT T) fl vl fw' vw' W' → R (.returned (.tuple #[])) w') :
    Calls Tryz.prog 61 #[.pointer (some ⟨K.tg, 0, none⟩), .agg #[.int .i64 x.who, .int .i64 x.mode, .bool (hdT T p x), .slice v.1 v.2.1 v.2.2], .int .u64 (K.pl[p] : Nat)] w R := by
  refine ok61 (some ⟨K.tg, 0, none⟩) x.who x.mode (hdT T p x) v.1 v.2.1 v.2.2 (K.pl[p] : Nat) ?_
  unfold F61
  refine al fun g w1 hb1 b1 hge1 => ?_
  have h1 := h.keep hb1
  have hr1 := h1.rrW hT hp
  have hwl := (h1.ws p hp).len
  have hfew := hT.few p
  have hsp : T.spot p x.who ≤ (T.wt p).length := by
    unfold TS.spot; split
    · exact Nat.le_refl _
    · exact tw_le _
  simp only [NonNil_some, Addr.add_mk, Nat.zero_add, h1.cells.2.2.2, LdM_some]
  refine h1.lookW hp rfl ⟨_, _, _, rfl, ?_⟩
  refine ⟨fun i w' => i = (T.spot p x.who : Nat) ∧ w1 = w', ?_, ?_⟩
  · rintro _ _ ⟨rfl, rfl⟩
    unfold F61_j7
    refine ⟨fun w' => Blk w' K.tg _ _ ∧ Blk w' g _ _, ⟨h1.tab.drew, b1.drew⟩, ?_⟩
    simp only [NonNil_some, Addr.add_mk, Nat.zero_add]
    refine ⟨_, fun w' hS => by rw [hS.1.cell]; rfl, _, fun w' hS => by rw [hS.2.cell]; rfl, _, fun w' hS => by rw [hS.2.cell]; rfl, _, fun w' hS => by rw [hS.2.cell]; rfl, _, _, _, fun w' hS => by rw [hS.2.cell]; rfl, ?_⟩
    have hd : Below w1.heap.size w1 w1.drew := (Below.refl _ _).drew
    refine al fun gx w3 hb3 b3 hge3 => ?_
    have B3 : Below w1.heap.size w1 w3 := btr hd hd.size hb3
    have h3 := h1.keep B3
    refine ⟨⟨h1.tab.keep B3, b1.keep B3⟩, ?_⟩
    have hy : WtR w3 K.pl (hdT T p) x ⟨x.who, x.mode, hdT T p x, v⟩ := ⟨rfl, rfl, rfl, hv.fm (M := fun _ => False) (.below (btr hb1 hb1.size B3)) fun _ _ h => h⟩
    refine insW_calls (x := ⟨x.who, x.mode, hdT T p x, v⟩) (h3.rw.own p hp) h3.sz (by omega) b3 rfl (fun e => ?_) (by omega) fun v' w4 o4 f4 r4 => ⟨_, _, _, rfl, ?_⟩
    · have h5 := ((h1.rw.own p hp).lt gx e).2
      have h6 : w1.drew.heap.size = w1.heap.size := rfl
      omega
    have hst : ∀ b, IsE w3 88 b → ¬ rowOf (slV (vw p)) = some b := fun b hb e => absurd (isE_one hb (h3.rw.row hp b e).2) (by decide)
    have lo : ∀ b, b < K.B0 → ¬ rowOf (slV (vw p)) = some b := fun b hb e => by have := (h3.rw.row hp b e).1; omega
    have hgw : ¬ rowOf (slV (vw p)) = some g := fun e => absurd (isE_one ⟨_, b1.keep B3⟩ (h3.rw.row hp g e).2) (by
      intro e2
      have h5 := ((h.rw.own p hp).lt g e).2
      omega)
    refine ⟨⟨f4.blk h3.tab (lo _ h3.tb.1), f4.blk (b1.keep B3) hgw⟩, ?_⟩
    have hz : Z2 (WtR w4 K.pl (hdT T p)) ((T.wt p).take (T.spot p x.who) ++ x :: (T.wt p).drop (T.spot p x.who)) ((W p).take (T.spot p x.who) ++ (⟨x.who, x.mode, hdT T p x, v⟩ : Ew) :: (W p).drop (T.spot p x.who)) :=
      ((h3.ws p hp).ins hy _).mono fun a e k => k.fm f4 hst
    refine h3.setW hp f4 o4 r4 hz rfl fun w5 fw' f5 h5 => hR w5 _ _ _ ?_ h5
    exact StpF.trans (w1 := w3) (.below (btr hb1 hb1.size B3)) f5
  · simp only [b1.cell, List.getElem?_toArray, List.getElem?_cons_zero, List.getElem?_cons_succ, Addr.add_mk, List.getElem?_toArray, List.getElem?_cons_zero, List.getElem?_cons_succ, LdI_some, LdB_some, LdStr_some, LdP_some, LdSl_some, LdM_some, Nat.zero_add, Br_t, Br_f]
    refine br (fun hh => ?_) (fun hh => ⟨?_, by trivial⟩)
    · have hh2 : T.has p x.who ≠ 0 := of_decide_eq_true hh
      have hspe : T.spot p x.who = ((T.wt p).takeWhile fun y => decide (T.has p y.who ≠ 0)).length := by unfold TS.spot; rw [if_neg hh2]
      refine ⟨fun i w' => ∃ k : Nat, i = k ∧ k ≤ T.spot p x.who ∧ w1 = w', fun i _ => (T.wt p).length - i.toNat, ⟨0, rfl, Nat.zero_le _, rfl⟩, ?_⟩
      rintro _ _ ⟨k, rfl, hk, rfl⟩
      unfold F61_l5
      have hvn := hr1.2.1
      refine brd (fun hlt => ?_) (fun hge => ⟨?_, by trivial⟩)
      · have hk2 : k < (T.wt p).length := by omega
        refine hr1.2.2.idx hvn (by omega) (by omega) rfl fun b o hc => ?_
        simp only [Int.toNat_natCast] at hc
        have c2 := hc 2 _ rfl
        have hz := (h1.ws p hp).get k hk2 (by omega)
        simp only [Addr.add_mk, c2, Addr.add_mk, List.getElem?_toArray, List.getElem?_cons_zero, List.getElem?_cons_succ, LdI_some, LdB_some, LdStr_some, LdP_some, LdSl_some, LdM_some, Nat.zero_add, Br_t, Br_f, hz.had]
        refine br (fun hf => ?_) (fun hf => ⟨?_, by trivial⟩)
        · refine ⟨inR_i64 (by omega) (by omega), ⟨k + 1, by simp, ?_, by trivial⟩, by omega⟩
          rcases Nat.lt_or_ge k (T.spot p x.who) with h4 | h4
          · exact h4
          · have e4 : k = ((T.wt p).takeWhile fun y => decide (T.has p y.who ≠ 0)).length := by omega
            subst e4
            have := tw_stop hk2
            unfold hdT at hf; rw [this] at hf; cases hf
        · congr 1
          rcases Nat.lt_or_ge k (T.spot p x.who) with h4 | h4
          · rw [hspe] at h4
            have := tw_lt h4 hk2
            unfold hdT at hf; rw [this] at hf; cases hf
          · omega
      · congr 1; omega
    · have hh2 : T.has p x.who = 0 := by have := of_decide_eq_false hh; simpa using this
      unfold TS.spot; rw [if_pos hh2, ← hwl]; congr 1; exact hr1.2.1
end
end Go.Proofs.YtfhkgnfphfmhiaaGreatDoor
/- Locks: an owner gets a lock. -/
namespace Go.Proofs.YtfhkgnfphfmhiaaGreatDoor
open Go.RowKit Go.Vc
set_option linter.unusedSimpArgs false
theorem fmL_upd {g : Nat → Int} {who : Nat} {m : Int} (hg : g who ≠ 0) (hm : m ≠ 0) : ∀ l : List Nat, fmL (updN g who m) l = (fmL g l).map fun y => if y.1 = (who : Int) then ((who : Int), m) else y
  | [] => rfl
  | x :: l => by
    have ih := fmL_upd hg hm l
    rw [fmL_cons, fmL_cons, ih]
    by_cases hx : x = who
    · subst hx
      rw [updN_same, if_neg hm, if_neg hg, List.map_cons, if_pos rfl]
    · rw [updN_ne _ _ hx]
      split
      · rfl
      · rw [List.map_cons, if_neg (show ¬ ((x : Nat) : Int) = who by omega)]
theorem fmL_set {g : Nat → Int} {who : Nat} {m : Int} (hg : g who ≠ 0) (hm : m ≠ 0) {l : List Nat} (hl : l.Pairwise (· < ·)) {k : Nat} (hk : k < (fmL g l).length) (he : (fmL g l)[k].1 = who) : fmL (updN g who m) l = (fmL g l).set k ((who : Int), m) := by
  rw [fmL_upd hg hm]
  have hp := fmL_pw (g := g) hl
  refine List.ext_getElem (by simp) fun j hj1 hj2 => ?_
  rw [List.getElem_map, List.getElem_set]
  have hj : j < (fmL g l).length := by simpa using hj1
  by_cases e : k = j
  · subst e; rw [if_pos he, if_pos rfl]
  · rw [if_neg e, if_neg]
    intro e2
    rcases Nat.lt_or_gt_of_ne e with h1 | h1
    · have := List.pairwise_iff_getElem.1 hp k j hk hj h1; omega
    · have := List.pairwise_iff_getElem.1 hp j k hj hk h1; omega
theorem fmL_perm {g : Nat → Int} {who : Nat} {m : Int} (hg : g who = 0) (hm : m ≠ 0) {l : List Nat} (hl : l.Nodup) (hw : who ∈ l) : (fmL (updN g who m) l).Perm (fmL g l ++ [((who : Int), m)]) := by
  obtain ⟨a, b, rfl⟩ := List.append_of_mem hw
  have hd := List.nodup_append.1 hl
  have ha : ∀ i ∈ a, updN g who m i = g i := fun i hi => updN_ne _ _ fun e => hd.2.2 i hi who (by simp) e
  have hb : ∀ i ∈ b, updN g who m i = g i := fun i hi => updN_ne _ _ fun e => (List.nodup_cons.1 hd.2.1).1 (by rw [← e]; exact hi)
  rw [fmL_app, fmL_app, fmL_cons, fmL_cons, updN_same, if_neg hm, if_pos hg, fmL_as ha, fmL_as hb]
  refine List.perm_middle.trans ?_
  exact (List.perm_append_comm (l₁ := [((who : Int), m)]) (l₂ := fmL g a ++ fmL g b))
theorem fmL_one {g : Nat → Int} {who : Nat} {m : Int} (hg : g who = 0) (hm : m ≠ 0) {l : List Nat} (hl : l.Pairwise (· < ·)) (hw : who ∈ l) {l' : List (Int × Int)} (hp : l'.Perm (fmL g l ++ [((who : Int), m)])) (hs : l'.Pairwise fun a b => a.1 ≤ b.1) :
    l' = fmL (updN g who m) l := by
  have hn : l.Nodup := hl.imp fun h => by omega
  have hp2 := hp.trans (fmL_perm hg hm hn hw).symm
  refine List.Perm.eq_of_pairwise (le := fun a b : Int × Int => a.1 ≤ b.1) (fun a b ha hb h1 h2 => ?_) hs ((fmL_pw hl).imp fun h => by omega) hp2
  obtain ⟨i, _, _, rfl⟩ := fmL_mem.1 (hp2.mem_iff.1 ha)
  obtain ⟨j, _, _, rfl⟩ := fmL_mem.1 hb
  obtain rfl : i = j := by dsimp only at h1 h2; omega
  rfl
section
variable {w w1 w2 : World} {K : KP} {T : TS} {had : Nat → Wt → Bool} {fl fw : Int → Option Value} {vl vw : Nat → Sv} {W : Nat → List Ew} {M : Nat → Prop} {R : Ending → World → Prop}
theorem givesT_calls (h : StP w K T had fl vl fw vw W) (hT : TI K.pl.length T) {p : Nat} (hp : p < K.pl.length) {who : Nat} (hw : 1 ≤ who ∧ who ≤ 32) {m : Int} (hm : m ≠ 0)
    (hR : ∀ w' fl' vl', StpF K w w' vl vw vl' vw → StP w' K (T.put p who m) had fl' vl' fw vw W → R (.returned (.tuple #[])) w') :
    Calls Tryz.prog 59 #[.pointer (some ⟨K.tg, 0, none⟩), .int .i64 (who : Nat), .int .u64 (K.pl[p] : Nat), .int .i64 m] w R := by
  have hput : hsL (T.put p who m) p = fmL (updN (T.has p) who m) own32 := by unfold hsL TS.put fmL; simp only [updN_same]
  refine ok59 (some ⟨K.tg, 0, none⟩) who (K.pl[p] : Nat) m ?_
  unfold F59
  refine al fun g w1 hb1 b1 hge1 => ?_
  have h1 := h.keep hb1
  have hlen := hsL_len T p
  simp only [NonNil_some, Addr.add_mk, Nat.zero_add, h1.cells.2.2.1, LdM_some]
  refine h1.lookL hp rfl ⟨_, _, _, rfl, ?_⟩
  have hO := h1.rl.own p hp
  refine indexH_calls (hsL T p) (vl p) _ (fun y => y.1 == (who : Int)) (h1.rl.rr hp (by omega)) (fun y hy w2 K' R' hb2 hK => ⟨by kernel_rfl, gives1_calls (by rw [(b1.keep hb2).cell]; rfl) fun w3 hb3 => hK w3 hb3⟩) fun w2 hb2 => ⟨_, rfl, ?_⟩
  have h2 := h1.keep hb2
  have b2 := b1.keep hb2
  have B2 := btr hb1 hb1.size hb2
  rw [idxI_eq]
  rcases idxQ_cases (fun y : Int × Int => y.1 == (who : Int)) (hsL T p) 0 with ⟨h3, h4⟩ | ⟨k, h3, hk, ⟨_, h5⟩, -⟩
  · rw [h3]
    refine brd (fun hh => absurd hh (by decide)) (fun _ => ?_)
    have hz : T.has p who = 0 := by
      apply Classical.byContradiction
      intro hne
      have hmem : ((who : Int), T.has p who) ∈ hsL T p := fmL_mem.2 ⟨who, own32_mem.2 hw, hne, rfl⟩
      rw [← h4, List.mem_filter] at hmem
      simp at hmem
    simp only [b2.cell, List.getElem?_toArray, List.getElem?_cons_zero, List.getElem?_cons_succ, LdI_some]
    refine al fun g3 w3 hb3 b3 hge3 => ?_
    have h3' := h2.keep hb3
    have hO3 := h3'.rl.own p hp
    refine apO (L := LHd) (xs := hsL T p) (ys := [((who : Int), m)]) (base := K.B0) (.agg #[.int .i64 0, .int .i64 0]) 16 rfl (by kernel_rfl) (by kernel_rfl) (by kernel_rfl) hO3 ?_ h3'.sz (by simp; omega) (by simp [maxLen]; omega) fun A' c' w4 o4 g4 => ⟨_, _, _, rfl, ?_⟩
    · refine ⟨by simp, by simp [maxLen], fun h0 => (by cases h0), fun _ => ⟨g3, 0, rfl, fun j u hj => ?_⟩⟩
      rw [LHd.all_one] at hj
      rw [b3.cell]; simpa [LHd] using hj
    refine sortH_calls _ (fun s hs => ?_) (by simp; omega) o4 fun l' w5 f5 hp5 hs5 o5 => ⟨rfl, ?_⟩
    · rcases List.mem_append.1 hs with hs | hs
      · obtain ⟨i, hi, _, rfl⟩ := fmL_mem.1 hs
        have := own32_mem.1 hi
        dsimp only; omega
      · obtain rfl := List.mem_singleton.1 hs
        dsimp only; omega
    have el := fmL_one (g := T.has p) hz hm own32_pw (own32_mem.2 hw) hp5 hs5
    rw [← hput] at el
    subst el
    have hf : Fm (fun b => rowOf (slV (vl p)) = some b) w3 w5 := by
      have F4 : Fm (fun b => rowOf (slV (vl p)) = some b) w3 w4 := Fm.grown g4.grown fun b hb => hb
      rcases g4.row with e | e | ⟨gg, e, hgg⟩
      · exact F4.trans (f5.mono fun b _ hb => by rw [← e]; exact hb)
      · exact F4.trans (f5.mono fun b _ hb => by rw [e] at hb; cases hb)
      · exact F4.trans' f5 fun b hb hb2 => by rw [e] at hb2; cases hb2; omega
    have lo : ∀ b, b < K.B0 → ¬ rowOf (slV (vl p)) = some b := fun b hb e => by have := (h3'.rl.row hp b e).1; omega
    have ht5 := hf.blk h3'.tab (lo _ h.tb.1)
    have c2 : w5.cell? ⟨K.tg, 2, none⟩ = some (.map (some K.bl)) := by rw [ht5.cell]; rfl
    simp only [c2, LdM_some]
    refine h3'.setL (i := who) (m := m) (u := (A', _, c')) hp hf o5 g4.row rfl fun w6 fl' f6 h6 => hR w6 _ _ ?_ h6
    exact StpF.trans (w1 := w3) (.below (btr B2 B2.size hb3)) f6
  · rw [h3, Nat.zero_add]
    refine brd (fun _ => ?_) (fun hh => absurd (by omega) hh)
    have he : (hsL T p)[k].1 = (who : Int) := by simpa using h5
    have hne : T.has p who ≠ 0 := by
      obtain ⟨i, _, hi, e⟩ := fmL_mem.1 (List.getElem_mem hk)
      rw [e] at he
      obtain rfl : i = who := by dsimp only at he; omega
      exact hi
    have hset := fmL_set (g := T.has p) hne hm own32_pw hk he
    rw [← hput, ← hsL_fm] at hset
    have hO2 := h2.rl.own p hp
    have hn2 := hO2.rd.1
    obtain ⟨gg, oo, ll, hA, hrr, hbb, hll, hcells, hput2⟩ := hO2.elem hk
    rw [hA, IdxA_some (by omega) (by omega)]
    simp only [Addr.add_mk, Int.toNat_natCast]
    have hLn : LHd.n = 2 := rfl
    rw [hLn] at hll hcells hput2
    refine st_blk hbb (by simp; omega) fun w3 b3 f3 => ?_
    rw [List.setIfInBounds_toArray] at b3
    have ho := hput2 w3 _ ((who : Int), m) b3 (by simp) (fun j hj => by rw [List.getElem?_set_ne (by omega)]) (fun j u hj => by
      have hj2 := (List.getElem?_eq_some_iff.1 hj).1
      rw [LHd.len] at hj2
      match j, hj2 with
      | 0, _ =>
        have := hcells 0 _ rfl
        rw [Nat.add_zero, List.getElem?_set_ne (by omega), ← Nat.add_zero (oo + k * 2), this]
        rw [← hj]; show some (Value.int .i64 (hsL T p)[k].1) = _; rw [he]; rfl
      | 1, _ =>
        rw [List.getElem?_set_self (by omega), ← hj]; rfl)
    rw [← hset] at ho
    have ho' : OwnO LHd w3 K.B0 83 (slV (vl p)) (hsL (T.put p who m) p) := ho
    obtain ⟨f4, h4⟩ := h2.placeL (i := who) (m := m) hp (f3.mono fun b _ e => by have e : b = gg := e; rw [e]; exact hrr) ho'
    exact hR w3 _ _ (StpF.trans (w1 := w2) (.below B2) f4) h4
end
end Go.Proofs.YtfhkgnfphfmhiaaGreatDoor
/- Locks: steps are taken, one by one. -/
namespace Go.Proofs.YtfhkgnfphfmhiaaGreatDoor
open Go.RowKit Go.Vc
set_option linter.unusedSimpArgs false
theorem TI.put {n : Nat} {T : TS} (h : TI n T) {p i : Nat} {m : Int} (hp : p < n) (hi : 1 ≤ i ∧ i ≤ 32) (hm : 1 ≤ m ∧ m ≤ 5) : TI n (T.put p i m) := by
  refine ⟨fun q j hj => ?_, h.wn, h.ww, h.once, h.nd⟩
  unfold TS.put at hj ⊢
  dsimp only at hj ⊢
  by_cases e : q = p
  · subst e
    rw [updN_same] at hj ⊢
    by_cases e2 : j = i
    · subst e2; rw [updN_same] at hj ⊢; exact ⟨hp, hi.1, hi.2, hm⟩
    · rw [updN_ne _ _ e2] at hj ⊢; exact h.own q j hj
  · rw [updN_ne _ _ e] at hj ⊢; exact h.own q j hj
theorem bothL_rng {a b : Int} (ha : 1 ≤ a ∧ a ≤ 5) (hb : 1 ≤ b ∧ b ≤ 5) : 1 ≤ bothL a b ∧ bothL a b ≤ 5 := by
  unfold bothL; split <;> split <;> omega
theorem wantT_rng {h m : Int} (hh : h = 0 ∨ (1 ≤ h ∧ h ≤ 5)) (hm : 1 ≤ m ∧ m ≤ 5) : 1 ≤ wantT h m ∧ wantT h m ≤ 5 := by
  unfold wantT
  rcases hh with rfl | hh
  · rw [if_pos rfl]; exact hm
  · rw [if_neg (by omega)]; unfold BothL; rw [if_pos ⟨known_of hh, known_of hm⟩]; exact bothL_rng hh hm
theorem wantT_both {h m : Int} (hh : h = 0 ∨ (1 ≤ h ∧ h ≤ 5)) (hm : 1 ≤ m ∧ m ≤ 5) : bothL h m = wantT h m := by
  unfold wantT
  rcases hh with rfl | hh
  · rw [if_pos rfl]; unfold bothL; rw [if_neg (by omega), if_neg (by omega)]
  · rw [if_neg (by omega)]; unfold BothL; rw [if_pos ⟨known_of hh, known_of hm⟩]
theorem TI.rng {n : Nat} {T : TS} (h : TI n T) (p i : Nat) : T.has p i = 0 ∨ (1 ≤ T.has p i ∧ T.has p i ≤ 5) := by
  by_cases e : T.has p i = 0
  · exact .inl e
  · exact .inr (h.own p i e).2.2.2
theorem put_has {T : TS} {p i q j : Nat} {m : Int} (hx : j ≠ i) : (T.put p i m).has q j = T.has q j := by
  show updN T.has p (updN (T.has p) i m) q j = _
  by_cases e : q = p
  · subst e; rw [updN_same, updN_ne _ _ hx]
  · rw [updN_ne _ _ e]
theorem put_hd {T : TS} {p i q : Nat} {m : Int} {x : Wt} (hx : x.who ≠ i) : hdT (T.put p i m) q x = hdT T q x := by
  unfold hdT; rw [put_has hx]
theorem Z2.monoM {α β : Type} {R S : α → β → Prop} : ∀ {l : List α} {es : List β}, (∀ a ∈ l, ∀ e, R a e → S a e) → Z2 R l es → Z2 S l es
  | [], es, _, k => k
  | a :: l, es, h, k => by
    obtain ⟨e, es', h1, h2, h3⟩ := k
    exact ⟨e, es', h1, h a (by simp) e h2, Z2.monoM (fun b hb => h b (by simp [hb])) h3⟩
section
variable {w w1 w2 : World} {K : KP} {T : TS} {had : Nat → Wt → Bool} {fl fw : Int → Option Value} {vl vw : Nat → Sv} {W : Nat → List Ew} {M : Nat → Prop} {R : Ending → World → Prop}
theorem StP.asHad {had' : Nat → Wt → Bool} (h : StP w K T had fl vl fw vw W) (hh : ∀ q, q < K.pl.length → ∀ x ∈ T.wt q, had' q x = had q x) : StP w K T had' fl vl fw vw W :=
  ⟨h.tab, h.pm, h.pcc, h.plc, h.plb, h.tb, h.mb, h.sz, h.nd, h.few, h.hlt, h.ml, h.rl, h.mw, h.rw, fun p hp => (h.ws p hp).monoM fun x hx e k => ⟨k.who, k.mode, by rw [hh p hp x hx]; exact k.had, k.rest⟩⟩
def NoW (n : Nat) (T : TS) (who : Nat) : Prop := ∀ p, p < n → ∀ x ∈ T.wt p, x.who ≠ who
theorem takesT_calls (h : StP w K T (hdT T) fl vl fw vw W) (hT : TI K.pl.length T) {who : Nat} (hw : 1 ≤ who ∧ who ≤ 32) (hn : NoW K.pl.length T who) {l : List (Nat × Int)} {v : Sv} (hv : RStep w K.pl l v) (hl : ∀ s ∈ l, s.1 < K.pl.length ∧ 1 ≤ s.2 ∧ s.2 ≤ 5)
    (hR1 : ∀ w' T' fl' vl', TS.walk who T l = (T', none) → T'.wt = T.wt → StpF K w w' vl vw vl' vw → StP w' K T' (hdT T') fl' vl' fw vw W → TI K.pl.length T' → R (.returned (.tuple #[.agg #[.int .i64 0, .int .i64 0, .bool false, .slice none 0 0], .int .u64 0, .bool true])) w')
    (hR2 : ∀ w' T' fl' vl' p (x : Wt) (vr : Sv) (hp : p < K.pl.length), TS.walk who T l = (T', some (p, x)) → T'.wt = T.wt → x.who = who → WtI K.pl.length x → (∃ k, x.rest = l.drop (k + 1) ∧ k < l.length) → RStep w' K.pl x.rest vr → StpF K w w' vl vw vl' vw → StP w' K T' (hdT T') fl' vl' fw vw W → TI K.pl.length T' →
      R (.returned (.tuple #[.agg #[.int .i64 x.who, .int .i64 x.mode, .bool (hdT T' p x), .slice vr.1 vr.2.1 vr.2.2], .int .u64 (K.pl[p] : Nat), .bool false])) w') :
    Calls Tryz.prog 60 #[.pointer (some ⟨K.tg, 0, none⟩), .int .i64 who, .slice v.1 v.2.1 v.2.2] w R := by
  refine ok60 (some ⟨K.tg, 0, none⟩) who v.1 v.2.1 v.2.2 ?_
  unfold F60
  refine al fun g w1 hb1 b1 hge1 => ?_
  have hnot : ¬ RowP K vl vw g := fun e => by have := h.rowlt e; omega
  have hvl := hv.len
  have hvn := hv.n
  refine ⟨fun i w' => ∃ (k : Nat) (T' : TS) (fl' : Int → Option Value) (vl' : Nat → Sv) (c : Array Value), i = k ∧ k ≤ l.length ∧ StP w' K T' (hdT T') fl' vl' fw vw W ∧ TI K.pl.length T' ∧ T'.wt = T.wt ∧ StpF K w1 w' vl vw vl' vw ∧ Blk w' g c 92 ∧ c.size = 4 ∧ TS.walk who T l = TS.walk who T' (l.drop k) ∧ RStep w' K.pl l v,
    fun i _ => l.length - i.toNat, ⟨0, T, fl, vl, _, rfl, by omega, h.keep hb1, hT, rfl, .refl _ _ _ _, b1, rfl, rfl, hv.fm (M := fun _ => False) (.below hb1) fun _ _ h => h⟩, ?_⟩
  rintro _ w2 ⟨k, T', fl', vl', c, rfl, hk, h2, hT2, hwt, f2, bg, hcs, hwalk, hv2⟩
  unfold F60_l2
  have hng : ¬ RowP K vl' vw g := fun e => hnot (f2.rows g b1.lt e)
  have hB0g : K.B0 ≤ g := Nat.le_trans h.sz hge1
  refine brd (fun hlt => ?_) (fun hge => ?_)
  · have hk2 : k < l.length := by omega
    rw [List.drop_eq_getElem_cons hk2, TS.walk] at hwalk
    obtain ⟨hs1, hs2⟩ := hl _ (List.getElem_mem hk2)
    have hgd : K.pl.getD l[k].1 0 = K.pl[l[k].1] := by rw [List.getD_eq_getElem?_getD, List.getElem?_eq_getElem hs1]; rfl
    refine ⟨fun w' => ∃ (T2 : TS) (fl2 : Int → Option Value) (vl2 : Nat → Sv) (c2 : Array Value), StP w' K T2 (hdT T2) fl2 vl2 fw vw W ∧ TI K.pl.length T2 ∧ T2.wt = T.wt ∧ StpF K w1 w' vl vw vl2 vw ∧ Blk w' g c2 92 ∧ c2.size = 4 ∧ TS.walk who T l = TS.walk who T2 (l.drop (k + 1)) ∧ RStep w' K.pl l v, ?_, ?_⟩
    · rintro w3 ⟨T2, fl2, vl2, c2, q1, q2, q3, q4, q5, q6, q7, q8⟩
      unfold F60_j10
      exact ⟨inR_i64 (by omega) (by omega), ⟨k + 1, T2, fl2, vl2, c2, by simp, by omega, q1, q2, q3, q4, q5, q6, q7, q8⟩, (by first | omega | (dsimp only; omega))⟩
    refine hv2.rd.idx (by rw [List.length_map]; exact hv2.n) (by omega) (by simp; omega) rfl fun b o hc => ?_
    simp only [Int.toNat_natCast, List.getElem_map] at hc
    have c0 := hc 0 _ rfl
    have c1 := hc 1 _ rfl
    simp only [Nat.add_zero, hgd] at c0 c1
    simp only [Addr.add_mk, c0, c1, Addr.add_mk, List.getElem?_toArray, List.getElem?_cons_zero, List.getElem?_cons_succ, LdI_some, LdB_some, LdStr_some, LdP_some, LdSl_some, LdM_some, Nat.zero_add, Br_t, Br_f]
    refine al2 fun gs w3 hb3 b3 hge3 => ?_
    have h3 := h2.keep hb3
    simp only [Addr.add_mk, Nat.zero_add, b3.cell, List.getElem?_toArray, List.getElem?_cons_zero, List.getElem?_cons_succ, Addr.add_mk, List.getElem?_toArray, List.getElem?_cons_zero, List.getElem?_cons_succ, LdI_some, LdB_some, LdStr_some, LdP_some, LdSl_some, LdM_some, Nat.zero_add, Br_t, Br_f]
    refine hasT_calls h3 hT2 hs1 who fun w4 hb4 => ⟨_, rfl, ?_⟩
    have B4 := btr hb3 hb3.size hb4
    have b4 := b3.keep hb4
    simp only [Addr.add_mk, Nat.zero_add, b4.cell, List.getElem?_toArray, List.getElem?_cons_zero, List.getElem?_cons_succ, Addr.add_mk, List.getElem?_toArray, List.getElem?_cons_zero, List.getElem?_cons_succ, LdI_some, LdB_some, LdStr_some, LdP_some, LdSl_some, LdM_some, Nat.zero_add, Br_t, Br_f]
    refine both_calls ⟨_, rfl, ?_⟩
    have hrg := hT2.rng l[k].1 who
    rw [wantT_both hrg hs2]
    have hwr := wantT_rng hrg hs2
    have h4 := h2.keep B4
    have bg4 := bg.keep B4
    have hv4 := hv2.fm (M := fun _ => False) (.below B4) fun _ _ h => h
    have f4 : StpF K w1 w4 vl vw vl' vw := f2.trans (.below B4)
    refine bre (fun he => ?_) (fun hne => ?_)
    · rw [show T'.step who l[k] = some T' from by unfold TS.step; rw [if_pos ⟨by rw [← he]; omega, he⟩]] at hwalk
      exact ⟨T', fl', vl', c, h4, hT2, hwt, f4, bg4, hcs, hwalk, hv4⟩
    have hst : T'.step who l[k] = if T'.fits who l[k].1 (wantT (T'.has l[k].1 who) l[k].2) = true ∧ (T'.has l[k].1 who ≠ 0 ∨ T'.wt l[k].1 = []) then some (T'.put l[k].1 who (wantT (T'.has l[k].1 who) l[k].2)) else none := by
      unfold TS.step; rw [if_neg fun e => hne e.2]
    have hgs : ¬ RowP K vl' vw gs := fun e => by have := h2.rowlt e; omega
    refine ⟨fun w' => Below w4.heap.size w4 w' ∧ T'.fits who l[k].1 (wantT (T'.has l[k].1 who) l[k].2) = true ∧ (T'.has l[k].1 who ≠ 0 ∨ T'.wt l[k].1 = []), ?_, ?_⟩
    · rintro w5 ⟨hb5, hft, hem⟩
      unfold F60_j9
      have b5 := b4.keep hb5
      have h5 := h4.keep hb5
      simp only [b5.cell, List.getElem?_toArray, List.getElem?_cons_zero, List.getElem?_cons_succ, Addr.add_mk, List.getElem?_toArray, List.getElem?_cons_zero, List.getElem?_cons_succ, LdI_some, LdB_some, LdStr_some, LdP_some, LdSl_some, LdM_some, Nat.zero_add, Br_t, Br_f]
      refine givesT_calls h5 hT2 hs1 hw (by omega) fun w6 fl6 vl6 f6 h6 => ⟨rfl, ?_⟩
      rw [hst, if_pos ⟨hft, hem⟩] at hwalk
      have bg5 := bg4.keep hb5
      have hnr : ∀ b, IsE w5 88 b → ¬ RowP K vl' vw b := fun b hb e => by
        rcases h5.rowp e with e | e | ⟨_, e | e⟩
        · rw [e] at hb; exact mp_not h5.ml hb
        · rw [e] at hb; exact mp_not h5.mw hb
        · exact absurd (isE_one hb e) (by decide)
        · exact absurd (isE_one hb e) (by decide)
      refine ⟨T'.put l[k].1 who (wantT (T'.has l[k].1 who) l[k].2), fl6, vl6, c, h6.asHad fun q hq x hx => put_hd ?_, hT2.put hs1 hw hwr, hwt, (f4.trans (.below hb5)).trans f6, f6.fm.blk bg5 hng, hcs, hwalk, (hv4.fm (M := fun _ => False) (.below hb5) fun _ _ h => h).fm f6.fm hnr⟩
      have hx : x ∈ T'.wt q := hx
      rw [hwt] at hx
      exact hn q hq x hx
    · have hd : Below w4.heap.size w4 w4.drew := (Below.refl _ _).drew
      refine ⟨fun w' => Below w4.heap.size w4 w', hd, _, fun w' hS => by rw [(b4.keep hS).cell]; rfl, ?_⟩
      refine freeT_calls (h4.keep hd) hT2 hs1 who hwr fun w5 hb5 => ⟨_, rfl, ?_⟩
      have B5 := btr hd hd.size hb5
      refine ⟨B5, ?_⟩
      have h5 := h4.keep B5
      have hwait : ∀ x, x = (⟨who, wantT (T'.has l[k].1 who) l[k].2, l.drop (k + 1)⟩ : Wt) → TS.walk who T l = (T', some (l[k].1, x)) →
          (∃ S2 : World → Prop, S2 w5.drew ∧ InR .i64 ((k : Nat) + (1 : Int)) ∧ SlB ((k : Nat) + (1 : Int)) ((v.2.1 : Nat) : Int) ((v.2.2 : Nat) : Int)
            (∃ (x64 : Int), Held S2 ⟨gs, 0, none⟩ (.int .u64 x64) ∧ St w5.drew ⟨g, 0, none⟩ (.int .i64 who) fun w1_10 =>
            St w1_10 ((⟨g, 0, none⟩ : Addr).add 1) (.int .i64 (wantT (T'.has l[k].1 who) l[k].2)) fun w1_11 =>
            St w1_11 ((⟨g, 0, none⟩ : Addr).add 2) (.bool (T'.has l[k].1 who != (0 : Int))) fun w1_12 =>
            St w1_12 ((⟨g, 0, none⟩ : Addr).add 3) (.slice (SlA v.1 v.2.2 (((k : Nat) + (1 : Int))).toNat 2) ((((v.2.1 : Nat) : Int)).toNat - (((k : Nat) + (1 : Int))).toNat) (v.2.2 - (((k : Nat) + (1 : Int))).toNat)) fun w1_13 =>
            S2 w1_13 ∧ LdI .i64 (w1_13.cell? ⟨g, 0, none⟩) fun res0_0 =>
            LdI .i64 (w1_13.cell? ((⟨g, 0, none⟩ : Addr).add 1)) fun res0_1 =>
            LdB (w1_13.cell? ((⟨g, 0, none⟩ : Addr).add 2)) fun res0_2 =>
            LdSl (w1_13.cell? ((⟨g, 0, none⟩ : Addr).add 3)) fun res0_3 res0_3N res0_3C =>
            R (.returned (.tuple #[(.agg #[(.int .i64 res0_0), (.int .i64 res0_1), (.bool res0_2), (.slice res0_3 res0_3N res0_3C)]), (.int .u64 x64), (.bool false)])) w1_13)) := by
        rintro x rfl hx
        have bg5 : Blk w5.drew g c 92 := (bg4.keep B5).drew
        have bs5 : Blk w5.drew gs _ 88 := (b4.keep B5).drew
        have hcap := hv4.rd.1
        rw [List.length_map] at hcap
        have hgne : gs ≠ g := fun e => by have := bg.lt; omega
        have e1 : (((k : Nat) : Int) + (1 : Int)).toNat = k + 1 := by omega
        refine ⟨fun w' => Blk w' gs _ 88, bs5, inR_i64 (by omega) (by omega), by omega, by omega, by omega, _, fun w' hS => by rw [hS.cell]; rfl, ?_⟩
        simp only [Addr.add_mk, Nat.zero_add, e1, Int.toNat_natCast]
        refine st_blk bg5 (by omega) fun w6 b6 f6 => st_blk b6 (by simp; omega) fun w7 b7 f7 => st_blk b7 (by simp; omega) fun w8 b8 f8 => st_blk b8 (by simp; omega) fun w9 b9 f9 => ?_
        have F9 : Fm (· = g) w5.drew w9 := ((f6.trans f7).trans f8).trans f9
        refine ⟨F9.blk bs5 hgne, ?_⟩
        obtain ⟨⟨cl⟩, hcc⟩ : ∃ cl : Array Value, cl = c := ⟨c, rfl⟩
        subst hcc
        match cl, hcs, b9 with
        | [y0, y1, y2, y3], _, b9 =>
          simp only [List.setIfInBounds_toArray, List.set_cons_zero, List.set_cons_succ] at b9
          simp only [b9.cell, List.getElem?_toArray, List.getElem?_cons_zero, List.getElem?_cons_succ, Addr.add_mk, List.getElem?_toArray, List.getElem?_cons_zero, List.getElem?_cons_succ, LdI_some, LdB_some, LdStr_some, LdP_some, LdSl_some, LdM_some, Nat.zero_add, Br_t, Br_f]
          have hd5 : Below w5.heap.size w5 w5.drew := (Below.refl _ _).drew
          have h5d := h5.keep hd5
          have h9 := h5d.fmR F9 fun b e => by
            have e : b = g := e
            subst e
            exact ⟨hB0g, hng, fun e2 => absurd (isE_one e2 ⟨_, bg5⟩) (by decide)⟩
          have hrst : RStep w9 K.pl (l.drop (k + 1)) (SlA v.1 v.2.2 (k + 1) 2, v.2.1 - (k + 1), v.2.2 - (k + 1)) := by
            have hv5 := (hv4.fm (M := fun _ => False) (.below (btr B5 B5.size hd5)) fun _ _ h => h).fm F9 fun b hb e => by
              have e : b = g := e
              subst e
              exact absurd (isE_one hb ⟨_, bg5⟩) (by decide)
            refine ⟨by rw [List.length_drop]; omega, by rw [List.length_drop, hvn], ?_, fun b o hb => ?_⟩
            · have := hv5.rd.slice (k := k + 1) (by rw [List.length_map]; omega)
              rw [← List.map_drop] at this; exact this
            · unfold SlA at hb
              split at hb
              · exact hv5.ty b o hb
              · obtain ⟨b', o', hA, -⟩ := hv5.rd.2.2.2 (by rw [List.length_map]; omega)
                rw [hA] at hb
                simp only [Option.map_some, Addr.add_mk, Option.some.injEq, Addr.mk.injEq, and_true] at hb
                obtain ⟨rfl, -⟩ := hb
                exact hv5.ty _ _ hA
          have hhd : (T'.has l[k].1 who != (0 : Int)) = hdT T' l[k].1 ⟨who, wantT (T'.has l[k].1 who) l[k].2, l.drop (k + 1)⟩ := by
            unfold hdT; rw [Bool.eq_iff_iff]; simp
          rw [hhd]
          refine hR2 w9 T' fl' vl' l[k].1 ⟨who, wantT (T'.has l[k].1 who) l[k].2, l.drop (k + 1)⟩ (SlA v.1 v.2.2 (k + 1) 2, v.2.1 - (k + 1), v.2.2 - (k + 1)) hs1 hx hwt rfl ⟨hw.1, hw.2, hwr.1, hwr.2, fun s hs => ?_⟩ ⟨k, rfl, hk2⟩ hrst ?_ h9 hT2
          · have := hl s (List.mem_of_mem_drop hs); exact this
          · have F : StpF K w1 w5.drew vl vw vl' vw := (f4.trans (.below B5)).trans (.below hd5)
            have F' : StpF K w w5.drew vl vw vl' vw := (StpF.below hb1).trans F
            refine ⟨F'.fm.trans' F9 fun b hb e => ?_, F'.rows⟩
            have e : b = g := e
            omega
      have hNoWait : T'.fits who l[k].1 (wantT (T'.has l[k].1 who) l[k].2) = true → (T'.has l[k].1 who ≠ 0 ∨ T'.wt l[k].1 = []) → ∀ w', w' = w5 → Below w4.heap.size w4 w' ∧ T'.fits who l[k].1 (wantT (T'.has l[k].1 who) l[k].2) = true ∧ (T'.has l[k].1 who ≠ 0 ∨ T'.wt l[k].1 = []) := fun q1 q2 w' e => by
        subst e; exact ⟨B5, q1, q2⟩
      have hw2 : T'.fits who l[k].1 (wantT (T'.has l[k].1 who) l[k].2) = false ∨ (T'.has l[k].1 who = 0 ∧ T'.wt l[k].1 ≠ []) → TS.walk who T l = (T', some (l[k].1, ⟨who, wantT (T'.has l[k].1 who) l[k].2, l.drop (k + 1)⟩)) := fun e => by
        rw [hst, if_neg] at hwalk
        · exact hwalk
        · rintro ⟨q1, q2⟩
          rcases e with e | ⟨e1, e2⟩
          · rw [e] at q1; cases q1
          · rcases q2 with q2 | q2
            · exact q2 e1
            · exact e2 q2
      rw [brnot]
      refine br (fun hft => ?_) (fun hft => hwait _ rfl (hw2 (.inl hft)))
      simp only [NonNil_some, Addr.add_mk, Nat.zero_add]
      refine ⟨_, fun w' hS => (h4.keep hS).cells.2.2.2, _, fun w' hS => by rw [(b4.keep hS).cell]; rfl, ?_⟩
      refine h5.lookW hs1 rfl ⟨_, _, _, rfl, ?_⟩
      have hwl := (h5.ws l[k].1 hs1).len
      have hvw := (h5.rrW hT2 hs1).2.1
      refine brd (fun hgt => ?_) (fun hgt => ?_)
      · have hne2 : T'.wt l[k].1 ≠ [] := fun e => by rw [e] at hwl; simp at hwl; rw [hwl] at hvw; simp at hvw; omega
        refine bre (fun h0 => hwait _ rfl (hw2 (.inr ⟨h0, hne2⟩))) (fun h0 => hNoWait hft (.inl h0) _ rfl)
      · have hem : T'.wt l[k].1 = [] := by
          apply List.eq_nil_of_length_eq_zero; omega
        exact hNoWait hft (.inr hem) _ rfl
  · have hk2 : k = l.length := by omega
    subst hk2
    rw [List.drop_length, TS.walk] at hwalk
    refine st_blk bg (by omega) fun w6 b6 f6 => ?_
    simp only [Addr.add_mk, Nat.zero_add]
    refine st_blk b6 (by simp; omega) fun w7 b7 f7 => st_blk b7 (by simp; omega) fun w8 b8 f8 => st_blk b8 (by simp; omega) fun w9 b9 f9 => ?_
    have F9 : Fm (· = g) w2 w9 := ((f6.trans f7).trans f8).trans f9
    obtain ⟨⟨cl⟩, hcc⟩ : ∃ cl : Array Value, cl = c := ⟨c, rfl⟩
    subst hcc
    match cl, hcs, b9 with
    | [y0, y1, y2, y3], _, b9 =>
      simp only [List.setIfInBounds_toArray, List.set_cons_zero, List.set_cons_succ] at b9
      simp only [b9.cell, List.getElem?_toArray, List.getElem?_cons_zero, List.getElem?_cons_succ, Addr.add_mk, List.getElem?_toArray, List.getElem?_cons_zero, List.getElem?_cons_succ, LdI_some, LdB_some, LdStr_some, LdP_some, LdSl_some, LdM_some, Nat.zero_add, Br_t, Br_f]
      have h9 := h2.fmR F9 fun b e => by
        have e : b = g := e
        subst e
        exact ⟨hB0g, hng, fun e2 => absurd (isE_one e2 ⟨_, bg⟩) (by decide)⟩
      have F' : StpF K w w2 vl vw vl' vw := (StpF.below hb1).trans f2
      refine hR1 w9 T' fl' vl' hwalk hwt ⟨F'.fm.trans' F9 fun b hb e => ?_, F'.rows⟩ h9 hT2
      have e : b = g := e
      omega
end
end Go.Proofs.YtfhkgnfphfmhiaaGreatDoor
