import Derived.Test.YthbeeonmfbigcaaGreatDoorProg
import Derived.Test.YthbeeonmfbigcaaGreatDoorRows
import Derived.Lib.SmallJoins
import Derived.MapKept
import Derived.Laws.IdiomRangeMap
import Derived.Test.YthbeeonmfbigcaaGreatDoorAt4
/- Documents of the reference: Insert. -/
namespace Go.Proofs.YthbeeonmfbigcaaGreatDoor
open Go.RowKit Go.Vc
set_option linter.unusedVariables false
set_option linter.unusedSimpArgs false
set_option maxRecDepth 100000
theorem lst_liveD {D : Im} {loose : List Nat} (hA : WfA (slA D.sl) D.roots loose) (p : Nat) : ∀ x ∈ lstI D p, ∃ t, slA D.sl x = some t := fun x hx => by
  obtain ⟨_, t, ht, _⟩ := (hA.lst p).2 x hx
  exact ⟨t, ht⟩
theorem lst_fewD {D : Im} {loose : List Nat} (hw : WfS D.sl) (hA : WfA (slA D.sl) D.roots loose) (p : Nat) : (lstI D p).length ≤ 4096 :=
  Nat.le_trans (live_few (lst_liveD hA p) (hA.lst p).1) hw.few
abbrev vw (ok : Nat → Bool) (g : Nat) (w : World) : World := wOnly (fun b => ok b && !(Nat.beq b g)) w
section
variable {ok : Nat → Bool} {w w1 : World} {g : Nat} {D : Im} {vs vr : Sv} {R : Ending → World → Prop}
theorem vw_vx {vs1 : Sv} (hf : Fm (· = g) w w1) (hr : ∀ b, rowOf (slV vs1) = some b → w.heap.size ≤ b) : Sub (vw ok g w) (vx ok g vs1 w1) :=
  sub_only (fun b hb hh => by
    rw [Bool.and_eq_true] at hh
    refine vx_iff.2 ⟨hh.1, fun e => ?_, fun e => ?_⟩
    · subst e; rw [show Nat.beq b b = true from Nat.beq_refl b] at hh; cases hh.2
    · have := hr b e; omega) fun b hb hh => hf.block b hb fun e => by
    have e : b = g := e
    subst e; rw [Bool.and_eq_true, show Nat.beq b b = true from Nat.beq_refl b] at hh; cases hh.2
theorem vw_sub (hf : Fm (· = g) w w1) : Sub (vw ok g w) (vw ok g w1) :=
  sub_only (fun b _ h => h) fun b hb hh => hf.block b hb fun e => by
    have e : b = g := e
    subst e; rw [Bool.and_eq_true, show Nat.beq b b = true from Nat.beq_refl b] at hh; cases hh.2
theorem RM.fm (h : RM ok w g D vs vr) {M : Nat → Prop} (hf : Fm M w w1) (hm : ∀ b, b < w.heap.size → M b → ok b = false ∧ b ≠ g) : RM ok w1 g D vs vr :=
  ⟨hf.blk h.blk fun e => (hm g h.blk.lt e).2 rfl, h.im.sub (sub_only (fun b _ h => h) fun b hb hh => hf.block b hb fun e => by
    have := (hm b hb e).1
    rw [Bool.and_eq_true, this] at hh; cases hh.1), h.few⟩
theorem RM.keep (h : RM ok w g D vs vr) (hb : Below w.heap.size w w1) : RM ok w1 g D vs vr := h.fm (M := fun _ => False) (.below hb) fun _ _ h => h.elim
theorem Ed.only {w0 : World} {vs1 : Sv} (h : Fm (· = g) w0 w) (hr : ∀ b, rowOf (slV vs1) = some b → w0.heap.size ≤ b) (k : Fm (Ed g vs1) w w1) : Fm (· = g) w0 w1 :=
  ⟨k.os.trans h.os, k.tape.trans h.tape, k.output.trans h.output, Nat.le_trans h.size k.size, fun b hb hn => by
    rw [k.block b (by have := h.size; omega) (fun e => ?_), h.block b hb hn]
    rcases e with e | e
    · exact hn e
    · have := hr b e; omega⟩
theorem place_lt (hok : ∀ s ∈ D.sl, SlOk s) {wh : Int} {a : Nat} (ha : a < 18446744073709551616) : (placeF D wh a).1 < 18446744073709551616 := by
  unfold placeF
  split
  · show 0 < _; omega
  · split
    · show 0 < _; omega
    · cases hs : slA D.sl a with
      | none => show 0 < _; omega
      | some s =>
        dsimp only
        obtain ⟨k, _, hk, k2, _⟩ := slA_get hs
        have := (hok s (by rw [← k2]; exact List.getElem_mem hk)).parent
        split
        · split
          · show 0 < _; omega
          · exact ha
        · exact this
theorem insertR_calls (h : RM ok w g D vs vr) (hok : ∀ b, w.heap.size ≤ b → ok b = true) (hw : Wf D) {x : Tr} {e : E5} (hx : RTr (vw ok g w) x e) {wh : Int} {a : Nat} (ha : a < 18446744073709551616)
    (hK : ∀ w' vs' vr', RM ok w' g (insF D wh a x).1 vs' vr' → Fm (· = g) w w' → R (.returned (.tuple #[.int .u64 ((insF D wh a x).2.1 : Nat), .int .i64 (insF D wh a x).2.2])) w') :
    Calls Tryz.prog 21 #[.pointer (some ⟨g, 0, none⟩), .int .i64 wh, .int .u64 (a : Nat), .agg #[.int .i64 e.kind, .string e.nm, slV e.ats, .string e.text, slV e.kids]] w R := by
  refine ok21 (some ⟨g, 0, none⟩) wh a e.kind e.nm e.ats.1 e.ats.2.1 e.ats.2.2 e.text e.kids.1 e.kids.2.1 e.kids.2.2 ?_
  unfold F21
  obtain ⟨es, hr⟩ := h.re
  refine al fun g7 w1 hb1 b7 hge7 => ?_
  have hpl := place_lt hr.ok (wh := wh) ha
  refine placeW (hr.keep hb1) ha fun w2 hb2 => ⟨_, _, rfl, ?_⟩
  have B2 := btr hb1 hb1.size hb2
  have b72 := b7.keep hb2
  refine bre (fun h1 => ?_) (fun h1 => ?_)
  · have e1 : insF D wh a x = (D, 0, 1) := by unfold insF; rw [if_pos h1]
    rw [e1] at hK
    rw [h1]; exact hK w2 vs vr (h.keep B2) (.below B2)
  simp only [Addr.add_mk, Nat.zero_add, b72.cell, List.getElem?_toArray, List.getElem?_cons_zero, List.getElem?_cons_succ, Addr.add_mk, List.getElem?_toArray, List.getElem?_cons_zero, List.getElem?_cons_succ, LdI_some, LdB_some, LdStr_some, LdP_some, LdSl_some, LdM_some, Nat.zero_add, Br_t, Br_f]
  have hxw : RTr w x e := RTr.sub sub_of_only _ _ hx
  refine Check_calls x (hxw.keep B2) fun w3 hb3 => ⟨_, rfl, ?_⟩
  have B3 := btr B2 B2.size hb3
  have b73 := b72.keep hb3
  refine brn (fun h2 => ?_) (fun h2 => ?_)
  · have e1 : insF D wh a x = (D, 0, (lookF x 1 0).2) := by unfold insF; rw [if_neg h1, if_pos h2]
    rw [e1] at hK
    exact hK w3 vs vr (h.keep B3) (.below B3)
  have h2 : (lookF x 1 0).2 = 0 := h2
  obtain ⟨k1, k2, k3, k4⟩ := look_ok x 1 0 h2
  refine brn (fun h3 => ?_) (fun h3 => ?_)
  · have e1 : insF D wh a x = (D, 0, (placeF D wh a).2) := by unfold insF; rw [if_neg h1, if_neg (by rw [h2]; simp), if_pos h3]
    rw [e1] at hK
    exact hK w3 vs vr (h.keep B3) (.below B3)
  have h3 : (placeF D wh a).2 = 0 := h3
  obtain ⟨p1, p2, p3, p4, p5, p6⟩ := place_ok hw h3
  obtain ⟨c1, c2⟩ := hw.cnt (p1.imp id fun ⟨t, h, _⟩ => ⟨t, h⟩)
  have hins : insF D wh a x = if 64 < cntI D (placeF D wh a).1 + dpT x then (D, 0, 32) else if 4096 < tk D.sl + szT x then (D, 0, 33) else
      (putI { D with sl := makeF x (placeF D wh a).1 D.sl } (freshH D.sl) (placeF D wh a).1 wh a, freshH D.sl, 0) := by
    unfold insF; rw [if_neg h1, if_neg (by rw [h2]; simp), if_neg (by rw [h3]; simp)]
  have hmem : 2 < wh → a ∈ lstI D (placeF D wh a).1 := fun h2 => by
    obtain ⟨s, s1, s2⟩ := p4 h2
    have := hw.a.mem a s s1 (by simp)
    rw [s2] at this; exact this
  rw [hins] at hK
  generalize placeF D wh a = pr at *
  obtain ⟨p, pe⟩ := pr
  dsimp only at *
  simp only [Addr.add_mk, Nat.zero_add, b73.cell, List.getElem?_toArray, List.getElem?_cons_zero, List.getElem?_cons_succ, Addr.add_mk, List.getElem?_toArray, List.getElem?_cons_zero, List.getElem?_cons_succ, LdI_some, LdB_some, LdStr_some, LdP_some, LdSl_some, LdM_some, Nat.zero_add, Br_t, Br_f]
  refine sizeR_calls x (hxw.keep B3) k1 (by omega) (by omega) fun w4 hb4 => ⟨_, _, rfl, ?_⟩
  have B4 := btr B3 B3.size hb4
  refine levelW (hr.keep B4) c2 c1 hpl fun w5 hb5 => ⟨_, rfl, ?_⟩
  have B5 := btr B4 B4.size hb5
  refine ⟨inR_i64 (by omega) (by omega), inR_i64 (by omega) (by omega), ?_⟩
  refine brd (fun h4 => ?_) (fun h4 => ?_)
  · rw [if_pos (by omega)] at hK
    exact hK w5 vs vr (h.keep B5) (.below B5)
  rw [if_neg (by omega)] at hK
  have htk := Nat.le_trans (tk_le (sl := D.sl)) h.few
  refine takenW (hr.keep B5) ⟨_, rfl, inR_i64 (by omega) (by omega), ?_⟩
  refine brd (fun h5 => ?_) (fun h5 => ?_)
  · rw [if_pos (by omega)] at hK
    exact hK w5 vs vr (h.keep B5) (.below B5)
  rw [if_neg (by omega)] at hK
  have M := make_wf x k1 hw.s hw.a p1 c2 (by omega) (by omega)
  obtain ⟨st, st1, st2⟩ := M.top
  refine al fun g5 w7 hb7 _ _ => ?_
  have B7 := btr B5 B5.size hb7
  simp only [NonNil_some, (hr.keep B7).c0, Addr.add_mk, List.getElem?_toArray, List.getElem?_cons_zero, List.getElem?_cons_succ, LdI_some, LdB_some, LdStr_some, LdP_some, LdSl_some, LdM_some, Nat.zero_add, Br_t, Br_f]
  refine h.copy B7 fun w9 vs9 es9 h9 f9 f79 hrow9 => ?_
  have b74 := (b73.keep hb4).keep hb5
  have hg := h.blk.lt
  have b79 := f79.blk (b74.keep hb7) (fun e => by have e : g7 = g := e; omega)
  simp only [Addr.add_mk, Nat.zero_add, b79.cell, List.getElem?_toArray, List.getElem?_cons_zero, List.getElem?_cons_succ, Addr.add_mk, List.getElem?_toArray, List.getElem?_cons_zero, List.getElem?_cons_succ, LdI_some, LdB_some, LdStr_some, LdP_some, LdSl_some, LdM_some, Nat.zero_add, Br_t, Br_f]
  have hwE9 := f9.size
  refine makeR_calls x (e := e) h9 (fun b hb => hok b (by omega)) k1 hw.s hw.a p1 c2 (by omega) (by omega) hpl (RTr.sub (vw_vx f9 hrow9) _ _ hx) (fun _ h => by simp at h) fun w10 vs10 es10 h10 f10 nr10 _ => ⟨_, rfl, ?_⟩
  have F10 := Ed.only f9 hrow9 f10
  have hrow10 : ∀ b, rowOf (slV vs10) = some b → w.heap.size ≤ b := fun b hb => by
    rcases nr10 b hb with e | e
    · exact hrow9 b e
    · omega
  have hpe : p = 0 ∨ ∃ t, slA (makeF x p D.sl) p = some t := p1.imp id fun ⟨t, ht, _⟩ => ⟨t, M.ext _ _ ht⟩
  have hlst : lstI { D with sl := makeF x p D.sl } p = lstI D p := by
    unfold lstI lstA
    by_cases h0 : p = 0
    · rw [if_pos h0, if_pos h0]
    · rw [if_neg h0, if_neg h0]
      obtain ⟨t, ht, _⟩ := p1.resolve_left h0
      rw [ht]
      dsimp only
      rw [M.ext _ _ ht]
  have hs10 := F10.size
  refine putW h10 (fun b hb => hok b (by omega)) (n := freshH D.sl) (p := p) (a := a) (wh := wh) (M.wf.zero) st1 hpl hpe (lst_fewD (D := { D with sl := makeF x p D.sl }) M.wfs M.wf p) (fun h2 => by rw [hlst]; exact hmem h2) fun w11 vr11 es11 h11 f11 => ⟨rfl, ?_⟩
  have hne0 : freshH D.sl ≠ 0 := by unfold freshH hnd; omega
  have hnp : freshH D.sl ≠ p := fun e => by
    rcases p1 with e1 | ⟨t, ht, _⟩
    · exact hne0 (e.trans e1)
    · rw [← e, M.new] at ht; cases ht
  have hput : updI (putI { D with sl := makeF x p D.sl } (freshH D.sl) p wh a) (freshH D.sl) (fun s => { s with parent := p }) = putI { D with sl := makeF x p D.sl } (freshH D.sl) p wh a := by
    have e4 : slA (putI { D with sl := makeF x p D.sl } (freshH D.sl) p wh a).sl (freshH D.sl) = some st := by
      unfold putI
      rw [(setI_A (D := { D with sl := makeF x p D.sl }) (l := insAt (lstI { D with sl := makeF x p D.sl } p) (posF wh a (lstI { D with sl := makeF x p D.sl } p)) (freshH D.sl)) hpe).1]
      dsimp only
      rw [setA_of st1, if_neg (fun e => hnp e.1)]
    refine upd_same e4 ?_
    cases st
    simp only at st2
    simp only [st2]
  rw [hput] at h11
  have F11 := Ed.only F10 hrow10 f11
  exact hK w11 vs10 vr11 (h11.close fun b hb => hok b (hrow10 b hb)) F11
end
end Go.Proofs.YthbeeonmfbigcaaGreatDoor
/- Documents of the reference: a node, a subtree in plain. -/
namespace Go.Proofs.YthbeeonmfbigcaaGreatDoor
open Go.RowKit Go.Vc
set_option linter.unusedVariables false
set_option linter.unusedSimpArgs false
set_option maxRecDepth 100000
def trF (A : Nat → Option Sl) : Nat → Nat → Tr
  | 0, _ => .mk 2 noB [] noB []
  | r + 1, x => match A x with
    | some s => .mk s.kind s.nm s.attrs s.text (s.kids.map (trF A r))
    | none => .mk 2 noB [] noB []
theorem trF_some {A : Nat → Option Sl} {r x : Nat} {s : Sl} (h : A x = some s) : trF A (r + 1) x = .mk s.kind s.nm s.attrs s.text (s.kids.map (trF A r)) := by rw [trF, h]
theorem okL_map {f : Nat → Tr} : ∀ {l : List Nat}, (∀ y ∈ l, okT (f y)) → okL (l.map f)
  | [], _ => by simp [okL]
  | y :: l, h => by
    simp only [List.map_cons, okL]
    exact ⟨h y (by simp), okL_map fun z hz => h z (by simp [hz])⟩
theorem dpL_map {f : Nat → Tr} {h : Nat → Nat} : ∀ {l : List Nat} (a : Nat), (∀ y ∈ l, dpT (f y) = h y) → (l.map h).foldl max a = max a (dpL (l.map f))
  | [], a, _ => by simp [dpL]
  | y :: l, a, k => by
    simp only [List.map_cons, List.foldl_cons, dpL]
    rw [dpL_map (f := f) _ fun z hz => k z (by simp [hz]), k y (by simp)]
    omega
theorem szL_map {f : Nat → Tr} {h : Nat → List Nat} : ∀ {l : List Nat}, (∀ y ∈ l, szT (f y) = (h y).length) → szL (l.map f) = (l.flatMap h).length
  | [], _ => by simp [szL]
  | y :: l, k => by
    simp only [List.map_cons, szL, List.flatMap_cons, List.length_append]
    rw [k y (by simp), szL_map fun z hz => k z (by simp [hz])]
theorem tr_facts {A : Nat → Option Sl} {roots loose : List Nat} (hA : WfA A roots loose) : ∀ (r x c : Nat) {s : Sl}, A x = some s → Ch A x c → 65 ≤ c + r → okT (trF A r x) ∧ dpT (trF A r x) = dpA A r x ∧ szT (trF A r x) = (allA A r x).length := by
  intro r
  induction r with
  | zero =>
    intro x c s hx hc hr
    obtain ⟨c', h1, h2⟩ := hA.chain x s hx
    have := hc.fn h2
    omega
  | succ r ih =>
    intro x c s hx hc hr
    obtain ⟨o1, o2⟩ := hA.ok x s hx
    have hk : ∀ y ∈ s.kids, okT (trF A r y) ∧ dpT (trF A r y) = dpA A r y ∧ szT (trF A r y) = (allA A r y).length := fun y hy => by
      obtain ⟨t, t1, t2⟩ := ((hA.kid x s hx).2 y hy).2
      exact ih y (c + 1) t1 (.succ (hA.ne0 t1) t1 (by rw [t2]; exact hc)) (by omega)
    rw [trF_some hx, dpA_some hx, allA_some hx]
    have d := dpL_map (f := trF A r) (h := dpA A r) (l := s.kids) 0 fun y hy => (hk y hy).2.1
    have z := szL_map (f := trF A r) (h := allA A r) (l := s.kids) fun y hy => (hk y hy).2.2
    refine ⟨?_, ?_, ?_⟩
    · unfold okT
      refine ⟨o1, ?_, fun _ => okL_map fun y hy => (hk y hy).1⟩
      rcases o2 with h | h
      · exact .inl h.1
      · exact .inr h.1
    · unfold dpT
      rcases o2 with h | h
      · rw [if_neg (by omega)]; omega
      · rw [if_pos h.1, h.2.2.2]; simp
    · unfold szT
      rw [List.length_cons]
      rcases o2 with h | h
      · rw [if_neg (by omega)]; omega
      · rw [if_pos h.1, h.2.2.2]; simp
def nvB (ok : Nat → Bool) (k g4 g6 : Nat) (kv : Sv) (b : Nat) : Bool := ok b || decide (k ≤ b ∧ b ≠ g4 ∧ b ≠ g6 ∧ rowOf (slV kv) ≠ some b)
theorem nvB_iff {ok : Nat → Bool} {k g4 g6 : Nat} {kv : Sv} {b : Nat} : nvB ok k g4 g6 kv b = true ↔ ok b = true ∨ (k ≤ b ∧ b ≠ g4 ∧ b ≠ g6 ∧ rowOf (slV kv) ≠ some b) := by
  unfold nvB; rw [Bool.or_eq_true, decide_eq_true_eq]
theorem newOr_iff {ok : Nat → Bool} {k b : Nat} : (ok b || Nat.ble k b) = true ↔ ok b = true ∨ k ≤ b := by
  rw [Bool.or_eq_true]
  exact ⟨fun h => h.imp id Nat.le_of_ble_eq_true, fun h => h.imp id Nat.ble_eq_true_of_le⟩
section
variable {ok : Nat → Bool} {opn : List Nat} {w w1 w0 : World} {g : Nat} {D : Im} {vs vr : Sv} {es : List S8} {R : Ending → World → Prop}
theorem getR_calls (h : RW opn w0 g D vs vr es) (hb0 : Below w0.heap.size w0 w) {x : Nat} {s : Sl} (hx : slA D.sl x = some s)
    (hK : ∀ w' e, Below w.heap.size w w' → es[x % 4294967296 - 1]? = some e → R (.returned (.tuple #[.agg #[.int .i64 s.kind, .string s.nm, slV e.ats, .string s.text, .slice none 0 0], .int .i64 0])) w') :
    Calls Tryz.prog 71 #[.pointer (some ⟨g, 0, none⟩), .int .u64 (x : Nat)] w R := by
  have hxl := hnd_lt h.ok h.few hx
  obtain ⟨k, k1, hk, k2, k3, hx0⟩ := slA_get hx
  refine ok71 (some ⟨g, 0, none⟩) x ?_
  unfold F71
  refine al fun g4 w1 hb1 b4 hge4 => ?_
  have B1 := btr hb0 hb0.size hb1
  have h1 := h.keep B1
  refine atW h1 hxl ⟨_, rfl, ?_⟩
  rw [k1]
  refine brd (fun h9 => absurd h9 (by simp [atI])) (fun _ => ?_)
  simp only [NonNil_some, h1.c0, Addr.add_mk, List.getElem?_toArray, List.getElem?_cons_zero, List.getElem?_cons_succ, LdI_some, LdB_some, LdStr_some, LdP_some, LdSl_some, LdM_some, Nat.zero_add, Br_t, Br_f]
  obtain ⟨e, he⟩ := h1.e8 hk
  obtain ⟨b1, b2⟩ := h1.el k _ e (List.getElem?_eq_getElem hk) he
  obtain ⟨hk', he'⟩ := List.getElem?_eq_some_iff.1 he
  refine h1.rd.s8 h1.en (show atI (some k) = k from rfl) hk' fun b o c0 c1 c2 c3 c4 c5 c6 c7 => ?_
  rw [he'] at c0 c1 c2 c3 c4 c5 c6 c7
  simp only [Addr.add_mk, c0, c1, c2, c3, c4, c5, c6, c7, Addr.add_mk, List.getElem?_toArray, List.getElem?_cons_zero, List.getElem?_cons_succ, LdI_some, LdB_some, LdStr_some, LdP_some, LdSl_some, LdM_some, Nat.zero_add, Br_t, Br_f]
  refine al fun gs w2 hb2 bs hges => ?_
  refine st_blk bs (by simp) fun u1 q1 f1 => st_blk q1 (by simp) fun u2 q2 f2 => st_blk q2 (by simp) fun u3 q3 f3 => st_blk q3 (by simp) fun u4 q4 f4 => st_blk q4 (by simp) fun u5 q5 f5 => st_blk q5 (by simp) fun u6 q6 f6 => st_blk q6 (by simp) fun u7 q7 f7 => st_blk q7 (by simp) fun w3 q8 f8 => ?_
  simp only [List.setIfInBounds_toArray, List.set_cons_zero, List.set_cons_succ] at q8
  have F3 : Fm (· = gs) w2 w3 := ((((((f1.trans f2).trans f3).trans f4).trans f5).trans f6).trans f7).trans f8
  have D3 : Below w1.heap.size w1 w3 := hb2.trans (F3.toBelow hb2.size fun b hb e => by have e : b = gs := e; omega)
  simp only [Addr.add_mk, Nat.zero_add, q8.cell, List.getElem?_toArray, List.getElem?_cons_zero, List.getElem?_cons_succ, Addr.add_mk, List.getElem?_toArray, List.getElem?_cons_zero, List.getElem?_cons_succ, LdI_some, LdB_some, LdStr_some, LdP_some, LdSl_some, LdM_some, Nat.zero_add, Br_t, Br_f]
  refine st_blk (b4.keep D3) (by simp) fun v1 p1 r1 => st_blk p1 (by simp) fun v2 p2 r2 => st_blk p2 (by simp) fun v3 p3 r3 => st_blk p3 (by simp) fun v4 p4 r4 => st_blk p4 (by simp) fun w4 p5 r5 => ?_
  simp only [List.setIfInBounds_toArray, List.set_cons_zero, List.set_cons_succ] at p5
  have F4 : Fm (· = g4) w3 w4 := (((r1.trans r2).trans r3).trans r4).trans r5
  simp only [Addr.add_mk, Nat.zero_add, p5.cell, List.getElem?_toArray, List.getElem?_cons_zero, List.getElem?_cons_succ, Addr.add_mk, List.getElem?_toArray, List.getElem?_cons_zero, List.getElem?_cons_succ, LdI_some, LdB_some, LdStr_some, LdP_some, LdSl_some, LdM_some, Nat.zero_add, Br_t, Br_f]
  have hs1 := hb1.size
  have D13 : Below w.heap.size w w3 := hb1.trans (D3.mono hs1)
  have := hK w4 e (D13.trans (F4.toBelow D13.size fun b hb e => by have e : b = g4 := e; omega)) (by rw [show x % 4294967296 - 1 = k by omega]; exact he)
  rw [← k2, ← b1.kind, ← b1.nm, ← b1.text] at this
  exact this
theorem subtreeR_calls (h : RW [] w0 g D vs vr es) (hats : ∀ (i : Nat) (s : Sl) (e : S8), D.sl[i]? = some s → es[i]? = some e → RR LAt (wOnly ok w0) s.attrs e.ats) (hlt : ∀ b, ok b = true → b < w0.heap.size) {loose : List Nat} (hS : WfS D.sl) (hA : WfA (slA D.sl) D.roots loose) :
    ∀ (r x c : Nat) {s : Sl} {w : World} {R : Ending → World → Prop}, slA D.sl x = some s → Ch (slA D.sl) x c → 65 ≤ c + r → Below w0.heap.size w0 w →
    (∀ w' (a kv : Sv), Below w.heap.size w w' → RTr (newOr ok w.heap.size w') (trF (slA D.sl) r x) ⟨s.kind, s.nm, a, s.text, kv⟩ → R (.returned (.tuple #[.agg #[.int .i64 s.kind, .string s.nm, slV a, .string s.text, slV kv], .int .i64 0])) w') →
    Calls Tryz.prog 46 #[.pointer (some ⟨g, 0, none⟩), .int .u64 (x : Nat)] w R := by
  intro r
  induction r with
  | zero =>
    intro x c s w R hx hc hr
    obtain ⟨c', h1, h2⟩ := hA.chain x s hx
    have := hc.fn h2
    omega
  | succ r ih =>
    intro x c s w R hx hc hr hb0 hK
    have hxl := hnd_lt h.ok h.few hx
    obtain ⟨k, k1, hk, k2, k3, hx0⟩ := slA_get hx
    have hs0 := hb0.size
    refine ok46 (some ⟨g, 0, none⟩) x ?_
    unfold F46
    refine al fun g4 w1 hb1 b4 hge4 => ?_
    have B1 := btr hb0 hb0.size hb1
    refine getR_calls h B1 hx fun w2 e hb2 he => ⟨_, _, _, _, _, _, _, _, _, _, rfl, ?_⟩
    have B2 := btr B1 B1.size hb2
    refine al fun g6 w3 hb3 b6 hge6 => ?_
    refine st_blk b6 (by simp) fun u1 q1 f1 => st_blk q1 (by simp) fun u2 q2 f2 => st_blk q2 (by simp) fun u3 q3 f3 => st_blk q3 (by simp) fun u4 q4 f4 => st_blk q4 (by simp) fun w4 q5 f5 => ?_
    simp only [List.setIfInBounds_toArray, List.set_cons_zero, List.set_cons_succ] at q5
    have F4 : Fm (· = g6) w3 w4 := (((f1.trans f2).trans f3).trans f4).trans f5
    have D4 : Below w2.heap.size w2 w4 := hb3.trans (F4.toBelow hb3.size fun b hb e => by have e : b = g6 := e; omega)
    have B4 := btr B2 B2.size D4
    refine brn (fun h9 => absurd rfl h9) (fun _ => ?_)
    refine listW h B4 hxl (.inr ⟨s, hx, by simp⟩) fun lv w5 hb5 hlv _ _ => ⟨_, _, _, rfl, ?_⟩
    have B5 := btr B4 B4.size hb5
    have hlst : lstI D x = s.kids := by unfold lstI; exact lstA_some hx0 hx
    rw [hlst] at hlv
    have b45 := ((b4.keep hb2).keep D4).keep hb5
    have b65 := q5.keep hb5
    have hkk : x % 4294967296 - 1 = k := by omega
    rw [hkk] at he
    have hat := hats k s e (by rw [← k2]; exact List.getElem?_eq_getElem hk) he
    have hkid : ∀ y ∈ s.kids, ∃ t, slA D.sl y = some t ∧ t.parent = x := fun y hy => ((hA.kid x s hx).2 y hy).2
    have hfewk : s.kids.length ≤ 4096 := Nat.le_trans (live_few (fun y hy => by obtain ⟨t, t1, _⟩ := hkid y hy; exact ⟨t, t1⟩) (hA.kid x s hx).1) hS.few
    have C5 : Below w.heap.size w w5 := ((hb1.trans (hb2.mono hb1.size)).trans (D4.mono (Nat.le_trans hb1.size hb2.size))).trans (hb5.mono (Nat.le_trans (Nat.le_trans hb1.size hb2.size) D4.size))
    have hg4lt : g4 < w2.heap.size := (b4.keep hb2).lt
    have hg6lt : g6 < w5.heap.size := b65.lt
    have hne46 : g4 ≠ g6 := by omega
    obtain ⟨z0, z1, z2⟩ := hlv
    have hw25 : w2.heap.size ≤ w5.heap.size := Nat.le_trans D4.size hb5.size
    have hw1 := hb1.size
    have hw2 := hb2.size
    refine ⟨fun j w' => ∃ (m : Nat) (kv : Sv) (es5 : List E5), j = m ∧ m ≤ s.kids.length ∧ Below w.heap.size w w' ∧ w5.heap.size ≤ w'.heap.size ∧ Blk w' g4 #[.int .i64 0, .string (ByteArray.mk #[]), .slice none 0 0, .string (ByteArray.mk #[]), .slice none 0 0] 45 ∧ Blk w' g6 #[.int .i64 s.kind, .string s.nm, slV e.ats, .string s.text, slV kv] 45 ∧
        Own LE5 w' w5.heap.size 45 (slV kv) es5 ∧ RTl (wOnly (nvB ok w.heap.size g4 g6 kv) w') ((s.kids.take m).map (trF (slA D.sl) r)) es5, fun j _ => s.kids.length - j.toNat,
      ⟨0, (none, 0, 0), [], rfl, by omega, C5, Nat.le_refl _, b45, b65, .inl ⟨rfl, rfl⟩, by simp [RTl]⟩, ?_⟩
    rintro j w6 ⟨m, kv, es5, rfl, hm, C6, hsz6, b46, b66, ov, hrt⟩
    unfold F46_l6
    have B6 := btr hb0 hb0.size C6
    have hkv : ∀ b, rowOf (slV kv) = some b → w5.heap.size ≤ b ∧ b < w6.heap.size := fun b hb => ov.lt b hb
    have hel := hrt.len
    rw [List.length_map, List.length_take] at hel
    refine brd (fun hlt1 => ?_) (fun hge1 => ?_)
    · have hm2 : m < s.kids.length := by omega
      refine (z2.keep B6).hn z1 rfl hm2 fun bb oo cc => ?_
      simp only [cc, Addr.add_mk, List.getElem?_toArray, List.getElem?_cons_zero, List.getElem?_cons_succ, LdI_some, LdB_some, LdStr_some, LdP_some, LdSl_some, LdM_some, Nat.zero_add, Br_t, Br_f]
      obtain ⟨t, t1, t2⟩ := hkid s.kids[m] (List.getElem_mem hm2)
      refine ih s.kids[m] (c + 1) t1 (.succ (hA.ne0 t1) t1 (by rw [t2]; exact hc)) (by omega) B6 fun w7 a7 kv7 hb7 hrt7 => ⟨_, _, _, _, _, _, _, _, _, _, rfl, ?_⟩
      refine al fun gk w8 hb8 bk hgek => ?_
      refine st_blk bk (by simp) fun u1 q1 f1 => st_blk q1 (by simp) fun u2 q2 f2 => st_blk q2 (by simp) fun u3 q3 f3 => st_blk q3 (by simp) fun u4 q4 f4 => st_blk q4 (by simp) fun w9 q5 f5 => ?_
      simp only [List.setIfInBounds_toArray, List.set_cons_zero, List.set_cons_succ] at q5
      have F9 : Fm (· = gk) w8 w9 := (((f1.trans f2).trans f3).trans f4).trans f5
      have D9 : Below w7.heap.size w7 w9 := hb8.trans (F9.toBelow hb8.size fun b hb e => by have e : b = gk := e; omega)
      have D69 : Below w6.heap.size w6 w9 := btr hb7 hb7.size D9
      have b69 := b66.keep D69
      simp only [Addr.add_mk, Nat.zero_add, b69.cell, q5.cell, List.getElem?_toArray, List.getElem?_cons_zero, List.getElem?_cons_succ, Addr.add_mk, List.getElem?_toArray, List.getElem?_cons_zero, List.getElem?_cons_succ, LdI_some, LdB_some, LdStr_some, LdP_some, LdSl_some, LdM_some, Nat.zero_add, Br_t, Br_f]
      simp only [slV, Addr.add_mk, List.getElem?_toArray, List.getElem?_cons_zero, List.getElem?_cons_succ, LdI_some, LdB_some, LdStr_some, LdP_some, LdSl_some, LdM_some, Nat.zero_add, Br_t, Br_f]
      refine al fun g43 w10 hb10 b10 hge10 => ?_
      have D610 : Below w6.heap.size w6 w10 := btr D69 D69.size hb10
      have r1 : Rd LE5 w10 (some ⟨g43, 0, none⟩) 1 [⟨t.kind, t.nm, a7, t.text, kv7⟩] := by
        refine ⟨by simp, by simp [maxLen], fun h0 => (by cases h0), fun _ => ⟨g43, 0, rfl, fun j u hj => ?_⟩⟩
        rw [LE5.all_one] at hj
        rw [b10.cell]; simpa [LE5, E5.cells] using hj
      refine ap (L := LE5) (e := 45) (xs := es5) (ys := [⟨t.kind, t.nm, a7, t.text, kv7⟩]) (base := w5.heap.size) (v := slV kv) (.agg #[.int .i64 0, .string (ByteArray.mk #[]), .slice none 0 0, .string (ByteArray.mk #[]), .slice none 0 0]) 88 rfl (by kernel_rfl) (by kernel_rfl) (by kernel_rfl) (ov.keep D610) r1 (by have := D610.size; omega) (by simp; omega) (by simp [maxLen]; omega) fun A' c' w11 o11 g11 => ⟨A', _, c', rfl, ?_⟩
      have F11 : Fm (fun b => rowOf (slV kv) = some b) w6 w11 := (Fm.below D610).trans (Fm.grown g11.grown fun x hx => hx)
      have hn6 : rowOf (slV kv) ≠ some g6 := fun e => by have := (hkv g6 e).1; omega
      have hn4 : rowOf (slV kv) ≠ some g4 := fun e => by have := (hkv g4 e).1; omega
      have b611 := F11.blk b66 hn6
      refine st_blk b611 (by simp) fun w12 b612 f12 => ?_
      have b612 : Blk w12 g6 #[.int .i64 s.kind, .string s.nm, slV e.ats, .string s.text, slV (A', es5.length + ([⟨t.kind, t.nm, a7, t.text, kv7⟩] : List E5).length, c')] 45 := b612
      have hrow : ∀ b, rowOf (slV (A', es5.length + ([⟨t.kind, t.nm, a7, t.text, kv7⟩] : List E5).length, c')) = some b → rowOf (slV kv) = some b ∨ w10.heap.size ≤ b := fun b hb => by
        rcases g11.row with e | e | ⟨g, e, hge⟩
        · left; rw [← e]; exact hb
        · rw [show rowOf (slV (A', es5.length + ([⟨t.kind, t.nm, a7, t.text, kv7⟩] : List E5).length, c')) = none from e] at hb; cases hb
        · right
          rw [show rowOf (slV (A', es5.length + ([⟨t.kind, t.nm, a7, t.text, kv7⟩] : List E5).length, c')) = some g from e] at hb; cases hb
          exact hge
      have hs610 := D610.size
      have hs611 := F11.size
      have hs7 := hb7.size
      have hs710 : w7.heap.size ≤ w10.heap.size := Nat.le_trans D9.size hb10.size
      have C12 : Below w.heap.size w w12 := (C6.trans (F11.toBelow C6.size fun b hb e => by have := (hkv b e).1; have := C5.size; omega)).trans (f12.toBelow (by have := C6.size; omega) fun b hb e => by have e : b = g6 := e; omega)
      generalize hkv' : (A', es5.length + ([⟨t.kind, t.nm, a7, t.text, kv7⟩] : List E5).length, c') = kv' at *
      have o11 : Own LE5 w11 w5.heap.size 45 (slV kv') (es5 ++ [⟨t.kind, t.nm, a7, t.text, kv7⟩]) := by rw [← hkv']; exact o11
      refine ⟨inR_i64 (by omega) (by omega), ⟨m + 1, kv', _, by simp, by omega, C12, by have := f12.size; omega, f12.blk (F11.blk b46 hn4) (fun e => hne46 e), b612, own_fm o11 f12 fun b hb e => ?_, ?_⟩, (by first | omega | (dsimp only; omega))⟩
      · have e : b = g6 := e
        subst e
        rcases hrow b hb with e | e
        · exact hn6 e
        · omega
      · rw [List.take_succ_eq_append_getElem hm2, List.map_append]
        refine RTl.snoc (RTr.sub ?_ _ _ hrt7) (RTl.sub ?_ _ _ hrt)
        · refine sub_only (fun b hb h9 => nvB_iff.2 ?_) fun b hb h9 => ?_
          · rcases newOr_iff.1 h9 with h9 | h9
            · exact .inl h9
            · refine .inr ⟨by have := C6.size; omega, by omega, by omega, fun e => ?_⟩
              rcases hrow b e with e | e
              · have := (hkv b e).2; omega
              · omega
          · have hbk : w11.heap[b]? = w7.heap[b]? := by
              have h1 : w11.heap[b]? = w10.heap[b]? := by
                refine g11.grown.block b (by omega) fun e => ?_
                rcases newOr_iff.1 h9 with h9 | h9
                · have := hlt b h9; have := (hkv b e.symm).1; have := C5.size; omega
                · have := (hkv b e.symm).2; omega
              rw [h1, hb10.block b (by have := D9.size; omega), D9.block b hb]
            have := g11.lt
            rw [f12.block b (by omega) (fun e => ?_), hbk]
            have e : b = g6 := e
            rcases newOr_iff.1 h9 with h9 | h9
            · have := hlt b h9; omega
            · omega
        · refine sub_only (fun b hb h9 => nvB_iff.2 ?_) fun b hb h9 => ?_
          · rcases nvB_iff.1 h9 with h9 | ⟨h1, h2, h3, h4⟩
            · exact .inl h9
            · refine .inr ⟨h1, h2, h3, fun e => ?_⟩
              rcases hrow b e with e | e
              · exact h4 e
              · omega
          · have y1 : b ≠ g6 := fun e => by
              rcases nvB_iff.1 h9 with h9 | ⟨h1, h2, h3, h4⟩
              · have := hlt b h9; omega
              · exact h3 e
            rw [f12.block b (by omega) y1, F11.block b hb fun e => ?_]
            · rcases nvB_iff.1 h9 with h9 | ⟨h1, h2, h3, h4⟩
              · have := hlt b h9; have := (hkv b e).1; have := C5.size; omega
              · exact h4 e
    · have hm2 : m = s.kids.length := by omega
      subst hm2
      rw [List.take_length] at hrt
      simp only [Addr.add_mk, Nat.zero_add, b66.cell, List.getElem?_toArray, List.getElem?_cons_zero, List.getElem?_cons_succ, Addr.add_mk, List.getElem?_toArray, List.getElem?_cons_zero, List.getElem?_cons_succ, LdI_some, LdB_some, LdStr_some, LdP_some, LdSl_some, LdM_some, Nat.zero_add, Br_t, Br_f]
      simp only [slV, Addr.add_mk, List.getElem?_toArray, List.getElem?_cons_zero, List.getElem?_cons_succ, LdI_some, LdB_some, LdStr_some, LdP_some, LdSl_some, LdM_some, Nat.zero_add, Br_t, Br_f]
      refine st_blk b46 (by simp) fun v1 p1 r1 => st_blk p1 (by simp) fun v2 p2 r2 => st_blk p2 (by simp) fun v3 p3 r3 => st_blk p3 (by simp) fun v4 p4 r4 => st_blk p4 (by simp) fun w7 p5 r5 => ?_
      simp only [List.setIfInBounds_toArray, List.set_cons_zero, List.set_cons_succ] at p5
      have F7 : Fm (· = g4) w6 w7 := (((r1.trans r2).trans r3).trans r4).trans r5
      simp only [Addr.add_mk, Nat.zero_add, p5.cell, List.getElem?_toArray, List.getElem?_cons_zero, List.getElem?_cons_succ, Addr.add_mk, List.getElem?_toArray, List.getElem?_cons_zero, List.getElem?_cons_succ, LdI_some, LdB_some, LdStr_some, LdP_some, LdSl_some, LdM_some, Nat.zero_add, Br_t, Br_f]
      have C7 : Below w.heap.size w w7 := C6.trans (F7.toBelow C6.size fun b hb e => by have e : b = g4 := e; omega)
      have B7 := btr hb0 hb0.size C7
      refine hK w7 e.ats kv C7 ?_
      rw [trF_some hx]
      simp only [RTr]
      have o7 := own_fm ov F7 fun b hb e => by have e : b = g4 := e; have := (hkv b hb).1; omega
      have o8 : Own LE5 (newOr ok w.heap.size w7) w5.heap.size 45 (slV kv) es5 := by
        rcases o7 with h2 | h2 | ⟨g', c', cur, hv, hb, hh, hn, hm, hs, ht⟩
        · exact .inl h2
        · exact .inr (.inl h2)
        · exact .inr (.inr ⟨g', c', cur, hv, hb, cells_only (newOr_iff.2 (.inr (by have := C5.size; omega))) hh, hn, hm, hs, ht⟩)
      obtain ⟨A, c9, hv, hr9⟩ := o8.form
      have e1 := slv_form hv
      refine ⟨trivial, trivial, trivial, hat.sub (sub_only (fun b _ h9 => newOr_iff.2 (.inl h9)) fun b hb _ => B7.block b hb), by rw [List.length_map]; omega, es5, by rw [e1], by rw [e1]; exact hr9, ?_⟩
      refine RTl.sub (sub_only (fun b hb h9 => newOr_iff.2 ?_) fun b hb h9 => F7.block b hb fun e => ?_) _ _ hrt
      · rcases nvB_iff.1 h9 with h9 | ⟨h1, _⟩
        · exact .inl h9
        · exact .inr h1
      · have e : b = g4 := e
        rcases nvB_iff.1 h9 with h9 | ⟨h1, h2, h3, h4⟩
        · have := hlt b h9; omega
        · exact h2 e
end
end Go.Proofs.YthbeeonmfbigcaaGreatDoor
/- Documents of the reference: all nodes of a well-formed one. -/
namespace Go.Proofs.YthbeeonmfbigcaaGreatDoor
open Go.RowKit Go.Vc
set_option linter.unusedVariables false
set_option linter.unusedSimpArgs false
set_option maxRecDepth 100000
def allI (D : Im) (n : Nat) : List Nat := if n = 0 then D.roots.flatMap (allA (slA D.sl) 65) else allA (slA D.sl) 65 n
section
variable {opn : List Nat} {w w1 w0 : World} {g : Nat} {D : Im} {vs vr : Sv} {es : List S8} {R : Ending → World → Prop} {loose : List Nat}
theorem all_few (hS : WfS D.sl) (hA : WfA (slA D.sl) D.roots []) {r x : Nat} (hx : ∃ s, slA D.sl x = some s) : (allA (slA D.sl) r x).length ≤ 4096 :=
  Nat.le_trans (live_few (fun y hy => all_live hA hx (fun z hz => by simp at hz) hy) (all_nodup hA r x hx fun z hz => by simp at hz)) hS.few
theorem flat_le {f : Nat → List Nat} {k : Nat} : ∀ (l : List Nat), (∀ x ∈ l, (f x).length ≤ k) → (l.flatMap f).length ≤ l.length * k
  | [], _ => by simp
  | x :: l, h => by
    rw [List.flatMap_cons, List.length_append, List.length_cons, Nat.add_mul]
    have h1 := h x (by simp)
    have h2 := flat_le l fun y hy => h y (by simp [hy])
    omega
theorem allI_len (hw : Wf D) (n : Nat) (hn : n = 0 ∨ ∃ s, slA D.sl n = some s) : (allI D n).length ≤ 16777216 := by
  unfold allI
  split
  · have h1 := flat_le (f := allA (slA D.sl) 65) (k := 4096) D.roots fun x hx => by
      obtain ⟨_, t, ht, _⟩ := hw.a.root.2 x hx
      exact all_few hw.s hw.a ⟨t, ht⟩
    have h2 := lst_fewD hw.s hw.a 0
    unfold lstI at h2; rw [lstA_zero] at h2
    have := Nat.mul_le_mul_right 4096 h2
    omega
  · have := all_few (r := 65) hw.s hw.a (hn.resolve_left (by assumption)); omega
theorem allW_loop {f : Nat → List Nat} {l : List Nat} {v : Sv} (hv : RR LHn w0 l v) {w1 : World} {A1 : Option Addr} {n1 c1 : Nat} {xs : List Nat} (hb1 : Below w0.heap.size w0 w1) (ho1 : Own LHn w1 w0.heap.size 41 (.slice A1 n1 c1) xs) (hlen : xs.length + (l.flatMap f).length ≤ 4398046511104)
    (hstep : ∀ x ∈ l, ∀ {w : World} {A : Option Addr} {n c : Nat} {ys : List Nat} {R : Ending → World → Prop}, Below w0.heap.size w0 w → Own LHn w w0.heap.size 41 (.slice A n c) ys → ys.length + (f x).length ≤ 4398046511104 →
      (∀ A' n' c' w', Below w0.heap.size w0 w' → Own LHn w' w0.heap.size 41 (.slice A' n' c') (ys ++ f x) → R (.returned (.slice A' n' c')) w') →
      Calls Tryz.prog 30 #[.pointer (some ⟨g, 0, none⟩), .int .u64 (x : Nat), .slice A n c] w R)
    (hK : ∀ A' n' c' w', Below w0.heap.size w0 w' → Own LHn w' w0.heap.size 41 (.slice A' n' c') (xs ++ l.flatMap f) → R (.returned (.slice A' n' c')) w') :
    ∃ (I : Option Addr → Nat → Nat → Int → World → Prop) (m : Option Addr → Nat → Nat → Int → World → Nat), I A1 n1 c1 (0 : Int) w1 ∧
      ∀ (l3 : Option Addr) (lN3 : Nat) (lC3 : Nat) (i : Int) (w1_2 : World), I l3 lN3 lC3 i w1_2 → F30_l5 (some ⟨g, 0, none⟩) v.1 v.2.1 (fun l3' lN3' lC3' i' w2 => I l3' lN3' lC3' i' w2 ∧ m l3' lN3' lC3' i' w2 < m l3 lN3 lC3 i w1_2) l3 lN3 lC3 i w1_2 R := by
  obtain ⟨z0, z1, z2⟩ := hv
  refine ⟨fun l3 lN3 lC3 i w' => ∃ m : Nat, i = m ∧ m ≤ l.length ∧ Below w0.heap.size w0 w' ∧ Own LHn w' w0.heap.size 41 (.slice l3 lN3 lC3) (xs ++ (l.take m).flatMap f), fun _ _ _ i _ => l.length - i.toNat,
    ⟨0, rfl, by omega, hb1, by simpa using ho1⟩, ?_⟩
  rintro l3 lN3 lC3 i w3 ⟨m, rfl, hm, hb3, ho3⟩
  unfold F30_l5
  refine brd (fun hlt => ?_) (fun hge => ?_)
  · have hm2 : m < l.length := by omega
    refine (z2.keep hb3).hn z1 rfl (k := m) hm2 fun b o c0 => ?_
    simp only [c0, Addr.add_mk, List.getElem?_toArray, List.getElem?_cons_zero, List.getElem?_cons_succ, LdI_some, LdB_some, LdStr_some, LdP_some, LdSl_some, LdM_some, Nat.zero_add, Br_t, Br_f]
    have hst : (l.take (m + 1)).flatMap f = (l.take m).flatMap f ++ f l[m] := by
      rw [List.take_succ_eq_append_getElem hm2, List.flatMap_append]; simp
    have hle : ((l.take (m + 1)).flatMap f).length ≤ (l.flatMap f).length := by
      have e : l.flatMap f = (l.take (m + 1)).flatMap f ++ (l.drop (m + 1)).flatMap f := by rw [← List.flatMap_append, List.take_append_drop]
      rw [e, List.length_append]; omega
    rw [hst, List.length_append] at hle
    refine hstep l[m] (List.getElem_mem hm2) hb3 ho3 (by simp only [List.length_append]; omega) fun A4 n4 c4 w4 hb4 ho4 => ⟨_, _, _, rfl, inR_i64 (by omega) (by omega), ⟨m + 1, by simp, by omega, hb4, ?_⟩, (by first | omega | (dsimp only; omega))⟩
    rw [hst, ← List.append_assoc]; exact ho4
  · have hm2 : m = l.length := by omega
    subst hm2
    rw [List.take_length] at ho3
    exact hK l3 lN3 lC3 w3 hb3 ho3
theorem allW (h : RW [] w0 g D vs vr es) (hA : WfA (slA D.sl) D.roots loose) : ∀ (r x c : Nat) {s : Sl}, slA D.sl x = some s → Ch (slA D.sl) x c → 65 ≤ c + r → ∀ {w : World} {A : Option Addr} {n c : Nat} {xs : List Nat} {R : Ending → World → Prop},
    Below w0.heap.size w0 w → Own LHn w w0.heap.size 41 (.slice A n c) xs → xs.length + (allA (slA D.sl) r x).length ≤ 4398046511104 →
    (∀ A' n' c' w', Below w0.heap.size w0 w' → Own LHn w' w0.heap.size 41 (.slice A' n' c') (xs ++ allA (slA D.sl) r x) → R (.returned (.slice A' n' c')) w') →
    Calls Tryz.prog 30 #[.pointer (some ⟨g, 0, none⟩), .int .u64 (x : Nat), .slice A n c] w R := by
  intro r
  induction r with
  | zero =>
    intro x c s hx hc hr
    obtain ⟨c', h1, h2⟩ := hA.chain x s hx
    have := hc.fn h2
    omega
  | succ r ih =>
    intro x c s hx hc hr w A n cc xs R hb ho hlen hK
    have hxl := hnd_lt h.ok h.few hx
    have hx0 := hA.ne0 hx
    rw [allA_some hx, List.length_cons] at hlen
    rw [allA_some hx] at hK
    refine ok30 (some ⟨g, 0, none⟩) x A n cc ?_
    unfold F30
    refine ⟨fun A1 n1 c1 w1 => Below w0.heap.size w0 w1 ∧ Own LHn w1 w0.heap.size 41 (.slice A1 n1 c1) (xs ++ [x]), ?_, ?_⟩
    · rintro A1 n1 c1 w1 ⟨hb1, ho1⟩
      unfold F30_j3
      refine listW h hb1 hxl (.inr ⟨s, hx, by simp⟩) fun v w2 hb2 hv _ _ => ⟨_, _, _, rfl, ?_⟩
      have B2 := btr hb1 hb1.size hb2
      have hlst : lstI D x = s.kids := by unfold lstI; exact lstA_some hx0 hx
      rw [hlst] at hv
      refine allW_loop (f := allA (slA D.sl) r) hv B2 (ho1.keep hb2) (by simp only [List.length_append, List.length_singleton]; omega) (fun y hy => ?_) fun A4 n4 c4 w4 hb4 ho4 => ?_
      · obtain ⟨t, t1, t2⟩ := ((hA.kid x s hx).2 y hy).2
        intro w A n c' ys R hb ho hl hK
        exact ih y (c + 1) t1 (.succ (hA.ne0 t1) t1 (by rw [t2]; exact hc)) (by omega) hb ho hl hK
      · rw [List.append_assoc, List.singleton_append] at ho4
        exact hK A4 n4 c4 w4 hb4 ho4
    · refine brn (fun _ => ?_) (fun h0 => absurd h0 (by omega))
      refine ap1 (L := LHn) (x := x) (.int .u64 0) 8 rfl (by kernel_rfl) (by kernel_rfl) (by kernel_rfl) ho hb.size (by omega) (by simp [maxLen]; omega) fun A' c' w1 o1 g1 => ⟨_, _, _, rfl, hb.trans g1.below, o1⟩
theorem AllW (h : RW [] w g D vs vr es) (hw : Wf D) {n : Nat} (hn : n < 18446744073709551616)
    (hK : ∀ v w', Below w.heap.size w w' → (n = 0 ∨ (∃ s, slA D.sl n = some s) → Own LHn w' w.heap.size 41 (slV v) (allI D n)) → (n ≠ 0 → slA D.sl n = none → v = (none, 0, 0)) → R (.returned (.tuple #[slV v, .int .i64 (if n = 0 ∨ (slA D.sl n).isSome = true then 0 else 8)])) w') :
    Calls Tryz.prog 5 #[.pointer (some ⟨g, 0, none⟩), .int .u64 (n : Nat)] w R := by
  refine ok5 (some ⟨g, 0, none⟩) n ?_
  unfold F5
  refine ⟨fun w' => w = w' ∧ (n = 0 ∨ ∃ s, slA D.sl n = some s), ?_, ?_⟩
  · rintro _ ⟨rfl, hl⟩
    unfold F5_j3
    refine al fun g16 w1 hb1 b1 hge1 => ?_
    have hfin : ∀ A' n' c' w', Below w.heap.size w w' → Own LHn w' w.heap.size 41 (.slice A' n' c') (allI D n) → R (.returned (.tuple #[.slice A' n' c', .int .i64 0])) w' := fun A' n' c' w' hb ho => by
      have := hK (A', n', c') w' hb (fun _ => ho) (fun h0 h1 => by
        rcases hl with e | ⟨s, hs⟩
        · exact absurd e h0
        · rw [hs] at h1; cases h1)
      rw [if_pos (by
        rcases hl with e | ⟨s, hs⟩
        · exact .inl e
        · exact .inr (by rw [hs]; rfl))] at this
      exact this
    rcases hl with rfl | ⟨s, hs⟩
    · refine ok30 (some ⟨g, 0, none⟩) 0 (some ⟨g16, 0, none⟩) 0 0 ?_
      unfold F30
      refine ⟨fun A1 n1 c1 w2 => w1 = w2 ∧ A1 = some ⟨g16, 0, none⟩ ∧ n1 = 0 ∧ c1 = 0, ?_, brn (fun h0 => absurd rfl h0) fun _ => ⟨rfl, rfl, rfl, rfl⟩⟩
      rintro _ _ _ _ ⟨rfl, rfl, rfl, rfl⟩
      unfold F30_j3
      have hlen := allI_len hw 0 (.inl rfl)
      unfold allI at hlen hfin
      rw [if_pos rfl] at hlen hfin
      refine listW (x := 0) h hb1 (by omega) (.inl rfl) fun v w2 hb2 hv _ _ => ⟨_, _, _, rfl, ?_⟩
      have hlst : lstI D 0 = D.roots := by unfold lstI; exact lstA_zero
      rw [hlst] at hv
      refine allW_loop (f := allA (slA D.sl) 65) (xs := []) hv (btr hb1 hb1.size hb2) (Own.bare _ _ _ _ _) (by simp only [List.length_nil]; omega) (fun y hy => ?_) fun A4 n4 c4 w4 hb4 ho4 => ⟨_, _, _, rfl, ?_⟩
      · obtain ⟨_, t, t1, t2⟩ := hw.a.root.2 y hy
        intro w A n c' ys R hb ho hl hK
        exact allW h hw.a 65 y 1 t1 (.succ (hw.a.ne0 t1) t1 (by rw [t2]; exact .zero)) (by omega) hb ho hl hK
      · exact hfin A4 n4 c4 w4 hb4 (by simpa using ho4)
    · have hn0 := hw.a.ne0 hs
      have hlen := allI_len hw n (.inr ⟨s, hs⟩)
      unfold allI at hlen hfin
      rw [if_neg hn0] at hlen hfin
      obtain ⟨c, c1, c2⟩ := hw.a.chain n s hs
      refine allW (xs := []) h hw.a 65 n c hs c2 (by omega) hb1 (Own.bare _ _ _ _ _) (by simp only [List.length_nil]; omega) fun A4 n4 c4 w4 hb4 ho4 => ⟨_, _, _, rfl, ?_⟩
      exact hfin A4 n4 c4 w4 hb4 (by simpa using ho4)
  · refine brn (fun h0 => ?_) (fun h0 => ⟨rfl, .inl (by omega)⟩)
    refine liveW h hn ⟨_, rfl, ?_⟩
    rw [brnot]
    refine br (fun h1 => ⟨rfl, .inr (Option.isSome_iff_exists.1 h1)⟩) (fun h1 => ?_)
    have e9 : slA D.sl n = none := by
      cases h9 : slA D.sl n with
      | none => rfl
      | some s => rw [h9] at h1; cases h1
    have := hK (none, 0, 0) w (.refl _ _) (fun hl => by
      rcases hl with e | ⟨s, hs⟩
      · omega
      · rw [hs] at e9; cases e9) (fun _ _ => rfl)
    rw [if_neg (by
      rw [e9]
      rintro (h | h)
      · omega
      · cases h)] at this
    exact this
end
end Go.Proofs.YthbeeonmfbigcaaGreatDoor
/- Documents of the reference: Move, Delete. -/
namespace Go.Proofs.YthbeeonmfbigcaaGreatDoor
open Go.RowKit Go.Vc
set_option linter.unusedVariables false
set_option linter.unusedSimpArgs false
set_option maxRecDepth 100000
section
variable {ok : Nat → Bool} {opn : List Nat} {w w1 w0 : World} {g : Nat} {D : Im} {vs vr : Sv} {es : List S8} {R : Ending → World → Prop} {loose : List Nat}
theorem RM.re2 (h : RM ok w g D vs vr) : ∃ es, RW [] w g D vs vr es ∧ ∀ (i : Nat) (s : Sl) (e : S8), D.sl[i]? = some s → es[i]? = some e → RR LAt (vw ok g w) s.attrs e.ats := by
  obtain ⟨es, e1, e2, e3⟩ := h.im.row
  have h2 := h.rdr
  have hl := e3.len
  have key : ∀ (i : Nat) (s : Sl) (e : S8), D.sl[i]? = some s → es[i]? = some e → RSl (vw ok g w) s e := fun i s e hs he => by
    obtain ⟨hi, hs⟩ := List.getElem?_eq_some_iff.1 hs
    obtain ⟨hi', he⟩ := List.getElem?_eq_some_iff.1 he
    have := e3.get i hi hi'
    rw [hs, he] at this; exact this
  refine ⟨es, ⟨h2.c0, h2.c1, e1, sub_of_only.rd e2, hl, h.few, fun i s e hs he => ?_, h2.im.roots, h2.im.ok, h2.im.rok⟩, fun i s e hs he => (key i s e hs he).ats⟩
  have := (key i s e hs he).sub sub_of_only
  exact ⟨⟨this.gen, this.live, this.kind, this.nm, this.text, this.parent, this.ats⟩, fun _ => this.kids⟩
mutual
theorem dpT_le : ∀ x : Tr, dpT x ≤ szT x
  | .mk kind nm attrs text kids => by
    have := dpL_le kids
    unfold dpT szT; split <;> omega
theorem dpL_le : ∀ l : List Tr, dpL l ≤ szL l
  | [] => by simp [dpL]
  | x :: l => by
    have h1 := dpT_le x
    have h2 := dpL_le l
    simp only [dpL, szL]; omega
end
theorem depthR_calls (h : RM ok w g D vs vr) (hw : Wf D) {n : Nat} {s : Sl} (hs : slA D.sl n = some s) (hb : Below w.heap.size w w1)
    (hK : ∀ w' (a kv : Sv), Below w1.heap.size w1 w' → RTr w' (trF (slA D.sl) 65 n) ⟨s.kind, s.nm, a, s.text, kv⟩ → R (.returned (.tuple #[.agg #[.int .i64 s.kind, .string s.nm, slV a, .string s.text, slV kv], .int .i64 0])) w') :
    Calls Tryz.prog 46 #[.pointer (some ⟨g, 0, none⟩), .int .u64 (n : Nat)] w1 R := by
  obtain ⟨es, r1, r2⟩ := h.re2
  obtain ⟨c, c1, c2⟩ := hw.a.chain n s hs
  have hsub : Sub (vw ok g w) (wOnly (fun b => (ok b && !(Nat.beq b g)) && decide (b < w.heap.size)) w) := sub_only (fun b hb h => by rw [h, decide_eq_true hb]; rfl) fun _ _ _ => rfl
  refine subtreeR_calls (ok := fun b => (ok b && !(Nat.beq b g)) && decide (b < w.heap.size)) r1 (fun i s e h1 h2 => (r2 i s e h1 h2).sub hsub) (fun b hb => by rw [Bool.and_eq_true, decide_eq_true_eq] at hb; exact hb.2) hw.s hw.a 65 n c hs c2 (by omega) hb fun w' a kv hb' hT => hK w' a kv hb' (RTr.sub sub_of_only _ _ hT)
theorem place_live {wh : Int} {a : Nat} (h1 : (placeF D wh a).2 ≠ 1) (h8 : (placeF D wh a).2 ≠ 8) : a = 0 ∨ ∃ s, slA D.sl a = some s := by
  unfold placeF at h1 h8
  by_cases h9 : wh < 1 ∨ 4 < wh ∨ (a = 0 ∧ 2 < wh)
  · rw [if_pos h9] at h1; exact absurd rfl h1
  · rw [if_neg h9] at h8
    by_cases h0 : a = 0
    · exact .inl h0
    · rw [if_neg h0] at h8
      cases hs : slA D.sl a with
      | none => rw [hs] at h8; exact absurd rfl h8
      | some s => exact .inr ⟨s, rfl⟩
theorem moveR_calls (h : RM ok w g D vs vr) (hok : ∀ b, w.heap.size ≤ b → ok b = true) (hw : Wf D) {n a : Nat} {wh : Int} (hn : n < 18446744073709551616) (ha : a < 18446744073709551616)
    (hK : ∀ w' vs' vr', RM ok w' g (movF D n wh a).1 vs' vr' → Fm (· = g) w w' → R (.returned (.int .i64 (movF D n wh a).2)) w') :
    Calls Tryz.prog 23 #[.pointer (some ⟨g, 0, none⟩), .int .u64 (n : Nat), .int .i64 wh, .int .u64 (a : Nat)] w R := by
  refine ok23 (some ⟨g, 0, none⟩) n wh a ?_
  unfold F23
  obtain ⟨es, hr⟩ := h.re
  have hpl := place_lt hr.ok (wh := wh) ha
  refine placeW hr ha fun w1 B1 => ⟨_, _, rfl, ?_⟩
  refine bre (fun h1 => ?_) (fun h1 => ?_)
  · have e1 : movF D n wh a = (D, 1) := by unfold movF; rw [if_pos h1]
    rw [e1] at hK
    rw [h1]; exact hK w1 vs vr (h.keep B1) (.below B1)
  have h1 : (placeF D wh a).2 ≠ 1 := h1
  refine ⟨fun w' => w1 = w' ∧ (∃ s, slA D.sl n = some s) ∧ (placeF D wh a).2 ≠ 8, ?_, ?_⟩
  rotate_left
  · refine liveW (hr.keep B1) hn ⟨_, rfl, ?_⟩
    have hbad : (slA D.sl n = none ∨ (placeF D wh a).2 = 8) → R (.returned (.int .i64 8)) w1 := fun h2 => by
      have e1 : movF D n wh a = (D, 8) := by unfold movF; rw [if_neg h1, if_pos h2]
      rw [e1] at hK
      exact hK w1 vs vr (h.keep B1) (.below B1)
    rw [brnot]
    refine br (fun hl => ?_) (fun hl => hbad (.inl ?_))
    · exact bre (fun h8 => hbad (.inr h8)) (fun h8 => ⟨rfl, Option.isSome_iff_exists.1 hl, h8⟩)
    · cases h9 : slA D.sl n with
      | none => rfl
      | some s => rw [h9] at hl; cases hl
  rintro _ ⟨rfl, ⟨s, hs⟩, h8⟩
  unfold F23_j6
  have hal := place_live h1 h8
  have n0 := hw.a.ne0 hs
  have hno8 : ¬ (slA D.sl n = none ∨ (placeF D wh a).2 = 8) := by
    rintro (e | e)
    · rw [hs] at e; cases e
    · exact h8 e
  refine ⟨fun w' => Below w.heap.size w w' ∧ ¬ (a ≠ 0 ∧ wiI D n a = true), ?_, ?_⟩
  rotate_left
  · refine brn (fun h0 => ?_) (fun h0 => ⟨B1, fun e => by omega⟩)
    have h0 : a ≠ 0 := by omega
    obtain ⟨t, ht⟩ := hal.resolve_left h0
    obtain ⟨c, c1, c2⟩ := hw.a.chain a t ht
    refine withinW (hr.keep B1) hs c2 c1 h0 ha fun w2 hb2 => ⟨_, rfl, ?_⟩
    have B2 := btr B1 B1.size hb2
    refine br (fun hwi => ?_) (fun hwi => ⟨B2, fun e => by rw [hwi] at e; cases e.2⟩)
    have e1 : movF D n wh a = (D, 34) := by unfold movF; rw [if_neg h1, if_neg hno8, if_pos ⟨h0, hwi⟩]
    rw [e1] at hK
    exact hK w2 vs vr (h.keep B2) (.below B2)
  rintro w2 ⟨B2, hnw⟩
  unfold F23_j8
  refine brn (fun h3 => ?_) (fun h3 => ?_)
  · have e1 : movF D n wh a = (D, (placeF D wh a).2) := by unfold movF; rw [if_neg h1, if_neg hno8, if_neg hnw, if_pos h3]
    rw [e1] at hK
    exact hK w2 vs vr (h.keep B2) (.below B2)
  have h3 : (placeF D wh a).2 = 0 := h3
  obtain ⟨p1, p2, p3, p4, p5, p6⟩ := place_ok hw h3
  obtain ⟨m1, m2, m3, m4⟩ := mov_facts hw hs hnw h3
  obtain ⟨c1, c2⟩ := hw.cnt (p1.imp id fun ⟨t, h, _⟩ => ⟨t, h⟩)
  have hmov : movF D n wh a = if 64 < cntI D (placeF D wh a).1 + dpA (slA D.sl) 65 n then (D, 32) else
      (updI (putI (outI D n) n (placeF D wh a).1 wh a) n fun s => { s with parent := (placeF D wh a).1 }, 0) := by
    unfold movF; rw [if_neg h1, if_neg hno8, if_neg hnw, if_neg (by rw [h3]; simp)]
  rw [hmov] at hK
  generalize placeF D wh a = pr at *
  obtain ⟨p, pe⟩ := pr
  dsimp only at *
  have hrB := hr.keep B2
  refine depthR_calls h hw hs B2 fun w3 at' kv hb3 hT => ⟨_, _, _, _, _, _, _, _, _, _, rfl, ?_⟩
  have B3 := btr B2 B2.size hb3
  obtain ⟨cn, cn1, cn2⟩ := hw.a.chain n s hs
  obtain ⟨f1, f2, f3⟩ := tr_facts hw.a 65 n cn hs cn2 (by omega)
  have hsz := all_few (r := 65) hw.s hw.a ⟨s, hs⟩
  rw [← f3] at hsz
  have hdsz := dpT_le (trF (slA D.sl) 65 n)
  refine al fun gt w4 hb4 bt hget => ?_
  refine st_blk bt (by simp) fun u1 q1 g1 => st_blk q1 (by simp) fun u2 q2 g2 => st_blk q2 (by simp) fun u3 q3 g3 => st_blk q3 (by simp) fun u4 q4 g4 => st_blk q4 (by simp) fun w5 q5 g5 => ?_
  simp only [List.setIfInBounds_toArray, List.set_cons_zero, List.set_cons_succ] at q5
  have F5 : Fm (· = gt) w4 w5 := (((g1.trans g2).trans g3).trans g4).trans g5
  have D5 : Below w3.heap.size w3 w5 := hb4.trans (F5.toBelow hb4.size fun b hb e => by have e : b = gt := e; omega)
  have B5 := btr B3 B3.size D5
  simp only [Addr.add_mk, Nat.zero_add, q5.cell, List.getElem?_toArray, List.getElem?_cons_zero, List.getElem?_cons_succ, Addr.add_mk, List.getElem?_toArray, List.getElem?_cons_zero, List.getElem?_cons_succ, LdI_some, LdB_some, LdStr_some, LdP_some, LdSl_some, LdM_some, Nat.zero_add, Br_t, Br_f]
  refine sizeR_calls (trF (slA D.sl) 65 n) (e := ⟨s.kind, s.nm, at', s.text, kv⟩) (hT.keep D5) f1 (by omega) (by omega) fun w6 hb6 => ⟨_, _, rfl, ?_⟩
  have B6 := btr B5 B5.size hb6
  rw [f2]
  rw [f2] at hdsz
  refine levelW (hr.keep B6) c2 c1 hpl fun w7 hb7 => ⟨_, rfl, ?_⟩
  have B7 := btr B6 B6.size hb7
  refine ⟨inR_i64 (by omega) (by omega), inR_i64 (by omega) (by omega), ?_⟩
  refine brd (fun h4 => ?_) (fun h4 => ?_)
  · rw [if_pos (by omega)] at hK
    exact hK w7 vs vr (h.keep B7) (.below B7)
  rw [if_neg (by omega)] at hK
  refine al fun g5 w8 hb8 _ _ => ?_
  have B8 := btr B7 B7.size hb8
  simp only [NonNil_some, (hr.keep B8).c0, Addr.add_mk, List.getElem?_toArray, List.getElem?_cons_zero, List.getElem?_cons_succ, LdI_some, LdB_some, LdStr_some, LdP_some, LdSl_some, LdM_some, Nat.zero_add, Br_t, Br_f]
  refine h.copy B8 fun w9 vs9 es9 h9 f9 _ hrow9 => ?_
  have hs9 := f9.size
  obtain ⟨o1, o2, o3, o4⟩ := out_wf hw hs
  have hpar := (hw.a.par n s hs).imp id (fun ⟨t, ht, _⟩ => (⟨t, ht⟩ : ∃ t, slA D.sl s.parent = some t))
  refine outW h9 (fun b hb => hok b (by omega)) hs hpar (hw.a.mem n s hs (by simp)) (lst_fewD hw.s hw.a _) fun w10 vr10 es10 h10 f10 => ⟨rfl, ?_⟩
  have F10 := Ed.only f9 hrow9 f10
  have hs10 := F10.size
  have hs1 : slA (outI D n).sl n = some s := by rw [o3, setA_of hs, if_neg (fun e => m3 e.1)]
  have pe1 : p = 0 ∨ ∃ t, slA (outI D n).sl p = some t := by
    rcases p1 with e | ⟨t, ht, _⟩
    · exact .inl e
    · rw [o3]
      obtain ⟨u, u1, _⟩ := setA_of' (p := s.parent) (l := (lstI D s.parent).erase n) ht
      exact .inr ⟨u, u1⟩
  have hlst : ∀ q, (q = 0 ∨ ∃ t, slA D.sl q = some t) → lstI (outI D n) q = if q = s.parent then (lstI D s.parent).erase n else lstI D q := fun q hq => by
    unfold lstI at o3 o4 ⊢
    rw [o3, o4]
    exact lst_setA hq hw.a.zero
  refine putW h10 (fun b hb => hok b (by omega)) (p := p) (a := a) (wh := wh) (slA_zero _) hs1 hpl pe1 (lst_fewD o1 o2 p) (fun h2' => ?_) fun w11 vr11 es11 h11 f11 => ⟨rfl, ?_⟩
  · obtain ⟨t, t1, t2⟩ := p4 h2'
    have hmem := hw.a.mem a t t1 (by simp)
    rw [t2] at hmem
    rw [hlst p (p1.imp id fun ⟨t, h, _⟩ => ⟨t, h⟩)]
    split
    · rename_i e
      rw [← e]
      exact (List.mem_erase_of_ne (Ne.symm m4)).2 hmem
    · exact hmem
  exact hK w11 vs9 vr11 (h11.close fun b hb => hok b (hrow9 b hb)) (Ed.only F10 hrow9 f11)
theorem deleteR_calls (h : RM ok w g D vs vr) (hok : ∀ b, w.heap.size ≤ b → ok b = true) (hw : Wf D) {n : Nat} (hn : n < 18446744073709551616)
    (hK : ∀ w' vs' vr', RM ok w' g (delF D n).1 vs' vr' → Fm (· = g) w w' → R (.returned (.int .i64 (delF D n).2)) w') :
    Calls Tryz.prog 24 #[.pointer (some ⟨g, 0, none⟩), .int .u64 (n : Nat)] w R := by
  refine ok24 (some ⟨g, 0, none⟩) n ?_
  unfold F24
  obtain ⟨es, hr⟩ := h.re
  refine liveW hr hn ⟨_, rfl, ?_⟩
  rw [brnot]
  unfold delF at hK
  cases hs : slA D.sl n with
  | none =>
    rw [hs] at hK
    exact br (fun hl => by cases hl) (fun _ => hK w vs vr h (.refl _ _))
  | some s =>
  rw [hs] at hK
  dsimp only at hK
  refine br (fun _ => ?_) (fun hl => by cases hl)
  have n0 := hw.a.ne0 hs
  refine AllW hr hw hn fun v w1 B1 hv _ => ⟨_, _, _, _, rfl, ?_⟩
  have hv := hv (.inr ⟨s, hs⟩)
  have hall : allI D n = allA (slA D.sl) 65 n := by unfold allI; rw [if_neg n0]
  rw [hall] at hv
  have hl0 : ∀ z, z ∈ ([] : List Nat) → z = n ∨ ¬ Wi (slA D.sl) n z := fun z hz => by simp at hz
  have hnd := all_nodup hw.a 65 n ⟨s, hs⟩ hl0
  have hfew := all_few (r := 65) hw.s hw.a ⟨s, hs⟩
  have hlive : ∀ x ∈ allA (slA D.sl) 65 n, ∃ t, slA D.sl x = some t := fun x hx => all_live hw.a ⟨s, hs⟩ hl0 hx
  generalize allA (slA D.sl) 65 n = L at *
  refine al fun g5 w2 hb2 _ _ => ?_
  have B2 := btr B1 B1.size hb2
  simp only [NonNil_some, (hr.keep B2).c0, Addr.add_mk, List.getElem?_toArray, List.getElem?_cons_zero, List.getElem?_cons_succ, LdI_some, LdB_some, LdStr_some, LdP_some, LdSl_some, LdM_some, Nat.zero_add, Br_t, Br_f]
  have hk2 := h.keep B2
  refine hk2.copy (Below.refl _ _) fun w3 vs3 es3 h3 f3 _ hrow3 => ?_
  have hs3 := f3.size
  have hsB := B2.size
  obtain ⟨o1, o2, o3, o4⟩ := out_wf hw hs
  have hpar := (hw.a.par n s hs).imp id (fun ⟨t, ht, _⟩ => (⟨t, ht⟩ : ∃ t, slA D.sl s.parent = some t))
  have hg := h.blk.lt
  have hv2 := hv.keep hb2
  have hvg : ∀ b, rowOf (slV v) = some b → b ≠ g := fun b hb e => by have := (hv.lt b hb).1; omega
  have hv3 : Own LHn w3 w.heap.size 41 (slV v) L := own_fm hv2 f3 fun b hb e => hvg b hb e
  have hvr3 : ∀ b, rowOf (slV v) = some b → rowOf (slV vs3) ≠ some b := fun b hb e => by
    have := hrow3 b e
    have := (hv2.lt b hb).2
    omega
  refine outW h3 (fun b hb => hok b (by omega)) hs hpar (hw.a.mem n s hs (by simp)) (lst_fewD hw.s hw.a _) fun w4 vr4 es4 h4 f4 => ⟨rfl, ?_⟩
  have F4 := Ed.only f3 hrow3 f4
  have hv4 : Own LHn w4 w.heap.size 41 (slV v) L := own_fm hv3 f4 fun b hb e => by
    rcases e with e | e
    · exact hvg b hb e
    · exact hvr3 b hb e
  have hpa : ∀ x t, slA D.sl x = some t → ∃ u, slA (outI D n).sl x = some u ∧ u.parent = t.parent := by rw [o3]; exact setA_pa
  have hlv2 : ∀ x ∈ L, ∃ t, slA (outI D n).sl x = some t := fun x hx => by
    obtain ⟨t, ht⟩ := hlive x hx
    obtain ⟨u, hu, _⟩ := hpa x t ht
    exact ⟨u, hu⟩
  have hv1 : v.2.1 = L.length := by
    obtain ⟨A, c, hv, _⟩ := hv.form
    rw [slv_form hv]
  refine ⟨fun j w' => ∃ (m : Nat) (es5 : List S8), j = m ∧ m ≤ L.length ∧ RO ok [] w' g { outI D n with sl := killF (outI D n).sl (L.take m) } vs3 vr4 es5 ∧ Fm (· = g) w2 w' ∧ Own LHn w' w.heap.size 41 (slV v) L, fun j _ => L.length - j.toNat,
    ⟨0, es4, rfl, by omega, by simpa [killF] using h4, F4, hv4⟩, ?_⟩
  rintro j w5 ⟨m, es5, rfl, hm, h5, F5, hv5⟩
  unfold F24_l7
  have hs5 := F5.size
  refine brd (fun hlt => ?_) (fun hge => ?_)
  · have hm2 : m < L.length := by omega
    obtain ⟨A, c, hvf, hrd⟩ := hv5.form
    have e1 : v.1 = A := by rw [slv_form hvf]
    rw [← e1] at hrd
    refine hrd.hn hv1 rfl hm2 fun bb oo cc => ?_
    simp only [cc, Addr.add_mk, List.getElem?_toArray, List.getElem?_cons_zero, List.getElem?_cons_succ, LdI_some, LdB_some, LdStr_some, LdP_some, LdSl_some, LdM_some, Nat.zero_add, Br_t, Br_f]
    obtain ⟨kf1, kf2⟩ := killF_A (L.take m) (outI D n).sl o1 (hnd.sublist (List.take_sublist _ _)) fun x hx => hlv2 x (List.mem_of_mem_take hx)
    have hnm : L[m] ∉ L.take m := fun hx => by
      have h9 : (L.take m ++ L.drop m).Nodup := by rw [List.take_append_drop]; exact hnd
      refine (List.nodup_append.1 h9).2.2 _ hx L[m] ?_ rfl
      rw [List.drop_eq_getElem_cons hm2]; exact List.mem_cons_self ..
    obtain ⟨t, ht⟩ := hlv2 L[m] (List.getElem_mem hm2)
    have ht5 : slA (killF (outI D n).sl (L.take m)) L[m] = some t := by rw [kf2, if_neg hnm]; exact ht
    have hxl := hnd_lt h5.ok h5.few ht5
    obtain ⟨k, k1, hk, k2, k3, hx0⟩ := slA_get ht5
    have hr5 := h5.re
    refine atW hr5 hxl ⟨_, rfl, ?_⟩
    have k1' : atF ({ outI D n with sl := killF (outI D n).sl (L.take m) } : Im).sl L[m] = some k := k1
    rw [k1']
    have hdr : Below w5.heap.size w5 w5.drew := (Below.refl _ _).drew
    refine ⟨fun w' => Below w5.heap.size w5 w', hdr, ?_⟩
    rw [NonNil_some]
    refine ⟨_, _, _, fun w' hb => (hr5.keep hb).c0, ?_⟩
    refine ⟨_, _, _, fun w' hb => (hr5.keep hb).c0, ?_⟩
    refine hr5.slotH (fun w1 h1 => h1) (show atI (some k) = k from rfl) hk fun b o e he q1 _ c0 _ _ _ => ⟨_, c0, ?_⟩
    have h6 := h5.keep hdr
    have hie : k < es5.length := by rw [h5.len]; exact hk
    refine h6.own.elA (show atI (some k) = k from rfl) hie (show 8 = LS8.n from rfl) fun bw hbw => ?_
    simp only [Addr.add_mk]
    have hgen : ({ outI D n with sl := killF (outI D n).sl (L.take m) } : Im).sl[k].gen = t.gen := by
      show (killF (outI D n).sl (L.take m))[k].gen = _
      rw [k2]
    rw [hgen]
    refine Own.st8 ⟨t.gen, false, 0, ByteArray.mk #[], (none, 0, 0), ByteArray.mk #[], 0, (none, 0, 0)⟩ h6.own hie hbw fun w7 o7 f7 => ?_
    have hgl : t.gen < 4294967296 := by
      have := (h5.ok _ (List.getElem_mem hk)).gen
      rw [hgen] at this; exact this
    have h7 := h6.put1 (opn1 := []) (s' := deadS t.gen) (e' := ⟨t.gen, false, 0, ByteArray.mk #[], (none, 0, 0), ByteArray.mk #[], 0, (none, 0, 0)⟩) hk o7 f7 ⟨rfl, rfl, rfl, rfl, rfl, rfl, rr_none _ _⟩ (fun _ => rr_none _ _) (fun _ _ h => h) ⟨hgl, show 0 < 18446744073709551616 by decide, by simp [deadS]⟩
    have eK : killF (outI D n).sl (L.take (m + 1)) = (killF (outI D n).sl (L.take m)).set k (deadS t.gen) := by
      rw [List.take_succ_eq_append_getElem hm2, killF_app, killF_one k3 (by rw [List.getElem?_eq_getElem hk, k2])]
    have h7 : RO ok [] w7 g { outI D n with sl := (killF (outI D n).sl (L.take m)).set k (deadS t.gen) } vs3 vr4 (es5.set k ⟨t.gen, false, 0, ByteArray.mk #[], (none, 0, 0), ByteArray.mk #[], 0, (none, 0, 0)⟩) := h7
    rw [← eK] at h7
    have f57 : Fm (Ed g vs3) w5 w7 := (Fm.below hdr).trans (f7.mono fun b _ hb => .inr hb)
    exact ⟨inR_i64 (by omega) (by omega), ⟨m + 1, _, by simp, by omega, h7, Ed.only F5 hrow3 f57, own_fm hv5 f57 fun b hb e => by
      rcases e with e | e
      · exact hvg b hb e
      · exact hvr3 b hb e⟩, (by first | omega | (dsimp only; omega))⟩
  · have hm2 : m = L.length := by omega
    subst hm2
    rw [List.take_length] at h5
    exact hK w5 vs3 vr4 (h5.close fun b hb => hok b (by have := hrow3 b hb; omega)) ((Fm.below B2).trans F5)
end
end Go.Proofs.YthbeeonmfbigcaaGreatDoor
/- Documents of the reference: SetName, SetText, SetAttr, DropAttr. -/
namespace Go.Proofs.YthbeeonmfbigcaaGreatDoor
open Go.RowKit Go.Vc
set_option linter.unusedVariables false
set_option linter.unusedSimpArgs false
set_option maxRecDepth 100000
section
variable {ok : Nat → Bool} {opn : List Nat} {w w1 w0 : World} {g : Nat} {D : Im} {vs vr : Sv} {es : List S8} {R : Ending → World → Prop} {loose : List Nat}
theorem changeR_calls (h : RM ok w g D vs vr) {n : Nat} (hn : n < 18446744073709551616) (kind : Int)
    (hbad : chgF D n kind ≠ 0 → R (.returned (.tuple #[.int .i64 0, .int .i64 (chgF D n kind)])) w)
    (hgood : chgF D n kind = 0 → ∀ (s : Sl) (k : Nat), slA D.sl n = some s → s.kind = kind → n % 4294967296 = k + 1 → D.sl[k]? = some s → ∀ (w' : World) (vs' : Sv) (es : List S8), RO ok [] w' g D vs' vr es → Fm (· = g) w w' → (∀ b, rowOf (slV vs') = some b → w.heap.size ≤ b) → R (.returned (.tuple #[.int .i64 (k : Nat), .int .i64 0])) w') :
    Calls Tryz.prog 48 #[.pointer (some ⟨g, 0, none⟩), .int .u64 (n : Nat), .int .i64 kind] w R := by
  refine ok48 (some ⟨g, 0, none⟩) n kind ?_
  unfold F48
  obtain ⟨es, hr⟩ := h.re
  refine atW hr hn ⟨_, rfl, ?_⟩
  cases hs : slA D.sl n with
  | none =>
    have e1 : chgF D n kind = 8 := by unfold chgF; rw [hs]
    rw [e1] at hbad
    rw [atF_none.2 hs]
    exact brd (fun _ => hbad (by decide)) (fun h9 => absurd (by simp [atI]) h9)
  | some s =>
    obtain ⟨k, k1, hk, k2, k3, hx0⟩ := slA_get hs
    rw [k1]
    refine brd (fun h9 => absurd h9 (by simp [atI])) (fun _ => ?_)
    simp only [NonNil_some, hr.c0, Addr.add_mk, List.getElem?_toArray, List.getElem?_cons_zero, List.getElem?_cons_succ, LdI_some, LdB_some, LdStr_some, LdP_some, LdSl_some, LdM_some, Nat.zero_add, Br_t, Br_f]
    refine hr.slot (show atI (some k) = k from rfl) hk fun b o e _ _ _ _ _ c2 _ _ _ => ?_
    rw [k2] at c2
    simp only [Addr.add_mk, c2, Addr.add_mk, List.getElem?_toArray, List.getElem?_cons_zero, List.getElem?_cons_succ, LdI_some, LdB_some, LdStr_some, LdP_some, LdSl_some, LdM_some, Nat.zero_add, Br_t, Br_f]
    refine brn (fun hne => ?_) (fun he => ?_)
    · have e1 : chgF D n kind = 30 := by unfold chgF; rw [hs]; dsimp only; rw [if_neg hne]
      rw [e1] at hbad
      exact hbad (by decide)
    · have he : s.kind = kind := he
      have e1 : chgF D n kind = 0 := by unfold chgF; rw [hs]; dsimp only; rw [if_pos he]
      refine al fun g5 w2 B2 _ _ => ?_
      simp only [NonNil_some, (hr.keep B2).c0, Addr.add_mk, List.getElem?_toArray, List.getElem?_cons_zero, List.getElem?_cons_succ, LdI_some, LdB_some, LdStr_some, LdP_some, LdSl_some, LdM_some, Nat.zero_add, Br_t, Br_f]
      refine h.copy B2 fun w3 vs3 es3 h3 f3 _ hrow3 => ?_
      exact hgood e1 s k hs he k3 (by rw [← k2]; exact List.getElem?_eq_getElem hk) w3 vs3 es3 h3 f3 hrow3
theorem RO.poke (h : RO ok [] w g D vs vr es) {k j : Nat} {s s' : Sl} {u : Value} (f : S8 → S8) (hs : D.sl[k]? = some s) (hj : j < 8) (hc : ∀ e, LS8.cells (f e) = (LS8.cells e).set j u) (hq : ∀ e, RSb (vx ok g vs w) s e → RSb (vx ok g vs w) s' (f e)) (hk : ∀ e, (f e).kids = e.kids) (hk' : s'.kids = s.kids) (hok : SlOk s') {K : World → Prop}
    (hK : ∀ w' es', RO ok [] w' g { D with sl := D.sl.set k s' } vs vr es' → Fm (Ed g vs) w w' → K w') : IdxA vs.1 vs.2.1 (k : Nat) 8 fun q => St w (q.add j) u K := by
  obtain ⟨hi, hs'⟩ := List.getElem?_eq_some_iff.1 hs
  have hie : k < es.length := by rw [h.len]; exact hi
  refine h.own.elA rfl hie (show 8 = LS8.n from rfl) fun bw hbw => ?_
  simp only [Addr.add_mk]
  refine h.own.stc hie (x' := f es[k]) hj (hc _) hbw fun w1 o1 f1 => ?_
  obtain ⟨q1, q2⟩ := h.el k s es[k] hs (List.getElem?_eq_getElem hie)
  exact hK w1 _ (h.put1 (opn1 := []) hi o1 f1 (hq _ q1) (fun _ => by rw [hk, hk']; exact q2 (by simp)) (fun _ _ h => h) hok) (f1.mono fun b _ hb => .inr hb)
theorem updI_set {n k : Nat} {s : Sl} (hm : n % 4294967296 = k + 1) (hs : D.sl[k]? = some s) (f : Sl → Sl) : updI D n f = { D with sl := D.sl.set k (f s) } := by
  unfold updI
  rw [show n % 4294967296 - 1 = k by omega, modify_set _ _ _ s hs]
theorem RM.slok (h : RM ok w g D vs vr) {k : Nat} {s : Sl} (hs : D.sl[k]? = some s) : SlOk s := h.im.ok _ (List.mem_of_getElem? hs)
theorem setNameR_calls (h : RM ok w g D vs vr) (hok : ∀ b, w.heap.size ≤ b → ok b = true) {n : Nat} (hn : n < 18446744073709551616) {nm : ByteArray}
    (hK : ∀ w' vs' vr', RM ok w' g (setNameF D n nm).1 vs' vr' → Fm (· = g) w w' → R (.returned (.int .i64 (setNameF D n nm).2)) w') :
    Calls Tryz.prog 25 #[.pointer (some ⟨g, 0, none⟩), .int .u64 (n : Nat), .string nm] w R := by
  refine ok25 (some ⟨g, 0, none⟩) n nm ?_
  unfold F25
  unfold setNameF at hK
  refine changeR_calls h hn 1 (fun hne => ⟨_, _, rfl, ?_⟩) fun he s k hs hk hm hsk w3 vs3 es3 h3 f3 hrow3 => ⟨_, _, rfl, ?_⟩
  · rw [if_pos hne] at hK
    exact brn (fun _ => hK w vs vr h (.refl _ _)) (fun e => absurd e hne)
  rw [if_neg (by rw [he]; simp)] at hK
  refine brn (fun e => absurd rfl e) (fun _ => ?_)
  refine name2_calls ⟨_, rfl, ?_⟩
  rw [brnot]
  refine br (fun hN => ?_) (fun hN => ?_)
  · rw [if_pos hN, updI_set hm hsk] at hK
    simp only [NonNil_some, h3.c0, Addr.add_mk, List.getElem?_toArray, List.getElem?_cons_zero, List.getElem?_cons_succ, LdI_some, LdB_some, LdStr_some, LdP_some, LdSl_some, LdM_some, Nat.zero_add, Br_t, Br_f]
    have ho := h.slok hsk
    refine h3.poke (s' := { s with nm := nm }) (fun e => { e with nm := nm }) hsk (by omega) (fun _ => rfl) (fun e q => ⟨q.gen, q.live, q.kind, rfl, q.text, q.parent, q.ats⟩) (fun _ => rfl) rfl ⟨ho.gen, ho.parent, ho.kids⟩ fun w4 es4 h4 f4 => ?_
    exact hK w4 vs3 vr (h4.close fun b hb => hok b (hrow3 b hb)) (Ed.only f3 hrow3 f4)
  · rw [if_neg (by rw [hN]; decide)] at hK
    exact hK w3 vs3 vr (h3.close fun b hb => hok b (hrow3 b hb)) f3
theorem setTextR_calls (h : RM ok w g D vs vr) (hok : ∀ b, w.heap.size ≤ b → ok b = true) {n : Nat} (hn : n < 18446744073709551616) {t : ByteArray}
    (hK : ∀ w' vs' vr', RM ok w' g (setTextF D n t).1 vs' vr' → Fm (· = g) w w' → R (.returned (.int .i64 (setTextF D n t).2)) w') :
    Calls Tryz.prog 26 #[.pointer (some ⟨g, 0, none⟩), .int .u64 (n : Nat), .string t] w R := by
  refine ok26 (some ⟨g, 0, none⟩) n t ?_
  unfold F26
  unfold setTextF at hK
  refine changeR_calls h hn 2 (fun hne => ⟨_, _, rfl, ?_⟩) fun he s k hs hk hm hsk w3 vs3 es3 h3 f3 hrow3 => ⟨_, _, rfl, ?_⟩
  · rw [if_pos hne] at hK
    exact brn (fun _ => hK w vs vr h (.refl _ _)) (fun e => absurd e hne)
  rw [if_neg (by rw [he]; simp)] at hK
  refine brn (fun e => absurd rfl e) (fun _ => ?_)
  refine refText_calls t fun w4 hb4 => ⟨_, _, rfl, ?_⟩
  have h4 := h3.keep hb4
  have F4 : Fm (· = g) w w4 := f3.tr hb4
  refine brn (fun hne => ?_) (fun he2 => ?_)
  · rw [if_neg (by omega)] at hK
    exact hK w4 vs3 vr (h4.close fun b hb => hok b (hrow3 b hb)) F4
  · rw [if_pos (by omega), updI_set hm hsk] at hK
    simp only [NonNil_some, h4.c0, Addr.add_mk, List.getElem?_toArray, List.getElem?_cons_zero, List.getElem?_cons_succ, LdI_some, LdB_some, LdStr_some, LdP_some, LdSl_some, LdM_some, Nat.zero_add, Br_t, Br_f]
    have ho := h.slok hsk
    refine h4.poke (s' := { s with text := t }) (fun e => { e with text := t }) hsk (by omega) (fun _ => rfl) (fun e q => ⟨q.gen, q.live, q.kind, q.nm, rfl, q.parent, q.ats⟩) (fun _ => rfl) rfl ⟨ho.gen, ho.parent, ho.kids⟩ fun w5 es5 h5 f5 => ?_
    exact hK w5 vs3 vr (h5.close fun b hb => hok b (hrow3 b hb)) (Ed.only F4 hrow3 f5)
theorem posA_at_eq {l : List At} {nm : ByteArray} (h : okA l) {k : Nat} (hk : k < l.length) (he : l[k].nm = nm) : posA l nm = k ∧ thereA l nm = true := by
  have e : posA l nm = k := posA_eq (by omega) (fun j hj hl => by
    have := List.pairwise_iff_getElem.1 h.2 j k hl hk hj
    rw [he] at this; exact this) fun hl => by rw [he]; exact blt_irr nm
  refine ⟨e, ?_⟩
  unfold thereA
  rw [e, List.getElem?_eq_getElem hk]
  simpa using he
theorem dropAttrR_calls (h : RM ok w g D vs vr) (hok : ∀ b, w.heap.size ≤ b → ok b = true) (hw : Wf D) {n : Nat} (hn : n < 18446744073709551616) {nm : ByteArray}
    (hK : ∀ w' vs' vr', RM ok w' g (dropAttrF D n nm).1 vs' vr' → Fm (· = g) w w' → R (.returned (.int .i64 (dropAttrF D n nm).2)) w') :
    Calls Tryz.prog 28 #[.pointer (some ⟨g, 0, none⟩), .int .u64 (n : Nat), .string nm] w R := by
  refine ok28 (some ⟨g, 0, none⟩) n nm ?_
  unfold F28
  unfold dropAttrF at hK
  refine changeR_calls h hn 1 (fun hne => ⟨_, _, rfl, ?_⟩) fun he s k hs hk hm hsk w3 vs3 es3 h3 f3 hrow3 => ⟨_, _, rfl, ?_⟩
  · rw [if_pos hne] at hK
    exact brn (fun _ => hK w vs vr h (.refl _ _)) (fun e => absurd e hne)
  rw [if_neg (by rw [he]; simp)] at hK
  obtain ⟨a1, a2⟩ := okS_ats (hw.a.ok n s hs) hk
  rw [ats_some hs] at hK
  refine brn (fun e => absurd rfl e) (fun _ => ?_)
  simp only [NonNil_some, h3.c0, Addr.add_mk, List.getElem?_toArray, List.getElem?_cons_zero, List.getElem?_cons_succ, LdI_some, LdB_some, LdStr_some, LdP_some, LdSl_some, LdM_some, Nat.zero_add, Br_t, Br_f]
  obtain ⟨hki, hki'⟩ := List.getElem?_eq_some_iff.1 hsk
  have hr3 := h3.re
  refine hr3.slot rfl hki fun b o e he8 q1 _ _ _ _ c4 _ _ => ?_
  simp only [Addr.add_mk, c4, Addr.add_mk, List.getElem?_toArray, List.getElem?_cons_zero, List.getElem?_cons_succ, LdI_some, LdB_some, LdStr_some, LdP_some, LdSl_some, LdM_some, Nat.zero_add, Br_t, Br_f]
  have hatv := (h3.el k s e hsk he8).1.ats
  obtain ⟨z0, z1, z2⟩ := (hatv.sub vx_of : RR LAt w3 s.attrs e.ats)
  have hzc := z2.1
  refine ⟨fun j w' => w3 = w' ∧ ∃ m : Nat, j = m ∧ m ≤ s.attrs.length ∧ ∀ i, i < m → ∀ hi : i < s.attrs.length, s.attrs[i].nm ≠ nm, fun j _ => s.attrs.length - j.toNat, ⟨rfl, 0, rfl, Nat.zero_le _, by intro i hi; omega⟩, ?_⟩
  rintro j _ ⟨rfl, m, rfl, hm4, hno⟩
  unfold F28_l6
  refine brd (fun hlt => ?_) (fun hge => ?_)
  · have hm2 : m < s.attrs.length := by omega
    refine z2.at2 z1 rfl hm2 fun bb oo c0 c1 => ?_
    simp only [c0, Addr.add_mk, List.getElem?_toArray, List.getElem?_cons_zero, List.getElem?_cons_succ, LdI_some, LdB_some, LdStr_some, LdP_some, LdSl_some, LdM_some, Nat.zero_add, Br_t, Br_f]
    refine br (fun heq => ?_) (fun hne => ?_)
    · have heq : s.attrs[m].nm = nm := toList_inj (by simpa using heq)
      obtain ⟨p1, p2⟩ := posA_at_eq a2 hm2 heq
      rw [if_pos p2, updI_set hm hsk, p1] at hK
      have hdr : Below w3.heap.size w3 w3.drew := (Below.refl _ _).drew
      refine ⟨fun w' => Below w3.heap.size w3 w', hdr, ?_⟩
      rw [NonNil_some]
      refine ⟨_, _, _, fun w' hb => (hr3.keep hb).c0, ?_⟩
      have eN : ((m : Nat) : Int) + 1 = ((m + 1 : Nat) : Int) := by omega
      rw [eN]
      refine ⟨by omega, by omega, by omega, inR_i64 (by omega) (by omega), by omega, by omega, by omega, ?_⟩
      refine al fun ga w4 hb4 _ _ => ?_
      have B4 := btr hdr hdr.size hb4
      refine ⟨B4, ?_⟩
      rw [Int.toNat_natCast, Int.toNat_natCast, Int.toNat_natCast]
      refine ap (L := LAt) (e := 96) (xs := []) (ys := s.attrs.take m) (base := w3.heap.size) (.agg #[.string ⟨#[]⟩, .string ⟨#[]⟩]) 32 (by rw [List.length_take]; omega) (by kernel_rfl) (by kernel_rfl) (by kernel_rfl) (Own.bare _ _ _ _ _) ((z2.keep B4).take _) B4.size (by simp; omega) (by simp [maxLen]; omega) fun A5 c5 w5 o5 g5 => ⟨A5, _, c5, rfl, ?_⟩
      have B5 : Below w3.heap.size w3 w5 := B4.trans g5.below
      rw [List.nil_append] at o5
      refine ⟨B5, ?_⟩
      refine ap (L := LAt) (e := 96) (xs := s.attrs.take m) (ys := s.attrs.drop (m + 1)) (base := w3.heap.size) (.agg #[.string ⟨#[]⟩, .string ⟨#[]⟩]) 32 (by rw [List.length_drop]; omega) (by kernel_rfl) (by kernel_rfl) (by kernel_rfl) o5 ((z2.keep B5).slice (by omega)) B5.size (by simp; omega) (by simp [maxLen]; omega) fun A6 c6 w6 o6 g6 => ⟨A6, _, c6, rfl, ?_⟩
      have B6 : Below w3.heap.size w3 w6 := B5.trans g6.below
      refine ⟨B6, ?_⟩
      have h6 := h3.keep B6
      have ho := h.slok hsk
      have hsz := f3.size
      have hra := own_vx (L := LAt) h3 (fun b hb => hok b (by omega)) (Nat.le_refl _) o6 (by simp; omega)
      refine h6.poke (s' := { s with attrs := s.attrs.take m ++ s.attrs.drop (m + 1) }) (fun e => { e with ats := (A6, _, c6) }) hsk (by omega) (fun _ => rfl) (fun e q => ⟨q.gen, q.live, q.kind, q.nm, q.text, q.parent, hra⟩) (fun _ => rfl) rfl ⟨ho.gen, ho.parent, ho.kids⟩ fun w7 es7 h7 f7 => ?_
      exact hK w7 vs3 vr (h7.close fun b hb => hok b (hrow3 b hb)) (Ed.only (f3.tr B6) hrow3 f7)
    · have hne : s.attrs[m].nm ≠ nm := fun e => by rw [e] at hne; simp at hne
      refine ⟨inR_i64 (by omega) (by omega), ⟨by trivial, m + 1, by omega, by omega, fun i hi hil => ?_⟩, (by first | omega | (dsimp only; omega))⟩
      by_cases e : i = m
      · subst e; exact hne
      · exact hno i (by omega) hil
  · have hth : ¬ thereA s.attrs nm = true := fun ht => by
      obtain ⟨p1, p2⟩ := posA_there ht
      exact hno _ (by omega) p1 p2
    rw [if_neg hth] at hK
    exact hK _ vs3 vr (h3.close fun b hb => hok b (hrow3 b hb)) f3
theorem setAttrR_calls (h : RM ok w g D vs vr) (hok : ∀ b, w.heap.size ≤ b → ok b = true) (hw : Wf D) {n : Nat} (hn : n < 18446744073709551616) {nm v : ByteArray}
    (hK : ∀ w' vs' vr', RM ok w' g (setAttrF D n nm v).1 vs' vr' → Fm (· = g) w w' → R (.returned (.int .i64 (setAttrF D n nm v).2)) w') :
    Calls Tryz.prog 27 #[.pointer (some ⟨g, 0, none⟩), .int .u64 (n : Nat), .string nm, .string v] w R := by
  refine ok27 (some ⟨g, 0, none⟩) n nm v ?_
  unfold F27
  unfold setAttrF at hK
  refine changeR_calls h hn 1 (fun hne => ⟨_, _, rfl, ?_⟩) fun he s k hs hk hm hsk w3 vs3 es3 h3 f3 hrow3 => ⟨_, _, rfl, ?_⟩
  · rw [if_pos hne] at hK
    exact brn (fun _ => hK w vs vr h (.refl _ _)) (fun e => absurd e hne)
  rw [if_neg (by rw [he]; simp)] at hK
  obtain ⟨a1, a2⟩ := okS_ats (hw.a.ok n s hs) hk
  rw [ats_some hs] at hK
  refine brn (fun e => absurd rfl e) (fun _ => ?_)
  refine name2_calls ⟨_, rfl, ?_⟩
  rw [brnot]
  refine br (fun hN => ?_) (fun hN => ?_)
  rotate_left
  · rw [if_pos (by rw [hN]; decide)] at hK
    exact hK w3 vs3 vr (h3.close fun b hb => hok b (hrow3 b hb)) f3
  rw [if_neg (by rw [hN]; simp)] at hK
  refine refText_calls v fun w4 hb4 => ⟨_, _, rfl, ?_⟩
  have h4 := h3.keep hb4
  have F4 : Fm (· = g) w w4 := f3.tr hb4
  refine brn (fun hne => ?_) (fun he2 => ?_)
  · rw [if_pos (by omega)] at hK
    exact hK w4 vs3 vr (h4.close fun b hb => hok b (hrow3 b hb)) F4
  rw [if_neg (by omega)] at hK
  simp only [NonNil_some, h4.c0, Addr.add_mk, List.getElem?_toArray, List.getElem?_cons_zero, List.getElem?_cons_succ, LdI_some, LdB_some, LdStr_some, LdP_some, LdSl_some, LdM_some, Nat.zero_add, Br_t, Br_f]
  obtain ⟨hki, hki'⟩ := List.getElem?_eq_some_iff.1 hsk
  have hr4 := h4.re
  refine hr4.slot rfl hki fun b o e he8 q1 _ _ _ _ c4 _ _ => ?_
  simp only [Addr.add_mk, c4, Addr.add_mk, List.getElem?_toArray, List.getElem?_cons_zero, List.getElem?_cons_succ, LdI_some, LdB_some, LdStr_some, LdP_some, LdSl_some, LdM_some, Nat.zero_add, Br_t, Br_f]
  have hatv := (h4.el k s e hsk he8).1.ats
  obtain ⟨z0, z1, z2⟩ := (hatv.sub vx_of : RR LAt w4 s.attrs e.ats)
  have hzc := z2.1
  refine al fun g43 w5 hb5 _ _ => ?_
  have z25 := z2.keep hb5
  have hple := posA_le s.attrs nm
  refine ⟨fun j w' => w5 = w' ∧ j = (posA s.attrs nm : Nat), ?_, ?_⟩
  rotate_left
  · refine ⟨fun j w' => w5 = w' ∧ ∃ m : Nat, j = m ∧ m ≤ s.attrs.length ∧ ∀ i, i < m → ∀ hi : i < s.attrs.length, blt s.attrs[i].nm nm = true, fun j _ => s.attrs.length - j.toNat, ⟨rfl, 0, rfl, Nat.zero_le _, by intro i hi; omega⟩, ?_⟩
    rintro j _ ⟨rfl, m, rfl, hm4, hyes⟩
    unfold F27_l10
    refine ⟨fun w' => w5 = w' ∧ ∃ hi : m < s.attrs.length, blt s.attrs[m].nm nm = true, ?_, ?_⟩
    · rintro _ ⟨rfl, hi, hb⟩
      unfold F27_j11
      refine ⟨inR_i64 (by omega) (by omega), ⟨by trivial, m + 1, by omega, by omega, fun i hi2 hil => ?_⟩, (by first | omega | (dsimp only; omega))⟩
      by_cases e : i = m
      · subst e; exact hb
      · exact hyes i (by omega) hil
    · refine brd (fun hlt => ?_) (fun hge => ⟨by trivial, ?_⟩)
      · have hm2 : m < s.attrs.length := by omega
        refine z25.at2 z1 rfl hm2 fun bb oo c0 c1 => ?_
        simp only [c0, Addr.add_mk, List.getElem?_toArray, List.getElem?_cons_zero, List.getElem?_cons_succ, LdI_some, LdB_some, LdStr_some, LdP_some, LdSl_some, LdM_some, Nat.zero_add, Br_t, Br_f]
        refine br (fun hb => ⟨by trivial, hm2, hb⟩) (fun hb => ⟨by trivial, ?_⟩)
        rw [posA_eq (i := m) hm4 hyes fun _ => hb]
      · rw [posA_eq (i := m) hm4 hyes fun hl => absurd hl (by omega)]
  rintro j _ ⟨rfl, rfl⟩
  unfold F27_j12
  generalize hpp : posA s.attrs nm = m at *
  refine ⟨fun t w' => w5 = w' ∧ t = thereA s.attrs nm, ?_, ?_⟩
  rotate_left
  · unfold thereA
    rw [hpp]
    refine brd (fun hlt => ?_) (fun hge => ⟨by trivial, by rw [List.getElem?_eq_none (by omega)]⟩)
    have hm2 : m < s.attrs.length := by omega
    refine z25.at2 z1 rfl hm2 fun bb oo c0 c1 => ?_
    simp only [c0, Addr.add_mk, List.getElem?_toArray, List.getElem?_cons_zero, List.getElem?_cons_succ, LdI_some, LdB_some, LdStr_some, LdP_some, LdSl_some, LdM_some, Nat.zero_add, Br_t, Br_f]
    refine ⟨by trivial, ?_⟩
    rw [List.getElem?_eq_getElem hm2, Bool.eq_iff_iff, beq_iff_eq]
    dsimp only
    rw [decide_eq_true_eq]
    exact ⟨toList_inj, fun e => by rw [e]⟩
  rintro there _ ⟨rfl, rfl⟩
  unfold F27_j13
  refine ⟨fun w' => w5 = w' ∧ ¬ (thereA s.attrs nm = false ∧ 32 ≤ s.attrs.length), ?_, ?_⟩
  rotate_left
  · rw [brnot]
    refine br (fun ht => ⟨by trivial, by rw [ht]; simp⟩) (fun ht => ?_)
    refine brd (fun hlen => ?_) (fun hlen => ⟨by trivial, by omega⟩)
    rw [if_pos ⟨ht, by omega⟩] at hK
    exact hK _ vs3 vr ((h4.keep hb5).close fun b hb => hok b (hrow3 b hb)) (F4.tr hb5)
  rintro _ ⟨rfl, hroom⟩
  rw [if_neg hroom, updI_set hm hsk] at hK
  unfold F27_j15
  rw [Int.toNat_natCast]
  refine ⟨by omega, by omega, by omega, ?_⟩
  refine ap (L := LAt) (e := 96) (xs := []) (ys := s.attrs.take m) (base := w4.heap.size) (.agg #[.string ⟨#[]⟩, .string ⟨#[]⟩]) 32 (by rw [List.length_take]; omega) (by kernel_rfl) (by kernel_rfl) (by kernel_rfl) (Own.bare _ _ _ _ _) (z25.take _) hb5.size (by simp; omega) (by simp [maxLen]; omega) fun A6 c6 w6 o6 g6 => ⟨A6, _, c6, rfl, ?_⟩
  have B6 : Below w4.heap.size w4 w6 := hb5.trans g6.below
  rw [List.nil_append] at o6
  refine al fun g7 w7 hb7 b7 _ => ?_
  have B7 := btr B6 B6.size hb7
  have r7 : Rd LAt w7 (some ⟨g7, 0, none⟩) 1 [⟨nm, v⟩] := by
    refine ⟨by simp, by simp [maxLen], fun h0 => (by cases h0), fun _ => ⟨g7, 0, rfl, fun j u hj => ?_⟩⟩
    rw [LAt.all_one] at hj
    rw [b7.cell]; simpa [LAt] using hj
  refine ap (L := LAt) (e := 96) (xs := s.attrs.take m) (ys := [⟨nm, v⟩]) (base := w4.heap.size) (.agg #[.string ⟨#[]⟩, .string ⟨#[]⟩]) 32 rfl (by kernel_rfl) (by kernel_rfl) (by kernel_rfl) (o6.keep hb7) r7 B7.size (by simp; omega) (by simp [maxLen]; omega) fun A8 c8 w8 o8 g8 => ⟨A8, _, c8, rfl, ?_⟩
  have B8 : Below w4.heap.size w4 w8 := B7.trans g8.below
  have hset : setA' s.attrs nm v = s.attrs.take m ++ [⟨nm, v⟩] ++ s.attrs.drop (if thereA s.attrs nm = true then m + 1 else m) := by
    unfold setA'
    rw [hpp]
    by_cases ht : thereA s.attrs nm = true
    · rw [if_pos ht, if_pos ht]
      obtain ⟨p1, p2⟩ := posA_there ht
      rw [hpp] at p1
      rw [List.set_eq_take_append_cons_drop, if_pos p1]; simp
    · rw [if_neg ht, if_neg ht]; simp
  have hm3 : (if thereA s.attrs nm = true then m + 1 else m) ≤ s.attrs.length := by
    split
    · rename_i ht
      obtain ⟨p1, p2⟩ := posA_there ht
      omega
    · exact hple
  refine ⟨fun k2 w' => w8 = w' ∧ k2 = ((if thereA s.attrs nm = true then m + 1 else m : Nat) : Int), ?_, ?_⟩
  rotate_left
  · refine br (fun ht => ?_) (fun ht => ?_)
    · rw [if_pos ht]
      exact ⟨inR_i64 (by omega) (by omega), by trivial, by omega⟩
    · rw [if_neg (by rw [ht]; decide)]
      exact ⟨by trivial, rfl⟩
  rintro k2 _ ⟨rfl, rfl⟩
  generalize (if thereA s.attrs nm = true then m + 1 else m) = m3 at *
  unfold F27_j18
  have hd8 : Below w8.heap.size w8 w8.drew := (Below.refl _ _).drew
  have B8d : Below w4.heap.size w4 w8.drew := btr B8 B8.size hd8
  refine ⟨fun w' => Below w4.heap.size w4 w', B8d, ?_⟩
  rw [NonNil_some]
  refine ⟨_, _, _, fun w' hb => (hr4.keep hb).c0, ?_⟩
  refine ⟨by omega, by omega, by omega, ?_⟩
  rw [Int.toNat_natCast, Int.toNat_natCast]
  refine ap (L := LAt) (e := 96) (xs := s.attrs.take m ++ [⟨nm, v⟩]) (ys := s.attrs.drop m3) (base := w4.heap.size) (.agg #[.string ⟨#[]⟩, .string ⟨#[]⟩]) 32 (by rw [List.length_drop]; omega) (by kernel_rfl) (by kernel_rfl) (by kernel_rfl) (o8.keep hd8) ((z2.keep B8d).slice hm3) B8d.size (by simp; omega) (by simp [maxLen]; omega) fun A9 c9 w9 o9 g9 => ⟨A9, _, c9, rfl, ?_⟩
  have B9 : Below w4.heap.size w4 w9 := B8d.trans g9.below
  refine ⟨B9, ?_⟩
  rw [← hset] at o9
  have h9 := h4.keep B9
  have ho := h.slok hsk
  have hsz := F4.size
  have hlen9 : (setA' s.attrs nm v).length ≤ 1048576 := by rw [hset]; simp; omega
  have hra := own_vx (L := LAt) h4 (fun b hb => hok b (by omega)) (Nat.le_refl _) o9 hlen9
  refine h9.poke (s' := { s with attrs := setA' s.attrs nm v }) (fun e => { e with ats := (A9, _, c9) }) hsk (by omega) (fun _ => rfl) (fun e q => ⟨q.gen, q.live, q.kind, q.nm, q.text, q.parent, hra⟩) (fun _ => rfl) rfl ⟨ho.gen, ho.parent, ho.kids⟩ fun w10 es10 h10 f10 => ?_
  exact hK w10 vs3 vr (h10.close fun b hb => hok b (hrow3 b hb)) (Ed.only (F4.tr B9) hrow3 f10)
end
end Go.Proofs.YthbeeonmfbigcaaGreatDoor
set_option linter.unusedVariables false
set_option maxRecDepth 100000
namespace Go.Proofs.YthbeeonmfbigcaaGreatDoor
open Go.Vc
def F20_l4 (g1 : Addr) (g2 : Addr) (L4 : Option Addr → Nat → Nat → Int → World → Prop) (l : Option Addr) (lN : Nat) (lC : Nat) (i : Int) (w_2 : World) (R : Ending → World → Prop) : Prop :=
 LdSl (w_2.cell? (g1.add 4)) fun x13 x13N x13C =>
 Br (decide (i < ((x13N : Nat) : Int)))
 (LdSl (w_2.cell? (g1.add 4)) fun x20 x20N x20C =>
 IdxA x20 x20N i 5 fun q22 =>
 LdI .i64 (w_2.cell? q22) fun x23_0 =>
 LdStr (w_2.cell? (q22.add 1)) fun x23_1 =>
 LdSl (w_2.cell? (q22.add 2)) fun x23_2 x23_2N x23_2C =>
 LdStr (w_2.cell? (q22.add 3)) fun x23_3 =>
 LdSl (w_2.cell? (q22.add 4)) fun x23_4 x23_4N x23_4C =>
 Calls Tryz.prog 20 #[(.agg #[(.int .i64 x23_0), (.string x23_1), (.slice x23_2 x23_2N x23_2C), (.string x23_3), (.slice x23_4 x23_4N x23_4C)])] w_2 (post R fun v2 w1_7 =>
 ∃ (x24_0 : Int) (x24_1 : ByteArray) (x24_2 : Option Addr) (x24_2N : Nat) (x24_2C : Nat) (x24_3 : ByteArray) (x24_4 : Option Addr) (x24_4N : Nat) (x24_4C : Nat), v2 = (.agg #[(.int .i64 x24_0), (.string x24_1), (.slice x24_2 x24_2N x24_2C), (.string x24_3), (.slice x24_4 x24_4N x24_4C)]) ∧
 Al w1_7 #[(.int .i64 x24_0), (.string x24_1), (.slice x24_2 x24_2N x24_2C), (.string x24_3), (.slice x24_4 x24_4N x24_4C)] 45 fun g25 w1_8 =>
 Raw Tryz.prog (Builtin.append_ #[43, 43] 43 #[(.slice l lN lC), (.slice (some g25) 1 1)]) w1_8 fun v3 w1_9 =>
 ∃ (x26 : Option Addr) (x26N : Nat) (x26C : Nat), v3 = (.slice x26 x26N x26C) ∧
 InR .i64 (i + (1 : Int)) ∧ L4 x26 x26N x26C (i + (1 : Int)) w1_9))
 (St w_2 (g1.add 4) (.slice l lN lC) fun w1_7 =>
 LdI .i64 (w1_7.cell? g1) fun x29_0 =>
 LdStr (w1_7.cell? (g1.add 1)) fun x29_1 =>
 LdSl (w1_7.cell? (g1.add 2)) fun x29_2 x29_2N x29_2C =>
 LdStr (w1_7.cell? (g1.add 3)) fun x29_3 =>
 LdSl (w1_7.cell? (g1.add 4)) fun x29_4 x29_4N x29_4C =>
 St w1_7 g2 (.int .i64 x29_0) fun w1_8 =>
 St w1_8 (g2.add 1) (.string x29_1) fun w1_9 =>
 St w1_9 (g2.add 2) (.slice x29_2 x29_2N x29_2C) fun w1_10 =>
 St w1_10 (g2.add 3) (.string x29_3) fun w1_11 =>
 St w1_11 (g2.add 4) (.slice x29_4 x29_4N x29_4C) fun w1_12 =>
 LdI .i64 (w1_12.cell? g2) fun res0_0 =>
 LdStr (w1_12.cell? (g2.add 1)) fun res0_1 =>
 LdSl (w1_12.cell? (g2.add 2)) fun res0_2 res0_2N res0_2C =>
 LdStr (w1_12.cell? (g2.add 3)) fun res0_3 =>
 LdSl (w1_12.cell? (g2.add 4)) fun res0_4 res0_4N res0_4C =>
 R (.returned (.agg #[(.int .i64 res0_0), (.string res0_1), (.slice res0_2 res0_2N res0_2C), (.string res0_3), (.slice res0_4 res0_4N res0_4C)])) w1_12)
def F20 (x_0 : Int) (x_1 : ByteArray) (x_2 : Option Addr) (x_2N : Nat) (x_2C : Nat) (x_3 : ByteArray) (x_4 : Option Addr) (x_4N : Nat) (x_4C : Nat) (w_ : World) (R : Ending → World → Prop) : Prop :=
 Al w_ #[(.int .i64 x_0), (.string x_1), (.slice x_2 x_2N x_2C), (.string x_3), (.slice x_4 x_4N x_4C)] 45 fun g1 w1 =>
 Al w1 #[(.int .i64 0), (.string (ByteArray.mk #[])), (.slice none 0 0), (.string (ByteArray.mk #[])), (.slice none 0 0)] 45 fun g2 w1_2 =>
 Al w1_2 #[] 96 fun g5 w1_3 =>
 LdSl (w1_3.cell? (g1.add 2)) fun x7 x7N x7C =>
 Raw Tryz.prog (Builtin.append_ #[42, 42] 42 #[(.slice (some g5) 0 0), (.slice x7 x7N x7C)]) w1_3 fun v w1_4 =>
 ∃ (x8 : Option Addr) (x8N : Nat) (x8C : Nat), v = (.slice x8 x8N x8C) ∧
 St w1_4 (g1.add 2) (.slice x8 x8N x8C) fun w1_5 =>
 Al w1_5 #[] 45 fun g10 w1_6 =>
 ∃ (I : Option Addr → Nat → Nat → Int → World → Prop) (m : Option Addr → Nat → Nat → Int → World → Nat), I (some g10) 0 0 (0 : Int) w1_6 ∧
 ∀ (l : Option Addr) (lN : Nat) (lC : Nat) (i : Int) (w1_7 : World), I l lN lC i w1_7 → F20_l4 g1 g2 (fun l' lN' lC' i' w2 => I l' lN' lC' i' w2 ∧ m l' lN' lC' i' w2 < m l lN lC i w1_7) l lN lC i w1_7 R
theorem ok20 (x_0 : Int) (x_1 : ByteArray) (x_2 : Option Addr) (x_2N : Nat) (x_2C : Nat) (x_3 : ByteArray) (x_4 : Option Addr) (x_4N : Nat) (x_4C : Nat) {w : World} {R : Ending → World → Prop} (h : F20 x_0 x_1 x_2 x_2N x_2C x_3 x_4 x_4N x_4C w R) : Calls Tryz.prog 20 #[(.agg #[(.int .i64 x_0), (.string x_1), (.slice x_2 x_2N x_2C), (.string x_3), (.slice x_4 x_4N x_4C)])] w R :=
  vc_calls (pl := ⟨30, ⟨[]⟩, [], [(4, ⟨[(3, (.s .slice)), (4, (.s (.int .i64)))], [(3, 27)]⟩)]⟩) Tryz.func20 (by kernel_rfl) (by kernel_rfl) (by kernel_rfl) (Eq.mp (by kernel_rfl) h)
def F4 (p : Value) (d : Option Addr) (a_0 : Int) (a_1 : Int) (a_2 : Bool) (a_3 : Int) (a_4 : Int) (a_5 : ByteArray) (a_6 : ByteArray) (a_7 : Int) (a_8 : ByteArray) (a_9 : Option Addr) (a_9N : Nat) (a_9C : Nat) (a_10 : ByteArray) (a_11 : Option Addr) (a_11N : Nat) (a_11C : Nat) (w_ : World) (R : Ending → World → Prop) : Prop :=
 Al w_ #[(.int .i64 a_0), (.int .i64 a_1), (.bool a_2), (.int .u64 a_3), (.int .u64 a_4), (.string a_5), (.string a_6), (.int .i64 a_7), (.string a_8), (.slice a_9 a_9N a_9C), (.string a_10), (.slice a_11 a_11N a_11C)] 47 fun a w1 =>
 LdI .i64 (w1.cell? a) fun x13_0 =>
 LdI .i64 (w1.cell? (a.add 1)) fun x13_1 =>
 LdB (w1.cell? (a.add 2)) fun x13_2 =>
 LdI .u64 (w1.cell? (a.add 3)) fun x13_3 =>
 LdI .u64 (w1.cell? (a.add 4)) fun x13_4 =>
 LdStr (w1.cell? (a.add 5)) fun x13_5 =>
 LdStr (w1.cell? (a.add 6)) fun x13_6 =>
 LdI .i64 (w1.cell? (a.add 7)) fun x13_7 =>
 LdStr (w1.cell? (a.add 8)) fun x13_8 =>
 LdSl (w1.cell? (a.add 9)) fun x13_9 x13_9N x13_9C =>
 LdStr (w1.cell? (a.add 10)) fun x13_10 =>
 LdSl (w1.cell? (a.add 11)) fun x13_11 x13_11N x13_11C =>
 Calls Tryz.prog 19 #[(.pointer d), (.agg #[(.int .i64 x13_0), (.int .i64 x13_1), (.bool x13_2), (.int .u64 x13_3), (.int .u64 x13_4), (.string x13_5), (.string x13_6), (.int .i64 x13_7), (.string x13_8), (.slice x13_9 x13_9N x13_9C), (.string x13_10), (.slice x13_11 x13_11N x13_11C)])] w1 (post R fun v w1_2 =>
 ∃ (x14_0 : Int) (x14_1 : Int) (x14_2 : Bool) (x14_3 : Int) (x14_4 : Int) (x14_5 : ByteArray) (x14_6 : ByteArray) (x14_7 : Int) (x14_8 : ByteArray) (x14_9 : Option Addr) (x14_9N : Nat) (x14_9C : Nat) (x14_10 : ByteArray) (x14_11 : Option Addr) (x14_11N : Nat) (x14_11C : Nat), v = (.agg #[(.int .i64 x14_0), (.int .i64 x14_1), (.bool x14_2), (.int .u64 x14_3), (.int .u64 x14_4), (.string x14_5), (.string x14_6), (.int .i64 x14_7), (.string x14_8), (.slice x14_9 x14_9N x14_9C), (.string x14_10), (.slice x14_11 x14_11N x14_11C)]) ∧
 St w1_2 a (.int .i64 x14_0) fun w1_3 =>
 St w1_3 (a.add 1) (.int .i64 x14_1) fun w1_4 =>
 St w1_4 (a.add 2) (.bool x14_2) fun w1_5 =>
 St w1_5 (a.add 3) (.int .u64 x14_3) fun w1_6 =>
 St w1_6 (a.add 4) (.int .u64 x14_4) fun w1_7 =>
 St w1_7 (a.add 5) (.string x14_5) fun w1_8 =>
 St w1_8 (a.add 6) (.string x14_6) fun w1_9 =>
 St w1_9 (a.add 7) (.int .i64 x14_7) fun w1_10 =>
 St w1_10 (a.add 8) (.string x14_8) fun w1_11 =>
 St w1_11 (a.add 9) (.slice x14_9 x14_9N x14_9C) fun w1_12 =>
 St w1_12 (a.add 10) (.string x14_10) fun w1_13 =>
 St w1_13 (a.add 11) (.slice x14_11 x14_11N x14_11C) fun w1_14 =>
 LdI .i64 (w1_14.cell? a) fun x16 =>
 Br (x16 == (0 : Int))
 (LdI .i64 (w1_14.cell? (a.add 7)) fun x20_0 =>
 LdStr (w1_14.cell? ((a.add 7).add 1)) fun x20_1 =>
 LdSl (w1_14.cell? ((a.add 7).add 2)) fun x20_2 x20_2N x20_2C =>
 LdStr (w1_14.cell? ((a.add 7).add 3)) fun x20_3 =>
 LdSl (w1_14.cell? ((a.add 7).add 4)) fun x20_4 x20_4N x20_4C =>
 Calls Tryz.prog 20 #[(.agg #[(.int .i64 x20_0), (.string x20_1), (.slice x20_2 x20_2N x20_2C), (.string x20_3), (.slice x20_4 x20_4N x20_4C)])] w1_14 (post R fun v2 w1_15 =>
 ∃ (x21_0 : Int) (x21_1 : ByteArray) (x21_2 : Option Addr) (x21_2N : Nat) (x21_2C : Nat) (x21_3 : ByteArray) (x21_4 : Option Addr) (x21_4N : Nat) (x21_4C : Nat), v2 = (.agg #[(.int .i64 x21_0), (.string x21_1), (.slice x21_2 x21_2N x21_2C), (.string x21_3), (.slice x21_4 x21_4N x21_4C)]) ∧
 Al w1_15 #[(.int .i64 0), (.string (ByteArray.mk #[])), (.slice none 0 0), (.string (ByteArray.mk #[])), (.slice none 0 0)] 45 fun g7 w1_16 =>
 St w1_16 g7 (.int .i64 x21_0) fun w1_17 =>
 St w1_17 (g7.add 1) (.string x21_1) fun w1_18 =>
 St w1_18 (g7.add 2) (.slice x21_2 x21_2N x21_2C) fun w1_19 =>
 St w1_19 (g7.add 3) (.string x21_3) fun w1_20 =>
 St w1_20 (g7.add 4) (.slice x21_4 x21_4N x21_4C) fun w1_21 =>
 LdI .i64 (w1_21.cell? (a.add 1)) fun x25 =>
 LdI .u64 (w1_21.cell? (a.add 4)) fun x27 =>
 LdI .i64 (w1_21.cell? g7) fun x28_0 =>
 LdStr (w1_21.cell? (g7.add 1)) fun x28_1 =>
 LdSl (w1_21.cell? (g7.add 2)) fun x28_2 x28_2N x28_2C =>
 LdStr (w1_21.cell? (g7.add 3)) fun x28_3 =>
 LdSl (w1_21.cell? (g7.add 4)) fun x28_4 x28_4N x28_4C =>
 CallM Tryz.prog p "Insert" #[(.int .i64 x25), (.int .u64 x27), (.agg #[(.int .i64 x28_0), (.string x28_1), (.slice x28_2 x28_2N x28_2C), (.string x28_3), (.slice x28_4 x28_4N x28_4C)])] w1_21 R (fun v3 w1_22 =>
 ∃ (x29_0 : Int) (x29_1 : Int), v3 = (.tuple #[(.int .u64 x29_0), (.int .i64 x29_1)]) ∧
 LdI .i64 (w1_22.cell? (a.add 1)) fun x35 =>
 LdI .u64 (w1_22.cell? (a.add 4)) fun x37 =>
 LdI .i64 (w1_22.cell? (a.add 7)) fun x39_0 =>
 LdStr (w1_22.cell? ((a.add 7).add 1)) fun x39_1 =>
 LdSl (w1_22.cell? ((a.add 7).add 2)) fun x39_2 x39_2N x39_2C =>
 LdStr (w1_22.cell? ((a.add 7).add 3)) fun x39_3 =>
 LdSl (w1_22.cell? ((a.add 7).add 4)) fun x39_4 x39_4N x39_4C =>
 Calls Tryz.prog 21 #[(.pointer d), (.int .i64 x35), (.int .u64 x37), (.agg #[(.int .i64 x39_0), (.string x39_1), (.slice x39_2 x39_2N x39_2C), (.string x39_3), (.slice x39_4 x39_4N x39_4C)])] w1_22 (post R fun v4 w1_23 =>
 ∃ (x40_0 : Int) (x40_1 : Int), v4 = (.tuple #[(.int .u64 x40_0), (.int .i64 x40_1)]) ∧
 LdI .i64 (w1_23.cell? g7) fun x43_0 =>
 LdStr (w1_23.cell? (g7.add 1)) fun x43_1 =>
 LdSl (w1_23.cell? (g7.add 2)) fun x43_2 x43_2N x43_2C =>
 LdStr (w1_23.cell? (g7.add 3)) fun x43_3 =>
 LdSl (w1_23.cell? (g7.add 4)) fun x43_4 x43_4N x43_4C =>
 Calls Tryz.prog 22 #[(.agg #[(.int .i64 x43_0), (.string x43_1), (.slice x43_2 x43_2N x43_2C), (.string x43_3), (.slice x43_4 x43_4N x43_4C)])] w1_23 (post R fun v5 w1_24 =>
 v5 = (.tuple #[]) ∧
 Br (x29_0 == x40_0)
 (R (.returned (.bool (x29_1 == x40_1))) w1_24)
 (R (.returned (.bool false)) w1_24))))))
 (Br (x16 == (1 : Int))
 (∃ S : World → Prop, S w1_14.drew ∧ ∃ (x57 : Int), Held S (a.add 3) (.int .u64 x57) ∧ ∃ (x59 : Int), Held S (a.add 1) (.int .i64 x59) ∧ ∃ (x61 : Int), Held S (a.add 4) (.int .u64 x61) ∧ ∃ (x65 : Int), Held S (a.add 3) (.int .u64 x65) ∧ ∃ (x67 : Int), Held S (a.add 1) (.int .i64 x67) ∧ ∃ (x69 : Int), Held S (a.add 4) (.int .u64 x69) ∧ CallM Tryz.prog p "Move" #[(.int .u64 x57), (.int .i64 x59), (.int .u64 x61)] w1_14.drew R (fun v2 w1_16 =>
 ∃ (x62 : Int), v2 = (.int .i64 x62) ∧
 S w1_16 ∧ Calls Tryz.prog 23 #[(.pointer d), (.int .u64 x65), (.int .i64 x67), (.int .u64 x69)] w1_16 (post R fun v3 w1_17 =>
 ∃ (x70 : Int), v3 = (.int .i64 x70) ∧
 R (.returned (.bool (x62 == x70))) w1_17)))
 (Br (x16 == (2 : Int))
 (∃ S : World → Prop, S w1_14.drew ∧ ∃ (x76 : Int), Held S (a.add 3) (.int .u64 x76) ∧ ∃ (x80 : Int), Held S (a.add 3) (.int .u64 x80) ∧ CallM Tryz.prog p "Delete" #[(.int .u64 x76)] w1_14.drew R (fun v2 w1_16 =>
 ∃ (x77 : Int), v2 = (.int .i64 x77) ∧
 S w1_16 ∧ Calls Tryz.prog 24 #[(.pointer d), (.int .u64 x80)] w1_16 (post R fun v3 w1_17 =>
 ∃ (x81 : Int), v3 = (.int .i64 x81) ∧
 R (.returned (.bool (x77 == x81))) w1_17)))
 (Br (x16 == (3 : Int))
 (∃ S : World → Prop, S w1_14.drew ∧ ∃ (x87 : Int), Held S (a.add 3) (.int .u64 x87) ∧ ∃ (x89 : ByteArray), Held S (a.add 5) (.string x89) ∧ ∃ (x93 : Int), Held S (a.add 3) (.int .u64 x93) ∧ ∃ (x95 : ByteArray), Held S (a.add 5) (.string x95) ∧ CallM Tryz.prog p "SetName" #[(.int .u64 x87), (.string x89)] w1_14.drew R (fun v2 w1_16 =>
 ∃ (x90 : Int), v2 = (.int .i64 x90) ∧
 S w1_16 ∧ Calls Tryz.prog 25 #[(.pointer d), (.int .u64 x93), (.string x95)] w1_16 (post R fun v3 w1_17 =>
 ∃ (x96 : Int), v3 = (.int .i64 x96) ∧
 R (.returned (.bool (x90 == x96))) w1_17)))
 (Br (x16 == (4 : Int))
 (∃ S : World → Prop, S w1_14.drew ∧ ∃ (x102 : Int), Held S (a.add 3) (.int .u64 x102) ∧ ∃ (x104 : ByteArray), Held S (a.add 6) (.string x104) ∧ ∃ (x108 : Int), Held S (a.add 3) (.int .u64 x108) ∧ ∃ (x110 : ByteArray), Held S (a.add 6) (.string x110) ∧ CallM Tryz.prog p "SetText" #[(.int .u64 x102), (.string x104)] w1_14.drew R (fun v2 w1_16 =>
 ∃ (x105 : Int), v2 = (.int .i64 x105) ∧
 S w1_16 ∧ Calls Tryz.prog 26 #[(.pointer d), (.int .u64 x108), (.string x110)] w1_16 (post R fun v3 w1_17 =>
 ∃ (x111 : Int), v3 = (.int .i64 x111) ∧
 R (.returned (.bool (x105 == x111))) w1_17)))
 (Br (x16 == (5 : Int))
 (∃ S : World → Prop, S w1_14.drew ∧ ∃ (x117 : Int), Held S (a.add 3) (.int .u64 x117) ∧ ∃ (x119 : ByteArray), Held S (a.add 5) (.string x119) ∧ ∃ (x121 : ByteArray), Held S (a.add 6) (.string x121) ∧ ∃ (x125 : Int), Held S (a.add 3) (.int .u64 x125) ∧ ∃ (x127 : ByteArray), Held S (a.add 5) (.string x127) ∧ ∃ (x129 : ByteArray), Held S (a.add 6) (.string x129) ∧ CallM Tryz.prog p "SetAttr" #[(.int .u64 x117), (.string x119), (.string x121)] w1_14.drew R (fun v2 w1_16 =>
 ∃ (x122 : Int), v2 = (.int .i64 x122) ∧
 S w1_16 ∧ Calls Tryz.prog 27 #[(.pointer d), (.int .u64 x125), (.string x127), (.string x129)] w1_16 (post R fun v3 w1_17 =>
 ∃ (x130 : Int), v3 = (.int .i64 x130) ∧
 R (.returned (.bool (x122 == x130))) w1_17)))
 (Br (x16 == (6 : Int))
 (∃ S : World → Prop, S w1_14.drew ∧ ∃ (x136 : Int), Held S (a.add 3) (.int .u64 x136) ∧ ∃ (x138 : ByteArray), Held S (a.add 5) (.string x138) ∧ ∃ (x142 : Int), Held S (a.add 3) (.int .u64 x142) ∧ ∃ (x144 : ByteArray), Held S (a.add 5) (.string x144) ∧ CallM Tryz.prog p "DropAttr" #[(.int .u64 x136), (.string x138)] w1_14.drew R (fun v2 w1_16 =>
 ∃ (x139 : Int), v2 = (.int .i64 x139) ∧
 S w1_16 ∧ Calls Tryz.prog 28 #[(.pointer d), (.int .u64 x142), (.string x144)] w1_16 (post R fun v3 w1_17 =>
 ∃ (x145 : Int), v3 = (.int .i64 x145) ∧
 R (.returned (.bool (x139 == x145))) w1_17)))
 (R (.returned (.bool true)) w1_14))))))))
theorem ok4 (p : Value) (d : Option Addr) (a_0 : Int) (a_1 : Int) (a_2 : Bool) (a_3 : Int) (a_4 : Int) (a_5 : ByteArray) (a_6 : ByteArray) (a_7 : Int) (a_8 : ByteArray) (a_9 : Option Addr) (a_9N : Nat) (a_9C : Nat) (a_10 : ByteArray) (a_11 : Option Addr) (a_11N : Nat) (a_11C : Nat) {w : World} {R : Ending → World → Prop} (h : F4 p d a_0 a_1 a_2 a_3 a_4 a_5 a_6 a_7 a_8 a_9 a_9N a_9C a_10 a_11 a_11N a_11C w R) : Calls Tryz.prog 4 #[p, (.pointer d), (.agg #[(.int .i64 a_0), (.int .i64 a_1), (.bool a_2), (.int .u64 a_3), (.int .u64 a_4), (.string a_5), (.string a_6), (.int .i64 a_7), (.string a_8), (.slice a_9 a_9N a_9C), (.string a_10), (.slice a_11 a_11N a_11C)])] w R :=
  vc_calls (pl := ⟨147, ⟨[]⟩, [], []⟩) Tryz.func4 (by kernel_rfl) (by kernel_rfl) (by kernel_rfl) (Eq.mp (by kernel_rfl) h)
def F19_j12 (a : Addr) (g4 : Addr) (w_2 : World) (R : Ending → World → Prop) : Prop :=
 LdI .i64 (w_2.cell? a) fun x49_0 =>
 LdI .i64 (w_2.cell? (a.add 1)) fun x49_1 =>
 LdB (w_2.cell? (a.add 2)) fun x49_2 =>
 LdI .u64 (w_2.cell? (a.add 3)) fun x49_3 =>
 LdI .u64 (w_2.cell? (a.add 4)) fun x49_4 =>
 LdStr (w_2.cell? (a.add 5)) fun x49_5 =>
 LdStr (w_2.cell? (a.add 6)) fun x49_6 =>
 LdI .i64 (w_2.cell? (a.add 7)) fun x49_7 =>
 LdStr (w_2.cell? (a.add 8)) fun x49_8 =>
 LdSl (w_2.cell? (a.add 9)) fun x49_9 x49_9N x49_9C =>
 LdStr (w_2.cell? (a.add 10)) fun x49_10 =>
 LdSl (w_2.cell? (a.add 11)) fun x49_11 x49_11N x49_11C =>
 St w_2 g4 (.int .i64 x49_0) fun w1_5 =>
 St w1_5 (g4.add 1) (.int .i64 x49_1) fun w1_6 =>
 St w1_6 (g4.add 2) (.bool x49_2) fun w1_7 =>
 St w1_7 (g4.add 3) (.int .u64 x49_3) fun w1_8 =>
 St w1_8 (g4.add 4) (.int .u64 x49_4) fun w1_9 =>
 St w1_9 (g4.add 5) (.string x49_5) fun w1_10 =>
 St w1_10 (g4.add 6) (.string x49_6) fun w1_11 =>
 St w1_11 (g4.add 7) (.int .i64 x49_7) fun w1_12 =>
 St w1_12 (g4.add 8) (.string x49_8) fun w1_13 =>
 St w1_13 (g4.add 9) (.slice x49_9 x49_9N x49_9C) fun w1_14 =>
 St w1_14 (g4.add 10) (.string x49_10) fun w1_15 =>
 St w1_15 (g4.add 11) (.slice x49_11 x49_11N x49_11C) fun w1_16 =>
 LdI .i64 (w1_16.cell? g4) fun res0_0 =>
 LdI .i64 (w1_16.cell? (g4.add 1)) fun res0_1 =>
 LdB (w1_16.cell? (g4.add 2)) fun res0_2 =>
 LdI .u64 (w1_16.cell? (g4.add 3)) fun res0_3 =>
 LdI .u64 (w1_16.cell? (g4.add 4)) fun res0_4 =>
 LdStr (w1_16.cell? (g4.add 5)) fun res0_5 =>
 LdStr (w1_16.cell? (g4.add 6)) fun res0_6 =>
 LdI .i64 (w1_16.cell? (g4.add 7)) fun res0_7 =>
 LdStr (w1_16.cell? (g4.add 8)) fun res0_8 =>
 LdSl (w1_16.cell? (g4.add 9)) fun res0_9 res0_9N res0_9C =>
 LdStr (w1_16.cell? (g4.add 10)) fun res0_10 =>
 LdSl (w1_16.cell? (g4.add 11)) fun res0_11 res0_11N res0_11C =>
 R (.returned (.agg #[(.int .i64 res0_0), (.int .i64 res0_1), (.bool res0_2), (.int .u64 res0_3), (.int .u64 res0_4), (.string res0_5), (.string res0_6), (.int .i64 res0_7), (.string res0_8), (.slice res0_9 res0_9N res0_9C), (.string res0_10), (.slice res0_11 res0_11N res0_11C)])) w1_16
def F19 (d : Option Addr) (a_0 : Int) (a_1 : Int) (a_2 : Bool) (a_3 : Int) (a_4 : Int) (a_5 : ByteArray) (a_6 : ByteArray) (a_7 : Int) (a_8 : ByteArray) (a_9 : Option Addr) (a_9N : Nat) (a_9C : Nat) (a_10 : ByteArray) (a_11 : Option Addr) (a_11N : Nat) (a_11C : Nat) (w_ : World) (R : Ending → World → Prop) : Prop :=
 Al w_ #[(.int .i64 a_0), (.int .i64 a_1), (.bool a_2), (.int .u64 a_3), (.int .u64 a_4), (.string a_5), (.string a_6), (.int .i64 a_7), (.string a_8), (.slice a_9 a_9N a_9C), (.string a_10), (.slice a_11 a_11N a_11C)] 47 fun a w1 =>
 Al w1 #[(.int .i64 0), (.int .i64 0), (.bool false), (.int .u64 0), (.int .u64 0), (.string (ByteArray.mk #[])), (.string (ByteArray.mk #[])), (.int .i64 0), (.string (ByteArray.mk #[])), (.slice none 0 0), (.string (ByteArray.mk #[])), (.slice none 0 0)] 47 fun g4 w1_2 =>
 Calls Tryz.prog 5 #[(.pointer d), (.int .u64 0)] w1_2 (post R fun v w1_3 =>
 ∃ (x10_0 : Option Addr) (x10_0N : Nat) (x10_0C : Nat) (x10_1 : Int), v = (.tuple #[(.slice x10_0 x10_0N x10_0C), (.int .i64 x10_1)]) ∧
 LdB (w1_3.cell? (a.add 2)) fun x14 =>
 Br (!x14)
 (LdI .i64 (w1_3.cell? a) fun x16_0 =>
 LdI .i64 (w1_3.cell? (a.add 1)) fun x16_1 =>
 LdB (w1_3.cell? (a.add 2)) fun x16_2 =>
 LdI .u64 (w1_3.cell? (a.add 3)) fun x16_3 =>
 LdI .u64 (w1_3.cell? (a.add 4)) fun x16_4 =>
 LdStr (w1_3.cell? (a.add 5)) fun x16_5 =>
 LdStr (w1_3.cell? (a.add 6)) fun x16_6 =>
 LdI .i64 (w1_3.cell? (a.add 7)) fun x16_7 =>
 LdStr (w1_3.cell? (a.add 8)) fun x16_8 =>
 LdSl (w1_3.cell? (a.add 9)) fun x16_9 x16_9N x16_9C =>
 LdStr (w1_3.cell? (a.add 10)) fun x16_10 =>
 LdSl (w1_3.cell? (a.add 11)) fun x16_11 x16_11N x16_11C =>
 St w1_3 g4 (.int .i64 x16_0) fun w1_4 =>
 St w1_4 (g4.add 1) (.int .i64 x16_1) fun w1_5 =>
 St w1_5 (g4.add 2) (.bool x16_2) fun w1_6 =>
 St w1_6 (g4.add 3) (.int .u64 x16_3) fun w1_7 =>
 St w1_7 (g4.add 4) (.int .u64 x16_4) fun w1_8 =>
 St w1_8 (g4.add 5) (.string x16_5) fun w1_9 =>
 St w1_9 (g4.add 6) (.string x16_6) fun w1_10 =>
 St w1_10 (g4.add 7) (.int .i64 x16_7) fun w1_11 =>
 St w1_11 (g4.add 8) (.string x16_8) fun w1_12 =>
 St w1_12 (g4.add 9) (.slice x16_9 x16_9N x16_9C) fun w1_13 =>
 St w1_13 (g4.add 10) (.string x16_10) fun w1_14 =>
 St w1_14 (g4.add 11) (.slice x16_11 x16_11N x16_11C) fun w1_15 =>
 LdI .i64 (w1_15.cell? g4) fun res0_0 =>
 LdI .i64 (w1_15.cell? (g4.add 1)) fun res0_1 =>
 LdB (w1_15.cell? (g4.add 2)) fun res0_2 =>
 LdI .u64 (w1_15.cell? (g4.add 3)) fun res0_3 =>
 LdI .u64 (w1_15.cell? (g4.add 4)) fun res0_4 =>
 LdStr (w1_15.cell? (g4.add 5)) fun res0_5 =>
 LdStr (w1_15.cell? (g4.add 6)) fun res0_6 =>
 LdI .i64 (w1_15.cell? (g4.add 7)) fun res0_7 =>
 LdStr (w1_15.cell? (g4.add 8)) fun res0_8 =>
 LdSl (w1_15.cell? (g4.add 9)) fun res0_9 res0_9N res0_9C =>
 LdStr (w1_15.cell? (g4.add 10)) fun res0_10 =>
 LdSl (w1_15.cell? (g4.add 11)) fun res0_11 res0_11N res0_11C =>
 R (.returned (.agg #[(.int .i64 res0_0), (.int .i64 res0_1), (.bool res0_2), (.int .u64 res0_3), (.int .u64 res0_4), (.string res0_5), (.string res0_6), (.int .i64 res0_7), (.string res0_8), (.slice res0_9 res0_9N res0_9C), (.string res0_10), (.slice res0_11 res0_11N res0_11C)])) w1_15)
 (St w1_3 (a.add 2) (.bool false) fun w1_4 =>
 ∃ J12 : World → Prop, (∀  (w1_5 : World), J12 w1_5 → F19_j12 a g4 w1_5 R) ∧
 (InR .u64 (((x10_0N : Nat) : Int)) ∧ Br (decide ((((x10_0N : Nat) : Int)) > (0 : Int)))
 (LdI .u64 (w1_4.cell? (a.add 3)) fun x25 =>
 (((x10_0N : Nat) : Int)) ≠ 0 ∧ IdxA x10_0 x10_0N (x25.tmod (((x10_0N : Nat) : Int))) 1 fun q28 =>
 LdI .u64 (w1_4.cell? q28) fun x29 =>
 St w1_4 (a.add 3) (.int .u64 x29) fun w1_5 =>
 LdI .u64 (w1_5.cell? (a.add 4)) fun x32 =>
 InR .u64 ((((x10_0N : Nat) : Int)) + (1 : Int)) ∧ ((((x10_0N : Nat) : Int)) + (1 : Int)) ≠ 0 ∧ Br ((x32.tmod ((((x10_0N : Nat) : Int)) + (1 : Int))) == (((x10_0N : Nat) : Int)))
 (St w1_5 (a.add 4) (.int .u64 0) fun w1_6 =>
 J12 w1_6)
 (LdI .u64 (w1_5.cell? (a.add 4)) fun x41 =>
 InR .u64 ((((x10_0N : Nat) : Int)) + (1 : Int)) ∧ ((((x10_0N : Nat) : Int)) + (1 : Int)) ≠ 0 ∧ IdxA x10_0 x10_0N (x41.tmod ((((x10_0N : Nat) : Int)) + (1 : Int))) 1 fun q45 =>
 LdI .u64 (w1_5.cell? q45) fun x46 =>
 St w1_5 (a.add 4) (.int .u64 x46) fun w1_6 =>
 J12 w1_6))
 (St w1_4 (a.add 4) (.int .u64 0) fun w1_5 =>
 J12 w1_5))))
theorem ok19 (d : Option Addr) (a_0 : Int) (a_1 : Int) (a_2 : Bool) (a_3 : Int) (a_4 : Int) (a_5 : ByteArray) (a_6 : ByteArray) (a_7 : Int) (a_8 : ByteArray) (a_9 : Option Addr) (a_9N : Nat) (a_9C : Nat) (a_10 : ByteArray) (a_11 : Option Addr) (a_11N : Nat) (a_11C : Nat) {w : World} {R : Ending → World → Prop} (h : F19 d a_0 a_1 a_2 a_3 a_4 a_5 a_6 a_7 a_8 a_9 a_9N a_9C a_10 a_11 a_11N a_11C w R) : Calls Tryz.prog 19 #[(.pointer d), (.agg #[(.int .i64 a_0), (.int .i64 a_1), (.bool a_2), (.int .u64 a_3), (.int .u64 a_4), (.string a_5), (.string a_6), (.int .i64 a_7), (.string a_8), (.slice a_9 a_9N a_9C), (.string a_10), (.slice a_11 a_11N a_11C)])] w R :=
  vc_calls (pl := ⟨50, ⟨[]⟩, [(12, ⟨[], [(7, 49)]⟩)], []⟩) Tryz.func19 (by kernel_rfl) (by kernel_rfl) (by kernel_rfl) (Eq.mp (by kernel_rfl) h)
def F22_l6 (g1 : Addr) (L6 : Int → World → Prop) (i2 : Int) (w_3 : World) (R : Ending → World → Prop) : Prop :=
 LdSl (w_3.cell? (g1.add 4)) fun x18 x18N x18C =>
 Br (decide (i2 < ((x18N : Nat) : Int)))
 (LdSl (w_3.cell? (g1.add 4)) fun x24 x24N x24C =>
 IdxA x24 x24N i2 5 fun q26 =>
 LdI .i64 (w_3.cell? q26) fun x27_0 =>
 LdStr (w_3.cell? (q26.add 1)) fun x27_1 =>
 LdSl (w_3.cell? (q26.add 2)) fun x27_2 x27_2N x27_2C =>
 LdStr (w_3.cell? (q26.add 3)) fun x27_3 =>
 LdSl (w_3.cell? (q26.add 4)) fun x27_4 x27_4N x27_4C =>
 Calls Tryz.prog 22 #[(.agg #[(.int .i64 x27_0), (.string x27_1), (.slice x27_2 x27_2N x27_2C), (.string x27_3), (.slice x27_4 x27_4N x27_4C)])] w_3 (post R fun v w1_2 =>
 v = (.tuple #[]) ∧
 LdSl (w1_2.cell? (g1.add 4)) fun x30 x30N x30C =>
 IdxA x30 x30N i2 5 fun q33 =>
 St w1_2 q33 (.int .i64 99) fun w1_3 =>
 St w1_3 (q33.add 1) (.string (ByteArray.mk #[])) fun w1_4 =>
 St w1_4 (q33.add 2) (.slice none 0 0) fun w1_5 =>
 St w1_5 (q33.add 3) (.string (ByteArray.mk #[])) fun w1_6 =>
 St w1_6 (q33.add 4) (.slice none 0 0) fun w1_7 =>
 InR .i64 (i2 + (1 : Int)) ∧ L6 (i2 + (1 : Int)) w1_7))
 (R (.returned (.tuple #[])) w_3)
def F22_l2 (g1 : Addr) (L2 : Int → World → Prop) (i : Int) (w_2 : World) (R : Ending → World → Prop) : Prop :=
 LdSl (w_2.cell? (g1.add 2)) fun x6 x6N x6C =>
 Br (decide (i < ((x6N : Nat) : Int)))
 (LdSl (w_2.cell? (g1.add 2)) fun x12 x12N x12C =>
 IdxA x12 x12N i 2 fun q15 =>
 St w_2 q15 (.string (ByteArray.mk #[115, 112, 111, 105, 108, 116])) fun w1_2 =>
 St w1_2 (q15.add 1) (.string (ByteArray.mk #[])) fun w1_3 =>
 InR .i64 (i + (1 : Int)) ∧ L2 (i + (1 : Int)) w1_3)
 (∃ (I : Int → World → Prop) (m : Int → World → Nat), I (0 : Int) w_2 ∧
 ∀ (i2 : Int) (w1_2 : World), I i2 w1_2 → F22_l6 g1 (fun i2' w2 => I i2' w2 ∧ m i2' w2 < m i2 w1_2) i2 w1_2 R)
def F22 (x_0 : Int) (x_1 : ByteArray) (x_2 : Option Addr) (x_2N : Nat) (x_2C : Nat) (x_3 : ByteArray) (x_4 : Option Addr) (x_4N : Nat) (x_4C : Nat) (w_ : World) (R : Ending → World → Prop) : Prop :=
 Al w_ #[(.int .i64 x_0), (.string x_1), (.slice x_2 x_2N x_2C), (.string x_3), (.slice x_4 x_4N x_4C)] 45 fun g1 w1 =>
 ∃ (I : Int → World → Prop) (m : Int → World → Nat), I (0 : Int) w1 ∧
 ∀ (i : Int) (w1_2 : World), I i w1_2 → F22_l2 g1 (fun i' w2 => I i' w2 ∧ m i' w2 < m i w1_2) i w1_2 R
theorem ok22 (x_0 : Int) (x_1 : ByteArray) (x_2 : Option Addr) (x_2N : Nat) (x_2C : Nat) (x_3 : ByteArray) (x_4 : Option Addr) (x_4N : Nat) (x_4C : Nat) {w : World} {R : Ending → World → Prop} (h : F22 x_0 x_1 x_2 x_2N x_2C x_3 x_4 x_4N x_4C w R) : Calls Tryz.prog 22 #[(.agg #[(.int .i64 x_0), (.string x_1), (.slice x_2 x_2N x_2C), (.string x_3), (.slice x_4 x_4N x_4C)])] w R :=
  vc_calls (pl := ⟨34, ⟨[]⟩, [], [(2, ⟨[(2, (.s (.int .i64)))], [(2, 16)]⟩), (6, ⟨[(3, (.s (.int .i64)))], [(3, 34)]⟩)]⟩) Tryz.func22 (by kernel_rfl) (by kernel_rfl) (by kernel_rfl) (Eq.mp (by kernel_rfl) h)
end Go.Proofs.YthbeeonmfbigcaaGreatDoor
/- The law's copies of trees, and how it spoils them. -/
namespace Go.Proofs.YthbeeonmfbigcaaGreatDoor
open Go.RowKit Go.Vc
set_option linter.unusedVariables false
set_option linter.unusedSimpArgs false
set_option maxRecDepth 100000
mutual
def OTr (w : World) : Tr → E5 → Nat → Nat → Prop
  | .mk kind nm attrs text ks, e, lo, hi => e.kind = kind ∧ e.nm = nm ∧ e.text = text ∧ attrs.length ≤ 1048576 ∧ ks.length ≤ 1048576 ∧ Own LAt w 0 96 (slV e.ats) attrs ∧ ∃ mid es, lo ≤ mid ∧ mid ≤ hi ∧ (∀ b, rowOf (slV e.ats) = some b → lo ≤ b ∧ b < mid) ∧
      Own LE5 w 0 45 (slV e.kids) es ∧ (∀ b, rowOf (slV e.kids) = some b → mid ≤ b ∧ b < hi) ∧ OTl w ks es mid hi (rowOf (slV e.kids))
def OTl (w : World) : List Tr → List E5 → Nat → Nat → Option Nat → Prop
  | [], es, _, _, _ => es = []
  | t :: ts, es, lo, hi, x => ∃ e es' a b, es = e :: es' ∧ lo ≤ a ∧ a ≤ b ∧ b ≤ hi ∧ (∀ r, x = some r → ¬ (a ≤ r ∧ r < b)) ∧ OTr w t e a b ∧ OTl w ts es' b hi x
end
mutual
theorem OTr.fm {w w1 : World} {M : Nat → Prop} (hf : Fm M w w1) : ∀ (t : Tr) (e : E5) (lo hi : Nat), (∀ b, lo ≤ b → b < hi → ¬ M b) → OTr w t e lo hi → OTr w1 t e lo hi
  | .mk kind nm attrs text ks, e, lo, hi, hm, h => by
    simp only [OTr] at h ⊢
    obtain ⟨h1, h2, h3, h4, h5, h6, mid, es, h7, h8, h9, h10, h11, h12⟩ := h
    exact ⟨h1, h2, h3, h4, h5, own_fm h6 hf fun b hb => by have := h9 b hb; exact hm b this.1 (by omega), mid, es, h7, h8, h9, own_fm h10 hf fun b hb => by have := h11 b hb; exact hm b (by omega) this.2, h11, OTl.fm hf ks es mid hi _ (fun b h1 h2 _ => hm b (by omega) h2) h12⟩
theorem OTl.fm {w w1 : World} {M : Nat → Prop} (hf : Fm M w w1) : ∀ (ts : List Tr) (es : List E5) (lo hi : Nat) (x : Option Nat), (∀ b, lo ≤ b → b < hi → x ≠ some b → ¬ M b) → OTl w ts es lo hi x → OTl w1 ts es lo hi x
  | [], es, lo, hi, x, hm, h => by simp only [OTl] at h ⊢; exact h
  | t :: ts, es, lo, hi, x, hm, h => by
    simp only [OTl] at h ⊢
    obtain ⟨e, es', a, b, h1, h2, h3, h4, h5, h6, h7⟩ := h
    exact ⟨e, es', a, b, h1, h2, h3, h4, h5, OTr.fm hf t e a b (fun c h8 h9 => hm c (by omega) (by omega) fun e => h5 c e ⟨h8, h9⟩) h6, OTl.fm hf ts es' b hi x (fun c h8 h9 h10 => hm c (by omega) h9 h10) h7⟩
end
theorem OTl.len {w : World} : ∀ {ts : List Tr} {es : List E5} {lo hi : Nat} {x : Option Nat}, OTl w ts es lo hi x → es.length = ts.length
  | [], es, _, _, _, h => by simp only [OTl] at h; subst h; rfl
  | t :: ts, es, _, _, _, h => by
    simp only [OTl] at h
    obtain ⟨e, es', a, b, rfl, _, _, _, _, _, h7⟩ := h
    simp [h7.len]
theorem OTl.snoc {w : World} {t : Tr} {e : E5} {a b hi' : Nat} {x : Option Nat} (ht : OTr w t e a b) (hab : a ≤ b) (hb : b ≤ hi') (hx : ∀ r, x = some r → ¬ (a ≤ r ∧ r < b)) : ∀ {ts : List Tr} {es : List E5} {lo hi : Nat}, OTl w ts es lo hi x → lo ≤ a → hi ≤ a → OTl w (ts ++ [t]) (es ++ [e]) lo hi' x
  | [], es, lo, hi, h, h0, h1 => by
    simp only [OTl] at h
    subst h
    simp only [List.nil_append, OTl]
    exact ⟨e, [], a, b, rfl, h0, hab, hb, hx, ht, rfl⟩
  | u :: ts, es, lo, hi, h, h0, h1 => by
    simp only [OTl] at h
    obtain ⟨e', es', a', b', rfl, h2, h3, h4, h5, h6, h7⟩ := h
    simp only [List.cons_append, OTl]
    exact ⟨e', _, a', b', rfl, h2, h3, by omega, h5, h6, OTl.snoc ht hab hb hx h7 (by omega) h1⟩
theorem OTl.other {w : World} {x x' : Option Nat} : ∀ {ts : List Tr} {es : List E5} {lo hi : Nat}, OTl w ts es lo hi x → (∀ r, x' = some r → x = some r ∨ hi ≤ r) → OTl w ts es lo hi x'
  | [], es, lo, hi, h, _ => by simp only [OTl] at h ⊢; exact h
  | u :: ts, es, lo, hi, h, hx => by
    simp only [OTl] at h ⊢
    obtain ⟨e', es', a', b', rfl, h2, h3, h4, h5, h6, h7⟩ := h
    refine ⟨e', es', a', b', rfl, h2, h3, h4, fun r hr => ?_, h6, h7.other hx⟩
    rcases hx r hr with e | e
    · exact h5 r e
    · omega
theorem OTl.wide {w : World} {x : Option Nat} {hi' : Nat} : ∀ {ts : List Tr} {es : List E5} {lo hi : Nat}, OTl w ts es lo hi x → hi ≤ hi' → OTl w ts es lo hi' x
  | [], es, lo, hi, h, _ => by simp only [OTl] at h ⊢; exact h
  | u :: ts, es, lo, hi, h, hx => by
    simp only [OTl] at h ⊢
    obtain ⟨e', es', a', b', rfl, h2, h3, h4, h5, h6, h7⟩ := h
    exact ⟨e', es', a', b', rfl, h2, h3, by omega, h5, h6, h7.wide hx⟩
theorem own_rr {α : Type} {L : Lay α} {w : World} {ok : Nat → Bool} {q : Nat} {e : TypeId} {v : Sv} {xs : List α} (o : Own L w q e (slV v) xs) (h1 : ∀ b, rowOf (slV v) = some b → ok b = true) (hl : xs.length ≤ 1048576) : RR L (wOnly ok w) xs v := by
  have ho : Own L (wOnly ok w) q e (slV v) xs := by
    rcases o with h2 | h2 | ⟨g', c', cur, hv, hb, hh, hn, hm, hs, ht⟩
    · exact .inl h2
    · exact .inr (.inl h2)
    · exact .inr (.inr ⟨g', c', cur, hv, hb, cells_only (h1 g' (by rw [hv]; rfl)) hh, hn, hm, hs, ht⟩)
  obtain ⟨A, c, hv, hr⟩ := ho.form
  rw [slv_form hv]
  exact ⟨hl, rfl, hr⟩
mutual
theorem OTr.rtr {w : World} {ok : Nat → Bool} : ∀ (t : Tr) (e : E5) (lo hi : Nat), (∀ b, lo ≤ b → b < hi → ok b = true) → OTr w t e lo hi → RTr (wOnly ok w) t e
  | .mk kind nm attrs text ks, e, lo, hi, hm, h => by
    simp only [OTr] at h
    obtain ⟨h1, h2, h3, h4, h5, h6, mid, es, h7, h8, h9, h10, h11, h12⟩ := h
    simp only [RTr]
    have hl := h12.len
    obtain ⟨z0, z1, z2⟩ := own_rr h10 (ok := ok) (fun b hb => by have := h11 b hb; exact hm b (by omega) this.2) (by omega)
    exact ⟨h1, h2, h3, own_rr h6 (fun b hb => by have := h9 b hb; exact hm b this.1 (by omega)) h4, h5, es, z1, z2, OTl.rtl ks es mid hi _ (fun b h1 h2 => hm b (by omega) h2) h12⟩
theorem OTl.rtl {w : World} {ok : Nat → Bool} : ∀ (ts : List Tr) (es : List E5) (lo hi : Nat) (x : Option Nat), (∀ b, lo ≤ b → b < hi → ok b = true) → OTl w ts es lo hi x → RTl (wOnly ok w) ts es
  | [], es, lo, hi, x, hm, h => by simp only [OTl] at h; simp only [RTl]; exact h
  | t :: ts, es, lo, hi, x, hm, h => by
    simp only [OTl] at h
    simp only [RTl]
    obtain ⟨e, es', a, b, h1, h2, h3, h4, h5, h6, h7⟩ := h
    exact ⟨e, es', h1, OTr.rtr t e a b (fun c h8 h9 => hm c (by omega) (by omega)) h6, OTl.rtl ts es' b hi x (fun c h8 h9 => hm c (by omega) h9) h7⟩
end
theorem copied_calls : ∀ (x : Tr) {w : World} {e : E5} {R : Ending → World → Prop}, RTr w x e →
    (∀ w' e', Below w.heap.size w w' → OTr w' x e' w.heap.size w'.heap.size → R (.returned (.agg #[.int .i64 e'.kind, .string e'.nm, slV e'.ats, .string e'.text, slV e'.kids])) w') →
    Calls Tryz.prog 20 #[.agg #[.int .i64 e.kind, .string e.nm, slV e.ats, .string e.text, slV e.kids]] w R := by
  refine Tr.ind fun kind nm attrs text kids ih => ?_
  intro w e R hT hK
  simp only [RTr] at hT
  obtain ⟨t1, t2, t3, ⟨y0, y1, y2⟩, t5, et, t6, t7, t8⟩ := hT
  have hel := t8.len
  refine ok20 e.kind e.nm e.ats.1 e.ats.2.1 e.ats.2.2 e.text e.kids.1 e.kids.2.1 e.kids.2.2 ?_
  unfold F20
  refine al fun g1 w1 hb1 b1 hge1 => al fun g2 w2 hb2 b2 hge2 => al fun g5 w3 hb3 b5 hge5 => ?_
  have B2 := btr hb1 hb1.size hb2
  have B3 := btr B2 B2.size hb3
  have b13 := (b1.keep hb2).keep hb3
  simp only [Addr.add_mk, Nat.zero_add, b13.cell, List.getElem?_toArray, List.getElem?_cons_zero, List.getElem?_cons_succ, Addr.add_mk, List.getElem?_toArray, List.getElem?_cons_zero, List.getElem?_cons_succ, LdI_some, LdB_some, LdStr_some, LdP_some, LdSl_some, LdM_some, Nat.zero_add, Br_t, Br_f]
  have hm32 : attrs.length * 32 ≤ 1048576 * 32 := Nat.mul_le_mul y0 (Nat.le_refl _)
  have hg1 := b1.lt
  have hg2 := b2.lt
  have hs1 := hb1.size
  have hs2 := hb2.size
  have hs3 := hb3.size
  refine ap (L := LAt) (e := 96) (xs := []) (ys := attrs) (base := w3.heap.size) (.agg #[.string ⟨#[]⟩, .string ⟨#[]⟩]) 32 y1 (by kernel_rfl) (by kernel_rfl) (by kernel_rfl) (Own.bare _ _ _ _ _) (y2.keep B3) (Nat.le_refl _) (by simp only [List.length_nil, Nat.zero_add]; omega) (by simp [maxLen]; omega) fun A4 c4 w4 o4 g4 => ⟨A4, _, c4, rfl, ?_⟩
  rw [List.nil_append] at o4
  have B4 : Below w.heap.size w w4 := B3.trans (g4.below.mono (by omega))
  have hs4 := g4.lt
  generalize hav : (A4, ([] : List At).length + attrs.length, c4) = av at *
  have hav' : Value.slice A4 (([] : List At).length + attrs.length) c4 = slV av := by rw [← hav]; rfl
  rw [hav'] at o4 ⊢
  refine st_blk (b13.keep g4.below) (by simp) fun w5 b15 f5 => ?_
  simp only [List.setIfInBounds_toArray, List.set_cons_zero, List.set_cons_succ] at b15
  have hs5 := f5.size
  refine al fun g10 w6 hb6 b10 hge10 => ?_
  have hs6 := hb6.size
  have b16 := b15.keep hb6
  have b26 : Blk w6 g2 _ 45 := (f5.blk ((b2.keep hb3).keep g4.below) (fun e => by have e : g2 = g1 := e; omega)).keep hb6
  have B6 : Below w.heap.size w w6 := (B4.trans (f5.toBelow (by omega) fun b hb e => by have e : b = g1 := e; omega)).trans (hb6.mono (by omega))
  have o6 : Own LAt w6 w3.heap.size 96 (slV av) attrs := (own_fm o4 f5 fun b hb e => by have e : b = g1 := e; have := (o4.lt b hb).1; omega).keep hb6
  have hatr : ∀ b, rowOf (slV av) = some b → w3.heap.size ≤ b ∧ b < w6.heap.size := fun b hb => o6.lt b hb
  refine ⟨fun l lN lC j w' => ∃ (k : Nat) (es' : List E5), j = k ∧ k ≤ kids.length ∧ Below w.heap.size w w' ∧ w6.heap.size ≤ w'.heap.size ∧ Blk w' g1 #[.int .i64 e.kind, .string e.nm, slV av, .string e.text, slV e.kids] 45 ∧ Blk w' g2 #[.int .i64 0, .string (ByteArray.mk #[]), .slice none 0 0, .string (ByteArray.mk #[]), .slice none 0 0] 45 ∧
      Own LAt w' w3.heap.size 96 (slV av) attrs ∧ Own LE5 w' w6.heap.size 45 (.slice l lN lC) es' ∧ OTl w' (kids.take k) es' w6.heap.size w'.heap.size (rowOf (.slice l lN lC)), fun _ _ _ j _ => kids.length - j.toNat,
    ⟨0, [], rfl, by omega, B6, Nat.le_refl _, b16, b26, o6, Own.bare _ _ _ _ _, by simp [OTl]⟩, ?_⟩
  rintro l lN lC j w7 ⟨k, es7, rfl, hk7, B7, hs7, b17, b27, o7, ol, hot⟩
  unfold F20_l4
  have hel7 := hot.len
  rw [List.length_take] at hel7
  have hlr : ∀ b, rowOf (.slice l lN lC) = some b → w6.heap.size ≤ b ∧ b < w7.heap.size := fun b hb => ol.lt b hb
  simp only [Addr.add_mk, Nat.zero_add, b17.cell, List.getElem?_toArray, List.getElem?_cons_zero, List.getElem?_cons_succ, Addr.add_mk, List.getElem?_toArray, List.getElem?_cons_zero, List.getElem?_cons_succ, LdI_some, LdB_some, LdStr_some, LdP_some, LdSl_some, LdM_some, Nat.zero_add, Br_t, Br_f]
  simp only [slV, Addr.add_mk, List.getElem?_toArray, List.getElem?_cons_zero, List.getElem?_cons_succ, LdI_some, LdB_some, LdStr_some, LdP_some, LdSl_some, LdM_some, Nat.zero_add, Br_t, Br_f]
  refine brd (fun hlt => ?_) (fun hge => ?_)
  · have hk2 : k < kids.length := by omega
    have hk3 : k < et.length := by omega
    refine (t7.keep B7).e5 t6 rfl hk3 fun bb oo c0 c1 c2 c3 c4 => ?_
    simp only [Addr.add_mk, Nat.zero_add, c0, c1, c2, c3, c4, Addr.add_mk, List.getElem?_toArray, List.getElem?_cons_zero, List.getElem?_cons_succ, LdI_some, LdB_some, LdStr_some, LdP_some, LdSl_some, LdM_some, Nat.zero_add, Br_t, Br_f]
    refine ih kids[k] (List.getElem_mem hk2) (e := et[k]) ((t8.get k hk2 hk3).keep B7) fun w8 e8 hb8 hot8 => ⟨_, _, _, _, _, _, _, _, _, rfl, ?_⟩
    have hs8 := hb8.size
    refine al fun g25 w9 hb9 b9 hge9 => ?_
    have hs9 := hb9.size
    have r9 : Rd LE5 w9 (some ⟨g25, 0, none⟩) 1 [e8] := by
      refine ⟨by simp, by simp [maxLen], fun h0 => (by cases h0), fun _ => ⟨g25, 0, rfl, fun j u hj => ?_⟩⟩
      rw [LE5.all_one] at hj
      rw [b9.cell]; simpa [LE5, E5.cells, slV] using hj
    have D9 : Below w7.heap.size w7 w9 := btr hb8 hb8.size hb9
    refine ap (L := LE5) (e := 45) (xs := es7) (ys := [e8]) (base := w6.heap.size) (v := .slice l lN lC) (.agg #[.int .i64 0, .string (ByteArray.mk #[]), .slice none 0 0, .string (ByteArray.mk #[]), .slice none 0 0]) 88 rfl (by kernel_rfl) (by kernel_rfl) (by kernel_rfl) (ol.keep D9) r9 (by omega) (by simp; omega) (by simp [maxLen]; omega) fun A' c' w10 o10 g10' => ⟨A', _, c', rfl, ?_⟩
    have F10 : Fm (fun b => rowOf (.slice l lN lC) = some b) w9 w10 := Fm.grown g10'.grown fun x hx => hx
    have hs10 := F10.size
    have hrow : ∀ b, rowOf (.slice A' (es7.length + [e8].length) c') = some b → rowOf (.slice l lN lC) = some b ∨ w9.heap.size ≤ b := fun b hb => by
      rcases g10'.row with e | e | ⟨g, e, hge⟩
      · left; rw [← e]; exact hb
      · rw [e] at hb; cases hb
      · right; rw [e] at hb; cases hb; exact hge
    refine ⟨inR_i64 (by omega) (by omega), ⟨k + 1, es7 ++ [e8], by simp, by omega, (B7.trans (D9.mono (by omega))).trans (F10.toBelow (by omega) fun b hb e => by have := (hlr b e).1; omega), by omega, F10.blk (b17.keep D9) (fun e => by have := (hlr _ e).1; omega), F10.blk (b27.keep D9) (fun e => by have := (hlr _ e).1; omega), own_fm (o7.keep D9) F10 (fun b hb e => by have := (hlr b e).1; have := (hatr b hb).2; omega), o10, ?_⟩, (by first | omega | (dsimp only; omega))⟩
    rw [List.take_succ_eq_append_getElem hk2]
    refine OTl.snoc (a := w7.heap.size) (b := w8.heap.size) ?_ (by omega) (by omega) (fun r hr h9 => ?_) (hi := w7.heap.size) ?_ (by omega) (Nat.le_refl _)
    · exact OTr.fm ((Fm.below (M := fun b => rowOf (.slice l lN lC) = some b) hb9).trans F10) _ _ _ _ (fun b h1 h2 e => by have := (hlr b e).2; omega) hot8
    · rcases hrow r hr with e | e
      · have := (hlr r e).2; omega
      · omega
    · refine OTl.other (OTl.fm ((Fm.below (M := fun b => rowOf (.slice l lN lC) = some b) D9).trans F10) _ _ _ _ _ (fun b _ _ h1 h2 => h1 h2) hot) fun r hr => ?_
      rcases hrow r hr with e | e
      · exact .inl e
      · right; omega
  · have hk2 : k = kids.length := by omega
    subst hk2
    rw [List.take_length] at hot
    refine st_blk b17 (by simp) fun w8 b18 f8 => ?_
    simp only [List.setIfInBounds_toArray, List.set_cons_zero, List.set_cons_succ] at b18
    simp only [Addr.add_mk, Nat.zero_add, b18.cell, List.getElem?_toArray, List.getElem?_cons_zero, List.getElem?_cons_succ, Addr.add_mk, List.getElem?_toArray, List.getElem?_cons_zero, List.getElem?_cons_succ, LdI_some, LdB_some, LdStr_some, LdP_some, LdSl_some, LdM_some, Nat.zero_add, Br_t, Br_f]
    simp only [slV, Addr.add_mk, List.getElem?_toArray, List.getElem?_cons_zero, List.getElem?_cons_succ, LdI_some, LdB_some, LdStr_some, LdP_some, LdSl_some, LdM_some, Nat.zero_add, Br_t, Br_f]
    have b28 := f8.blk b27 (fun e => by have e : g2 = g1 := e; omega)
    refine st_blk b28 (by simp) fun v1 p1 r1 => st_blk p1 (by simp) fun v2 p2 r2 => st_blk p2 (by simp) fun v3 p3 r3 => st_blk p3 (by simp) fun v4 p4 r4 => st_blk p4 (by simp) fun w9 p5 r5 => ?_
    simp only [List.setIfInBounds_toArray, List.set_cons_zero, List.set_cons_succ] at p5
    have F9 : Fm (· = g2) w8 w9 := (((r1.trans r2).trans r3).trans r4).trans r5
    simp only [Addr.add_mk, Nat.zero_add, p5.cell, List.getElem?_toArray, List.getElem?_cons_zero, List.getElem?_cons_succ, Addr.add_mk, List.getElem?_toArray, List.getElem?_cons_zero, List.getElem?_cons_succ, LdI_some, LdB_some, LdStr_some, LdP_some, LdSl_some, LdM_some, Nat.zero_add, Br_t, Br_f]
    have FF : Fm (fun b => b = g1 ∨ b = g2) w7 w9 := (f8.mono fun b _ e => .inl e).trans (F9.mono fun b _ e => .inr e)
    have hs9 := FF.size
    have hkl : lN = es7.length := by
      obtain ⟨A, c, hv, _⟩ := ol.form
      cases hv; rfl
    have := hK w9 ⟨e.kind, e.nm, av, e.text, (l, lN, lC)⟩ (B7.trans (FF.toBelow (by omega) fun b hb e => by rcases e with e | e <;> omega)) ?_
    · exact this
    · simp only [OTr]
      refine ⟨t1, t2, t3, y0, t5, (own_fm o7 FF fun b hb e => by have := (hatr b hb).1; rcases e with e | e <;> omega).rebase fun k _ => Nat.zero_le _, w6.heap.size, es7, by omega, by omega, fun b hb => ?_, (own_fm ol FF fun b hb e => by have := (hlr b hb).1; rcases e with e | e <;> omega).rebase fun k _ => Nat.zero_le _, fun b hb => ?_, ?_⟩
      · have := hatr b hb; omega
      · have := hlr b hb; omega
      · exact (OTl.fm FF _ _ _ _ _ (fun b h1 h2 h3 h4 => by rcases h4 with e | e <;> omega) hot).wide hs9
end Go.Proofs.YthbeeonmfbigcaaGreatDoor
/- How the law spoils a tree. -/
namespace Go.Proofs.YthbeeonmfbigcaaGreatDoor
open Go.RowKit Go.Vc
set_option linter.unusedVariables false
set_option linter.unusedSimpArgs false
set_option maxRecDepth 100000
theorem Own.st5 {w : World} {q : Nat} {v : Sv} {xs : List E5} {k : Nat} (e' : E5) (hO : Own LE5 w q 45 (slV v) xs) (hk : k < xs.length) {b : Nat} (hb : rowOf (slV v) = some b) {K : World → Prop}
    (hK : ∀ w1, Own LE5 w1 q 45 (slV v) (xs.set k e') → Fm (fun b => rowOf (slV v) = some b) w w1 → K w1) :
    St w ⟨b, k * LE5.n, none⟩ (.int .i64 e'.kind) fun w1 => St w1 ⟨b, k * LE5.n + 1, none⟩ (.string e'.nm) fun w2 => St w2 ⟨b, k * LE5.n + 2, none⟩ (.slice e'.ats.1 e'.ats.2.1 e'.ats.2.2) fun w3 => St w3 ⟨b, k * LE5.n + 3, none⟩ (.string e'.text) fun w4 =>
    St w4 ⟨b, k * LE5.n + 4, none⟩ (.slice e'.kids.1 e'.kids.2.1 e'.kids.2.2) K := by
  have h8 : LE5.n = 5 := rfl
  have hO0 : Own LE5 w q 45 (slV v) (xs.set k xs[k]) := by rw [List.set_getElem_self]; exact hO
  generalize xs[k] = a0 at hO0
  refine hO0.stc2 (j := 0) (a' := { a0 with kind := e'.kind }) hk (by decide) rfl hb fun w1 o1 f1 => ?_
  refine o1.stc2 (a' := { a0 with kind := e'.kind, nm := e'.nm }) hk (by decide) rfl hb fun w2 o2 f2 => ?_
  refine o2.stc2 (a' := { a0 with kind := e'.kind, nm := e'.nm, ats := e'.ats }) hk (by decide) rfl hb fun w3 o3 f3 => ?_
  refine o3.stc2 (a' := { a0 with kind := e'.kind, nm := e'.nm, ats := e'.ats, text := e'.text }) hk (by decide) rfl hb fun w4 o4 f4 => ?_
  refine o4.stc2 (a' := e') hk (by decide) rfl hb fun w5 o5 f5 => hK w5 o5 ?_
  exact (((f1.trans f2).trans f3).trans f4).trans f5
theorem spoil_calls : ∀ (x : Tr) {w : World} {e : E5} {lo hi : Nat} {R : Ending → World → Prop}, OTr w x e lo hi → hi ≤ w.heap.size → (∀ w', Fm (fun b => lo ≤ b ∧ b < hi) w w' → R (.returned (.tuple #[])) w') →
    Calls Tryz.prog 22 #[.agg #[.int .i64 e.kind, .string e.nm, slV e.ats, .string e.text, slV e.kids]] w R := by
  refine Tr.ind fun kind nm attrs text kids ih => ?_
  intro w e lo hi R hT hhi hK
  simp only [OTr] at hT
  obtain ⟨h1, h2, h3, h4, h5, h6, mid, es, h7, h8, h9, h10, h11, h12⟩ := hT
  have hel := h12.len
  refine ok22 e.kind e.nm e.ats.1 e.ats.2.1 e.ats.2.2 e.text e.kids.1 e.kids.2.1 e.kids.2.2 ?_
  unfold F22
  refine al fun g1 w1 hb1 b1 hge1 => ?_
  have hav : e.ats.2.1 = attrs.length := by
    obtain ⟨A, c, hv, _⟩ := h6.form
    rw [slv_form hv]
  have hkv : e.kids.2.1 = kids.length := by
    obtain ⟨A, c, hv, _⟩ := h10.form
    rw [slv_form hv]; exact hel
  have hs1 := hb1.size
  refine ⟨fun j w' => ∃ (k : Nat) (l : List At), j = k ∧ k ≤ attrs.length ∧ l.length = attrs.length ∧ Own LAt w' 0 96 (slV e.ats) l ∧ Fm (fun b => rowOf (slV e.ats) = some b) w1 w', fun j _ => attrs.length - j.toNat, ⟨0, attrs, rfl, Nat.zero_le _, rfl, h6.keep hb1, .refl _ _⟩, ?_⟩
  rintro j w2 ⟨k, l, rfl, hk, hl, o2, f2⟩
  unfold F22_l2
  have hn1 : rowOf (slV e.ats) ≠ some g1 := fun e9 => by have := h9 g1 e9; omega
  have b12 := f2.blk b1 hn1
  simp only [Addr.add_mk, Nat.zero_add, b12.cell, List.getElem?_toArray, List.getElem?_cons_zero, List.getElem?_cons_succ, Addr.add_mk, List.getElem?_toArray, List.getElem?_cons_zero, List.getElem?_cons_succ, LdI_some, LdB_some, LdStr_some, LdP_some, LdSl_some, LdM_some, Nat.zero_add, Br_t, Br_f]
  refine brd (fun hlt => ?_) (fun hge => ?_)
  · have hk2 : k < l.length := by omega
    refine o2.elA rfl hk2 (show 2 = LAt.n from rfl) fun b hb => ?_
    simp only [Addr.add_mk]
    refine o2.stc (j := 0) (x' := ⟨ByteArray.mk #[115, 112, 111, 105, 108, 116], l[k].val⟩) hk2 (by decide) rfl hb fun w3 o3 f3 => ?_
    refine o3.stc2 (a' := ⟨ByteArray.mk #[115, 112, 111, 105, 108, 116], ByteArray.mk #[]⟩) hk2 (by decide) rfl hb fun w4 o4 f4 => ?_
    exact ⟨inR_i64 (by omega) (by omega), ⟨k + 1, _, by simp, by omega, by simpa using hl, o4, (f2.trans f3).trans f4⟩, (by first | omega | (dsimp only; omega))⟩
  · have hfa : Fm (fun b => lo ≤ b ∧ b < hi) w w2 := (Fm.below hb1).trans (f2.mono fun b _ hb => by have := h9 b hb; omega)
    have f02 : Fm (fun b => rowOf (slV e.ats) = some b) w w2 := (Fm.below hb1).trans f2
    have okid : Own LE5 w2 0 45 (slV e.kids) es := own_fm h10 f02 fun b hb e9 => by have := h9 b e9; have := h11 b hb; omega
    have otl : OTl w2 kids es mid hi (rowOf (slV e.kids)) := OTl.fm f02 _ _ _ _ _ (fun b g1 g2 _ e9 => by have := h9 b e9; omega) h12
    refine ⟨fun j w' => ∃ (m lo' : Nat) (ex : List E5), j = m ∧ m ≤ kids.length ∧ mid ≤ lo' ∧ ex.length = es.length ∧ (∀ i, m ≤ i → ex[i]? = es[i]?) ∧ Own LE5 w' 0 45 (slV e.kids) ex ∧ OTl w' (kids.drop m) (es.drop m) lo' hi (rowOf (slV e.kids)) ∧ Fm (fun b => lo ≤ b ∧ b < hi) w w' ∧ Blk w' g1 #[.int .i64 e.kind, .string e.nm, slV e.ats, .string e.text, slV e.kids] 45,
      fun j _ => kids.length - j.toNat, ⟨0, mid, es, rfl, Nat.zero_le _, Nat.le_refl _, rfl, fun _ _ => rfl, okid, by simpa using otl, hfa, b12⟩, ?_⟩
    rintro j w5 ⟨m, lo', ex, rfl, hm, hlo, hexl, hexg, o5, ot5, f5, b15⟩
    unfold F22_l6
    simp only [Addr.add_mk, Nat.zero_add, b15.cell, List.getElem?_toArray, List.getElem?_cons_zero, List.getElem?_cons_succ, Addr.add_mk, List.getElem?_toArray, List.getElem?_cons_zero, List.getElem?_cons_succ, LdI_some, LdB_some, LdStr_some, LdP_some, LdSl_some, LdM_some, Nat.zero_add, Br_t, Br_f]
    simp only [slV, Addr.add_mk, List.getElem?_toArray, List.getElem?_cons_zero, List.getElem?_cons_succ, LdI_some, LdB_some, LdStr_some, LdP_some, LdSl_some, LdM_some, Nat.zero_add, Br_t, Br_f]
    refine brd (fun hlt2 => ?_) (fun hge2 => hK w5 f5)
    have hm2 : m < kids.length := by omega
    have hm3 : m < es.length := by omega
    have hm4 : m < ex.length := by omega
    rw [List.drop_eq_getElem_cons hm2, List.drop_eq_getElem_cons hm3] at ot5
    simp only [OTl] at ot5
    obtain ⟨e9, es9, a, b, heq, p1, p2, p3, p4, p5, p6⟩ := ot5
    obtain ⟨q1, q2⟩ := List.cons.inj heq
    subst q1 q2
    have hem : ex[m] = es[m] := by
      have := hexg m (Nat.le_refl _)
      rw [List.getElem?_eq_getElem hm4, List.getElem?_eq_getElem hm3] at this
      exact Option.some.inj this
    obtain ⟨A, c, hv, hrd⟩ := o5.form
    have e1 : e.kids.1 = A := by rw [slv_form hv]
    have e2 : e.kids.2.1 = ex.length := by rw [slv_form hv]
    rw [← e1] at hrd
    refine hrd.e5 e2 rfl hm4 fun bb oo c0 c1 c2 c3 c4 => ?_
    rw [hem] at c0 c1 c2 c3 c4
    simp only [Addr.add_mk, Nat.zero_add, c0, c1, c2, c3, c4, Addr.add_mk, List.getElem?_toArray, List.getElem?_cons_zero, List.getElem?_cons_succ, LdI_some, LdB_some, LdStr_some, LdP_some, LdSl_some, LdM_some, Nat.zero_add, Br_t, Br_f]
    have hs5 := f5.size
    refine ih kids[m] (List.getElem_mem hm2) (e := es[m]) p5 (by omega) fun w6 f6 => ⟨rfl, ?_⟩
    have o6 : Own LE5 w6 0 45 (slV e.kids) ex := own_fm o5 f6 fun r hr h9 => p4 r hr h9
    have ot6 : OTl w6 (kids.drop (m + 1)) (es.drop (m + 1)) b hi (rowOf (slV e.kids)) := OTl.fm f6 _ _ _ _ _ (fun r h1 h2 _ h9 => by omega) p6
    have b16 := f6.blk b15 (fun h9 => by omega)
    have f06 : Fm (fun b => lo ≤ b ∧ b < hi) w w6 := f5.trans (f6.mono fun r _ h9 => by omega)
    simp only [Addr.add_mk, Nat.zero_add, b16.cell, List.getElem?_toArray, List.getElem?_cons_zero, List.getElem?_cons_succ, Addr.add_mk, List.getElem?_toArray, List.getElem?_cons_zero, List.getElem?_cons_succ, LdI_some, LdB_some, LdStr_some, LdP_some, LdSl_some, LdM_some, Nat.zero_add, Br_t, Br_f]
    simp only [slV, Addr.add_mk, List.getElem?_toArray, List.getElem?_cons_zero, List.getElem?_cons_succ, LdI_some, LdB_some, LdStr_some, LdP_some, LdSl_some, LdM_some, Nat.zero_add, Br_t, Br_f]
    refine o6.elA rfl hm4 (show 5 = LE5.n from rfl) fun bw hbw => ?_
    simp only [Addr.add_mk]
    refine o6.st5 ⟨99, ByteArray.mk #[], (none, 0, 0), ByteArray.mk #[], (none, 0, 0)⟩ hm4 hbw fun w7 o7 f7 => ?_
    refine ⟨inR_i64 (by omega) (by omega), ⟨m + 1, b, _, by simp, by omega, by omega, by simpa using hexl, fun i hi => ?_, o7, OTl.fm f7 _ _ _ _ _ (fun r _ _ h1 h2 => h1 h2) ot6, f06.trans (f7.mono fun r _ h9 => by have := h11 r h9; omega), f7.blk b16 (fun h9 => by have := h11 _ h9; omega)⟩, (by first | omega | (dsimp only; omega))⟩
    rw [List.getElem?_set_ne (by omega)]
    exact hexg i (by omega)
end Go.Proofs.YthbeeonmfbigcaaGreatDoor
/- The law's acts: which are meant; what they come to. -/
namespace Go.Proofs.YthbeeonmfbigcaaGreatDoor
open Go.RowKit Go.Vc
set_option linter.unusedVariables false
set_option linter.unusedSimpArgs false
set_option maxRecDepth 100000
theorem set_ok {s : Sl} (h : okSl s) {s' : Sl} (hk : s'.kind = s.kind) (hkids : s'.kids = s.kids) (h1 : s.kind = 1 → isName s'.nm = true ∧ attrF s'.attrs = 0 ∧ s'.text = s.text) (h2 : s.kind = 2 → (textS s'.text).2 = 0 ∧ s'.nm = s.nm ∧ s'.attrs = s.attrs) : okSl s' := by
  obtain ⟨a, b⟩ := h
  unfold okSl ownF
  rw [hk, hkids]
  rcases b with b | b
  · obtain ⟨c1, c2, c3⟩ := h1 b.1
    refine ⟨by rw [if_pos b.1, if_pos c1]; exact c2, .inl ⟨b.1, by rw [c3]; exact b.2⟩⟩
  · obtain ⟨c1, c2, c3⟩ := h2 b.1
    refine ⟨by rw [if_neg (by omega), if_pos b.1, c1]; rfl, .inr ⟨b.1, by rw [c2]; exact b.2.1, by rw [c3]; exact b.2.2.1, b.2.2.2⟩⟩
theorem ok_own1 {s : Sl} (h : okSl s) (hk : s.kind = 1) : isName s.nm = true ∧ attrF s.attrs = 0 := by
  obtain ⟨a, b⟩ := h
  unfold ownF at a
  rw [if_pos hk] at a
  by_cases hn : isName s.nm = true
  · rw [if_pos hn] at a; exact ⟨hn, a⟩
  · rw [if_neg hn] at a; cases a
section
variable {D : Im}
theorem setName_wf (hw : Wf D) (n : Nat) (nm : ByteArray) : Wf (setNameF D n nm).1 := by
  unfold setNameF
  by_cases h1 : chgF D n 1 ≠ 0
  · rw [if_pos h1]; exact hw
  rw [if_neg h1]
  obtain ⟨s, hs, hk⟩ := chg_some (by simpa using h1)
  by_cases h2 : isName nm = true
  · rw [if_pos h2]
    have ho := hw.a.ok n s hs
    exact node_wf hw hs rfl rfl rfl rfl rfl (set_ok ho rfl rfl (fun _ => ⟨h2, (ok_own1 ho hk).2, rfl⟩) fun e => by omega)
  · rw [if_neg h2]; exact hw
theorem setText_wf (hw : Wf D) (n : Nat) (t : ByteArray) : Wf (setTextF D n t).1 := by
  unfold setTextF
  by_cases h1 : chgF D n 2 ≠ 0
  · rw [if_pos h1]; exact hw
  rw [if_neg h1]
  obtain ⟨s, hs, hk⟩ := chg_some (by simpa using h1)
  by_cases h2 : (textS t).2 = 0
  · rw [if_pos h2]
    have ho := hw.a.ok n s hs
    exact node_wf hw hs rfl rfl rfl rfl rfl (set_ok ho rfl rfl (fun e => by omega) fun _ => ⟨h2, rfl, rfl⟩)
  · rw [if_neg h2]; exact hw
theorem setAttr_wf (hw : Wf D) (n : Nat) (nm v : ByteArray) : Wf (setAttrF D n nm v).1 := by
  unfold setAttrF
  by_cases h1 : chgF D n 1 ≠ 0
  · rw [if_pos h1]; exact hw
  rw [if_neg h1]
  obtain ⟨s, hs, hk⟩ := chg_some (by simpa using h1)
  by_cases h2 : isName nm ≠ true
  · rw [if_pos h2]; exact hw
  rw [if_neg h2]
  by_cases h3 : (textS v).2 ≠ 0
  · rw [if_pos h3]; exact hw
  rw [if_neg h3]
  by_cases h4 : thereA (atsI D n) nm = false ∧ 32 ≤ (atsI D n).length
  · rw [if_pos h4]; exact hw
  rw [if_neg h4]
  rw [ats_some hs] at h4
  have ho := hw.a.ok n s hs
  obtain ⟨a1, a2⟩ := okS_ats ho hk
  have h2 : isName nm = true := by simpa using h2
  have h3 : (textS v).2 = 0 := by simpa using h3
  have hlen : (setA' s.attrs nm v).length ≤ 32 := by
    have hp := posA_le s.attrs nm
    unfold setA'
    split
    · simpa using a1
    · rename_i ht
      have ht : thereA s.attrs nm = false := by simpa using ht
      have : ¬ 32 ≤ s.attrs.length := fun h => h4 ⟨ht, h⟩
      simp; omega
  exact node_wf hw hs rfl rfl rfl rfl rfl (set_ok ho rfl rfl (fun _ => ⟨(ok_own1 ho hk).1, (attrF_ok _).2 ⟨hlen, okA_set a2 h2 h3⟩, rfl⟩) fun e => by omega)
theorem dropAttr_wf (hw : Wf D) (n : Nat) (nm : ByteArray) : Wf (dropAttrF D n nm).1 := by
  unfold dropAttrF
  by_cases h1 : chgF D n 1 ≠ 0
  · rw [if_pos h1]; exact hw
  rw [if_neg h1]
  obtain ⟨s, hs, hk⟩ := chg_some (by simpa using h1)
  by_cases h2 : thereA (atsI D n) nm = true
  · rw [if_pos h2]
    have ho := hw.a.ok n s hs
    obtain ⟨a1, a2⟩ := okS_ats ho hk
    exact node_wf hw hs rfl rfl rfl rfl rfl (set_ok ho rfl rfl (fun _ => ⟨(ok_own1 ho hk).1, (attrF_ok _).2 ⟨by simp; omega, okA_drop a2 _⟩, rfl⟩) fun e => by omega)
  · rw [if_neg h2]; exact hw
end
structure Ac where
  kind : Int
  wh : Int
  how : Bool
  n : Nat
  at_ : Nat
  nm : ByteArray
  val : ByteArray
  x : Tr
def meantF (D : Im) (a : Ac) : Ac :=
  if a.how = false then a else
  if (allI D 0).length = 0 then { a with how := false, at_ := 0 } else
  { a with how := false, n := (allI D 0).getD (a.n % (allI D 0).length) 0, at_ := if a.at_ % ((allI D 0).length + 1) = (allI D 0).length then 0 else (allI D 0).getD (a.at_ % ((allI D 0).length + 1)) 0 }
def actF (D : Im) (a : Ac) : Im :=
  if a.kind = 0 then (insF D a.wh a.at_ a.x).1 else if a.kind = 1 then (movF D a.n a.wh a.at_).1 else if a.kind = 2 then (delF D a.n).1 else if a.kind = 3 then (setNameF D a.n a.nm).1 else
  if a.kind = 4 then (setTextF D a.n a.val).1 else if a.kind = 5 then (setAttrF D a.n a.nm a.val).1 else if a.kind = 6 then (dropAttrF D a.n a.nm).1 else D
def doF (D : Im) (a : Ac) : Im := actF D (meantF D a)
theorem act_wf {D : Im} (hw : Wf D) (a : Ac) : Wf (actF D a) := by
  unfold actF
  split
  · exact ins_wf hw _ _ _
  split
  · exact mov_wf hw _ _ _
  split
  · exact del_wf hw _
  split
  · exact setName_wf hw _ _
  split
  · exact setText_wf hw _ _
  split
  · exact setAttr_wf hw _ _ _
  split
  · exact dropAttr_wf hw _ _
  · exact hw
theorem do_wf {D : Im} (hw : Wf D) (a : Ac) : Wf (doF D a) := act_wf hw _
structure AcOk (a : Ac) : Prop where
  n : a.n < 18446744073709551616
  at_ : a.at_ < 18446744073709551616
theorem allI_live {D : Im} (hw : Wf D) {x : Nat} (hx : x ∈ allI D 0) : ∃ s, slA D.sl x = some s := by
  unfold allI at hx
  rw [if_pos rfl, List.mem_flatMap] at hx
  obtain ⟨y, hy, hx⟩ := hx
  obtain ⟨_, t, t1, t2⟩ := hw.a.root.2 y hy
  exact all_live hw.a ⟨t, t1⟩ (fun z hz => by simp at hz) hx
section
variable {w w1 : World} {g : Nat} {D : Im} {vs vr : Sv} {es : List S8} {R : Ending → World → Prop}
theorem allI_lt (h : RW [] w g D vs vr es) (hw : Wf D) {x : Nat} (hx : x ∈ allI D 0) : x < 18446744073709551616 := by
  obtain ⟨s, hs⟩ := allI_live hw hx
  exact hnd_lt h.ok h.few hs
theorem getD_lt (h : RW [] w g D vs vr es) (hw : Wf D) (i : Nat) : (allI D 0).getD i 0 < 18446744073709551616 := by
  rw [List.getD_eq_getElem?_getD]
  cases hi : (allI D 0)[i]? with
  | none => show 0 < _; omega
  | some x => exact allI_lt h hw (List.mem_of_getElem? hi)
theorem meant_ok (h : RW [] w g D vs vr es) (hw : Wf D) {a : Ac} (ha : AcOk a) : AcOk (meantF D a) := by
  unfold meantF
  split
  · exact ha
  split
  · exact ⟨ha.n, show 0 < 18446744073709551616 by decide⟩
  · refine ⟨getD_lt h hw _, ?_⟩
    dsimp only
    split
    · show 0 < _; omega
    · exact getD_lt h hw _
theorem meant_x (a : Ac) : (meantF D a).x = a.x ∧ (meantF D a).kind = a.kind ∧ (meantF D a).wh = a.wh ∧ (meantF D a).nm = a.nm ∧ (meantF D a).val = a.val := by
  unfold meantF
  split
  · exact ⟨rfl, rfl, rfl, rfl, rfl⟩
  split
  · exact ⟨rfl, rfl, rfl, rfl, rfl⟩
  · exact ⟨rfl, rfl, rfl, rfl, rfl⟩
def acV (a : Ac) (e : E5) : Value := .agg #[.int .i64 a.kind, .int .i64 a.wh, .bool a.how, .int .u64 (a.n : Nat), .int .u64 (a.at_ : Nat), .string a.nm, .string a.val, .int .i64 e.kind, .string e.nm, slV e.ats, .string e.text, slV e.kids]
theorem meant_calls (h : RW [] w g D vs vr es) (hw : Wf D) {a : Ac} (e : E5) (ha : AcOk a) (hK : ∀ w', Below w.heap.size w w' → R (.returned (acV (meantF D a) e)) w') :
    Calls Tryz.prog 19 #[.pointer (some ⟨g, 0, none⟩), acV a e] w R := by
  refine ok19 (some ⟨g, 0, none⟩) a.kind a.wh a.how (a.n : Nat) (a.at_ : Nat) a.nm a.val e.kind e.nm e.ats.1 e.ats.2.1 e.ats.2.2 e.text e.kids.1 e.kids.2.1 e.kids.2.2 ?_
  unfold F19
  refine al fun ga w1 hb1 b1 hge1 => al fun g4 w2 hb2 b2 hge2 => ?_
  have B2 := btr hb1 hb1.size hb2
  have hs1 := hb1.size
  have hs2 := hb2.size
  refine AllW (n := 0) (h.keep B2) hw (by omega) fun v w3 hb3 hv _ => ⟨_, _, _, _, rfl, ?_⟩
  have hv := hv (.inl rfl)
  have B3 := btr B2 B2.size hb3
  have b13 := (b1.keep hb2).keep hb3
  have b23 := b2.keep hb3
  have hne : ga ≠ g4 := by have := b1.lt; omega
  have hga := b1.lt
  have fin : ∀ (w' : World) (a' : Ac), Fm (· = ga) w3 w' → Blk w' ga #[.int .i64 a'.kind, .int .i64 a'.wh, .bool a'.how, .int .u64 (a'.n : Nat), .int .u64 (a'.at_ : Nat), .string a'.nm, .string a'.val, .int .i64 e.kind, .string e.nm, .slice e.ats.1 e.ats.2.1 e.ats.2.2, .string e.text, .slice e.kids.1 e.kids.2.1 e.kids.2.2] 47 → a' = meantF D a → F19_j12 ⟨ga, 0, none⟩ ⟨g4, 0, none⟩ w' R := by
    intro w' a' hf hb ha'
    unfold F19_j12
    have b24 := hf.blk b23 (fun e => hne e.symm)
    simp only [Addr.add_mk, Nat.zero_add, hb.cell, List.getElem?_toArray, List.getElem?_cons_zero, List.getElem?_cons_succ, Addr.add_mk, List.getElem?_toArray, List.getElem?_cons_zero, List.getElem?_cons_succ, LdI_some, LdB_some, LdStr_some, LdP_some, LdSl_some, LdM_some, Nat.zero_add, Br_t, Br_f]
    refine st_blk b24 (by simp) fun u1 q1 f1 => st_blk q1 (by simp) fun u2 q2 f2 => st_blk q2 (by simp) fun u3 q3 f3 => st_blk q3 (by simp) fun u4 q4 f4 => st_blk q4 (by simp) fun u5 q5 f5 => st_blk q5 (by simp) fun u6 q6 f6 => st_blk q6 (by simp) fun u7 q7 f7 => st_blk q7 (by simp) fun u8 q8 f8 => st_blk q8 (by simp) fun u9 q9 f9 => st_blk q9 (by simp) fun u10 q10 f10 => st_blk q10 (by simp) fun u11 q11 f11 => st_blk q11 (by simp) fun u12 q12 f12 => ?_
    simp only [List.setIfInBounds_toArray, List.set_cons_zero, List.set_cons_succ] at q12
    have F12 : Fm (· = g4) w' u12 := ((((((((((f1.trans f2).trans f3).trans f4).trans f5).trans f6).trans f7).trans f8).trans f9).trans f10).trans f11).trans f12
    simp only [Addr.add_mk, Nat.zero_add, q12.cell, List.getElem?_toArray, List.getElem?_cons_zero, List.getElem?_cons_succ, Addr.add_mk, List.getElem?_toArray, List.getElem?_cons_zero, List.getElem?_cons_succ, LdI_some, LdB_some, LdStr_some, LdP_some, LdSl_some, LdM_some, Nat.zero_add, Br_t, Br_f]
    have FF : Fm (fun b => b = ga ∨ b = g4) w3 u12 := (hf.mono fun b _ e => .inl e).trans (F12.mono fun b _ e => .inr e)
    have := hK u12 (B3.trans (FF.toBelow B3.size fun b hb e => by rcases e with e | e <;> omega))
    rw [← ha'] at this
    exact this
  simp only [Addr.add_mk, Nat.zero_add, b13.cell, List.getElem?_toArray, List.getElem?_cons_zero, List.getElem?_cons_succ, Addr.add_mk, List.getElem?_toArray, List.getElem?_cons_zero, List.getElem?_cons_succ, LdI_some, LdB_some, LdStr_some, LdP_some, LdSl_some, LdM_some, Nat.zero_add, Br_t, Br_f]
  rw [brnot]
  refine br (fun hh => ?_) (fun hh => ?_)
  rotate_left
  · have := fin w3 a (.refl _ _) b13 (by unfold meantF; rw [if_pos hh])
    unfold F19_j12 at this
    simp only [Addr.add_mk, Nat.zero_add, b13.cell, List.getElem?_toArray, List.getElem?_cons_zero, List.getElem?_cons_succ, Addr.add_mk, List.getElem?_toArray, List.getElem?_cons_zero, List.getElem?_cons_succ, LdI_some, LdB_some, LdStr_some, LdP_some, LdSl_some, LdM_some, Nat.zero_add, Br_t, Br_f] at this
    exact this
  refine st_blk b13 (by simp) fun w4 b14 f4 => ?_
  simp only [List.setIfInBounds_toArray, List.set_cons_zero, List.set_cons_succ] at b14
  have hlen := allI_len hw 0 (.inl rfl)
  have hv1 : v.2.1 = (allI D 0).length := by
    obtain ⟨A, c, hv', _⟩ := hv.form
    rw [slv_form hv']
  have hmeant : meantF D a = if (allI D 0).length = 0 then { a with how := false, at_ := 0 } else
      { a with how := false, n := (allI D 0).getD (a.n % (allI D 0).length) 0, at_ := if a.at_ % ((allI D 0).length + 1) = (allI D 0).length then 0 else (allI D 0).getD (a.at_ % ((allI D 0).length + 1)) 0 } := by
    unfold meantF; rw [if_neg (by rw [hh]; decide)]
  rw [hmeant] at fin
  have hv4 : Own LHn w4 w2.heap.size 41 (slV v) (allI D 0) := own_fm hv f4 fun b hb e => by have e : b = ga := e; have := (hv.lt b hb).1; omega
  generalize allI D 0 = L at *
  refine ⟨fun w' => ∃ a', Fm (· = ga) w3 w' ∧ Blk w' ga #[.int .i64 a'.kind, .int .i64 a'.wh, .bool a'.how, .int .u64 (a'.n : Nat), .int .u64 (a'.at_ : Nat), .string a'.nm, .string a'.val, .int .i64 e.kind, .string e.nm, .slice e.ats.1 e.ats.2.1 e.ats.2.2, .string e.text, .slice e.kids.1 e.kids.2.1 e.kids.2.2] 47 ∧ a' = if L.length = 0 then { a with how := false, at_ := 0 } else
      { a with how := false, n := L.getD (a.n % L.length) 0, at_ := if a.at_ % (L.length + 1) = L.length then 0 else L.getD (a.at_ % (L.length + 1)) 0 }, fun w' ⟨a', z1, z2, z3⟩ => fin w' a' z1 z2 z3, ?_⟩
  refine ⟨inR_u64 (by omega) (by omega), ?_⟩
  refine brd (fun hpos => ?_) (fun hz => ?_)
  rotate_left
  · rw [if_pos (by omega)]
    refine st_blk b14 (by simp) fun w5 b15 f5 => ?_
    simp only [List.setIfInBounds_toArray, List.set_cons_zero, List.set_cons_succ] at b15
    exact ⟨{ a with how := false, at_ := 0 }, f4.trans f5, b15, rfl⟩
  rw [if_neg (by omega)]
  simp only [Addr.add_mk, Nat.zero_add, b14.cell, List.getElem?_toArray, List.getElem?_cons_zero, List.getElem?_cons_succ, Addr.add_mk, List.getElem?_toArray, List.getElem?_cons_zero, List.getElem?_cons_succ, LdI_some, LdB_some, LdStr_some, LdP_some, LdSl_some, LdM_some, Nat.zero_add, Br_t, Br_f]
  have hpos' : 0 < L.length := by omega
  rw [hv1]
  have hm1 : ((a.n : Nat) : Int).tmod ((L.length : Nat) : Int) = ((a.n % L.length : Nat) : Int) := by rw [Int.tmod_eq_emod_of_nonneg (by omega)]; rfl
  rw [hm1]
  have hi1 : a.n % L.length < L.length := Nat.mod_lt _ hpos'
  obtain ⟨A, c, hvf, hrd⟩ := hv4.form
  have e1 : v.1 = A := by rw [slv_form hvf]
  rw [← e1] at hrd
  refine ⟨by omega, hrd.hn rfl rfl hi1 fun bb oo cc => ?_⟩
  simp only [cc, Addr.add_mk, List.getElem?_toArray, List.getElem?_cons_zero, List.getElem?_cons_succ, LdI_some, LdB_some, LdStr_some, LdP_some, LdSl_some, LdM_some, Nat.zero_add, Br_t, Br_f]
  refine st_blk b14 (by simp) fun w5 b15 f5 => ?_
  simp only [List.setIfInBounds_toArray, List.set_cons_zero, List.set_cons_succ] at b15
  simp only [Addr.add_mk, Nat.zero_add, b15.cell, List.getElem?_toArray, List.getElem?_cons_zero, List.getElem?_cons_succ, Addr.add_mk, List.getElem?_toArray, List.getElem?_cons_zero, List.getElem?_cons_succ, LdI_some, LdB_some, LdStr_some, LdP_some, LdSl_some, LdM_some, Nat.zero_add, Br_t, Br_f]
  have hv5 : Own LHn w5 w2.heap.size 41 (slV v) L := own_fm hv4 f5 fun b hb e => by have e : b = ga := e; have := (hv.lt b hb).1; omega
  have eN : ((L.length : Nat) : Int) + 1 = ((L.length + 1 : Nat) : Int) := by omega
  rw [eN]
  have hm2 : ((a.at_ : Nat) : Int).tmod ((L.length + 1 : Nat) : Int) = ((a.at_ % (L.length + 1) : Nat) : Int) := by rw [Int.tmod_eq_emod_of_nonneg (by omega)]; rfl
  rw [hm2]
  have hi2 : a.at_ % (L.length + 1) < L.length + 1 := Nat.mod_lt _ (by omega)
  have hg1 : L.getD (a.n % L.length) 0 = L[a.n % L.length] := by rw [List.getD_eq_getElem?_getD, List.getElem?_eq_getElem hi1]; rfl
  refine ⟨inR_u64 (by omega) (by omega), by omega, ?_⟩
  refine bre (fun heq => ?_) (fun hne2 => ?_)
  · refine st_blk b15 (by simp) fun w6 b16 f6 => ?_
    simp only [List.setIfInBounds_toArray, List.set_cons_zero, List.set_cons_succ] at b16
    refine ⟨_, (f4.trans f5).trans f6, ?_, rfl⟩
    dsimp only
    rw [hg1, if_pos (by omega)]
    exact b16
  · obtain ⟨A', c', hvf', hrd'⟩ := hv5.form
    have e1' : v.1 = A' := by rw [slv_form hvf']
    rw [← e1'] at hrd'
    have hi3 : a.at_ % (L.length + 1) < L.length := by omega
    refine ⟨inR_u64 (by omega) (by omega), by omega, hrd'.hn rfl rfl hi3 fun bb oo cc => ?_⟩
    simp only [cc, Addr.add_mk, List.getElem?_toArray, List.getElem?_cons_zero, List.getElem?_cons_succ, LdI_some, LdB_some, LdStr_some, LdP_some, LdSl_some, LdM_some, Nat.zero_add, Br_t, Br_f]
    refine st_blk b15 (by simp) fun w6 b16 f6 => ?_
    simp only [List.setIfInBounds_toArray, List.set_cons_zero, List.set_cons_succ] at b16
    have hg2 : L.getD (a.at_ % (L.length + 1)) 0 = L[a.at_ % (L.length + 1)] := by rw [List.getD_eq_getElem?_getD, List.getElem?_eq_getElem hi3]; rfl
    refine ⟨_, (f4.trans f5).trans f6, ?_, rfl⟩
    dsimp only
    rw [hg1, if_neg (by omega), hg2]
    exact b16
end
end Go.Proofs.YthbeeonmfbigcaaGreatDoor
/- The law's runner: an act by the program and by the reference. -/
namespace Go.Proofs.YthbeeonmfbigcaaGreatDoor
open Go.RowKit Go.Vc
set_option linter.unusedVariables false
set_option linter.unusedSimpArgs false
set_option maxRecDepth 100000
def okc (o : Nat → Nat) (b : Nat) : Bool := Nat.beq (o b) 0
theorem okc_iff {o : Nat → Nat} {b : Nat} : okc o b = true ↔ o b = 0 := ⟨fun h => Nat.eq_of_beq_eq_true h, fun h => by unfold okc; rw [h]; rfl⟩
theorem vw_iff {ok : Nat → Bool} {g b : Nat} : (ok b && !(Nat.beq b g)) = true ↔ ok b = true ∧ b ≠ g := by
  rw [Bool.and_eq_true]
  constructor
  · rintro ⟨h1, h2⟩
    refine ⟨h1, fun e => ?_⟩
    subst e
    rw [show Nat.beq b b = true from Nat.beq_refl b] at h2; cases h2
  · rintro ⟨h1, h2⟩
    refine ⟨h1, ?_⟩
    cases h : Nat.beq b g with
    | false => rfl
    | true => exact absurd (Nat.eq_of_beq_eq_true h) h2
structure EvA (w : World) (o : Nat → Nat) (w1 : World) (o1 : Nat → Nat) : Prop where
  fm : Fm (fun b => o b ≠ 0) w w1
  old : ∀ b, b < w.heap.size → o b = 0 → o1 b = 0
structure Edr (p : Value) (P : Nat → World → (Nat → Nat) → Im → Prop) : Prop where
  up : ∀ {k w o D}, P k w o D → P (k + 1) w o D
  lt : ∀ {k w o D}, P k w o D → ∀ b, o b ≠ 0 → b < w.heap.size
  keep : ∀ {k : Nat} {w w1 : World} {o : Nat → Nat} {D : Im} {M : Nat → Prop}, P k w o D → Fm M w w1 → (∀ b, b < w.heap.size → M b → o b = 0) → P k w1 o D
  ins : ∀ {k : Nat} {w : World} {o : Nat → Nat} {D : Im} {x : Tr} {e : E5} {wh : Int} {a : Nat} {R : Ending → World → Prop} {K : Value → World → Prop}, P k w o D → k < 1099511627776 → Wf D → Tabs (wc o w) → RTr (wc o w) x e → a < 18446744073709551616 →
    (∀ w' o', P (k + 1) w' o' (insF D wh a x).1 → EvA w o w' o' → K (.tuple #[.int .u64 ((insF D wh a x).2.1 : Nat), .int .i64 (insF D wh a x).2.2]) w') → CallM Tryz.prog p "Insert" #[.int .i64 wh, .int .u64 (a : Nat), .agg #[.int .i64 e.kind, .string e.nm, slV e.ats, .string e.text, slV e.kids]] w R K
  mov : ∀ {k : Nat} {w : World} {o : Nat → Nat} {D : Im} {n a : Nat} {wh : Int} {R : Ending → World → Prop} {K : Value → World → Prop}, P k w o D → k < 1099511627776 → Wf D → n < 18446744073709551616 → a < 18446744073709551616 →
    (∀ w' o', P (k + 1) w' o' (movF D n wh a).1 → EvA w o w' o' → K (.int .i64 (movF D n wh a).2) w') → CallM Tryz.prog p "Move" #[.int .u64 (n : Nat), .int .i64 wh, .int .u64 (a : Nat)] w R K
  del : ∀ {k : Nat} {w : World} {o : Nat → Nat} {D : Im} {n : Nat} {R : Ending → World → Prop} {K : Value → World → Prop}, P k w o D → k < 1099511627776 → Wf D → n < 18446744073709551616 →
    (∀ w' o', P (k + 1) w' o' (delF D n).1 → EvA w o w' o' → K (.int .i64 (delF D n).2) w') → CallM Tryz.prog p "Delete" #[.int .u64 (n : Nat)] w R K
  name : ∀ {k : Nat} {w : World} {o : Nat → Nat} {D : Im} {n : Nat} {s : ByteArray} {R : Ending → World → Prop} {K : Value → World → Prop}, P k w o D → k < 1099511627776 → Wf D → Tabs (wc o w) → n < 18446744073709551616 →
    (∀ w' o', P (k + 1) w' o' (setNameF D n s).1 → EvA w o w' o' → K (.int .i64 (setNameF D n s).2) w') → CallM Tryz.prog p "SetName" #[.int .u64 (n : Nat), .string s] w R K
  text : ∀ {k : Nat} {w : World} {o : Nat → Nat} {D : Im} {n : Nat} {s : ByteArray} {R : Ending → World → Prop} {K : Value → World → Prop}, P k w o D → k < 1099511627776 → Wf D → Tabs (wc o w) → n < 18446744073709551616 →
    (∀ w' o', P (k + 1) w' o' (setTextF D n s).1 → EvA w o w' o' → K (.int .i64 (setTextF D n s).2) w') → CallM Tryz.prog p "SetText" #[.int .u64 (n : Nat), .string s] w R K
  attr : ∀ {k : Nat} {w : World} {o : Nat → Nat} {D : Im} {n : Nat} {s t : ByteArray} {R : Ending → World → Prop} {K : Value → World → Prop}, P k w o D → k < 1099511627776 → Wf D → Tabs (wc o w) → n < 18446744073709551616 →
    (∀ w' o', P (k + 1) w' o' (setAttrF D n s t).1 → EvA w o w' o' → K (.int .i64 (setAttrF D n s t).2) w') → CallM Tryz.prog p "SetAttr" #[.int .u64 (n : Nat), .string s, .string t] w R K
  drop : ∀ {k : Nat} {w : World} {o : Nat → Nat} {D : Im} {n : Nat} {s : ByteArray} {R : Ending → World → Prop} {K : Value → World → Prop}, P k w o D → k < 1099511627776 → Wf D → n < 18446744073709551616 →
    (∀ w' o', P (k + 1) w' o' (dropAttrF D n s).1 → EvA w o w' o' → K (.int .i64 (dropAttrF D n s).2) w') → CallM Tryz.prog p "DropAttr" #[.int .u64 (n : Nat), .string s] w R K
theorem RM.fm2 {ok ok2 : Nat → Bool} {w w1 : World} {g : Nat} {D : Im} {vs vr : Sv} {M : Nat → Prop} (h : RM ok w g D vs vr) (hf : Fm M w w1) (hm : ∀ b, b < w.heap.size → M b → ok b = false ∧ b ≠ g) (hk : ∀ b, b < w.heap.size → ok b = true → ok2 b = true) : RM ok2 w1 g D vs vr :=
  ⟨hf.blk h.blk fun e => (hm g h.blk.lt e).2 rfl, h.im.sub (sub_only (fun b hb h => by rw [vw_iff] at h ⊢; exact ⟨hk b hb h.1, h.2⟩) fun b hb hh => hf.block b hb fun e => by
    have := (hm b hb e).1
    rw [vw_iff, this] at hh; cases hh.1), h.few⟩
section
variable {p : Value} {P : Nat → World → (Nat → Nat) → Im → Prop} {k : Nat} {w : World} {o : Nat → Nat} {g : Nat} {D : Im} {vs vr : Sv} {R : Ending → World → Prop}
theorem does_calls (E : Edr p P) (hP : P k w o D) (hk : k < 1099511627776) (hw : Wf D) (hR : RM (okc o) w g D vs vr) (hg : o g = 0) (hT : Tabs (vw (okc o) g w)) {a : Ac} {e : E5} (ha : AcOk a) (hx : RTr (vw (okc o) g w) a.x e)
    (hK : ∀ w' o' vs' vr', P (k + 1) w' o' (doF D a) → RM (okc o') w' g (doF D a) vs' vr' → Fm (fun b => o b ≠ 0 ∨ b = g) w w' → (∀ b, b < w.heap.size → o b = 0 → o' b = 0) → R (.returned (.bool true)) w') :
    Calls Tryz.prog 4 #[p, .pointer (some ⟨g, 0, none⟩), acV a e] w R := by
  refine ok4 p (some ⟨g, 0, none⟩) a.kind a.wh a.how (a.n : Nat) (a.at_ : Nat) a.nm a.val e.kind e.nm e.ats.1 e.ats.2.1 e.ats.2.2 e.text e.kids.1 e.kids.2.1 e.kids.2.2 ?_
  unfold F4
  obtain ⟨es, hr⟩ := hR.re
  have hgl := hR.blk.lt
  refine al fun ga w1 hb1 b1 hge1 => ?_
  simp only [Addr.add_mk, Nat.zero_add, b1.cell, List.getElem?_toArray, List.getElem?_cons_zero, List.getElem?_cons_succ, Addr.add_mk, List.getElem?_toArray, List.getElem?_cons_zero, List.getElem?_cons_succ, LdI_some, LdB_some, LdStr_some, LdP_some, LdSl_some, LdM_some, Nat.zero_add, Br_t, Br_f]
  refine meant_calls (hr.keep hb1) hw e ha fun w2 hb2 => ?_
  have B2 := btr hb1 hb1.size hb2
  have hmo := meant_ok hr hw ha
  obtain ⟨mx, mk, -, -, -⟩ := meant_x (D := D) a
  unfold doF at hK
  rw [← mx] at hx
  generalize meantF D a = m at *
  refine ⟨_, _, _, _, _, _, _, _, _, _, _, _, _, _, _, _, rfl, ?_⟩
  refine st_blk (b1.keep hb2) (by simp) fun u1 q1 f1 => st_blk q1 (by simp) fun u2 q2 f2 => st_blk q2 (by simp) fun u3 q3 f3 => st_blk q3 (by simp) fun u4 q4 f4 => st_blk q4 (by simp) fun u5 q5 f5 => st_blk q5 (by simp) fun u6 q6 f6 => st_blk q6 (by simp) fun u7 q7 f7 => st_blk q7 (by simp) fun u8 q8 f8 => st_blk q8 (by simp) fun u9 q9 f9 => st_blk q9 (by simp) fun u10 q10 f10 => st_blk q10 (by simp) fun u11 q11 f11 => st_blk q11 (by simp) fun w3 b3 f12 => ?_
  simp only [List.setIfInBounds_toArray, List.set_cons_zero, List.set_cons_succ] at b3
  have F12 : Fm (· = ga) w2 w3 := ((((((((((f1.trans f2).trans f3).trans f4).trans f5).trans f6).trans f7).trans f8).trans f9).trans f10).trans f11).trans f12
  clear q1 q2 q3 q4 q5 q6 q7 q8 q9 q10 q11 f1 f2 f3 f4 f5 f6 f7 f8 f9 f10 f11 f12
  have hs2 := B2.size
  have B3 : Below w.heap.size w w3 := B2.trans (F12.toBelow hs2 fun b hb e => by have e : b = ga := e; omega)
  have hs3 := B3.size
  have P3 : P k w3 o D := E.keep (M := fun _ => False) hP (.below B3) fun _ _ h => h.elim
  have R3 : RM (okc o) w3 g D vs vr := hR.keep B3
  have hlt := E.lt hP
  have oz : ∀ b, w.heap.size ≤ b → o b = 0 := fun b hb => Classical.byContradiction fun h => by have := hlt b h; omega
  have T3 : Tabs (vw (okc o) g w3) := hT.sub (vw_sub (.below B3))
  have X3 : RTr (vw (okc o) g w3) m.x e := RTr.sub (vw_sub (.below B3)) _ _ hx
  have hsub : ∀ {u : World}, Sub (vw (okc o) g u) (wc o u) := sub_only (fun b _ h => (vw_iff.1 h).1) fun _ _ _ => rfl
  have hga : ga < w3.heap.size := b3.lt
  have oga : o ga = 0 := oz ga hge1
  have hgne : ga ≠ g := by omega
  have fin : ∀ (w4 : World) (o4 : Nat → Nat), EvA w3.drew o w4 o4 → RM (okc o4) w4 g D vs vr ∧ (∀ b, w4.heap.size ≤ b → P (k + 1) w4 o4 (actF D m) → okc o4 b = true) := fun w4 o4 ev => by
    refine ⟨(R3.keep (w1 := w3.drew) ((Below.refl _ _).drew)).fm2 ev.fm (fun b hb hm => ⟨?_, fun e => by subst e; exact hm hg⟩) fun b hb h => okc_iff.2 (ev.old b hb (okc_iff.1 h)), fun b hb hp => okc_iff.2 (Classical.byContradiction fun h => by have := E.lt hp b h; omega)⟩
    cases h9 : okc o b with
    | false => rfl
    | true => exact absurd (okc_iff.1 h9) hm
  have fin2 : ∀ (w4 w5 : World) (o4 : Nat → Nat) (vs5 vr5 : Sv), EvA w3.drew o w4 o4 → P (k + 1) w4 o4 (actF D m) → RM (okc o4) w5 g (actF D m) vs5 vr5 → Fm (· = g) w4 w5 → R (.returned (.bool true)) w5 := fun w4 w5 o4 vs5 vr5 ev hp hr hf => by
    refine hK w5 o4 vs5 vr5 (E.keep hp hf fun b hb e => ?_) hr ?_ fun b hb h => ev.old b (by show b < w3.heap.size; omega) h
    · have e : b = g := e
      subst e; exact ev.old b (by show b < w3.heap.size; omega) hg
    · exact (Fm.below (B3.drew)).trans ((ev.fm.mono fun b _ h => .inl h).trans (hf.mono fun b _ e => .inr e))
  have hact : actF D m = if m.kind = 0 then (insF D m.wh m.at_ m.x).1 else if m.kind = 1 then (movF D m.n m.wh m.at_).1 else if m.kind = 2 then (delF D m.n).1 else if m.kind = 3 then (setNameF D m.n m.nm).1 else
      if m.kind = 4 then (setTextF D m.n m.val).1 else if m.kind = 5 then (setAttrF D m.n m.nm m.val).1 else if m.kind = 6 then (dropAttrF D m.n m.nm).1 else D := rfl
  have hdr : Below w3.heap.size w3 w3.drew := (Below.refl _ _).drew
  have P3d : P k w3.drew o D := E.keep (M := fun _ => False) P3 (.below hdr) fun _ _ h => h.elim
  have T3d : Tabs (wc o w3.drew) := (T3.sub (vw_sub (.below hdr))).sub hsub
  have bS : ∀ (w4 : World) (o4 : Nat → Nat), EvA w3.drew o w4 o4 → Blk w4 ga _ 47 := fun w4 o4 ev => ev.fm.blk (b3.keep hdr) (fun h => h oga)
  simp only [Addr.add_mk, Nat.zero_add, Nat.reduceAdd, b3.cell, List.getElem?_toArray, List.getElem?_cons_zero, List.getElem?_cons_succ, Addr.add_mk, List.getElem?_toArray, List.getElem?_cons_zero, List.getElem?_cons_succ, LdI_some, LdB_some, LdStr_some, LdP_some, LdSl_some, LdM_some, Nat.zero_add, Br_t, Br_f]
  refine bre (fun h0 => ?_) (fun h0 => ?_)
  · -- Insert
    rw [if_pos h0] at hact
    have X3' : RTr w3 m.x e := RTr.sub sub_of_only _ _ X3
    refine copied_calls m.x (e := e) X3' fun w4 e4 hb4 ot4 => ⟨_, _, _, _, _, _, _, _, _, rfl, ?_⟩
    have hs4 := hb4.size
    refine al fun g7 w5 hb5 b5 hge5 => ?_
    refine st_blk b5 (by simp) fun u1 q1 f1 => st_blk q1 (by simp) fun u2 q2 f2 => st_blk q2 (by simp) fun u3 q3 f3 => st_blk q3 (by simp) fun u4 q4 f4 => st_blk q4 (by simp) fun w6 b6 f5 => ?_
    simp only [List.setIfInBounds_toArray, List.set_cons_zero, List.set_cons_succ] at b6
    have F6 : Fm (· = g7) w5 w6 := (((f1.trans f2).trans f3).trans f4).trans f5
    have D6 : Below w4.heap.size w4 w6 := hb5.trans (F6.toBelow hb5.size fun b hb e => by have e : b = g7 := e; omega)
    have D36 : Below w3.heap.size w3 w6 := btr hb4 hs4 D6
    have b36 := b3.keep D36
    have hs6 := D6.size
    simp only [Addr.add_mk, Nat.zero_add, Nat.reduceAdd, b36.cell, b6.cell, List.getElem?_toArray, List.getElem?_cons_zero, List.getElem?_cons_succ, Addr.add_mk, List.getElem?_toArray, List.getElem?_cons_zero, List.getElem?_cons_succ, LdI_some, LdB_some, LdStr_some, LdP_some, LdSl_some, LdM_some, Nat.zero_add, Br_t, Br_f]
    have P6 : P k w6 o D := E.keep (M := fun _ => False) P3 (.below D36) fun _ _ h => h.elim
    have ot6 := OTr.fm (M := fun _ => False) (.below D6) _ _ _ _ (fun _ _ _ h => h) ot4
    refine E.ins (e := e4) P6 hk hw ((T3.sub (vw_sub (.below D36))).sub hsub) (OTr.rtr _ _ _ _ (fun b h1 h2 => okc_iff.2 (oz b (by omega))) ot6) hmo.at_ fun w7 o7 P7 ev7 => ⟨_, _, rfl, ?_⟩
    have hs7 := ev7.fm.size
    have b37 := ev7.fm.blk b36 (fun h => h oga)
    have b67 := ev7.fm.blk b6 (fun h => h (oz g7 (by omega)))
    simp only [Addr.add_mk, Nat.zero_add, Nat.reduceAdd, b37.cell, List.getElem?_toArray, List.getElem?_cons_zero, List.getElem?_cons_succ, Addr.add_mk, List.getElem?_toArray, List.getElem?_cons_zero, List.getElem?_cons_succ, LdI_some, LdB_some, LdStr_some, LdP_some, LdSl_some, LdM_some, Nat.zero_add, Br_t, Br_f]
    have og7 : o7 g = 0 := ev7.old g (by omega) hg
    have F37 : Fm (fun b => o b ≠ 0) w3 w7 := (Fm.below D36).trans ev7.fm
    have hm37 : ∀ b, b < w3.heap.size → o b ≠ 0 → okc o b = false ∧ b ≠ g := fun b hb h => ⟨by
      cases h9 : okc o b with
      | false => rfl
      | true => exact absurd (okc_iff.1 h9) h, fun e => by subst e; exact h hg⟩
    have hk37 : ∀ b, b < w3.heap.size → okc o b = true → (okc o7 b && !(decide (w3.heap.size ≤ b ∧ b < w4.heap.size))) = true := fun b hb h => by
      rw [Bool.and_eq_true]
      exact ⟨okc_iff.2 (ev7.old b (by omega) (okc_iff.1 h)), by rw [decide_eq_false (by omega)]; rfl⟩
    have R7 : RM (fun b => okc o7 b && !(decide (w3.heap.size ≤ b ∧ b < w4.heap.size))) w7 g D vs vr := R3.fm2 F37 hm37 hk37
    have X7 : RTr (vw (fun b => okc o7 b && !(decide (w3.heap.size ≤ b ∧ b < w4.heap.size))) g w7) m.x e := RTr.sub (sub_only (fun b hb h => (vw_iff (ok := fun b => okc o7 b && !(decide (w3.heap.size ≤ b ∧ b < w4.heap.size)))).2 ⟨hk37 b hb (vw_iff.1 h).1, (vw_iff.1 h).2⟩) fun b hb h => F37.block b hb fun h9 => h9 (okc_iff.1 (vw_iff.1 h).1)) _ _ X3
    refine insertR_calls (e := e) R7 (fun b hb => ?_) hw X7 hmo.at_ fun w8 vs8 vr8 R8 f8 => ⟨_, _, rfl, ?_⟩
    · rw [Bool.and_eq_true]
      exact ⟨okc_iff.2 (Classical.byContradiction fun h => by have := E.lt P7 b h; omega), by rw [decide_eq_false (by omega)]; rfl⟩
    have hs8 := f8.size
    have b68 := f8.blk b67 (fun e => by have e : g7 = g := e; omega)
    simp only [Addr.add_mk, Nat.zero_add, Nat.reduceAdd, b68.cell, List.getElem?_toArray, List.getElem?_cons_zero, List.getElem?_cons_succ, Addr.add_mk, List.getElem?_toArray, List.getElem?_cons_zero, List.getElem?_cons_succ, LdI_some, LdB_some, LdStr_some, LdP_some, LdSl_some, LdM_some, Nat.zero_add, Br_t, Br_f]
    have ot8 := OTr.fm f8 _ _ _ _ (fun b h1 h2 e => by have e : b = g := e; omega) (OTr.fm ev7.fm _ _ _ _ (fun b h1 h2 h => h (oz b (by omega))) ot6)
    refine spoil_calls m.x (e := e4) ot8 (by omega) fun w9 f9 => ⟨rfl, ?_⟩
    rw [hact] at hK
    have P9 : P (k + 1) w9 o7 (insF D m.wh m.at_ m.x).1 := E.keep (E.keep P7 f8 fun b hb e => by have e : b = g := e; rw [e]; exact og7) f9 fun b hb h => ev7.old b (by omega) (oz b (by omega))
    have R9 : RM (okc o7) w9 g (insF D m.wh m.at_ m.x).1 vs8 vr8 := R8.fm2 f9 (fun b hb h => ⟨by rw [decide_eq_true (show w3.heap.size ≤ b ∧ b < w4.heap.size from h)]; simp, by omega⟩) fun b hb h => by rw [Bool.and_eq_true] at h; exact h.1
    have F9 : Fm (fun b => o b ≠ 0 ∨ b = g) w w9 := (((Fm.below B3).trans (F37.mono fun b _ h => .inl h)).trans (f8.mono fun b _ h => .inr h)).trans' f9 fun b hb h => by omega
    have := hK w9 o7 vs8 vr8 P9 R9 F9 fun b hb h => ev7.old b (by omega) h
    refine bre (fun _ => ?_) (fun h => absurd rfl h)
    rw [show ((insF D m.wh m.at_ m.x).2.2 == (insF D m.wh m.at_ m.x).2.2) = true from beq_self_eq_true _]
    exact this
  rw [if_neg h0] at hact
  refine bre (fun h1 => ?_) (fun h1 => ?_)
  · rw [if_pos h1] at hact
    refine ⟨fun w' => Blk w' ga _ 47, b3.keep hdr, ?_⟩
    refine ⟨_, fun w' hb => by rw [Blk.cell hb]; rfl, ?_⟩
    refine ⟨_, fun w' hb => by rw [Blk.cell hb]; rfl, ?_⟩
    refine ⟨_, fun w' hb => by rw [Blk.cell hb]; rfl, ?_⟩
    refine ⟨_, fun w' hb => by rw [Blk.cell hb]; rfl, ?_⟩
    refine ⟨_, fun w' hb => by rw [Blk.cell hb]; rfl, ?_⟩
    refine ⟨_, fun w' hb => by rw [Blk.cell hb]; rfl, ?_⟩
    refine E.mov P3d hk hw hmo.n hmo.at_ fun w4 o4 P4 ev => ⟨_, rfl, bS w4 o4 ev, ?_⟩
    rw [← hact] at P4
    obtain ⟨R4, n4⟩ := fin w4 o4 ev
    refine moveR_calls R4 (fun b hb => n4 b hb P4) hw hmo.n hmo.at_ fun w5 vs5 vr5 R5 f5 => ⟨_, rfl, ?_⟩
    rw [← hact] at R5
    have := fin2 w4 w5 o4 vs5 vr5 ev P4 R5 f5
    rw [beq_self_eq_true]; exact this
  rw [if_neg h1] at hact
  refine bre (fun h2 => ?_) (fun h2 => ?_)
  · rw [if_pos h2] at hact
    refine ⟨fun w' => Blk w' ga _ 47, b3.keep hdr, ?_⟩
    refine ⟨_, fun w' hb => by rw [Blk.cell hb]; rfl, ?_⟩
    refine ⟨_, fun w' hb => by rw [Blk.cell hb]; rfl, ?_⟩
    refine E.del P3d hk hw hmo.n fun w4 o4 P4 ev => ⟨_, rfl, bS w4 o4 ev, ?_⟩
    rw [← hact] at P4
    obtain ⟨R4, n4⟩ := fin w4 o4 ev
    refine deleteR_calls R4 (fun b hb => n4 b hb P4) hw hmo.n fun w5 vs5 vr5 R5 f5 => ⟨_, rfl, ?_⟩
    rw [← hact] at R5
    have := fin2 w4 w5 o4 vs5 vr5 ev P4 R5 f5
    rw [beq_self_eq_true]; exact this
  rw [if_neg h2] at hact
  refine bre (fun h3 => ?_) (fun h3 => ?_)
  · rw [if_pos h3] at hact
    refine ⟨fun w' => Blk w' ga _ 47, b3.keep hdr, ?_⟩
    refine ⟨_, fun w' hb => by rw [Blk.cell hb]; rfl, ?_⟩
    refine ⟨_, fun w' hb => by rw [Blk.cell hb]; rfl, ?_⟩
    refine ⟨_, fun w' hb => by rw [Blk.cell hb]; rfl, ?_⟩
    refine ⟨_, fun w' hb => by rw [Blk.cell hb]; rfl, ?_⟩
    refine E.name P3d hk hw T3d hmo.n fun w4 o4 P4 ev => ⟨_, rfl, bS w4 o4 ev, ?_⟩
    rw [← hact] at P4
    obtain ⟨R4, n4⟩ := fin w4 o4 ev
    refine setNameR_calls R4 (fun b hb => n4 b hb P4) hmo.n fun w5 vs5 vr5 R5 f5 => ⟨_, rfl, ?_⟩
    rw [← hact] at R5
    have := fin2 w4 w5 o4 vs5 vr5 ev P4 R5 f5
    rw [beq_self_eq_true]; exact this
  rw [if_neg h3] at hact
  refine bre (fun h4 => ?_) (fun h4 => ?_)
  · rw [if_pos h4] at hact
    refine ⟨fun w' => Blk w' ga _ 47, b3.keep hdr, ?_⟩
    refine ⟨_, fun w' hb => by rw [Blk.cell hb]; rfl, ?_⟩
    refine ⟨_, fun w' hb => by rw [Blk.cell hb]; rfl, ?_⟩
    refine ⟨_, fun w' hb => by rw [Blk.cell hb]; rfl, ?_⟩
    refine ⟨_, fun w' hb => by rw [Blk.cell hb]; rfl, ?_⟩
    refine E.text P3d hk hw T3d hmo.n fun w4 o4 P4 ev => ⟨_, rfl, bS w4 o4 ev, ?_⟩
    rw [← hact] at P4
    obtain ⟨R4, n4⟩ := fin w4 o4 ev
    refine setTextR_calls R4 (fun b hb => n4 b hb P4) hmo.n fun w5 vs5 vr5 R5 f5 => ⟨_, rfl, ?_⟩
    rw [← hact] at R5
    have := fin2 w4 w5 o4 vs5 vr5 ev P4 R5 f5
    rw [beq_self_eq_true]; exact this
  rw [if_neg h4] at hact
  refine bre (fun h5 => ?_) (fun h5 => ?_)
  · rw [if_pos h5] at hact
    refine ⟨fun w' => Blk w' ga _ 47, b3.keep hdr, ?_⟩
    refine ⟨_, fun w' hb => by rw [Blk.cell hb]; rfl, ?_⟩
    refine ⟨_, fun w' hb => by rw [Blk.cell hb]; rfl, ?_⟩
    refine ⟨_, fun w' hb => by rw [Blk.cell hb]; rfl, ?_⟩
    refine ⟨_, fun w' hb => by rw [Blk.cell hb]; rfl, ?_⟩
    refine ⟨_, fun w' hb => by rw [Blk.cell hb]; rfl, ?_⟩
    refine ⟨_, fun w' hb => by rw [Blk.cell hb]; rfl, ?_⟩
    refine E.attr P3d hk hw T3d hmo.n fun w4 o4 P4 ev => ⟨_, rfl, bS w4 o4 ev, ?_⟩
    rw [← hact] at P4
    obtain ⟨R4, n4⟩ := fin w4 o4 ev
    refine setAttrR_calls R4 (fun b hb => n4 b hb P4) hw hmo.n fun w5 vs5 vr5 R5 f5 => ⟨_, rfl, ?_⟩
    rw [← hact] at R5
    have := fin2 w4 w5 o4 vs5 vr5 ev P4 R5 f5
    rw [beq_self_eq_true]; exact this
  rw [if_neg h5] at hact
  refine bre (fun h6 => ?_) (fun h6 => ?_)
  · rw [if_pos h6] at hact
    refine ⟨fun w' => Blk w' ga _ 47, b3.keep hdr, ?_⟩
    refine ⟨_, fun w' hb => by rw [Blk.cell hb]; rfl, ?_⟩
    refine ⟨_, fun w' hb => by rw [Blk.cell hb]; rfl, ?_⟩
    refine ⟨_, fun w' hb => by rw [Blk.cell hb]; rfl, ?_⟩
    refine ⟨_, fun w' hb => by rw [Blk.cell hb]; rfl, ?_⟩
    refine E.drop P3d hk hw hmo.n fun w4 o4 P4 ev => ⟨_, rfl, bS w4 o4 ev, ?_⟩
    rw [← hact] at P4
    obtain ⟨R4, n4⟩ := fin w4 o4 ev
    refine dropAttrR_calls R4 (fun b hb => n4 b hb P4) hw hmo.n fun w5 vs5 vr5 R5 f5 => ⟨_, rfl, ?_⟩
    rw [← hact] at R5
    have := fin2 w4 w5 o4 vs5 vr5 ev P4 R5 f5
    rw [beq_self_eq_true]; exact this
  rw [if_neg h6] at hact
  have := hK w3 o vs vr (by rw [hact]; exact E.up P3) (by rw [hact]; exact R3) (.below B3) fun _ _ h => h
  exact this
end
end Go.Proofs.YthbeeonmfbigcaaGreatDoor
/- Acts, one after the other: by an editor and by the reference. -/
namespace Go.Proofs.YthbeeonmfbigcaaGreatDoor
open Go.RowKit Go.Vc
set_option linter.unusedVariables false
set_option linter.unusedSimpArgs false
set_option maxRecDepth 100000
structure E12 where
  a : Ac
  e : E5
def E12.cells (x : E12) : List Value := [.int .i64 x.a.kind, .int .i64 x.a.wh, .bool x.a.how, .int .u64 (x.a.n : Nat), .int .u64 (x.a.at_ : Nat), .string x.a.nm, .string x.a.val, .int .i64 x.e.kind, .string x.e.nm, .slice x.e.ats.1 x.e.ats.2.1 x.e.ats.2.2, .string x.e.text, .slice x.e.kids.1 x.e.kids.2.1 x.e.kids.2.2]
def LAc : Lay E12 := ⟨12, E12.cells, fun _ => rfl, fun _ => by simp [E12.cells, Value.oneCell'], by decide⟩
def RAc (w : World) (x : E12) : Prop := AcOk x.a ∧ RTr w x.a.x x.e
theorem RAc.sub {w w1 : World} {x : E12} (h : RAc w x) (hs : Sub w w1) : RAc w1 x := ⟨h.1, RTr.sub hs _ _ h.2⟩
structure Both (p : Value) (P : Nat → World → (Nat → Nat) → Im → Prop) (w0 : World) (g k : Nat) (w : World) (o : Nat → Nat) (D : Im) (vs vr : Sv) : Prop where
  p : P k w o D
  wf : Wf D
  r : RM (okc o) w g D vs vr
  og : o g = 0
  old : Below w0.heap.size w0 w
  col : ∀ b, b < w0.heap.size → o b = 0
  gne : w0.heap.size ≤ g
section
variable {p : Value} {P : Nat → World → (Nat → Nat) → Im → Prop} {k : Nat} {w w0 w1 : World} {o : Nat → Nat} {g : Nat} {D : Im} {vs vr : Sv} {R : Ending → World → Prop}
theorem Both.sub (h : Both p P w0 g k w o D vs vr) : Sub w0 (vw (okc o) g w) := fun b c t fr hb => by
  have hlt := (Array.getElem?_eq_some_iff.1 hb).1
  refine cells_only (vw_iff.2 ⟨okc_iff.2 (h.col b hlt), by have := h.gne; omega⟩) ?_
  rw [h.old.block b hlt]; exact hb
theorem Both.keep (E : Edr p P) (h : Both p P w0 g k w o D vs vr) (hb : Below w.heap.size w w1) : Both p P w0 g k w1 o D vs vr :=
  ⟨E.keep (M := fun _ => False) h.p (.below hb) fun _ _ h => h.elim, h.wf, h.r.keep hb, h.og, btr h.old h.old.size hb, h.col, h.gne⟩
theorem both_does (E : Edr p P) (h : Both p P w0 g k w o D vs vr) (hk : k < 1099511627776) (hT : Tabs w0) {x : E12} (hx : RAc w0 x)
    (hK : ∀ w' o' vs' vr', Both p P w0 g (k + 1) w' o' (doF D x.a) vs' vr' → R (.returned (.bool true)) w') : Calls Tryz.prog 4 #[p, .pointer (some ⟨g, 0, none⟩), acV x.a x.e] w R := by
  have hs := h.sub
  refine does_calls E h.p hk h.wf h.r h.og (hT.sub hs) hx.1 (RTr.sub hs _ _ hx.2) fun w' o' vs' vr' hp hr hf ho => hK w' o' vs' vr' ⟨hp, do_wf h.wf _, hr, ?_, ?_, fun b hb => ho b (Nat.lt_of_lt_of_le hb h.old.size) (h.col b hb), h.gne⟩
  · exact ho g h.r.blk.lt h.og
  · refine h.old.trans (hf.toBelow h.old.size fun b hb e => ?_)
    rcases e with e | e
    · exact e (h.col b hb)
    · have := h.gne; omega
end
end Go.Proofs.YthbeeonmfbigcaaGreatDoor
/- Acts as arguments, within the second form's bound: what is read of them. -/
namespace Go.Proofs.YthbeeonmfbigcaaGreatDoor
open Go.RowKit Go.Deep Go.WideShapes Go.ChangeShapes Go.Vc
set_option linter.unusedSimpArgs false
set_option linter.unusedVariables false
set_option maxRecDepth 100000
theorem upto_one {H : Type} (d : DataW H) : 1 ≤ Rows.uptoBulk d := by
  cases d with
  | lit l => cases l <;> simp only [Rows.uptoBulk] <;> omega
  | _ => simp only [Rows.uptoBulk]; omega
theorem upto_len {H : Type} : ∀ (l : List (DataW H)), l.length ≤ Rows.uptoBulkAll l
  | [] => by simp
  | d :: l => by
    have := upto_len l
    have := upto_one d
    simp only [Rows.uptoBulkAll, List.length_cons]; omega
theorem upto_part {H : Type} {d : DataW H} : ∀ {l : List (DataW H)}, d ∈ l → Rows.uptoBulk d ≤ Rows.uptoBulkAll l
  | e :: l, h => by
    simp only [Rows.uptoBulkAll]
    rcases List.mem_cons.1 h with rfl | h
    · omega
    · have := upto_part h; omega
theorem upto_small {H : Type} {d : DataW H} {l : List (DataW H)} (hk : Rows.uptoSmall H l = true) (h : d ∈ l) : Rows.uptoBulk d ≤ 1048576 :=
  Nat.le_trans (upto_part h) (of_decide_eq_true hk)
section
variable {H : Type} {enc : TypeId × Value → H} {P : Program} {W : World} {α : Type}
theorem trod_parts {t : TypeId} {fs : Array Field} {fuel : Nat} {cs : List Value} {x : DataW H × List MemPlace} (ht : P.underlying t = some (.struct fs)) (h : DataW.trod enc P W 0 (fun _ => true) true fuel t cs = some x) :
    cs.length = P.cellsOf t ∧ ∀ (i : Nat) (f : Field), fs[i]? = some f → ∃ n y, DataW.trod enc P W 0 (fun _ => true) true n f.type ((cs.drop f.offset).take (P.cellsOf f.type)) = some y ∧ Rows.uptoBulk y.1 < Rows.uptoBulk x.1 := by
  obtain ⟨xs, n, _, rfl, hl, hlen, hf⟩ := DataW.trod_struct ht h
  refine ⟨hl, fun i f hi => ?_⟩
  have hlt : i < xs.length := by rw [hlen]; exact (Array.getElem?_eq_some_iff.1 hi).1
  refine ⟨n, xs[i], ?_, ?_⟩
  · rw [hf i f hi, List.getElem?_eq_getElem hlt]
  · have := upto_part (List.mem_map.2 ⟨xs[i], List.getElem_mem hlt, rfl⟩ : xs[i].1 ∈ xs.map (·.1))
    simp only [Rows.uptoBulk]; omega
theorem open_bk [Inhabited α] (L : Lay α) (Q : α → Prop) {t e : TypeId} {fuel : Nat} {cs : List Value} {x : DataW H × List MemPlace} (h : DataW.trod enc P W 0 (fun _ => true) true fuel t cs = some x) (ht : P.underlying t = some (.slice e)) (hC : P.cellsOf e = L.n)
    (hel : ∀ (n : Nat) (cs : List Value) (y : DataW H × List MemPlace), DataW.trod enc P W 0 (fun _ => true) true n e cs = some y → Rows.uptoBulk y.1 < Rows.uptoBulk x.1 → ∃ z : α, cs = L.cells z ∧ Q z) :
    ∃ A c xs, cs = [.slice A xs.length c] ∧ Rd L W A c xs ∧ (∀ y ∈ xs, Q y) ∧ xs.length ≤ Rows.uptoBulk x.1 := by
  rcases open_slice ht h with ⟨hcs, _⟩ | ⟨a, len, cap, m, n, D, Pl, hcs, _, hl, hm, hmm, hx, hi⟩
  · exact ⟨none, 0, [], hcs, Rd.nil _ _, by simp, by simp⟩
  · have hlm : len ≤ m := by rw [hmm]; simp; exact hl
    have hx1 := (Prod.mk.inj hx).1
    rw [hx1] at hel ⊢
    have hbulk : ∀ i, i < len → Rows.uptoBulk (D i) < Rows.uptoBulk (.slice ((List.range len).map D) ((List.range (m - len)).map fun j => D (len + j))) := fun i hi => by
      have := upto_part (List.mem_map.2 ⟨i, List.mem_range.2 hi, rfl⟩ : D i ∈ (List.range len).map D)
      simp only [Rows.uptoBulk]; omega
    obtain ⟨f, hfx⟩ := choose_lt (α := α) (n := len) (p := fun i y => (∀ j u, (L.cells y)[j]? = some u → W.cell? ((a.add (i * L.n)).add j) = some u) ∧ Q y) (fun i hil => by
      obtain ⟨cs', h1, h2⟩ := hi i (by omega)
      obtain ⟨y, rfl, hq⟩ := hel _ _ _ h2 (hbulk i hil)
      obtain ⟨_, hlen, hat⟩ := World.cells?_some h1
      refine ⟨y, fun j u hj => ?_, hq⟩
      rw [hC] at hat hlen
      rw [hat j (by rw [← L.len y]; exact (List.getElem?_eq_some_iff.1 hj).1)]
      exact hj)
    refine ⟨some a, cap, (List.range len).map f, by simpa using hcs, ⟨by simpa using hl, hm, (fun h => by cases h), fun h0 => ?_⟩, fun y hy => ?_, ?_⟩
    · simp at h0
      have hspot : a.spot = Option.none := by
        have hy := (hfx 0 h0).1
        have hn : 0 < (L.cells (f 0)).length := by rw [L.len]; exact L.pos
        have := hy 0 _ (List.getElem?_eq_getElem hn)
        simp only [Nat.zero_mul, Addr.add, if_true] at this
        unfold World.cell? at this
        cases hs : a.spot with
        | none => rfl
        | some q =>
          split at this
          · rw [hs] at this; simp at this
          · cases this
      obtain ⟨b, o, s⟩ := a
      simp only at hspot
      subst hspot
      refine ⟨b, o, rfl, cells_of_rows _ (fun i hi j u hj => ?_)⟩
      simp at hi hj
      have := (hfx i hi).1 j u hj
      rw [Addr.add_lit, Addr.add_lit] at this
      exact this
    · obtain ⟨i, hi, rfl⟩ := List.mem_map.1 hy
      exact (hfx i (List.mem_range.1 hi)).2
    · have := upto_len ((List.range len).map D)
      simp only [Rows.uptoBulk, List.length_map, List.length_range] at this ⊢
      omega
theorem list2 {α : Type} {l : List α} (h : l.length = 2) : ∃ a b, l = [a, b] := by
  match l, h with
  | [a, b], _ => exact ⟨a, b, rfl⟩
theorem list5 {α : Type} {l : List α} (h : l.length = 5) : ∃ a b c d e, l = [a, b, c, d, e] := by
  match l, h with
  | [a, b, c, d, e], _ => exact ⟨a, b, c, d, e, rfl⟩
theorem list12 {α : Type} {l : List α} (h : l.length = 12) : ∃ a b c d e f g i j k m n, l = [a, b, c, d, e, f, g, i, j, k, m, n] := by
  match l, h with
  | [a, b, c, d, e, f, g, i, j, k, m, n], _ => exact ⟨a, b, c, d, e, f, g, i, j, k, m, n, rfl⟩
end
instance : Inhabited E5 := ⟨⟨0, noB, (none, 0, 0), noB, (none, 0, 0)⟩⟩
instance : Inhabited At := ⟨⟨noB, noB⟩⟩
instance : Inhabited Ac := ⟨⟨0, 0, false, 0, 0, noB, noB, .mk 0 noB [] noB []⟩⟩
instance : Inhabited E12 := ⟨⟨default, default⟩⟩
theorem rtl_of {w : World} : ∀ (es : List E5), (∀ e ∈ es, ∃ t, RTr w t e) → ∃ ts, RTl w ts es
  | [], _ => ⟨[], by simp only [RTl]⟩
  | e :: es, h => by
    obtain ⟨t, ht⟩ := h e (by simp)
    obtain ⟨ts, hts⟩ := rtl_of es fun x hx => h x (by simp [hx])
    exact ⟨t :: ts, by simp only [RTl]; exact ⟨e, es, rfl, ht, hts⟩⟩
section
variable {H : Type} {enc : TypeId × Value → H} {W : World}
theorem kStr : (Tryz.prog).cellsOf 9 = 1 := by kernel_rfl
theorem kInt : (Tryz.prog).cellsOf 3 = 1 := by kernel_rfl
theorem kBool : (Tryz.prog).cellsOf 4 = 1 := by kernel_rfl
theorem kHn : (Tryz.prog).cellsOf 41 = 1 := by kernel_rfl
theorem kAts : (Tryz.prog).cellsOf 42 = 1 := by kernel_rfl
theorem kTrs : (Tryz.prog).cellsOf 43 = 1 := by kernel_rfl
theorem kTr : (Tryz.prog).cellsOf 45 = 5 := by kernel_rfl
theorem kAt : (Tryz.prog).cellsOf 96 = 2 := by kernel_rfl
theorem at_cells (n : Nat) (cs : List Value) (x : DataW H × List MemPlace) (h : DataW.trod enc Tryz.prog W 0 (fun _ => true) true n 96 cs = some x) : ∃ y : At, cs = LAt.cells y := by
  obtain ⟨hl, hp⟩ := trod_parts Tryz.underlying96 h
  obtain ⟨a, b, rfl⟩ := list2 (hl.trans kAt)
  obtain ⟨_, _, h0, -⟩ := hp 0 _ rfl
  obtain ⟨_, _, h1, -⟩ := hp 1 _ rfl
  simp only [List.getElem_toArray, List.getElem_cons_zero, List.getElem_cons_succ, kStr, List.drop_zero, List.drop_succ_cons, List.take_succ_cons, List.take_zero] at h0 h1
  obtain ⟨s, e0, -, -⟩ := DataW.trod_string Tryz.underlying9 h0
  obtain ⟨t, e1, -, -⟩ := DataW.trod_string Tryz.underlying9 h1
  simp only [List.cons.injEq, and_true] at e0 e1
  subst e0 e1
  exact ⟨⟨s, t⟩, rfl⟩
theorem ats_cells {n : Nat} {cs : List Value} {x : DataW H × List MemPlace} (h : DataW.trod enc Tryz.prog W 0 (fun _ => true) true n 42 cs = some x) (hx : Rows.uptoBulk x.1 ≤ 1048576) : ∃ (v : Sv) (l : List At), cs = [.slice v.1 v.2.1 v.2.2] ∧ RR LAt W l v := by
  obtain ⟨A, c, l, e, hr, -, hlen⟩ := open_bk LAt (fun _ => True) h Tryz.underlying42 kAt fun n cs y hy _ => by
    obtain ⟨z, hz⟩ := at_cells n cs y hy
    exact ⟨z, hz, trivial⟩
  exact ⟨(A, l.length, c), l, e, Nat.le_trans hlen hx, rfl, hr⟩
theorem tr_cells : ∀ (B : Nat), B ≤ 1048576 → ∀ (n : Nat) (cs : List Value) (x : DataW H × List MemPlace), DataW.trod enc Tryz.prog W 0 (fun _ => true) true n 45 cs = some x → Rows.uptoBulk x.1 ≤ B →
    ∃ (e : E5), cs = e.cells ∧ ∃ t, RTr W t e := by
  intro B
  induction B using Nat.strongRecOn with
  | _ B ih =>
    intro hB n cs x h hx
    obtain ⟨hl, hp⟩ := trod_parts Tryz.underlying45 h
    obtain ⟨a, b, c, d, e, rfl⟩ := list5 (hl.trans kTr)
    obtain ⟨_, _, h0, b0⟩ := hp 0 _ rfl
    obtain ⟨_, _, h1, b1⟩ := hp 1 _ rfl
    obtain ⟨_, _, h2, b2⟩ := hp 2 _ rfl
    obtain ⟨_, _, h3, b3⟩ := hp 3 _ rfl
    obtain ⟨_, y4, h4, b4⟩ := hp 4 _ rfl
    simp only [List.getElem_toArray, List.getElem_cons_zero, List.getElem_cons_succ, kInt, kStr, kAts, kTrs, List.drop_zero, List.drop_succ_cons, List.take_succ_cons, List.take_zero] at h0 h1 h2 h3 h4
    obtain ⟨kd, e0, -, -⟩ := DataW.trod_int Tryz.underlying3 h0
    obtain ⟨nm, e1, -, -⟩ := DataW.trod_string Tryz.underlying9 h1
    obtain ⟨va, la, e2, ha⟩ := ats_cells h2 (by omega)
    obtain ⟨tx, e3, -, -⟩ := DataW.trod_string Tryz.underlying9 h3
    obtain ⟨A, c', es, e4, hr, hq, hlen⟩ := open_bk LE5 (fun e => ∃ t, RTr W t e) h4 Tryz.underlying43 kTr fun n cs y hy hby => ih (Rows.uptoBulk y.1) (by omega) (by omega) n cs y hy (Nat.le_refl _)
    simp only [List.cons.injEq, and_true] at e0 e1 e2 e3 e4
    subst e0 e1 e2 e3 e4
    obtain ⟨ts, hts⟩ := rtl_of es hq
    refine ⟨⟨kd, nm, va, tx, (A, es.length, c')⟩, rfl, .mk kd nm la tx ts, ?_⟩
    simp only [RTr]
    exact ⟨by trivial, by trivial, by trivial, ha, by rw [← hts.len]; omega, es, rfl, hr, hts⟩
theorem hn_cells {n : Nat} {cs : List Value} {x : DataW H × List MemPlace} (h : DataW.trod enc Tryz.prog W 0 (fun _ => true) true n 41 cs = some x) : ∃ k : Nat, k < 18446744073709551616 ∧ cs = [.int .u64 (k : Nat)] := by
  obtain ⟨k, rfl, -, hw⟩ := DataW.trod_int Tryz.underlying41 h
  have hx : 0 ≤ k ∧ k ≤ 18446744073709551615 := by simpa [Lit.wf, IntKind.min, IntKind.max, IntKind.signed, IntKind.bits] using hw
  exact ⟨k.toNat, by omega, by rw [Int.toNat_of_nonneg hx.1]⟩
theorem ac_cells {n : Nat} {cs : List Value} {x : DataW H × List MemPlace} (h : DataW.trod enc Tryz.prog W 0 (fun _ => true) true n 47 cs = some x) (hx : Rows.uptoBulk x.1 ≤ 1048576) : ∃ y : E12, cs = LAc.cells y ∧ RAc W y := by
  obtain ⟨hl, hp⟩ := trod_parts Tryz.underlying47 h
  have kAc : (Tryz.prog).cellsOf 47 = 12 := by kernel_rfl
  obtain ⟨a, b, c, d, e, f, g, i, j, k, m, o, rfl⟩ := list12 (hl.trans kAc)
  obtain ⟨_, _, h0, b0⟩ := hp 0 _ rfl
  obtain ⟨_, _, h1, b1⟩ := hp 1 _ rfl
  obtain ⟨_, _, h2, b2⟩ := hp 2 _ rfl
  obtain ⟨_, _, h3, b3⟩ := hp 3 _ rfl
  obtain ⟨_, _, h4, b4⟩ := hp 4 _ rfl
  obtain ⟨_, _, h5, b5⟩ := hp 5 _ rfl
  obtain ⟨_, _, h6, b6⟩ := hp 6 _ rfl
  obtain ⟨_, _, h7, b7⟩ := hp 7 _ rfl
  simp only [List.getElem_toArray, List.getElem_cons_zero, List.getElem_cons_succ, kInt, kStr, kBool, kHn, kTr, List.drop_zero, List.drop_succ_cons, List.take_succ_cons, List.take_zero] at h0 h1 h2 h3 h4 h5 h6 h7
  obtain ⟨q0, e0, -, -⟩ := DataW.trod_int Tryz.underlying3 h0
  obtain ⟨q1, e1, -, -⟩ := DataW.trod_int Tryz.underlying3 h1
  obtain ⟨q2, e2, -⟩ := DataW.trod_bool Tryz.underlying4 h2
  obtain ⟨q3, l3, e3⟩ := hn_cells h3
  obtain ⟨q4, l4, e4⟩ := hn_cells h4
  obtain ⟨q5, e5, -, -⟩ := DataW.trod_string Tryz.underlying9 h5
  obtain ⟨q6, e6, -, -⟩ := DataW.trod_string Tryz.underlying9 h6
  obtain ⟨q7, e7, t, ht⟩ := tr_cells 1048576 (Nat.le_refl _) _ _ _ h7 (by omega)
  simp only [E5.cells, List.cons.injEq, and_true] at e0 e1 e2 e3 e4 e5 e6 e7
  obtain ⟨e7, e8, e9, e10, e11⟩ := e7
  subst e0 e1 e2 e3 e4 e5 e6 e7 e8 e9 e10 e11
  exact ⟨⟨⟨q0, q1, q2, q3, q4, q5, q6, t⟩, q7⟩, rfl, ⟨l3, l4⟩, ht⟩
theorem acs_open {n : Nat} {cs : List Value} {x : DataW H × List MemPlace} (h : DataW.trod enc Tryz.prog W 0 (fun _ => true) true n 22 cs = some x) (hx : Rows.uptoBulk x.1 ≤ 1048576) :
    ∃ (A : Option Addr) (c : Nat) (xs : List E12), cs = [.slice A xs.length c] ∧ Rd LAc W A c xs ∧ (∀ y ∈ xs, RAc W y) ∧ xs.length ≤ 1048576 := by
  obtain ⟨A, c, l, e, hr, hq, hlen⟩ := open_bk LAc (RAc W) h Tryz.underlying22 (by kernel_rfl) fun n cs y hy hb => ac_cells hy (by omega)
  exact ⟨A, c, l, e, hr, hq, Nat.le_trans hlen hx⟩
end
end Go.Proofs.YthbeeonmfbigcaaGreatDoor
/- Documents of the program: Kids, Roots, Parent, Level, All. -/
namespace Go.Proofs.YthbeeonmfbigcaaGreatDoor
open Go.RowKit Go.Vc
set_option linter.unusedVariables false
set_option linter.unusedSimpArgs false
set_option maxRecDepth 100000
section
variable {w w1 w2 w0 : World} {o o1 o2 : Nat → Nat} {θ : Th} {S : PS} {M : Nat → Prop} {bs : List Nat} {R : Ending → World → Prop} {loose : List Nat}
theorem slvF {v : Sv} {A : Option Addr} {n c : Nat} (h : slV v = .slice A n c) : v = (A, n, c) := by
  obtain ⟨a1, a2, a3⟩ := v
  unfold slV at h
  simp only [Value.slice.injEq] at h
  obtain ⟨rfl, rfl, rfl⟩ := h
  rfl
theorem handles_calls (h : PM w o θ S) {l : List Nat} {v : Sv} (hv : v.2.1 = l.length) (hr : Rd LPt w v.1 v.2.2 (l.map (pb S.bs))) (hl : l.length ≤ 1048576) (hll : ∀ x ∈ l, ∃ t, slA S.D.sl x = some t)
    (hK : ∀ v' w', Below w.heap.size w w' → Own LHn w' w.heap.size 41 (slV v') l → R (.returned (slV v')) w') : Calls Tryz.prog 86 #[.slice v.1 v.2.1 v.2.2] w R := by
  refine ok86 v.1 v.2.1 v.2.2 ?_
  unfold F86
  rw [hv]
  refine ⟨by omega, by omega, by omega, ?_⟩
  refine al fun g8 w1 hb1 b1 hge1 => ?_
  have o1 : Own LHn w1 w.heap.size 41 (.slice (some ⟨g8, 0, none⟩) 0 l.length) [] := Own.made b1 hge1 (by simp [zrow, LHn]) (by simp [maxLen]; omega)
  refine ⟨fun A n c j w' => ∃ k : Nat, j = k ∧ k ≤ l.length ∧ Below w.heap.size w w' ∧ Own LHn w' w.heap.size 41 (.slice A n c) (l.take k), fun _ _ _ j _ => l.length - j.toNat, ⟨0, rfl, by omega, hb1, by simpa using o1⟩, ?_⟩
  rintro A n c j w2 ⟨k, rfl, hk, hb2, ho⟩
  unfold F86_l3
  refine brd (fun hlt => ?_) (fun hge => ?_)
  · have hk2 : k < l.length := by omega
    refine (hr.keep hb2).pt (by rw [List.length_map]) rfl (k := k) (by rw [List.length_map]; exact hk2) fun bb oo cc => ?_
    rw [List.getElem_map] at cc
    simp only [cc, Addr.add_mk, List.getElem?_toArray, List.getElem?_cons_zero, List.getElem?_cons_succ, LdI_some, LdB_some, LdStr_some, LdP_some, LdSl_some, LdM_some, Nat.zero_add, Br_t, Br_f]
    obtain ⟨t, ht⟩ := hll l[k] (List.getElem_mem hk2)
    refine hnd_calls (h.below hb2) ht fun w3 hb3 => ⟨_, rfl, ?_⟩
    have B3 := btr hb2 hb2.size hb3
    refine ap1 (L := LHn) (x := l[k]) (xs := l.take k) (.int .u64 0) 8 rfl (by kernel_rfl) (by kernel_rfl) (by kernel_rfl) (ho.keep hb3) B3.size (by rw [List.length_take]; omega) (by rw [List.length_take]; simp [maxLen]; omega) fun A' c' w4 o4 g4 => ⟨A', _, c', rfl, inR_i64 (by omega) (by omega), ⟨k + 1, by simp, by omega, B3.trans g4.below, ?_⟩, (by first | omega | (dsimp only; omega))⟩
    rw [List.take_succ_eq_append_getElem hk2]; exact o4
  · have hk2 : k = l.length := by omega
    subst hk2
    rw [List.take_length] at ho
    exact hK (A, n, c) w2 hb2 ho
theorem Kids_calls (h : PM w o θ S) (hA : WfA (slA S.D.sl) S.D.roots loose) (hf : S.D.sl.length ≤ 4096) {x : Nat} {s : Sl} (hx : slA S.D.sl x = some s)
    (hK : ∀ v' w', Below w.heap.size w w' → Own LHn w' w.heap.size 41 (slV v') s.kids → R (.returned (.tuple #[slV v', .int .i64 0])) w') : Calls Tryz.prog 63 #[.pointer (some ⟨θ.g, 0, none⟩), .int .u64 (x : Nat)] w R := by
  refine ok63 (some ⟨θ.g, 0, none⟩) x ?_
  unfold F63
  obtain ⟨i, i1, i2, i3, i4⟩ := h.of hx
  have hgen := (h.rng s (List.mem_of_getElem? i3)).gen
  have hxl : x < 18446744073709551616 := by
    obtain ⟨k, k1, k2, k3, k4⟩ := slA_iff.1 hx
    have := (List.getElem?_eq_some_iff.1 k2).1
    unfold hnd at k4; omega
  refine atL_calls h hxl fun w1 hb1 => ⟨_, rfl, ?_⟩
  have e : ptrL S x = some ⟨pb S.bs x, 0, none⟩ := by unfold ptrL; rw [hx]; rfl
  rw [e]
  simp only [Option.isNone_some, Br_f, NonNil_some, Addr.add_mk, Nat.zero_add]
  have h1 := h.below hb1
  obtain ⟨v, cv, ov, rv⟩ := h1.cKids i2 i3
  obtain ⟨A, c, hvf, hrd⟩ := ov.form
  have e1 := slvF hvf
  have cv' : w1.cell? ⟨pb S.bs x, 8, none⟩ = some (.slice v.1 v.2.1 v.2.2) := cv
  simp only [cv', Addr.add_mk, List.getElem?_toArray, List.getElem?_cons_zero, List.getElem?_cons_succ, LdI_some, LdB_some, LdStr_some, LdP_some, LdSl_some, LdM_some, Nat.zero_add, Br_t, Br_f]
  refine handles_calls h1 (v := v) (l := s.kids) (by rw [e1]; simp) (by rw [e1]; exact hrd) (Nat.le_trans (live_few (fun y hy => by obtain ⟨_, t, ht, _⟩ := (hA.kid x s hx).2 y hy; exact ⟨t, ht⟩) (hA.kid x s hx).1) (by omega)) (fun y hy => by obtain ⟨_, t, ht, _⟩ := (hA.kid x s hx).2 y hy; exact ⟨t, ht⟩) fun v' w2 hb2 ho => ⟨_, _, _, rfl, ?_⟩
  exact hK v' w2 (btr hb1 hb1.size hb2) (ho.rebase fun k hk => Nat.le_trans hb1.size (ho.lt k hk).1)
theorem Roots_calls (h : PM w o θ S) (hA : WfA (slA S.D.sl) S.D.roots loose)
    (hK : ∀ v' w', Below w.heap.size w w' → Own LHn w' w.heap.size 41 (slV v') S.D.roots → R (.returned (slV v')) w') : Calls Tryz.prog 65 #[.pointer (some ⟨θ.g, 0, none⟩)] w R := by
  refine ok65 (some ⟨θ.g, 0, none⟩) ?_
  unfold F65
  obtain ⟨nv, rv, hd⟩ := h.doc
  obtain ⟨A, c, hvf, hrd⟩ := hd.r1.form
  have e1 := slvF hvf
  have cv' : w.cell? ⟨θ.g, 1, none⟩ = some (.slice rv.1 rv.2.1 rv.2.2) := by rw [hd.blk.cell]; rfl
  simp only [NonNil_some, Addr.add_mk, Nat.zero_add, cv', Addr.add_mk, List.getElem?_toArray, List.getElem?_cons_zero, List.getElem?_cons_succ, LdI_some, LdB_some, LdStr_some, LdP_some, LdSl_some, LdM_some, Nat.zero_add, Br_t, Br_f]
  exact handles_calls h (v := rv) (l := S.D.roots) (by rw [e1]; simp) (by rw [e1]; exact hrd) h.rts.2 (fun y hy => by obtain ⟨_, t, ht, _⟩ := hA.root.2 y hy; exact ⟨t, ht⟩) fun v' w2 hb2 ho => ⟨_, _, _, rfl, hK v' w2 hb2 ho⟩
theorem hx_lt (h : PM w o θ S) {x : Nat} {s : Sl} (hx : slA S.D.sl x = some s) : x < 18446744073709551616 := by
  obtain ⟨i, i1, i2, i3, i4⟩ := h.of hx
  have hgen := (h.rng s (List.mem_of_getElem? i3)).gen
  have hf := h.few
  obtain ⟨k, k1, k2, k3, k4⟩ := slA_iff.1 hx
  have := (List.getElem?_eq_some_iff.1 k2).1
  unfold hnd at k4; omega
theorem Level_calls (h : PM w o θ S) {x c : Nat} {s : Sl} (hx : slA S.D.sl x = some s) (hc : Ch (slA S.D.sl) x c) (hc2 : c ≤ 64)
    (hK : ∀ w', Below w.heap.size w w' → R (.returned (.tuple #[.int .i64 ((c : Nat) - 1 : Int), .int .i64 0])) w') : Calls Tryz.prog 32 #[.pointer (some ⟨θ.g, 0, none⟩), .int .u64 (x : Nat)] w R := by
  refine ok32 (some ⟨θ.g, 0, none⟩) x ?_
  unfold F32
  refine atL_calls h (hx_lt h hx) fun w1 hb1 => ⟨_, rfl, ?_⟩
  have e : ptrL S x = some ⟨pb S.bs x, 0, none⟩ := by unfold ptrL; rw [hx]; rfl
  have x0 : x ≠ 0 := fun e => by subst e; rw [slA_zero] at hx; cases hx
  have e2 : ptrH S.bs x = some ⟨pb S.bs x, 0, none⟩ := by unfold ptrH; rw [if_neg x0]
  rw [e]
  simp only [Option.isNone_some, Br_f]
  rw [← e2]
  exact level_calls (h.below hb1) (slA_zero _) hc hc2 ⟨_, rfl, hK w1 hb1⟩
theorem Parent_calls (h : PM w o θ S) (hA : WfA (slA S.D.sl) S.D.roots loose) {x : Nat} {s : Sl} (hx : slA S.D.sl x = some s)
    (hK : ∀ w', Below w.heap.size w w' → R (.returned (.tuple #[.int .u64 (s.parent : Nat), .int .i64 0])) w') : Calls Tryz.prog 64 #[.pointer (some ⟨θ.g, 0, none⟩), .int .u64 (x : Nat)] w R := by
  refine ok64 (some ⟨θ.g, 0, none⟩) x ?_
  unfold F64
  obtain ⟨i, i1, i2, i3, i4⟩ := h.of hx
  refine atL_calls h (hx_lt h hx) fun w1 hb1 => ⟨_, rfl, ?_⟩
  have e : ptrL S x = some ⟨pb S.bs x, 0, none⟩ := by unfold ptrL; rw [hx]; rfl
  rw [e]
  have h1 := h.below hb1
  simp only [Option.isNone_some, Br_f, NonNil_some, Addr.add_mk, Nat.zero_add, h1.cPar i2 i3, Addr.add_mk, List.getElem?_toArray, List.getElem?_cons_zero, List.getElem?_cons_succ, LdI_some, LdB_some, LdStr_some, LdP_some, LdSl_some, LdM_some, Nat.zero_add, Br_t, Br_f]
  rcases hA.par x s hx with hp | ⟨t, ht, _⟩
  · have e2 : ptrH S.bs s.parent = none := by unfold ptrH; rw [if_pos hp]
    rw [e2]
    refine hndN_calls ⟨_, rfl, ?_⟩
    have := hK w1 hb1
    rw [hp] at this; exact this
  · have p0 : s.parent ≠ 0 := fun e => by rw [e, slA_zero] at ht; cases ht
    have e2 : ptrH S.bs s.parent = some ⟨pb S.bs s.parent, 0, none⟩ := by unfold ptrH; rw [if_neg p0]
    rw [e2]
    exact hnd_calls h1 ht fun w2 hb2 => ⟨_, rfl, hK w2 (btr hb1 hb1.size hb2)⟩
theorem all_fewP {D : Im} (hS : WfS D.sl) (hA : WfA (slA D.sl) D.roots []) {r x : Nat} (hx : ∃ s, slA D.sl x = some s) : (allA (slA D.sl) r x).length ≤ 4096 :=
  Nat.le_trans (live_few (fun y hy => all_live hA hx (fun z hz => by simp at hz) hy) (all_nodup hA r x hx fun z hz => by simp at hz)) hS.few
theorem allP_calls (h : PM w0 o θ S) (hA : WfA (slA S.D.sl) S.D.roots loose) : ∀ (r : Nat) {l : List Nat} {v : Sv} {cc : Nat} {w : World} {A : Option Addr} {n c : Nat} {xs : List Nat} {R : Ending → World → Prop}, v.2.1 = l.length → Rd LPt w0 v.1 v.2.2 (l.map (pb S.bs)) → l.length ≤ 1048576 → (∀ x ∈ l, ∃ t, slA S.D.sl x = some t ∧ Ch (slA S.D.sl) x cc) → 65 ≤ cc + r →
    Below w0.heap.size w0 w → Own LHn w w0.heap.size 41 (.slice A n c) xs → xs.length + (l.flatMap (allA (slA S.D.sl) r)).length ≤ 4398046511104 →
    (∀ A' n' c' w', Below w0.heap.size w0 w' → Own LHn w' w0.heap.size 41 (.slice A' n' c') (xs ++ l.flatMap (allA (slA S.D.sl) r)) → R (.returned (.slice A' n' c')) w') →
    Calls Tryz.prog 136 #[.slice v.1 v.2.1 v.2.2, .slice A n c] w R := by
  intro r
  induction r with
  | zero =>
    intro l v cc w A n c xs R hv hr hl hll hcr hb ho hlen hK
    have hl0 : l = [] := by
      cases l with
      | nil => rfl
      | cons x l =>
        obtain ⟨t, t1, t2⟩ := hll x (by simp)
        obtain ⟨c', h1, h2⟩ := hA.chain x t t1
        have := t2.fn h2; omega
    subst hl0
    refine ok136 v.1 v.2.1 v.2.2 A n c ?_
    unfold F136
    refine ⟨fun A' n' c' j w' => j = 0 ∧ A' = A ∧ n' = n ∧ c' = c ∧ w' = w, fun _ _ _ _ _ => 0, ⟨rfl, rfl, rfl, rfl, rfl⟩, ?_⟩
    rintro _ _ _ _ _ ⟨rfl, rfl, rfl, rfl, rfl⟩
    unfold F136_l2
    refine brd (fun hlt => absurd hlt (by rw [hv]; simp)) (fun _ => hK _ _ _ _ hb (by simpa using ho))
  | succ r ih =>
    intro l v cc w A n c xs R hv hr hl hll hcr hb ho hlen hK
    refine ok136 v.1 v.2.1 v.2.2 A n c ?_
    unfold F136
    refine ⟨fun A' n' c' j w' => ∃ k : Nat, j = k ∧ k ≤ l.length ∧ Below w0.heap.size w0 w' ∧ Own LHn w' w0.heap.size 41 (.slice A' n' c') (xs ++ (l.take k).flatMap (allA (slA S.D.sl) (r + 1))), fun _ _ _ j _ => l.length - j.toNat, ⟨0, rfl, by omega, hb, by simpa using ho⟩, ?_⟩
    rintro A1 n1 c1 j w1 ⟨k, rfl, hk, hb1, ho1⟩
    unfold F136_l2
    refine brd (fun hlt => ?_) (fun hge => ?_)
    · have hk2 : k < l.length := by omega
      refine (hr.keep hb1).pt (by rw [List.length_map]; exact hv) rfl (k := k) (by rw [List.length_map]; exact hk2) fun bb oo cx => ?_
      rw [List.getElem_map] at cx
      simp only [cx, Addr.add_mk, List.getElem?_toArray, List.getElem?_cons_zero, List.getElem?_cons_succ, LdI_some, LdB_some, LdStr_some, LdP_some, LdSl_some, LdM_some, Nat.zero_add, Br_t, Br_f]
      obtain ⟨t, t1, t2⟩ := hll l[k] (List.getElem_mem hk2)
      obtain ⟨i, i1, i2, i3, i4⟩ := h.of t1
      have hdr : Below w1.heap.size w1 w1.drew := (Below.refl _ _).drew
      have B1d := btr hb1 hb1.size hdr
      obtain ⟨kv, ck, ok, rk⟩ := h.cKids i2 i3
      obtain ⟨Ak, ckk, hkf, hkr⟩ := ok.form
      have ek := slvF hkf
      have hkids : ∀ y ∈ t.kids, ∃ u, slA S.D.sl y = some u ∧ u.parent = l[k] := fun y hy => ((hA.kid _ t t1).2 y hy).2
      have hst : (l.take (k + 1)).flatMap (allA (slA S.D.sl) (r + 1)) = (l.take k).flatMap (allA (slA S.D.sl) (r + 1)) ++ (l[k] :: t.kids.flatMap (allA (slA S.D.sl) r)) := by
        rw [List.take_succ_eq_append_getElem hk2, List.flatMap_append, ← allA_some t1]; simp
      have hle : ((l.take (k + 1)).flatMap (allA (slA S.D.sl) (r + 1))).length ≤ (l.flatMap (allA (slA S.D.sl) (r + 1))).length := by
        have e : l.flatMap (allA (slA S.D.sl) (r + 1)) = (l.take (k + 1)).flatMap (allA (slA S.D.sl) (r + 1)) ++ (l.drop (k + 1)).flatMap (allA (slA S.D.sl) (r + 1)) := by rw [← List.flatMap_append, List.take_append_drop]
        rw [e, List.length_append]; omega
      rw [hst, List.length_append, List.length_cons] at hle
      refine ⟨fun w' => Below w0.heap.size w0 w', B1d, ?_⟩
      simp only [NonNil_some, Addr.add_mk, Nat.zero_add]
      refine ⟨kv.1, kv.2.1, kv.2.2, fun w' hw => (sub_below hw).cell ck, ?_⟩
      refine hnd_calls (h.below B1d) t1 fun w2 hb2 => ⟨_, rfl, ?_⟩
      have B2 := btr B1d B1d.size hb2
      refine ⟨B2, ?_⟩
      refine ap1S (L := LHn) (x := l[k]) (S := fun w' => Below w0.heap.size w0 w') (.int .u64 0) 8 rfl (by kernel_rfl) (by kernel_rfl) (by kernel_rfl) ((ho1.keep hdr).keep hb2) B2.size (by simp only [List.length_append]; omega) (by simp only [maxLen, List.length_append]; omega) (fun w' hb' => btr B2 B2.size hb') fun A3 c3 w3 o3 g3 => ⟨A3, _, c3, rfl, ?_⟩
      have B3 := B2.trans g3.below
      refine ⟨B3, ?_⟩
      refine ih (l := t.kids) (v := kv) (cc := cc + 1) (by rw [ek]; simp) (by rw [ek]; exact hkr) (Nat.le_trans (live_few (fun y hy => by obtain ⟨u, hu, _⟩ := hkids y hy; exact ⟨u, hu⟩) (hA.kid _ t t1).1) (by have := h.few; omega)) (fun y hy => by
        obtain ⟨u, u1, u2⟩ := hkids y hy
        exact ⟨u, u1, .succ (hA.ne0 u1) u1 (by rw [u2]; exact t2)⟩) (by omega) B3 o3 (by simp only [List.length_append, List.length_singleton]; omega) fun A4 n4 c4 w4 hb4 o4 => ⟨A4, n4, c4, rfl, inR_i64 (by omega) (by omega), ⟨k + 1, by simp, by omega, hb4, ?_⟩, (by first | omega | (dsimp only; omega))⟩
      rw [hst, ← List.append_assoc]
      rw [List.append_assoc _ [l[k]], List.singleton_append] at o4
      exact o4
    · have hk2 : k = l.length := by omega
      subst hk2
      rw [List.take_length] at ho1
      exact hK _ _ _ _ hb1 ho1
theorem AllT_calls (h : PM w o θ S) (hS : WfS S.D.sl) (hA : WfA (slA S.D.sl) S.D.roots []) {x : Nat} (hxl : x < 18446744073709551616) (h0 : x ≠ 0)
    (hK : ∀ v' w', Below w.heap.size w w' → (∀ s, slA S.D.sl x = some s → Own LHn w' w.heap.size 41 (slV v') (allA (slA S.D.sl) 65 x)) → R (.returned (.tuple #[slV v', .int .i64 (if (slA S.D.sl x).isSome = true then 0 else 8)])) w') : Calls Tryz.prog 128 #[.pointer (some ⟨θ.g, 0, none⟩), .int .u64 (x : Nat)] w R := by
  refine ok128 (some ⟨θ.g, 0, none⟩) x ?_
  unfold F128
  refine bre (fun e => absurd (by omega) h0) (fun _ => ?_)
  refine atL_calls h hxl fun w1 hb1 => ⟨_, rfl, ?_⟩
  have h1 := h.below hb1
  cases hx : slA S.D.sl x with
  | none =>
    have e : ptrL S x = none := by unfold ptrL; rw [hx]; rfl
    rw [e]
    simp only [Option.isNone_none, Br_t]
    have := hK (none, 0, 0) w1 hb1 (fun s hs => by rw [hx] at hs; cases hs)
    rw [hx] at this
    exact this
  | some s =>
    have e : ptrL S x = some ⟨pb S.bs x, 0, none⟩ := by unfold ptrL; rw [hx]; rfl
    rw [e]
    simp only [Option.isNone_some, Br_f]
    refine al fun g20 w2 hb2 b2 hge2 => ?_
    have B2 := btr hb1 hb1.size hb2
    obtain ⟨c, c1, c2⟩ := hA.chain x s hx
    have hlen := all_fewP hS hA (r := 65) ⟨s, hx⟩
    have hone : ([x] : List Nat).flatMap (allA (slA S.D.sl) 65) = allA (slA S.D.sl) 65 x := by simp
    refine allP_calls (h.below B2) hA 65 (l := [x]) (v := (some ⟨g20, 0, none⟩, 1, 1)) (cc := c) (xs := []) rfl ?_ (by simp) (fun y hy => by rw [List.mem_singleton] at hy; subst hy; exact ⟨s, hx, c2⟩) (by omega) (Below.refl _ _) (.inl ⟨rfl, rfl⟩) (by rw [hone]; simp only [List.length_nil]; omega) fun A' n' c' w' hb' ho' => ⟨A', n', c', rfl, ?_⟩
    · refine ⟨by simp, by simp [maxLen], fun h0 => (by cases h0), fun _ => ⟨g20, 0, rfl, fun j u hj => ?_⟩⟩
      rw [List.map_singleton, LPt.all_one] at hj
      rw [b2.cell]; simpa [LPt] using hj
    · rw [hone, List.nil_append] at ho'
      have := hK (A', n', c') w' (btr B2 B2.size hb') (fun s' _ => ho'.rebase fun k hk => Nat.le_trans B2.size (ho'.lt k hk).1)
      rw [hx] at this
      exact this
end
end Go.Proofs.YthbeeonmfbigcaaGreatDoor
/- Maps whose keys are integers: what their operations do, over a plain function. -/
namespace Go.Proofs.YthbeeonmfbigcaaGreatDoor
open Go.RowKit Go.Vc
set_option linter.unusedVariables false
set_option linter.unusedSimpArgs false
set_option maxRecDepth 100000
structure MpE (q : IntKind) (es : Array MapEntry) (clock : Nat) (f : Int → Option Value) : Prop where
  key : ∀ x ∈ es.toList, ∃ k, x.key = .int q k ∧ f k = some x.val
  has : ∀ k v, f k = some v → ∃ x ∈ es.toList, x.key = .int q k
  one : (es.toList.map (·.key)).Nodup
  born : ∀ x ∈ es.toList, x.born < clock
  age : (es.toList.map (·.born)).Nodup
def Mp (q : IntKind) (w : World) (b : Nat) (f : Int → Option Value) : Prop := ∃ es clock, w.heap[b]? = some (.map es clock) ∧ MpE q es clock f
theorem findNow_int {q : IntKind} {k : Int} : ∀ (l : List MapEntry) (i : Nat), (∀ x ∈ l, ∃ a, x.key = .int q a) →
    (Instr.findNow (.int q) (.int q k) l i = some none ∧ ∀ x ∈ l, x.key ≠ .int q k) ∨ ∃ j x, l[j]? = some x ∧ x.key = .int q k ∧ Instr.findNow (.int q) (.int q k) l i = some (some (i + j, x.val))
  | [], i, _ => .inl ⟨rfl, fun x h => by simp at h⟩
  | x :: l, i, h => by
    obtain ⟨a, ha⟩ := h x (by simp)
    by_cases hk : k = a
    · subst hk
      refine .inr ⟨0, x, rfl, ha, ?_⟩
      simp [Instr.findNow, ha, Instr.sameNow]
    · have e : Instr.findNow (.int q) (.int q k) (x :: l) i = Instr.findNow (.int q) (.int q k) l (i + 1) := by
        have hb : (k == a) = false := by simpa using hk
        simp [Instr.findNow, ha, Instr.sameNow, hb]
      rcases findNow_int l (i + 1) fun y hy => h y (by simp [hy]) with ⟨h1, h2⟩ | ⟨j, y, h1, h2, h3⟩
      · refine .inl ⟨by rw [e, h1], fun y hy => ?_⟩
        rcases List.mem_cons.1 hy with rfl | hy
        · rw [ha]; intro h; injection h with _ h; exact hk h.symm
        · exact h2 y hy
      · exact .inr ⟨j + 1, y, by simpa using h1, h2, by rw [e, h3]; congr 2; simp; omega⟩
section
variable {P : Program} {q : IntKind} {w : World} {b : Nat} {f : Int → Option Value} {t kt et : TypeId}
theorem Mp.find (h : Mp q w b f) (k : Int) : ∃ es clock, w.heap[b]? = some (.map es clock) ∧ MpE q es clock f ∧
    ((f k = none ∧ Instr.findNow (.int q) (.int q k) es.toList 0 = some none) ∨ ∃ j x, es.toList[j]? = some x ∧ x.key = .int q k ∧ f k = some x.val ∧ Instr.findNow (.int q) (.int q k) es.toList 0 = some (some (j, x.val))) := by
  obtain ⟨es, clock, hb, he⟩ := h
  refine ⟨es, clock, hb, he, ?_⟩
  rcases findNow_int (k := k) es.toList 0 fun x hx => (he.key x hx).imp fun _ h => h.1 with ⟨h1, h2⟩ | ⟨j, x, h1, h2, h3⟩
  · refine .inl ⟨?_, h1⟩
    cases hf : f k with
    | none => rfl
    | some v =>
      obtain ⟨x, hx, hk⟩ := he.has k v hf
      exact absurd hk (h2 x hx)
  · refine .inr ⟨j, x, h1, h2, ?_, by simpa using h3⟩
    obtain ⟨a, ha, hv⟩ := he.key x (List.mem_of_getElem? h1)
    rw [h2] at ha; injection ha with _ ha; subst ha; exact hv
theorem Mp.look (h : Mp q w b f) (ht : P.underlying t = some (.map kt et)) (hk : P.underlying kt = some (.int q)) {z : Value} (hz : (zeroValue et).run P w = .ok z w) (k : Int) (c : Bool) {K : Value → World → Prop}
    (hK : K (if c then .tuple #[(f k).getD z, .bool (f k).isSome] else (f k).getD z) w) : Raw P (Instr.lookup t (.map (some b)) (.int q k) c) w K := by
  obtain ⟨es, clock, hb, he, h2⟩ := h.find k
  have hc : (Instr.checkKey es.isEmpty 10000 kt (.int q k)).run P w = .ok () w := MapKept.run_checkKey (k := .int q k) hk (by simp [MapKept.IsKey]) _ 9999
  rcases h2 with ⟨h1, h2⟩ | ⟨j, x, h3, h4, h1, h2⟩
  · rw [h1] at hK
    refine ⟨_, w, ?_, hK⟩
    simp [Instr.lookup, run_underlying ht, MapKept.run_getObj_map hb, hc, MapKept.run_findKey hk h2, hz, Result.andThen]
  · rw [h1] at hK
    refine ⟨_, w, ?_, hK⟩
    simp [Instr.lookup, run_underlying ht, MapKept.run_getObj_map hb, hc, MapKept.run_findKey hk h2, Result.andThen]
def upd (f : Int → Option Value) (k : Int) (v : Option Value) : Int → Option Value := fun j => if j = k then v else f j
theorem Mp.lt (h : Mp q w b f) : b < w.heap.size := by
  obtain ⟨es, clock, hb, _⟩ := h; exact (Array.getElem?_eq_some_iff.1 hb).1
theorem MpE.push {es : Array MapEntry} {clock : Nat} (he : MpE q es clock f) {k : Int} (hk : f k = none) (v : Value) : MpE q (es.push ⟨.int q k, v, clock⟩) (clock + 1) (upd f k (some v)) := by
  have hne : ∀ x ∈ es.toList, ∀ a, x.key = .int q a → a ≠ k := fun x hx a ha e => by
    obtain ⟨a', h1, h2⟩ := he.key x hx
    rw [ha] at h1; injection h1 with _ h1; subst h1; subst e; rw [hk] at h2; cases h2
  refine ⟨fun x hx => ?_, fun j u hu => ?_, ?_, fun x hx => ?_, ?_⟩
  · rw [Array.toList_push] at hx
    rcases List.mem_append.1 hx with hx | hx
    · obtain ⟨a, h1, h2⟩ := he.key x hx
      exact ⟨a, h1, by unfold upd; rw [if_neg (hne x hx a h1)]; exact h2⟩
    · rw [List.mem_singleton] at hx; subst hx
      exact ⟨k, rfl, by unfold upd; rw [if_pos rfl]⟩
  · unfold upd at hu
    by_cases e : j = k
    · subst e; exact ⟨⟨.int q j, v, clock⟩, by simp, rfl⟩
    · rw [if_neg e] at hu
      obtain ⟨x, hx, h1⟩ := he.has j u hu
      exact ⟨x, by simp [Array.mem_toList_iff.1 hx], h1⟩
  · rw [Array.toList_push, List.map_append, List.nodup_append]
    refine ⟨he.one, by simp, fun x hx y hy e => ?_⟩
    rw [List.map_singleton, List.mem_singleton] at hy
    obtain ⟨z, hz, rfl⟩ := List.mem_map.1 hx
    obtain ⟨a, h1, -⟩ := he.key z hz
    rw [h1, hy] at e; injection e with _ e
    exact hne z hz a h1 e
  · rw [Array.toList_push] at hx
    rcases List.mem_append.1 hx with hx | hx
    · have := he.born x hx; omega
    · rw [List.mem_singleton] at hx; subst hx; exact Nat.lt_succ_self _
  · rw [Array.toList_push, List.map_append, List.nodup_append]
    refine ⟨he.age, by simp, fun x hx y hy e => ?_⟩
    rw [List.map_singleton, List.mem_singleton] at hy
    obtain ⟨z, hz, rfl⟩ := List.mem_map.1 hx
    have := he.born z hz
    simp only at hy e
    omega
theorem modify_list (es : Array MapEntry) (j : Nat) (g : MapEntry → MapEntry) : (es.modify j g).toList = es.toList.modify j g := Array.toList_modify
theorem map_modify_same {α β : Type} (p : α → β) (g : α → α) : ∀ (l : List α) (j : Nat), (∀ x, l[j]? = some x → p (g x) = p x) → (l.modify j g).map p = l.map p
  | [], j, _ => by cases j <;> rfl
  | x :: l, 0, h => by simp [List.modify, h x rfl]
  | x :: l, j + 1, h => by simpa using map_modify_same p g l j fun y hy => h y (by simpa using hy)
theorem mem_modify {α : Type} (g : α → α) : ∀ (l : List α) (j : Nat) (y : α), l[j]? = some y → ∀ x, x ∈ l.modify j g → x = g y ∨ ∃ i, i ≠ j ∧ l[i]? = some x
  | [], j, y, h, x, hx => by simp at h
  | a :: l, 0, y, h, x, hx => by
    simp at h; subst h
    rw [List.modify_zero_cons] at hx
    rcases List.mem_cons.1 hx with rfl | hx
    · exact .inl rfl
    · obtain ⟨i, hi⟩ := List.mem_iff_getElem?.1 hx
      exact .inr ⟨i + 1, by omega, by simpa using hi⟩
  | a :: l, j + 1, y, h, x, hx => by
    rw [List.modify_succ_cons] at hx
    rcases List.mem_cons.1 hx with rfl | hx
    · exact .inr ⟨0, by omega, rfl⟩
    · rcases mem_modify g l j y (by simpa using h) x hx with h1 | ⟨i, h1, h2⟩
      · exact .inl h1
      · exact .inr ⟨i + 1, by omega, by simpa using h2⟩
theorem MpE.put {es : Array MapEntry} {clock : Nat} (he : MpE q es clock f) {k : Int} {j : Nat} {y : MapEntry} (hj : es.toList[j]? = some y) (hy : y.key = .int q k) (v : Value) :
    MpE q (es.modify j fun e => { e with key := .int q k, val := v }) clock (upd f k (some v)) := by
  have hym := List.mem_of_getElem? hj
  have hkeys : (es.modify j fun e => { e with key := .int q k, val := v }).toList.map (·.key) = es.toList.map (·.key) := by
    rw [modify_list]; exact map_modify_same _ _ _ _ fun x hx => by rw [hj] at hx; cases hx; exact hy.symm
  have hborn : (es.modify j fun e => { e with key := .int q k, val := v }).toList.map (·.born) = es.toList.map (·.born) := by
    rw [modify_list]; exact map_modify_same _ _ _ _ fun x hx => rfl
  refine ⟨fun x hx => ?_, fun i u hu => ?_, by rw [hkeys]; exact he.one, fun x hx => ?_, by rw [hborn]; exact he.age⟩
  · rw [modify_list] at hx
    rcases mem_modify _ _ _ y hj x hx with rfl | ⟨i, hi, hx2⟩
    · exact ⟨k, rfl, by unfold upd; rw [if_pos rfl]⟩
    · obtain ⟨a, h1, h2⟩ := he.key x (List.mem_of_getElem? hx2)
      refine ⟨a, h1, ?_⟩
      have hne : a ≠ k := fun e => by
        subst e
        obtain ⟨l1, l2⟩ := List.getElem?_eq_some_iff.1 hx2
        obtain ⟨m1, m2⟩ := List.getElem?_eq_some_iff.1 hj
        have hpw := List.pairwise_iff_getElem.1 he.one
        rcases Nat.lt_or_gt_of_ne hi with h3 | h3
        · have := hpw i j (by simpa using l1) (by simpa using m1) h3
          simp only [List.getElem_map, l2, m2] at this
          exact this (by rw [h1, hy])
        · have := hpw j i (by simpa using m1) (by simpa using l1) h3
          simp only [List.getElem_map, l2, m2] at this
          exact this (by rw [h1, hy])
      unfold upd; rw [if_neg hne]; exact h2
  · have hex : ∃ x ∈ es.toList, x.key = .int q i := by
      unfold upd at hu
      by_cases e : i = k
      · subst e; exact ⟨y, hym, hy⟩
      · rw [if_neg e] at hu; exact he.has i u hu
    obtain ⟨x, hx, h1⟩ := hex
    have : Value.int q i ∈ (es.modify j fun e => { e with key := .int q k, val := v }).toList.map (·.key) := by
      rw [hkeys]; exact List.mem_map.2 ⟨x, hx, h1⟩
    obtain ⟨x', hx', h2⟩ := List.mem_map.1 this
    exact ⟨x', hx', h2⟩
  · have : x.born ∈ es.toList.map (·.born) := by rw [← hborn]; exact List.mem_map.2 ⟨x, hx, rfl⟩
    obtain ⟨z, hz, h1⟩ := List.mem_map.1 this
    rw [← h1]; exact he.born z hz
theorem set_fm (w : World) (b : Nat) (o : Obj) : Fm (· = b) w { w with heap := w.heap.setIfInBounds b o } :=
  ⟨rfl, rfl, rfl, by simp, fun i hi hne => by
    show (w.heap.setIfInBounds b o)[i]? = _
    rw [Array.getElem?_setIfInBounds_ne (fun e => hne e.symm)]⟩
theorem Mp.update (h : Mp q w b f) (ht : P.underlying t = some (.map kt et)) (hk : P.underlying kt = some (.int q)) (k : Int) (v : Value) {K : World → Prop}
    (hK : ∀ w', Mp q w' b (upd f k (some v)) → Fm (· = b) w w' → K w') : Raw P (Instr.mapUpdate t (.map (some b)) (.int q k) v) w fun _ w' => K w' := by
  obtain ⟨es, clock, hb, he, h2⟩ := h.find k
  have hlt := (Array.getElem?_eq_some_iff.1 hb).1
  have hc : (Instr.checkKey false 10000 kt (.int q k)).run P w = .ok () w := MapKept.run_checkKey (k := .int q k) hk (by simp [MapKept.IsKey]) _ 9999
  rcases h2 with ⟨h1, h2⟩ | ⟨j, x, h3, h4, h1, h2⟩
  · refine ⟨(), { w with heap := w.heap.setIfInBounds b (.map (es.push ⟨.int q k, v, clock⟩) (clock + 1)) }, ?_, hK _ ⟨_, _, ?_, he.push h1 v⟩ (set_fm _ _ _)⟩
    · simp [Instr.mapUpdate, run_underlying ht, MapKept.run_getObj_map hb, hc, MapKept.run_findKey hk h2, MapKept.run_setObj_map _ hb, Result.andThen]
    · simp [hlt]
  · refine ⟨(), { w with heap := w.heap.setIfInBounds b (.map (es.modify j fun e => { e with key := .int q k, val := v }) clock) }, ?_, hK _ ⟨_, _, ?_, he.put h3 h4 v⟩ (set_fm _ _ _)⟩
    · have hj : (es[j]?).map (·.key) = some (.int q k) := by
        rw [← Array.getElem?_toList, h3, Option.map_some, h4]
      have hst : (Instr.keyThatStays (.int q k) (.int q k)).run P w = .ok (.int q k) w := MapKept.run_keyThatStays (d := .int q) (by simp [MapKept.IsKey])
      simp only [Instr.mapUpdate, Sem.run_bind, run_underlying ht, MapKept.run_getObj_map hb, hc, MapKept.run_findKey hk h2, MapKept.run_setObj_map _ hb, Result.andThen, hj, hst, Option.getD_some]
    · simp [hlt]
theorem Mp.made (w : World) (q : IntKind) : Mp q (w.alloc (.map #[] 0)) w.heap.size fun _ => none :=
  ⟨#[], 0, heap_alloc_new _ _, ⟨fun x hx => by simp at hx, fun k v h => by simp at h, by simp, fun x hx => by simp at hx, by simp⟩⟩
theorem Mp.fm {M : Nat → Prop} {w1 : World} (h : Mp q w b f) (hf : Fm M w w1) (hm : ¬ M b) : Mp q w1 b f := by
  obtain ⟨es, clock, hb, he⟩ := h
  exact ⟨es, clock, by rw [hf.block b (Array.getElem?_eq_some_iff.1 hb).1 hm]; exact hb, he⟩
end
end Go.Proofs.YthbeeonmfbigcaaGreatDoor
/- Maps with integer keys: what is taken away; how many there are. -/
namespace Go.Proofs.YthbeeonmfbigcaaGreatDoor
open Go.RowKit Go.Vc
set_option linter.unusedVariables false
set_option linter.unusedSimpArgs false
set_option maxRecDepth 100000
section
variable {P : Program} {q : IntKind} {w : World} {b : Nat} {f : Int → Option Value} {t kt et : TypeId}
theorem erase_list (es : Array MapEntry) (j : Nat) : (es.eraseIdxIfInBounds j).toList = es.toList.eraseIdx j := by
  unfold Array.eraseIdxIfInBounds
  split
  · simp
  · rename_i h
    rw [List.eraseIdx_of_length_le (by simpa using h)]
theorem MpE.drop {es : Array MapEntry} {clock : Nat} (he : MpE q es clock f) {k : Int} {j : Nat} {y : MapEntry} (hj : es.toList[j]? = some y) (hy : y.key = .int q k) : MpE q (es.eraseIdxIfInBounds j) clock (upd f k none) := by
  have hl := erase_list es j
  have hsub : (es.toList.eraseIdx j).Sublist es.toList := List.eraseIdx_sublist _ _
  have hmem : ∀ x ∈ es.toList.eraseIdx j, x ∈ es.toList ∧ x.key ≠ .int q k := fun x hx => by
    refine ⟨hsub.subset hx, fun e => ?_⟩
    obtain ⟨i, hi⟩ := List.mem_iff_getElem?.1 hx
    rw [List.getElem?_eraseIdx] at hi
    have hn := he.one
    have key : ∀ i', i' ≠ j → es.toList[i']? = some x → False := fun i' hne hi' => by
      obtain ⟨h1, h2⟩ := List.getElem?_eq_some_iff.1 hi'
      obtain ⟨h3, h4⟩ := List.getElem?_eq_some_iff.1 hj
      have hp := List.pairwise_iff_getElem.1 hn
      rcases Nat.lt_or_ge i' j with h | h
      · have := hp i' j (by simpa using h1) (by simpa using h3) h
        rw [List.getElem_map, List.getElem_map, h2, h4, e, hy] at this
        exact this rfl
      · have := hp j i' (by simpa using h3) (by simpa using h1) (by omega)
        rw [List.getElem_map, List.getElem_map, h2, h4, e, hy] at this
        exact this rfl
    split at hi
    · exact key i (by omega) hi
    · exact key (i + 1) (by omega) hi
  refine ⟨fun x hx => ?_, fun a u hu => ?_, ?_, fun x hx => ?_, ?_⟩
  · rw [hl] at hx
    obtain ⟨h1, h2⟩ := hmem x hx
    obtain ⟨a, h3, h4⟩ := he.key x h1
    refine ⟨a, h3, ?_⟩
    unfold upd
    rw [if_neg (fun e => h2 (by rw [h3, e]))]; exact h4
  · unfold upd at hu
    by_cases e : a = k
    · rw [if_pos e] at hu; cases hu
    · rw [if_neg e] at hu
      obtain ⟨x, hx, h1⟩ := he.has a u hu
      refine ⟨x, ?_, h1⟩
      rw [hl]
      obtain ⟨i, hi⟩ := List.mem_iff_getElem?.1 hx
      have hne : i ≠ j := fun e2 => by
        subst e2; rw [hj] at hi; cases hi
        rw [hy] at h1; injection h1 with _ h1; exact e h1.symm
      rw [List.mem_iff_getElem?]
      rcases Nat.lt_or_ge i j with h | h
      · exact ⟨i, by rw [List.getElem?_eraseIdx, if_pos h]; exact hi⟩
      · exact ⟨i - 1, by rw [List.getElem?_eraseIdx, if_neg (by omega), show i - 1 + 1 = i by omega]; exact hi⟩
  · rw [hl]; exact he.one.sublist (hsub.map _)
  · rw [hl] at hx; exact he.born x (hsub.subset hx)
  · rw [hl]; exact he.age.sublist (hsub.map _)
theorem Mp.del (h : Mp q w b f) (ht : P.underlying t = some (.map kt et)) (hk : P.underlying kt = some (.int q)) (k : Int) {ty : TypeId} {K : Value → World → Prop}
    (hK : ∀ w1, Mp q w1 b (upd f k none) → Fm (· = b) w w1 → K (.tuple #[]) w1) : Raw P (Builtin.delete_ #[t, kt] ty #[.map (some b), .int q k]) w K := by
  obtain ⟨es, clock, hb, he, h2⟩ := h.find k
  have hc : (Instr.checkKey es.isEmpty 10000 kt (.int q k)).run P w = .ok () w := MapKept.run_checkKey (k := .int q k) hk (by simp [MapKept.IsKey]) _ 9999
  rcases h2 with ⟨h1, h2⟩ | ⟨j, x, h3, h4, h1, h2⟩
  · refine ⟨_, _, ?_, hK { w with heap := w.heap.setIfInBounds b (.map es clock) } ⟨es, clock, (MapKept.heap_set hb).1, ?_⟩ (set_fm w b _)⟩
    · simp [Builtin.delete_, run_underlying ht, MapKept.run_getObj_map hb, hc, MapKept.run_findKey hk h2, MapKept.run_setObj_map _ hb, Result.andThen]
    · have e : upd f k none = f := funext fun a => by
        unfold upd
        by_cases e : a = k
        · rw [if_pos e, e, h1]
        · rw [if_neg e]
      rw [e]; exact he
  · refine ⟨_, _, ?_, hK { w with heap := w.heap.setIfInBounds b (.map (es.eraseIdxIfInBounds j) clock) } ⟨_, clock, (MapKept.heap_set hb).1, he.drop h3 h4⟩ (set_fm w b _)⟩
    simp [Builtin.delete_, run_underlying ht, MapKept.run_getObj_map hb, hc, MapKept.run_findKey hk h2, MapKept.run_setObj_map _ hb, Result.andThen]
theorem Mp.len (h : Mp q w b f) (ht : P.underlying t = some (.map kt et)) {l : List Int} (hn : l.Nodup) (hl : ∀ k, k ∈ l ↔ ∃ v, f k = some v) {ty : TypeId} {K : Value → World → Prop} (hK : K (.int .i64 (l.length : Nat)) w) :
    Raw P (Builtin.len_ #[t] ty #[.map (some b)]) w K := by
  obtain ⟨es, clock, hb, he⟩ := h
  have hsz : es.size = l.length := by
    letI : DecidableEq Value := fun a b => Classical.propDecidable (a = b)
    have h1 : (es.toList.map (·.key)).length ≤ (l.map (fun k => Value.int q k)).length := by
      refine nodup_sub he.one fun x hx => ?_
      obtain ⟨e, he', rfl⟩ := List.mem_map.1 hx
      obtain ⟨k, k1, k2⟩ := he.key e he'
      rw [k1]
      exact List.mem_map.2 ⟨k, (hl k).2 ⟨_, k2⟩, rfl⟩
    have h2 : (l.map (fun k => Value.int q k)).length ≤ (es.toList.map (·.key)).length := by
      refine nodup_sub ?_ fun x hx => ?_
      · refine List.pairwise_map.2 (hn.imp fun {a c} hac e => hac ?_)
        injection e
      · obtain ⟨k, hk, rfl⟩ := List.mem_map.1 hx
        obtain ⟨v, hv⟩ := (hl k).1 hk
        obtain ⟨x, h3, h4⟩ := he.has k v hv
        exact List.mem_map.2 ⟨x, h3, h4⟩
    simp at h1 h2; omega
  refine ⟨_, w, ?_, hK⟩
  simp [Builtin.len_, run_underlying ht, MapKept.run_getObj_map hb, hsz, goInt]
end
end Go.Proofs.YthbeeonmfbigcaaGreatDoor
