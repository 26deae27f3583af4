import Derived.Test.YtbocfedmdjkccaaTt4
/- Twigs: Find and Paths of the program; whether a pattern is straight. -/
namespace Go.Proofs.Ytbocfedmdjkccaa
open Go.RowKit Go.Vc
set_option linter.unusedVariables false
set_option linter.unusedSimpArgs false
set_option maxRecDepth 100000
def straightB : Tw → Bool
  | .mk _ _ [] => true
  | .mk _ _ [k] => straightB k
  | .mk _ _ (_ :: _ :: _) => false
def forks (a : Tw × Int) : Bool := decide (1 < a.1.kids.length)
theorem pre_forks : ∀ (t : Tw) (up : Int) (at_ : Nat), (t.pre up at_).any forks = !straightB t := by
  refine Tw.ind fun nm d ks ih => ?_
  intro up at_
  rw [Tw.pre, List.any_cons]
  match ks, ih with
  | [], _ => simp [forks, Tw.kids, preL, straightB]
  | [k], ih =>
    rw [preL, preL, List.append_nil, ih k (by simp), straightB]
    simp [forks, Tw.kids]
  | _ :: _ :: _, _ => simp [forks, Tw.kids, straightB]
theorem RTw.kn {w : World} {t : Tw} {e : E3} (h : RTw w t e) : e.sl.2.1 = t.kids.length ∧ t.kids.length ≤ 1048576 := by
  cases t
  simp only [RTw] at h
  obtain ⟨-, -, h0, es, h1, -, h3⟩ := h
  exact ⟨by rw [h1, h3.len]; rfl, h0⟩
theorem tells_forks : Tells (.func (.func 40) #[] #[]) forks := by
  intro a e w R K ht h
  refine ⟨by kernel_rfl, ?_⟩
  refine ok40 e.nm e.d e.sl.1 e.sl.2.1 e.sl.2.2 a.2 ?_
  unfold F40
  refine al fun g w1 hb1 bg hge => ?_
  have H := h w1 hb1
  simp only [Addr.add_mk, bg.cell, List.getElem?_toArray, List.getElem?_cons_zero, List.getElem?_cons_succ, Addr.add_mk, List.getElem?_toArray, List.getElem?_cons_zero, List.getElem?_cons_succ, LdI_some, LdB_some, LdStr_some, LdP_some, LdSl_some, LdM_some, Nat.zero_add, Br_t, Br_f]
  have e1 : decide (((e.sl.2.1 : Nat) : Int) > 1) = forks a := by
    unfold forks
    rw [ht.kn.1, decide_eq_decide]; omega
  rw [e1]; exact H
theorem FindP_calls (t : Tw) (e : E3) (ls : List (List Pl)) (v : Sv) (most : Int) {w : World} {R : Ending → World → Prop} (ht : RTw w t e) (hl : RLs w ls v)
    (h : ∀ u us w', Below w.heap.size w w' → OMs w' w.heap.size w'.heap.size (findL t ls most) u us → R (.returned (.tuple #[slv u, .int .i64 (findE t ls most)])) w') :
    Calls Try.prog 13 #[.agg #[.string e.nm, .bool e.d, .slice e.sl.1 e.sl.2.1 e.sl.2.2], slv v, .int .i64 most] w R := by
  refine ok13 e.nm e.d e.sl.1 e.sl.2.1 e.sl.2.2 v.1 v.2.1 v.2.2 most ?_
  unfold F13
  refine al fun gt w1 hb1 bt hge1 => ?_
  simp only [Addr.add_mk, bt.cell, List.getElem?_toArray, List.getElem?_cons_zero, List.getElem?_cons_succ, Addr.add_mk, List.getElem?_toArray, List.getElem?_cons_zero, List.getElem?_cons_succ, LdI_some, LdB_some, LdStr_some, LdP_some, LdSl_some, LdM_some, Nat.zero_add, Br_t, Br_f]
  exact findP_calls t e ls v most (ht.keep hb1) (hl.keep hb1) fun u us w2 hb2 ho => ⟨_, _, _, _, rfl, h u us w2 (btr hb1 hb1.size hb2) (ho.rebase hb1.size)⟩
def pathsE (t : Tw) (ls : List (List Pl)) (most : Int) : Int := if checkF t = 0 then if straightB t then findE t ls most else 120 else checkF t
def pathsL (t : Tw) (ls : List (List Pl)) (most : Int) : List (List Int) := if checkF t = 0 then if straightB t then findL t ls most else [] else []
theorem PathsP_calls (t : Tw) (e : E3) (ls : List (List Pl)) (v : Sv) (most : Int) {w : World} {R : Ending → World → Prop} (ht : RTw w t e) (hl : RLs w ls v)
    (h : ∀ u us w', Below w.heap.size w w' → OMs w' w.heap.size w'.heap.size (pathsL t ls most) u us → R (.returned (.tuple #[slv u, .int .i64 (pathsE t ls most)])) w') :
    Calls Try.prog 15 #[.agg #[.string e.nm, .bool e.d, .slice e.sl.1 e.sl.2.1 e.sl.2.2], slv v, .int .i64 most] w R := by
  refine ok15 e.nm e.d e.sl.1 e.sl.2.1 e.sl.2.2 v.1 v.2.1 v.2.2 most ?_
  unfold F15
  unfold pathsE pathsL at h
  refine al fun gt w1 hb1 bt hge1 => ?_
  simp only [Addr.add_mk, bt.cell, List.getElem?_toArray, List.getElem?_cons_zero, List.getElem?_cons_succ, Addr.add_mk, List.getElem?_toArray, List.getElem?_cons_zero, List.getElem?_cons_succ, LdI_some, LdB_some, LdStr_some, LdP_some, LdSl_some, LdM_some, Nat.zero_add, Br_t, Br_f]
  refine checked_calls t e (ht.keep hb1) fun pv w2 hb2 hpv => ⟨_, _, _, _, rfl, ?_⟩
  have B2 := btr hb1 hb1.size hb2
  refine brn (fun hne => ?_) (fun h0 => ?_)
  · rw [if_neg hne, if_neg hne] at h
    exact h (none, 0, 0) [] w2 B2 (OMs.nil _ _ _)
  rw [if_pos h0, if_pos h0] at h
  refine contains_calls _ pv _ _ tells_forks (hpv h0) (by have := checkF_sz h0; rw [Tw.pre_len]; omega) fun w3 hb3 => ⟨_, rfl, ?_⟩
  have B3 := btr B2 B2.size hb3
  rw [pre_forks, brnot]
  refine br (fun hs => ?_) (fun hs => ?_)
  · rw [if_pos hs, if_pos hs] at h
    have bt3 := (bt.keep hb2).keep hb3
    simp only [Addr.add_mk, bt3.cell, List.getElem?_toArray, List.getElem?_cons_zero, List.getElem?_cons_succ, Addr.add_mk, List.getElem?_toArray, List.getElem?_cons_zero, List.getElem?_cons_succ, LdI_some, LdB_some, LdStr_some, LdP_some, LdSl_some, LdM_some, Nat.zero_add, Br_t, Br_f]
    exact findP_calls t e ls v most (ht.keep B3) (hl.keep B3) fun u us w4 hb4 ho => ⟨_, _, _, _, rfl, h u us w4 (btr B3 B3.size hb4) (ho.rebase B3.size)⟩
  · rw [if_neg (by rw [hs]; decide), if_neg (by rw [hs]; decide)] at h
    exact h (none, 0, 0) [] w3 B3 (OMs.nil _ _ _)
theorem E3.inj {a b : E3} (h : a.cells = b.cells) : a = b := by
  obtain ⟨an, ad, ⟨a1, a2, a3⟩⟩ := a
  obtain ⟨bn, bd, ⟨b1, b2, b3⟩⟩ := b
  simp only [E3.cells, List.cons.injEq, Value.string.injEq, Value.bool.injEq, Value.slice.injEq, and_true] at h
  obtain ⟨rfl, rfl, rfl, rfl, rfl⟩ := h
  rfl
theorem Rd.inj {w : World} {A : Option Addr} {c c' : Nat} {xs ys : List E3} (h : Rd LE3 w A c xs) (k : Rd LE3 w A c' ys) (hl : xs.length = ys.length) : xs = ys := by
  refine List.ext_getElem hl fun i h1 h2 => E3.inj ?_
  obtain ⟨b, o, e1, c1⟩ := h.at i h1
  obtain ⟨b', o', e2, c2⟩ := k.at i h2
  rw [e1] at e2
  simp only [Option.some.injEq, Addr.mk.injEq, and_true] at e2
  obtain ⟨rfl, rfl⟩ := e2
  refine List.ext_getElem? fun j => ?_
  by_cases hj : j < 3
  · have l1 : j < (LE3.cells xs[i]).length := by rw [LE3.len]; exact hj
    have l2 : j < (LE3.cells ys[i]).length := by rw [LE3.len]; exact hj
    have g1 := c1 j _ (List.getElem?_eq_getElem l1)
    have g2 := c2 j _ (List.getElem?_eq_getElem l2)
    rw [g1] at g2
    show (LE3.cells xs[i])[j]? = (LE3.cells ys[i])[j]?
    rw [List.getElem?_eq_getElem l1, List.getElem?_eq_getElem l2, Option.some.inj g2]
  · rw [List.getElem?_eq_none (by simp [E3.cells]; omega), List.getElem?_eq_none (by simp [E3.cells]; omega)]
theorem RTw.inj {w : World} : ∀ (t : Tw) (t' : Tw) (e : E3), RTw w t e → RTw w t' e → t = t' := by
  refine Tw.ind fun nm d ks ih => ?_
  rintro ⟨nm', d', ks'⟩ e h h'
  simp only [RTw] at h h'
  obtain ⟨rfl, rfl, -, es, a1, a2, a3⟩ := h
  obtain ⟨rfl, rfl, -, es', b1, b2, b3⟩ := h'
  have he := Rd.inj a2 b2 (by omega)
  subst he
  congr 1
  have hl : ks.length = ks'.length := by rw [← a3.len, ← b3.len]
  refine List.ext_getElem hl fun i h1 h2 => ?_
  exact ih _ (List.getElem_mem _) _ _ (a3.get i h1 (by rw [a3.len]; exact h1)) (b3.get i h2 (by rw [a3.len]; exact h1))
open Classical in
/-- How great the pattern in a variable is. -/
noncomputable def szAt (g : Nat) (w : World) : Nat := if h : ∃ (n : Nat) (t : Tw) (e : E3), Blk w g #[.string e.nm, .bool e.d, .slice e.sl.1 e.sl.2.1 e.sl.2.2] 24 ∧ RTw w t e ∧ t.sz = n then h.choose else 0
theorem szAt_eq {g : Nat} {w : World} {t : Tw} {e : E3} (h1 : Blk w g #[.string e.nm, .bool e.d, .slice e.sl.1 e.sl.2.1 e.sl.2.2] 24) (h2 : RTw w t e) : szAt g w = t.sz := by
  have h : ∃ (n : Nat) (t : Tw) (e : E3), Blk w g #[.string e.nm, .bool e.d, .slice e.sl.1 e.sl.2.1 e.sl.2.2] 24 ∧ RTw w t e ∧ t.sz = n := ⟨_, t, e, h1, h2, rfl⟩
  unfold szAt
  rw [dif_pos h]
  obtain ⟨t', e', k1, k2, k3⟩ := h.choose_spec
  have : e'.cells = e.cells := by
    unfold Blk at h1 k1
    rw [h1] at k1
    simp only [Option.some.injEq, Obj.cells.injEq, and_true] at k1
    have := congrArg Array.toList k1
    simpa [E3.cells] using this.symm
  rw [E3.inj this] at k2
  rw [← k3, RTw.inj _ _ _ k2 h2]
theorem straight_calls (t : Tw) (e : E3) {w : World} {R : Ending → World → Prop} (ht : RTw w t e) (h : ∀ w', Below w.heap.size w w' → R (.returned (.bool (straightB t))) w') :
    Calls Try.prog 41 #[.agg #[.string e.nm, .bool e.d, .slice e.sl.1 e.sl.2.1 e.sl.2.2]] w R := by
  refine ok41 e.nm e.d e.sl.1 e.sl.2.1 e.sl.2.2 ?_
  unfold F41
  refine al fun gt w1 hb1 bt hge1 => ?_
  refine ⟨fun w2 => ∃ (t2 : Tw) (e2 : E3), Below w.heap.size w w2 ∧ Blk w2 gt #[.string e2.nm, .bool e2.d, .slice e2.sl.1 e2.sl.2.1 e2.sl.2.2] 24 ∧ RTw w t2 e2 ∧ straightB t2 = straightB t, szAt gt, ⟨t, e, hb1, bt, ht, rfl⟩, ?_⟩
  rintro w2 ⟨t2, e2, hb2, b2, ht2, hst⟩
  unfold F41_l1
  have hsz := szAt_eq b2 (ht2.keep hb2)
  rw [hsz]
  obtain ⟨kn, k0⟩ := ht2.kn
  simp only [Addr.add_mk, b2.cell, List.getElem?_toArray, List.getElem?_cons_zero, List.getElem?_cons_succ, Addr.add_mk, List.getElem?_toArray, List.getElem?_cons_zero, List.getElem?_cons_succ, LdI_some, LdB_some, LdStr_some, LdP_some, LdSl_some, LdM_some, Nat.zero_add, Br_t, Br_f]
  cases t2 with
  | mk nm d ks =>
    simp only [Tw.kids] at kn k0
    refine bre (fun h1 => ?_) (fun h1 => ?_)
    · match ks, kn, k0, ht2, hst, hsz with
      | [], kn, _, _, _, _ => simp at kn; omega
      | _ :: _ :: _, kn, _, _, _, _ => simp at kn; omega
      | [k], kn, k0, ht2, hst, hsz =>
        have ht20 := ht2
        simp only [RTw] at ht2
        obtain ⟨-, -, -, es, hn, hr, hks⟩ := ht2
        have hel := hks.len
        refine (hr.keep hb2).e3 hn (i := 0) (k := 0) rfl (by simp at hel; omega) fun b o c0 c1 c2 => ?_
        have hk := hks.get 0 (by simp) (by simp at hel; omega)
        simp only [List.getElem_cons_zero] at hk
        generalize es[0]'(by simp at hel; omega) = e3 at *
        simp only [Addr.add_mk, c0, c1, c2, Addr.add_mk, List.getElem?_toArray, List.getElem?_cons_zero, List.getElem?_cons_succ, LdI_some, LdB_some, LdStr_some, LdP_some, LdSl_some, LdM_some, Nat.zero_add, Br_t, Br_f]
        refine st_blk b2 (by simp) fun w3 b3 hf3 => st_blk b3 (by simp) fun w4 b4 hf4 => st_blk b4 (by simp) fun w5 b5 hf5 => ?_
        simp only [List.setIfInBounds_toArray, List.set_cons_zero, List.set_cons_succ] at b5
        have B5 : Below w.heap.size w w5 := hb2.trans (((hf3.trans hf4).trans hf5).toBelow hb2.size fun b hb hm => by omega)
        have hsz5 := szAt_eq b5 (hk.keep B5)
        refine ⟨⟨k, e3, B5, b5, hk, by rw [← hst]; simp [straightB]⟩, ?_⟩
        rw [hsz5, Tw.sz, szL, szL]; omega
    · have H := h w2 hb2
      rw [← hst] at H
      have : (((e2.sl.2.1 : Nat) : Int) == 0) = straightB (.mk nm d ks) := by
        match ks, kn with
        | [], kn => simp at kn; simp [straightB, kn]
        | [_], kn => simp at kn; omega
        | _ :: _ :: _, kn => simp at kn; simp [straightB]; omega
      rw [this]; exact H
end Go.Proofs.Ytbocfedmdjkccaa
/- Twigs: the document's matching: words; how many matches there are under a node. -/
namespace Go.Proofs.Ytbocfedmdjkccaa
open Go.RowKit Go.Vc
set_option linter.unusedVariables false
set_option linter.unusedSimpArgs false
set_option maxRecDepth 100000
def LM : Lay Nat := ⟨2, fun c => [.int .u64 (mN c), .bool (mO c)], fun _ => rfl, fun _ => by simp [Value.oneCell'], by decide⟩
theorem Rd.many {w : World} {A : Option Addr} {c : Nat} {xs : List Nat} {S : World → Prop} (h : Rd LM w A c xs) (hS : ∀ w1, S w1 → Below w.heap.size w w1) {n : Nat} (hn : n = xs.length) {i : Int} {k : Nat} (hi : i = k) (hk : k < xs.length) {K : Addr → Prop}
    (hK : ∀ b o, Held S ⟨b, o, none⟩ (.int .u64 (mN xs[k])) → Held S ⟨b, o + 1, none⟩ (.bool (mO xs[k])) → K ⟨b, o, none⟩) : IdxA A n i 2 K := by
  subst hi
  refine h.held hS hn (by omega) (by omega) rfl fun b o hc => ?_
  simp only [Int.toNat_natCast] at hc
  exact hK b o (hc 0 _ rfl) (hc 1 _ rfl)
theorem Rd.nd {w : World} {A : Option Addr} {c : Nat} {xs : List Nd} (h : Rd LNd w A c xs) {n : Nat} (hn : n = xs.length) {i : Int} {k : Nat} (hi : i = k) (hk : k < xs.length) {K : Addr → Prop}
    (hK : ∀ b o, w.cell? ⟨b, o, none⟩ = some (.int .i64 xs[k].up) → w.cell? ⟨b, o + 1, none⟩ = some (.bool xs[k].d) → w.cell? ⟨b, o + 2, none⟩ = some (.string xs[k].nm) → K ⟨b, o, none⟩) : IdxA A n i 3 K := by
  subst hi
  refine h.idx hn (by omega) (by omega) rfl fun b o hc => ?_
  simp only [Int.toNat_natCast] at hc
  exact hK b o (hc 0 _ rfl) (hc 1 _ rfl) (hc 2 _ rfl)
theorem Rd.ndH {w : World} {A : Option Addr} {c : Nat} {xs : List Nd} {S : World → Prop} (h : Rd LNd w A c xs) (hS : ∀ w1, S w1 → Below w.heap.size w w1) {n : Nat} (hn : n = xs.length) {i : Int} {k : Nat} (hi : i = k) (hk : k < xs.length) {K : Addr → Prop}
    (hK : ∀ b o, Held S ⟨b, o, none⟩ (.int .i64 xs[k].up) → Held S ⟨b, o + 1, none⟩ (.bool xs[k].d) → Held S ⟨b, o + 2, none⟩ (.string xs[k].nm) → K ⟨b, o, none⟩) : IdxA A n i 3 K := by
  subst hi
  refine h.held hS hn (by omega) (by omega) rfl fun b o hc => ?_
  simp only [Int.toNat_natCast] at hc
  exact hK b o (hc 0 _ rfl) (hc 1 _ rfl) (hc 2 _ rfl)
/-- The counts of a node's list. -/
def waysOf (ps : Pt) (ls : List (List Pl)) (q : Nat) : List Nat := (lsN ls q).map fun x => way ps ls q x.s
/-- A matching of the document, whose counts are known from a node on. -/
structure McR (w : World) (m : Nat) (ps : Pt) (ls : List (List Pl)) (j : Nat) (nv lv wv : Sv) (ty : TypeId) (wvs : List Sv) : Prop where
  blk : Blk w m #[slv nv, slv lv, slv wv] ty
  nn : nv.2.1 = ps.length
  nr : Rd LNd w nv.1 nv.2.2 (ps.map ndOf)
  rl : RLs w ls lv
  wn : wv.2.1 = wvs.length
  wr : Rd LSv w wv.1 wv.2.2 wvs
  wl : wvs.length = ps.length
  ll : ls.length = ps.length
  rows : ∀ (q : Nat) (h1 : q < wvs.length), j ≤ q → wvs[q].2.1 = (lsN ls q).length ∧ Rd LM w wvs[q].1 wvs[q].2.2 (waysOf ps ls q)
def Mc (w : World) (m : Nat) (ps : Pt) (ls : List (List Pl)) (j : Nat) : Prop := ∃ nv lv wv ty wvs, McR w m ps ls j nv lv wv ty wvs
theorem McR.keep {w w1 : World} {m : Nat} {ps : Pt} {ls : List (List Pl)} {j : Nat} {nv lv wv : Sv} {ty : TypeId} {wvs : List Sv} (h : McR w m ps ls j nv lv wv ty wvs) (hb : Below w.heap.size w w1) : McR w1 m ps ls j nv lv wv ty wvs :=
  ⟨h.blk.keep hb, h.nn, h.nr.keep hb, h.rl.keep hb, h.wn, h.wr.keep hb, h.wl, h.ll, fun q h1 hj => ⟨(h.rows q h1 hj).1, (h.rows q h1 hj).2.keep hb⟩⟩
theorem Mc.keep {w w1 : World} {m : Nat} {ps : Pt} {ls : List (List Pl)} {j : Nat} (h : Mc w m ps ls j) (hb : Below w.heap.size w w1) : Mc w1 m ps ls j := by
  obtain ⟨nv, lv, wv, ty, wvs, h⟩ := h
  exact ⟨nv, lv, wv, ty, wvs, h.keep hb⟩
theorem underR_calls {m : Nat} {ps : Pt} {ls : List (List Pl)} {j p : Nat} (hjp : j ≤ p) (hp : p < ps.length) (hv : Vd ls) (up : Sp) (h0 : 0 ≤ up.l) {w : World} {R : Ending → World → Prop} (hm : Mc w m ps ls j)
    (h : ∀ w', Below w.heap.size w w' → R (.returned (mV (under ps ls p up))) w') :
    Calls Try.prog 58 #[.pointer (some ⟨m, 0, none⟩), .int .i64 (p : Int), spv up] w R := by
  obtain ⟨nv, lv, wv, ty, wvs, hf⟩ := hm
  obtain ⟨hlen, lvs, hln, hlr, hls⟩ := hf.rl
  have hlvs := hls.len
  have hll := hf.ll
  have hpl : p < ls.length := by omega
  have hlp : lsN ls p = ls[p] := lsN_get hpl
  have hvp := hv ls[p] (List.getElem_mem _)
  rw [← hlp] at hvp
  have hl3 : ∀ {w'}, Below w.heap.size w w' → (lsN ls p).length ≤ 1048576 ∧ lvs[p].2.1 = (lsN ls p).length ∧ Rd LPl w' lvs[p].1 lvs[p].2.2 (lsN ls p) := fun hb => by
    obtain ⟨z0, z1, z2⟩ := (hls.keep hb).get p hpl (by omega)
    rw [hlp]; exact ⟨z0, z1, z2⟩
  refine ok58 (some ⟨m, 0, none⟩) p up.b up.e up.l ?_
  unfold F58
  refine al fun gu w1 hb1 bu hge1 => al fun g6 w2 hb2 b6 hge2 => al fun gn w3 hb3 bn3 hge3 => ?_
  have hs1 := hb1.size
  have hs2 := hb2.size
  have hs3 := hb3.size
  have lu := bu.lt
  have l6 := b6.lt
  have ln := bn3.lt
  have B3 := btr (btr hb1 hb1.size hb2) (by omega) hb3
  simp only [Addr.add_mk, Nat.zero_add]
  refine st_blk bn3 (by simp) fun w4 bn4 hf4 => st_blk bn4 (by simp) fun w5 bn5 hf5 => ?_
  simp only [List.setIfInBounds_toArray, List.set_cons_zero, List.set_cons_succ] at bn5
  have F5 := hf4.trans hf5
  have B5 : Below w.heap.size w w5 := B3.trans (F5.toBelow B3.size fun b hb hm => by omega)
  have bu5 := F5.blk ((bu.keep hb2).keep hb3) (by omega)
  have b65 := F5.blk (b6.keep hb3) (by omega)
  have hs5 := F5.size
  refine ⟨fun i w' => ∃ k : Nat, i = k ∧ k ≤ (lsN ls p).length ∧ Below w.heap.size w w' ∧ Blk w' gu #[.int .u64 up.b, .int .u64 up.e, .int .i64 up.l] 77 ∧ Blk w' g6 #[.int .u64 0, .bool false] 68 ∧ Blk w' gn #[.int .u64 (mN (pS ps ls p up k)), .bool (mO (pS ps ls p up k))] 68, fun i _ => (lsN ls p).length - i.toNat,
    ⟨0, rfl, by omega, B5, bu5, b65, bn5⟩, ?_⟩
  rintro i w6 ⟨k, rfl, hk, hb6, bu6, b66, bn6⟩
  unfold F58_l3
  have f6 := hf.keep hb6
  obtain ⟨z0, z1, z2⟩ := hl3 hb6
  simp only [NonNil_some, Addr.add_mk, Nat.zero_add, f6.blk.cell, List.getElem?_toArray, List.getElem?_cons_zero, List.getElem?_cons_succ, Addr.add_mk, List.getElem?_toArray, List.getElem?_cons_zero, List.getElem?_cons_succ, LdI_some, LdB_some, LdStr_some, LdP_some, LdSl_some, LdM_some, Nat.zero_add, Br_t, Br_f]
  refine (hlr.keep hb6).sv hln rfl (k := p) (by omega) fun b o c0 => ?_
  simp only [c0, Addr.add_mk, List.getElem?_toArray, List.getElem?_cons_zero, List.getElem?_cons_succ, LdI_some, LdB_some, LdStr_some, LdP_some, LdSl_some, LdM_some, Nat.zero_add, Br_t, Br_f]
  refine brd (fun hlt => ?_) (fun hge => ?_)
  · have hk2 : k < (lsN ls p).length := by omega
    have hps := pS_succ (ps := ps) (up := up) hk2
    refine ⟨fun w' => Below w.heap.size w w' ∧ Blk w' gu #[.int .u64 up.b, .int .u64 up.e, .int .i64 up.l] 77 ∧ Blk w' g6 #[.int .u64 0, .bool false] 68 ∧ Blk w' gn #[.int .u64 (mN (pS ps ls p up (k + 1))), .bool (mO (pS ps ls p up (k + 1)))] 68, ?_, ?_⟩
    · rintro w7 ⟨q1, q2, q3, q4⟩
      unfold F58_j4
      exact ⟨inR_i64 (by omega) (by omega), ⟨k + 1, by simp, by omega, q1, q2, q3, q4⟩, by omega⟩
    have hd6 : Below w6.heap.size w6 w6.drew := (Below.refl _ _).drew
    refine ⟨fun w' => Below w6.heap.size w6 w', hd6, _, _, _, blk_held f6.blk (fun _ h => h) rfl, ?_⟩
    have hpn : p < (ps.map ndOf).length := by rw [List.length_map]; exact hp
    refine f6.nr.ndH (fun _ h => h) (by rw [f6.nn, List.length_map]) rfl (k := p) hpn fun b o n0 n1 n2 => ?_
    simp only [Addr.add_mk]
    refine ⟨_, n0, _, n1, _, n2, _, blk_held bu6 (fun _ h => h) rfl, _, blk_held bu6 (fun _ h => h) rfl, _, blk_held bu6 (fun _ h => h) rfl, _, _, _, blk_held f6.blk (fun _ h => h) rfl, ?_⟩
    refine (hlr.keep hb6).svH (fun _ h => h) hln rfl (k := p) (by omega) fun b o c0 => ⟨_, _, _, c0, ?_⟩
    refine z2.plH (fun _ h => h) z1 rfl (k := k) hk2 fun b o c0 c1 c2 c3 => ?_
    simp only [Addr.add_mk, Nat.add_assoc, Nat.reduceAdd]
    refine ⟨_, c1, _, c2, _, c3, ?_⟩
    have hx := canB_l (hvp.1 _ (List.getElem_mem hk2))
    refine fitsR_calls (ps.map ndOf)[p] up (lsN ls p)[k].s h0 (by omega) fun w7 hb7 => ⟨_, rfl, ?_⟩
    have D7 := hd6.trans hb7
    have B7 := btr hb6 hb6.size D7
    have hnd : (ps.map ndOf)[p].d = dN ps p := by rw [List.getElem_map, dN_get hp]; rfl
    rw [hnd]
    refine br (fun hfit => ?_) (fun hfit => ?_)
    · rw [if_pos hfit] at hps
      have f7 := hf.keep B7
      have bn7 := bn6.keep D7
      have hd7 : Below w7.heap.size w7 w7.drew := (Below.refl _ _).drew
      refine ⟨fun w' => Below w7.heap.size w7 w', hd7, _, blk_held bn7 (fun _ h => h) rfl, _, blk_held bn7 (fun _ h => h) rfl, _, _, _, blk_held f7.blk (fun _ h => h) rfl, ?_⟩
      have hpw : p < wvs.length := by rw [f7.wl]; exact hp
      obtain ⟨r1, r2⟩ := f7.rows p hpw hjp
      refine f7.wr.svH (fun _ h => h) f7.wn rfl (k := p) hpw fun b o c0 => ⟨_, _, _, c0, ?_⟩
      have hkw : k < (waysOf ps ls p).length := by rw [waysOf, List.length_map]; exact hk2
      refine r2.many (fun _ h => h) (by rw [r1, waysOf, List.length_map]) rfl (k := k) hkw fun b o c0 c1 => ?_
      simp only [Addr.add_mk]
      refine ⟨_, c0, _, c1, ?_⟩
      refine plus_calls (pS ps ls p up k) (waysOf ps ls p)[k] fun w8 hb8 => ⟨_, _, rfl, ?_⟩
      have e : pS ps ls p up k + (waysOf ps ls p)[k] = pS ps ls p up (k + 1) := by rw [hps]; simp [waysOf]
      rw [e]
      have D8 := hd7.trans hb8
      have B8 := btr B7 B7.size D8
      refine st_blk (bn7.keep D8) (by simp) fun w9 b9 hf9 => st_blk b9 (by simp) fun w10 b10 hf10 => ?_
      simp only [List.setIfInBounds_toArray, List.set_cons_zero, List.set_cons_succ] at b10
      have F10 := hf9.trans hf10
      have E8 := btr D7 D7.size D8
      exact ⟨B8.trans (F10.toBelow B8.size fun b hb hm => by omega), F10.blk (bu6.keep E8) (by omega), F10.blk (b66.keep E8) (by omega), b10⟩
    · rw [if_neg (by rw [hfit]; decide), Nat.add_zero] at hps
      rw [hps]
      exact ⟨B7, bu6.keep D7, b66.keep D7, bn6.keep D7⟩
  · have hk2 : k = (lsN ls p).length := by omega
    subst hk2
    rw [pS_all] at bn6
    simp only [bn6.cell, List.getElem?_toArray, List.getElem?_cons_zero, List.getElem?_cons_succ, Addr.add_mk, List.getElem?_toArray, List.getElem?_cons_zero, List.getElem?_cons_succ, LdI_some, LdB_some, LdStr_some, LdP_some, LdSl_some, LdM_some, Nat.zero_add, Br_t, Br_f]
    refine st_blk b66 (by simp) fun w7 b7 hf7 => st_blk b7 (by simp) fun w8 b8 hf8 => ?_
    simp only [List.setIfInBounds_toArray, List.set_cons_zero, List.set_cons_succ] at b8
    simp only [b8.cell, List.getElem?_toArray, List.getElem?_cons_zero, List.getElem?_cons_succ, Addr.add_mk, List.getElem?_toArray, List.getElem?_cons_zero, List.getElem?_cons_succ, LdI_some, LdB_some, LdStr_some, LdP_some, LdSl_some, LdM_some, Nat.zero_add, Br_t, Br_f]
    exact h w8 (hb6.trans ((hf7.trans hf8).toBelow hb6.size fun b hb hm => by omega))
end Go.Proofs.Ytbocfedmdjkccaa
/- Twigs: the document's matching is made. -/
namespace Go.Proofs.Ytbocfedmdjkccaa
open Go.RowKit Go.Vc
set_option linter.unusedVariables false
set_option linter.unusedSimpArgs false
set_option maxRecDepth 100000
theorem Own.stM {w : World} {base : Nat} {e : TypeId} {A : Option Addr} {n c : Nat} {xs : List Nat} (h : Own LM w base e (.slice A n c) xs) {i : Int} {k : Nat} (hi : i = k) (hk : k < xs.length) (x : Nat) {K : World → Prop}
    (hK : ∀ w1, Own LM w1 base e (.slice A n c) (xs.set k x) → Fm (fun b => rowOf (.slice A n c) = some b) w w1 → K w1) :
    IdxA A n i 2 fun q => St w q (.int .u64 (mN x)) fun w1 => St w1 (q.add 1) (.bool (mO x)) K := by
  subst hi
  rcases h with ⟨_, rfl⟩ | ⟨_, rfl⟩ | ⟨g, c', cur, hsl, hb, hh, hn, hm, hs, ht⟩
  · simp at hk
  · simp at hk
  · simp only [Value.slice.injEq] at hsl
    obtain ⟨rfl, rfl, rfl⟩ := hsl
    rw [IdxA_some (by omega) (by omega)]
    simp only [Addr.add_mk, Int.toNat_natCast, Nat.zero_add]
    have hbk : Blk w g cur e := hh
    have h3 : LM.n = 2 := rfl
    rw [h3] at hs ht
    have hsz : k * 2 + 2 ≤ cur.size := by omega
    refine st_blk hbk (by omega) fun w1 b1 hf1 => st_blk b1 (by simp; omega) fun w2 b2 hf2 => hK w2 ?_ ?_
    · refine .inr (.inr ⟨g, c', _, by simp, hb, b2, by simpa using hn, hm, by simpa [h3] using hs, ?_⟩)
      simp only [List.length_set, Array.toList_setIfInBounds]
      rw [List.take_set, List.take_set, h3, LM.all_set _ _ _ hk, ← ht, h3]
      have hl : k * 2 + 2 ≤ (cur.toList.take (xs.length * 2)).length := by rw [List.length_take]; simp; omega
      generalize cur.toList.take (xs.length * 2) = F at *
      obtain ⟨p, q, rfl, hp⟩ : ∃ p q, F = p ++ q ∧ p.length = k * 2 := ⟨F.take (k * 2), F.drop (k * 2), (List.take_append_drop _ _).symm, by simp; omega⟩
      rw [List.length_append] at hl
      rw [show (k + 1) * 2 = p.length + 2 by omega, ← hp]
      match q, hl with
      | x :: y :: t, _ =>
        rw [List.set_append_right _ _ (by omega), List.set_append_right _ _ (by omega), List.take_left, List.drop_append]
        simp [Nat.sub_self, show p.length + 1 - p.length = 1 by omega, show p.length + 2 - p.length = 2 by omega, LM]
      | [], h => simp at h; omega
      | [_], h => simp at h; omega
    · exact (hf1.trans hf2).mono fun b _ hb => by subst hb; rfl
theorem zrow_many (n : Nat) : (zrow #[Value.int .u64 0, .bool false] (n * 2)).toList = LM.all (List.replicate n 0) := by
  have hz : ∀ i : Nat, i < (List.replicate n (0 : Nat)).length → ∀ j : Nat, j < 2 → (LM.all (List.replicate n 0))[i * 2 + j]? = #[Value.int .u64 0, .bool false][j]? := by
    intro i hi j hj
    have := LM.all_at (List.replicate n 0) i hi j hj
    rw [show LM.n = 2 from rfl] at this
    rw [this]
    simp only [List.getElem_replicate]
    obtain rfl | rfl : j = 0 ∨ j = 1 := by omega
    · rfl
    · rfl
  unfold zrow
  refine List.ext_getElem? fun t => ?_
  by_cases h : t < n * 2
  · have e : t = t / 2 * 2 + t % 2 := by omega
    have h2 := hz (t / 2) (by simp; omega) (t % 2) (by omega)
    rw [← e] at h2
    rw [h2]
    simp only [Array.getElem?_toList, Array.getElem?_map, Array.getElem?_range, h, if_true, Option.map_some]
    have : t % 2 < 2 := by omega
    show some (#[Value.int .u64 0, .bool false][t % 2]!) = _
    rw [getElem!_pos #[Value.int .u64 0, .bool false] (t % 2) this, Array.getElem?_eq_getElem this]
  · rw [List.getElem?_eq_none (by simp; omega), List.getElem?_eq_none (by rw [LM.all_length, show LM.n = 2 from rfl]; simp; omega)]
/-- A matching that is being made: what stays. -/
structure Ng (wN w : World) (m gw hi : Nat) (n : Nat) (nv lv : Sv) (wvs : List Sv) : Prop where
  bm : Blk w m #[slv nv, slv lv, .slice (some ⟨gw, 0, none⟩) n n] 107
  rw : Row w gw wvs 108
  lw : wvs.length = n
  below : Below wN.heap.size wN w
  lt : wN.heap.size ≤ m ∧ m < gw ∧ gw < hi ∧ hi ≤ w.heap.size
section
variable {wN w w1 : World} {m gw hi : Nat} {ps : Pt} {ls : List (List Pl)} {n : Nat} {nv lv : Sv} {wvs : List Sv}
theorem Ng.fm (h : Ng wN w m gw hi n nv lv wvs) {M : Nat → Prop} (hf : Fm M w w1) (hM : ∀ b, b < hi → ¬ M b) : Ng wN w1 m gw hi n nv lv wvs := by
  have hl := h.lt
  have hs := hf.size
  exact ⟨hf.blk h.bm (hM _ (by omega)), hf.blk h.rw (hM _ (by omega)), h.lw, h.below.trans (hf.toBelow h.below.size fun b hb => hM b (by omega)), by omega⟩
theorem Ng.keep (h : Ng wN w m gw hi n nv lv wvs) (hb : Below w.heap.size w w1) : Ng wN w1 m gw hi n nv lv wvs := h.fm (M := fun _ => False) (.below hb) fun _ _ h => h
theorem Ng.setW (h : Ng wN w m gw hi n nv lv wvs) {wvs' : List Sv} (hf : Fm (· = gw) w w1) (hr : Row w1 gw wvs' 108) (hl : wvs'.length = n) : Ng wN w1 m gw hi n nv lv wvs' := by
  have hlt := h.lt
  have hs := hf.size
  exact ⟨hf.blk h.bm (by omega), hr, hl, h.below.trans (hf.toBelow h.below.size fun b hb hm => by omega), by omega⟩
theorem ng_mc (h : Ng wN w m gw hi ps.length nv lv wvs) (nn : nv.2.1 = ps.length) (nr : Rd LNd wN nv.1 nv.2.2 (ps.map ndOf)) (hl : RLs wN ls lv) (hll : ls.length = ps.length) (h16 : ps.length ≤ 16) {j : Nat}
    (hr : ∀ (q : Nat) (h1 : q < wvs.length), j ≤ q → wvs[q].2.1 = (lsN ls q).length ∧ Rd LM w wvs[q].1 wvs[q].2.2 (waysOf ps ls q)) : Mc w m ps ls j := by
  have l1 := h.lw
  refine ⟨nv, lv, (some ⟨gw, 0, none⟩, ps.length, ps.length), _, wvs, ⟨h.bm, nn, nr.keep h.below, hl.keep h.below, l1.symm, ?_, l1, hll, hr⟩⟩
  have := h.rw.rd (by simp [maxLen]; omega)
  rw [l1] at this; exact this
end
theorem new_in {ps : Pt} (hu : UpOk ps) {ls : List (List Pl)} {nv lv : Sv} {p : Nat} (hpp : p < ps.length) (h16 : ps.length ≤ 16) (hv : Vd ls) (hll : ls.length = ps.length) {wN : World} {R : Ending → World → Prop} (nn : nv.2.1 = ps.length) (nr : Rd LNd wN nv.1 nv.2.2 (ps.map ndOf)) (hl : RLs wN ls lv)
    {m gw hi : Nat} {wvs : List Sv} {w2 : World} {L4 : Int → World → Prop} (hN2 : Ng wN w2 m gw hi ps.length nv lv wvs)
    (hdone : ∀ (q : Nat) (h1 : q < wvs.length), p + 1 ≤ q → wvs[q].2.1 = (lsN ls q).length ∧ Rd LM (above hi w2) wvs[q].1 wvs[q].2.2 (waysOf ps ls q))
    (hL : ∀ wvs' w', Ng wN w' m gw hi ps.length nv lv wvs' → (∀ (q : Nat) (h1 : q < wvs'.length), p ≤ q → wvs'[q].2.1 = (lsN ls q).length ∧ Rd LM (above hi w') wvs'[q].1 wvs'[q].2.2 (waysOf ps ls q)) → InR .i64 ((p : Int) - 1) ∧ L4 ((p : Int) - 1) w') :
    F36_l4 lv.1 lv.2.1 ⟨m, 0, none⟩ L4 (p : Int) w2 R := by
  obtain ⟨hlen, lvs, hln, hlr, hls⟩ := id hl
  have hlvs := hls.len
  have hpl : p < ls.length := by omega
  have hlp : lsN ls p = ls[p] := lsN_get hpl
  have hvp := hv ls[p] (List.getElem_mem _)
  rw [← hlp] at hvp
  have hl3 : ∀ {w'}, Below wN.heap.size wN w' → (lsN ls p).length ≤ 1048576 ∧ lvs[p].2.1 = (lsN ls p).length ∧ Rd LPl w' lvs[p].1 lvs[p].2.2 (lsN ls p) := fun hb => by
    obtain ⟨z0, z1, z2⟩ := (hls.keep hb).get p hpl (by omega)
    rw [hlp]; exact ⟨z0, z1, z2⟩
  have hlt2 := hN2.lt
  have hlw := hN2.lw
  have hpw : p < wvs.length := by omega
  unfold F36_l4
  refine brd (fun hge => ?_) (fun hlt => by omega)
  have hd : Below w2.heap.size w2 w2.drew := (Below.refl _ _).drew
  refine ⟨fun w' => Below w2.heap.size w2 w', hd, ?_⟩
  simp only [Addr.add_mk, Nat.zero_add]
  refine ⟨_, _, _, blk_held hN2.bm (fun _ h => h) rfl, ?_⟩
  refine (hlr.keep hN2.below).svH (fun _ h => h) hln rfl (k := p) (by omega) fun b o c0 => ⟨_, _, _, c0, ?_⟩
  obtain ⟨z0, z1, -⟩ := hl3 hN2.below
  rw [z1]
  refine ⟨by omega, by omega, by omega, ?_⟩
  rw [show (((lsN ls p).length : Nat) : Int).toNat = (lsN ls p).length by simp]
  refine al fun g4 w3 hb3 b3 hge3 => ⟨hd.trans hb3, ?_⟩
  have B3 := hd.trans hb3
  have hs3 := B3.size
  have hds := hd.size
  have hN3 := hN2.keep B3
  have hown3 : Own LM w3 w2.heap.size 68 (.slice (some ⟨g4, 0, none⟩) (lsN ls p).length (lsN ls p).length) (List.replicate (lsN ls p).length 0) := by
    have := Own.lit' (L := LM) (xs := List.replicate (lsN ls p).length 0) b3 (by omega : w2.heap.size ≤ g4) (zrow_many _) (by simp [maxLen]; omega)
    simpa using this
  refine hN3.rw.st (by omega) rfl hpw (some ⟨g4, 0, none⟩, (lsN ls p).length, (lsN ls p).length) rfl fun w4 r4 f4 => ?_
  have hN4 := hN3.setW f4 r4 (by simpa using hlw)
  have F4 : Fm (fun b => b = gw) w2 w4 := (Fm.below B3).trans f4
  have hl3' := b3.lt
  have own4 : Own LM w4 w2.heap.size 68 (.slice (some ⟨g4, 0, none⟩) (lsN ls p).length (lsN ls p).length) (List.replicate (lsN ls p).length 0) := own_fm hown3 f4 fun b hb hb2 => by have := (hown3.lt b hb).1; omega
  have hwl : (waysOf ps ls p).length = (lsN ls p).length := by rw [waysOf, List.length_map]
  refine ⟨fun k w' => ∃ j : Nat, k = j ∧ j ≤ (lsN ls p).length ∧ Ng wN w' m gw hi ps.length nv lv (wvs.set p (some ⟨g4, 0, none⟩, (lsN ls p).length, (lsN ls p).length)) ∧ Fm (fun b => b = gw) w2 w' ∧
      Own LM w' w2.heap.size 68 (.slice (some ⟨g4, 0, none⟩) (lsN ls p).length (lsN ls p).length) ((waysOf ps ls p).take j ++ List.replicate ((lsN ls p).length - j) 0), fun k _ => (lsN ls p).length - k.toNat,
    ⟨0, rfl, by omega, hN4, F4, by simpa using own4⟩, ?_⟩
  rintro k w5 ⟨j, rfl, hj, hN5, F5, own5⟩
  unfold F36_l8
  have hlt5 := hN5.lt
  refine (hlr.keep hN5.below).sv hln rfl (k := p) (by omega) fun b o c0 => ?_
  simp only [c0, Addr.add_mk, List.getElem?_toArray, List.getElem?_cons_zero, List.getElem?_cons_succ, LdI_some, LdB_some, LdStr_some, LdP_some, LdSl_some, LdM_some, Nat.zero_add, Br_t, Br_f]
  rw [z1]
  have hs5 := F5.size
  refine brd (fun hlt => ?_) (fun hge2 => ?_)
  · have hj2 : j < (lsN ls p).length := by omega
    refine al fun g6 w6 hb6 b6 hge6 => st_blk b6 (by simp) fun w7 b7 hf7 => ?_
    simp only [Addr.add_mk, Nat.zero_add]
    refine st_blk b7 (by simp) fun w8 b8 hf8 => ?_
    simp only [List.setIfInBounds_toArray, List.set_cons_zero, List.set_cons_succ] at b8
    have hl6 := b6.lt
    have hs6 := hb6.size
    have D8 : Below w5.heap.size w5 w8 := hb6.trans ((hf7.trans hf8).toBelow hb6.size fun b hb hm => by omega)
    have hs8 := D8.size
    have hl8 := b8.lt
    have hx := canB_l (hvp.1 _ (List.getElem_mem hj2))
    have hN8 := hN5.keep D8
    have own8 := own5.keep D8
    have F8 : Fm (fun b => b = gw) w2 w8 := F5.tr D8
    have hrow : ∀ b, rowOf (.slice (some ⟨g4, 0, none⟩) (lsN ls p).length (lsN ls p).length) = some b → b < w5.heap.size := fun b hb => (own5.lt b hb).2
    refine ⟨inR_i64 (by omega) (by omega), ?_⟩
    refine ⟨fun jj w' => ∃ t : Nat, jj = t ∧ p + 1 ≤ t ∧ t ≤ ps.length ∧ Fm (fun b => b = g6) w8 w' ∧ Fm (fun b => b = gw) w2 w' ∧ Blk w' g6 #[.int .u64 (mN (prodL ((List.range' (p + 1) (t - (p + 1))).map (wayT ps ls p (lsN ls p)[j].s)))), .bool (mO (prodL ((List.range' (p + 1) (t - (p + 1))).map (wayT ps ls p (lsN ls p)[j].s))))] 68, fun jj _ => ps.length - jj.toNat,
      ⟨p + 1, by simp, by omega, by omega, Fm.refl _ _, F8, by rw [Nat.sub_self]; exact b8⟩, ?_⟩
    rintro jj w9 ⟨t, rfl, ht1, ht2, hf9, F9, b9⟩
    unfold F36_l12
    have hN9 := hN8.fm hf9 fun b hb hm => by omega
    have hs9 := hf9.size
    have nr9 := nr.keep hN9.below
    have own9 := own_fm own8 hf9 fun b hb hm => by have := hrow b hb; omega
    simp only [hN9.bm.cell, List.getElem?_toArray, List.getElem?_cons_zero, Addr.add_mk, List.getElem?_toArray, List.getElem?_cons_zero, List.getElem?_cons_succ, LdI_some, LdB_some, LdStr_some, LdP_some, LdSl_some, LdM_some, Nat.zero_add, Br_t, Br_f]
    rw [nn]
    refine brd (fun hlt3 => ?_) (fun hge3 => ?_)
    · have ht3 : t < ps.length := by omega
      have hnext : prodL ((List.range' (p + 1) (t + 1 - (p + 1))).map (wayT ps ls p (lsN ls p)[j].s)) = prodL ((List.range' (p + 1) (t - (p + 1))).map (wayT ps ls p (lsN ls p)[j].s)) * wayT ps ls p (lsN ls p)[j].s t := by
        rw [show t + 1 - (p + 1) = (t - (p + 1)) + 1 by omega, List.range'_concat, List.map_append, prodL_append]
        simp only [List.map_cons, List.map_nil, prodL, Nat.mul_one, Nat.one_mul]
        rw [show p + 1 + (t - (p + 1)) = t by omega]
      refine ⟨fun w' => Fm (fun b => b = g6) w8 w' ∧ Fm (fun b => b = gw) w2 w' ∧ Blk w' g6 #[.int .u64 (mN (prodL ((List.range' (p + 1) (t + 1 - (p + 1))).map (wayT ps ls p (lsN ls p)[j].s)))), .bool (mO (prodL ((List.range' (p + 1) (t + 1 - (p + 1))).map (wayT ps ls p (lsN ls p)[j].s))))] 68, ?_, ?_⟩
      · rintro w' ⟨q1, q2, q3⟩
        unfold F36_j13
        exact ⟨inR_i64 (by omega) (by omega), ⟨t + 1, by simp, by omega, by omega, q1, q2, q3⟩, by omega⟩
      have htn : t < (ps.map ndOf).length := by rw [List.length_map]; exact ht3
      refine nr9.nd (n := ps.length) (by simp) rfl (k := t) htn fun b o n0 n1 n2 => ?_
      simp only [n0, Addr.add_mk, List.getElem?_toArray, List.getElem?_cons_zero, List.getElem?_cons_succ, LdI_some, LdB_some, LdStr_some, LdP_some, LdSl_some, LdM_some, Nat.zero_add, Br_t, Br_f]
      have hup : (ps.map ndOf)[t].up = upN ps t := by rw [List.getElem_map, upN_get ht3]; rfl
      rw [hup]
      refine bre (fun heq => ?_) (fun hne => ?_)
      · have hd9 : Below w9.heap.size w9 w9.drew := (Below.refl _ _).drew
        refine ⟨fun w' => Below w9.heap.size w9 w', hd9, _, blk_held b9 (fun _ h => h) rfl, _, blk_held b9 (fun _ h => h) rfl, ?_⟩
        refine (hlr.keep hN9.below).svH (fun _ h => h) hln rfl (k := p) (by omega) fun b o c0 => ⟨_, _, _, c0, ?_⟩
        obtain ⟨-, y1, y2⟩ := hl3 hN9.below
        refine y2.plH (fun _ h => h) y1 rfl (k := j) hj2 fun b o c0 c1 c2 c3 => ?_
        simp only [Addr.add_mk, Nat.add_assoc, Nat.reduceAdd]
        refine ⟨_, c1, _, c2, _, c3, ?_⟩
        have hmc : Mc w9 m ps ls (p + 1) := ng_mc hN9 nn nr hl hll h16 fun q h1 hq => by
          rw [List.getElem_set_ne (by omega)]
          obtain ⟨e1, e2⟩ := hdone q (by simpa using h1) hq
          exact ⟨e1, ((above_fm F9 (Nat.le_refl _) fun b hb hm => by omega).trans sub_of_only).rd e2⟩
        refine underR_calls (j := p + 1) (by omega) ht3 hv (lsN ls p)[j].s hx.1 (hmc.keep hd9) fun w10 hb10 => ⟨_, _, rfl, hd9.trans hb10, ?_⟩
        have D10 := hd9.trans hb10
        refine times_calls _ _ fun w11 hb11 => ⟨_, _, rfl, ?_⟩
        have D11 := btr D10 D10.size hb11
        have hs11 := D11.size
        refine st_blk (b9.keep D11) (by simp) fun w12 b12 hf12 => st_blk b12 (by simp) fun w13 b13 hf13 => ?_
        simp only [List.setIfInBounds_toArray, List.set_cons_zero, List.set_cons_succ] at b13
        have hw : wayT ps ls p (lsN ls p)[j].s t = under ps ls t (lsN ls p)[j].s := by unfold wayT; rw [if_pos heq]
        rw [hnext, hw]
        refine ⟨(hf9.tr D11).trans (hf12.trans hf13), (F9.tr D11).trans2 (hf12.trans hf13) fun b hb hm => by omega, b13⟩
      · have hw : wayT ps ls p (lsN ls p)[j].s t = 1 := by unfold wayT; rw [if_neg hne]
        rw [hw, Nat.mul_one] at hnext
        rw [hnext]
        exact ⟨hf9, F9, b9⟩
    · have ht3 : t = ps.length := by omega
      subst ht3
      rw [← way_eq _ _ _ _ hpp] at b9
      have hd9 : Below w9.heap.size w9 w9.drew := (Below.refl _ _).drew
      refine ⟨fun w' => Below w9.heap.size w9 w', hd9, _, _, _, blk_held hN9.bm (fun _ h => h) rfl, ?_⟩
      have hrowH : Held (fun w' => Below w9.heap.size w9 w') ⟨gw, p, none⟩ (.slice (some ⟨g4, 0, none⟩) (lsN ls p).length (lsN ls p).length) := blk_held hN9.rw (fun _ h => h) (by simp [hpw])
      refine row_at hpp ⟨_, _, _, hrowH, _, blk_held b9 (fun _ h => h) rfl, _, blk_held b9 (fun _ h => h) rfl, ?_⟩
      have own9d := own9.keep hd9
      refine own9d.stM rfl (k := j) (by simp [hwl]; omega) (way ps ls p (lsN ls p)[j].s) fun w10 o10 f10 => ?_
      have h10 : ∀ b, rowOf (.slice (some ⟨g4, 0, none⟩) (lsN ls p).length (lsN ls p).length) = some b → w2.heap.size ≤ b := fun b hb => (own9.lt b hb).1
      refine ⟨inR_i64 (by omega) (by omega), ⟨j + 1, by simp, by omega, (hN9.keep hd9).fm f10 fun b hb hm => by have := h10 b hm; omega, (F9.tr hd9).trans2 f10 fun b hb hm => by have := h10 b hm; omega, ?_⟩, by omega⟩
      have e1 : ((waysOf ps ls p).take j ++ List.replicate ((lsN ls p).length - j) 0).set j (way ps ls p (lsN ls p)[j].s) = (waysOf ps ls p).take (j + 1) ++ List.replicate ((lsN ls p).length - (j + 1)) 0 := by
        have hlj : ((waysOf ps ls p).take j).length = j := by rw [List.length_take]; omega
        rw [List.set_append_right _ _ (by omega), hlj, Nat.sub_self, List.take_succ_eq_append_getElem (by omega), List.append_assoc]
        congr 1
        rw [show (lsN ls p).length - j = ((lsN ls p).length - (j + 1)) + 1 by omega, List.replicate_succ, List.set_cons_zero]
        simp [waysOf]
      rw [e1] at o10
      exact o10
  · have hj2 : j = (lsN ls p).length := by omega
    subst hj2
    rw [Nat.sub_self, List.replicate_zero, List.append_nil, List.take_of_length_le (by omega)] at own5
    refine hL _ w5 hN5 fun q h1 hq => ?_
    rcases Nat.lt_or_eq_of_le hq with h3 | h3
    · rw [List.getElem_set_ne (by omega)]
      obtain ⟨e1, e2⟩ := hdone q (by simpa using h1) h3
      exact ⟨e1, (above_fm F5 (Nat.le_refl _) fun b hb hm => by omega).rd e2⟩
    · subst h3
      rw [List.getElem_set_self]
      obtain ⟨e1, e2⟩ := (own_above own5 (by omega : hi ≤ w2.heap.size)).rd
      exact ⟨rfl, e2⟩
theorem New_calls (t : Tw) (e : E3) (ls : List (List Pl)) (v : Sv) {w : World} {R : Ending → World → Prop} (ht : RTw w t e) (hl : RLs w ls v) (h16 : t.sz ≤ 16) (hll : ls.length = t.sz) (hv : Vd ls)
    (h : ∀ m w', Below w.heap.size w w' → Mc w' m (ptOf t) ls 0 → R (.returned (.pointer (some ⟨m, 0, none⟩))) w') :
    Calls Try.prog 36 #[.agg #[.string e.nm, .bool e.d, .slice e.sl.1 e.sl.2.1 e.sl.2.2], slv v] w R := by
  have hlen := ptOf_len t
  have hpos := t.sz_pos
  refine ok36 e.nm e.d e.sl.1 e.sl.2.1 e.sl.2.2 v.1 v.2.1 v.2.2 ?_
  unfold F36
  refine al fun gt w1 hb1 bt hge1 => ?_
  simp only [Addr.add_mk, Nat.zero_add, bt.cell, List.getElem?_toArray, List.getElem?_cons_zero, List.getElem?_cons_succ, Addr.add_mk, List.getElem?_toArray, List.getElem?_cons_zero, List.getElem?_cons_succ, LdI_some, LdB_some, LdStr_some, LdP_some, LdSl_some, LdM_some, Nat.zero_add, Br_t, Br_f]
  refine Nodes_calls t e (ht.keep hb1) (by omega) fun nv w2 hb2 hno => ⟨_, _, _, rfl, ?_⟩
  have B2 := btr hb1 hb1.size hb2
  obtain ⟨nn, nr⟩ := hno.rd
  have nn' : nv.2.1 = (ptOf t).length := by rw [nn, nodesF_len, hlen]
  refine al fun m w3 hb3 b3 hge3 => ?_
  simp only [b3.cell, List.getElem?_toArray, List.getElem?_cons_zero, List.getElem?_cons_succ, Addr.add_mk, List.getElem?_toArray, List.getElem?_cons_zero, List.getElem?_cons_succ, LdI_some, LdB_some, LdStr_some, LdP_some, LdSl_some, LdM_some, Nat.zero_add, Br_t, Br_f]
  rw [nn']
  refine ⟨by omega, by omega, by omega, ?_⟩
  rw [show (((ptOf t).length : Nat) : Int).toNat = (ptOf t).length by simp, zrow_nil]
  refine al fun gw w4 hb4 b4 hge4 => ?_
  refine st_blk (b3.keep hb4) (by simp) fun w5 b5 hf5 => ?_
  simp only [List.setIfInBounds_toArray, List.set_cons_zero, List.set_cons_succ] at b5
  have hs2 := B2.size
  have hs3 := hb3.size
  have hs4 := hb4.size
  have hs5 := hf5.size
  have hl3 := b3.lt
  have hl4 := b4.lt
  have r5 := hf5.blk b4 (by omega)
  have D5 : Below w2.heap.size w2 w5 := (btr hb3 hb3.size hb4).trans (hf5.toBelow (by omega) fun b hb hm => by omega)
  have hN5 : Ng w2 w5 m gw w5.heap.size (ptOf t).length nv v (List.replicate (ptOf t).length (none, 0, 0)) := ⟨b5, r5, by simp, D5, by omega⟩
  simp only [b5.cell, List.getElem?_toArray, List.getElem?_cons_zero, List.getElem?_cons_succ, Addr.add_mk, List.getElem?_toArray, List.getElem?_cons_zero, List.getElem?_cons_succ, LdI_some, LdB_some, LdStr_some, LdP_some, LdSl_some, LdM_some, Nat.zero_add, Br_t, Br_f]
  rw [nn']
  refine ⟨inR_i64 (by omega) (by omega), ?_⟩
  generalize w5.heap.size = hi at hN5
  refine ⟨fun pp w' => ∃ (j : Nat) (wvs : List Sv), pp = (j : Int) - 1 ∧ j ≤ (ptOf t).length ∧ Ng w2 w' m gw hi (ptOf t).length nv v wvs ∧ (∀ (q : Nat) (h1 : q < wvs.length), j ≤ q → wvs[q].2.1 = (lsN ls q).length ∧ Rd LM (above hi w') wvs[q].1 wvs[q].2.2 (waysOf (ptOf t) ls q)), fun pp _ => (pp + 1).toNat,
    ⟨(ptOf t).length, _, rfl, Nat.le_refl _, hN5, fun q h1 hq => by simp at h1; omega⟩, ?_⟩
  rintro pp w6 ⟨j, wvs, rfl, hj, hN6, hdone⟩
  cases j with
  | zero =>
    unfold F36_l4
    refine brd (fun hge => by omega) (fun hlt => ?_)
    refine h m w6 (B2.trans (hN6.below.mono B2.size)) (ng_mc hN6 nn' nr (hl.keep B2) (by omega) (by omega) fun q h1 hq => ⟨(hdone q h1 hq).1, sub_of_only.rd (hdone q h1 hq).2⟩)
  | succ p =>
    rw [show (((p + 1 : Nat) : Int) - 1) = (p : Int) by omega]
    exact new_in (upOk t) (by omega) (by omega) hv (by omega) nn' nr (hl.keep B2) hN6 hdone fun wvs' w' h1 h2 => ⟨inR_i64 (by omega) (by omega), ⟨p, wvs', rfl, by omega, h1, h2⟩, by dsimp only; omega⟩
end Go.Proofs.Ytbocfedmdjkccaa
/- Twigs: Count and find of the document's matching. -/
namespace Go.Proofs.Ytbocfedmdjkccaa
open Go.RowKit Go.Vc
set_option linter.unusedVariables false
set_option linter.unusedSimpArgs false
set_option maxRecDepth 100000
theorem waysOf_len (ps : Pt) (ls : List (List Pl)) (q : Nat) : (waysOf ps ls q).length = (lsN ls q).length := by rw [waysOf, List.length_map]
theorem countR_calls {m : Nat} {ps : Pt} {ls : List (List Pl)} (h1 : 0 < ps.length) {w : World} {R : Ending → World → Prop} (hm : Mc w m ps ls 0) (hz : (lsN ls 0).length ≤ 1048576)
    (h : ∀ w', Below w.heap.size w w' → R (.returned (mV (rootsN ps ls))) w') :
    Calls Try.prog 37 #[.pointer (some ⟨m, 0, none⟩)] w R := by
  obtain ⟨nv, lv, wv, ty, wvs, hf⟩ := hm
  refine ok37 (some ⟨m, 0, none⟩) ?_
  unfold F37
  refine al fun g2 w1 hb1 b2 hge1 => al fun gn w2 hb2 bn2 hge2 => ?_
  simp only [Addr.add_mk, Nat.zero_add]
  refine st_blk bn2 (by simp) fun w3 bn3 hf3 => st_blk bn3 (by simp) fun w4 bn4 hf4 => ?_
  simp only [List.setIfInBounds_toArray, List.set_cons_zero, List.set_cons_succ] at bn4
  have hs1 := hb1.size
  have hs2 := hb2.size
  have l2 := b2.lt
  have ln := bn2.lt
  have F4 := hf3.trans hf4
  have B2 := btr hb1 hb1.size hb2
  have B4 : Below w.heap.size w w4 := B2.trans (F4.toBelow B2.size fun b hb hm => by omega)
  have b24 := F4.blk (b2.keep hb2) (by omega)
  have hp0 : 0 < wvs.length := by rw [hf.wl]; exact h1
  have hwl := waysOf_len ps ls 0
  have hall : sumL ((waysOf ps ls 0).take (lsN ls 0).length) = rootsN ps ls := by rw [← hwl, List.take_length]; rfl
  refine ⟨fun i w' => ∃ k : Nat, i = k ∧ k ≤ (lsN ls 0).length ∧ Below w.heap.size w w' ∧ Blk w' g2 #[.int .u64 0, .bool false] 68 ∧ Blk w' gn #[.int .u64 (mN (sumL ((waysOf ps ls 0).take k))), .bool (mO (sumL ((waysOf ps ls 0).take k)))] 68, fun i _ => (lsN ls 0).length - i.toNat,
    ⟨0, rfl, by omega, B4, b24, by rw [List.take_zero]; exact bn4⟩, ?_⟩
  rintro i w5 ⟨k, rfl, hk, hb5, b25, bn5⟩
  unfold F37_l3
  have f5 := hf.keep hb5
  obtain ⟨r1, r2⟩ := f5.rows 0 hp0 (Nat.le_refl _)
  simp only [NonNil_some, Addr.add_mk, Nat.zero_add, f5.blk.cell, List.getElem?_toArray, List.getElem?_cons_zero, List.getElem?_cons_succ, Addr.add_mk, List.getElem?_toArray, List.getElem?_cons_zero, List.getElem?_cons_succ, LdI_some, LdB_some, LdStr_some, LdP_some, LdSl_some, LdM_some, Nat.zero_add, Br_t, Br_f]
  refine f5.wr.sv f5.wn (i := 0) (k := 0) rfl hp0 fun b o c0 => ?_
  simp only [c0, Addr.add_mk, List.getElem?_toArray, List.getElem?_cons_zero, List.getElem?_cons_succ, LdI_some, LdB_some, LdStr_some, LdP_some, LdSl_some, LdM_some, Nat.zero_add, Br_t, Br_f]
  rw [r1]
  refine brd (fun hlt => ?_) (fun hge => ?_)
  · have hk2 : k < (lsN ls 0).length := by omega
    have hkw : k < (waysOf ps ls 0).length := by omega
    have hd5 : Below w5.heap.size w5 w5.drew := (Below.refl _ _).drew
    refine ⟨fun w' => Below w5.heap.size w5 w', hd5, _, blk_held bn5 (fun _ h => h) rfl, _, blk_held bn5 (fun _ h => h) rfl, _, _, _, blk_held f5.blk (fun _ h => h) rfl, ?_⟩
    refine f5.wr.svH (fun _ h => h) f5.wn (i := 0) (k := 0) rfl hp0 fun b o c0 => ⟨_, _, _, c0, ?_⟩
    refine r2.many (fun _ h => h) (by rw [r1, hwl]) rfl (k := k) hkw fun b o c0 c1 => ?_
    simp only [Addr.add_mk]
    refine ⟨_, c0, _, c1, ?_⟩
    refine plus_calls (sumL ((waysOf ps ls 0).take k)) (waysOf ps ls 0)[k] fun w6 hb6 => ⟨_, _, rfl, ?_⟩
    have e : sumL ((waysOf ps ls 0).take k) + (waysOf ps ls 0)[k] = sumL ((waysOf ps ls 0).take (k + 1)) := by rw [List.take_succ_eq_append_getElem hkw, sumL_snoc]
    rw [e]
    have D6 := hd5.trans hb6
    have B6 := btr hb5 hb5.size D6
    refine st_blk (bn5.keep D6) (by simp) fun w7 b7 hf7 => st_blk b7 (by simp) fun w8 b8 hf8 => ?_
    simp only [List.setIfInBounds_toArray, List.set_cons_zero, List.set_cons_succ] at b8
    have F8 := hf7.trans hf8
    exact ⟨inR_i64 (by omega) (by omega), ⟨k + 1, by simp, by omega, B6.trans (F8.toBelow B6.size fun b hb hm => by omega), F8.blk (b25.keep D6) (by omega), b8⟩, by omega⟩
  · have hk2 : k = (lsN ls 0).length := by omega
    subst hk2
    rw [hall] at bn5
    simp only [bn5.cell, List.getElem?_toArray, List.getElem?_cons_zero, List.getElem?_cons_succ, Addr.add_mk, List.getElem?_toArray, List.getElem?_cons_zero, List.getElem?_cons_succ, LdI_some, LdB_some, LdStr_some, LdP_some, LdSl_some, LdM_some, Nat.zero_add, Br_t, Br_f]
    refine st_blk b25 (by simp) fun w7 b7 hf7 => st_blk b7 (by simp) fun w8 b8 hf8 => ?_
    simp only [List.setIfInBounds_toArray, List.set_cons_zero, List.set_cons_succ] at b8
    simp only [b8.cell, List.getElem?_toArray, List.getElem?_cons_zero, List.getElem?_cons_succ, Addr.add_mk, List.getElem?_toArray, List.getElem?_cons_zero, List.getElem?_cons_succ, LdI_some, LdB_some, LdStr_some, LdP_some, LdSl_some, LdM_some, Nat.zero_add, Br_t, Br_f]
    exact h w8 (hb5.trans ((hf7.trans hf8).toBelow hb5.size fun b hb hm => by omega))
theorem own_hid {α : Type} {L : Lay α} {w : World} {k : Nat} {e : TypeId} {u v : Value} {xs : List α} (h : Own L w k e u xs) (hne : ∀ b, rowOf u = some b → rowOf v ≠ some b) : Own L (hid 0 (rowOf v) w) k e u xs := by
  rcases h with h | h | ⟨g, c, cur, rfl, hb, hh, hn, hm, hs, ht⟩
  · exact .inl h
  · exact .inr (.inl h)
  · exact .inr (.inr ⟨g, c, cur, rfl, hb, cells_only (hidB_iff.2 ⟨Nat.zero_le _, hne g rfl⟩) hh, hn, hm, hs, ht⟩)
theorem sub_hid {w w1 : World} {u v : Value} (hf : Fm (fun b => rowOf u = some b) w w1) (hr : ∀ b, rowOf v = some b → rowOf u = some b ∨ w.heap.size ≤ b) : Sub (hid 0 (rowOf u) w) (hid 0 (rowOf v) w1) :=
  sub_only (fun b hb h => hidB_iff.2 ⟨Nat.zero_le _, fun e => by
    rcases hr b e with h1 | h1
    · exact (hidB_iff.1 h).2 h1
    · omega⟩) fun b hb h => hf.block b hb fun e => (hidB_iff.1 h).2 e
theorem Rd.intH {w : World} {A : Option Addr} {c : Nat} {xs : List Int} {S : World → Prop} (h : Rd LI w A c xs) (hS : ∀ w1, S w1 → Below w.heap.size w w1) {n : Nat} (hn : n = xs.length) {i : Int} {k : Nat} (hi : i = k) (hk : k < xs.length) {K : Addr → Prop}
    (hK : ∀ b o, Held S ⟨b, o, none⟩ (.int .i64 xs[k]) → K ⟨b, o, none⟩) : IdxA A n i 1 K := by
  subst hi
  refine h.held hS hn (by omega) (by omega) rfl fun b o hc => ?_
  simp only [Int.toNat_natCast] at hc
  exact hK b o (hc 0 _ rfl)

theorem findR_calls {wL : World} {m lo : Nat} {ps : Pt} {ls : List (List Pl)} (hmc : Mc wL m ps ls 0) (hu : UpOk ps) (hn : ps.length ≤ 16) (hv : Vd ls) (hlo : wL.heap.size ≤ lo) : ∀ (mm : Nat) {p : Nat} {ch : List Nat} {chP : List Pl} {out : List (List Int)} {v cv : Sv} {vs : List Sv} {w : World} {R : Ending → World → Prop}, p + mm = ps.length →
    Below wL.heap.size wL w → lo ≤ w.heap.size → OMs w lo w.heap.size out v vs → ch.length = p → Cho ls ch chP → cv.2.1 = p → Rd LI (hid 0 (rowOf (slv v)) w) cv.1 cv.2.2 (ch.map Int.ofNat) → out.length + (allF ps ls mm chP).length ≤ 1048576 →
    (∀ v' vs' w', OMs w' lo w'.heap.size (out ++ (allF ps ls mm chP).map hanF) v' vs' → Fm (fun b => rowOf (slv v) = some b) w w' → (∀ b, rowOf (slv v') = some b → rowOf (slv v) = some b ∨ w.heap.size ≤ b) → R (.returned (slv v')) w') →
    Calls Try.prog 38 #[.pointer (some ⟨m, 0, none⟩), .int .i64 (p : Int), slv cv, slv v] w R := by
  obtain ⟨nv, lv, wv, ty, wvs, hf⟩ := hmc
  obtain ⟨hlen, lvs, hln, hlr, hls⟩ := hf.rl
  have hlvs := hls.len
  have hll := hf.ll
  have hlist : ∀ {w'} (q : Nat) (hq : q < ps.length), Below wL.heap.size wL w' → ∃ h : q < lvs.length, (lsN ls q).length ≤ 1048576 ∧ lvs[q].2.1 = (lsN ls q).length ∧ Rd LPl w' lvs[q].1 lvs[q].2.2 (lsN ls q) := fun q hq hb => by
    obtain ⟨z0, z1, z2⟩ := (hls.keep hb).get q (by omega) (by omega)
    rw [lsN_get (by omega)]; exact ⟨by omega, z0, z1, z2⟩
  intro mm
  induction mm with
  | zero =>
    intro p ch chP out v cv vs w R hpm hb hlw ho hcl hch hcn hcr hz hR
    have f0 := hf.keep hb
    refine ok38 (some ⟨m, 0, none⟩) p cv.1 cv.2.1 cv.2.2 v.1 v.2.1 v.2.2 ?_
    unfold F38
    simp only [NonNil_some, f0.blk.cell, List.getElem?_toArray, List.getElem?_cons_zero, Addr.add_mk, List.getElem?_toArray, List.getElem?_cons_zero, List.getElem?_cons_succ, LdI_some, LdB_some, LdStr_some, LdP_some, LdSl_some, LdM_some, Nat.zero_add, Br_t, Br_f]
    rw [f0.nn, show (((p : Nat) : Int) == ((ps.length : Nat) : Int)) = true by simp; omega, Br_t]
    have hcp : chP.length = ps.length := by rw [← hch.1]; omega
    have hcr0 : Rd LI w cv.1 cv.2.2 (ch.map Int.ofNat) := sub_of_only.rd hcr
    refine ⟨fun one oneN oneC k w1 => ∃ t : Nat, k = t ∧ t ≤ ps.length ∧ Below w.heap.size w w1 ∧ Own LH w1 w.heap.size 75 (.slice one oneN oneC) ((chP.take t).map (·.node)), fun _ _ _ k _ => ps.length - k.toNat, ⟨0, rfl, by omega, Below.refl _ _, Own.nil _ _ _ _⟩, ?_⟩
    rintro one oneN oneC k w1 ⟨t, rfl, ht, hb1, ho1⟩
    unfold F38_l4
    have B1 := btr hb hb.size hb1
    have hs1 := hb1.size
    refine brd (fun hlt => ?_) (fun hge => ?_)
    · have ht2 : t < ps.length := by omega
      have hd : Below w1.heap.size w1 w1.drew := (Below.refl _ _).drew
      have f1 := f0.keep hb1
      refine ⟨fun w' => Below w1.heap.size w1 w', hd, ?_⟩
      simp only [NonNil_some, Addr.add_mk, Nat.zero_add]
      refine ⟨_, _, _, blk_held f1.blk (fun _ h => h) rfl, ?_⟩
      obtain ⟨z, z0, z1, z2⟩ := hlist t ht2 B1
      refine (hlr.keep B1).svH (fun _ h => h) hln rfl (k := t) z fun b o c0 => ⟨_, _, _, c0, ?_⟩
      have htc : t < (ch.map Int.ofNat).length := by rw [List.length_map]; omega
      refine (hcr0.keep hb1).intH (fun _ h => h) (by rw [hcn, List.length_map]; omega) rfl (k := t) htc fun b o c0 => ?_
      have hc := hch.2 t (by omega) (by omega)
      obtain ⟨hci, hcx⟩ := List.getElem?_eq_some_iff.1 hc
      refine ⟨_, c0, ?_⟩
      rw [List.getElem_map]
      refine z2.plH (fun _ h => h) z1 (i := Int.ofNat ch[t]) rfl (k := ch[t]) hci fun b o d0 d1 d2 d3 => ⟨_, d0, ?_⟩
      rw [hcx]
      refine ap1 (L := LH) (x := chP[t].node) (.int .u64 0) 8 rfl rfl rfl rfl (ho1.keep hd) (Nat.le_trans hs1 hd.size) (by simp; omega) (by simp [maxLen]; omega) fun A' c' w3 ho3 hg => ⟨_, _, _, rfl, inR_i64 (by omega) (by omega), ⟨t + 1, by simp, by omega, (hb1.trans (hd.mono hs1)).trans hg.below, ?_⟩, by omega⟩
      rw [List.take_succ_eq_append_getElem (by omega), List.map_append]; exact ho3
    · have ht2 : t = ps.length := by omega
      rw [List.take_of_length_le (by omega)] at ho1
      have o1 := ho.keep hb1 (Nat.le_refl _)
      simp only [allF, List.length_singleton, List.map_cons, List.map_nil] at hz hR
      refine oms_push (m := (one, oneN, oneC)) o1 (by omega) hs1 ho1 hlw (by simp; omega) (by omega) fun A' c' w3 o3 hb3 hf3 hr3 => ⟨_, _, _, rfl, ?_⟩
      refine hR (A', out.length + 1, c') _ w3 o3 ((Fm.below hb1).trans hf3) fun b hb => ?_
      rcases hr3 b hb with h1 | h1
      · exact .inl h1
      · exact .inr (by omega)
  | succ mm ih =>
    intro p ch chP out v cv vs w R hpm hb hlw ho hcl hch hcn hcr hz hR
    have f0 := hf.keep hb
    have hpl : p < ps.length := by omega
    have hcp : chP.length = p := by rw [← hch.1]; exact hcl
    have hvp := hv _ (List.getElem_mem (by omega : p < ls.length))
    rw [← lsN_get (by omega)] at hvp
    refine ok38 (some ⟨m, 0, none⟩) p cv.1 cv.2.1 cv.2.2 v.1 v.2.1 v.2.2 ?_
    unfold F38
    simp only [NonNil_some, f0.blk.cell, List.getElem?_toArray, List.getElem?_cons_zero, Addr.add_mk, List.getElem?_toArray, List.getElem?_cons_zero, List.getElem?_cons_succ, LdI_some, LdB_some, LdStr_some, LdP_some, LdSl_some, LdM_some, Nat.zero_add, Br_t, Br_f]
    rw [f0.nn, show (((p : Nat) : Int) == ((ps.length : Nat) : Int)) = false by simp; omega, Br_f]
    have hprune := allF_prune hu ls mm chP (by omega)
    rw [hcp] at hprune
    have hup := hu p hpl
    let q : Pl → Bool := fun x => (way ps ls p x.s != 0) && fitsAt ps chP p x
    let Y : Pl → List (List Int) := fun x => (allF ps ls mm (chP ++ [x])).map hanF
    let G : Nat → List (List Int) := fun k => out ++ (((lsN ls p).take k).filter q).flatMap Y
    have Gs : ∀ k (hk : k < (lsN ls p).length), G (k + 1) = G k ++ if q (lsN ls p)[k] then Y (lsN ls p)[k] else [] := by
      intro k hk
      show out ++ _ = (out ++ _) ++ _
      rw [List.take_succ_eq_append_getElem hk, List.filter_append, List.flatMap_append, List.append_assoc, List.filter_cons]
      congr 2
      split <;> simp
    have Gend : G (lsN ls p).length = out ++ (allF ps ls (mm + 1) chP).map hanF := by
      show out ++ _ = _
      rw [List.take_length, hprune, List.map_flatMap]
    have Glen : ∀ k, k ≤ (lsN ls p).length → (G k).length ≤ (G (lsN ls p).length).length := by
      intro k hk
      have aux : ∀ a b c : List (List Int), a = b ++ c → b.length ≤ a.length := fun a b c h => by rw [h, List.length_append]; omega
      refine aux _ _ ((((lsN ls p).drop k).filter q).flatMap Y) ?_
      · show out ++ _ = (out ++ _) ++ _
        rw [List.take_length, List.append_assoc, ← List.flatMap_append, ← List.filter_append, List.take_append_drop]
    have Gz : (G (lsN ls p).length).length ≤ 1048576 := by rw [Gend, List.length_append, List.length_map]; exact hz
    rw [← Gend] at hR
    have G0 : G 0 = out := by show out ++ _ = out; simp
    have hqdef : ∀ x, q x = ((way ps ls p x.s != 0) && fitsAt ps chP p x) := fun _ => rfl
    have hY : ∀ x, Y x = (allF ps ls mm (chP ++ [x])).map hanF := fun _ => rfl
    clear_value q Y G
    refine ⟨fun oA oN oC k w1 => ∃ (t : Nat) (us : List Sv), k = t ∧ t ≤ (lsN ls p).length ∧ OMs w1 lo w1.heap.size (G t) (oA, oN, oC) us ∧ Fm (fun b => rowOf (slv v) = some b) w w1 ∧ (∀ b, rowOf (.slice oA oN oC) = some b → rowOf (slv v) = some b ∨ w.heap.size ≤ b), fun _ _ _ k _ => (lsN ls p).length - k.toNat,
      ⟨0, vs, rfl, by omega, by rw [G0]; exact ho, Fm.refl _ _, fun b hb => .inl hb⟩, ?_⟩
    rintro oA oN oC k w1 ⟨t, us, rfl, ht, ho1, hF1, hr1⟩
    unfold F38_l9
    have hrow : ∀ b, rowOf (slv v) = some b → lo ≤ b := fun b hb => (ho.own.lt b hb).1
    have B1 : Below wL.heap.size wL w1 := hb.trans (hF1.toBelow hb.size fun b hb2 hm => by have := hrow b hm; omega)
    have hs1 := hF1.size
    have f1 := hf.keep B1
    have hcr1 := (sub_hid (v := .slice oA oN oC) hF1 hr1).rd hcr
    have hcr10 : Rd LI w1 cv.1 cv.2.2 (ch.map Int.ofNat) := sub_of_only.rd hcr1
    obtain ⟨zz, z0, z1, z2⟩ := hlist p hpl B1
    simp only [NonNil_some, Addr.add_mk, Nat.zero_add, f1.blk.cell, List.getElem?_toArray, List.getElem?_cons_zero, List.getElem?_cons_succ, Addr.add_mk, List.getElem?_toArray, List.getElem?_cons_zero, List.getElem?_cons_succ, LdI_some, LdB_some, LdStr_some, LdP_some, LdSl_some, LdM_some, Nat.zero_add, Br_t, Br_f]
    refine (hlr.keep B1).sv hln rfl (k := p) zz fun b o c0 => ?_
    simp only [c0, Addr.add_mk, List.getElem?_toArray, List.getElem?_cons_zero, List.getElem?_cons_succ, LdI_some, LdB_some, LdStr_some, LdP_some, LdSl_some, LdM_some, Nat.zero_add, Br_t, Br_f]
    rw [z1]
    refine brd (fun hlt => ?_) (fun hge => ?_)
    · have ht2 : t < (lsN ls p).length := by omega
      have hGt := Gs t ht2
      have hx := canB_l (hvp.1 _ (List.getElem_mem ht2))
      refine ⟨fun oA oN oC w' => ∃ us, OMs w' lo w'.heap.size (G (t + 1)) (oA, oN, oC) us ∧ Fm (fun b => rowOf (slv v) = some b) w w' ∧ (∀ b, rowOf (.slice oA oN oC) = some b → rowOf (slv v) = some b ∨ w.heap.size ≤ b), ?_, ?_⟩
      · rintro oA oN oC w' ⟨us, q1, q2, q3⟩
        unfold F38_j10
        exact ⟨inR_i64 (by omega) (by omega), ⟨t + 1, us, by simp, by omega, q1, q2, q3⟩, by omega⟩
      have skip : ∀ w', Below w1.heap.size w1 w' → q (lsN ls p)[t] = false → ∃ us, OMs w' lo w'.heap.size (G (t + 1)) (oA, oN, oC) us ∧ Fm (fun b => rowOf (slv v) = some b) w w' ∧ (∀ b, rowOf (.slice oA oN oC) = some b → rowOf (slv v) = some b ∨ w.heap.size ≤ b) := fun w' hb' hq => by
        rw [hq] at hGt
        simp only [Bool.false_eq_true, if_false, List.append_nil] at hGt
        rw [hGt]; exact ⟨us, ho1.keep hb' hb'.size, hF1.tr hb', hr1⟩
      refine ⟨fun w' => Below w1.heap.size w1 w' ∧ q (lsN ls p)[t] = true, ?_, ?_⟩
      · rintro w2 ⟨hb2, hq⟩
        unfold F38_j12
        rw [hq, if_pos rfl] at hGt
        have hs2 := hb2.size
        have ho2 := ho1.keep hb2 hs2
        refine ⟨inR_i64 (by omega) (by omega), ?_⟩
        refine al fun g3 w3 hb3 b3 hge3 => ?_
        have hs3 := hb3.size
        have hcr2 := hcr10.keep (btr hb2 hs2 hb3)
        have hmx : ch.length ≤ 16 := by omega
        refine ap (L := LI) (xs := []) (ys := ch.map Int.ofNat) (base := w2.heap.size) (.int .i64 0) 8 (by rw [hcn, List.length_map]; omega) rfl rfl rfl (Own.bare _ _ _ _ _) hcr2 (by omega) (by simp; omega) (by simp [maxLen]; omega) fun A4 c4 w4 o4 gr4 => ⟨_, _, _, rfl, ?_⟩
        refine ap1 (L := LI) (x := (t : Int)) (.int .i64 0) 8 rfl rfl rfl rfl o4 (by have := gr4.lt; omega) (by simp; omega) (by simp [maxLen]; omega) fun A5 c5 w5 o5 gr5 => ⟨_, _, _, rfl, ?_⟩
        have B5 : Below w2.heap.size w2 w5 := (hb3.trans gr4.below).trans gr5.below
        have D5 := btr hb2 hs2 B5
        have ho5 := ho1.keep D5 D5.size
        have hs5 := D5.size
        simp only [List.nil_append, List.length_nil, List.length_map, Nat.zero_add] at o5
        have e5 : ch.map Int.ofNat ++ [(t : Int)] = (ch ++ [t]).map Int.ofNat := by simp
        rw [e5] at o5
        have hch2 := hch.snoc (k := t) (by rw [hcl]; exact ht2)
        simp only [hcl] at hch2
        have hgz : (G (t + 1)).length ≤ 1048576 := Nat.le_trans (Glen (t + 1) (by omega)) Gz
        rw [hGt, List.length_append, hY, List.length_map] at hgz
        rw [show ((p : Nat) : Int) + 1 = ((p + 1 : Nat) : Int) by omega]
        have o5h := (own_hid (v := .slice oA oN oC) o5 fun b hb hb2 => by
          have h1 := (o5.lt b hb).1
          have h2 := (ho1.own.lt b hb2).2
          omega).rd
        refine ih (p := p + 1) (v := (oA, oN, oC)) (cv := (A5, _, c5)) (by omega) (B1.trans (D5.mono B1.size)) (by omega) ho5 (by simp [hcl]) hch2 (by simp [hcl]) (by simpa using o5h.2) hgz fun v' vs' w6 o6 hF6 hr6 => ⟨_, _, _, rfl, ?_⟩
        rw [hGt, hY]
        refine ⟨vs', o6, (hF1.tr D5).trans2 hF6 fun b hb hm => ?_, fun b hb => ?_⟩
        · rcases hr1 b hm with h1 | h1
          · exact h1
          · omega
        · rcases hr6 b hb with h1 | h1
          · exact hr1 b h1
          · exact .inr (by omega)
      · have hd1 : Below w1.heap.size w1 w1.drew := (Below.refl _ _).drew
        have hpw : p < wvs.length := by rw [hf.wl]; exact hpl
        obtain ⟨r1, r2⟩ := f1.rows p hpw (Nat.zero_le _)
        have hwl := waysOf_len ps ls p
        refine ⟨fun w' => Below w1.heap.size w1 w', hd1, _, _, _, blk_held f1.blk (fun _ h => h) rfl, ?_⟩
        refine f1.wr.svH (fun _ h => h) f1.wn rfl (k := p) hpw fun b o c0 => ⟨_, _, _, c0, ?_⟩
        refine r2.many (fun _ h => h) (by rw [r1, hwl]) rfl (k := t) (by omega) fun b o c0 c1 => ?_
        simp only [Addr.add_mk]
        refine ⟨_, c0, _, c1, ?_⟩
        have hway : (waysOf ps ls p)[t]'(by omega) = way ps ls p (lsN ls p)[t].s := by simp [waysOf]
        rw [hway]
        refine none_calls _ fun w2 hb2 => ⟨_, rfl, hd1.trans hb2, ?_⟩
        have D2 := hd1.trans hb2
        have hqt := hqdef (lsN ls p)[t]
        refine brd (fun hw0 => skip w2 D2 (by rw [hqt, hw0]; rfl)) (fun hw0 => ?_)
        have hwt : (way ps ls p (lsN ls p)[t].s != 0) = true := by simpa using hw0
        rw [hwt, Bool.true_and] at hqt
        refine brd (fun hi => ?_) (fun hi => ⟨D2, ?_⟩)
        · obtain ⟨u, hu2⟩ : ∃ u : Nat, upN ps p = u := ⟨(upN ps p).toNat, by omega⟩
          have hup2 : u < p := by omega
          have hpn : p < (ps.map ndOf).length := by rw [List.length_map]; exact hpl
          have hupn : (ps.map ndOf)[p].up = (u : Int) := by rw [List.getElem_map, ← hu2, upN_get hpl]; rfl
          have hdn : (ps.map ndOf)[p].d = dN ps p := by rw [List.getElem_map, dN_get hpl]; rfl
          refine ⟨_, _, _, blk_held f1.blk (fun _ h => h) rfl, ?_⟩
          refine f1.nr.ndH (fun _ h => h) (by rw [f1.nn, List.length_map]) rfl (k := p) hpn fun b o n0 n1 n2 => ?_
          simp only [Addr.add_mk]
          refine ⟨_, n0, _, n1, _, n2, _, _, _, blk_held f1.blk (fun _ h => h) rfl, _, _, _, blk_held f1.blk (fun _ h => h) rfl, ?_⟩
          refine f1.nr.ndH (fun _ h => h) (by rw [f1.nn, List.length_map]) rfl (k := p) hpn fun b o n0 n1 n2 => ⟨_, n0, ?_⟩
          rw [hupn]
          obtain ⟨yy, y0, y1, y2⟩ := hlist u (by omega) B1
          refine (hlr.keep B1).svH (fun _ h => h) hln rfl (k := u) yy fun b o c0 => ⟨_, _, _, c0, _, _, _, blk_held f1.blk (fun _ h => h) rfl, ?_⟩
          refine f1.nr.ndH (fun _ h => h) (by rw [f1.nn, List.length_map]) rfl (k := p) hpn fun b o n0 n1 n2 => ⟨_, n0, ?_⟩
          rw [hupn]
          have huc : u < (ch.map Int.ofNat).length := by rw [List.length_map]; omega
          refine hcr10.intH (fun _ h => h) (by rw [hcn, List.length_map]; omega) rfl (k := u) huc fun b o c0 => ?_
          have hc := hch.2 u (by omega) (by omega)
          obtain ⟨hci, hcx⟩ := List.getElem?_eq_some_iff.1 hc
          refine ⟨_, c0, ?_⟩
          rw [List.getElem_map]
          refine y2.plH (fun _ h => h) y1 (i := Int.ofNat ch[u]) rfl (k := ch[u]) hci fun b o d0 d1 d2 d3 => ?_
          rw [hcx] at d0 d1 d2 d3
          simp only [Addr.add_mk, Nat.add_assoc, Nat.reduceAdd]
          refine ⟨_, d1, _, d2, _, d3, _, _, _, blk_held f1.blk (fun _ h => h) rfl, ?_⟩
          refine (hlr.keep B1).svH (fun _ h => h) hln rfl (k := p) zz fun b o c0 => ⟨_, _, _, c0, ?_⟩
          refine z2.plH (fun _ h => h) z1 rfl (k := t) ht2 fun b o d0 d1 d2 d3 => ?_
          simp only [Addr.add_mk, Nat.add_assoc, Nat.reduceAdd]
          refine ⟨_, d1, _, d2, _, d3, ?_⟩
          have hacan : canB chP[u].s = true := by
            have h6 := List.getElem_mem hci
            rw [hcx] at h6
            have h7 := (hv _ (List.getElem_mem (by omega : u < ls.length))).1
            rw [← lsN_get (by omega)] at h7
            exact h7 _ h6
          have ha := canB_l hacan
          have hfa : fitsAt ps chP p (lsN ls p)[t] = fitB (dN ps p) chP[u].s (lsN ls p)[t].s := by
            unfold fitsAt
            rw [if_neg (by omega), hu2]
            simp only [Int.toNat_natCast]
            rw [List.getElem?_eq_getElem (by omega)]
          refine fitsR_calls ⟨(u : Int), (ps.map ndOf)[p].d, (ps.map ndOf)[p].nm⟩ chP[u].s (lsN ls p)[t].s ha.1 (by omega) fun w3 hb3 => ⟨_, rfl, ?_⟩
          have D3 := btr D2 D2.size hb3
          rw [hdn, ← hfa, ← hqt, brnot]
          refine br (fun hq => ⟨D3, hq⟩) (fun hq => skip w3 D3 hq)
        · rw [hqt]
          unfold fitsAt
          rw [if_pos (by have := hup.2.2.2 (by omega); omega)]
    · have ht2 : t = (lsN ls p).length := by omega
      subst ht2
      exact hR (oA, oN, oC) us w1 ho1 hF1 hr1
end Go.Proofs.Ytbocfedmdjkccaa
/- Twigs: Find and Paths of the document; the law. -/
namespace Go.Proofs.Ytbocfedmdjkccaa
open Go.RowKit Go.Vc
set_option linter.unusedVariables false
set_option linter.unusedSimpArgs false
set_option maxRecDepth 100000
theorem all_count (t : Tw) (ls : List (List Pl)) : (allOf t ls).length = rootsN (ptOf t) ls := allF_count (upOk t) ls (by rw [ptOf_len]; exact t.sz_pos)
theorem FindR_calls (t : Tw) (e : E3) (ls : List (List Pl)) (v : Sv) (most : Int) {w : World} {R : Ending → World → Prop} (hmost : most ≤ 9223372036854775807) (ht : RTw w t e) (hl : RLs w ls v)
    (h : ∀ u us w', Below w.heap.size w w' → OMs w' w.heap.size w'.heap.size (findL t ls most) u us → R (.returned (.tuple #[slv u, .int .i64 (findE t ls most)])) w') :
    Calls Try.prog 14 #[.agg #[.string e.nm, .bool e.d, .slice e.sl.1 e.sl.2.1 e.sl.2.2], slv v, .int .i64 most] w R := by
  have none : ∀ w', Below w.heap.size w w' → ∀ z, findE t ls most = z → z ≠ 0 → R (.returned (.tuple #[.slice none 0 0, .int .i64 z])) w' := fun w' hb z hz h0 => by
    have H := h (.none, 0, 0) [] w' hb
    unfold findL at H
    rw [hz, if_neg h0] at H
    exact H (OMs.nil _ _ _)
  refine ok14 e.nm e.d e.sl.1 e.sl.2.1 e.sl.2.2 v.1 v.2.1 v.2.2 most ?_
  unfold F14
  refine al fun gt w1 hb1 bt hge1 => ?_
  simp only [Addr.add_mk, Nat.zero_add, bt.cell, List.getElem?_toArray, List.getElem?_cons_zero, List.getElem?_cons_succ, Addr.add_mk, List.getElem?_toArray, List.getElem?_cons_zero, List.getElem?_cons_succ, LdI_some, LdB_some, LdStr_some, LdP_some, LdSl_some, LdM_some, Nat.zero_add, Br_t, Br_f]
  refine can_calls t e ls v (ht.keep hb1) (hl.keep hb1) fun w2 hb2 => ⟨_, rfl, ?_⟩
  have B2 := btr hb1 hb1.size hb2
  refine ⟨fun z w' => w2 = w' ∧ z = if canF t ls = 0 then if most < 0 then 1 else 0 else canF t ls, ?_, ?_⟩
  · rintro z _ ⟨rfl, hz⟩
    unfold F14_j4
    refine brn (fun hne => ?_) (fun hz0 => ?_)
    · refine none w2 B2 z ?_ hne
      unfold findE
      split at hz
      · rename_i h0
        rw [if_pos h0]
        split at hz
        · rename_i h1; rw [if_pos h1, hz]
        · exact absurd hz hne
      · rename_i h0; rw [if_neg h0, hz]
    · have h0 : canF t ls = 0 := by
        split at hz
        · assumption
        · rename_i h0; exact absurd (hz.symm.trans hz0) h0
      have hm0 : ¬ most < 0 := fun hm => by rw [if_pos h0, if_pos hm, hz0] at hz; cases hz
      obtain ⟨h16, hll, hvd⟩ := canF_vd h0
      have hlen := ptOf_len t
      have hpos := t.sz_pos
      have bt2 := bt.keep hb2
      simp only [Addr.add_mk, Nat.zero_add, bt2.cell, List.getElem?_toArray, List.getElem?_cons_zero, List.getElem?_cons_succ, Addr.add_mk, List.getElem?_toArray, List.getElem?_cons_zero, List.getElem?_cons_succ, LdI_some, LdB_some, LdStr_some, LdP_some, LdSl_some, LdM_some, Nat.zero_add, Br_t, Br_f]
      refine New_calls t e ls v (ht.keep B2) (hl.keep B2) h16 hll hvd fun m w3 hb3 hmc => ⟨_, rfl, ?_⟩
      have B3 := btr B2 B2.size hb3
      have hz0 : (lsN ls 0).length ≤ 1048576 := by
        obtain ⟨_, vs, _, _, hks⟩ := hl
        obtain ⟨z0, -, -⟩ := hks.get 0 (by omega) (by rw [hks.len]; omega)
        rw [lsN_get (by omega)]; exact z0
      have hE : findE t ls most = if limN most < rootsN (ptOf t) ls then 2 else 0 := by unfold findE; rw [if_pos h0, if_neg hm0, all_count]
      have hlim : limN most ≤ 16384 := by unfold limN; split <;> omega
      refine ⟨fun w' => Below w.heap.size w w' ∧ Mc w' m (ptOf t) ls 0 ∧ rootsN (ptOf t) ls ≤ limN most, ?_, ?_⟩
      · rintro w4 ⟨hb4, hmc4, hle⟩
        unfold F14_j10
        have hc := all_count t ls
        rw [if_neg (by omega)] at hE
        unfold findL at h
        rw [hE, if_pos rfl] at h
        have hcr : Rd LI (hid 0 (rowOf (.slice .none 0 0)) w4) .none 0 (([] : List Nat).map Int.ofNat) := Rd.nil _ _
        refine findR_calls (lo := w4.heap.size) hmc4 (upOk t) (by omega) hvd (Nat.le_refl _) (ptOf t).length (p := 0) (ch := []) (chP := []) (out := []) (v := (.none, 0, 0)) (cv := (.none, 0, 0)) (vs := []) (by omega) (Below.refl _ _) (Nat.le_refl _) (OMs.nil _ _ _) rfl ⟨rfl, fun i h => by simp at h⟩ rfl hcr (by
          have : (allF (ptOf t) ls (ptOf t).length []).length = rootsN (ptOf t) ls := hc
          rw [this]; simp; omega) fun u us w5 ho hf _ => ⟨_, _, _, rfl, ?_⟩
        refine h u us w5 (hb4.trans (hf.toBelow hb4.size fun b hb hm => by cases hm)) ?_
        rw [List.nil_append] at ho
        exact ho.rebase hb4.size
      · refine countR_calls (by omega) hmc hz0 fun w4 hb4 => ⟨_, _, rfl, ?_⟩
        refine al fun gn w5 hb5 bn5 hge5 => st_blk bn5 (by simp) fun w6 bn6 hf6 => ?_
        simp only [Addr.add_mk, Nat.zero_add]
        refine st_blk bn6 (by simp) fun w7 bn7 hf7 => ?_
        simp only [List.setIfInBounds_toArray, List.set_cons_zero, List.set_cons_succ] at bn7
        have hl5 := bn5.lt
        have D7 : Below w3.heap.size w3 w7 := (btr hb4 hb4.size hb5).trans ((hf6.trans hf7).toBelow (Nat.le_trans hb4.size hb5.size) fun b hb hm => by have := hb4.size; omega)
        have B7 := btr B3 B3.size D7
        simp only [bn7.cell, List.getElem?_toArray, List.getElem?_cons_zero, List.getElem?_cons_succ, Addr.add_mk, List.getElem?_toArray, List.getElem?_cons_zero, List.getElem?_cons_succ, LdI_some, LdB_some, LdStr_some, LdP_some, LdSl_some, LdM_some, Nat.zero_add, Br_t, Br_f]
        generalize hC : rootsN (ptOf t) ls = C at *
        have many : limN most < C → R (.returned (.tuple #[.slice .none 0 0, .int .i64 2])) w7 := fun hh => none w7 B7 2 (by rw [hE, if_pos hh]) (by decide)
        have hln : limN most = if 16384 < most then 16384 else most.toNat := rfl
        refine br (fun ho => many ?_) (fun ho => ?_)
        · have := mO_t.1 ho; omega
        · have hlt := mO_f.1 ho
          rw [mN_lt hlt]
          refine ⟨inR_u64 (by omega) (by omega), ?_⟩
          refine brd (fun hgt => many (by rw [hln]; split <;> omega)) (fun hle => ?_)
          refine brd (fun hgt => many (by rw [hln]; split <;> omega)) (fun hle2 => ⟨B7, hmc.keep D7, by rw [hln]; split <;> omega⟩)
  · refine bre (fun h0 => ?_) (fun h0 => ⟨rfl, by rw [if_neg h0]⟩)
    refine brd (fun hm => ⟨rfl, by rw [if_pos h0, if_pos hm]⟩) (fun hm => ⟨rfl, by rw [if_pos h0, if_neg hm, h0]⟩)
theorem PathsR_calls (t : Tw) (e : E3) (ls : List (List Pl)) (v : Sv) (most : Int) {w : World} {R : Ending → World → Prop} (hmost : most ≤ 9223372036854775807) (ht : RTw w t e) (hl : RLs w ls v)
    (h : ∀ u us w', Below w.heap.size w w' → OMs w' w.heap.size w'.heap.size (pathsL t ls most) u us → R (.returned (.tuple #[slv u, .int .i64 (pathsE t ls most)])) w') :
    Calls Try.prog 16 #[.agg #[.string e.nm, .bool e.d, .slice e.sl.1 e.sl.2.1 e.sl.2.2], slv v, .int .i64 most] w R := by
  refine ok16 e.nm e.d e.sl.1 e.sl.2.1 e.sl.2.2 v.1 v.2.1 v.2.2 most ?_
  unfold F16
  unfold pathsE pathsL at h
  refine al fun gt w1 hb1 bt hge1 => ?_
  simp only [Addr.add_mk, Nat.zero_add, bt.cell, List.getElem?_toArray, List.getElem?_cons_zero, List.getElem?_cons_succ, Addr.add_mk, List.getElem?_toArray, List.getElem?_cons_zero, List.getElem?_cons_succ, LdI_some, LdB_some, LdStr_some, LdP_some, LdSl_some, LdM_some, Nat.zero_add, Br_t, Br_f]
  refine checkR_calls t e (ht.keep hb1) fun w2 hb2 => ⟨_, rfl, ?_⟩
  have B2 := btr hb1 hb1.size hb2
  refine brn (fun hne => ?_) (fun h0 => ?_)
  · rw [if_neg hne, if_neg hne] at h
    exact h (none, 0, 0) [] w2 B2 (OMs.nil _ _ _)
  rw [if_pos h0, if_pos h0] at h
  have bt2 := bt.keep hb2
  simp only [Addr.add_mk, Nat.zero_add, bt2.cell, List.getElem?_toArray, List.getElem?_cons_zero, List.getElem?_cons_succ, Addr.add_mk, List.getElem?_toArray, List.getElem?_cons_zero, List.getElem?_cons_succ, LdI_some, LdB_some, LdStr_some, LdP_some, LdSl_some, LdM_some, Nat.zero_add, Br_t, Br_f]
  refine straight_calls t e (ht.keep B2) fun w3 hb3 => ⟨_, rfl, ?_⟩
  have B3 := btr B2 B2.size hb3
  rw [brnot]
  refine br (fun hs => ?_) (fun hs => ?_)
  · rw [if_pos hs, if_pos hs] at h
    have bt3 := bt2.keep hb3
    simp only [Addr.add_mk, Nat.zero_add, bt3.cell, List.getElem?_toArray, List.getElem?_cons_zero, List.getElem?_cons_succ, Addr.add_mk, List.getElem?_toArray, List.getElem?_cons_zero, List.getElem?_cons_succ, LdI_some, LdB_some, LdStr_some, LdP_some, LdSl_some, LdM_some, Nat.zero_add, Br_t, Br_f]
    exact FindR_calls t e ls v most hmost (ht.keep B3) (hl.keep B3) fun u us w4 hb4 ho => ⟨_, _, _, _, rfl, h u us w4 (btr B3 B3.size hb4) (ho.rebase B3.size)⟩
  · rw [if_neg (by rw [hs]; decide), if_neg (by rw [hs]; decide)] at h
    exact h (none, 0, 0) [] w3 B3 (OMs.nil _ _ _)
end Go.Proofs.Ytbocfedmdjkccaa
/- Twigs: Count of the program. -/
namespace Go.Proofs.Ytbocfedmdjkccaa
open Go.RowKit Go.Vc
set_option linter.unusedVariables false
set_option linter.unusedSimpArgs false
set_option maxRecDepth 100000
def countE (t : Tw) (ls : List (List Pl)) : Int := if canF t ls = 0 then if 18446744073709551616 ≤ rootsN (ptOf t) ls then 2 else 0 else canF t ls
def countN (t : Tw) (ls : List (List Pl)) : Int := if countE t ls = 0 then (rootsN (ptOf t) ls : Int) else 0
theorem CountP_calls (t : Tw) (e : E3) (ls : List (List Pl)) (v : Sv) {w : World} {R : Ending → World → Prop} (ht : RTw w t e) (hl : RLs w ls v)
    (h : ∀ w', Below w.heap.size w w' → R (.returned (.tuple #[.int .u64 (countN t ls), .int .i64 (countE t ls)])) w') :
    Calls Try.prog 23 #[.agg #[.string e.nm, .bool e.d, .slice e.sl.1 e.sl.2.1 e.sl.2.2], slv v] w R := by
  refine ok23 e.nm e.d e.sl.1 e.sl.2.1 e.sl.2.2 v.1 v.2.1 v.2.2 ?_
  unfold F23
  refine al fun gt w1 hb1 bt hge1 => ?_
  simp only [Addr.add_mk, Nat.zero_add, bt.cell, List.getElem?_toArray, List.getElem?_cons_zero, List.getElem?_cons_succ, Addr.add_mk, List.getElem?_toArray, List.getElem?_cons_zero, List.getElem?_cons_succ, LdI_some, LdB_some, LdStr_some, LdP_some, LdSl_some, LdM_some, Nat.zero_add, Br_t, Br_f]
  refine begun_calls t e ls v (ht.keep hb1) (hl.keep hb1) fun fo w2 hb2 hfo => ⟨_, _, rfl, ?_⟩
  have B2 := btr hb1 hb1.size hb2
  refine brn (fun hne => ?_) (fun h0 => ?_)
  · have H := h w2 B2
    have hE : countE t ls = canF t ls := by unfold countE; rw [if_neg hne]
    unfold countN at H
    rw [hE, if_neg hne] at H
    exact H
  obtain ⟨f, rfl, hfd⟩ := hfo h0
  obtain ⟨h16, hll, hvd⟩ := canF_vd h0
  have hlen := ptOf_len t
  have hpos := t.sz_pos
  obtain ⟨pv, lv, kv, wv, fv, ty, wvs, fvs, hf⟩ := hfd
  have hp0 : 0 < wvs.length := by rw [hf.wl]; omega
  have hf0 : 0 < fvs.length := by rw [hf.fl]; omega
  obtain ⟨ns, fs, r1, r2, r3, r4, r5, r6, r7⟩ := hf.rows 0 hp0 hf0 (Nat.le_refl _)
  have hz0 : (lsN ls 0).length ≤ 1048576 := by
    obtain ⟨_, vs, _, _, hks⟩ := hl
    obtain ⟨z0, -, -⟩ := hks.get 0 (by omega) (by rw [hks.len]; omega)
    rw [lsN_get (by omega)]; exact z0
  have hwl := waysOf_len (ptOf t) ls 0
  have hall : sumL ((waysOf (ptOf t) ls 0).take (lsN ls 0).length) = rootsN (ptOf t) ls := by rw [← hwl, List.take_length]; rfl
  simp only [NonNil_some, Addr.add_mk, Nat.zero_add, hf.blk.cell, List.getElem?_toArray, List.getElem?_cons_zero, List.getElem?_cons_succ, Addr.add_mk, List.getElem?_toArray, List.getElem?_cons_zero, List.getElem?_cons_succ, LdI_some, LdB_some, LdStr_some, LdP_some, LdSl_some, LdM_some, Nat.zero_add, Br_t, Br_f]
  refine hf.wr.sv hf.wn (i := 0) (k := 0) rfl hp0 fun b o c0 => ?_
  simp only [c0, Addr.add_mk, List.getElem?_toArray, List.getElem?_cons_zero, List.getElem?_cons_succ, LdI_some, LdB_some, LdStr_some, LdP_some, LdSl_some, LdM_some, Nat.zero_add, Br_t, Br_f]
  rw [r1, r5]
  refine ⟨fun n full i w' => ∃ k : Nat, i = k ∧ k ≤ (lsN ls 0).length ∧ w' = w2 ∧ Cn (sumL ((waysOf (ptOf t) ls 0).take k)) n full, fun _ _ i _ => (lsN ls 0).length - i.toNat, ⟨0, rfl, by omega, rfl, by rw [List.take_zero]; exact Cn.zero⟩, ?_⟩
  rintro n full i w3 ⟨k, rfl, hk, rfl, hcn⟩
  unfold F23_l6
  refine brd (fun hlt => ?_) (fun hge => ?_)
  · have hk2 : k < (lsN ls 0).length := by omega
    have hkw : k < (waysOf (ptOf t) ls 0).length := by omega
    have hnext : sumL ((waysOf (ptOf t) ls 0).take (k + 1)) = sumL ((waysOf (ptOf t) ls 0).take k) + way (ptOf t) ls 0 (lsN ls 0)[k].s := by
      rw [List.take_succ_eq_append_getElem hkw, sumL_snoc]; simp [waysOf]
    refine ⟨fun n' full' w' => w' = w3 ∧ Cn (sumL ((waysOf (ptOf t) ls 0).take (k + 1))) n' full', ?_, ?_⟩
    · rintro n' full' w' ⟨rfl, hc⟩
      unfold F23_j10
      exact ⟨inR_i64 (by omega) (by omega), ⟨k + 1, by simp, by omega, rfl, hc⟩, by dsimp only; omega⟩
    have hkn : k < ns.length := by omega
    have hkf : k < fs.length := by omega
    have hcw := r7 k hk2 hkn hkf
    refine r2.han (by omega) rfl (k := k) hkn fun b o c0 => ?_
    simp only [c0, Addr.add_mk, List.getElem?_toArray, List.getElem?_cons_zero, List.getElem?_cons_succ, LdI_some, LdB_some, LdStr_some, LdP_some, LdSl_some, LdM_some, Nat.zero_add, Br_t, Br_f]
    refine add64_row hcn.2.2.1 hcw.2.2.1 ⟨_, _, rfl, ?_⟩
    have hadd := hcn.add hcw
    rw [← hnext] at hadd
    refine br (fun hfu => ⟨rfl, ?_⟩) (fun hfu => ?_)
    · subst hfu; exact hadd
    · subst hfu
      simp only [NonNil_some, Addr.add_mk, Nat.zero_add, hf.blk.cell, List.getElem?_toArray, List.getElem?_cons_zero, List.getElem?_cons_succ, Addr.add_mk, List.getElem?_toArray, List.getElem?_cons_zero, List.getElem?_cons_succ, LdI_some, LdB_some, LdStr_some, LdP_some, LdSl_some, LdM_some, Nat.zero_add, Br_t, Br_f]
      refine hf.fr.sv hf.fn (i := 0) (k := 0) rfl hf0 fun b o c0 => ?_
      simp only [c0, Addr.add_mk, List.getElem?_toArray, List.getElem?_cons_zero, List.getElem?_cons_succ, LdI_some, LdB_some, LdStr_some, LdP_some, LdSl_some, LdM_some, Nat.zero_add, Br_t, Br_f]
      refine r4.boo r3 rfl (k := k) hkf fun b o c0 => ?_
      simp only [c0, Addr.add_mk, List.getElem?_toArray, List.getElem?_cons_zero, List.getElem?_cons_succ, LdI_some, LdB_some, LdStr_some, LdP_some, LdSl_some, LdM_some, Nat.zero_add, Br_t, Br_f]
      refine br (fun hfk => ⟨by trivial, ?_⟩) (fun hfk => ⟨by trivial, ?_⟩)
      · rw [hfk] at hadd; exact hadd
      · rw [hfk] at hadd; exact hadd
  · have hk2 : k = (lsN ls 0).length := by omega
    subst hk2
    rw [hall] at hcn
    have H := h w3 B2
    refine br (fun hfu => ?_) (fun hfu => ?_)
    · subst hfu
      have hE : countE t ls = 2 := by unfold countE; rw [if_pos h0, if_pos hcn.full]
      unfold countN at H
      rw [hE, if_neg (by decide)] at H
      exact H
    · subst hfu
      have hs := hcn.small
      have hE : countE t ls = 0 := by unfold countE; rw [if_pos h0, if_neg (by omega)]
      unfold countN at H
      rw [hE, if_pos rfl, ← hs.1] at H
      exact H
end Go.Proofs.Ytbocfedmdjkccaa
/- Twigs: who stands in a match, as the program tells it. -/
namespace Go.Proofs.Ytbocfedmdjkccaa
open Go.RowKit Go.Vc
set_option linter.unusedVariables false
set_option linter.unusedSimpArgs false
set_option maxRecDepth 100000
def anyUp (d : Bool) (l : List Pl) (us : List Bool) (x : Sp) : Bool := (l.zip us).any fun a => a.2 && fitB d a.1.s x
def usedF (ps : Pt) (ls : List (List Pl)) : Nat → Nat → List Bool
  | 0, _ => []
  | f + 1, q => (lsN ls q).map fun x => (way ps ls q x.s != 0) && (decide (upN ps q < 0) || anyUp (dN ps q) (lsN ls (upN ps q).toNat) (usedF ps ls f (upN ps q).toNat) x.s)
theorem usedF_fuel {ps : Pt} (hu : UpOk ps) (ls : List (List Pl)) : ∀ f q, q < ps.length → q + 1 ≤ f → usedF ps ls f q = usedF ps ls (q + 1) q := by
  intro f
  induction f using Nat.strongRecOn with
  | _ f ih =>
    intro q hq h
    obtain ⟨f, rfl⟩ : ∃ g, f = g + 1 := ⟨f - 1, by omega⟩
    rw [usedF, usedF]
    refine List.map_congr_left fun x _ => ?_
    by_cases h0 : upN ps q < 0
    · rw [decide_eq_true h0]; simp
    · have hup := hu q hq
      have e1 := ih f (by omega) (upN ps q).toNat (by omega) (by omega)
      rcases Nat.lt_or_ge q (f + 1) with h3 | h3
      · rcases Nat.lt_or_eq_of_le (show q ≤ f by omega) with h4 | h4
        · have e2 := ih q (by omega) (upN ps q).toNat (by omega) (by omega)
          rw [e1, e2]
        · subst h4; rfl
      · omega
/-- Of each node of a list: does it stand in a match? -/
def usedR (ps : Pt) (ls : List (List Pl)) (q : Nat) : List Bool := usedF ps ls (q + 1) q
def usedB (ps : Pt) (ls : List (List Pl)) (q : Nat) (x : Pl) : Bool := (way ps ls q x.s != 0) && (decide (upN ps q < 0) || anyUp (dN ps q) (lsN ls (upN ps q).toNat) (usedR ps ls (upN ps q).toNat) x.s)
theorem usedR_eq {ps : Pt} (hu : UpOk ps) (ls : List (List Pl)) {q : Nat} (hq : q < ps.length) : usedR ps ls q = (lsN ls q).map (usedB ps ls q) := by
  rw [usedR, usedF]
  refine List.map_congr_left fun x _ => ?_
  unfold usedB
  by_cases h0 : upN ps q < 0
  · rw [decide_eq_true h0]; simp
  · have hup := hu q hq
    rw [usedF_fuel hu ls q _ (by omega) (by omega)]; rfl
theorem usedR_len {ps : Pt} (ls : List (List Pl)) (q : Nat) : (usedR ps ls q).length = (lsN ls q).length := by rw [usedR, usedF, List.length_map]
/-- Those that do. -/
def usedL (ps : Pt) (ls : List (List Pl)) (q : Nat) : List Pl := (lsN ls q).filter (usedB ps ls q)
def usedH (ps : Pt) (ls : List (List Pl)) (q : Nat) : List Int := (usedL ps ls q).map (·.node)
/-- What is being told of who stands in a match: what stays. -/
structure Uk (wF w : World) (gb gh hi n : Nat) (bvs hvs : List Sv) : Prop where
  rb : Row w gb bvs 91
  rh : Row w gh hvs 53
  lb : bvs.length = n
  lh : hvs.length = n
  below : Below wF.heap.size wF w
  lt : wF.heap.size ≤ gb ∧ gb < gh ∧ gh < hi ∧ hi ≤ w.heap.size
section
variable {wF w w1 : World} {gb gh hi n : Nat} {bvs hvs : List Sv}
theorem Uk.fm (h : Uk wF w gb gh hi n bvs hvs) {M : Nat → Prop} (hf : Fm M w w1) (hM : ∀ b, b < hi → ¬ M b) : Uk wF w1 gb gh hi n bvs hvs := by
  have hl := h.lt
  have hs := hf.size
  exact ⟨hf.blk h.rb (hM _ (by omega)), hf.blk h.rh (hM _ (by omega)), h.lb, h.lh, h.below.trans (hf.toBelow h.below.size fun b hb => hM b (by omega)), by omega⟩
theorem Uk.keep (h : Uk wF w gb gh hi n bvs hvs) (hb : Below w.heap.size w w1) : Uk wF w1 gb gh hi n bvs hvs := h.fm (M := fun _ => False) (.below hb) fun _ _ h => h
theorem Uk.setB (h : Uk wF w gb gh hi n bvs hvs) {bvs' : List Sv} (hf : Fm (· = gb) w w1) (hr : Row w1 gb bvs' 91) (hl : bvs'.length = n) : Uk wF w1 gb gh hi n bvs' hvs := by
  have hlt := h.lt
  have hs := hf.size
  exact ⟨hr, hf.blk h.rh (by omega), hl, h.lh, h.below.trans (hf.toBelow h.below.size fun b hb hm => by omega), by omega⟩
theorem Uk.setH (h : Uk wF w gb gh hi n bvs hvs) {hvs' : List Sv} (hf : Fm (· = gh) w w1) (hr : Row w1 gh hvs' 53) (hl : hvs'.length = n) : Uk wF w1 gb gh hi n bvs hvs' := by
  have hlt := h.lt
  have hs := hf.size
  exact ⟨hf.blk h.rb (by omega), hr, h.lb, hl, h.below.trans (hf.toBelow h.below.size fun b hb hm => by omega), by omega⟩
end
theorem zrow_bool (n : Nat) : (zrow #[Value.bool false] (n * 1)).toList = LBo.all (List.replicate n false) := by
  have e : LBo.all (List.replicate n false) = List.replicate n (.bool false) := by
    induction n with
    | zero => rfl
    | succ n ih => rw [List.replicate_succ, List.replicate_succ, ← ih]; rfl
  rw [e]
  unfold zrow
  refine List.ext_getElem (by simp) fun i h1 h2 => ?_
  simp [Nat.mod_one]
theorem any_take_succ {α : Type} (l : List α) (p : α → Bool) {k : Nat} (hk : k < l.length) : (l.take (k + 1)).any p = ((l.take k).any p || p l[k]) := by
  rw [List.take_succ_eq_append_getElem hk, List.any_append]; simp
end Go.Proofs.Ytbocfedmdjkccaa
/- Twigs: who stands in a match; fewer lists: plain. -/
namespace Go.Proofs.Ytbocfedmdjkccaa
open Go.RowKit Go.Vc
set_option linter.unusedVariables false
set_option linter.unusedSimpArgs false
set_option maxRecDepth 100000
section
variable {ps : Pt} {ls : List (List Pl)}
/-- A match: one node of each list, each fits under the one above. -/
def IsM (ps : Pt) (ls : List (List Pl)) (m : List Pl) : Prop := m.length = ps.length ∧ ∀ i (h : i < m.length), m[i] ∈ lsN ls i ∧ fitsAt ps (m.take i) i m[i] = true
theorem allF_mem {m : List Pl} : ∀ (k : Nat) (ch : List Pl), ch.length + k = ps.length → (m ∈ allF ps ls k ch ↔ m.length = ps.length ∧ m.take ch.length = ch ∧ ∀ i (h : i < m.length), ch.length ≤ i → m[i] ∈ lsN ls i ∧ fitsAt ps (m.take i) i m[i] = true)
  | 0, ch, h => by
    simp only [allF, List.mem_singleton]
    constructor
    · rintro rfl
      exact ⟨by omega, List.take_length, fun i h1 h2 => by omega⟩
    · rintro ⟨h1, h2, -⟩
      rw [← h2, List.take_of_length_le (by omega)]
  | k + 1, ch, h => by
    simp only [allF, List.mem_flatMap, List.mem_filter]
    constructor
    · rintro ⟨x, ⟨hx1, hx2⟩, hm⟩
      obtain ⟨h1, h2, h3⟩ := (allF_mem k (ch ++ [x]) (by simp; omega)).1 hm
      rw [List.length_append, List.length_singleton] at h2 h3
      have hc : m.take ch.length = ch := by
        have := congrArg (List.take ch.length) h2
        rw [List.take_take, Nat.min_eq_left (by omega), List.take_left] at this
        exact this
      refine ⟨h1, hc, fun i hi hle => ?_⟩
      rcases Nat.lt_or_eq_of_le hle with h4 | h4
      · exact h3 i hi h4
      · subst h4
        have hx : m[ch.length] = x := by
          have e1 : (m.take (ch.length + 1))[ch.length]? = some x := by rw [h2]; simp
          rw [List.getElem?_take_of_lt (by omega), List.getElem?_eq_getElem hi] at e1
          exact Option.some.inj e1
        rw [hx, hc]; exact ⟨hx1, hx2⟩
    · rintro ⟨h1, h2, h3⟩
      have hi : ch.length < m.length := by omega
      obtain ⟨g1, g2⟩ := h3 ch.length hi (Nat.le_refl _)
      rw [h2] at g2
      refine ⟨m[ch.length], ⟨g1, g2⟩, (allF_mem k _ (by simp; omega)).2 ⟨h1, ?_, fun i hi hle => h3 i hi (by rw [List.length_append] at hle; omega)⟩⟩
      rw [List.length_append, List.length_singleton, List.take_succ_eq_append_getElem hi, h2]
theorem isM_iff {m : List Pl} : m ∈ allF ps ls ps.length [] ↔ IsM ps ls m := by
  rw [allF_mem ps.length [] (by simp)]
  exact ⟨fun ⟨h1, _, h3⟩ => ⟨h1, fun i h => h3 i h (Nat.zero_le _)⟩, fun ⟨h1, h3⟩ => ⟨h1, rfl, fun i h _ => h3 i h⟩⟩
theorem allF_pre {m : List Pl} (h : IsM ps ls m) {i : Nat} (hi : i ≤ ps.length) : m ∈ allF ps ls (ps.length - i) (m.take i) := by
  obtain ⟨h1, h2⟩ := h
  have hl : (m.take i).length = i := by rw [List.length_take]; omega
  refine (allF_mem _ _ (by omega)).2 ⟨h1, by rw [hl], fun j hj _ => h2 j hj⟩
theorem allF_nodup (hn : ∀ i, (lsN ls i).Nodup) : ∀ (k : Nat) (ch : List Pl), (allF ps ls k ch).Nodup ∧ ∀ m ∈ allF ps ls k ch, m.take ch.length = ch
  | 0, ch => by simp [allF]
  | k + 1, ch => by
    have ih := fun x => allF_nodup hn k (ch ++ [x])
    have hpre : ∀ x, ∀ m ∈ allF ps ls k (ch ++ [x]), m.take ch.length = ch ∧ m[ch.length]? = some x := fun x m hm => by
      have h2 := (ih x).2 m hm
      rw [List.length_append, List.length_singleton] at h2
      refine ⟨?_, ?_⟩
      · have := congrArg (List.take ch.length) h2
        rw [List.take_take, Nat.min_eq_left (by omega), List.take_left] at this
        exact this
      · have e1 : (m.take (ch.length + 1))[ch.length]? = some x := by rw [h2]; simp
        rwa [List.getElem?_take_of_lt (by omega)] at e1
    refine ⟨?_, fun m hm => ?_⟩
    · rw [allF]
      have hf : ((lsN ls ch.length).filter (fitsAt ps ch ch.length)).Nodup := (hn ch.length).sublist List.filter_sublist
      generalize (lsN ls ch.length).filter (fitsAt ps ch ch.length) = F at hf
      induction F with
      | nil => simp
      | cons x F ihF =>
        have hx := List.nodup_cons.1 hf
        rw [List.flatMap_cons]
        refine List.nodup_append.2 ⟨(ih x).1, ihF hx.2, fun a ha b hb hab => ?_⟩
        subst hab
        obtain ⟨y, hy, hb⟩ := List.mem_flatMap.1 hb
        have e1 := (hpre x a ha).2
        have e2 := (hpre y a hb).2
        rw [e1] at e2
        cases e2
        exact hx.1 hy
    · rw [allF] at hm
      obtain ⟨x, hx, hm⟩ := List.mem_flatMap.1 hm
      exact (hpre x m hm).1
theorem nodup_sub {α : Type} [DecidableEq α] : ∀ {a b : List α}, a.Nodup → (∀ x ∈ a, x ∈ b) → a.length ≤ b.length
  | [], _, _, _ => by simp
  | x :: a, b, h, hs => by
    have h2 := List.nodup_cons.1 h
    have hx : x ∈ b := hs x (by simp)
    have ih := nodup_sub (b := b.erase x) h2.2 fun y hy => by
      have hne : y ≠ x := fun e => h2.1 (e ▸ hy)
      exact (List.mem_erase_of_ne hne).2 (hs y (by simp [hy]))
    rw [List.length_erase_of_mem hx] at ih
    have : 0 < b.length := List.length_pos_of_mem hx
    rw [List.length_cons]; omega
theorem any_zip {α β : Type} (f : α → Bool) (g : α → Bool) : ∀ (l : List α), (l.zip (l.map f)).any (fun a => a.2 && g a.1) = l.any fun a => f a && g a
  | [] => rfl
  | x :: l => by simp only [List.map_cons, List.zip_cons_cons, List.any_cons, any_zip (β := β) f g l]
theorem usedB_iff (hu : UpOk ps) {q : Nat} (hq : q < ps.length) (x : Pl) : usedB ps ls q x = true ↔ way ps ls q x.s ≠ 0 ∧ (upN ps q < 0 ∨ ∃ a ∈ lsN ls (upN ps q).toNat, usedB ps ls (upN ps q).toNat a = true ∧ fitB (dN ps q) a.s x.s = true) := by
  rw [show usedB ps ls q x = ((way ps ls q x.s != 0) && (decide (upN ps q < 0) || anyUp (dN ps q) (lsN ls (upN ps q).toNat) (usedR ps ls (upN ps q).toNat) x.s)) from rfl, Bool.and_eq_true, bne_iff_ne, Bool.or_eq_true, decide_eq_true_eq]
  by_cases h0 : upN ps q < 0
  · simp [h0]
  · have hup := hu q hq
    have e := usedR_eq hu ls (q := (upN ps q).toNat) (by omega)
    unfold anyUp
    rw [e, any_zip (β := Unit) (usedB ps ls (upN ps q).toNat) fun a => fitB (dN ps q) a.s x.s]
    simp only [List.any_eq_true, Bool.and_eq_true]
/-- What stands in a match is told. -/
theorem used_of (hu : UpOk ps) {m : List Pl} (h : IsM ps ls m) : ∀ i (hi : i < m.length), usedB ps ls i m[i] = true := by
  intro i
  induction i using Nat.strongRecOn with
  | _ i ih =>
    intro hi
    have hl := h.1
    have hq : i < ps.length := by omega
    refine (usedB_iff hu hq _).2 ⟨fun hw => ?_, ?_⟩
    · have hm := allF_pre h (i := i + 1) (by omega)
      rw [List.take_succ_eq_append_getElem hi] at hm
      have hlen : (m.take i).length = i := by rw [List.length_take]; omega
      rw [allF_dead hu ls (ps.length - (i + 1)) (m.take i) m[i] (by omega) (by rw [hlen]; exact hw)] at hm
      simp at hm
    · by_cases h0 : upN ps i < 0
      · exact .inl h0
      · refine .inr ?_
        have hup := hu i hq
        obtain ⟨u, hu2⟩ : ∃ u : Nat, upN ps i = u := ⟨(upN ps i).toNat, by omega⟩
        have hui : u < i := by omega
        rw [hu2]
        simp only [Int.toNat_natCast]
        refine ⟨m[u], (h.2 u (by omega)).1, ih u hui (by omega), ?_⟩
        have hf := (h.2 i hi).2
        unfold fitsAt at hf
        rw [if_neg h0, hu2] at hf
        simp only [Int.toNat_natCast] at hf
        rw [List.getElem?_take_of_lt hui, List.getElem?_eq_getElem (by omega)] at hf
        exact hf
/-- Those above one that is told, up to the first one. -/
theorem chain (hu : UpOk ps) : ∀ (i : Nat), i < ps.length → ∀ x ∈ lsN ls i, usedB ps ls i x = true → ∃ c : Nat → Option Pl, c i = some x ∧ (∀ j, i < j → c j = none) ∧ c 0 ≠ none ∧
    ∀ j a, c j = some a → j < ps.length ∧ a ∈ lsN ls j ∧ way ps ls j a.s ≠ 0 ∧ (0 ≤ upN ps j → ∃ b, c (upN ps j).toNat = some b ∧ fitB (dN ps j) b.s a.s = true) := by
  intro i
  induction i using Nat.strongRecOn with
  | _ i ih =>
    intro hi x hx hux
    obtain ⟨hw, hor⟩ := (usedB_iff hu hi x).1 hux
    have hup := hu i hi
    rcases hor with h0 | ⟨a, ha, hua, hfit⟩
    · have hi0 : i = 0 := by
        rcases Nat.eq_zero_or_pos i with h | h
        · exact h
        · have := hup.2.2.1 h; omega
      subst hi0
      refine ⟨fun j => if j = 0 then some x else none, by simp, fun j hj => by simp; omega, by simp, fun j b hb => ?_⟩
      by_cases hj : j = 0
      · subst hj
        simp at hb
        subst hb
        exact ⟨hi, hx, hw, fun h => by omega⟩
      · simp [hj] at hb
    · by_cases h0 : upN ps i < 0
      · have hi0 : i = 0 := by
          rcases Nat.eq_zero_or_pos i with h | h
          · exact h
          · have := hup.2.2.1 h; omega
        subst hi0
        refine ⟨fun j => if j = 0 then some x else none, by simp, fun j hj => by simp; omega, by simp, fun j b hb => ?_⟩
        by_cases hj : j = 0
        · subst hj
          simp at hb
          subst hb
          exact ⟨hi, hx, hw, fun h => by omega⟩
        · simp [hj] at hb
      · obtain ⟨u, hu2⟩ : ∃ u : Nat, upN ps i = u := ⟨(upN ps i).toNat, by omega⟩
        rw [hu2] at ha hua
        simp only [Int.toNat_natCast] at ha hua
        obtain ⟨c, c1, c2, c3, c4⟩ := ih u (by omega) (by omega) a ha hua
        refine ⟨fun j => if j = i then some x else c j, by simp, fun j hj => ?_, ?_, fun j b hb => ?_⟩
        · dsimp only
          rw [if_neg (by omega)]; exact c2 j (by omega)
        · dsimp only
          split
          · simp
          · exact c3
        · dsimp only at hb ⊢
          by_cases hj : j = i
          · subst hj
            rw [if_pos rfl] at hb
            cases hb
            refine ⟨hi, hx, hw, fun _ => ⟨a, ?_, hfit⟩⟩
            rw [hu2]
            simp only [Int.toNat_natCast]
            rw [if_neg (by omega)]; exact c1
          · rw [if_neg hj] at hb
            obtain ⟨k1, k2, k3, k4⟩ := c4 j b hb
            refine ⟨k1, k2, k3, fun h => ?_⟩
            obtain ⟨b', hb', hf'⟩ := k4 h
            refine ⟨b', ?_, hf'⟩
            rw [if_neg ?_]; exact hb'
            intro e
            rw [e, c2 i (by omega)] at hb'
            cases hb'
theorem build (hu : UpOk ps) {c : Nat → Option Pl} (c3 : c 0 ≠ none) (c4 : ∀ j a, c j = some a → j < ps.length ∧ a ∈ lsN ls j ∧ way ps ls j a.s ≠ 0 ∧ (0 ≤ upN ps j → ∃ b, c (upN ps j).toNat = some b ∧ fitB (dN ps j) b.s a.s = true)) :
    ∀ k, k ≤ ps.length → ∃ ch : List Pl, ch.length = k ∧ (∀ j (h : j < ch.length), ch[j] ∈ lsN ls j ∧ way ps ls j ch[j].s ≠ 0 ∧ fitsAt ps (ch.take j) j ch[j] = true) ∧ ∀ j (h : j < ch.length) a, c j = some a → ch[j] = a := by
  intro k
  induction k with
  | zero => intro _; exact ⟨[], rfl, fun j h => by simp at h, fun j h => by simp at h⟩
  | succ k ih =>
    intro hk
    obtain ⟨ch, h1, h2, h3⟩ := ih (by omega)
    have hup := hu k (by omega)
    have key : ∃ y, y ∈ lsN ls k ∧ way ps ls k y.s ≠ 0 ∧ fitsAt ps ch k y = true ∧ ∀ a, c k = some a → y = a := by
      cases hc : c k with
      | some a =>
        obtain ⟨k1, k2, k3, k4⟩ := c4 k a hc
        refine ⟨a, k2, k3, ?_, fun b hb => by cases hb; rfl⟩
        unfold fitsAt
        by_cases h0 : upN ps k < 0
        · rw [if_pos h0]
        · rw [if_neg h0]
          obtain ⟨b, hb, hf⟩ := k4 (by omega)
          have hu3 : (upN ps k).toNat < ch.length := by omega
          rw [List.getElem?_eq_getElem hu3, h3 _ hu3 b hb]; exact hf
      | none =>
        have hk0 : 0 < k := by
          rcases Nat.eq_zero_or_pos k with h | h
          · subst h; exact absurd hc c3
          · exact h
        obtain ⟨u, hu2⟩ : ∃ u : Nat, upN ps k = u := ⟨(upN ps k).toNat, by have := hup.2.2.1 hk0; omega⟩
        have huk : u < ch.length := by omega
        have hw := (h2 u huk).2.1
        rw [way_eq _ _ _ _ (by omega)] at hw
        have hpos := prodL_of_pos _ (Nat.pos_of_ne_zero hw) (wayT ps ls u ch[u].s k) (List.mem_map.2 ⟨k, List.mem_range'_1.2 ⟨by omega, by omega⟩, rfl⟩)
        unfold wayT at hpos
        rw [if_pos hu2] at hpos
        obtain ⟨z, hz, hz0⟩ := sumL_pos.1 hpos
        obtain ⟨y, hy, rfl⟩ := List.mem_map.1 hz
        obtain ⟨hy1, hy2⟩ := List.mem_filter.1 hy
        refine ⟨y, hy1, by omega, ?_, fun a ha => by cases ha⟩
        unfold fitsAt
        rw [if_neg (by omega), hu2]
        simp only [Int.toNat_natCast]
        rw [List.getElem?_eq_getElem huk]; exact hy2
    obtain ⟨y, y1, y2, y3, y4⟩ := key
    refine ⟨ch ++ [y], by simp [h1], fun j hj => ?_, fun j hj a ha => ?_⟩
    · rw [List.length_append, List.length_singleton] at hj
      rcases Nat.lt_or_ge j ch.length with h5 | h5
      · rw [List.getElem_append_left h5, List.take_append_of_le_length (by omega)]; exact h2 j h5
      · obtain rfl : j = ch.length := by omega
        rw [List.take_left, List.getElem_append_right (by omega)]
        simp only [Nat.sub_self, List.getElem_singleton]
        rw [h1]; exact ⟨y1, y2, y3⟩
    · rw [List.length_append, List.length_singleton] at hj
      rcases Nat.lt_or_ge j ch.length with h5 | h5
      · rw [List.getElem_append_left h5]; exact h3 j h5 a ha
      · obtain rfl : j = ch.length := by omega
        rw [List.getElem_append_right (by omega)]
        simp only [Nat.sub_self, List.getElem_singleton]
        exact y4 a (by rw [← h1]; exact ha)
/-- What is told stands in a match. -/
theorem match_of (hu : UpOk ps) {i : Nat} (hi : i < ps.length) {x : Pl} (hx : x ∈ lsN ls i) (hux : usedB ps ls i x = true) : ∃ m, IsM ps ls m ∧ m[i]? = some x := by
  obtain ⟨c, c1, c2, c3, c4⟩ := chain hu i hi x hx hux
  obtain ⟨ch, h1, h2, h3⟩ := build hu c3 c4 ps.length (Nat.le_refl _)
  refine ⟨ch, ⟨h1, fun j hj => ⟨(h2 j hj).1, (h2 j hj).2.2⟩⟩, ?_⟩
  rw [List.getElem?_eq_getElem (by omega), h3 i (by omega) x c1]
end
/-- Lists cut down to what stands in a match. -/
def lessF (ps : Pt) (ls : List (List Pl)) : List (List Pl) := (List.range ps.length).map (usedL ps ls)
theorem lessF_get (ps : Pt) (ls : List (List Pl)) {i : Nat} (hi : i < ps.length) : lsN (lessF ps ls) i = usedL ps ls i := by
  rw [lsN_get (by simp [lessF]; exact hi)]; simp [lessF]
section
variable {ps : Pt} {ls : List (List Pl)}
theorem isM_less (hu : UpOk ps) (m : List Pl) : IsM ps (lessF ps ls) m ↔ IsM ps ls m := by
  constructor
  · rintro ⟨h1, h2⟩
    refine ⟨h1, fun i hi => ?_⟩
    obtain ⟨k1, k2⟩ := h2 i hi
    rw [lessF_get ps ls (by omega)] at k1
    exact ⟨(List.mem_filter.1 k1).1, k2⟩
  · intro h
    refine ⟨h.1, fun i hi => ⟨?_, (h.2 i hi).2⟩⟩
    rw [lessF_get ps ls (by have := h.1; omega)]
    exact List.mem_filter.2 ⟨(h.2 i hi).1, used_of hu h i hi⟩
theorem roots_eq (hu : UpOk ps) (h0 : 0 < ps.length) {ls ls' : List (List Pl)} (hn : ∀ i, (lsN ls i).Nodup) (hn' : ∀ i, (lsN ls' i).Nodup) (h : ∀ m, IsM ps ls m ↔ IsM ps ls' m) : rootsN ps ls = rootsN ps ls' := by
  rw [← allF_count hu ls h0, ← allF_count hu ls' h0]
  refine Nat.le_antisymm (nodup_sub (allF_nodup hn _ _).1 fun m hm => ?_) (nodup_sub (allF_nodup hn' _ _).1 fun m hm => ?_)
  · exact isM_iff.2 ((h m).1 (isM_iff.1 hm))
  · exact isM_iff.2 ((h m).2 (isM_iff.1 hm))
theorem roots_lt (hu : UpOk ps) (h0 : 0 < ps.length) {ls ls' : List (List Pl)} (hn' : ∀ i, (lsN ls' i).Nodup) (h : ∀ m, IsM ps ls' m → IsM ps ls m) {m : List Pl} (hm : IsM ps ls m) (hm' : ¬ IsM ps ls' m) : rootsN ps ls' < rootsN ps ls := by
  rw [← allF_count hu ls h0, ← allF_count hu ls' h0]
  have hnd : (m :: allF ps ls' ps.length []).Nodup := List.nodup_cons.2 ⟨fun hh => hm' (isM_iff.1 hh), (allF_nodup hn' _ _).1⟩
  have := nodup_sub (b := allF ps ls ps.length []) hnd fun x hx => by
    rcases List.mem_cons.1 hx with rfl | hx
    · exact isM_iff.2 hm
    · exact isM_iff.2 (h x (isM_iff.1 hx))
  rw [List.length_cons] at this
  omega
theorem vd_nodup (hv : Vd ls) (i : Nat) : (lsN ls i).Nodup := by
  rcases Nat.lt_or_ge i ls.length with h | h
  · rw [lsN_get h]
    exact (hv _ (List.getElem_mem h)).2.imp fun {a b} hab e => by subst e; omega
  · rw [lsN, List.getElem?_eq_none h]; exact .nil
theorem none_used (hu : UpOk ps) (h0 : 0 < ps.length) : (∀ i, i < ps.length → usedL ps ls i = []) ↔ rootsN ps ls = 0 := by
  rw [← allF_count hu ls h0]
  constructor
  · intro h
    refine List.length_eq_zero_iff.2 (List.eq_nil_iff_forall_not_mem.2 fun m hm => ?_)
    have hM := isM_iff.1 hm
    have h1 := used_of hu hM 0 (by rw [hM.1]; exact h0)
    have h2 : m[0]'(by rw [hM.1]; exact h0) ∈ usedL ps ls 0 := List.mem_filter.2 ⟨(hM.2 0 _).1, h1⟩
    rw [h 0 h0] at h2
    simp at h2
  · intro h i hi
    refine List.eq_nil_iff_forall_not_mem.2 fun x hx => ?_
    obtain ⟨hx1, hx2⟩ := List.mem_filter.1 hx
    obtain ⟨m, hm, -⟩ := match_of hu hi hx1 hx2
    have := isM_iff.2 hm
    rw [List.length_eq_zero_iff.1 h] at this
    simp at this
end
/-- Lists that are cut down can be, as well. -/
theorem listF_sub {l l' : List Pl} (h : l'.Sublist l) (hl : listF l = 0) : listF l' = 0 := by
  have h1 := listF_len hl
  have h2 := oneF_law _ _ (listF_one hl)
  have hlen := h.length_le
  unfold listF
  rw [if_neg (by omega)]
  have key : ∀ (m : List Pl) (q : Option Int), (∀ p ∈ m, canB p.s = true ∧ ∀ b, q = some b → b < p.s.b) → m.Pairwise (fun x y => x.s.b < y.s.b) → oneF q m = 0 := by
    intro m
    induction m with
    | nil => intro q _ _; cases q <;> rfl
    | cons p m ih =>
      intro q hq hp
      have hp2 := List.pairwise_cons.1 hp
      have hc := (hq p (by simp)).1
      have hle : leO q p.s.b = false := by
        cases q with
        | none => rfl
        | some b =>
          have := (hq p (by simp)).2 b rfl
          simp [leO]; omega
      rw [oneF, if_neg (by rw [hc]; decide), if_neg (by rw [hle]; decide)]
      exact ih _ (fun x hx => ⟨(hq x (by simp [hx])).1, fun b hb => by cases hb; exact hp2.1 x hx⟩) hp2.2
  exact key l' none (fun p hp => ⟨(h2.1 p (h.mem hp)).1, fun b hb => by cases hb⟩) (h2.2.sublist h)
theorem canF_sub {t : Tw} {ls ls' : List (List Pl)} (hl : ls'.length = ls.length) (hs : ∀ i, (lsN ls' i).Sublist (lsN ls i)) (h : canF t ls = 0) : canF t ls' = 0 := by
  unfold canF at h ⊢
  by_cases h1 : checkF t = 0
  · rw [if_pos h1] at h ⊢
    by_cases h2 : ls.length = t.sz
    · rw [if_pos h2] at h
      rw [if_pos (by omega)]
      by_cases h3 : listsF ls = 0
      · rw [if_pos h3] at h
        have h4 : crossF [] (mergeAll ls) = false := by
          cases hc : crossF [] (mergeAll ls) with
          | false => rfl
          | true => rw [hc] at h; cases h
        have hmem : ∀ l' ∈ ls', ∃ l ∈ ls, l'.Sublist l := fun l' hl' => by
          obtain ⟨i, hi, rfl⟩ := List.mem_iff_getElem.1 hl'
          have := hs i
          rw [lsN_get hi, lsN_get (by omega)] at this
          exact ⟨_, List.getElem_mem (by omega), this⟩
        have key : ∀ m : List (List Pl), (∀ l' ∈ m, listF l' = 0) → listsF m = 0 := by
          intro m
          induction m with
          | nil => intro _; rfl
          | cons l m ih =>
            intro hm
            rw [listsF, if_pos (hm l (by simp))]
            exact ih fun x hx => hm x (by simp [hx])
        have h5 : listsF ls' = 0 := key ls' fun l' hl' => by
          obtain ⟨l, hl, hsub⟩ := hmem l' hl'
          exact listF_sub hsub (listsF_all h3 l hl)
        rw [if_pos h5]
        have hsp : ∀ s, s ∈ mergeAll ls' → s ∈ mergeAll ls := fun s hs' => by
          rw [mergeAll_mem, spansAll_mem] at hs' ⊢
          obtain ⟨l', hl', p, hp, rfl⟩ := hs'
          obtain ⟨l, hl, hsub⟩ := hmem l' hl'
          exact ⟨l, hl, p, hsub.mem hp, rfl⟩
        have hn := (crossF_nest (mergeAll_sorted ls (listsF_sorted h3)) fun s h => canB_lt (listsF_can h3 s ((mergeAll_mem ls).1 h))).1 h4
        have hn' : Nest (mergeAll ls') := fun a ha b hb => hn a (hsp a ha) b (hsp b hb)
        rw [(crossF_nest (mergeAll_sorted ls' (listsF_sorted h5)) fun s h => canB_lt (listsF_can h5 s ((mergeAll_mem ls').1 h))).2 hn']
        rfl
      · rw [if_neg h3] at h; exact absurd h h3
    · rw [if_neg h2] at h; cases h
  · rw [if_neg h1] at h; exact absurd h h1
end Go.Proofs.Ytbocfedmdjkccaa
/- Twigs: Used of the program. -/
namespace Go.Proofs.Ytbocfedmdjkccaa
open Go.RowKit Go.Vc
set_option linter.unusedVariables false
set_option linter.unusedSimpArgs false
set_option maxRecDepth 100000
/-- Rows that are told. -/
def UsR (w : World) (ps : Pt) (ls : List (List Pl)) (q : Nat) (u v : Sv) : Prop := (u.2.1 = (lsN ls q).length ∧ Rd LBo w u.1 u.2.2 (usedR ps ls q)) ∧ (v.2.1 = (usedH ps ls q).length ∧ Rd LH w v.1 v.2.2 (usedH ps ls q))
theorem UsR.sub {w w1 : World} {ps : Pt} {ls : List (List Pl)} {q : Nat} {u v : Sv} (h : UsR w ps ls q u v) (hs : Sub w w1) : UsR w1 ps ls q u v := ⟨⟨h.1.1, hs.rd h.1.2⟩, h.2.1, hs.rd h.2.2⟩
theorem used_in {ps : Pt} (hu : UpOk ps) {ls : List (List Pl)} {p : Nat} (hpp : p < ps.length) (h16 : ps.length ≤ 16) (hv : Vd ls) (hll : ls.length = ps.length) {wF : World} {R : Ending → World → Prop} {f gb gh hi : Nat} {bvs hvs : List Sv} {w2 : World} {L7 : Int → World → Prop} {pv : Sv} (hF : Fd wF f ps ls 0) (hpv : RPs wF ps pv) (hpn : pv.2.1 = ps.length)
    (hU2 : Uk wF w2 gb gh hi ps.length bvs hvs)
    (hdone : ∀ (q : Nat) (h1 : q < bvs.length) (h2 : q < hvs.length), q < p → UsR (above hi w2) ps ls q bvs[q] hvs[q])
    (htodo : ∀ (q : Nat) (h2 : q < hvs.length), p ≤ q → hvs[q] = (none, 0, 0))
    (hL : ∀ bvs' hvs' w', Uk wF w' gb gh hi ps.length bvs' hvs' → (∀ (q : Nat) (h1 : q < bvs'.length) (h2 : q < hvs'.length), q < p + 1 → UsR (above hi w') ps ls q bvs'[q] hvs'[q]) → (∀ (q : Nat) (h2 : q < hvs'.length), p + 1 ≤ q → hvs'[q] = (none, 0, 0)) → InR .i64 ((p : Int) + 1) ∧ L7 ((p : Int) + 1) w') :
    F26_l7 (some ⟨f, 0, none⟩) ps.length ⟨gb, 0, none⟩ ps.length ⟨gh, 0, none⟩ pv.1 pv.2.1 L7 (p : Int) w2 R := by
  have hvp := hv _ (List.getElem_mem (by omega : p < ls.length))
  rw [← lsN_get (by omega)] at hvp
  obtain ⟨es, hen, her, hep⟩ := hpv
  have hel := hep.len
  have hlt2 := hU2.lt
  have hlb := hU2.lb
  have hlh := hU2.lh
  have hpb : p < bvs.length := by omega
  have hph : p < hvs.length := by omega
  have hupp := hu p hpp
  have hul := usedR_len (ps := ps) ls p
  unfold F26_l7
  rw [hpn]
  refine brd (fun hlt => ?_) (fun hge => by omega)
  refine (her.keep hU2.below).e4 (by omega) rfl (k := p) (by omega) fun b o c0 c1 c2 c3 => ?_
  have hupe : es[p].up = upN ps p := by rw [upN_get hpp]; exact (hep.get p hpp (by omega)).2
  simp only [Addr.add_mk, c0, c1, c2, c3, Addr.add_mk, List.getElem?_toArray, List.getElem?_cons_zero, List.getElem?_cons_succ, LdI_some, LdB_some, LdStr_some, LdP_some, LdSl_some, LdM_some, Nat.zero_add, Br_t, Br_f]
  refine al fun g11 w3 hb3 b3 hge3 => st_blk b3 (by simp) fun w4 b4 hf4 => ?_
  simp only [Addr.add_mk, Nat.zero_add]
  refine st_blk b4 (by simp) fun w5 b5 hf5 => st_blk b5 (by simp) fun w6 b6 hf6 => st_blk b6 (by simp) fun w7 b7 hf7 => ?_
  simp only [List.setIfInBounds_toArray, List.set_cons_zero, List.set_cons_succ] at b7
  rw [hupe] at b7
  have hs3 := hb3.size
  have hl3 := b3.lt
  have D7 : Below w2.heap.size w2 w7 := hb3.trans ((((hf4.trans hf5).trans hf6).trans hf7).toBelow hb3.size fun b hb hm => by omega)
  have hU7 := hU2.keep D7
  have hs7 := D7.size
  have hl7 := b7.lt
  simp only [NonNil_some, Addr.add_mk, Nat.zero_add]
  refine fd_list2 hF hU7.below hpp fun lv hlv => ?_
  obtain ⟨z0, z1, z2⟩ := id hlv
  rw [z1]
  refine ⟨by omega, by omega, by omega, ?_⟩
  rw [show (((lsN ls p).length : Nat) : Int).toNat = (lsN ls p).length by simp, show ((ps.length : Nat) : Int).toNat = ps.length by simp]
  refine al fun g58 w8 hb8 b8 hge8 => ?_
  have hU8 := hU7.keep hb8
  have hs8 := hb8.size
  have hl8 := b8.lt
  have hown8 : Own LBo w8 w2.heap.size 4 (.slice (some ⟨g58, 0, none⟩) (lsN ls p).length (lsN ls p).length) (List.replicate (lsN ls p).length false) := by
    have := Own.lit' (L := LBo) (xs := List.replicate (lsN ls p).length false) b8 (by omega : w2.heap.size ≤ g58) (zrow_bool _) (by simp [maxLen]; omega)
    simpa using this
  refine hU8.rb.st hlb.symm rfl hpb (some ⟨g58, 0, none⟩, (lsN ls p).length, (lsN ls p).length) rfl fun w9 r9 f9 => ?_
  have hU9 := hU8.setB f9 r9 (by simpa using hlb)
  have hs9 := f9.size
  have hg58 : ∀ b, rowOf (.slice (some ⟨g58, 0, none⟩) (lsN ls p).length (lsN ls p).length) = some b → b = g58 := fun b hb => by
    cases hn : (lsN ls p).length with
    | zero => rw [hn] at hb; cases hb
    | succ n => rw [hn] at hb; simpa [rowOf] using hb.symm
  have own9 := own_fm hown8 f9 fun b hb hb2 => by have := hg58 b hb; omega
  have b79 := f9.blk (b7.keep hb8) (by omega)
  have F9 : Fm (fun c => c = gb ∨ c = gh) w2 w9 := (Fm.below D7).trans ((Fm.below hb8 |>.trans f9).mono fun c _ hc => .inl hc) |>.trans (Fm.refl _ _)
  refine fd_list2 hF hU9.below hpp fun lv' hlv' => ?_
  obtain ⟨y0, y1, y2⟩ := id hlv'
  let hs : Nat → List Int := fun k => (((lsN ls p).take k).filter (usedB ps ls p)).map (·.node)
  have hss : ∀ k (hk : k < (lsN ls p).length), hs (k + 1) = hs k ++ if usedB ps ls p (lsN ls p)[k] then [(lsN ls p)[k].node] else [] := fun k hk => by
    show List.map _ (List.filter _ ((lsN ls p).take (k + 1))) = _
    rw [List.take_succ_eq_append_getElem hk, List.filter_append, List.map_append, List.filter_cons]
    congr 1
    split <;> simp
  have hs0 : hs 0 = [] := rfl
  have hsE : hs (lsN ls p).length = usedH ps ls p := by show List.map _ (List.filter _ ((lsN ls p).take _)) = _; rw [List.take_length]; rfl
  have hsl : ∀ k, (hs k).length ≤ (lsN ls p).length := fun k => by
    show (List.map _ (List.filter _ ((lsN ls p).take k))).length ≤ _
    rw [List.length_map]
    exact Nat.le_trans (List.length_filter_le _ _) (by rw [List.length_take]; omega)
  clear_value hs
  refine ⟨fun i w' => ∃ (k : Nat) (v : Sv), i = k ∧ k ≤ (lsN ls p).length ∧ Uk wF w' gb gh hi ps.length (bvs.set p (some ⟨g58, 0, none⟩, (lsN ls p).length, (lsN ls p).length)) (hvs.set p v) ∧ (Fm (fun c => c = gb ∨ c = gh) w2 w' ∧ w9.heap.size ≤ w'.heap.size) ∧
      Blk w' g11 #[.string es[p].e.nm, .bool es[p].e.d, .slice es[p].e.sl.1 es[p].e.sl.2.1 es[p].e.sl.2.2, .int .i64 (upN ps p)] 73 ∧
      Own LBo w' w2.heap.size 4 (.slice (some ⟨g58, 0, none⟩) (lsN ls p).length (lsN ls p).length) ((usedR ps ls p).take k ++ List.replicate ((lsN ls p).length - k) false) ∧ Own LH w' w9.heap.size 75 (slv v) (hs k), fun i _ => (lsN ls p).length - i.toNat,
    ⟨0, (none, 0, 0), rfl, by omega, ?_, ⟨F9, Nat.le_refl _⟩, b79, by simpa using own9, by rw [hs0]; exact Own.nil _ _ _ _⟩, ?_⟩
  · have e1 : hvs.set p (none, 0, 0) = hvs := by rw [← htodo p hph (Nat.le_refl _), List.set_getElem_self]
    rw [e1]; exact hU9
  rintro i w10 ⟨k, v, rfl, hk, hU10, ⟨F10, h910⟩, b10, own10, oh10⟩
  unfold F26_l11
  have hs10 := F10.size
  have hlt10 := hU10.lt
  rw [y1]
  refine brd (fun hlt => ?_) (fun hge => ?_)
  · have hk2 : k < (lsN ls p).length := by omega
    have hkr : k < (usedR ps ls p).length := by omega
    have hrk : (usedR ps ls p)[k] = usedB ps ls p (lsN ls p)[k] := by simp only [usedR_eq hu ls hpp, List.getElem_map]
    refine ⟨fun w' => ∃ (v : Sv), Uk wF w' gb gh hi ps.length (bvs.set p (some ⟨g58, 0, none⟩, (lsN ls p).length, (lsN ls p).length)) (hvs.set p v) ∧ (Fm (fun c => c = gb ∨ c = gh) w2 w' ∧ w9.heap.size ≤ w'.heap.size) ∧
      Blk w' g11 #[.string es[p].e.nm, .bool es[p].e.d, .slice es[p].e.sl.1 es[p].e.sl.2.1 es[p].e.sl.2.2, .int .i64 (upN ps p)] 73 ∧
      Own LBo w' w2.heap.size 4 (.slice (some ⟨g58, 0, none⟩) (lsN ls p).length (lsN ls p).length) ((usedR ps ls p).take (k + 1) ++ List.replicate ((lsN ls p).length - (k + 1)) false) ∧ Own LH w' w9.heap.size 75 (slv v) (hs (k + 1)), ?_, ?_⟩
    · rintro w' ⟨v, q1, q2, q3, q4, q5⟩
      unfold F26_j24
      exact ⟨inR_i64 (by omega) (by omega), ⟨k + 1, v, by simp, by omega, q1, q2, q3, q4, q5⟩, by dsimp only; omega⟩
    refine (y2.keep hU10.below).pl (n := (lsN ls p).length) rfl rfl (k := k) hk2 fun b o c0 c1 c2 c3 => ?_
    have hx := canB_l (hvp.1 _ (List.getElem_mem hk2))
    simp only [Addr.add_mk, c0, c1, c2, c3, Addr.add_mk, List.getElem?_toArray, List.getElem?_cons_zero, List.getElem?_cons_succ, LdI_some, LdB_some, LdStr_some, LdP_some, LdSl_some, LdM_some, Nat.zero_add, Br_t, Br_f]
    refine al4 fun gn w11 hb11 b11 hge11 => ?_
    have hU11 := hU10.keep hb11
    have hs11 := hb11.size
    have hl11 := b11.lt
    refine some_calls (Nat.zero_le _) hpp hk2 (hF.keep hU11.below) ⟨_, rfl, ?_⟩
    -- what is told
    have tail : ∀ w12, Below w11.heap.size w11 w12 → F26_j21 ps.length ⟨gb, 0, none⟩ ps.length ⟨gh, 0, none⟩ (p : Int) (k : Int) (fun w' => ∃ (v : Sv), Uk wF w' gb gh hi ps.length (bvs.set p (some ⟨g58, 0, none⟩, (lsN ls p).length, (lsN ls p).length)) (hvs.set p v) ∧ (Fm (fun c => c = gb ∨ c = gh) w2 w' ∧ w9.heap.size ≤ w'.heap.size) ∧
      Blk w' g11 #[.string es[p].e.nm, .bool es[p].e.d, .slice es[p].e.sl.1 es[p].e.sl.2.1 es[p].e.sl.2.2, .int .i64 (upN ps p)] 73 ∧
      Own LBo w' w2.heap.size 4 (.slice (some ⟨g58, 0, none⟩) (lsN ls p).length (lsN ls p).length) ((usedR ps ls p).take (k + 1) ++ List.replicate ((lsN ls p).length - (k + 1)) false) ∧ Own LH w' w9.heap.size 75 (slv v) (hs (k + 1))) ⟨gn, 0, none⟩ (usedB ps ls p (lsN ls p)[k]) w12 R := by
      intro w12 hb12
      unfold F26_j21
      have D12 := btr hb11 hb11.size hb12
      have hU12 := hU10.keep D12
      have hs12 := D12.size
      rw [show ((ps.length : Nat) : Int).toNat = ps.length by simp]
      refine hU12.rb.idx (by rw [List.length_set]; omega) rfl (k := p) (by rw [List.length_set]; omega) fun c0 => ?_
      rw [List.getElem_set_self] at c0
      simp only [c0, Addr.add_mk, List.getElem?_toArray, List.getElem?_cons_zero, List.getElem?_cons_succ, LdI_some, LdB_some, LdStr_some, LdP_some, LdSl_some, LdM_some, Nat.zero_add, Br_t, Br_f]
      refine (own10.keep D12).stE rfl rfl (k := k) (by rw [List.length_append, List.length_take, List.length_replicate]; omega) (usedB ps ls p (lsN ls p)[k]) rfl fun w13 o13 f13 => ?_
      have hm13 : ∀ b, rowOf (.slice (some ⟨g58, 0, none⟩) (lsN ls p).length (lsN ls p).length) = some b → w2.heap.size ≤ b ∧ b = g58 := fun b hb => ⟨(own10.lt b hb).1, hg58 b hb⟩
      have e1 : ((usedR ps ls p).take k ++ List.replicate ((lsN ls p).length - k) false).set k (usedB ps ls p (lsN ls p)[k]) = (usedR ps ls p).take (k + 1) ++ List.replicate ((lsN ls p).length - (k + 1)) false := by
        have hlj : ((usedR ps ls p).take k).length = k := by rw [List.length_take]; omega
        rw [List.set_append_right _ _ (by omega), hlj, Nat.sub_self, List.take_succ_eq_append_getElem hkr, List.append_assoc, hrk]
        congr 1
        rw [show (lsN ls p).length - k = ((lsN ls p).length - (k + 1)) + 1 by omega, List.replicate_succ, List.set_cons_zero]; rfl
      rw [e1] at o13
      have hU13 := hU12.fm f13 fun b hb hm => by have := hm13 b hm; omega
      have F13 := (F10.tr D12).trans2 f13 fun b hb hm => by have := hm13 b hm; omega
      have hs13 := f13.size
      have b13 := f13.blk (b10.keep D12) fun hm => by have := hm13 _ hm; omega
      have bn13 := f13.blk (b11.keep hb12) fun hm => by have := hm13 _ hm; omega
      have oh13 := own_fm (oh10.keep D12) f13 fun b hb hb2 => by have := (oh10.lt b hb).1; have := hm13 b hb2; omega
      have hnext := hss k hk2
      refine br (fun hok => ?_) (fun hok => ?_)
      · rw [hok, if_pos rfl] at hnext
        rw [hnext]
        have hd : Below w13.heap.size w13 w13.drew := (Below.refl _ _).drew
        refine ⟨fun w' => Below w13.heap.size w13 w', hd, ?_⟩
        have hrowH : Held (fun w' => Below w13.heap.size w13 w') ⟨gh, p, none⟩ (slv v) := blk_held hU13.rh (fun _ h => h) (by simp [hph])
        refine row_at hpp ⟨_, _, _, hrowH, _, blk_held bn13 (fun _ h => h) rfl, ?_⟩
        have hsk := hsl k
        refine ap1S (L := LH) (x := (lsN ls p)[k].node) (.int .u64 0) 8 rfl rfl rfl rfl (oh13.keep hd) (by have := hd.size; omega) (by omega) (by simp [maxLen]; omega) (fun w' hb' => hd.trans (hb'.mono hd.size)) fun A' c' w14 o14 g14 => ⟨_, _, _, rfl, ?_⟩
        have B14 : Below w9.heap.size w13 w14 := (hd.mono (by omega)).trans g14.below
        have hs14 := g14.lt
        have hhi9 : hi ≤ w9.heap.size := hU9.lt.2.2.2
        have hU14 := hU13.fm (M := fun b => w9.heap.size ≤ b) ⟨B14.os, B14.tape, B14.output, by have := hd.size; omega, fun b _ hm => B14.block b (by omega)⟩ fun b hb hm => by omega
        refine hU14.rh.st (by rw [List.length_set]; omega) rfl (k := p) (by rw [List.length_set]; omega) (A', _, c') rfl fun w15 r15 f15 => ?_
        rw [List.set_set] at r15
        have hU15 := hU14.setH f15 r15 (by simpa using hlh)
        have hrow8 : ∀ b, rowOf (.slice (some ⟨g58, 0, none⟩) (lsN ls p).length (lsN ls p).length) = some b → b < w9.heap.size ∧ w2.heap.size ≤ b := fun b hb => by have := hg58 b hb; omega
        have G14 : Fm (fun b => w9.heap.size ≤ b) w13 w14 := ⟨B14.os, B14.tape, B14.output, by have := hd.size; omega, fun b _ hm => B14.block b (by omega)⟩
        refine ⟨(A', _, c'), hU15, ?_, f15.blk (G14.blk b13 (by omega)) (by omega), own_fm (own_fm o13 G14 fun b hb hm => by have := hrow8 b hb; omega) f15 fun b hb hm => by have := hrow8 b hb; omega, own_fm o14 f15 fun b hb hm => by have := (o14.lt b hb).1; omega⟩
        exact ⟨(F13.trans2 G14 fun b hb hm => by omega).trans (f15.mono fun b _ hb => .inr hb), by have := f15.size; have := hd.size; omega⟩
      · rw [hok] at hnext
        simp only [Bool.false_eq_true, if_false, List.append_nil] at hnext
        rw [hnext]
        exact ⟨v, hU13, ⟨F13, by omega⟩, b13, o13, oh13⟩
    have b11' := b10.keep hb11
    refine ⟨fun ok w' => ok = usedB ps ls p (lsN ls p)[k] ∧ Below w11.heap.size w11 w', fun ok w' hh => by rw [hh.1]; exact tail w' hh.2, ?_⟩
    refine br (fun hw => ?_) (fun hw => ⟨by unfold usedB; rw [hw, Bool.false_and], Below.refl _ _⟩)
    simp only [b11'.cell, List.getElem?_toArray, List.getElem?_cons_zero, List.getElem?_cons_succ, Addr.add_mk, List.getElem?_toArray, List.getElem?_cons_zero, List.getElem?_cons_succ, LdI_some, LdB_some, LdStr_some, LdP_some, LdSl_some, LdM_some, Nat.zero_add, Br_t, Br_f]
    refine brd (fun hge0 => ?_) (fun hneg => ⟨by unfold usedB; rw [hw, decide_eq_true (by omega)]; rfl, Below.refl _ _⟩)
    obtain ⟨u, hu2⟩ : ∃ u : Nat, upN ps p = u := ⟨(upN ps p).toNat, by omega⟩
    have hup2 : u < p := by omega
    have hup3 : u < ps.length := by omega
    refine dr fun w12 hb12 _ => ?_
    have b12' := b11'.keep hb12
    have hU12 := hU11.keep hb12
    simp only [b12'.cell, List.getElem?_toArray, List.getElem?_cons_zero, List.getElem?_cons_succ, Addr.add_mk, List.getElem?_toArray, List.getElem?_cons_zero, List.getElem?_cons_succ, LdI_some, LdB_some, LdStr_some, LdP_some, LdSl_some, LdM_some, Nat.zero_add, Br_t, Br_f]
    rw [hu2]
    refine fd_list2 hF hU12.below hup3 fun xv ⟨x0, x1, x2⟩ => ?_
    have hdu := (hdone u (by omega) (by omega) hup2).1
    have hulu := usedR_len (ps := ps) ls u
    have hval : usedB ps ls p (lsN ls p)[k] = anyUp (dN ps p) (lsN ls u) (usedR ps ls u) (lsN ls p)[k].s := by
      unfold usedB
      rw [hw, hu2, decide_eq_false (by omega)]; simp
    have hzl : ((lsN ls u).zip (usedR ps ls u)).length = (lsN ls u).length := by rw [List.length_zip]; omega
    unfold anyUp at hval
    have hvu := hv _ (List.getElem_mem (by omega : u < ls.length))
    rw [← lsN_get (by omega)] at hvu
    refine ⟨fun ok i w' => ∃ m : Nat, i = m ∧ m ≤ (lsN ls u).length ∧ Below w11.heap.size w11 w' ∧ ok = (((lsN ls u).zip (usedR ps ls u)).take m).any (fun a => a.2 && fitB (dN ps p) a.1.s (lsN ls p)[k].s), fun _ i _ => (lsN ls u).length - i.toNat,
      ⟨0, rfl, by omega, hb12, by simp⟩, ?_⟩
    rintro ok i w13 ⟨m, rfl, hm, hb13, hok⟩
    unfold F26_l17
    rw [x1]
    have hU13 := hU11.keep hb13
    refine brd (fun hlt3 => ?_) (fun hge3 => ?_)
    · have hm2 : m < (lsN ls u).length := by omega
      have hmz : m < ((lsN ls u).zip (usedR ps ls u)).length := by omega
      have hmr : m < (usedR ps ls u).length := by omega
      have hnx := any_take_succ ((lsN ls u).zip (usedR ps ls u)) (fun a => a.2 && fitB (dN ps p) a.1.s (lsN ls p)[k].s) hmz
      rw [← hok, List.getElem_zip] at hnx
      refine ⟨fun ok' w' => Below w11.heap.size w11 w' ∧ ok' = (((lsN ls u).zip (usedR ps ls u)).take (m + 1)).any (fun a => a.2 && fitB (dN ps p) a.1.s (lsN ls p)[k].s), ?_, ?_⟩
      · rintro ok' w' ⟨q1, q2⟩
        unfold F26_j20
        exact ⟨inR_i64 (by omega) (by omega), ⟨m + 1, by simp, by omega, q1, q2⟩, by dsimp only; omega⟩
      refine (x2.keep hU13.below).pl (n := (lsN ls u).length) rfl rfl (k := m) hm2 fun b o c0 c1 c2 c3 => ?_
      have ha := canB_l (hvu.1 _ (List.getElem_mem hm2))
      simp only [Addr.add_mk, c0, c1, c2, c3, Addr.add_mk, List.getElem?_toArray, List.getElem?_cons_zero, List.getElem?_cons_succ, LdI_some, LdB_some, LdStr_some, LdP_some, LdSl_some, LdM_some, Nat.zero_add, Br_t, Br_f]
      refine al4 fun ga w14 hb14 b14 hge14 => ?_
      have D14 := btr hb13 hb13.size hb14
      have hU14 := hU11.keep D14
      simp only [Addr.add_mk, Nat.zero_add, Nat.reduceAdd]
      refine br (fun hok1 => ⟨D14, by rw [hnx, hok1]; rfl⟩) (fun hok0 => ?_)
      rw [hok0, Bool.false_or] at hnx
      have b14' := (b11'.keep hb13).keep hb14
      simp only [b14'.cell, List.getElem?_toArray, List.getElem?_cons_zero, List.getElem?_cons_succ, Addr.add_mk, List.getElem?_toArray, List.getElem?_cons_zero, List.getElem?_cons_succ, LdI_some, LdB_some, LdStr_some, LdP_some, LdSl_some, LdM_some, Nat.zero_add, Br_t, Br_f]
      rw [hu2, show ((ps.length : Nat) : Int).toNat = ps.length by simp]
      refine hU14.rb.idx (by rw [List.length_set]; omega) rfl (k := u) (by rw [List.length_set]; omega) fun c0 => ?_
      rw [List.getElem_set_ne (by omega)] at c0
      simp only [c0, Addr.add_mk, List.getElem?_toArray, List.getElem?_cons_zero, List.getElem?_cons_succ, LdI_some, LdB_some, LdStr_some, LdP_some, LdSl_some, LdM_some, Nat.zero_add, Br_t, Br_f]
      have hdu14 := ((above_fm F10 (Nat.le_refl _) fun b hb hm => by omega).trans (sub_of_only.trans ((sub_below hb11).trans (sub_below D14)))).rd hdu.2
      refine hdu14.boo (by rw [hdu.1, hulu]) rfl (k := m) hmr fun b o c0 => ?_
      simp only [c0, Addr.add_mk, List.getElem?_toArray, List.getElem?_cons_zero, List.getElem?_cons_succ, LdI_some, LdB_some, LdStr_some, LdP_some, LdSl_some, LdM_some, Nat.zero_add, Br_t, Br_f]
      refine br (fun hum => ?_) (fun hum => ⟨D14, by rw [hnx, hum, Bool.false_and]⟩)
      rw [hum, Bool.true_and] at hnx
      have bn14 := (b11.keep hb13).keep hb14
      simp only [b14.cell, bn14.cell, List.getElem?_toArray, List.getElem?_cons_zero, List.getElem?_cons_succ, Addr.add_mk, List.getElem?_toArray, List.getElem?_cons_zero, List.getElem?_cons_succ, LdI_some, LdB_some, LdStr_some, LdP_some, LdSl_some, LdM_some, Nat.zero_add, Br_t, Br_f]
      refine fd_under (hF.keep hU14.below) hpp (lsN ls u)[m].s (lsN ls p)[k].s ha.1 (by omega) fun w15 hb15 => ⟨_, rfl, btr D14 D14.size hb15, by rw [hnx]⟩
    · have hm2 : m = (lsN ls u).length := by omega
      subst hm2
      rw [List.take_of_length_le (by omega)] at hok
      exact ⟨by rw [hok, hval], hb13⟩
  · have hk2 : k = (lsN ls p).length := by omega
    subst hk2
    rw [hsE] at oh10
    rw [Nat.sub_self, List.replicate_zero, List.append_nil, List.take_of_length_le (by omega)] at own10
    refine hL _ _ w10 hU10 (fun q h1 h2 hq => ?_) (fun q h2 hq => ?_)
    · rcases Nat.lt_or_eq_of_le (Nat.le_of_lt_succ hq) with h3 | h3
      · rw [List.getElem_set_ne (by omega), List.getElem_set_ne (by omega)]
        exact (hdone q (by simpa using h1) (by simpa using h2) h3).sub (above_fm F10 (Nat.le_refl _) fun b hb hm => by omega)
      · subst h3
        rw [List.getElem_set_self, List.getElem_set_self]
        obtain ⟨e1, e2⟩ := (own_above own10 (by omega : hi ≤ w2.heap.size)).rd
        obtain ⟨e3, e4⟩ := (own_above oh10 (hU9.lt.2.2.2)).rd
        exact ⟨⟨rfl, e2⟩, e3, e4⟩
    · rw [List.getElem_set_ne (by omega)]
      exact htodo q (by simpa using h2) (by omega)
end Go.Proofs.Ytbocfedmdjkccaa
/- Twigs: the law TwigFinds. -/
namespace Go.Proofs.Ytbocfedmdjkccaa
open Go.RowKit Go.Vc
set_option linter.unusedVariables false
set_option linter.unusedSimpArgs false
set_option maxRecDepth 100000
theorem rml_of {w : World} : ∀ {ls : List (List Int)} {vs : List Sv}, vs.length = ls.length → (∀ (i : Nat) (h : i < ls.length) (h' : i < vs.length), RMv w ls[i] vs[i]) → RMl w ls vs
  | [], vs, hl, _ => by simp only [RMl]; exact List.eq_nil_of_length_eq_zero hl
  | l :: ls, v :: vs, hl, h => by
    simp only [RMl]
    exact ⟨v, vs, rfl, h 0 (by simp) (by simp), rml_of (by simpa using hl) fun i h1 h2 => h (i + 1) (by simpa using h1) (by simpa using h2)⟩
  | _ :: _, [], hl, _ => by simp at hl
theorem OMs.read {w : World} {lo hi : Nat} {ls : List (List Int)} {v : Sv} {vs : List Sv} (h : OMs w lo hi ls v vs) : RMs (above lo w) ls v := by
  obtain ⟨h1, h2⟩ := (own_above h.own (Nat.le_refl _)).rd
  refine ⟨vs, h1, h2, rml_of h.len fun i a b => ?_⟩
  obtain ⟨k1, k2⟩ := (own_above (h.each i a b) (Nat.le_refl _)).rd
  exact ⟨h.small _ (List.getElem_mem _), k1, k2⟩
theorem RMs.up {w : World} {k k' : Nat} {ls : List (List Int)} {v : Sv} (h : RMs (above k w) ls v) {w1 : World} (hs : Sub (above k w) (above k' w1)) : RMs (above k' w1) ls v := h.sub hs
theorem finds_calls (t : Tw) (e : E3) (ls : List (List Pl)) (v : Sv) (most : Int) {w : World} {R : Ending → World → Prop} (hmost : most ≤ 9223372036854775807) (ht : RTw w t e) (hl : RLs w ls v)
    (h : ∀ w', Below w.heap.size w w' → R (.returned (.bool true)) w') :
    Calls Try.prog 3 #[.agg #[.string e.nm, .bool e.d, .slice e.sl.1 e.sl.2.1 e.sl.2.2], slv v, .int .i64 most] w R := by
  refine ok3 e.nm e.d e.sl.1 e.sl.2.1 e.sl.2.2 v.1 v.2.1 v.2.2 most ?_
  unfold F3
  refine al fun gt w1 hb1 bt hge1 => ?_
  simp only [Addr.add_mk, Nat.zero_add, bt.cell, List.getElem?_toArray, List.getElem?_cons_zero, List.getElem?_cons_succ, Addr.add_mk, List.getElem?_toArray, List.getElem?_cons_zero, List.getElem?_cons_succ, LdI_some, LdB_some, LdStr_some, LdP_some, LdSl_some, LdM_some, Nat.zero_add, Br_t, Br_f]
  refine copied_calls t e (ht.keep hb1) fun e' w2 hb2 he' => ⟨_, _, _, _, _, rfl, ?_⟩
  have he2 : RTw w2 t e' := RTw.sub sub_of_only _ _ he'
  have B2 := btr hb1 hb1.size hb2
  refine own_calls ls v (hl.keep B2) fun v' w3 hb3 hv' => ⟨_, _, _, rfl, ?_⟩
  have hl3 : RLs w3 ls v' := hv'.sub sub_of_only
  have B3 := btr B2 B2.size hb3
  refine al3 fun gp w4 hb4 bp hge4 => ?_
  have B4 := btr B3 B3.size hb4
  have bt4 := ((bt.keep hb2).keep hb3).keep hb4
  have he4 := (he2.keep hb3).keep hb4
  have hl4 := hl3.keep hb4
  have ht4 := ht.keep B4
  have hd : Below w4.heap.size w4 w4.drew := (Below.refl _ _).drew
  simp only [Addr.add_mk, Nat.zero_add]
  refine ⟨fun w' => Below w4.heap.size w4 w', ?_, ?_⟩
  · intro w5 hb5
    unfold F3_j4
    have cell : ∀ {w'}, Below w4.heap.size w4 w' → Blk w' gp #[.string e'.nm, .bool e'.d, .slice e'.sl.1 e'.sl.2.1 e'.sl.2.2] 24 ∧ Blk w' gt #[.string e.nm, .bool e.d, .slice e.sl.1 e.sl.2.1 e.sl.2.2] 24 := fun hb => ⟨bp.keep hb, bt4.keep hb⟩
    have B5 := btr B4 B4.size hb5
    simp only [Addr.add_mk, Nat.zero_add, (cell hb5).1.cell, List.getElem?_toArray, List.getElem?_cons_zero, List.getElem?_cons_succ, Addr.add_mk, List.getElem?_toArray, List.getElem?_cons_zero, List.getElem?_cons_succ, LdI_some, LdB_some, LdStr_some, LdP_some, LdSl_some, LdM_some, Nat.zero_add, Br_t, Br_f]
    refine FindP_calls t e' ls v' most (he4.keep hb5) (hl4.keep hb5) fun a aus w6 hb6 oa => ⟨_, _, _, _, rfl, ?_⟩
    have D6 := btr hb5 hb5.size hb6
    simp only [Addr.add_mk, Nat.zero_add, (cell D6).2.cell, List.getElem?_toArray, List.getElem?_cons_zero, List.getElem?_cons_succ, Addr.add_mk, List.getElem?_toArray, List.getElem?_cons_zero, List.getElem?_cons_succ, LdI_some, LdB_some, LdStr_some, LdP_some, LdSl_some, LdM_some, Nat.zero_add, Br_t, Br_f]
    refine FindR_calls t e ls v most hmost (ht4.keep D6) (hl.keep (btr B4 B4.size D6)) fun b bs w7 hb7 ob => ⟨_, _, _, _, rfl, ?_⟩
    have D7 := btr D6 D6.size hb7
    simp only [Addr.add_mk, Nat.zero_add, (cell D7).1.cell, List.getElem?_toArray, List.getElem?_cons_zero, List.getElem?_cons_succ, Addr.add_mk, List.getElem?_toArray, List.getElem?_cons_zero, List.getElem?_cons_succ, LdI_some, LdB_some, LdStr_some, LdP_some, LdSl_some, LdM_some, Nat.zero_add, Br_t, Br_f]
    refine PathsP_calls t e' ls v' most (he4.keep D7) (hl4.keep D7) fun c cs w8 hb8 oc => ⟨_, _, _, _, rfl, ?_⟩
    have D8 := btr D7 D7.size hb8
    simp only [Addr.add_mk, Nat.zero_add, (cell D8).2.cell, List.getElem?_toArray, List.getElem?_cons_zero, List.getElem?_cons_succ, Addr.add_mk, List.getElem?_toArray, List.getElem?_cons_zero, List.getElem?_cons_succ, LdI_some, LdB_some, LdStr_some, LdP_some, LdSl_some, LdM_some, Nat.zero_add, Br_t, Br_f]
    refine PathsR_calls t e ls v most hmost (ht4.keep D8) (hl.keep (btr B4 B4.size D8)) fun d ds w9 hb9 od => ⟨_, _, _, _, rfl, ?_⟩
    have D9 := btr D8 D8.size hb9
    rw [beq_self_eq_true, beq_self_eq_true, Br_t, Br_t]
    have hlen1 : (findL t ls most).length ≤ 1048576 := by
      unfold findL
      split
      · rename_i h0
        unfold findE at h0
        split at h0
        · split at h0
          · cases h0
          · split at h0
            · cases h0
            · have hlim : limN most ≤ 16384 := by unfold limN; split <;> omega
              rw [List.length_map]; omega
        · rename_i h1; exact absurd h0 h1
      · simp
    have hlen2 : (pathsL t ls most).length ≤ 1048576 := by
      unfold pathsL
      split
      · split
        · exact hlen1
        · simp
      · simp
    have hs6 := hb6.size
    have hs7 := hb7.size
    have hs8 := hb8.size
    have hs9 := hb9.size
    have hs5 := hb5.size
    have oa9 := oa.keep (btr hb7 hs7 (btr hb8 hs8 hb9)) (Nat.le_refl _)
    have ob9 : RMs (above w6.heap.size w9) (findL t ls most) b := ob.read.up (above_fm (M := fun _ => False) (.below (btr hb8 hs8 hb9)) (Nat.le_refl _) fun _ _ h => h)
    refine matches_calls (findL t ls most) a b hlen1 (by omega) oa9 ob9 fun w10 hf10 => ⟨_, rfl, ?_⟩
    rw [Br_t]
    have hs10 := hf10.size
    have oc10 := (oc.keep hb9 (Nat.le_refl _)).fm hf10 (fun b hb hm => by omega) (Nat.le_refl _)
    have od10 : RMs (above w8.heap.size w10) (pathsL t ls most) d := od.read.up (above_fm hf10 (Nat.le_refl _) fun b hb hm => by omega)
    refine matches_calls (pathsL t ls most) c d hlen2 (by omega) oc10 od10 fun w11 hf11 => ⟨_, rfl, ?_⟩
    rw [Br_t]
    have D11 : Below w4.heap.size w4 w11 := (D9.trans (hf10.toBelow D9.size fun b hb hm => by omega)).trans (hf11.toBelow (by have := D9.size; omega) fun b hb hm => by omega)
    simp only [Addr.add_mk, Nat.zero_add, (cell D11).1.cell, (cell D11).2.cell, List.getElem?_toArray, List.getElem?_cons_zero, List.getElem?_cons_succ, Addr.add_mk, List.getElem?_toArray, List.getElem?_cons_zero, List.getElem?_cons_succ, LdI_some, LdB_some, LdStr_some, LdP_some, LdSl_some, LdM_some, Nat.zero_add, Br_t, Br_f]
    refine equal_calls t e' e (he4.keep D11) (ht4.keep D11) fun w12 hb12 => ⟨_, rfl, ?_⟩
    rw [Br_t]
    have D12 := btr D11 D11.size hb12
    refine kept_calls ls v' v (hl4.keep D12) (hl.keep (btr B4 B4.size D12)) fun w13 hb13 => ⟨_, rfl, h w13 (btr B4 B4.size (btr D12 D12.size hb13))⟩
  · refine ⟨fun w' => Below w4.heap.size w4 w', hd, _, blk_held bp (fun _ h => h) rfl, _, blk_held bp (fun _ h => h) rfl, _, _, _, blk_held bp (fun _ h => h) rfl, _, blk_held bt4 (fun _ h => h) rfl, _, blk_held bt4 (fun _ h => h) rfl, _, _, _, blk_held bt4 (fun _ h => h) rfl, ?_⟩
    refine checkP_calls t e' (he4.keep hd) fun w5 hb5 => ⟨_, rfl, hd.trans hb5, ?_⟩
    have D5 := hd.trans hb5
    refine checkR_calls t e (ht4.keep D5) fun w6 hb6 => ⟨_, rfl, btr D5 D5.size hb6, ?_⟩
    have D6 := btr D5 D5.size hb6
    refine brn (fun hne => absurd rfl hne) (fun _ => ?_)
    refine ⟨_, blk_held bp (fun _ h => h) rfl, _, blk_held bp (fun _ h => h) rfl, _, _, _, blk_held bp (fun _ h => h) rfl, _, blk_held bt4 (fun _ h => h) rfl, _, blk_held bt4 (fun _ h => h) rfl, _, _, _, blk_held bt4 (fun _ h => h) rfl, ?_⟩
    refine sizeP_calls t e' (he4.keep D6) fun w7 hb7 => ⟨_, rfl, btr D6 D6.size hb7, ?_⟩
    have D7 := btr D6 D6.size hb7
    refine size_calls t e (ht4.keep D7) fun w8 hb8 => ⟨_, rfl, ?_⟩
    refine brn (fun hne => absurd rfl hne) (fun _ => btr D7 D7.size hb8)
end Go.Proofs.Ytbocfedmdjkccaa
/- Twigs: Used and Tops of the program. -/
namespace Go.Proofs.Ytbocfedmdjkccaa
open Go.RowKit Go.Vc
set_option linter.unusedVariables false
set_option linter.unusedSimpArgs false
set_option maxRecDepth 100000
def usedHs (t : Tw) (ls : List (List Pl)) : List (List Int) := if canF t ls = 0 then (List.range t.sz).map (usedH (ptOf t) ls) else []
theorem usedH_len (ps : Pt) (ls : List (List Pl)) (q : Nat) : (usedH ps ls q).length ≤ (lsN ls q).length := by
  rw [usedH, List.length_map, usedL]; exact List.length_filter_le _ _
theorem lsN_small {w : World} {ls : List (List Pl)} {v : Sv} (hl : RLs w ls v) (q : Nat) : (lsN ls q).length ≤ 1048576 := by
  obtain ⟨_, vs, _, _, hks⟩ := hl
  rcases Nat.lt_or_ge q ls.length with h | h
  · obtain ⟨z0, -, -⟩ := hks.get q h (by rw [hks.len]; exact h)
    rw [lsN_get h]; exact z0
  · rw [lsN, List.getElem?_eq_none h]; simp
theorem UsedP_calls (t : Tw) (e : E3) (ls : List (List Pl)) (v : Sv) {w : World} {R : Ending → World → Prop} (ht : RTw w t e) (hl : RLs w ls v)
    (h : ∀ u w', Below w.heap.size w w' → RMs w' (usedHs t ls) u → R (.returned (.tuple #[slv u, .int .i64 (canF t ls)])) w') :
    Calls Try.prog 26 #[.agg #[.string e.nm, .bool e.d, .slice e.sl.1 e.sl.2.1 e.sl.2.2], slv v] w R := by
  refine ok26 e.nm e.d e.sl.1 e.sl.2.1 e.sl.2.2 v.1 v.2.1 v.2.2 ?_
  unfold F26
  refine al fun gt w1 hb1 bt hge1 => ?_
  simp only [Addr.add_mk, Nat.zero_add, bt.cell, List.getElem?_toArray, List.getElem?_cons_zero, List.getElem?_cons_succ, Addr.add_mk, List.getElem?_toArray, List.getElem?_cons_zero, List.getElem?_cons_succ, LdI_some, LdB_some, LdStr_some, LdP_some, LdSl_some, LdM_some, Nat.zero_add, Br_t, Br_f]
  refine begun_calls t e ls v (ht.keep hb1) (hl.keep hb1) fun fo w2 hb2 hfo => ⟨_, _, rfl, ?_⟩
  have B2 := btr hb1 hb1.size hb2
  unfold usedHs at h
  refine brn (fun hne => ?_) (fun h0 => ?_)
  · rw [if_neg hne] at h
    exact h (none, 0, 0) w2 B2 ⟨[], rfl, Rd.nil _ _, by simp only [RMl]⟩
  rw [if_pos h0, h0] at h
  obtain ⟨f, rfl, hfd⟩ := hfo h0
  obtain ⟨h16, hll, hvd⟩ := canF_vd h0
  have hlen := ptOf_len t
  have hpos := t.sz_pos
  have hfd0 := hfd
  obtain ⟨pv, lv, kv, wv, fv, ty, wvs, fvs, hf⟩ := hfd
  obtain ⟨es, hpn, -, hpl, -⟩ := hf.rp.up
  have hpn2 : pv.2.1 = (ptOf t).length := by omega
  simp only [NonNil_some, hf.blk.cell, List.getElem?_toArray, List.getElem?_cons_zero, Addr.add_mk, List.getElem?_toArray, List.getElem?_cons_zero, List.getElem?_cons_succ, LdI_some, LdB_some, LdStr_some, LdP_some, LdSl_some, LdM_some, Nat.zero_add, Br_t, Br_f]
  rw [hpn2]
  refine ⟨by omega, by omega, by omega, ?_⟩
  rw [show (((ptOf t).length : Nat) : Int).toNat = (ptOf t).length by simp, zrow_nil]
  refine al fun gb w3 hb3 b3 hge3 => ?_
  simp only [(hf.keep hb3).blk.cell, List.getElem?_toArray, List.getElem?_cons_zero, Addr.add_mk, List.getElem?_toArray, List.getElem?_cons_zero, List.getElem?_cons_succ, LdI_some, LdB_some, LdStr_some, LdP_some, LdSl_some, LdM_some, Nat.zero_add, Br_t, Br_f]
  rw [hpn2]
  refine ⟨by omega, by omega, by omega, ?_⟩
  rw [show (((ptOf t).length : Nat) : Int).toNat = (ptOf t).length by simp, zrow_nil]
  refine al fun gh w4 hb4 b4 hge4 => ?_
  simp only [((hf.keep hb3).keep hb4).blk.cell, List.getElem?_toArray, List.getElem?_cons_zero, Addr.add_mk, List.getElem?_toArray, List.getElem?_cons_zero, List.getElem?_cons_succ, LdI_some, LdB_some, LdStr_some, LdP_some, LdSl_some, LdM_some, Nat.zero_add, Br_t, Br_f]
  rw [hpn2]
  have hs2 := B2.size
  have hs3 := hb3.size
  have hs4 := hb4.size
  have hl3 := b3.lt
  have hl4 := b4.lt
  have D4 := btr hb3 hs3 hb4
  have hU4 : Uk w2 w4 gb gh w4.heap.size (ptOf t).length (List.replicate (ptOf t).length (none, 0, 0)) (List.replicate (ptOf t).length (none, 0, 0)) := ⟨b3.keep hb4, b4, by simp, by simp, D4, by omega⟩
  generalize w4.heap.size = hi at hU4
  refine ⟨fun pp w' => ∃ (j : Nat) (bvs hvs : List Sv), pp = j ∧ j ≤ (ptOf t).length ∧ Uk w2 w' gb gh hi (ptOf t).length bvs hvs ∧ (∀ (q : Nat) (h1 : q < bvs.length) (h2 : q < hvs.length), q < j → UsR (above hi w') (ptOf t) ls q bvs[q] hvs[q]) ∧ (∀ (q : Nat) (h2 : q < hvs.length), j ≤ q → hvs[q] = (none, 0, 0)), fun pp _ => (ptOf t).length - pp.toNat,
    ⟨0, _, _, rfl, Nat.zero_le _, hU4, fun q _ _ hq => by omega, fun q h2 _ => by simp⟩, ?_⟩
  rintro pp w5 ⟨j, bvs, hvs, rfl, hj, hU5, hdone, htodo⟩
  rcases Nat.lt_or_ge j (ptOf t).length with hlt | hge
  · have := used_in (upOk t) hlt (by omega) hvd (by omega) (R := R) (L7 := fun x43' w2_1 => (∃ (j : Nat) (bvs hvs : List Sv), x43' = j ∧ j ≤ (ptOf t).length ∧ Uk w2 w2_1 gb gh hi (ptOf t).length bvs hvs ∧ (∀ (q : Nat) (h1 : q < bvs.length) (h2 : q < hvs.length), q < j → UsR (above hi w2_1) (ptOf t) ls q bvs[q] hvs[q]) ∧ (∀ (q : Nat) (h2 : q < hvs.length), j ≤ q → hvs[q] = (none, 0, 0))) ∧ (ptOf t).length - x43'.toNat < (ptOf t).length - (j : Int).toNat) hfd0 hf.rp hpn2 hU5 hdone htodo fun bvs' hvs' w' h1 h2 h3 => ⟨inR_i64 (by omega) (by omega), ⟨j + 1, bvs', hvs', by simp, by omega, h1, h2, h3⟩, by omega⟩
    rw [hpn2] at this
    exact this
  · have hjj : j = (ptOf t).length := by omega
    subst hjj
    unfold F26_l7
    refine brd (fun hlt => by omega) (fun _ => ?_)
    rw [show (((ptOf t).length : Nat) : Int).toNat = (ptOf t).length by simp]
    have hlh := hU5.lh
    have hlb := hU5.lb
    have hrd := hU5.rh.rd (by simp [maxLen]; omega)
    rw [hlh] at hrd
    refine h (some ⟨gh, 0, none⟩, (ptOf t).length, (ptOf t).length) w5 (B2.trans (hU5.below.mono B2.size)) ⟨hvs, hlh.symm, hrd, rml_of (by simp; omega) fun i h1 h2 => ?_⟩
    rw [List.length_map, List.length_range] at h1
    rw [List.getElem_map, List.getElem_range]
    obtain ⟨-, k1, k2⟩ := hdone i (by omega) h2 (by omega)
    exact ⟨Nat.le_trans (usedH_len _ _ _) (lsN_small hl i), k1, sub_of_only.rd k2⟩
def topsH (t : Tw) (ls : List (List Pl)) : List Int := if canF t ls = 0 then ((lsN ls 0).filter fun x => way (ptOf t) ls 0 x.s != 0).map (·.node) else []
theorem TopsP_calls (t : Tw) (e : E3) (ls : List (List Pl)) (v : Sv) {w : World} {R : Ending → World → Prop} (ht : RTw w t e) (hl : RLs w ls v)
    (h : ∀ u w', Below w.heap.size w w' → Own LH w' w.heap.size 75 (slv u) (topsH t ls) → R (.returned (.tuple #[slv u, .int .i64 (canF t ls)])) w') :
    Calls Try.prog 29 #[.agg #[.string e.nm, .bool e.d, .slice e.sl.1 e.sl.2.1 e.sl.2.2], slv v] w R := by
  refine ok29 e.nm e.d e.sl.1 e.sl.2.1 e.sl.2.2 v.1 v.2.1 v.2.2 ?_
  unfold F29
  refine al fun gt w1 hb1 bt hge1 => ?_
  simp only [Addr.add_mk, Nat.zero_add, bt.cell, List.getElem?_toArray, List.getElem?_cons_zero, List.getElem?_cons_succ, Addr.add_mk, List.getElem?_toArray, List.getElem?_cons_zero, List.getElem?_cons_succ, LdI_some, LdB_some, LdStr_some, LdP_some, LdSl_some, LdM_some, Nat.zero_add, Br_t, Br_f]
  refine begun_calls t e ls v (ht.keep hb1) (hl.keep hb1) fun fo w2 hb2 hfo => ⟨_, _, rfl, ?_⟩
  have B2 := btr hb1 hb1.size hb2
  unfold topsH at h
  refine brn (fun hne => ?_) (fun h0 => ?_)
  · rw [if_neg hne] at h
    exact h (none, 0, 0) w2 B2 (Own.nil _ _ _ _)
  rw [if_pos h0, h0] at h
  obtain ⟨f, rfl, hfd⟩ := hfo h0
  obtain ⟨h16, hll, hvd⟩ := canF_vd h0
  have hlen := ptOf_len t
  have hpos := t.sz_pos
  simp only [NonNil_some, Addr.add_mk, Nat.zero_add]
  refine fd_list2 (p := 0) hfd (Below.refl _ _) (by omega) fun lv hlv => ?_
  obtain ⟨z0, z1, z2⟩ := hlv
  have hs2 := B2.size
  refine ⟨fun l lN lC i w' => ∃ k : Nat, i = k ∧ k ≤ (lsN ls 0).length ∧ Below w2.heap.size w2 w' ∧ Own LH w' w2.heap.size 75 (.slice l lN lC) ((((lsN ls 0).take k).filter fun x => way (ptOf t) ls 0 x.s != 0).map (·.node)), fun _ _ _ i _ => (lsN ls 0).length - i.toNat,
    ⟨0, rfl, by omega, Below.refl _ _, by simpa using Own.nil _ _ _ _⟩, ?_⟩
  rintro l lN lC i w3 ⟨k, rfl, hk, hb3, ho⟩
  unfold F29_l6
  rw [z1]
  refine brd (fun hlt => ?_) (fun hge => ?_)
  · have hk2 : k < (lsN ls 0).length := by omega
    have hnext : (((lsN ls 0).take (k + 1)).filter fun x => way (ptOf t) ls 0 x.s != 0).map (·.node) = (((lsN ls 0).take k).filter fun x => way (ptOf t) ls 0 x.s != 0).map (·.node) ++ if way (ptOf t) ls 0 (lsN ls 0)[k].s != 0 then [(lsN ls 0)[k].node] else [] := by
      rw [List.take_succ_eq_append_getElem hk2, List.filter_append, List.map_append, List.filter_cons]
      congr 1
      split <;> simp
    refine ⟨fun l lN lC w' => Below w2.heap.size w2 w' ∧ Own LH w' w2.heap.size 75 (.slice l lN lC) ((((lsN ls 0).take (k + 1)).filter fun x => way (ptOf t) ls 0 x.s != 0).map (·.node)), ?_, ?_⟩
    · rintro l lN lC w' ⟨q1, q2⟩
      unfold F29_j10
      exact ⟨inR_i64 (by omega) (by omega), ⟨k + 1, by simp, by omega, q1, q2⟩, by dsimp only; omega⟩
    refine (z2.keep hb3).pl (n := (lsN ls 0).length) rfl rfl (k := k) hk2 fun b o c0 c1 c2 c3 => ?_
    simp only [Addr.add_mk, c0, c1, c2, c3, Addr.add_mk, List.getElem?_toArray, List.getElem?_cons_zero, List.getElem?_cons_succ, LdI_some, LdB_some, LdStr_some, LdP_some, LdSl_some, LdM_some, Nat.zero_add, Br_t, Br_f]
    refine al4 fun gn w4 hb4 b4 hge4 => ?_
    have D4 := btr hb3 hb3.size hb4
    refine some_calls (Nat.zero_le _) (by omega) hk2 (hfd.keep D4) ⟨_, rfl, ?_⟩
    rw [hnext]
    refine br (fun hw => ?_) (fun hw => ?_)
    · rw [if_pos hw]
      simp only [b4.cell, List.getElem?_toArray, List.getElem?_cons_zero, Addr.add_mk, List.getElem?_toArray, List.getElem?_cons_zero, List.getElem?_cons_succ, LdI_some, LdB_some, LdStr_some, LdP_some, LdSl_some, LdM_some, Nat.zero_add, Br_t, Br_f]
      have hbound : ((((lsN ls 0).take k).filter fun x => way (ptOf t) ls 0 x.s != 0).map (·.node)).length ≤ 1048576 := by
        rw [List.length_map]
        exact Nat.le_trans (List.length_filter_le _ _) (by rw [List.length_take]; omega)
      refine ap1 (L := LH) (x := (lsN ls 0)[k].node) (.int .u64 0) 8 rfl rfl rfl rfl (ho.keep hb4) D4.size (by omega) (by simp [maxLen] at hbound ⊢; omega) fun A' c' w5 o5 g5 => ⟨_, _, _, rfl, D4.trans g5.below, o5⟩
    · rw [if_neg (by rw [hw]; decide), List.append_nil]
      exact ⟨D4, ho.keep hb4⟩
  · have hk2 : k = (lsN ls 0).length := by omega
    subst hk2
    rw [List.take_length] at ho
    exact h (l, lN, lC) w3 (btr B2 B2.size hb3) (ho.rebase fun b hb => by have := (ho.lt b hb).1; omega)
end Go.Proofs.Ytbocfedmdjkccaa
/- Twigs: the branches at the top the other way about: plain. -/
namespace Go.Proofs.Ytbocfedmdjkccaa
open Go.RowKit Go.Vc
set_option linter.unusedVariables false
set_option linter.unusedSimpArgs false
set_option maxRecDepth 100000
mutual
/-- How many matches there are of what lies under a node, by the pattern's own branches. -/
def Tw.wy : Tw → List (List Pl) → Sp → Nat
  | .mk _ _ ks, ls, s => wyL ks ls s
def wyL : List Tw → List (List Pl) → Sp → Nat
  | [], _, _ => 1
  | k :: ks, ls, s => sumL (((lsN ls 0).filter fun x => fitB k.d s x.s).map fun x => k.wy ls.tail x.s) * wyL ks (ls.drop k.sz) s
end
theorem upN_drop {ps : Pt} {n r : Nat} {l : Pt} (h : ps.drop n = l) {z : Int} (hz : (l[r]?.map (·.2)) = some z) : upN ps (n + r) = z := by
  subst h
  rw [List.getElem?_drop] at hz
  unfold upN
  cases h2 : ps[n + r]? with
  | none => rw [h2] at hz; cases hz
  | some a => rw [h2] at hz; simpa using hz
theorem preL_up (me : Nat) : ∀ (l : List Tw) (nx j : Nat), j < (preL me nx l).length → ∃ u : Nat, ((preL me nx l)[j]?.map (·.2)) = some (u : Int) ∧ (u = me ∨ nx ≤ u)
  | [], nx, j, h => by simp [preL] at h
  | k :: l, nx, j, h => by
    rw [preL] at h ⊢
    rcases Nat.lt_or_ge j (k.pre me nx).length with h1 | h1
    · rw [List.getElem?_append_left h1]
      rcases pre_up k me nx j h1 with ⟨h2, rfl⟩ | ⟨h2, u, h3, h4, h5⟩
      · exact ⟨me, h2, .inl rfl⟩
      · exact ⟨u, h3, .inr h4⟩
    · rw [List.getElem?_append_right h1]
      rw [List.length_append] at h
      obtain ⟨u, h3, h4⟩ := preL_up me l (nx + k.sz) (j - (k.pre me nx).length) (by omega)
      exact ⟨u, h3, h4.imp id fun h => by omega⟩
theorem pre_head (t : Tw) (up : Int) (n : Nat) : (t.pre up n)[0]? = some (t, up) := by cases t; rfl
theorem wy_block {ps : Pt} (L : List (List Pl)) : ∀ (t : Tw) (up : Int) (n : Nat) (rest : Pt), ps.drop n = t.pre up n ++ rest → (∀ j, n + t.sz ≤ j → upN ps j < n ∨ (n + t.sz : Nat) ≤ upN ps j) → ∀ s, way ps L n s = t.wy (L.drop (n + 1)) s := by
  refine Tw.ind fun nm d ks ih => ?_
  intro up n rest hd hup s
  have hlen := congrArg List.length hd
  rw [List.length_drop, List.length_append, Tw.pre_len] at hlen
  have hsz : (Tw.mk nm d ks).sz = 1 + szL ks := by rw [Tw.sz]
  rw [way_eq _ _ _ _ (by omega), Tw.wy]
  have hd1 : ps.drop (n + 1) = preL n (n + 1) ks ++ rest := by
    rw [← List.drop_drop, hd, Tw.pre]; rfl
  have key : ∀ (l : List Tw) (nx : Nat) (rest : Pt), (∀ k ∈ l, k ∈ ks) → n < nx → ps.drop nx = preL n nx l ++ rest → (∀ j, nx + szL l ≤ j → upN ps j < n ∨ (nx + szL l : Nat) ≤ upN ps j) →
      prodL ((List.range' nx (ps.length - nx)).map (wayT ps L n s)) = wyL l (L.drop nx) s := by
    intro l
    induction l with
    | nil =>
      intro nx rest _ hn hd hu
      rw [wyL, prodL_one]
      intro j hj
      have hj2 := List.mem_range'_1.1 hj
      have := hu j (by simp [szL]; omega)
      simp only [szL] at this
      unfold wayT
      rw [if_neg (by omega)]
    | cons k l ihl =>
      intro nx rest hm hn hd hu
      have hlen := congrArg List.length hd
      rw [preL, List.append_assoc] at hd
      rw [List.length_drop, List.length_append, preL_len, szL] at hlen
      have hkp := k.sz_pos
      rw [szL] at hu
      have hd2 : ps.drop (nx + k.sz) = preL n (nx + k.sz) l ++ rest := by
        rw [← List.drop_drop, hd, List.drop_append_of_le_length (by rw [Tw.pre_len]; omega), List.drop_of_length_le (by rw [Tw.pre_len]; omega)]; rfl
      have e : ps.length - nx = k.sz + (ps.length - (nx + k.sz)) := by omega
      have e2 : List.range' nx (ps.length - nx) = List.range' nx k.sz ++ List.range' (nx + k.sz) (ps.length - (nx + k.sz)) := by
        rw [e, ← List.range'_append_1]
      obtain ⟨z, hz⟩ : ∃ z, k.sz = z + 1 := ⟨k.sz - 1, by omega⟩
      have h1 : prodL ((List.range' nx k.sz).map (wayT ps L n s)) = under ps L nx s := by
        rw [hz, List.range'_succ, List.map_cons, prodL, prodL_one, Nat.mul_one]
        · have : upN ps nx = n := upN_drop (r := 0) hd (by rw [List.getElem?_append_left (by rw [Tw.pre_len]; omega), pre_head]; rfl)
          unfold wayT; rw [if_pos this]
        · intro j hj
          have hj2 := List.mem_range'_1.1 hj
          have hj3 : j - nx < (k.pre n nx).length := by rw [Tw.pre_len]; omega
          rcases pre_up k n nx (j - nx) hj3 with ⟨h2, h3⟩ | ⟨h2, u, h3, h4, h5⟩
          · omega
          · have := upN_drop (ps := ps) (r := j - nx) hd (z := u) (by rw [List.getElem?_append_left hj3]; exact h3)
            rw [show nx + (j - nx) = j by omega] at this
            unfold wayT; rw [if_neg (by omega)]
      have h2 : under ps L nx s = sumL (((lsN (L.drop nx) 0).filter fun x => fitB k.d s x.s).map fun x => k.wy (L.drop nx).tail x.s) := by
        unfold under
        have hdN : dN ps nx = k.d := by
          have : ps[nx]? = some (k, (n : Int)) := by
            have h3 : (ps.drop nx)[0]? = some (k, (n : Int)) := by rw [hd, List.getElem?_append_left (by rw [Tw.pre_len]; omega), pre_head]
            rw [List.getElem?_drop] at h3; exact h3
          rw [dN, this]
        have hls : lsN L nx = lsN (L.drop nx) 0 := by unfold lsN; rw [List.getElem?_drop]; rfl
        rw [hdN, hls, List.tail_drop]
        congr 1
        refine List.map_congr_left fun x _ => ?_
        refine ih k (hm k (by simp)) n nx (preL n (nx + k.sz) l ++ rest) hd (fun j hj => ?_) x.s
        rcases Nat.lt_or_ge j (nx + k.sz + szL l) with h3 | h3
        · obtain ⟨u, h4, h5⟩ := preL_up n l (nx + k.sz) (j - (nx + k.sz)) (by rw [preL_len]; omega)
          have := upN_drop (ps := ps) (r := j - (nx + k.sz)) hd2 (z := u) (by rw [List.getElem?_append_left (by rw [preL_len]; omega)]; exact h4)
          rw [show nx + k.sz + (j - (nx + k.sz)) = j by omega] at this
          omega
        · have := hu j (by omega)
          omega
      rw [e2, List.map_append, prodL_append, h1, h2, wyL, List.drop_drop]
      congr 1
      exact ihl (nx + k.sz) rest (fun x hx => hm x (by simp [hx])) (by omega) hd2 fun j hj => by
        have := hu j (by omega)
        omega
  exact key ks (n + 1) rest (fun k h => h) (by omega) hd1 fun j hj => by have := hup j (by omega); omega
theorem way_wy (t : Tw) (L : List (List Pl)) (s : Sp) : way (ptOf t) L 0 s = t.wy L.tail s := by
  have h := wy_block (ps := ptOf t) L t (-1) 0 [] (by simp [ptOf]) (fun j hj => .inl ?_) s
  · rw [h]; simp
  · rw [upN, List.getElem?_eq_none (by rw [ptOf_len]; omega)]; decide
mutual
theorem Tw.wy_loc (m : List (List Pl)) : ∀ (t : Tw) (b : List (List Pl)) (s : Sp), b.length + 1 = t.sz → t.wy (b ++ m) s = t.wy b s
  | .mk nm d ks, b, s, h => by
    rw [Tw.sz] at h
    rw [Tw.wy, Tw.wy]
    exact wyL_loc m ks b s (by omega)
theorem wyL_loc (m : List (List Pl)) : ∀ (ks : List Tw) (b : List (List Pl)) (s : Sp), b.length = szL ks → wyL ks (b ++ m) s = wyL ks b s
  | [], b, s, h => by rw [wyL, wyL]
  | k :: ks, b, s, h => by
    rw [szL] at h
    have hk := k.sz_pos
    cases b with
    | nil => simp at h; omega
    | cons x b =>
      rw [List.length_cons] at h
      rw [wyL, wyL]
      have e1 : ∀ y : Sp, k.wy (b ++ m) y = k.wy b y := fun y => by
        have h1 := Tw.wy_loc (b.drop (k.sz - 1) ++ m) k (b.take (k.sz - 1)) y (by rw [List.length_take]; omega)
        have h2 := Tw.wy_loc (b.drop (k.sz - 1)) k (b.take (k.sz - 1)) y (by rw [List.length_take]; omega)
        rw [← List.append_assoc, List.take_append_drop] at h1
        rw [List.take_append_drop] at h2
        rw [h1, h2]
      have e2 : ((x :: b) ++ m).drop k.sz = (x :: b).drop k.sz ++ m := List.drop_append_of_le_length (by simp; omega)
      rw [e2, wyL_loc m ks ((x :: b).drop k.sz) s (by rw [List.length_drop, List.length_cons]; omega)]
      simp only [List.cons_append, List.tail_cons, lsN, List.getElem?_cons_zero, e1]
end
/-- A branch's share. -/
def facP (s : Sp) (p : Tw × List (List Pl)) : Nat := sumL (((lsN p.2 0).filter fun x => fitB p.1.d s x.s).map fun x => p.1.wy p.2.tail x.s)
theorem wyL_pairs (s : Sp) : ∀ (prs : List (Tw × List (List Pl))), (∀ p ∈ prs, p.2.length = p.1.sz) → wyL (prs.map (·.1)) (prs.map (·.2)).flatten s = prodL (prs.map (facP s))
  | [], _ => by simp [wyL, prodL]
  | p :: prs, h => by
    have hp := h p (by simp)
    have hk := p.1.sz_pos
    obtain ⟨k, b⟩ := p
    simp only at hp hk
    cases b with
    | nil => simp at hp; omega
    | cons x b =>
      rw [List.length_cons] at hp
      rw [List.map_cons, List.map_cons, List.flatten_cons, wyL, List.map_cons, prodL, ← wyL_pairs s prs fun q hq => h q (by simp [hq])]
      have e2 : ((x :: b) ++ (prs.map (·.2)).flatten).drop k.sz = (prs.map (·.2)).flatten := by
        rw [← hp]; exact List.drop_left (l₁ := x :: b)
      rw [e2]
      congr 1
      unfold facP
      simp only [List.cons_append, List.tail_cons, lsN, List.getElem?_cons_zero, Tw.wy_loc _ k b _ hp]
theorem prodL_reverse (l : List Nat) : prodL l.reverse = prodL l := by
  induction l with
  | nil => rfl
  | cons x l ih => rw [List.reverse_cons, prodL_snoc, ih, prodL, Nat.mul_comm]
theorem wyL_reverse (s : Sp) (prs : List (Tw × List (List Pl))) (h : ∀ p ∈ prs, p.2.length = p.1.sz) : wyL (prs.reverse.map (·.1)) (prs.reverse.map (·.2)).flatten s = wyL (prs.map (·.1)) (prs.map (·.2)).flatten s := by
  rw [wyL_pairs s prs h, wyL_pairs s prs.reverse fun p hp => h p (List.mem_reverse.1 hp), List.map_reverse, prodL_reverse]
/-- The lists, branch by branch. -/
def partsL : List Tw → List (List Pl) → List (Tw × List (List Pl))
  | [], _ => []
  | k :: ks, ls => (k, ls.take k.sz) :: partsL ks (ls.drop k.sz)
theorem partsL_fst : ∀ (ks : List Tw) (ls : List (List Pl)), (partsL ks ls).map (·.1) = ks
  | [], ls => rfl
  | k :: ks, ls => by rw [partsL, List.map_cons, partsL_fst]
theorem partsL_len (ks : List Tw) (ls : List (List Pl)) : (partsL ks ls).length = ks.length := by
  have := congrArg List.length (partsL_fst ks ls); simpa using this
theorem partsL_flat : ∀ (ks : List Tw) (ls : List (List Pl)), ls.length = szL ks → ((partsL ks ls).map (·.2)).flatten = ls
  | [], ls, h => by rw [szL] at h; rw [List.eq_nil_of_length_eq_zero h]; rfl
  | k :: ks, ls, h => by
    rw [szL] at h
    rw [partsL, List.map_cons, List.flatten_cons, partsL_flat ks _ (by rw [List.length_drop]; omega), List.take_append_drop]
theorem partsL_ok : ∀ (ks : List Tw) (ls : List (List Pl)), ls.length = szL ks → ∀ p ∈ partsL ks ls, p.2.length = p.1.sz
  | [], ls, h, p, hp => by simp [partsL] at hp
  | k :: ks, ls, h, p, hp => by
    rw [szL] at h
    rw [partsL] at hp
    rcases List.mem_cons.1 hp with rfl | hp
    · simp; omega
    · exact partsL_ok ks _ (by rw [List.length_drop]; omega) p hp
theorem partsL_get : ∀ (ks : List Tw) (ls : List (List Pl)) (i : Nat) (h : i < (partsL ks ls).length), (partsL ks ls)[i].2 = (ls.drop (szL (ks.take i))).take ((ks[i]'(by rw [partsL_len] at h; exact h)).sz)
  | [], ls, i, h => by simp [partsL] at h
  | k :: ks, ls, 0, h => by simp [partsL, szL]
  | k :: ks, ls, i + 1, h => by
    simp only [partsL, List.getElem_cons_succ, List.take_succ_cons, szL]
    rw [partsL_get ks _ i, List.drop_drop]
/-- The pattern and its lists, turned about. -/
def turnT : Tw → Tw
  | .mk nm _ ks => .mk nm false ks.reverse
def turnL (t : Tw) (ls : List (List Pl)) : List (List Pl) := lsN ls 0 :: ((partsL t.kids ls.tail).reverse.map (·.2)).flatten
theorem szL_append : ∀ (a b : List Tw), szL (a ++ b) = szL a + szL b
  | [], b => by simp [szL]
  | k :: a, b => by rw [List.cons_append, szL, szL, szL_append a b]; omega
theorem szL_reverse (ks : List Tw) : szL ks.reverse = szL ks := by
  induction ks with
  | nil => rfl
  | cons k ks ih => rw [List.reverse_cons, szL_snoc, ih, szL]; omega
theorem namedL_reverse (ks : List Tw) : namedL ks.reverse = namedL ks := by
  induction ks with
  | nil => rfl
  | cons k ks ih => rw [List.reverse_cons, namedL_snoc, ih, namedL, Bool.and_comm]
theorem turn_check (t : Tw) : checkF (turnT t) = checkF t := by
  cases t with
  | mk nm d ks =>
    unfold checkF turnT
    rw [Tw.sz, Tw.sz, Tw.named, Tw.named, szL_reverse, namedL_reverse]
theorem turn_sz (t : Tw) : (turnT t).sz = t.sz := by
  cases t with
  | mk nm d ks => rw [turnT, Tw.sz, Tw.sz, szL_reverse]
section
variable {t : Tw} {ls : List (List Pl)}
theorem flat_rev_len {α : Type} (l : List (List α)) : l.reverse.flatten.length = l.flatten.length := by
  induction l with
  | nil => rfl
  | cons x l ih => rw [List.reverse_cons, List.flatten_append, List.length_append, ih, List.flatten_cons, List.length_append]; simp; omega
theorem tail_len (h : ls.length = t.sz) : ls.tail.length = szL t.kids := by
  cases t with
  | mk nm d ks => rw [List.length_tail, h, Tw.sz]; show _ = szL ks; omega
theorem turn_len (h : ls.length = t.sz) : (turnL t ls).length = t.sz := by
  have h1 := tail_len h
  have hp := t.sz_pos
  rw [turnL, List.length_cons, List.map_reverse, flat_rev_len, partsL_flat _ _ h1, List.length_tail]; omega
theorem turn_mem (h : ls.length = t.sz) (l : List Pl) : l ∈ turnL t ls ↔ l ∈ ls := by
  have h1 := tail_len h
  have hp := t.sz_pos
  have e : ∀ (m : List (List (List Pl))), l ∈ m.reverse.flatten ↔ l ∈ m.flatten := fun m => by simp [List.mem_flatten]
  rw [turnL, List.mem_cons, List.map_reverse, e, partsL_flat _ _ h1]
  cases ls with
  | nil => simp at h; omega
  | cons x ls => simp [lsN]
theorem turn_way (h : ls.length = t.sz) (s : Sp) : way (ptOf (turnT t)) (turnL t ls) 0 s = way (ptOf t) ls 0 s := by
  have h1 := tail_len h
  have h2 := wyL_reverse s (partsL t.kids ls.tail) (partsL_ok _ _ h1)
  rw [partsL_flat _ _ h1, List.map_reverse, partsL_fst] at h2
  rw [way_wy, way_wy]
  cases t with
  | mk nm d ks => exact h2
theorem turn_zero : lsN (turnL t ls) 0 = lsN ls 0 := rfl
theorem turn_roots (h : ls.length = t.sz) : rootsN (ptOf (turnT t)) (turnL t ls) = rootsN (ptOf t) ls := by
  unfold rootsN
  rw [turn_zero]
  congr 1
  exact List.map_congr_left fun x _ => turn_way h x.s
theorem canF_turn (h : canF t ls = 0) : canF (turnT t) (turnL t ls) = 0 := by
  unfold canF at h ⊢
  rw [turn_check, turn_sz]
  by_cases h1 : checkF t = 0
  · rw [if_pos h1] at h ⊢
    by_cases h2 : ls.length = t.sz
    · rw [if_pos h2] at h
      rw [if_pos (turn_len h2)]
      by_cases h3 : listsF ls = 0
      · rw [if_pos h3] at h
        have h4 : crossF [] (mergeAll ls) = false := by
          cases hc : crossF [] (mergeAll ls) with
          | false => rfl
          | true => rw [hc] at h; cases h
        have key : ∀ m : List (List Pl), (∀ l' ∈ m, listF l' = 0) → listsF m = 0 := by
          intro m
          induction m with
          | nil => intro _; rfl
          | cons l m ih =>
            intro hm
            rw [listsF, if_pos (hm l (by simp))]
            exact ih fun x hx => hm x (by simp [hx])
        have h5 : listsF (turnL t ls) = 0 := key _ fun l' hl' => listsF_all h3 l' ((turn_mem h2 l').1 hl')
        rw [if_pos h5]
        have hsp : ∀ s, s ∈ mergeAll (turnL t ls) → s ∈ mergeAll ls := fun s hs' => by
          rw [mergeAll_mem, spansAll_mem] at hs' ⊢
          obtain ⟨l', hl', p, hp, rfl⟩ := hs'
          exact ⟨l', (turn_mem h2 l').1 hl', p, hp, rfl⟩
        have hn := (crossF_nest (mergeAll_sorted ls (listsF_sorted h3)) fun s h => canB_lt (listsF_can h3 s ((mergeAll_mem ls).1 h))).1 h4
        have hn' : Nest (mergeAll (turnL t ls)) := fun a ha b hb => hn a (hsp a ha) b (hsp b hb)
        rw [(crossF_nest (mergeAll_sorted _ (listsF_sorted h5)) fun s h => canB_lt (listsF_can h5 s ((mergeAll_mem _).1 h))).2 hn']
        rfl
      · rw [if_neg h3] at h; exact absurd h h3
    · rw [if_neg h2] at h; cases h
  · rw [if_neg h1] at h; exact absurd h h1
theorem tops_turn (h : canF t ls = 0) (hl : ls.length = t.sz) : topsH (turnT t) (turnL t ls) = topsH t ls := by
  unfold topsH
  rw [if_pos h, if_pos (canF_turn h), turn_zero]
  congr 1
  exact List.filter_congr fun x _ => by rw [turn_way hl]
end
end Go.Proofs.Ytbocfedmdjkccaa
/- Twigs: few lists, small patterns. -/
namespace Go.Proofs.Ytbocfedmdjkccaa
open Go.RowKit Go.Vc
set_option linter.unusedVariables false
set_option linter.unusedSimpArgs false
set_option maxRecDepth 100000
def fewF (t : Tw) (ls : List (List Pl)) (m : Nat) : List (List Pl) := (List.range (cap17 t.sz)).map fun i => (lsN ls i).take m
theorem fewF_len (t : Tw) (ls : List (List Pl)) (m : Nat) : (fewF t ls m).length = cap17 t.sz := by simp [fewF]
theorem few_take (t : Tw) (ls : List (List Pl)) (m k : Nat) (hk : k < cap17 t.sz) : (fewF t ls m).take (k + 1) = (fewF t ls m).take k ++ [(lsN ls k).take m] := by
  rw [List.take_succ_eq_append_getElem (by rw [fewF_len]; exact hk)]
  simp [fewF]
theorem RLv.cut {w : World} {l : List Pl} {v : Sv} (h : RLv w l v) {m : Nat} (hm : m ≤ l.length) : RLv w (l.take m) (v.1, m, v.2.2) :=
  ⟨by rw [List.length_take]; have := h.1; omega, by rw [List.length_take]; show m = _; omega, h.2.2.take m⟩
theorem few_calls (t : Tw) (e : E3) (ls : List (List Pl)) (v : Sv) (m : Nat) (hm : m ≤ 1000) {w : World} {R : Ending → World → Prop} (ht : RTw w t e) (hl : RLs w ls v)
    (h : ∀ v' w', Below w.heap.size w w' → RLs w' (fewF t ls m) v' → R (.returned (slv v')) w') :
    Calls Try.prog 22 #[.agg #[.string e.nm, .bool e.d, .slice e.sl.1 e.sl.2.1 e.sl.2.2], slv v, .int .i64 (m : Int)] w R := by
  have hl0 := hl
  obtain ⟨hlen, vs, hn, hr, hks⟩ := hl
  have hel := hks.len
  refine ok22 e.nm e.d e.sl.1 e.sl.2.1 e.sl.2.2 v.1 v.2.1 v.2.2 m ?_
  unfold F22
  refine al fun gt w1 hb1 bt hge1 => ?_
  simp only [Addr.add_mk, Nat.zero_add, bt.cell, List.getElem?_toArray, List.getElem?_cons_zero, List.getElem?_cons_succ, Addr.add_mk, List.getElem?_toArray, List.getElem?_cons_zero, List.getElem?_cons_succ, LdI_some, LdB_some, LdStr_some, LdP_some, LdSl_some, LdM_some, Nat.zero_add, Br_t, Br_f]
  refine size_calls t e (ht.keep hb1) fun w2 hb2 => ⟨_, rfl, ?_⟩
  have B2 := btr hb1 hb1.size hb2
  have h17 : cap17 t.sz ≤ 17 := by unfold cap17; split <;> omega
  refine ⟨fun o oN oC i w' => ∃ (k : Nat) (us : List Sv), i = k ∧ k ≤ cap17 t.sz ∧ Below w.heap.size w w' ∧ Own LSv w' w.heap.size 51 (.slice o oN oC) us ∧ RLl w ((fewF t ls m).take k) us, fun _ _ _ i _ => cap17 t.sz - i.toNat,
    ⟨0, [], rfl, Nat.zero_le _, B2, Own.nil _ _ _ _, by simp only [List.take_zero, RLl]⟩, ?_⟩
  rintro o oN oC i w3 ⟨k, us, rfl, hk, hb3, ho, hus⟩
  unfold F22_l4
  have hul := hus.len
  rw [List.length_take, fewF_len] at hul
  refine brd (fun hlt => ?_) (fun hge => ?_)
  · have hk2 : k < cap17 t.sz := by omega
    have hst := few_take t ls m k hk2
    refine ⟨fun l lN lC w' => w3 = w' ∧ RLv w (lsN ls k) (l, lN, lC), ?_, ?_⟩
    · rintro l lN lC _ ⟨rfl, hv⟩
      unfold F22_j9
      refine ⟨fun l lN lC w' => w3 = w' ∧ RLv w ((lsN ls k).take m) (l, lN, lC), ?_, ?_⟩
      · rintro l lN lC _ ⟨rfl, hv2⟩
        unfold F22_j11
        refine ap1 (L := LSv) (x := (l, lN, lC)) (.slice none 0 0) 24 rfl rfl rfl rfl ho hb3.size (by omega) (by simp [maxLen]; omega) fun A' c' w4 o4 g4 => ⟨_, _, _, rfl, inR_i64 (by omega) (by omega), ⟨k + 1, us ++ [(l, lN, lC)], by simp, by omega, hb3.trans g4.below, o4, by rw [hst]; exact RLl.snoc hv2 hus⟩, by dsimp only; omega⟩
      · have hvn := hv.2.1
        have hcap := hv.2.2.1
        simp only at hvn hcap
        refine brd (fun hgt => ⟨by omega, by omega, by omega, by trivial, ?_⟩) (fun hle => ⟨by trivial, ?_⟩)
        · exact hv.cut (by omega)
        · rw [List.take_of_length_le (by omega)]; exact hv
    · refine brd (fun hin => ?_) (fun hout => ⟨rfl, ?_⟩)
      · have hk3 : k < ls.length := by omega
        refine (hr.keep hb3).sv hn rfl (k := k) (by omega) fun b o c0 => ?_
        simp only [c0, Addr.add_mk, List.getElem?_toArray, List.getElem?_cons_zero, List.getElem?_cons_succ, LdI_some, LdB_some, LdStr_some, LdP_some, LdSl_some, LdM_some, Nat.zero_add, Br_t, Br_f]
        rw [lsN_get hk3]
        exact ⟨by trivial, hks.get k hk3 (by omega)⟩
      · have : lsN ls k = [] := by rw [lsN, List.getElem?_eq_none (by omega)]
        rw [this]
        exact ⟨by simp, rfl, Rd.nil _ _⟩
  · have hk2 : k = cap17 t.sz := by omega
    subst hk2
    rw [List.take_of_length_le (by rw [fewF_len]; omega)] at hus
    obtain ⟨e1, e2⟩ := ho.rd
    exact h (o, oN, oC) w3 hb3 ⟨by rw [fewF_len]; omega, us, e1, e2, hus.keep hb3⟩
/-- A pattern of so many levels, two beside. -/
def smallF : Nat → Tw → Tw
  | 0, .mk nm d _ => .mk nm d []
  | m + 1, .mk nm d ks => .mk nm d ((ks.take 2).map (smallF m))
theorem small_calls : ∀ (m : Nat) (deep : Int) (t : Tw) (e : E3) {w : World} {R : Ending → World → Prop}, deep = 2 - (m : Int) → m ≤ 2 → RTw w t e →
    (∀ e' w', Below w.heap.size w w' → RTw (above w.heap.size w') (smallF m t) e' → R (.returned (.agg #[.string e'.nm, .bool e'.d, .slice e'.sl.1 e'.sl.2.1 e'.sl.2.2])) w') →
    Calls Try.prog 21 #[.agg #[.string e.nm, .bool e.d, .slice e.sl.1 e.sl.2.1 e.sl.2.2], .int .i64 deep] w R := by
  intro m
  induction m with
  | zero => 
    rintro deep ⟨nm, d, ks⟩ e w R hdeep hm2 ht h
    have ht0 := ht
    simp only [RTw] at ht
    obtain ⟨hnm, hd, hlen, es, hn, hr, hks⟩ := ht
    refine ok21 e.nm e.d e.sl.1 e.sl.2.1 e.sl.2.2 deep ?_
    unfold F21
    refine al fun gt w1 hb1 bt hge1 => al fun g4 w2 hb2 b4 hge2 => ?_
    have B2 := btr hb1 hb1.size hb2
    have bt2 := bt.keep hb2
    have hs1 := hb1.size
    have hlt := bt.lt
    have hl4 := b4.lt
    simp only [Addr.add_mk, Nat.zero_add, bt2.cell, List.getElem?_toArray, List.getElem?_cons_zero, List.getElem?_cons_succ, Addr.add_mk, List.getElem?_toArray, List.getElem?_cons_zero, List.getElem?_cons_succ, LdI_some, LdB_some, LdStr_some, LdP_some, LdSl_some, LdM_some, Nat.zero_add, Br_t, Br_f]
    refine ⟨fun _ _ _ w' => w2 = w', ?_, ?_⟩
    · rintro l lN lC _ rfl
      unfold F21_j4
      simp only [Addr.add_mk, Nat.zero_add]
      refine st_blk bt2 (by simp) fun w3 b3 hf3 => ?_
      simp only [List.setIfInBounds_toArray, List.set_cons_zero, List.set_cons_succ] at b3
      have b43 := hf3.blk b4 (by omega)
      have fin : F21_j9 ⟨gt, 0, none⟩ ⟨g4, 0, none⟩ w3 R := by
        unfold F21_j9
        simp only [Addr.add_mk, Nat.zero_add, b3.cell, List.getElem?_toArray, List.getElem?_cons_zero, List.getElem?_cons_succ, Addr.add_mk, List.getElem?_toArray, List.getElem?_cons_zero, List.getElem?_cons_succ, LdI_some, LdB_some, LdStr_some, LdP_some, LdSl_some, LdM_some, Nat.zero_add, Br_t, Br_f]
        refine st_blk b43 (by simp) fun w4 b4 hf4 => st_blk b4 (by simp) fun w5 b5 hf5 => st_blk b5 (by simp) fun w6 b6 hf6 => ?_
        simp only [List.setIfInBounds_toArray, List.set_cons_zero, List.set_cons_succ] at b6
        simp only [Addr.add_mk, Nat.zero_add, b6.cell, List.getElem?_toArray, List.getElem?_cons_zero, List.getElem?_cons_succ, Addr.add_mk, List.getElem?_toArray, List.getElem?_cons_zero, List.getElem?_cons_succ, LdI_some, LdB_some, LdStr_some, LdP_some, LdSl_some, LdM_some, Nat.zero_add, Br_t, Br_f]
        have hF := hf3.mono (M' := fun b => b = gt ∨ b = g4) (fun b _ h => Or.inl h) |>.trans (((hf4.trans hf5).trans hf6).mono fun b _ h => Or.inr h)
        refine h ⟨e.nm, e.d, (none, 0, 0)⟩ w6 (B2.trans (hF.toBelow B2.size fun b hb hm => by omega)) ?_
        simp only [smallF, RTw]
        exact ⟨hnm, hd, by simp, [], rfl, Rd.nil _ _, by simp only [RTl]⟩
      refine ⟨fun w' => w3 = w', by rintro _ rfl; exact fin, ?_⟩
      refine ⟨fun _ w' => w3 = w', fun _ _ => 0, rfl, ?_⟩
      rintro i _ rfl
      unfold F21_l6
      refine ⟨fun _ => False, fun _ h => h.elim, ?_⟩
      exact brd (fun _ => brd (fun hh => by omega) (fun _ => rfl)) (fun _ => rfl)
    · have hcap := hr.1
      refine brd (fun hgt => ⟨by omega, by omega, by omega, rfl⟩) (fun _ => rfl)
  | succ m ih =>
    rintro deep ⟨nm, d, ks⟩ e w R hdeep hm2 ht h
    simp only [RTw] at ht
    obtain ⟨hnm, hd, hlen, es, hn, hr, hks⟩ := ht
    have hel := hks.len
    refine ok21 e.nm e.d e.sl.1 e.sl.2.1 e.sl.2.2 deep ?_
    unfold F21
    refine al fun gt w1 hb1 bt hge1 => al fun g4 w2 hb2 b4 hge2 => ?_
    have B2 := btr hb1 hb1.size hb2
    have bt2 := bt.keep hb2
    have hs1 := hb1.size
    have hs2 := hb2.size
    have hlt := bt.lt
    have hl4 := b4.lt
    simp only [Addr.add_mk, Nat.zero_add, bt2.cell, List.getElem?_toArray, List.getElem?_cons_zero, List.getElem?_cons_succ, Addr.add_mk, List.getElem?_toArray, List.getElem?_cons_zero, List.getElem?_cons_succ, LdI_some, LdB_some, LdStr_some, LdP_some, LdSl_some, LdM_some, Nat.zero_add, Br_t, Br_f]
    have hk2l : (ks.take 2).length ≤ 2 := by rw [List.length_take]; omega
    refine ⟨fun l lN lC w' => w2 = w' ∧ lN = (ks.take 2).length ∧ Rd LE3 w l lC (es.take 2), ?_, ?_⟩
    · rintro l lN lC _ ⟨rfl, hlN, hrl⟩
      unfold F21_j4
      simp only [Addr.add_mk, Nat.zero_add]
      refine st_blk bt2 (by simp) fun w3 b3 hf3 => ?_
      simp only [List.setIfInBounds_toArray, List.set_cons_zero, List.set_cons_succ] at b3
      have b43 := hf3.blk b4 (by omega)
      have hs3 := hf3.size
      have B3 : Below w.heap.size w w3 := B2.trans (hf3.toBelow B2.size fun b hb hm => by omega)
      have State : True := trivial
      have fin : ∀ w', (∃ (l : Option Addr) (lN lC : Nat), Below w.heap.size w w' ∧ Blk w' gt #[.string e.nm, .bool e.d, .slice l lN lC] 24 ∧ Blk w' g4 #[.string (ByteArray.mk #[]), .bool false, .slice none 0 0] 24 ∧ Bld KT w2.heap.size 24 w' (.slice l lN lC) ((ks.take 2).map (smallF m))) → F21_j9 ⟨gt, 0, none⟩ ⟨g4, 0, none⟩ w' R := by
        rintro w' ⟨l, lN, lC, hbw, bg, b4', hbl⟩
        unfold F21_j9
        simp only [Addr.add_mk, Nat.zero_add, bg.cell, List.getElem?_toArray, List.getElem?_cons_zero, List.getElem?_cons_succ, Addr.add_mk, List.getElem?_toArray, List.getElem?_cons_zero, List.getElem?_cons_succ, LdI_some, LdB_some, LdStr_some, LdP_some, LdSl_some, LdM_some, Nat.zero_add, Br_t, Br_f]
        refine st_blk b4' (by simp) fun w4 b4 hf4 => st_blk b4 (by simp) fun w5 b5 hf5 => st_blk b5 (by simp) fun w6 b6 hf6 => ?_
        simp only [List.setIfInBounds_toArray, List.set_cons_zero, List.set_cons_succ] at b6
        simp only [Addr.add_mk, Nat.zero_add, b6.cell, List.getElem?_toArray, List.getElem?_cons_zero, List.getElem?_cons_succ, Addr.add_mk, List.getElem?_toArray, List.getElem?_cons_zero, List.getElem?_cons_succ, LdI_some, LdB_some, LdStr_some, LdP_some, LdSl_some, LdM_some, Nat.zero_add, Br_t, Br_f]
        have hF := (hf4.trans hf5).trans hf6
        have hbl6 := hbl.keep hF fun b hb hm => by omega
        obtain ⟨A, c, es', hv, hrd, hrl'⟩ := hbl6.read (j := w.heap.size) B2.size
        cases hv
        refine h ⟨e.nm, e.d, (l, es'.length, lC)⟩ w6 (hbw.trans (hF.toBelow hbw.size fun b hb hm => by omega)) ?_
        simp only [smallF, RTw]
        exact ⟨hnm, hd, by rw [List.length_map]; omega, es', rfl, hrd, hrl'⟩
      refine ⟨fun w' => ∃ (l : Option Addr) (lN lC : Nat), Below w.heap.size w w' ∧ Blk w' gt #[.string e.nm, .bool e.d, .slice l lN lC] 24 ∧ Blk w' g4 #[.string (ByteArray.mk #[]), .bool false, .slice none 0 0] 24 ∧ Bld KT w2.heap.size 24 w' (.slice l lN lC) ((ks.take 2).map (smallF m)), fin, ?_⟩
      refine ⟨fun i w' => ∃ (k : Nat) (l : Option Addr) (lN lC : Nat), i = k ∧ k ≤ (ks.take 2).length ∧ Below w.heap.size w w' ∧ Blk w' gt #[.string e.nm, .bool e.d, .slice l lN lC] 24 ∧ Blk w' g4 #[.string (ByteArray.mk #[]), .bool false, .slice none 0 0] 24 ∧ w2.heap.size ≤ w'.heap.size ∧ Bld KT w2.heap.size 24 w' (.slice l lN lC) (((ks.take 2).take k).map (smallF m)), fun i _ => (ks.take 2).length - i.toNat,
        ⟨0, none, 0, 0, rfl, Nat.zero_le _, B3, b3, b43, hs3, by simpa using Bld.nil KT _ _ _⟩, ?_⟩
      rintro i w4 ⟨k, l4, lN4, lC4, rfl, hk, hb4, bg4, b44, hs4, hbl4⟩
      unfold F21_l6
      refine ⟨fun w' => w4 = w' ∧ k < (ks.take 2).length, ?_, ?_⟩
      · rintro _ ⟨rfl, hk2⟩
        unfold F21_j8
        have hd4 : Below w4.heap.size w4 w4.drew := (Below.refl _ _).drew
        refine ⟨fun w' => Below w4.heap.size w4 w', hd4, ?_⟩
        simp only [Addr.add_mk, Nat.zero_add]
        refine ⟨_, _, _, blk_held bg4 (fun _ h => h) rfl, ?_⟩
        have hke : k < (es.take 2).length := by rw [List.length_take] at hk2 ⊢; omega
        have hke2 : k < es.length := by rw [List.length_take] at hke; omega
        have hkk : k < ks.length := by omega
        have hlN' : lN = (es.take 2).length := by rw [hlN, List.length_take, List.length_take]; omega
        have hi : 0 ≤ (k : Int) ∧ (k : Int) < lN := by omega
        refine (hrl.keep hb4).held (fun _ h => h) hlN' hi.1 hi.2 rfl fun b o hc => ?_
        simp only [Int.toNat_natCast, List.getElem_take] at hc
        refine ⟨_, hc 0 _ rfl, ?_⟩
        simp only [Addr.add_mk]
        refine ⟨_, hc 1 _ rfl, _, _, _, hc 2 _ rfl, inR_i64 (by omega) (by omega), ?_⟩
        have B4d := btr hb4 hb4.size hd4
        refine ih (deep + 1) ks[k] es[k] (by omega) (by omega) ((hks.keep B4d).get k hkk hke2) fun e' w5 hb5 ht5 => ⟨_, _, _, _, _, rfl, hd4.trans hb5, ?_⟩
        have D5 := hd4.trans hb5
        have hds := hd4.size
        have hs5 := D5.size
        obtain ⟨A, c, hv⟩ := hbl4.len
        cases hv
        have hlk : (((ks.take 2).take k).map (smallF m)).length = k := by rw [List.length_map, List.length_take]; omega
        refine ⟨D5.trans (((Below.refl _ _).alloc (Nat.le_refl _) _).mono hs5), Bld.app (N := KT) (y := e') (x := smallF m ks[k]) (M := fun _ => False) (.agg #[.string ⟨#[]⟩, .bool false, .slice none 0 0]) 48 (hbl4.keep (.below hd4) fun _ _ h => h) (.below hb5) (fun _ _ h => h) (by omega) ht5 rfl rfl rfl rfl (by omega) (by simp [maxLen] at hlk ⊢; omega) fun A' c' w6 hbl6 hf6 => ⟨A', _, c', rfl, ?_⟩⟩
        rw [hlk] at hbl6 ⊢
        have D6 : Below w2.heap.size w4 w6 := (D5.mono hs4).trans (hf6.toBelow (by omega) fun b hb hm => by omega)
        have hs6 := hf6.size
        refine st_blk (bg4.below D6 (by omega)) (by simp) fun w7 b7 hf7 => ?_
        simp only [List.setIfInBounds_toArray, List.set_cons_zero, List.set_cons_succ] at b7
        have hs7 := hf7.size
        refine ⟨inR_i64 (by omega) (by omega), ⟨k + 1, A', k + 1, c', by simp, by omega, (hb4.trans (D6.mono (by omega))).trans (hf7.toBelow (by omega) fun b hb hm => by omega), b7, hf7.blk (b44.below D6 hl4) (by omega), by omega, ?_⟩, by omega⟩
        have e1 : ((ks.take 2).take (k + 1)).map (smallF m) = ((ks.take 2).take k).map (smallF m) ++ [smallF m ks[k]] := by
          rw [List.take_succ_eq_append_getElem hk2, List.map_append]; simp
        rw [e1]
        exact hbl6.keep hf7 fun b hb hm => by omega
      · refine brd (fun hh => brd (fun _ => ⟨rfl, by omega⟩) (fun hh2 => by omega)) (fun hh => ?_)
        have hk2 : k = (ks.take 2).length := by omega
        subst hk2
        rw [List.take_length] at hbl4
        exact ⟨l4, lN4, lC4, hb4, bg4, b44, hbl4⟩
    · have hcap := hr.1
      refine brd (fun hgt => ⟨by omega, by omega, by omega, rfl, ?_, hr.take 2⟩) (fun hle => ⟨rfl, ?_, ?_⟩)
      · rw [List.length_take]; show 2 = _; omega
      · rw [List.length_take]; omega
      · rw [List.take_of_length_le (by omega)]; exact hr
end Go.Proofs.Ytbocfedmdjkccaa
/- Twigs: all choices that fit, tried one by one. -/
namespace Go.Proofs.Ytbocfedmdjkccaa
open Go.RowKit Go.Vc
set_option linter.unusedVariables false
set_option linter.unusedSimpArgs false
set_option maxRecDepth 100000
theorem take_full {α : Type} {a b : List α} {l : Nat} (h : l ≤ a.length) : (a ++ b).take l = a.take l := List.take_append_of_le_length h
theorem tried_calls {wL : World} {lo : Nat} {ps : Pt} {ls : List (List Pl)} {nv lv : Sv} (hnn : nv.2.1 = ps.length) (hnr : Rd LNd wL nv.1 nv.2.2 (ps.map ndOf)) (hl : RLs wL ls lv) (hll : ls.length = ps.length) (hu : UpOk ps) (hn : ps.length ≤ 16) (hv : Vd ls) (hlo : wL.heap.size ≤ lo) : ∀ (mm : Nat) {p : Nat} {ch : List Nat} {chP : List Pl} {out : List (List Int)} {v cv : Sv} {vs : List Sv} {w : World} {R : Ending → World → Prop}, p + mm = ps.length →
    Below wL.heap.size wL w → lo ≤ w.heap.size → OMs w lo w.heap.size out v vs → ch.length = p → Cho ls ch chP → cv.2.1 = p → Rd LI (hid 0 (rowOf (slv v)) w) cv.1 cv.2.2 (ch.map Int.ofNat) → out.length ≤ 2000 →
    (∀ v' vs' w', OMs w' lo w'.heap.size ((out ++ (allF ps ls mm chP).map hanF).take 2001) v' vs' → Fm (fun b => rowOf (slv v) = some b) w w' → (∀ b, rowOf (slv v') = some b → rowOf (slv v) = some b ∨ w.heap.size ≤ b) → R (.returned (slv v')) w') →
    Calls Try.prog 24 #[slv nv, slv lv, slv cv, slv v] w R := by
  obtain ⟨hlen, lvs, hln, hlr, hls⟩ := hl
  have hlvs := hls.len
  have hlist : ∀ {w'} (q : Nat) (hq : q < ps.length), Below wL.heap.size wL w' → ∃ h : q < lvs.length, (lsN ls q).length ≤ 1048576 ∧ lvs[q].2.1 = (lsN ls q).length ∧ Rd LPl w' lvs[q].1 lvs[q].2.2 (lsN ls q) := fun q hq hb => by
    obtain ⟨z0, z1, z2⟩ := (hls.keep hb).get q (by omega) (by omega)
    rw [lsN_get (by omega)]; exact ⟨by omega, z0, z1, z2⟩
  obtain ⟨nA, nN, nC⟩ := nv
  have hnn' : ps.length = nN := hnn.symm
  subst hnn'
  replace hnr : Rd LNd wL nA nC (ps.map ndOf) := hnr
  intro mm
  induction mm with
  | zero =>
    intro p ch chP out v cv vs w R hpm hb hlw ho hcl hch hcn hcr hz hR
    obtain ⟨cA, cN, cC⟩ := cv
    have hcn' : p = cN := hcn.symm
    subst hcn'
    replace hcr : Rd LI (hid 0 (rowOf (slv v)) w) cA cC (ch.map Int.ofNat) := hcr
    refine ok24 nA ps.length nC lv.1 lv.2.1 lv.2.2 cA p cC v.1 v.2.1 v.2.2 ?_
    unfold F24
    rw [show (((p : Nat) : Int) == ((ps.length : Nat) : Int)) = true by simp; omega, Br_t]
    have hcp : chP.length = ps.length := by rw [← hch.1]; omega
    have hcr0 : Rd LI w cA cC (ch.map Int.ofNat) := sub_of_only.rd hcr
    refine ⟨fun one oneN oneC k w1 => ∃ t : Nat, k = t ∧ t ≤ ps.length ∧ Below w.heap.size w w1 ∧ Own LH w1 w.heap.size 75 (.slice one oneN oneC) ((chP.take t).map (·.node)), fun _ _ _ k _ => ps.length - k.toNat, ⟨0, rfl, by omega, Below.refl _ _, Own.nil _ _ _ _⟩, ?_⟩
    rintro one oneN oneC k w1 ⟨t, rfl, ht, hb1, ho1⟩
    unfold F24_l5
    have B1 := btr hb hb.size hb1
    have hs1 := hb1.size
    refine brd (fun hlt => ?_) (fun hge => ?_)
    · have ht2 : t < ps.length := by omega
      have hd : Below w1.heap.size w1 w1.drew := (Below.refl _ _).drew
      refine ⟨fun w' => Below w1.heap.size w1 w', hd, ?_⟩
      obtain ⟨z, z0, z1, z2⟩ := hlist t ht2 B1
      refine (hlr.keep B1).svH (fun _ h => h) hln rfl (k := t) z fun b o c0 => ⟨_, _, _, c0, ?_⟩
      have htc : t < (ch.map Int.ofNat).length := by rw [List.length_map]; omega
      refine (hcr0.keep hb1).intH (fun _ h => h) (by rw [List.length_map]; omega) rfl (k := t) htc fun b o c0 => ?_
      have hc := hch.2 t (by omega) (by omega)
      obtain ⟨hci, hcx⟩ := List.getElem?_eq_some_iff.1 hc
      refine ⟨_, c0, ?_⟩
      rw [List.getElem_map]
      refine z2.plH (fun _ h => h) z1 (i := Int.ofNat ch[t]) rfl (k := ch[t]) hci fun b o d0 d1 d2 d3 => ⟨_, d0, ?_⟩
      rw [hcx]
      refine ap1 (L := LH) (x := chP[t].node) (.int .u64 0) 8 rfl rfl rfl rfl (ho1.keep hd) (Nat.le_trans hs1 hd.size) (by simp; omega) (by simp [maxLen]; omega) fun A' c' w3 ho3 hg => ⟨_, _, _, rfl, inR_i64 (by omega) (by omega), ⟨t + 1, by simp, by omega, (hb1.trans (hd.mono hs1)).trans hg.below, ?_⟩, (by first | omega | (dsimp only; omega))⟩
      rw [List.take_succ_eq_append_getElem (by omega), List.map_append]; exact ho3
    · have ht2 : t = ps.length := by omega
      rw [List.take_of_length_le (by omega)] at ho1
      have o1 := ho.keep hb1 (Nat.le_refl _)
      simp only [allF, List.map_cons, List.map_nil] at hR
      refine oms_push (m := (one, oneN, oneC)) o1 (by omega) hs1 ho1 hlw (by simp; omega) (by omega) fun A' c' w3 o3 hb3 hf3 hr3 => ⟨_, _, _, rfl, ?_⟩
      refine hR (A', out.length + 1, c') (vs ++ [(one, oneN, oneC)]) w3 ?_ ((Fm.below hb1).trans hf3) fun b hb => ?_
      · rw [List.take_of_length_le (by simp; omega)]; exact o3
      · rcases hr3 b hb with h1 | h1
        · exact .inl h1
        · exact .inr (by omega)
  | succ mm ih =>
    intro p ch chP out v cv vs w R hpm hb hlw ho hcl hch hcn hcr hz hR
    have hpl : p < ps.length := by omega
    have hcp : chP.length = p := by rw [← hch.1]; exact hcl
    have hvp := hv _ (List.getElem_mem (by omega : p < ls.length))
    rw [← lsN_get (by omega)] at hvp
    obtain ⟨cA, cN, cC⟩ := cv
    have hcn' : p = cN := hcn.symm
    subst hcn'
    replace hcr : Rd LI (hid 0 (rowOf (slv v)) w) cA cC (ch.map Int.ofNat) := hcr
    refine ok24 nA ps.length nC lv.1 lv.2.1 lv.2.2 cA p cC v.1 v.2.1 v.2.2 ?_
    unfold F24
    rw [show (((p : Nat) : Int) == ((ps.length : Nat) : Int)) = false by simp; omega, Br_f]
    have hup := hu p hpl
    let q : Pl → Bool := fitsAt ps chP p
    let Y : Pl → List (List Int) := fun x => (allF ps ls mm (chP ++ [x])).map hanF
    let G : Nat → List (List Int) := fun k => out ++ (((lsN ls p).take k).filter q).flatMap Y
    have Gs : ∀ k (hk : k < (lsN ls p).length), G (k + 1) = G k ++ if q (lsN ls p)[k] then Y (lsN ls p)[k] else [] := by
      intro k hk
      show out ++ _ = (out ++ _) ++ _
      rw [List.take_succ_eq_append_getElem hk, List.filter_append, List.flatMap_append, List.append_assoc, List.filter_cons]
      congr 2
      split <;> simp
    have Gend : G (lsN ls p).length = out ++ (allF ps ls (mm + 1) chP).map hanF := by
      show out ++ _ = _
      rw [List.take_length, allF, hcp, List.map_flatMap]
    have Gfull : ∀ k, k ≤ (lsN ls p).length → 2001 ≤ (G k).length → (G (lsN ls p).length).take 2001 = (G k).take 2001 := by
      intro k hk h2
      have aux : ∀ a b c : List (List Int), a = b ++ c → 2001 ≤ b.length → a.take 2001 = b.take 2001 := fun a b c h h2 => by rw [h, take_full h2]
      refine aux _ _ ((((lsN ls p).drop k).filter q).flatMap Y) ?_ h2
      show out ++ _ = (out ++ _) ++ _
      rw [List.take_length, List.append_assoc, ← List.flatMap_append, ← List.filter_append, List.take_append_drop]
    rw [← Gend] at hR
    have G0 : G 0 = out := by show out ++ _ = out; simp
    have hqdef : ∀ x, q x = fitsAt ps chP p x := fun _ => rfl
    have hY : ∀ x, Y x = (allF ps ls mm (chP ++ [x])).map hanF := fun _ => rfl
    clear_value q Y G
    refine ⟨fun oA oN oC w1 => ∃ us, OMs w1 lo w1.heap.size ((G (lsN ls p).length).take 2001) (oA, oN, oC) us ∧ Fm (fun b => rowOf (slv v) = some b) w w1 ∧ (∀ b, rowOf (.slice oA oN oC) = some b → rowOf (slv v) = some b ∨ w.heap.size ≤ b), ?_, ?_⟩
    · rintro oA oN oC w1 ⟨us, q1, q2, q3⟩
      unfold F24_j17
      exact hR (oA, oN, oC) us w1 q1 q2 q3
    refine ⟨fun oA oN oC k w1 => ∃ (t : Nat) (us : List Sv), k = t ∧ t ≤ (lsN ls p).length ∧ OMs w1 lo w1.heap.size ((G t).take 2001) (oA, oN, oC) us ∧ Fm (fun b => rowOf (slv v) = some b) w w1 ∧ (∀ b, rowOf (.slice oA oN oC) = some b → rowOf (slv v) = some b ∨ w.heap.size ≤ b), fun _ _ _ k _ => (lsN ls p).length - k.toNat,
      ⟨0, vs, rfl, by omega, by rw [G0, List.take_of_length_le (by omega)]; exact ho, Fm.refl _ _, fun b hb => .inl hb⟩, ?_⟩
    rintro oA oN oC k w1 ⟨t, us, rfl, ht, ho1, hF1, hr1⟩
    unfold F24_l10
    have hrow : ∀ b, rowOf (slv v) = some b → lo ≤ b := fun b hb => (ho.own.lt b hb).1
    have B1 : Below wL.heap.size wL w1 := hb.trans (hF1.toBelow hb.size fun b hb2 hm => by have := hrow b hm; omega)
    have hs1 := hF1.size
    have hcr1 := (sub_hid (v := .slice oA oN oC) hF1 hr1).rd hcr
    have hcr10 : Rd LI w1 cA cC (ch.map Int.ofNat) := sub_of_only.rd hcr1
    obtain ⟨zz, z0, z1, z2⟩ := hlist p hpl B1
    have hoN : oN = ((G t).take 2001).length := by rw [← ho1.len]; exact ho1.own.rd.1
    rw [List.length_take] at hoN
    refine ⟨fun w' => w1 = w' ∧ t < (lsN ls p).length ∧ (G t).length ≤ 2000, ?_, ?_⟩
    · rintro _ ⟨rfl, ht2, hgt⟩
      unfold F24_j12
      rw [List.take_of_length_le (by omega)] at ho1
      have hGt := Gs t ht2
      have hx := canB_l (hvp.1 _ (List.getElem_mem ht2))
      refine ⟨fun oA oN oC w' => ∃ us, OMs w' lo w'.heap.size ((G (t + 1)).take 2001) (oA, oN, oC) us ∧ Fm (fun b => rowOf (slv v) = some b) w w' ∧ (∀ b, rowOf (.slice oA oN oC) = some b → rowOf (slv v) = some b ∨ w.heap.size ≤ b), ?_, ?_⟩
      · rintro oA oN oC w' ⟨us, q1, q2, q3⟩
        unfold F24_j11
        exact ⟨inR_i64 (by omega) (by omega), ⟨t + 1, us, by simp, by omega, q1, q2, q3⟩, (by first | omega | (dsimp only; omega))⟩
      have skip : ∀ w', Below w1.heap.size w1 w' → q (lsN ls p)[t] = false → ∃ us, OMs w' lo w'.heap.size ((G (t + 1)).take 2001) (oA, oN, oC) us ∧ Fm (fun b => rowOf (slv v) = some b) w w' ∧ (∀ b, rowOf (.slice oA oN oC) = some b → rowOf (slv v) = some b ∨ w.heap.size ≤ b) := fun w' hb' hq => by
        rw [hq] at hGt
        simp only [Bool.false_eq_true, if_false, List.append_nil] at hGt
        rw [hGt, List.take_of_length_le (by omega)]; exact ⟨us, ho1.keep hb' hb'.size, hF1.tr hb', hr1⟩
      refine ⟨fun w' => Below w1.heap.size w1 w' ∧ q (lsN ls p)[t] = true, ?_, ?_⟩
      · rintro w2 ⟨hb2, hq⟩
        unfold F24_j16
        rw [hq, if_pos rfl] at hGt
        have hs2 := hb2.size
        have ho2 := ho1.keep hb2 hs2
        refine al fun g3 w3 hb3 b3 hge3 => ?_
        have hs3 := hb3.size
        have hcr2 := hcr10.keep (btr hb2 hs2 hb3)
        have hmx : ch.length ≤ 16 := by omega
        refine ap (L := LI) (xs := []) (ys := ch.map Int.ofNat) (base := w2.heap.size) (.int .i64 0) 8 (by rw [List.length_map]; omega) rfl rfl rfl (Own.bare _ _ _ _ _) hcr2 (by omega) (by simp; omega) (by simp [maxLen]; omega) fun A4 c4 w4 o4 gr4 => ⟨_, _, _, rfl, ?_⟩
        refine ap1 (L := LI) (x := (t : Int)) (.int .i64 0) 8 rfl rfl rfl rfl o4 (by have := gr4.lt; omega) (by simp; omega) (by simp [maxLen]; omega) fun A5 c5 w5 o5 gr5 => ⟨_, _, _, rfl, ?_⟩
        have B5 : Below w2.heap.size w2 w5 := (hb3.trans gr4.below).trans gr5.below
        have D5 := btr hb2 hs2 B5
        have ho5 := ho1.keep D5 D5.size
        have hs5 := D5.size
        simp only [List.nil_append, List.length_nil, List.length_map, Nat.zero_add] at o5
        have e5 : ch.map Int.ofNat ++ [(t : Int)] = (ch ++ [t]).map Int.ofNat := by simp
        rw [e5] at o5
        have hch2 := hch.snoc (k := t) (by rw [hcl]; exact ht2)
        simp only [hcl] at hch2
        have o5h := (own_hid (v := .slice oA oN oC) o5 fun b hb hb2 => by
          have h1 := (o5.lt b hb).1
          have h2 := (ho1.own.lt b hb2).2
          omega).rd
        refine ih (p := p + 1) (v := (oA, oN, oC)) (cv := (A5, _, c5)) (by omega) (B1.trans (D5.mono B1.size)) (by omega) ho5 (by simp [hcl]) hch2 (by simp [hcl]) (by simpa using o5h.2) hgt fun v' vs' w6 o6 hF6 hr6 => ⟨_, _, _, rfl, ?_⟩
        rw [hGt, hY]
        refine ⟨vs', o6, (hF1.tr D5).trans2 hF6 fun b hb hm => ?_, fun b hb => ?_⟩
        · rcases hr1 b hm with h1 | h1
          · exact h1
          · omega
        · rcases hr6 b hb with h1 | h1
          · exact hr1 b h1
          · exact .inr (by omega)
      · refine brd (fun hi => ?_) (fun hi => ⟨Below.refl _ _, ?_⟩)
        · have hd1 : Below w1.heap.size w1 w1.drew := (Below.refl _ _).drew
          obtain ⟨u, hu2⟩ : ∃ u : Nat, upN ps p = u := ⟨(upN ps p).toNat, by omega⟩
          have hup2 : u < p := by omega
          have hpn : p < (ps.map ndOf).length := by rw [List.length_map]; exact hpl
          have hupn : (ps.map ndOf)[p].up = (u : Int) := by rw [List.getElem_map, ← hu2, upN_get hpl]; rfl
          have hdn : (ps.map ndOf)[p].d = dN ps p := by rw [List.getElem_map, dN_get hpl]; rfl
          have hnr1 := hnr.keep B1
          refine ⟨fun w' => Below w1.heap.size w1 w', hd1, ?_⟩
          refine hnr1.ndH (fun _ h => h) (n := ps.length) (by rw [List.length_map]) rfl (k := p) hpn fun b o n0 n1 n2 => ⟨_, n0, ?_⟩
          rw [hupn]
          obtain ⟨yy, y0, y1, y2⟩ := hlist u (by omega) B1
          refine (hlr.keep B1).svH (fun _ h => h) hln rfl (k := u) yy fun b o c0 => ⟨_, _, _, c0, ?_⟩
          refine hnr1.ndH (fun _ h => h) (n := ps.length) (by rw [List.length_map]) rfl (k := p) hpn fun b o n0 n1 n2 => ⟨_, n0, ?_⟩
          rw [hupn]
          have huc : u < (ch.map Int.ofNat).length := by rw [List.length_map]; omega
          refine hcr10.intH (fun _ h => h) (n := p) (by rw [List.length_map]; omega) rfl (k := u) huc fun b o c0 => ?_
          have hc := hch.2 u (by omega) (by omega)
          obtain ⟨hci, hcx⟩ := List.getElem?_eq_some_iff.1 hc
          refine ⟨_, c0, ?_⟩
          rw [List.getElem_map]
          refine y2.plH (fun _ h => h) y1 (i := Int.ofNat ch[u]) rfl (k := ch[u]) hci fun b o d0 d1 d2 d3 => ?_
          rw [hcx] at d0 d1 d2 d3
          simp only [Addr.add_mk, Nat.add_assoc, Nat.reduceAdd]
          refine ⟨_, d1, _, d2, _, d3, ?_⟩
          refine al fun gu w2 hb2 bu hge2 => ⟨hd1.trans hb2, ?_⟩
          have D2 := hd1.trans hb2
          have hl2 := bu.lt
          refine st_blk bu (by simp) fun w3 b3 hf3 => ?_
          simp only [Addr.add_mk, Nat.zero_add]
          refine st_blk b3 (by simp) fun w4 b4 hf4 => st_blk b4 (by simp) fun w5 b5 hf5 => ?_
          simp only [List.setIfInBounds_toArray, List.set_cons_zero, List.set_cons_succ] at b5
          have hds := hd1.size
          have D5 : Below w1.heap.size w1 w5 := D2.trans (((hf3.trans hf4).trans hf5).toBelow D2.size fun b hb hm => by omega)
          have B5 := btr B1 B1.size D5
          refine (hlr.keep B5).sv hln rfl (k := p) zz fun b o c0 => ?_
          simp only [c0, Addr.add_mk, List.getElem?_toArray, List.getElem?_cons_zero, List.getElem?_cons_succ, LdI_some, LdB_some, LdStr_some, LdP_some, LdSl_some, LdM_some, Nat.zero_add, Br_t, Br_f]
          refine (z2.keep D5).pl z1 rfl (k := t) ht2 fun b o d0 d1 d2 d3 => ?_
          simp only [Addr.add_mk, Nat.add_assoc, Nat.reduceAdd, d1, d2, d3, Addr.add_mk, List.getElem?_toArray, List.getElem?_cons_zero, List.getElem?_cons_succ, LdI_some, LdB_some, LdStr_some, LdP_some, LdSl_some, LdM_some, Nat.zero_add, Br_t, Br_f]
          refine al3 fun gx w6 hb6 b6 hge6 => ?_
          have D6 := btr D5 D5.size hb6
          have B6 := btr B1 B1.size D6
          have bu6 := b5.keep hb6
          refine (hnr.keep B6).nd (n := ps.length) (by rw [List.length_map]) rfl (k := p) hpn fun b o n0 n1 n2 => ?_
          simp only [Addr.add_mk, n1, Addr.add_mk, List.getElem?_toArray, List.getElem?_cons_zero, List.getElem?_cons_succ, LdI_some, LdB_some, LdStr_some, LdP_some, LdSl_some, LdM_some, Nat.zero_add, Br_t, Br_f]
          rw [hdn]
          have hacan : canB chP[u].s = true := by
            have h6 := List.getElem_mem hci
            rw [hcx] at h6
            have h7 := (hv _ (List.getElem_mem (by omega : u < ls.length))).1
            rw [← lsN_get (by omega)] at h7
            exact h7 _ h6
          have ha := canB_l hacan
          have hfa : q (lsN ls p)[t] = fitB (dN ps p) chP[u].s (lsN ls p)[t].s := by
            rw [hqdef]
            unfold fitsAt
            rw [if_neg (by omega), hu2]
            simp only [Int.toNat_natCast]
            rw [List.getElem?_eq_getElem (by omega)]
          unfold fitB at hfa
          simp only [Nat.zero_add, bu6.cell, b6.cell, List.getElem?_toArray, List.getElem?_cons_zero, List.getElem?_cons_succ, Addr.add_mk, List.getElem?_toArray, List.getElem?_cons_zero, List.getElem?_cons_succ, LdI_some, LdB_some, LdStr_some, LdP_some, LdSl_some, LdM_some, Nat.zero_add, Br_t, Br_f]
          refine br (fun hdd => ?_) (fun hdd => ?_)
          · rw [if_pos hdd] at hfa
            refine child_calls (lsN ls p)[t].s chP[u].s (by omega) (by omega) fun w7 hb7 => ⟨_, rfl, ?_⟩
            have D7 := btr D6 D6.size hb7
            have bu7 := bu6.keep hb7
            have b67 := b6.keep hb7
            rw [← hfa, brnot]
            refine br (fun hq => ?_) (fun hq => skip w7 D7 hq)
            have hanc : ancB chP[u].s (lsN ls p)[t].s = true := by
              rw [hq] at hfa
              have := hfa.symm
              unfold parB at this
              simp at this
              exact this.1
            simp only [bu7.cell, b67.cell, List.getElem?_toArray, List.getElem?_cons_zero, List.getElem?_cons_succ, Addr.add_mk, List.getElem?_toArray, List.getElem?_cons_zero, List.getElem?_cons_succ, LdI_some, LdB_some, LdStr_some, LdP_some, LdSl_some, LdM_some, Nat.zero_add, Br_t, Br_f]
            refine desc_calls (lsN ls p)[t].s chP[u].s fun w8 hb8 => ⟨_, rfl, ?_⟩
            rw [hanc]
            exact ⟨btr D7 D7.size hb8, hq⟩
          · rw [if_neg (by rw [hdd]; decide)] at hfa
            refine desc_calls (lsN ls p)[t].s chP[u].s fun w8 hb8 => ⟨_, rfl, ?_⟩
            have D8 := btr D6 D6.size hb8
            rw [← hfa, brnot]
            exact br (fun hq => ⟨D8, hq⟩) (fun hq => skip w8 D8 hq)
        · rw [hqdef]
          unfold fitsAt
          rw [if_pos (by have := hup.2.2.2 (by omega); omega)]
    · refine (hlr.keep B1).sv hln rfl (k := p) zz fun b o c0 => ?_
      simp only [c0, Addr.add_mk, List.getElem?_toArray, List.getElem?_cons_zero, List.getElem?_cons_succ, LdI_some, LdB_some, LdStr_some, LdP_some, LdSl_some, LdM_some, Nat.zero_add, Br_t, Br_f]
      rw [z1]
      have stop : (2001 ≤ (G t).length ∨ t = (lsN ls p).length) → ∃ us, OMs w1 lo w1.heap.size ((G (lsN ls p).length).take 2001) (oA, oN, oC) us ∧ Fm (fun b => rowOf (slv v) = some b) w w1 ∧ (∀ b, rowOf (.slice oA oN oC) = some b → rowOf (slv v) = some b ∨ w.heap.size ≤ b) := by
        rintro (hh | rfl)
        · rw [Gfull t ht hh]; exact ⟨us, ho1, hF1, hr1⟩
        · exact ⟨us, ho1, hF1, hr1⟩
      refine brd (fun hlt => brd (fun hle => ⟨by trivial, by omega, by omega⟩) (fun hgt => stop (.inl (by omega)))) (fun hge => stop (.inr (by omega)))
end Go.Proofs.Ytbocfedmdjkccaa
/- Twigs: what must come, whatever else is asked. -/
namespace Go.Proofs.Ytbocfedmdjkccaa
open Go.RowKit Go.Vc
set_option linter.unusedVariables false
set_option linter.unusedSimpArgs false
set_option maxRecDepth 100000
def L3 : List Pl := [⟨1, ⟨1, 6, 0⟩⟩, ⟨2, ⟨2, 5, 1⟩⟩, ⟨3, ⟨3, 4, 2⟩⟩]
def tL : Tw := .mk (ByteArray.mk #[]) false [.mk (ByteArray.mk #[]) false []]
theorem lives_cross : crossF [] (mergeAll [L3, L3]) = false := by
  have e : mergeAll [L3, L3] = [⟨1, 6, 0⟩, ⟨1, 6, 0⟩, ⟨2, 5, 1⟩, ⟨2, 5, 1⟩, ⟨3, 4, 2⟩, ⟨3, 4, 2⟩] := by simp [mergeAll, mergeS, L3]
  rw [e]; decide
theorem lives_can : canF tL [L3, L3] = 0 := by
  have h1 : checkF tL = 0 := by decide +kernel
  have h2 : listsF [L3, L3] = 0 := by decide +kernel
  unfold canF
  rw [if_pos h1, if_pos (by decide +kernel), if_pos h2, lives_cross]; rfl
theorem lives_roots : rootsN (ptOf tL) [L3, L3] = 3 := by decide +kernel
theorem lives_used : (usedH (ptOf tL) [L3, L3] 0).length = 2 ∧ (usedH (ptOf tL) [L3, L3] 1).length = 2 := by decide +kernel
theorem lives_calls {w : World} {R : Ending → World → Prop} (h : ∀ w', Below w.heap.size w w' → R (.returned (.bool true)) w') : Calls Try.prog 20 #[] w R := by
  have hfE : findE tL [L3, L3] 9 = 0 := by
    unfold findE
    rw [if_pos lives_can, if_neg (by decide), all_count, lives_roots]; decide
  have hfL : (findL tL [L3, L3] 9).length = 3 := by
    unfold findL
    rw [hfE, if_pos rfl, List.length_map, all_count, lives_roots]
  have hcE : countE tL [L3, L3] = 0 := by
    unfold countE
    rw [if_pos lives_can, lives_roots, if_neg (by decide)]
  have hcN : countN tL [L3, L3] = 3 := by
    unfold countN
    rw [hcE, if_pos rfl, lives_roots]; rfl
  have hsz : tL.sz = 2 := by decide +kernel
  have huH : usedHs tL [L3, L3] = [usedH (ptOf tL) [L3, L3] 0, usedH (ptOf tL) [L3, L3] 1] := by
    unfold usedHs
    rw [if_pos lives_can, hsz]; rfl
  refine ok20 ?_
  unfold F20
  refine al fun g15 w1 hb1 b15 hge1 => al fun g17 w2 hb2 b17 hge2 => al3 fun gt w3 hb3 bt hge3 => ?_
  have B3 := btr (btr hb1 hb1.size hb2) (Nat.le_trans hb1.size hb2.size) hb3
  have hr15 : Rd LPl w3 (some ⟨g15, 0, none⟩) 3 L3 := by
    have := ((Own.lit' (L := LPl) (xs := L3) (w := w1) (base := g15) b15 (Nat.le_refl _) rfl (by simp [maxLen, L3])).keep hb2).keep hb3
    exact this.rd.2
  have hr17 : Rd LE3 w3 (some ⟨g17, 0, none⟩) 1 [⟨ByteArray.mk #[], false, (none, 0, 0)⟩] := by
    have := (Own.lit' (L := LE3) (xs := [⟨ByteArray.mk #[], false, (none, 0, 0)⟩]) (w := w2) (base := g17) b17 (Nat.le_refl _) rfl (by simp [maxLen])).keep hb3
    exact this.rd.2
  have hT : RTw w3 tL ⟨ByteArray.mk #[], false, (some ⟨g17, 0, none⟩, 1, 1)⟩ := by
    simp only [tL, RTw, RTl]
    exact ⟨by trivial, by trivial, by simp, [_], rfl, hr17, _, _, rfl, ⟨by trivial, by trivial, by simp, [], rfl, Rd.nil _ _, rfl⟩, rfl⟩
  simp only [Addr.add_mk, Nat.zero_add, bt.cell, List.getElem?_toArray, List.getElem?_cons_zero, List.getElem?_cons_succ, Addr.add_mk, List.getElem?_toArray, List.getElem?_cons_zero, List.getElem?_cons_succ, LdI_some, LdB_some, LdStr_some, LdP_some, LdSl_some, LdM_some, Nat.zero_add, Br_t, Br_f]
  have lists : ∀ {w' : World} {g : Nat}, Below w3.heap.size w3 w' → Blk w' g #[.slice (some ⟨g15, 0, none⟩) 3 3, .slice (some ⟨g15, 0, none⟩) 3 3] 51 → RLs w' [L3, L3] (some ⟨g, 0, none⟩, 2, 2) := by
    intro w' g hb hg
    refine ⟨by simp, [(some ⟨g15, 0, none⟩, 3, 3), (some ⟨g15, 0, none⟩, 3, 3)], rfl, ?_, ?_⟩
    · exact (Own.lit' (L := LSv) (xs := [(some ⟨g15, 0, none⟩, 3, 3), (some ⟨g15, 0, none⟩, 3, 3)]) hg (Nat.le_refl g) rfl (by simp [maxLen])).rd.2
    · simp only [RLl]
      exact ⟨_, _, rfl, ⟨by simp [L3], rfl, hr15.keep hb⟩, _, _, rfl, ⟨by simp [L3], rfl, hr15.keep hb⟩, rfl⟩
  refine al fun g23 w4 hb4 b23 hge4 => ?_
  refine FindP_calls tL ⟨ByteArray.mk #[], false, (some ⟨g17, 0, none⟩, 1, 1)⟩ [L3, L3] (some ⟨g23, 0, none⟩, 2, 2) 9 (hT.keep hb4) (lists hb4 b23) fun a aus w5 hb5 oa => ⟨_, _, _, _, rfl, ?_⟩
  have D5 := btr hb4 hb4.size hb5
  have bt5 := bt.keep D5
  simp only [Addr.add_mk, Nat.zero_add, bt5.cell, List.getElem?_toArray, List.getElem?_cons_zero, List.getElem?_cons_succ, Addr.add_mk, List.getElem?_toArray, List.getElem?_cons_zero, List.getElem?_cons_succ, LdI_some, LdB_some, LdStr_some, LdP_some, LdSl_some, LdM_some, Nat.zero_add, Br_t, Br_f]
  refine al fun g31 w6 hb6 b31 hge6 => ?_
  have D6 := btr D5 D5.size hb6
  refine CountP_calls tL ⟨ByteArray.mk #[], false, (some ⟨g17, 0, none⟩, 1, 1)⟩ [L3, L3] (some ⟨g31, 0, none⟩, 2, 2) (hT.keep D6) (lists D6 b31) fun w7 hb7 => ⟨_, _, rfl, ?_⟩
  have D7 := btr D6 D6.size hb7
  have bt7 := bt.keep D7
  simp only [Addr.add_mk, Nat.zero_add, bt7.cell, List.getElem?_toArray, List.getElem?_cons_zero, List.getElem?_cons_succ, Addr.add_mk, List.getElem?_toArray, List.getElem?_cons_zero, List.getElem?_cons_succ, LdI_some, LdB_some, LdStr_some, LdP_some, LdSl_some, LdM_some, Nat.zero_add, Br_t, Br_f]
  refine al fun g39 w8 hb8 b39 hge8 => ?_
  have D8 := btr D7 D7.size hb8
  refine UsedP_calls tL ⟨ByteArray.mk #[], false, (some ⟨g17, 0, none⟩, 1, 1)⟩ [L3, L3] (some ⟨g39, 0, none⟩, 2, 2) (hT.keep D8) (lists D8 b39) fun u w9 hb9 hu => ⟨_, _, _, _, rfl, ?_⟩
  have D9 := btr D8 D8.size hb9
  have ha : a.2.1 = 3 := by rw [oa.own.rd.1, oa.len, hfL]
  rw [hfE, hcE, hcN, lives_can, ha]
  rw [huH] at hu
  obtain ⟨us, u1, u2, u3⟩ := hu
  have ul := u3.len
  simp only [List.length_cons, List.length_nil] at ul
  rw [u1, ul]
  refine bre (fun _ => ?_) (fun hh => absurd rfl hh)
  refine bre (fun _ => ?_) (fun hh => absurd rfl hh)
  refine bre (fun _ => ?_) (fun hh => absurd rfl hh)
  refine bre (fun _ => ?_) (fun hh => absurd rfl hh)
  refine bre (fun _ => ?_) (fun hh => absurd rfl hh)
  refine bre (fun _ => ?_) (fun hh => absurd rfl hh)
  refine u2.sv (n := 2) (by omega) (i := 0) (k := 0) rfl (by omega) fun b o c0 => ?_
  have k0 := (u3.get 0 (by simp) (by omega)).2.1
  have k1 := (u3.get 1 (by simp) (by omega)).2.1
  simp only [List.getElem_cons_zero, List.getElem_cons_succ] at k0 k1
  rw [lives_used.1] at k0
  rw [lives_used.2] at k1
  simp only [c0, Addr.add_mk, List.getElem?_toArray, List.getElem?_cons_zero, List.getElem?_cons_succ, LdI_some, LdB_some, LdStr_some, LdP_some, LdSl_some, LdM_some, Nat.zero_add, Br_t, Br_f]
  rw [k0]
  refine bre (fun _ => ?_) (fun hh => absurd rfl hh)
  refine u2.sv (n := 2) (by omega) (i := 1) (k := 1) rfl (by omega) fun b o c0 => ?_
  simp only [c0, Addr.add_mk, List.getElem?_toArray, List.getElem?_cons_zero, List.getElem?_cons_succ, LdI_some, LdB_some, LdStr_some, LdP_some, LdSl_some, LdM_some, Nat.zero_add, Br_t, Br_f]
  rw [k1]
  exact h w9 (btr B3 B3.size D9)
end Go.Proofs.Ytbocfedmdjkccaa
/- Twigs: the law TwigTurned. -/
namespace Go.Proofs.Ytbocfedmdjkccaa
open Go.RowKit Go.Vc
set_option linter.unusedVariables false
set_option linter.unusedSimpArgs false
set_option maxRecDepth 100000
theorem Apart.symm {v u : Value} (h : Apart v u) : Apart u v := by
  rcases h with h | h
  · cases hu : rowOf u with
    | none => exact .inl hu
    | some g => exact .inr (by rw [hu, h]; simp)
  · exact .inr (Ne.symm h)
theorem RTw.open' {w : World} {t : Tw} {e : E3} (h : RTw w t e) : e.nm = t.nm ∧ e.d = t.d ∧ t.kids.length ≤ 1048576 ∧ ∃ es, e.sl.2.1 = es.length ∧ Rd LE3 w e.sl.1 e.sl.2.2 es ∧ RTl w t.kids es := by
  cases t; simp only [RTw] at h; exact h
theorem RTl.reverse {w : World} : ∀ {ts : List Tw} {es : List E3}, RTl w ts es → RTl w ts.reverse es.reverse
  | [], es, h => by simp only [RTl] at h; subst h; simp only [List.reverse_nil, RTl]
  | t :: ts, es, h => by
    simp only [RTl] at h
    obtain ⟨e, es', rfl, h2, h3⟩ := h
    rw [List.reverse_cons, List.reverse_cons]
    exact RTl.snoc h2 h3.reverse
theorem RTw.turn {w : World} {t : Tw} {s : Sv} {es : List E3} (hl : t.kids.length ≤ 1048576) (hn : s.2.1 = es.length) (hr : Rd LE3 w s.1 s.2.2 es.reverse) (hk : RTl w t.kids es) : RTw w (turnT t) ⟨t.nm, false, s⟩ := by
  cases t with
  | mk nm d ks => simp only [turnT, RTw, Tw.nm]; exact ⟨trivial, trivial, by rw [List.length_reverse]; exact hl, es.reverse, by rw [List.length_reverse]; exact hn, hr, RTl.reverse hk⟩
theorem Tw.sz_kids (t : Tw) : t.sz = 1 + szL t.kids := by cases t; rw [Tw.sz]; rfl
theorem RLl.append {w : World} : ∀ {a b : List (List Pl)} {u v : List Sv}, RLl w a u → RLl w b v → RLl w (a ++ b) (u ++ v)
  | [], b, u, v, h, k => by simp only [RLl] at h; subst h; exact k
  | x :: a, b, u, v, h, k => by
    simp only [RLl] at h
    obtain ⟨y, u', rfl, h2, h3⟩ := h
    simp only [List.cons_append, RLl]
    exact ⟨y, _, rfl, h2, RLl.append h3 k⟩
theorem RLl.take {w : World} : ∀ {a : List (List Pl)} {u : List Sv} (n : Nat), RLl w a u → RLl w (a.take n) (u.take n)
  | a, u, 0, h => by simp [RLl]
  | [], u, n + 1, h => by simp only [RLl] at h; subst h; simp [RLl]
  | x :: a, u, n + 1, h => by
    simp only [RLl] at h
    obtain ⟨y, u', rfl, h2, h3⟩ := h
    simp only [List.take_succ_cons, RLl]
    exact ⟨y, _, rfl, h2, RLl.take n h3⟩
theorem RLl.drop {w : World} : ∀ {a : List (List Pl)} {u : List Sv} (n : Nat), RLl w a u → RLl w (a.drop n) (u.drop n)
  | a, u, 0, h => h
  | [], u, n + 1, h => by simp only [RLl] at h; subst h; simp [RLl]
  | x :: a, u, n + 1, h => by
    simp only [RLl] at h
    obtain ⟨y, u', rfl, h2, h3⟩ := h
    simp only [List.drop_succ_cons]
    exact RLl.drop n h3
/-- Where a branch's lists begin. -/
def atK (ks : List Tw) (q : Nat) : Nat := 1 + szL (ks.take q)
def blkK {α : Type} (ks : List Tw) (l : List α) (q : Nat) : List α := (l.drop (atK ks q)).take (atK ks (q + 1) - atK ks q)
theorem atK_succ {ks : List Tw} {q : Nat} (h : q < ks.length) : atK ks (q + 1) = atK ks q + ks[q].sz := by
  unfold atK; rw [List.take_succ_eq_append_getElem h, szL_snoc]; omega
theorem atK_le (ks : List Tw) (q : Nat) : atK ks q ≤ 1 + szL ks := by unfold atK; have := szL_take ks q; omega
theorem partsL_map (ks : List Tw) {ls : List (List Pl)} (x : List Pl) : (partsL ks ls).map (·.2) = (List.range ks.length).map (blkK ks (x :: ls)) := by
  refine List.ext_getElem (by simp [partsL_len]) fun i h1 h2 => ?_
  have hi : i < ks.length := by simpa using h2
  simp only [List.getElem_map, List.getElem_range]
  rw [partsL_get, blkK, atK_succ hi, Nat.add_sub_cancel_left, atK, Nat.add_comm 1, List.drop_succ_cons]
theorem rev_take {n r : Nat} (h : r < n) : (List.range n).reverse.take (r + 1) = (List.range n).reverse.take r ++ [n - 1 - r] := by
  rw [List.take_succ_eq_append_getElem (by simpa using h)]
  simp
theorem revE_take {es : List E3} {r : Nat} (h : r < es.length) : es.reverse.take (r + 1) = es.reverse.take r ++ [es[es.length - 1 - r]'(by omega)] := by
  rw [List.take_succ_eq_append_getElem (by simpa using h)]
  simp
theorem RLl.flat {w : World} {f : Nat → List (List Pl)} {g : Nat → List Sv} (h : ∀ q, RLl w (f q) (g q)) : ∀ (l : List Nat), RLl w (l.map f).flatten (l.map g).flatten
  | [] => by simp [RLl]
  | q :: l => by rw [List.map_cons, List.map_cons, List.flatten_cons, List.flatten_cons]; exact (h q).append (RLl.flat h l)
theorem turned_lists {w : World} {t : Tw} {l : List (List Pl)} {lvs : List Sv} (hl : RLl w l lvs) (hlen : l.length = t.sz) (h0 : 0 < lvs.length) :
    RLl w (turnL t l) (lvs[0] :: (((List.range t.kids.length).reverse.take t.kids.length).map (blkK t.kids lvs)).flatten) := by
  cases l with
  | nil => have := t.sz_pos; simp at hlen; omega
  | cons x l =>
    have h1 := hl.get 0 (by simp) h0
    rw [turnL, List.map_reverse, List.tail_cons, partsL_map t.kids x, ← List.map_reverse, List.take_of_length_le (by simp)]
    simp only [RLl]
    exact ⟨_, _, rfl, h1, RLl.flat (fun q => (hl.drop _).take _) _⟩
theorem turned_calls (t : Tw) (e : E3) (ls : List (List Pl)) (v : Sv) {w : World} {R : Ending → World → Prop} (ht : RTw w t e) (hl : RLs w ls v)
    (h : ∀ w', Below w.heap.size w w' → R (.returned (.bool true)) w') :
    Calls Try.prog 6 #[.agg #[.string e.nm, .bool e.d, .slice e.sl.1 e.sl.2.1 e.sl.2.2], slv v] w R := by
  refine ok6 e.nm e.d e.sl.1 e.sl.2.1 e.sl.2.2 v.1 v.2.1 v.2.2 ?_
  unfold F6
  refine al fun gt w1 hb1 bt hge1 => ?_
  refine lives_calls fun w2 hb2 => ⟨_, rfl, ?_⟩
  rw [Bool.not_true, Br_f]
  have B2 := btr hb1 hb1.size hb2
  have bt2 := bt.keep hb2
  simp only [Addr.add_mk, Nat.zero_add, bt2.cell, List.getElem?_toArray, List.getElem?_cons_zero, List.getElem?_cons_succ, Addr.add_mk, List.getElem?_toArray, List.getElem?_cons_zero, List.getElem?_cons_succ, LdI_some, LdB_some, LdStr_some, LdP_some, LdSl_some, LdM_some, Nat.zero_add, Br_t, Br_f]
  refine few_calls t e ls v 40 (by decide) (ht.keep B2) (hl.keep B2) fun v1 w7 hb7 hv1 => ⟨_, _, _, rfl, ?_⟩
  generalize fewF t ls 40 = l at *
  have bt7 := bt2.keep hb7
  have B7 := btr B2 B2.size hb7
  have he7 := ht.keep B7
  simp only [Addr.add_mk, Nat.zero_add, bt7.cell, List.getElem?_toArray, List.getElem?_cons_zero, List.getElem?_cons_succ, Addr.add_mk, List.getElem?_toArray, List.getElem?_cons_zero, List.getElem?_cons_succ, LdI_some, LdB_some, LdStr_some, LdP_some, LdSl_some, LdM_some, Nat.zero_add, Br_t, Br_f]
  refine copied_calls t e he7 fun e2 w8 hb8 he2 => ⟨_, _, _, _, _, rfl, ?_⟩
  refine own_calls l v1 (hv1.keep hb8) fun v2 w9 hb9 hv2 => ⟨_, _, _, rfl, ?_⟩
  have D9 := btr hb8 hb8.size hb9
  refine CountP_calls t e2 l v2 ((RTw.sub sub_of_only _ _ he2).keep hb9) (hv2.sub sub_of_only) fun w10 hb10 => ⟨_, _, rfl, ?_⟩
  have D10 := btr D9 D9.size hb10
  have bt10 := bt7.keep D10
  simp only [Addr.add_mk, Nat.zero_add, bt10.cell, List.getElem?_toArray, List.getElem?_cons_zero, List.getElem?_cons_succ, Addr.add_mk, List.getElem?_toArray, List.getElem?_cons_zero, List.getElem?_cons_succ, LdI_some, LdB_some, LdStr_some, LdP_some, LdSl_some, LdM_some, Nat.zero_add, Br_t, Br_f]
  refine copied_calls t e (he7.keep D10) fun e3 w11 hb11 he3 => ⟨_, _, _, _, _, rfl, ?_⟩
  have D11 := btr D10 D10.size hb11
  refine own_calls l v1 (hv1.keep D11) fun v3 w12 hb12 hv3 => ⟨_, _, _, rfl, ?_⟩
  have D12 := btr D11 D11.size hb12
  refine TopsP_calls t e3 l v3 ((RTw.sub sub_of_only _ _ he3).keep hb12) (hv3.sub sub_of_only) fun u w13 hb13 hu => ⟨_, _, _, _, rfl, ?_⟩
  have D13 := btr D12 D12.size hb13
  have B13 := btr B7 B7.size D13
  refine ⟨fun w14 => Below w13.heap.size w13 w14 ∧ countE t l = 0, ?_, ?_⟩
  · rintro w14 ⟨hb14, h0⟩
    have hcan : canF t l = 0 := by
      unfold countE at h0
      by_cases hc : canF t l = 0
      · exact hc
      · rw [if_neg hc] at h0; exact h0
    have hC : rootsN (ptOf t) l < 18446744073709551616 := by
      unfold countE at h0
      rw [if_pos hcan] at h0
      by_cases hb : 18446744073709551616 ≤ rootsN (ptOf t) l
      · rw [if_pos hb] at h0; cases h0
      · omega
    have hN : countN t l = (rootsN (ptOf t) l : Int) := by unfold countN; rw [h0, if_pos rfl]
    obtain ⟨h16, hll, hvd⟩ := canF_vd hcan
    have hcan2 := canF_turn hcan
    have hroots := turn_roots (t := t) hll
    have htops := tops_turn hcan hll
    have hcE2 : countE (turnT t) (turnL t l) = 0 := by unfold countE; rw [if_pos hcan2, hroots, if_neg (by omega)]
    have hcN2 : countN (turnT t) (turnL t l) = (rootsN (ptOf t) l : Int) := by unfold countN; rw [hcE2, if_pos rfl, hroots]
    have B14 := btr B13 B13.size hb14
    have bt14 := (bt7.keep D13).keep hb14
    have D14 := btr D13 D13.size hb14
    have he14 := he7.keep D14
    have hv14 := hv1.keep D14
    have hu14 := hu.keep hb14
    have hs14 := B14.size
    obtain ⟨knm, kd, klen, es, kn, kr, kks⟩ := he14.open'
    have hel := kks.len
    obtain ⟨hlz, lvs, hln, hlr, hls⟩ := hv14
    have hlvs := hls.len
    have hszk := t.sz_kids
    have hlr0 := hlr.1
    unfold F6_j8
    simp only [Addr.add_mk, Nat.zero_add, bt14.cell, List.getElem?_toArray, List.getElem?_cons_zero, List.getElem?_cons_succ, Addr.add_mk, List.getElem?_toArray, List.getElem?_cons_zero, List.getElem?_cons_succ, LdI_some, LdB_some, LdStr_some, LdP_some, LdSl_some, LdM_some, Nat.zero_add, Br_t, Br_f]
    refine al fun gu w15 hb15 bu hge15 => ?_
    refine st_blk bu (by simp) fun w16 bu16 hf16 => st_blk bu16 (by simp) fun w17 bu17 hf17 => st_blk bu17 (by simp) fun w18 bu18 hf18 => ?_
    simp only [List.setIfInBounds_toArray, List.set_cons_zero, List.set_cons_succ] at bu18
    have hgu := bu18.lt
    have B18 : Below w14.heap.size w14 w18 := hb15.trans (((hf16.trans hf17).trans hf18).toBelow hb15.size fun b hb e => by omega)
    have hs18 := B18.size
    refine ⟨fun pA pN pC at_ i w' => ∃ (k : Nat) (pv : List Sv), i = k ∧ k ≤ t.kids.length ∧ at_ = (atK t.kids k : Nat) ∧ Below w18.heap.size w18 w' ∧ pv.length = k ∧ Own LSv w' w18.heap.size 25 (.slice pA pN pC) pv ∧
        ∀ q (hq : q < pv.length), pv[q].2.1 = (blkK t.kids lvs q).length ∧ Rd LSv w14 pv[q].1 pv[q].2.2 (blkK t.kids lvs q), fun _ _ _ _ i _ => t.kids.length - i.toNat,
      ⟨0, [], rfl, by omega, by simp [atK, szL], Below.refl _ _, rfl, Own.nil _ _ _ _, fun q hq => by simp at hq⟩, ?_⟩
    rintro pA pN pC at_ i w19 ⟨k, pv, rfl, hk, rfl, hb19, hpl, hpo, hpv⟩
    unfold F6_l12
    have D19 := btr B18 B18.size hb19
    have bt19 := bt14.keep D19
    have hs19 := hb19.size
    simp only [Addr.add_mk, Nat.zero_add, bt19.cell, List.getElem?_toArray, List.getElem?_cons_zero, List.getElem?_cons_succ, Addr.add_mk, List.getElem?_toArray, List.getElem?_cons_zero, List.getElem?_cons_succ, LdI_some, LdB_some, LdStr_some, LdP_some, LdSl_some, LdM_some, Nat.zero_add, Br_t, Br_f]
    refine brd (fun hlt => ?_) (fun hge => ?_)
    · have hk2 : k < t.kids.length := by omega
      refine (kr.keep D19).e3 kn rfl (k := k) (by omega) fun b o c0 c1 c2 => ?_
      simp only [Addr.add_mk, c0, c1, c2, Addr.add_mk, List.getElem?_toArray, List.getElem?_cons_zero, List.getElem?_cons_succ, LdI_some, LdB_some, LdStr_some, LdP_some, LdSl_some, LdM_some, Nat.zero_add, Br_t, Br_f]
      refine size_calls t.kids[k] es[k] ((kks.keep D19).get k hk2 (by omega)) fun w20 hb20 => ⟨_, rfl, ?_⟩
      have hat := atK_succ hk2
      have hale := atK_le t.kids (k + 1)
      have hcap : cap17 t.kids[k].sz = t.kids[k].sz := by unfold cap17; rw [if_neg (by omega)]
      rw [hcap]
      have e1 : (((atK t.kids k : Nat) : Int)).toNat = atK t.kids k := by omega
      have e2 : (((atK t.kids k : Nat) : Int) + ((t.kids[k].sz : Nat) : Int)).toNat - atK t.kids k = t.kids[k].sz := by omega
      rw [e1, e2]
      refine ⟨inR_i64 (by omega) (by omega), by omega, by omega, by omega, ?_⟩
      refine ap1 (L := LSv) (x := (SlA v1.1 v1.2.2 (atK t.kids k) 1, t.kids[k].sz, v1.2.2 - atK t.kids k)) (.slice none 0 0) 24 rfl rfl rfl rfl (hpo.keep hb20) (by have := hb20.size; omega) (by omega) (by simp [maxLen]; omega) fun A' c' w21 o21 g21 => ⟨_, _, _, rfl, ?_⟩
      refine ⟨inR_i64 (by omega) (by omega), inR_i64 (by omega) (by omega), ⟨k + 1, pv ++ [(SlA v1.1 v1.2.2 (atK t.kids k) 1, t.kids[k].sz, v1.2.2 - atK t.kids k)], by simp, by omega, by omega, (btr hb19 hb19.size hb20).trans g21.below, by simp [hpl], o21, fun q hq => ?_⟩, (by first | omega | (dsimp only; omega))⟩
      rcases Nat.lt_or_ge q pv.length with h3 | h3
      · rw [List.getElem_append_left h3]; exact hpv q h3
      · have : q = k := by simp at hq; omega
        subst this
        rw [List.getElem_append_right h3]
        have hb : blkK t.kids lvs q = (lvs.drop (atK t.kids q)).take t.kids[q].sz := by rw [blkK, hat, Nat.add_sub_cancel_left]
        simp only [hpl, Nat.sub_self, List.getElem_cons_zero]
        rw [hb]
        exact ⟨by rw [List.length_take, List.length_drop]; omega, (Rd.slice hlr (by omega)).take _⟩
    · have hk2 : k = t.kids.length := by omega
      subst hk2
      refine (hlr.keep D19).sv hln rfl (k := 0) (by omega) fun b o c0 => ?_
      simp only [c0, Addr.add_mk, List.getElem?_toArray, List.getElem?_cons_zero, List.getElem?_cons_succ, LdI_some, LdB_some, LdStr_some, LdP_some, LdSl_some, LdM_some, Nat.zero_add, Br_t, Br_f]
      refine al fun g0 w20 hb20 b0 hge20 => ?_
      have bt20 := bt19.keep hb20
      simp only [Addr.add_mk, Nat.zero_add, bt20.cell, List.getElem?_toArray, List.getElem?_cons_zero, List.getElem?_cons_succ, Addr.add_mk, List.getElem?_toArray, List.getElem?_cons_zero, List.getElem?_cons_succ, LdI_some, LdB_some, LdStr_some, LdP_some, LdSl_some, LdM_some, Nat.zero_add, Br_t, Br_f]
      refine ⟨inR_i64 (by omega) (by omega), ?_⟩
      have hbu20 := (bu18.keep hb19).keep hb20
      refine ⟨fun oA oN oC i2 w' => ∃ (r : Nat) (kA : Option Addr) (kN kC : Nat), i2 = (t.kids.length : Int) - 1 - r ∧ r ≤ t.kids.length ∧ Below w14.heap.size w14 w' ∧ w18.heap.size ≤ w'.heap.size ∧ Blk w' gu #[.string e.nm, .bool false, .slice kA kN kC] 24 ∧
          Own LE3 w' w18.heap.size 24 (.slice kA kN kC) (es.reverse.take r) ∧ Own LSv w' w18.heap.size 51 (.slice oA oN oC) (lvs[0]'(by omega) :: (((List.range t.kids.length).reverse.take r).map (blkK t.kids lvs)).flatten) ∧
          Own LSv w' w18.heap.size 25 (.slice pA pN pC) pv ∧ Apart (.slice oA oN oC) (.slice kA kN kC) ∧ Apart (.slice pA pN pC) (.slice kA kN kC) ∧ Apart (.slice pA pN pC) (.slice oA oN oC), fun _ _ _ i2 _ => (i2 + 1).toNat, ?_, ?_⟩
      · refine ⟨0, none, 0, 0, by omega, by omega, btr D19 D19.size hb20, by have := hb20.size; omega, hbu20, Own.nil _ _ _ _, ?_, hpo.keep hb20, Apart.symm (.inl rfl), Apart.symm (.inl rfl), ?_⟩
        · exact Own.lit' (L := LSv) (xs := [lvs[0]'(by omega)]) b0 (by omega) rfl (by simp [maxLen])
        · exact hpo.apart_new (.inr ⟨g0, rfl, hge20⟩)
      · rintro oA oN oC i2 w21 ⟨r, kA, kN, kC, rfl, hr, hb21, hs21, bu21, ko, oo, po, a1, a2, a3⟩
        unfold F6_l19
        have bt21 := bt14.keep hb21
        refine brd (fun hlt => ?_) (fun hge => ?_)
        · have hr2 : r < t.kids.length := by omega
          have hi : (t.kids.length : Int) - 1 - r = ((t.kids.length - 1 - r : Nat) : Int) := by omega
          have hp : t.kids.length - 1 - r < es.length := by omega
          have hd : Below w21.heap.size w21 w21.drew := (Below.refl _ _).drew
          refine ⟨fun w2 => Below w21.heap.size w21 w2, hd, ?_⟩
          refine ⟨_, _, _, fun w2 h2 => by rw [Addr.add_mk, (bu21.keep h2).cell]; rfl, ?_⟩
          refine ⟨_, _, _, fun w2 h2 => by rw [Addr.add_mk, (bt21.keep h2).cell]; rfl, ?_⟩
          refine (kr.keep hb21).e3H (fun _ h => h) kn hi hp fun b o c0 c1 c2 => ⟨_, c0, _, c1, _, _, _, c2, ?_⟩
          refine ap1S (L := LE3) (x := es[t.kids.length - 1 - r]) (.agg #[.string ⟨#[]⟩, .bool false, .slice none 0 0]) 48 rfl rfl rfl rfl (ko.keep hd) (by have := hd.size; omega) (by rw [List.length_take]; omega) (by rw [List.length_take]; simp [maxLen]; omega) (fun w2 h2 => hd.trans (h2.mono hd.size)) fun A' c' w22 o22 g22 => ⟨_, _, _, rfl, ?_⟩
          have hlr : (es.reverse.take r).length = r := by rw [List.length_take, List.length_reverse]; omega
          have hlen1 : es.length - 1 - r = t.kids.length - 1 - r := by omega
          have hxs : es.reverse.take r ++ [es[t.kids.length - 1 - r]] = es.reverse.take (r + 1) := by rw [revE_take (show r < es.length by omega)]; simp only [hlen1]
          rw [hxs, hlr] at o22
          rw [hlr] at g22 ⊢
          have hds := hd.size
          have hs22 := g22.lt
          have D22 : Below w14.heap.size w14 w22 := (btr hb21 hb21.size hd).trans (g22.below.mono hs18)
          have bu22 := (bu21.keep hd).below g22.below hgu
          obtain ⟨oo22, a22⟩ := g22.own (oo.keep hd) a1
          obtain ⟨po22, b22⟩ := g22.own (po.keep hd) a2
          refine st_blk bu22 (by simp) fun w23 bu23 hf23 => ?_
          simp only [List.setIfInBounds_toArray, List.set_cons_zero, List.set_cons_succ] at bu23
          have hf23 : Fm (· = gu) w22 w23 := hf23
          have bu23 : Blk w23 gu _ _ := bu23
          have D23 : Below w14.heap.size w14 w23 := D22.trans (hf23.toBelow D22.size fun b hb e => by omega)
          have hs23 := hf23.size
          have o23 := own_fm o22 hf23 fun b hb e => by have := (o22.lt b hb).1; omega
          have oo23 := own_fm oo22 hf23 fun b hb e => by have := (oo22.lt b hb).1; omega
          have po23 := own_fm po22 hf23 fun b hb e => by have := (po22.lt b hb).1; omega
          obtain ⟨hpn, hpr⟩ := po23.rd
          obtain ⟨hq1, hq2⟩ := hpv (t.kids.length - 1 - r) (by omega)
          refine hpr.sv hpn hi (k := t.kids.length - 1 - r) (by omega) fun b o d0 => ?_
          simp only [d0, Addr.add_mk, List.getElem?_toArray, List.getElem?_cons_zero, List.getElem?_cons_succ, LdI_some, LdB_some, LdStr_some, LdP_some, LdSl_some, LdM_some, Nat.zero_add, Br_t, Br_f]
          have hbl : (blkK t.kids lvs (t.kids.length - 1 - r)).length ≤ 16 := by
            unfold blkK; rw [List.length_take, List.length_drop]; omega
          have hfl : (((List.range t.kids.length).reverse.take r).map (blkK t.kids lvs)).flatten.length ≤ r * 16 := by
            have : ∀ (m : List Nat), ((m.map (blkK t.kids lvs)).flatten).length ≤ m.length * 16 := by
              intro m
              induction m with
              | nil => simp
              | cons q m ih =>
                have : (blkK t.kids lvs q).length ≤ 16 := by unfold blkK; rw [List.length_take, List.length_drop]; omega
                rw [List.map_cons, List.flatten_cons, List.length_append, List.length_cons]; omega
            have h5 := this ((List.range t.kids.length).reverse.take r)
            rw [List.length_take, List.length_reverse, List.length_range] at h5
            omega
          have hk16 : t.kids.length ≤ 1048576 := klen
          refine ap (L := LSv) (xs := _) (ys := blkK t.kids lvs (t.kids.length - 1 - r)) (base := w18.heap.size) (.slice none 0 0) 24 hq1 rfl rfl rfl oo23 (hq2.keep D23) (by omega) (by simp only [List.length_cons]; omega) (by have := maxLen_ge; simp only [List.length_cons]; omega) fun A5 c5 w24 o24 g24 => ⟨_, _, _, rfl, ?_⟩
          obtain ⟨ko24, a24⟩ := g24.own o23 a22.symm
          obtain ⟨po24, b24⟩ := g24.own po23 a3
          have hxs2 : (lvs[0]'(by omega) :: (((List.range t.kids.length).reverse.take r).map (blkK t.kids lvs)).flatten) ++ blkK t.kids lvs (t.kids.length - 1 - r) = (lvs[0]'(by omega) :: (((List.range t.kids.length).reverse.take (r + 1)).map (blkK t.kids lvs)).flatten) := by
            rw [rev_take hr2, List.map_append, List.flatten_append]; simp
          rw [hxs2] at o24
          have hs24 := g24.lt
          refine ⟨inR_i64 (by omega) (by omega), ⟨r + 1, _, _, _, by omega, by omega, D23.trans (g24.below.mono hs18), by omega, bu23.below g24.below hgu, ko24, o24, po24, a24.symm, b22, b24⟩, (by first | omega | (dsimp only; omega))⟩
        · have hr2 : r = t.kids.length := by omega
          subst hr2
          rw [List.take_of_length_le (by rw [List.length_reverse]; omega)] at ko
          obtain ⟨kkn, kkr⟩ := ko.rd
          obtain ⟨oon, oor⟩ := oo.rd
          have hT : RTw w21 (turnT t) ⟨t.nm, false, (kA, kN, kC)⟩ := RTw.turn klen (by rw [← List.length_reverse]; exact kkn) kkr (kks.keep hb21)
          have hL : RLs w21 (turnL t l) (oA, oN, oC) := ⟨by rw [turn_len hll]; omega, _, oon, oor, turned_lists (hls.keep hb21) hll (by omega)⟩
          have hknm := knm
          simp only [Addr.add_mk, Nat.zero_add, bu21.cell, List.getElem?_toArray, List.getElem?_cons_zero, List.getElem?_cons_succ, Addr.add_mk, List.getElem?_toArray, List.getElem?_cons_zero, List.getElem?_cons_succ, LdI_some, LdB_some, LdStr_some, LdP_some, LdSl_some, LdM_some, Nat.zero_add, Br_t, Br_f]
          rw [knm]
          refine copied_calls (turnT t) ⟨t.nm, false, (kA, kN, kC)⟩ hT fun e5 w22 hb22 he5 => ⟨_, _, _, _, _, rfl, ?_⟩
          refine own_calls (turnL t l) (oA, oN, oC) (hL.keep hb22) fun v5 w23 hb23 hv5 => ⟨_, _, _, rfl, ?_⟩
          have F23 := btr hb22 hb22.size hb23
          refine CountP_calls (turnT t) e5 _ v5 ((RTw.sub sub_of_only _ _ he5).keep hb23) (hv5.sub sub_of_only) fun w24 hb24 => ⟨_, _, rfl, ?_⟩
          have F24 := btr F23 F23.size hb24
          have bu24 := bu21.keep F24
          simp only [Addr.add_mk, Nat.zero_add, bu24.cell, List.getElem?_toArray, List.getElem?_cons_zero, List.getElem?_cons_succ, Addr.add_mk, List.getElem?_toArray, List.getElem?_cons_zero, List.getElem?_cons_succ, LdI_some, LdB_some, LdStr_some, LdP_some, LdSl_some, LdM_some, Nat.zero_add, Br_t, Br_f]
          rw [knm]
          refine copied_calls (turnT t) ⟨t.nm, false, (kA, kN, kC)⟩ (hT.keep F24) fun e6 w25 hb25 he6 => ⟨_, _, _, _, _, rfl, ?_⟩
          have F25 := btr F24 F24.size hb25
          refine own_calls (turnL t l) (oA, oN, oC) (hL.keep F25) fun v6 w26 hb26 hv6 => ⟨_, _, _, rfl, ?_⟩
          have F26 := btr F25 F25.size hb26
          refine TopsP_calls (turnT t) e6 _ v6 ((RTw.sub sub_of_only _ _ he6).keep hb26) (hv6.sub sub_of_only) fun u2 w27 hb27 hu2 => ⟨_, _, _, _, rfl, ?_⟩
          have F27 := btr F26 F26.size hb27
          rw [hcE2, hcN2, hcan2, hN]
          refine bre (fun _ => ?_) (fun hne => absurd rfl hne)
          refine bre (fun _ => ?_) (fun hne => absurd rfl hne)
          refine bre (fun _ => ?_) (fun hne => absurd rfl hne)
          rw [htops] at hu2
          have G27 := btr hb21 hb21.size F27
          have hs26 := F26.size
          have hs21' := hb21.size
          obtain ⟨hun, hur⟩ := hu14.rd
          have htl : (topsH t l).length ≤ 1048576 := by
            unfold topsH
            rw [if_pos hcan, List.length_map]
            exact Nat.le_trans (List.length_filter_le _ _) (hls.get 0 (by omega) (by omega) |> fun h => by rw [lsN_get (by omega)]; exact h.1)
          refine handles_calls (topsH t l) htl hb27.size hu2 hun (hur.keep G27) fun w28 hf28 => ⟨_, rfl, ?_⟩
          refine h w28 (btr B14 B14.size G27 |>.trans (hf28.toBelow (by have := G27.size; omega) fun b hb e => ?_))
          have := (hu2.lt b e).1
          omega
  · refine brn (fun hne => ?_) (fun he => ?_)
    · have hcase : countN t l = 0 := by unfold countN; rw [if_neg hne]
      rw [hcase]; exact h w13 B13
    · have hcan : canF t l = 0 := by
        unfold countE at he
        by_cases hc : canF t l = 0
        · exact hc
        · rw [if_neg hc] at he; exact he
      refine brn (fun hne => absurd hcan hne) (fun _ => ?_)
      obtain ⟨h16, hll, hvd⟩ := canF_vd hcan
      have bt13 := bt7.keep D13
      simp only [Addr.add_mk, Nat.zero_add, bt13.cell, List.getElem?_toArray, List.getElem?_cons_zero, List.getElem?_cons_succ, Addr.add_mk, List.getElem?_toArray, List.getElem?_cons_zero, List.getElem?_cons_succ, LdI_some, LdB_some, LdStr_some, LdP_some, LdSl_some, LdM_some, Nat.zero_add, Br_t, Br_f]
      refine size_calls t e (he7.keep D13) fun w14 hb14 => ⟨_, rfl, ?_⟩
      have hcap : cap17 t.sz = t.sz := by unfold cap17; rw [if_neg (by omega)]
      obtain ⟨hlz, lvs, hln, hlr, hls⟩ := hv1
      have hlvs := hls.len
      rw [hcap]
      refine brn (fun hne => absurd (by omega) hne) (fun _ => ⟨hb14, he⟩)
end Go.Proofs.Ytbocfedmdjkccaa
/- Twigs: the law TwigTurned, and its arguments. -/
