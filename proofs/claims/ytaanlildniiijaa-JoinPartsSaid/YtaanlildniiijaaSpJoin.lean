/- Joins: what is wrong with lists. -/
import Derived.Test.YtaanlildniiijaaGJoin
import Derived.Test.YtaanlildniiijaaGJoinR
import Derived.Test.YtaanlildniiijaaSpAxis
namespace Go.Proofs.Ytaanlildniiijaa
open Go.RowKit Go.Vc
set_option maxRecDepth 100000
set_option linter.unusedSimpArgs false
structure Pl where
  node : Int
  s : Sp
  deriving DecidableEq, Inhabited
def LPl : Lay Pl := ⟨4, fun p => [.int .u64 p.node, .int .u64 p.s.b, .int .u64 p.s.e, .int .i64 p.s.l], fun _ => rfl, fun _ => by simp [Value.oneCell'], by decide⟩
def LSp : Lay Sp := ⟨3, fun s => [.int .u64 s.b, .int .u64 s.e, .int .i64 s.l], fun _ => rfl, fun _ => by simp [Value.oneCell'], by decide⟩
section
variable {w : World} {A : Option Addr} {c : Nat}
theorem Rd.pl {xs : List Pl} (h : Rd LPl w A c xs) {n : Nat} (hn : n = xs.length) {i : Int} {k : Nat} (hi : i = k) (hk : k < xs.length) {K : Addr → Prop}
    (hK : ∀ b o, w.cell? ⟨b, o, none⟩ = some (.int .u64 xs[k].node) → w.cell? ⟨b, o + 1, none⟩ = some (.int .u64 xs[k].s.b) → w.cell? ⟨b, o + 2, none⟩ = some (.int .u64 xs[k].s.e) → w.cell? ⟨b, o + 3, none⟩ = some (.int .i64 xs[k].s.l) → K ⟨b, o, none⟩) : IdxA A n i 4 K := by
  subst hi
  refine h.idx hn (by omega) (by omega) rfl fun b o hc => ?_
  simp only [Int.toNat_natCast] at hc
  exact hK b o (hc 0 _ rfl) (hc 1 _ rfl) (hc 2 _ rfl) (hc 3 _ rfl)
theorem Rd.sp {xs : List Sp} (h : Rd LSp w A c xs) {n : Nat} (hn : n = xs.length) {i : Int} {k : Nat} (hi : i = k) (hk : k < xs.length) {K : Addr → Prop}
    (hK : ∀ b o, w.cell? ⟨b, o, none⟩ = some (.int .u64 xs[k].b) → w.cell? ⟨b, o + 1, none⟩ = some (.int .u64 xs[k].e) → w.cell? ⟨b, o + 2, none⟩ = some (.int .i64 xs[k].l) → K ⟨b, o, none⟩) : IdxA A n i 3 K := by
  subst hi
  refine h.idx hn (by omega) (by omega) rfl fun b o hc => ?_
  simp only [Int.toNat_natCast] at hc
  exact hK b o (hc 0 _ rfl) (hc 1 _ rfl) (hc 2 _ rfl)
theorem Rd.int {xs : List Int} (h : Rd LI w A c xs) {n : Nat} (hn : n = xs.length) {i : Int} {k : Nat} (hi : i = k) (hk : k < xs.length) {K : Addr → Prop}
    (hK : ∀ b o, w.cell? ⟨b, o, none⟩ = some (.int .i64 xs[k]) → K ⟨b, o, none⟩) : IdxA A n i 1 K := by
  subst hi
  refine h.idx hn (by omega) (by omega) rfl fun b o hc => ?_
  simp only [Int.toNat_natCast] at hc
  exact hK b o (hc 0 _ rfl)
end
/-- What is wrong with a list by itself. -/
def leO : Option Int → Int → Bool
  | some b, x => decide (x ≤ b)
  | none, _ => false
def oneF : Option Int → List Pl → Int
  | _, [] => 0
  | q, p :: r => if canB p.s = false then 110 else if leO q p.s.b then 71 else oneF (some p.s.b) r
def prevB (l : List Pl) (k : Nat) : Option Int := match k with | 0 => none | k + 1 => (l[k]?).map (·.s.b)
theorem oneF_step (l : List Pl) (k : Nat) (hk : k < l.length) : oneF (prevB l k) (l.drop k) = if canB l[k].s = false then 110 else if leO (prevB l k) l[k].s.b then 71 else oneF (prevB l (k + 1)) (l.drop (k + 1)) := by
  have hp : prevB l (k + 1) = some l[k].s.b := by simp [prevB, hk]
  rw [List.drop_eq_getElem_cons hk, oneF, hp]
theorem oneP_calls (l : List Pl) (A : Option Addr) (c : Nat) {w : World} (hl : Rd LPl w A c l) (hz : l.length ≤ 8192) {R : Ending → World → Prop} (h : ∀ w', Below w.heap.size w w' → R (.returned (.int .i64 (oneF none l))) w') :
    Calls Try.prog 79 #[.slice A l.length c] w R := by
  refine ok79 A l.length c ?_
  unfold F79
  refine ⟨fun i w1 => ∃ k : Nat, i = k ∧ k ≤ l.length ∧ Below w.heap.size w w1 ∧ oneF (prevB l k) (l.drop k) = oneF none l, fun i w1 => l.length - i.toNat, ⟨0, rfl, by omega, Below.refl _ _, by simp [prevB]⟩, ?_⟩
  rintro i w1 ⟨k, rfl, hk, hb, ho⟩
  unfold F79_l2
  refine brd (fun hlt => ?_) (fun hge => ?_)
  · have hk2 : k < l.length := by omega
    rw [oneF_step l k hk2] at ho
    refine ⟨fun w2 => Below w.heap.size w w2 ∧ oneF (prevB l (k + 1)) (l.drop (k + 1)) = oneF none l, ?_, ?_⟩
    · rintro w2 ⟨hb2, ho2⟩
      unfold F79_j9
      exact ⟨inR_i64 (by omega) (by omega), ⟨k + 1, by simp, by omega, hb2, ho2⟩, by dsimp only; omega⟩
    · refine (hl.keep hb).pl rfl rfl hk2 fun b o c0 c1 c2 c3 => ?_
      simp only [c0, c1, c2, c3, Addr.add_mk, List.getElem?_toArray, List.getElem?_cons_zero, List.getElem?_cons_succ, LdI_some, LdB_some, LdStr_some, LdP_some, LdSl_some, LdM_some, Nat.zero_add, Br_t, Br_f]
      refine al4 fun g w2 hb2 hg _ => ?_
      simp only [hg.cell, Addr.add_mk, List.getElem?_toArray, List.getElem?_cons_zero, List.getElem?_cons_succ, LdI_some, LdB_some, LdStr_some, LdP_some, LdSl_some, LdM_some, Nat.zero_add, Br_t, Br_f]
      refine relSame_calls l[k].s fun w3 hb3 => ⟨_, _, rfl, ?_⟩
      have hg3 := hg.keep hb3
      have B2 := btr hb hb.size hb2
      have B3 := btr B2 B2.size hb3
      cases hc : canB l[k].s with
      | false =>
        rw [if_pos hc] at ho
        rw [← ho] at h
        exact h w3 B3
      | true =>
        rw [if_neg (by rw [hc]; decide)] at ho
        show Br ((0 : Int) != 0) _ _
        simp only [bne_self_eq_false, Br_f]
        refine dr fun w4 hb4 _ => ?_
        have B4 := btr B3 B3.size hb4
        have hg4 := hg3.keep hb4
        cases k with
        | zero =>
          simp only [prevB, leO, Bool.false_eq_true, if_false] at ho
          rw [show decide (((0 : Nat) : Int) > 0) = false from rfl, Br_f]
          exact ⟨B4, ho⟩
        | succ k =>
          rw [show decide (((k + 1 : Nat) : Int) > 0) = true by simp, Br_t]
          simp only [hg4.cell, Addr.add_mk, List.getElem?_toArray, List.getElem?_cons_zero, List.getElem?_cons_succ, LdI_some, LdB_some, LdStr_some, LdP_some, LdSl_some, LdM_some, Nat.zero_add, Br_t, Br_f]
          refine ⟨inR_i64 (by omega) (by omega), ?_⟩
          refine (hl.keep B4).pl rfl (k := k) (by simp) (by omega) fun b o c0 c1 c2 c3 => ?_
          simp only [c1, Addr.add_mk, List.getElem?_toArray, List.getElem?_cons_zero, List.getElem?_cons_succ, LdI_some, LdB_some, LdStr_some, LdP_some, LdSl_some, LdM_some, Nat.zero_add, Br_t, Br_f]
          have hp : prevB l (k + 1) = some l[k].s.b := by simp only [prevB]; rw [List.getElem?_eq_getElem (by omega)]; simp
          rw [hp, leO] at ho
          refine brd (fun hle => ?_) (fun hle => ?_)
          · rw [if_pos (by simpa using hle)] at ho
            rw [← ho] at h
            exact h w4 B4
          · rw [if_neg (by simpa using hle)] at ho
            exact ⟨B4, ho⟩
  · rw [← ho, List.drop_of_length_le (by omega), oneF] at h
    exact h w1 hb

theorem oneR_calls (l : List Pl) (A : Option Addr) (c : Nat) {w : World} (hl : Rd LPl w A c l) (hz : l.length ≤ 8192) {R : Ending → World → Prop} (h : ∀ w', Below w.heap.size w w' → R (.returned (.int .i64 (oneF none l))) w') :
    Calls Try.prog 65 #[.slice A l.length c] w R := by
  refine ok65 A l.length c ?_
  unfold F65
  refine ⟨fun i w1 => ∃ k : Nat, i = k ∧ k ≤ l.length ∧ Below w.heap.size w w1 ∧ oneF (prevB l k) (l.drop k) = oneF none l, fun i w1 => l.length - i.toNat, ⟨0, rfl, by omega, Below.refl _ _, by simp [prevB]⟩, ?_⟩
  rintro i w1 ⟨k, rfl, hk, hb, ho⟩
  unfold F65_l2
  refine brd (fun hlt => ?_) (fun hge => ?_)
  · have hk2 : k < l.length := by omega
    rw [oneF_step l k hk2] at ho
    refine ⟨fun w2 => Below w.heap.size w w2 ∧ oneF (prevB l (k + 1)) (l.drop (k + 1)) = oneF none l, ?_, ?_⟩
    · rintro w2 ⟨hb2, ho2⟩
      unfold F65_j3
      exact ⟨inR_i64 (by omega) (by omega), ⟨k + 1, by simp, by omega, hb2, ho2⟩, by dsimp only; omega⟩
    · refine (hl.keep hb).pl rfl rfl hk2 fun b o c0 c1 c2 c3 => ?_
      simp only [c0, c1, c2, c3, Addr.add_mk, List.getElem?_toArray, List.getElem?_cons_zero, List.getElem?_cons_succ, LdI_some, LdB_some, LdStr_some, LdP_some, LdSl_some, LdM_some, Nat.zero_add, Br_t, Br_f]
      refine valid_calls l[k].s fun w3 hb3 => ⟨_, rfl, ?_⟩
      have B3 := btr hb hb.size hb3
      cases hc : canB l[k].s with
      | false =>
        rw [if_pos hc] at ho
        rw [← ho] at h
        exact h w3 B3
      | true =>
        rw [if_neg (by rw [hc]; decide)] at ho
        simp only [Bool.not_true, Br_f]
        refine dr fun w4 hb4 _ => ?_
        have B4 := btr B3 B3.size hb4
        cases k with
        | zero =>
          simp only [prevB, leO, Bool.false_eq_true, if_false] at ho
          rw [show decide (((0 : Nat) : Int) > 0) = false from rfl, Br_f]
          exact ⟨B4, ho⟩
        | succ k =>
          rw [show decide (((k + 1 : Nat) : Int) > 0) = true by simp, Br_t]
          refine (hl.keep B4).pl rfl rfl hk2 fun b o c0 c1 c2 c3 => ?_
          simp only [c1, Addr.add_mk, List.getElem?_toArray, List.getElem?_cons_zero, List.getElem?_cons_succ, LdI_some, LdB_some, LdStr_some, LdP_some, LdSl_some, LdM_some, Nat.zero_add, Br_t, Br_f]
          refine ⟨inR_i64 (by omega) (by omega), ?_⟩
          refine (hl.keep B4).pl rfl (k := k) (by simp) (by omega) fun b o c0 c1 c2 c3 => ?_
          simp only [c1, Addr.add_mk, List.getElem?_toArray, List.getElem?_cons_zero, List.getElem?_cons_succ, LdI_some, LdB_some, LdStr_some, LdP_some, LdSl_some, LdM_some, Nat.zero_add, Br_t, Br_f]
          have hp : prevB l (k + 1) = some l[k].s.b := by simp only [prevB]; rw [List.getElem?_eq_getElem (by omega)]; simp
          rw [hp, leO] at ho
          refine brd (fun hle => ?_) (fun hle => ?_)
          · rw [if_pos (by simpa using hle)] at ho
            rw [← ho] at h
            exact h w4 B4
          · rw [if_neg (by simpa using hle)] at ho
            exact ⟨B4, ho⟩
  · rw [← ho, List.drop_of_length_le (by omega), oneF] at h
    exact h w1 hb
/-- Both lists' spans by their begins. -/
def mergeF : List Pl → List Pl → List Sp
  | [], q => q.map (·.s)
  | a :: p, [] => (a :: p).map (·.s)
  | a :: p, d :: q => if a.s.b ≤ d.s.b then a.s :: mergeF p (d :: q) else d.s :: mergeF (a :: p) q
termination_by a d => a.length + d.length
theorem mergeF_nil (p : List Pl) : mergeF p [] = p.map (·.s) := by cases p <;> rw [mergeF]
theorem mergeF_len : ∀ (a d : List Pl), (mergeF a d).length = a.length + d.length
  | [], q => by rw [mergeF]; simp
  | a :: p, [] => by rw [mergeF]; simp
  | a :: p, d :: q => by
    rw [mergeF]
    split
    · simp [mergeF_len p (d :: q)]; omega
    · simp [mergeF_len (a :: p) q]; omega
termination_by a d => a.length + d.length
/-- One span more in a merge. -/
theorem mtake {w0 w : World} {A : Option Addr} {aN aC : Nat} {x : Pl} {r : List Pl} {out : Option Addr} {outN outC : Nat} {pre : List Sp} (hr : Rd LPl w0 A aC (x :: r)) (hn : aN = r.length + 1) (hb : Below w0.heap.size w0 w) (own : Own LSp w w0.heap.size 29 (.slice out outN outC) pre) (hp : pre.length ≤ 16384)
    {K : Option Addr → Nat → Nat → World → Prop}
    (hK : ∀ A' n' c' w1, Below w0.heap.size w0 w1 → Own LSp w1 w0.heap.size 29 (.slice A' n' c') (pre ++ [x.s]) → Rd LPl w0 (SlA A aC 1 4) (aC - 1) r → K A' n' c' w1) :
    ∃ S : World → Prop, S w.drew ∧ IdxA A aN (0 : Int) 4 fun q41 =>
     ∃ (x43_0 : Int), Held S (q41.add 1) (.int .u64 x43_0) ∧ ∃ (x43_1 : Int), Held S ((q41.add 1).add 1) (.int .u64 x43_1) ∧ ∃ (x43_2 : Int), Held S ((q41.add 1).add 2) (.int .i64 x43_2) ∧ SlB (1 : Int) ((aN : Nat) : Int) ((aC : Nat) : Int)
     (Al w.drew #[(.int .u64 x43_0), (.int .u64 x43_1), (.int .i64 x43_2)] 29 fun g44 w1_4 =>
     Raw Try.prog (Builtin.append_ #[22, 22] 22 #[(.slice out outN outC), (.slice (some g44) 1 1)]) w1_4 fun v w1_5 =>
     ∃ (x45 : Option Addr) (x45N : Nat) (x45C : Nat), v = (.slice x45 x45N x45C) ∧
     K x45 x45N x45C w1_5) := by
  subst hn
  have hbd : Below w0.heap.size w0 w.drew := btr hb hb.size (Below.refl _ _).drew
  refine ⟨fun w' => Below w0.heap.size w0 w', hbd, ?_⟩
  refine hr.held (fun _ h => h) (by simp) (by omega) (by omega) rfl fun b o hc => ?_
  simp only [Addr.add_mk]
  refine ⟨x.s.b, hc 1 _ rfl, x.s.e, hc 2 _ rfl, x.s.l, hc 3 _ rfl, by omega, by omega, by have := hr.1; simp at this; omega, ?_⟩
  refine ap1 (L := LSp) (x := x.s) (.agg #[.int .u64 0, .int .u64 0, .int .i64 0]) 24 rfl rfl rfl rfl own.drew hbd.size (by omega) (by simp [maxLen]; omega) fun A' c' w1 ho hg => ?_
  have B1 := hbd.trans hg.below
  refine ⟨A', _, c', rfl, hK A' _ c' w1 B1 ho ?_⟩
  exact hr.slice (k := 1) (by simp)
/-- The state of a merge. -/
structure MS (w0 : World) (a d : List Pl) (A : Option Addr) (aN aC : Nat) (D : Option Addr) (dN dC : Nat) (v : Value) (w : World) (p q : List Pl) (pre : List Sp) : Prop where
  below : Below w0.heap.size w0 w
  ra : Rd LPl w0 A aC p
  rd : Rd LPl w0 D dC q
  na : aN = p.length
  nd : dN = q.length
  own : Own LSp w w0.heap.size 29 v pre
  eq : pre ++ mergeF p q = mergeF a d
theorem mergeF_l {x : Pl} {p q : List Pl} (h : ∀ y r, q = y :: r → x.s.b ≤ y.s.b) : mergeF (x :: p) q = x.s :: mergeF p q := by
  cases q with
  | nil => rw [mergeF, mergeF_nil]; rfl
  | cons y r => rw [mergeF, if_pos (h y r rfl)]
theorem mergeF_r {y : Pl} {p q : List Pl} (h : ∀ x r, p = x :: r → ¬ x.s.b ≤ y.s.b) : mergeF p (y :: q) = y.s :: mergeF p q := by
  cases p with
  | nil => rw [mergeF, mergeF]; rfl
  | cons x r => rw [mergeF, if_neg (h x r rfl)]
theorem merged_calls (a d : List Pl) (A : Option Addr) (aC : Nat) (D : Option Addr) (dC : Nat) {w : World} (ha : Rd LPl w A aC a) (hd : Rd LPl w D dC d) (la : a.length ≤ 8192) (ld : d.length ≤ 8192) {R : Ending → World → Prop}
    (h : ∀ M n c w', Below w.heap.size w w' → Own LSp w' w.heap.size 29 (.slice M n c) (mergeF a d) → R (.returned (.slice M n c)) w') : Calls Try.prog 81 #[.slice A a.length aC, .slice D d.length dC] w R := by
  refine ok81 A a.length aC D d.length dC ?_
  unfold F81
  refine ⟨inR_i64 (by omega) (by omega), by omega, by omega, by omega, ?_⟩
  refine al fun g w1 hb hg hge => ?_
  refine ⟨fun A2 aN2 aC2 D2 dN2 dC2 out outN outC w2 => ∃ p q pre, MS w a d A2 aN2 aC2 D2 dN2 dC2 (.slice out outN outC) w2 p q pre, fun A2 aN2 aC2 D2 dN2 dC2 out outN outC w2 => aN2 + dN2, ⟨a, d, [], hb, ha, hd, rfl, rfl, ?_, by simp⟩, ?_⟩
  · refine Own.made hg hge ?_ (by simp [maxLen]; omega)
    simp [zrow, LSp]
  rintro A2 aN2 aC2 D2 dN2 dC2 out outN outC w2 ⟨p, q, pre, H⟩
  obtain ⟨B2, ra, rd, rfl, rfl, own, heq⟩ := H
  have hlen : pre.length + (p.length + q.length) = a.length + d.length := by
    have := congrArg List.length heq
    rwa [List.length_append, mergeF_len, mergeF_len] at this
  unfold F81_l2
  refine ⟨inR_i64 (by omega) (by omega), ?_⟩
  refine brd (fun hlt => ?_) (fun hge => ?_)
  · refine dr fun w3 hb3 _ => ?_
    have B3 := btr B2 B2.size hb3
    have own3 := own.keep hb3
    refine bre (fun h0 => ?_) (fun h0 => ?_)
    · obtain rfl : q = [] := List.eq_nil_of_length_eq_zero (by omega)
      obtain _ | ⟨x, r⟩ := p
      · simp at hlt
      refine mtake ra rfl B3 own3 (by omega) fun A' n' c' w4 hb4 ho hr => ?_
      refine ⟨⟨r, [], pre ++ [x.s], hb4, hr, rd, by simp, rfl, ho, ?_⟩, by simp⟩
      rw [← heq, mergeF_l (by simp)]; simp
    · obtain _ | ⟨y, s⟩ := q
      · simp at h0
      refine brd (fun hp => ?_) (fun hp => ?_)
      · obtain _ | ⟨x, r⟩ := p
        · simp at hp
        refine (ra.keep B3).pl (by simp) (k := 0) rfl (by simp) fun b o c0 c1 c2 c3 => ?_
        simp only [c1, Addr.add_mk, List.getElem?_toArray, List.getElem?_cons_zero, List.getElem?_cons_succ, LdI_some, LdB_some, LdStr_some, LdP_some, LdSl_some, LdM_some, Nat.zero_add, Br_t, Br_f]
        refine (rd.keep B3).pl (by simp) (k := 0) rfl (by simp) fun b o c0 c1 c2 c3 => ?_
        simp only [c1, Addr.add_mk, List.getElem?_toArray, List.getElem?_cons_zero, List.getElem?_cons_succ, LdI_some, LdB_some, LdStr_some, LdP_some, LdSl_some, LdM_some, Nat.zero_add, Br_t, Br_f, List.getElem_cons_zero]
        refine brd (fun hle => ?_) (fun hle => ?_)
        · refine mtake ra rfl B3 own3 (by omega) fun A' n' c' w4 hb4 ho hr => ?_
          refine ⟨⟨r, y :: s, pre ++ [x.s], hb4, hr, rd, by simp, rfl, ho, ?_⟩, by simp⟩
          rw [← heq, mergeF_l (by rintro _ _ ⟨⟩; exact hle)]; simp
        · refine mtake rd rfl B3 own3 (by omega) fun A' n' c' w4 hb4 ho hr => ?_
          refine ⟨⟨x :: r, s, pre ++ [y.s], hb4, ra, hr, rfl, by simp, ho, ?_⟩, by simp⟩
          rw [← heq, mergeF_r (by rintro _ _ ⟨⟩; exact hle)]; simp
      · obtain rfl : p = [] := List.eq_nil_of_length_eq_zero (by omega)
        refine mtake rd rfl B3 own3 (by omega) fun A' n' c' w4 hb4 ho hr => ?_
        refine ⟨⟨[], s, pre ++ [y.s], hb4, ra, hr, rfl, by simp, ho, ?_⟩, by simp⟩
        rw [← heq, mergeF_r (by simp)]; simp
  · have e1 : p = [] := List.eq_nil_of_length_eq_zero (by omega)
    have e2 : q = [] := List.eq_nil_of_length_eq_zero (by omega)
    subst e1 e2
    rw [mergeF_nil] at heq
    simp only [List.map_nil, List.append_nil] at heq
    rw [heq] at own
    exact h _ _ _ _ B2 own
end Go.Proofs.Ytaanlildniiijaa
