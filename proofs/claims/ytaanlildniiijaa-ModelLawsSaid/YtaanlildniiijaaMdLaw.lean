/- ModelLaws comes to true for any two texts and any names. -/
import Derived.Test.YtaanlildniiijaaMdParse
import Derived.Test.YtaanlildniiijaaMdErr
namespace Go.Proofs.Ytaanlildniiijaa
open Go.RowKit Go.Vc Go.Mdl
set_option linter.unusedVariables false
set_option linter.unusedSimpArgs false
set_option maxRecDepth 100000
section
variable {w w1 : World} {R : Ending → World → Prop}
def liveRows : List (List Part) := [[.mk ⟨#[40]⟩ [[.mk ⟨#[97]⟩ [] 0, .mk ⟨#[98]⟩ [] 63]] 42, .mk ⟨#[99]⟩ [] 0]]
theorem live_parse : Mdl.parse [40, 97, 44, 32, 98, 63, 41, 42, 44, 32, 99] = .ok liveRows := by kernel_rfl
theorem live_mat : (placed liveRows).mat [⟨#[97]⟩, ⟨#[97]⟩, ⟨#[98]⟩, ⟨#[99]⟩] = (true, 4) := by kernel_rfl
theorem lives_calls (hR : ∀ w', Below w.heap.size w w' → R (.returned (.bool true)) w') : Calls Try.prog 49 #[] w R := by
  refine ok49 ?_
  unfold F49
  refine parse_calls w (fun g w1 rows hp hm hb1 => ?_) (fun pos e at_ w1 hp => ?_)
  rotate_left
  · have hl : (ByteArray.mk #[40, 97, 44, 32, 98, 63, 41, 42, 44, 32, 99]).data.toList = [40, 97, 44, 32, 98, 63, 41, 42, 44, 32, 99] := rfl
    rw [hl, live_parse] at hp
    exact absurd hp (by simp)
  have hrows : rows = liveRows := by
    have hl : (ByteArray.mk #[40, 97, 44, 32, 98, 63, 41, 42, 44, 32, 99]).data.toList = [40, 97, 44, 32, 98, 63, 41, 42, 44, 32, 99] := rfl
    rw [hl, live_parse] at hp
    exact (Except.ok.inj hp).symm
  subst hrows
  have hok : PlOk (placed liveRows) := placed_ok (Nat.le_of_ble_eq_true (by kernel_rfl))
  have hmat := live_mat
  generalize placed liveRows = pl at hm hok hmat
  refine ⟨_, _, _, rfl, ?_⟩
  refine ⟨fun w' => w' = w1, ?_, rfl⟩
  rintro w1 rfl
  unfold F49_j4
  refine al fun g22 w2 hb2 hg2 hge2 => ?_
  have hn : Rd LSt w2 (some ⟨g22, 0, none⟩) 4 [⟨#[97]⟩, ⟨#[97]⟩, ⟨#[98]⟩, ⟨#[99]⟩] := (Own.lit' (L := LSt) (xs := [⟨#[97]⟩, ⟨#[97]⟩, ⟨#[98]⟩, ⟨#[99]⟩]) (base := 0) hg2 (Nat.zero_le _) rfl (by simp [maxLen])).rd.2
  refine match_calls (names := [⟨#[97]⟩, ⟨#[97]⟩, ⟨#[98]⟩, ⟨#[99]⟩]) (hm.below hb2) hok hn fun w3 hb3 => ?_
  refine ⟨true, 4, by rw [hmat]; rfl, ?_⟩
  refine al fun g27 w4 hb4 hg4 hge4 => ?_
  have hz : RdM w4 g27 [] zeroPl := ⟨(none, 0, 0), ⟨(none, 0, 0), (none, 0, 0), (none, 0, 0), (none, 0, 0), [], hg4, ⟨rfl, Rd.nil _ _⟩, ⟨rfl, Rd.nil _ _, rfl, by simp⟩, RdI.nil _ _, rfl, Rd.nil _ _⟩, [], rfl, Rd.nil _ _, by simp only [RdL]⟩
  have ez : zeroPl.mat [] = (false, 0) := by kernel_rfl
  refine match_calls (names := []) hz zero_ok (Rd.nil LSt w4) fun w5 hb5 => ?_
  refine ⟨false, 0, by rw [ez]; rfl, ?_⟩
  have e4 : ((4 : Int) == (4 : Int)) = true := rfl
  have e0 : ((0 : Int) == (0 : Int)) = true := rfl
  simp only [e4, e0, Br_t, Bool.not_false]
  refine text_calls (hz.below hb5) (by simp only [vC]) (by simp [tC]) fun w6 hb6 => ⟨_, rfl, ?_⟩
  rw [bytes_eq, decide_eq_true (by simp [tC]), Br_t]
  refine clear0_calls ((hg4.keep hb5).keep hb6) fun w7 hb7 => ⟨_, rfl, ?_⟩
  exact hR w7 (btr (btr (btr (btr (btr (btr hb1 hb1.size hb2) (Nat.le_trans hb1.size hb2.size) hb3) (Nat.le_trans (Nat.le_trans hb1.size hb2.size) hb3.size) hb4) (Nat.le_trans (Nat.le_trans (Nat.le_trans hb1.size hb2.size) hb3.size) hb4.size) hb5) (Nat.le_trans (Nat.le_trans (Nat.le_trans (Nat.le_trans hb1.size hb2.size) hb3.size) hb4.size) hb5.size) hb6) (Nat.le_trans (Nat.le_trans (Nat.le_trans (Nat.le_trans (Nat.le_trans hb1.size hb2.size) hb3.size) hb4.size) hb5.size) hb6.size) hb7)
theorem laws_cells (A B : List (List Part)) : ∀ (k : Nat) (hk : k < (laws A B).length),
    ([Value.string (ba (([40] ++ tC A) ++ [41])), Value.string (ba (tC A)),
     Value.string (ba ((([40] ++ tC A) ++ [41]) ++ [63])), Value.string (ba (([40] ++ (([40] ++ tC A) ++ [41])) ++ [124, 45, 41])),
     Value.string (ba ((([40] ++ tC A) ++ [41]) ++ [43])), Value.string (ba (((([40] ++ (([40] ++ tC A) ++ [41])) ++ [44]) ++ (([40] ++ tC A) ++ [41])) ++ [42, 41])),
     Value.string (ba (([40] ++ (([40] ++ tC A) ++ [41])) ++ [42, 41, 42])), Value.string (ba ((([40] ++ tC A) ++ [41]) ++ [42])),
     Value.string (ba ((((((([40, 40] ++ (([40] ++ tC A) ++ [41])) ++ [44]) ++ (([40] ++ tC B) ++ [41])) ++ [41, 44]) ++ (([40] ++ tC A) ++ [41]))) ++ [41])),
     Value.string (ba (((((((([40] ++ tC A) ++ [41]) ++ [44, 40]) ++ (([40] ++ tC B) ++ [41])) ++ [44]) ++ (([40] ++ tC A) ++ [41]))) ++ [41])),
     Value.string (ba ((((([40] ++ (([40] ++ tC A) ++ [41])) ++ [124]) ++ (([40] ++ tC B) ++ [41]))) ++ [41])),
     Value.string (ba ((((([40] ++ (([40] ++ tC B) ++ [41])) ++ [124]) ++ (([40] ++ tC A) ++ [41]))) ++ [41]))][k * 2]? = some (.string (ba (tC (laws A B)[k].1)))) ∧
    ([Value.string (ba (([40] ++ tC A) ++ [41])), Value.string (ba (tC A)),
     Value.string (ba ((([40] ++ tC A) ++ [41]) ++ [63])), Value.string (ba (([40] ++ (([40] ++ tC A) ++ [41])) ++ [124, 45, 41])),
     Value.string (ba ((([40] ++ tC A) ++ [41]) ++ [43])), Value.string (ba (((([40] ++ (([40] ++ tC A) ++ [41])) ++ [44]) ++ (([40] ++ tC A) ++ [41])) ++ [42, 41])),
     Value.string (ba (([40] ++ (([40] ++ tC A) ++ [41])) ++ [42, 41, 42])), Value.string (ba ((([40] ++ tC A) ++ [41]) ++ [42])),
     Value.string (ba ((((((([40, 40] ++ (([40] ++ tC A) ++ [41])) ++ [44]) ++ (([40] ++ tC B) ++ [41])) ++ [41, 44]) ++ (([40] ++ tC A) ++ [41]))) ++ [41])),
     Value.string (ba (((((((([40] ++ tC A) ++ [41]) ++ [44, 40]) ++ (([40] ++ tC B) ++ [41])) ++ [44]) ++ (([40] ++ tC A) ++ [41]))) ++ [41])),
     Value.string (ba ((((([40] ++ (([40] ++ tC A) ++ [41])) ++ [124]) ++ (([40] ++ tC B) ++ [41]))) ++ [41])),
     Value.string (ba ((((([40] ++ (([40] ++ tC B) ++ [41])) ++ [124]) ++ (([40] ++ tC A) ++ [41]))) ++ [41]))][k * 2 + 1]? = some (.string (ba (tC (laws A B)[k].2)))) := by
  intro k hk
  have key := congrArg (fun l => l[k]?) (laws_text A B)
  simp only [List.getElem?_map, List.getElem?_eq_getElem hk, Option.map_some] at key
  have hk6 : k < 6 := hk
  rcases (by omega : k = 0 ∨ k = 1 ∨ k = 2 ∨ k = 3 ∨ k = 4 ∨ k = 5) with rfl | rfl | rfl | rfl | rfl | rfl
  all_goals
    have key := Option.some.inj key
    have k1 := congrArg Prod.fst key
    have k2 := congrArg Prod.snd key
    dsimp only at k1 k2
    rw [k1, k2]
    exact ⟨rfl, rfl⟩
theorem modelLaws_calls {s t : ByteArray} {names : Wd} {A : Option Addr} {c : Nat} (hn : Rd LSt w A c names) (hnl : names.length * 16 ≤ 140737488355328) (hR : ∀ w', Below w.heap.size w w' → R (.returned (.bool true)) w') :
    Calls Try.prog 8 #[.string s, .string t, .slice A names.length c] w R := by
  refine ok8 _ _ _ _ _ ?_
  unfold F8
  have lives : ∀ {w2 : World}, Below w.heap.size w w2 → Calls Try.prog 49 #[] w2 (post R fun v3 w3 => ∃ x : Bool, v3 = .bool x ∧ R (.returned (.bool x)) w3) := fun hb =>
    lives_calls fun w' hb' => ⟨true, rfl, hR w' (btr hb hb.size hb')⟩
  refine parse_calls w (fun g1 w1 P1 hp1 hm1 hb1 => ?_) (fun pos e at_ w1 hp1 hb1 => ?_)
  rotate_left
  · -- the first text is none
    have he := parse_ne hp1
    refine ⟨_, _, _, rfl, ?_⟩
    have hx : ((e : Int) != (0 : Int)) = true := by simp; omega
    refine parse_calls w1 (fun g2 w2 P2 hp2 hm2 hb2 => ?_) (fun pos2 e2 at2 w2 hp2 hb2 => ?_)
    · refine ⟨_, _, _, rfl, fun _ => False, fun _ h => h.elim, ?_⟩
      rw [show (none : Option Addr).isNone = true from rfl, Br_t, hx, Br_t]
      exact lives (btr hb1 hb1.size hb2)
    · refine ⟨_, _, _, rfl, fun _ => False, fun _ h => h.elim, ?_⟩
      rw [show (none : Option Addr).isNone = true from rfl, Br_t, hx, Br_t]
      exact lives (btr hb1 hb1.size hb2)
  refine ⟨_, _, _, rfl, ?_⟩
  refine parse_calls w1 (fun g2 w2 P2 hp2 hm2 hb2 => ?_) (fun pos2 e2 at2 w2 hp2 hb2 => ?_)
  rotate_left
  · have he := parse_ne hp2
    have hx : ((e2 : Int) != (0 : Int)) = true := by simp; omega
    refine ⟨_, _, _, rfl, fun _ => False, fun _ h => h.elim, ?_⟩
    rw [show (some (⟨g1, 0, none⟩ : Addr)).isNone = false from rfl, Br_f, show (none : Option Addr).isNone = true from rfl, Br_t, show ((0 : Int) != (0 : Int)) = false from rfl, Br_f, hx, Br_t]
    exact lives (btr hb1 hb1.size hb2)
  refine ⟨_, _, _, rfl, ?_⟩
  have B2 := btr hb1 hb1.size hb2
  have m1 := hm1.below hb2
  refine ⟨fun w' => w' = w2, ?_, by
    rw [show (some (⟨g1, 0, none⟩ : Addr)).isNone = false from rfl, Br_f, show (some (⟨g2, 0, none⟩ : Addr)).isNone = false from rfl, Br_f]⟩
  rintro w2 rfl
  obtain ⟨okA, lenA, cA⟩ := parse_ok hp1
  obtain ⟨okB, lenB, cB⟩ := parse_ok hp2
  have again := parse_again hp1
  have hlaws := laws_ok okA okB
  have hcell := laws_cells P1 P2
  unfold F8_j5
  refine text_calls m1 okA.2.1 (by omega) fun w3 hb3 => ⟨_, rfl, ?_⟩
  have B3 := btr B2 B2.size hb3
  have m3 := m1.below hb3
  refine parse_calls w3 (fun g4 w4 P4 hp4 hm4 hb4 => ?_) (fun pos4 e4 at4 w4 hp4 hb4 => ?_)
  rotate_left
  · have hp4' : Mdl.parse (tC P1) = .error (pos4, e4) := hp4
    rw [again] at hp4'
    exact absurd hp4' (by simp)
  have hP4 : P4 = P1 := by
    have hp4' : Mdl.parse (tC P1) = .ok P4 := hp4
    rw [again] at hp4'
    exact (Except.ok.inj hp4').symm
  subst hP4
  have B4 := btr B3 B3.size hb4
  have m4 := m3.below hb4
  have n4 := (hm2.below hb3).below hb4
  refine ⟨_, _, _, rfl, fun w' => Below w.heap.size w w' ∧ RdM w' g1 P4 (placed P4) ∧ RdM w' g2 P2 (placed P2), ?_, ?_⟩
  rotate_left
  · rw [show ((0 : Int) != (0 : Int)) = false from rfl, Br_f, show (some (⟨g4, 0, none⟩ : Addr)).isNone = false from rfl, Br_f]
    refine text_calls hm4 okA.2.1 (by omega) fun w5 hb5 => ⟨_, rfl, ?_⟩
    refine text_calls (m4.below hb5) okA.2.1 (by omega) fun w6 hb6 => ⟨_, rfl, ?_⟩
    rw [beq_self_eq_true, Bool.not_true, Br_f]
    have B5 := btr B4 B4.size hb5
    exact ⟨btr B5 B5.size hb6, (m4.below hb5).below hb6, (n4.below hb5).below hb6⟩
  clear m1 hm1 hb1 hb2 B2 hb3 B3 m3 hb4 B4 m4 n4 hm4 hm2 hp4
  rintro w3 ⟨B3, m3, n3⟩
  unfold F8_j8
  refine text_calls m3 okA.2.1 (by omega) fun w4 hb4 => ⟨_, rfl, ?_⟩
  have B4 := btr B3 B3.size hb4
  have bd : ∀ l : List UInt8, (ByteArray.mk l.toArray) = ba l := fun _ => rfl
  simp only [bd, ba_append]
  refine ⟨(by simp only [ba_size, List.length_append, List.length_cons, List.length_nil]; omega), (by simp only [ba_size, List.length_append, List.length_cons, List.length_nil]; omega), ?_⟩
  have m4 := m3.below hb4
  have n4 := n3.below hb4
  refine text_calls n4 okB.2.1 (by omega) fun w5 hb5 => ⟨_, rfl, ?_⟩
  have B5 := btr B4 B4.size hb5
  have m5 := m4.below hb5
  simp only [bd, ba_append]
  refine ⟨(by simp only [ba_size, List.length_append, List.length_cons, List.length_nil]; omega), (by simp only [ba_size, List.length_append, List.length_cons, List.length_nil]; omega), ?_⟩
  refine text_calls m5 okA.2.1 (by omega) fun w6 hb6 => ⟨_, rfl, ?_⟩
  have B6 := btr B5 B5.size hb6
  simp only [bd, ba_append]
  repeat (refine ⟨(by simp only [ba_size, List.length_append, List.length_cons, List.length_nil]; omega), ?_⟩)
  refine al fun g7 w7 hb7 hg7 hge7 => ?_
  have B7 := btr B6 B6.size hb7
  have hn7 : Rd LSt w7 A c names := hn.keep B7
  clear m3 n3 m4 m5 n4 hb4 hb5 hb6 hb7 B3 B4 B5 B6 hge7
  refine ⟨fun i w' => ∃ k : Nat, i = k ∧ k ≤ 6 ∧ Below w7.heap.size w7 w', fun i _ => 6 - i.toNat, ⟨0, rfl, by omega, Below.refl _ _⟩, ?_⟩
  rintro i w8 ⟨k, rfl, hk, hb8⟩
  unfold F8_l11
  have B8 := btr B7 B7.size hb8
  refine brd (fun hlt => ?_) (fun hge => ?_)
  rotate_left
  · refine lives_calls fun w9 hb9 => ⟨_, rfl, hR w9 (btr B8 B8.size hb9)⟩
  have hk6 : k < (laws P4 P2).length := by show k < 6; omega
  obtain ⟨⟨v1, v2⟩, ⟨v3, v4⟩, hmm⟩ := hlaws _ (List.getElem_mem hk6)
  obtain ⟨q1, q2⟩ := hcell k hk6
  have hg8 := hg7.keep hb8
  generalize (laws P4 P2)[k] = L at v1 v2 v3 v4 hmm q1 q2
  refine ⟨fun w' => Below w8.heap.size w8 w', ?_, ?_⟩
  · rintro w9 hb9
    unfold F8_j12
    exact ⟨inR_i64 (by omega) (by omega), ⟨k + 1, by simp, by omega, btr hb8 hb8.size hb9⟩, by dsimp only; omega⟩
  rw [IdxA_some (by omega) (by omega), Addr.add_mk]
  refine ⟨by decide, by decide, ?_⟩
  refine lS (by rw [Addr.add_mk, hg8.cell]; simpa using q1) ?_
  clear q1 hcell hlaws
  have two : ((eLong : Int) != (2 : Int)) = false := rfl
  have zero : ((0 : Int) != (2 : Int)) = true := rfl
  have il : ∀ l, (ba l).data.toList = l := Mdl.ba_list
  -- the second text of a law
  have snd : ∀ {w9 : World}, Below w8.heap.size w8 w9 → w9.cell? ⟨g7, k * 2 + 1, none⟩ = some (.string (ba (tC L.2))) := fun hb => by
    rw [(hg8.keep hb).cell]; simpa using q2
  refine parse_calls w8 (fun g1 w9 Q1 hq1 hm1 hb9 => ?_) (fun pos e at_ w9 hq1 hb9 => ?_)
  rotate_left
  · -- the first is too long
    rw [il] at hq1
    have he : e = eLong := by
      rcases parse_text v1 v2 with ⟨h, _⟩ | ⟨p, h, _⟩
      · rw [h] at hq1; exact absurd hq1 (by simp)
      · rw [h] at hq1; simp at hq1; exact hq1.2.symm
    subst he
    refine ⟨_, _, _, rfl, ?_⟩
    rw [IdxA_some (by omega) (by omega), Addr.add_mk]
    refine ⟨by decide, by decide, ?_⟩
    refine lS (by rw [Addr.add_mk]; have := snd hb9; simpa using this) ?_
    have fin : ∀ {w10 : World}, Below w9.heap.size w9 w10 → Below w8.heap.size w8 w10 := fun hb => btr hb9 hb9.size hb
    refine parse_calls w9 (fun g2 w10 Q2 hq2 hm2 hb10 => ?_) (fun pos2 e2 at2 w10 hq2 hb10 => ?_)
    · refine ⟨_, _, _, rfl, fun _ => False, fun _ h => h.elim, ?_⟩
      rw [show (none : Option Addr).isNone = true from rfl, Br_t, two, Br_f]
      exact fin hb10
    · refine ⟨_, _, _, rfl, fun _ => False, fun _ h => h.elim, ?_⟩
      rw [show (none : Option Addr).isNone = true from rfl, Br_t, two, Br_f]
      exact fin hb10
  rw [il] at hq1
  obtain ⟨ok1, ln1, cc1⟩ := parse_ok hq1
  have hQ1 : Q1 = nC L.1 := by
    rcases parse_text v1 v2 with ⟨h, _⟩ | ⟨p, h, _⟩
    · rw [h] at hq1; exact (Except.ok.inj hq1).symm
    · rw [h] at hq1; exact absurd hq1 (by simp)
  refine ⟨_, _, _, rfl, ?_⟩
  rw [IdxA_some (by omega) (by omega), Addr.add_mk]
  refine ⟨by decide, by decide, ?_⟩
  refine lS (by rw [Addr.add_mk]; have := snd hb9; simpa using this) ?_
  refine parse_calls w9 (fun g2 w10 Q2 hq2 hm2 hb10 => ?_) (fun pos2 e2 at2 w10 hq2 hb10 => ?_)
  rotate_left
  · rw [il] at hq2
    have he : e2 = eLong := by
      rcases parse_text v3 v4 with ⟨h, _⟩ | ⟨p, h, _⟩
      · rw [h] at hq2; exact absurd hq2 (by simp)
      · rw [h] at hq2; simp at hq2; exact hq2.2.symm
    subst he
    refine ⟨_, _, _, rfl, fun _ => False, fun _ h => h.elim, ?_⟩
    rw [show (some (⟨g1, 0, none⟩ : Addr)).isNone = false from rfl, Br_f, show (none : Option Addr).isNone = true from rfl, Br_t, zero, Br_t, two, Br_f]
    exact btr hb9 hb9.size hb10
  rw [il] at hq2
  obtain ⟨ok2, ln2, cc2⟩ := parse_ok hq2
  have hQ2 : Q2 = nC L.2 := by
    rcases parse_text v3 v4 with ⟨h, _⟩ | ⟨p, h, _⟩
    · rw [h] at hq2; exact (Except.ok.inj hq2).symm
    · rw [h] at hq2; exact absurd hq2 (by simp)
  have heq : (placed Q1).mat names = (placed Q2).mat names := mat_eq (by rw [hQ1, hQ2, mC_n, mC_n, hmm]) names
  have pk1 := placed_ok cc1
  have pk2 := placed_ok cc2
  clear hQ1 hQ2
  have m1 := hm1.below hb10
  have B10 := btr hb9 hb9.size hb10
  refine ⟨_, _, _, rfl, fun w' => w' = w10, ?_, by
    rw [show (some (⟨g1, 0, none⟩ : Addr)).isNone = false from rfl, Br_f, show (some (⟨g2, 0, none⟩ : Addr)).isNone = false from rfl, Br_f]⟩
  rintro w10 rfl
  generalize placed Q1 = p1 at heq pk1 m1
  generalize placed Q2 = p2 at heq pk2 hm2
  unfold F8_j18
  have hnN : names.length ≤ 8796093022208 := by omega
  have hn10 : Rd LSt w10 A c names := (hn7.keep hb8).keep B10
  refine al fun g3 w11 hb11 hg3 hge3 => ?_
  refine ap (L := LSt) (xs := []) (ys := names) (base := w11.heap.size) (.string ByteArray.empty) 16 rfl rfl rfl rfl (Own.bare _ _ _ _ _) (hn10.keep hb11) (Nat.le_refl _) (by simpa using hnl) (by simp [maxLen]; omega) fun A1 c1 w12 ho hgr => ⟨_, _, _, rfl, ?_⟩
  have B12 := hb11.trans (hgr.below.mono hb11.size)
  have hr := ho.rd
  simp only [List.nil_append, List.length_nil, Nat.zero_add] at hr ⊢
  refine match_calls (m1.below B12) pk1 hr.2 fun w13 hb13 => ?_
  refine ⟨_, _, rfl, ?_⟩
  have B13 := btr B12 B12.size hb13
  refine al fun g4 w14 hb14 hg4 hge4 => ?_
  have B14 := btr B13 B13.size hb14
  refine ap (L := LSt) (xs := []) (ys := names) (base := w14.heap.size) (.string ByteArray.empty) 16 rfl rfl rfl rfl (Own.bare _ _ _ _ _) (hn10.keep B14) (Nat.le_refl _) (by simpa using hnl) (by simp [maxLen]; omega) fun A2 c2 w15 ho2 hgr2 => ⟨_, _, _, rfl, ?_⟩
  have B15 := B14.trans (hgr2.below.mono B14.size)
  have hr2 := ho2.rd
  simp only [List.nil_append, List.length_nil, Nat.zero_add] at hr2 ⊢
  refine match_calls (hm2.below B15) pk2 hr2.2 fun w16 hb16 => ?_
  refine ⟨_, _, rfl, ?_⟩
  rw [heq]
  rw [beq_self_eq_true, Bool.not_true, Br_f]
  rw [show (((p2.mat names).2 : Int) != ((p2.mat names).2 : Int)) = false from by simp, Br_f]
  exact btr B10 B10.size (btr B15 B15.size hb16)
end
end Go.Proofs.Ytaanlildniiijaa
