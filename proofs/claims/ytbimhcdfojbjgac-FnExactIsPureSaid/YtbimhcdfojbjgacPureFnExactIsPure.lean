/- The plain law of FnExactIsPure: the printed function of the law answers true. Its conditions are those of the statement's own bounds. -/
import Derived.Test.YtbimhcdfojbjgacHFnExactIsPurex9
namespace Go.Proofs.Ytbimhcdfojbjgac.Pure
open Go.RowKit Go.Proofs.Ytbimhcdfojbjgac.PFnExactIsPure Go.Proofs.YtbimhcdfojbjgacW.PrintWords Go.Proofs.YtbimhcdfojbjgacW.PrintLast Go.Proofs.YtbimhcdfojbjgacW.PrintMore
set_option linter.unusedVariables false
theorem l01In_eq (a b c : Int) : spec_l01In.f a b c = some (decide (b ≤ a ∧ a ≤ c)) := by
  unfold spec_l01In.f
  by_cases h : a ≥ b
  · rw [if_pos h]; congr 1; by_cases h2 : a ≤ c <;> simp [h2, h]
  · rw [if_neg h]; congr 1; simp; omega
theorem within_eq (a b c : Int) : impl_within.f a b c = some (decide (b ≤ a ∧ a ≤ c)) := by
  unfold impl_within.f
  by_cases h : b ≤ a
  · rw [if_pos h]; congr 1; by_cases h2 : a ≤ c <;> simp [h2, h]
  · rw [if_neg h]; congr 1; simp; omega
theorem law_of {α : Type} [DecidableEq α] {s i : Option α} {r : α} (hs : s = some r) (hi : i = some r) : (s.bind fun t => i.bind fun u => if u = t then some true else some false) = some true := by
  subst hs hi; simp
theorem law_ofb {s i : Option Bool} {r : Bool} (hs : s = some r) (hi : i = some r) : (s.bind fun t => i.bind fun u => if (u != t) = true then some false else some true) = some true := by
  subst hs hi; simp
theorem wf_i64 {a : Int} (h : (Lit.int .i64 a).wf = true) : -9223372036854775808 ≤ a ∧ a ≤ 9223372036854775807 := by
  have h' : (decide ((-9223372036854775808 : Int) ≤ a) && decide (a ≤ 9223372036854775807)) = true := h
  simp at h'; omega
theorem w64 {n : Int} (h1 : -9223372036854775808 ≤ n) (h2 : n ≤ 9223372036854775807) : wrap64 n = n := by unfold wrap64; omega
theorem mul_bd {a b A B : Int} (h0 : 0 ≤ a) (h1 : a ≤ A) (h2 : 0 ≤ b) (h3 : b ≤ B) : 0 ≤ a * b ∧ a * b ≤ A * B := by
  refine ⟨Int.mul_nonneg h0 h2, ?_⟩
  exact Int.le_trans (Int.mul_le_mul_of_nonneg_right h1 h2) (Int.mul_le_mul_of_nonneg_left h3 (by omega))
theorem tdiv_nn {a b : Int} (h : 0 ≤ a) : a.tdiv b = a / b := Int.tdiv_eq_ediv_of_nonneg h
theorem div_bd {a A c : Int} (h0 : 0 ≤ a) (h1 : a ≤ A) (hc : 0 < c) : 0 ≤ a / c ∧ a / c ≤ A / c :=
  ⟨Int.ediv_nonneg h0 (by omega), Int.ediv_le_ediv hc h1⟩
theorem wrap_next {n : Nat} (h : n ≤ 140737488355328) : wrap64 ((n : Int) + 1) = ((n + 1 : Nat) : Int) := by unfold wrap64; omega
theorem drop_getD {α : Type} (x : List α) (z : α) (n : Nat) (h : n < x.length) : x.drop n = x.getD n z :: x.drop (n + 1) := by
  rw [List.getD_eq_getElem?_getD, List.getElem?_eq_getElem h]
  exact List.drop_eq_getElem_cons h
theorem rd_nat (x : List Int) (n : Nat) : rd x (n : Int) = x.getD n 0 := by unfold rd; rw [Int.toNat_natCast]
theorem take_set_next {α : Type} (x : List α) (n : Nat) (v : α) (h : n < x.length) : (x.set n v).take (n + 1) = x.take n ++ [v] := by
  rw [List.take_succ_eq_append_getElem (by simpa using h)]
  congr 1
  · rw [List.take_set_of_le (Nat.le_refl _)]
  · simp
theorem gcd_step (a b : Int) : Nat.gcd b.natAbs (a.tmod b).natAbs = Nat.gcd a.natAbs b.natAbs := by
  rw [Int.natAbs_tmod, Nat.gcd_comm a.natAbs b.natAbs]
  rw [Nat.gcd_rec b.natAbs a.natAbs, Nat.gcd_comm]
theorem divisor_loop : ∀ (n : Nat) (k : Nat) (a b : Int), b.natAbs ≤ n → n < k → a.natAbs ≤ 1000000 → b.natAbs ≤ 1000000 → impl_divisor.l0 k a b = some ((Nat.gcd a.natAbs b.natAbs : Nat) : Int) := by
  intro n
  induction n with
  | zero =>
    intro k a b hb hk ha _
    obtain ⟨k, rfl⟩ : ∃ m, k = m + 1 := ⟨k - 1, by omega⟩
    obtain rfl : b = 0 := by omega
    simp only [impl_divisor.l0, if_true, Int.natAbs_zero, Nat.gcd_zero_right]
    split
    · rw [w64 (by omega) (by omega)]; congr 1; omega
    · congr 1; omega
  | succ n ih =>
    intro k a b hb hk ha hb2
    obtain ⟨k, rfl⟩ : ∃ m, k = m + 1 := ⟨k - 1, by omega⟩
    by_cases h0 : b = 0
    · subst h0
      simp only [impl_divisor.l0, if_true, Int.natAbs_zero, Nat.gcd_zero_right]
      split
      · rw [w64 (by omega) (by omega)]; congr 1; omega
      · congr 1; omega
    · have hlt : (a.tmod b).natAbs < b.natAbs := by rw [Int.natAbs_tmod]; exact Nat.mod_lt _ (by omega)
      simp only [impl_divisor.l0]
      rw [if_neg h0, ih k b (a.tmod b) (by omega) (by omega) hb2 (by omega), gcd_step]
theorem impl_divisor_eq (a b : Int) (ha : a.natAbs ≤ 1000000) (hb : b.natAbs ≤ 1000000) (k : Nat) (hk : 1000000 < k) : impl_divisor.f k a b = some ((Nat.gcd a.natAbs b.natAbs : Nat) : Int) := by
  unfold impl_divisor.f
  exact divisor_loop b.natAbs k a b (Nat.le_refl _) (by omega) ha hb
theorem gcd_loop : ∀ (n : Nat) (k : Nat) (a b : Int), 0 ≤ a → 0 ≤ b → b.natAbs ≤ n → n < k → spec_l03Gcd.l0 k a b = some ((Nat.gcd a.natAbs b.natAbs : Nat) : Int) := by
  intro n
  induction n with
  | zero =>
    intro k a b ha hb0 hb hk
    obtain ⟨k, rfl⟩ : ∃ m, k = m + 1 := ⟨k - 1, by omega⟩
    obtain rfl : b = 0 := by omega
    simp only [spec_l03Gcd.l0, Int.natAbs_zero, Nat.gcd_zero_right]
    rw [if_neg (by omega)]; congr 1; omega
  | succ n ih =>
    intro k a b ha hb0 hb hk
    obtain ⟨k, rfl⟩ : ∃ m, k = m + 1 := ⟨k - 1, by omega⟩
    by_cases h0 : b = 0
    · subst h0
      simp only [spec_l03Gcd.l0, Int.natAbs_zero, Nat.gcd_zero_right]
      rw [if_neg (by omega)]; congr 1; omega
    · have hlt : (a.tmod b).natAbs < b.natAbs := by rw [Int.natAbs_tmod]; exact Nat.mod_lt _ (by omega)
      have hnn : 0 ≤ a.tmod b := Int.tmod_nonneg b ha
      simp only [spec_l03Gcd.l0]
      rw [if_pos (by omega), if_neg h0, ih k b (a.tmod b) hb0 hnn (by omega) (by omega), gcd_step]
theorem mx_abs {a : Int} (ha : a.natAbs ≤ 1000000) : mx a (wrap64 (-a)) = (a.natAbs : Int) := by
  rw [w64 (by omega) (by omega)]; unfold mx; split <;> omega
theorem spec_gcd_eq (a b : Int) (ha : a.natAbs ≤ 1000000) (hb : b.natAbs ≤ 1000000) (k : Nat) (hk : 1000000 < k) : spec_l03Gcd.f k a b = some ((Nat.gcd a.natAbs b.natAbs : Nat) : Int) := by
  unfold spec_l03Gcd.f
  rw [mx_abs ha, mx_abs hb]
  have h := gcd_loop b.natAbs k (a.natAbs : Int) (b.natAbs : Int) (by omega) (by omega) (by omega) (by omega)
  simpa using h
def gcd4 (a b c r : Int) : Nat := Nat.gcd (Nat.gcd a.natAbs b.natAbs) (Nat.gcd c.natAbs r.natAbs)
theorem gcd4_pos {a b c r : Int} (h : 1 ≤ r) : 1 ≤ gcd4 a b c r := by
  unfold gcd4
  have h1 : 0 < Nat.gcd c.natAbs r.natAbs := Nat.gcd_pos_of_pos_right _ (by omega)
  exact Nat.gcd_pos_of_pos_right _ h1
theorem gcd4_one (a b c : Int) : gcd4 a b c 1 = 1 := by simp [gcd4]
abbrev bd (a : Int) : Prop := -1000000 ≤ a ∧ a ≤ 1000000
theorem gcd_bd {a b : Nat} (ha : a ≤ 1000000) (hb : b ≤ 1000000) : Nat.gcd a b ≤ 1000000 := by
  rcases Nat.eq_zero_or_pos a with h | h
  · subst h; simpa using hb
  · exact Nat.le_trans (Nat.gcd_le_left b h) ha
theorem tdiv_bd {a : Int} (ha : bd a) {g : Nat} (hg : 1 ≤ g) : bd (a.tdiv (g : Int)) := by
  have h1 := Int.natAbs_tdiv_le_natAbs a (g : Int)
  omega
def simpV (a b c r : Int) : Int × Int × Int × Int := (a.tdiv (gcd4 a b c r : Int), b.tdiv (gcd4 a b c r : Int), c.tdiv (gcd4 a b c r : Int), r.tdiv (gcd4 a b c r : Int))
theorem impl_simplest_eq {a b c r : Int} (ha : bd a) (hb : bd b) (hc : bd c) (hr : 1 ≤ r ∧ r ≤ 1000000) (k : Nat) (hk : 1000000 < k) : impl_simplest.f k a b c r = some (simpV a b c r) := by
  unfold impl_simplest.f
  rw [impl_divisor_eq a b (by omega) (by omega) k hk, impl_divisor_eq c r (by omega) (by omega) k hk]
  simp only [Option.bind_some]
  have g1 := gcd_bd (a := a.natAbs) (b := b.natAbs) (by omega) (by omega)
  have g2 := gcd_bd (a := c.natAbs) (b := r.natAbs) (by omega) (by omega)
  rw [impl_divisor_eq _ _ (by simpa using g1) (by simpa using g2) k hk]
  simp only [Option.bind_some, Int.natAbs_natCast]
  have hg := gcd4_pos (a := a) (b := b) (c := c) (r := r) hr.1
  have e : Nat.gcd (Nat.gcd a.natAbs b.natAbs) (Nat.gcd c.natAbs r.natAbs) = gcd4 a b c r := rfl
  rw [e, if_neg (by omega)]
  have b1 := tdiv_bd ha hg
  have b2 := tdiv_bd hb hg
  have b3 := tdiv_bd hc hg
  have b4 := tdiv_bd (show bd r by omega) hg
  rw [w64 (n := a.tdiv _) (by omega) (by omega), w64 (n := b.tdiv _) (by omega) (by omega), w64 (n := c.tdiv _) (by omega) (by omega), w64 (n := r.tdiv _) (by omega) (by omega)]
  rfl
theorem spec_simple_eq {a b c r : Int} (ha : bd a) (hb : bd b) (hc : bd c) (hr : 1 ≤ r ∧ r ≤ 1000000) (k : Nat) (hk : 1000000 < k) : spec_l03Simple.f k a b c r = some (simpV a b c r) := by
  unfold spec_l03Simple.f
  rw [spec_gcd_eq a b (by omega) (by omega) k hk, spec_gcd_eq c r (by omega) (by omega) k hk]
  simp only [Option.bind_some]
  have g1 := gcd_bd (a := a.natAbs) (b := b.natAbs) (by omega) (by omega)
  have g2 := gcd_bd (a := c.natAbs) (b := r.natAbs) (by omega) (by omega)
  rw [spec_gcd_eq _ _ (by simpa using g1) (by simpa using g2) k hk]
  simp only [Option.bind_some, Int.natAbs_natCast]
  have hg := gcd4_pos (a := a) (b := b) (c := c) (r := r) hr.1
  have e : Nat.gcd (Nat.gcd a.natAbs b.natAbs) (Nat.gcd c.natAbs r.natAbs) = gcd4 a b c r := rfl
  rw [e, if_neg (by omega)]
  have b1 := tdiv_bd ha hg
  have b2 := tdiv_bd hb hg
  have b3 := tdiv_bd hc hg
  have b4 := tdiv_bd (show bd r by omega) hg
  rw [w64 (n := a.tdiv _) (by omega) (by omega), w64 (n := b.tdiv _) (by omega) (by omega), w64 (n := c.tdiv _) (by omega) (by omega), w64 (n := r.tdiv _) (by omega) (by omega)]
  rfl
abbrev iOk (a b c r : Int) : Prop := (1 ≤ r ∧ r ≤ 12) ∧ (-400 ≤ a ∧ a ≤ 400) ∧ (-400 ≤ b ∧ b ≤ 400) ∧ (-400 ≤ c ∧ c ≤ 400)
theorem spec_IntervalOk_eq (a b c r : Int) : spec_IntervalOk.f a b c r = some (decide (iOk a b c r)) := by
  simp only [spec_IntervalOk.f, l01In_eq, Option.bind_some]
  by_cases h1 : 1 ≤ r ∧ r ≤ 12
  · rw [if_pos (decide_eq_true h1)]
    by_cases h2 : -400 ≤ a ∧ a ≤ 400
    · rw [if_pos (decide_eq_true h2)]
      by_cases h3 : -400 ≤ b ∧ b ≤ 400
      · rw [if_pos (decide_eq_true h3)]; congr 1; rw [decide_eq_decide]; omega
      · rw [if_neg (by simpa using h3)]; congr 1; symm; rw [decide_eq_false_iff_not]; omega
    · rw [if_neg (by simpa using h2)]; congr 1; symm; rw [decide_eq_false_iff_not]; omega
  · rw [if_neg (by simpa using h1)]; congr 1; symm; rw [decide_eq_false_iff_not]; omega
theorem impl_IntervalOk_eq (a b c r : Int) : impl_IntervalOk.f a b c r = some (decide (iOk a b c r)) := by
  simp only [impl_IntervalOk.f, within_eq, Option.bind_some]
  by_cases h1 : 1 ≤ r ∧ r ≤ 12
  · rw [if_pos (decide_eq_true h1)]
    by_cases h2 : -400 ≤ a ∧ a ≤ 400
    · rw [if_pos (decide_eq_true h2)]
      by_cases h3 : -400 ≤ b ∧ b ≤ 400
      · rw [if_pos (decide_eq_true h3)]; congr 1; rw [decide_eq_decide]; omega
      · rw [if_neg (by simpa using h3)]; congr 1; symm; rw [decide_eq_false_iff_not]; omega
    · rw [if_neg (by simpa using h2)]; congr 1; symm; rw [decide_eq_false_iff_not]; omega
  · rw [if_neg (by simpa using h1)]; congr 1; symm; rw [decide_eq_false_iff_not]; omega
/-- made simplest, if it is valid then -/
def checkV (a b c r : Int) : Int × Int × Int × Int × Bool :=
  if iOk (simpV a b c r).1 (simpV a b c r).2.1 (simpV a b c r).2.2.1 (simpV a b c r).2.2.2 then ((simpV a b c r).1, (simpV a b c r).2.1, (simpV a b c r).2.2.1, (simpV a b c r).2.2.2, true) else (0, 0, 0, 0, false)
theorem impl_okInterval_eq {a b c r : Int} (ha : bd a) (hb : bd b) (hc : bd c) (hr : 1 ≤ r ∧ r ≤ 1000000) (k : Nat) (hk : 1000000 < k) : impl_okInterval.f k a b c r = some (checkV a b c r) := by
  unfold impl_okInterval.f checkV
  rw [impl_simplest_eq ha hb hc hr k hk]
  simp only [Option.bind_some, impl_IntervalOk_eq]
  by_cases h : iOk (simpV a b c r).1 (simpV a b c r).2.1 (simpV a b c r).2.2.1 (simpV a b c r).2.2.2
  · rw [if_pos (decide_eq_true h), if_pos h]
  · rw [if_neg (by simpa using h), if_neg h]
theorem spec_checked_eq {a b c r : Int} (ha : bd a) (hb : bd b) (hc : bd c) (hr : 1 ≤ r ∧ r ≤ 1000000) (k : Nat) (hk : 1000000 < k) : spec_l03Checked.f k a b c r = some (checkV a b c r) := by
  unfold spec_l03Checked.f checkV
  rw [spec_simple_eq ha hb hc hr k hk]
  simp only [Option.bind_some, spec_IntervalOk_eq]
  by_cases h : iOk (simpV a b c r).1 (simpV a b c r).2.1 (simpV a b c r).2.2.1 (simpV a b c r).2.2.2
  · rw [if_pos (decide_eq_true h), if_pos h]
  · rw [if_neg (by simpa using h), if_neg h]
def addV (a0 a1 a2 a3 b0 b1 b2 b3 : Int) : Int × Int × Int × Int × Bool :=
  if iOk a0 a1 a2 a3 ∧ iOk b0 b1 b2 b3 then checkV (a0 * b3 + b0 * a3) (a1 * b3 + b1 * a3) (a2 * b3 + b2 * a3) (a3 * b3) else (0, 0, 0, 0, false)
theorem mul_small {a b : Int} (ha : -400 ≤ a ∧ a ≤ 400) (hb : 1 ≤ b ∧ b ≤ 12) : -4800 ≤ a * b ∧ a * b ≤ 4800 := by
  have : b = 1 ∨ b = 2 ∨ b = 3 ∨ b = 4 ∨ b = 5 ∨ b = 6 ∨ b = 7 ∨ b = 8 ∨ b = 9 ∨ b = 10 ∨ b = 11 ∨ b = 12 := by omega
  rcases this with h | h | h | h | h | h | h | h | h | h | h | h <;> subst h <;> omega
theorem add_num {a0 a1 a2 a3 b0 b1 b2 b3 : Int} (h : iOk a0 a1 a2 a3 ∧ iOk b0 b1 b2 b3) :
    wrap64 ((wrap64 (a0 * b3)) + (wrap64 (b0 * a3))) = a0 * b3 + b0 * a3 ∧ wrap64 ((wrap64 (a1 * b3)) + (wrap64 (b1 * a3))) = a1 * b3 + b1 * a3 ∧ wrap64 ((wrap64 (a2 * b3)) + (wrap64 (b2 * a3))) = a2 * b3 + b2 * a3 ∧ wrap64 (a3 * b3) = a3 * b3 ∧
    bd (a0 * b3 + b0 * a3) ∧ bd (a1 * b3 + b1 * a3) ∧ bd (a2 * b3 + b2 * a3) ∧ (1 ≤ a3 * b3 ∧ a3 * b3 ≤ 1000000) := by
  obtain ⟨ha, hb⟩ := h
  have p0 := mul_small ha.2.1 hb.1
  have p1 := mul_small ha.2.2.1 hb.1
  have p2 := mul_small ha.2.2.2 hb.1
  have q0 := mul_small hb.2.1 ha.1
  have q1 := mul_small hb.2.2.1 ha.1
  have q2 := mul_small hb.2.2.2 ha.1
  have p3 := mul_small (show -400 ≤ a3 ∧ a3 ≤ 400 by omega) hb.1
  have p4 : 0 < a3 * b3 := Int.mul_pos (by omega) (by omega)
  rw [w64 (n := a0 * b3) (by omega) (by omega), w64 (n := b0 * a3) (by omega) (by omega), w64 (n := a1 * b3) (by omega) (by omega), w64 (n := b1 * a3) (by omega) (by omega), w64 (n := a2 * b3) (by omega) (by omega), w64 (n := b2 * a3) (by omega) (by omega)]
  refine ⟨w64 (by omega) (by omega), w64 (by omega) (by omega), w64 (by omega) (by omega), w64 (by omega) (by omega), by omega, by omega, by omega, by omega⟩
theorem impl_AddIntervals_eq (a0 a1 a2 a3 b0 b1 b2 b3 : Int) (k : Nat) (hk : 1000000 < k) : impl_AddIntervals.f k a0 a1 a2 a3 b0 b1 b2 b3 = some (addV a0 a1 a2 a3 b0 b1 b2 b3) := by
  unfold impl_AddIntervals.f addV
  simp only [impl_IntervalOk_eq, Option.bind_some]
  by_cases h1 : iOk a0 a1 a2 a3
  · rw [if_pos (decide_eq_true h1)]
    by_cases h2 : iOk b0 b1 b2 b3
    · obtain ⟨e0, e1, e2, e3, n0, n1, n2, n3⟩ := add_num ⟨h1, h2⟩
      rw [if_pos (decide_eq_true h2), if_pos ⟨h1, h2⟩, e0, e1, e2, e3, impl_okInterval_eq n0 n1 n2 n3 k hk]
      rfl
    · rw [if_neg (by simpa using h2), if_neg (fun hh => h2 hh.2)]
  · rw [if_neg (by simpa using h1), if_neg (fun hh => h1 hh.1)]
theorem spec_AddIntervals_eq (a0 a1 a2 a3 b0 b1 b2 b3 : Int) (k : Nat) (hk : 1000000 < k) : spec_AddIntervals.f k a0 a1 a2 a3 b0 b1 b2 b3 = some (addV a0 a1 a2 a3 b0 b1 b2 b3) := by
  unfold spec_AddIntervals.f addV
  simp only [spec_IntervalOk_eq, Option.bind_some]
  by_cases h1 : iOk a0 a1 a2 a3
  · rw [if_pos (decide_eq_true h1)]
    by_cases h2 : iOk b0 b1 b2 b3
    · obtain ⟨e0, e1, e2, e3, n0, n1, n2, n3⟩ := add_num ⟨h1, h2⟩
      rw [if_pos (decide_eq_true h2), if_pos ⟨h1, h2⟩, e0, e1, e2, e3, spec_checked_eq n0 n1 n2 n3 k hk]
      rfl
    · rw [if_neg (by simpa using h2), if_neg (fun hh => h2 hh.2)]
  · rw [if_neg (by simpa using h1), if_neg (fun hh => h1 hh.1)]
theorem impl_PureOf_eq (a b c : Int) : impl_PureOf.f a b c = some (if iOk a b c 1 then (a, b, c, 1) else (0, 0, 0, 0)) := by
  unfold impl_PureOf.f
  simp only [impl_IntervalOk_eq, Option.bind_some]
  by_cases h : iOk a b c 1
  · rw [if_pos (decide_eq_true h), if_pos h]
  · rw [if_neg (by simpa using h), if_neg h]
theorem rdV_nat (x : List S86) (n : Nat) : rd_T86 x (n : Int) = x.getD n z86 := by unfold rd_T86; rw [Int.toNat_natCast]
def sumV : List S86 → Int → Int → Int → Int → Int × Int × Int × Int × Bool
  | [], a, b, c, r => (a, b, c, r, true)
  | x :: xs, a, b, c, r => if (addV a b c r x.f0 x.f1 x.f2 x.f3).2.2.2.2 = true then sumV xs (addV a b c r x.f0 x.f1 x.f2 x.f3).1 (addV a b c r x.f0 x.f1 x.f2 x.f3).2.1 (addV a b c r x.f0 x.f1 x.f2 x.f3).2.2.1 (addV a b c r x.f0 x.f1 x.f2 x.f3).2.2.2.1 else (0, 0, 0, 0, false)
theorem impl_sum_loop (x : List S86) (hx : x.length ≤ 40) : ∀ (d n k : Nat) (a b c r : Int), n ≤ x.length → x.length - n = d → d + 1000001 < k → impl_SumOf.l0 k x (x.length : Int) (n : Int) a b c r = some (sumV (x.drop n) a b c r) := by
  intro d
  induction d with
  | zero =>
    intro n k a b c r h1 h2 hk
    obtain ⟨k, rfl⟩ : ∃ m, k = m + 1 := ⟨k - 1, by omega⟩
    simp only [impl_SumOf.l0]
    rw [if_neg (by omega), List.drop_of_length_le (by omega)]
    rfl
  | succ d ih =>
    intro n k a b c r h1 h2 hk
    obtain ⟨k, rfl⟩ : ∃ m, k = m + 1 := ⟨k - 1, by omega⟩
    simp only [impl_SumOf.l0]
    rw [if_pos (by omega), if_pos (by omega), if_pos (by omega), rdV_nat, wrap_next (by omega), drop_getD x z86 n (by omega), impl_AddIntervals_eq _ _ _ _ _ _ _ _ k (by omega)]
    simp only [Option.bind_some, sumV]
    split
    · exact ih (n + 1) k _ _ _ _ (by omega) (by omega) (by omega)
    · rfl
def sumOfV (x : List S86) : Int × Int × Int × Int × Bool := if x.length ≤ 40 then sumV x 0 0 0 1 else (0, 0, 0, 0, false)
theorem impl_SumOf_eq (x : List S86) (k : Nat) (hk : 1000100 < k) : impl_SumOf.f k x = some (sumOfV x) := by
  unfold impl_SumOf.f sumOfV
  rw [impl_PureOf_eq, if_pos (by omega)]
  simp only [Option.bind_some]
  by_cases h : x.length ≤ 40
  · rw [if_neg (by omega), if_pos h]
    have e := impl_sum_loop x h x.length 0 k 0 0 0 1 (by omega) (by omega) (by omega)
    simpa using e
  · rw [if_pos (by omega), if_neg h]
theorem spec_sum_loop (x : List S86) (hx : x.length ≤ 40) : ∀ (d n k : Nat) (a b c r : Int), n ≤ x.length → x.length - n = d → d + 1000001 < k → spec_SumOf.l0 k x (n : Int) a b c r = some (sumV (x.drop n) a b c r) := by
  intro d
  induction d with
  | zero =>
    intro n k a b c r h1 h2 hk
    obtain ⟨k, rfl⟩ : ∃ m, k = m + 1 := ⟨k - 1, by omega⟩
    simp only [spec_SumOf.l0]
    rw [if_neg (by omega), List.drop_of_length_le (by omega)]
    rfl
  | succ d ih =>
    intro n k a b c r h1 h2 hk
    obtain ⟨k, rfl⟩ : ∃ m, k = m + 1 := ⟨k - 1, by omega⟩
    simp only [spec_SumOf.l0]
    rw [if_pos (by omega), if_pos (by omega), rdV_nat, wrap_next (by omega), drop_getD x z86 n (by omega), spec_AddIntervals_eq _ _ _ _ _ _ _ _ k (by omega)]
    simp only [Option.bind_some, sumV]
    split
    · exact ih (n + 1) k _ _ _ _ (by omega) (by omega) (by omega)
    · rfl
theorem spec_SumOf_eq (x : List S86) (k : Nat) (hk : 1000100 < k) : spec_SumOf.f k x = some (sumOfV x) := by
  unfold spec_SumOf.f sumOfV
  by_cases h : x.length ≤ 40
  · rw [if_neg (by omega), if_pos h]
    have e := spec_sum_loop x h x.length 0 k 0 0 0 1 (by omega) (by omega) (by omega)
    simpa using e
  · rw [if_pos (by omega), if_neg h]
theorem rdIa_nat (x : List S112) (n : Nat) : rd_T112 x (n : Int) = x.getD n z112 := by unfold rd_T112; rw [Int.toNat_natCast]
def conI (s : S112) : S86 := ⟨s.f0, s.f1, s.f2, s.f3⟩
theorem toIntervalS_loop (x : List S112) (hb : x.length ≤ 140737488355328) : ∀ (d n k : Nat) (y : List S86), n ≤ x.length → x.length - n = d → d < k → y.length = x.length →
    laws_toIntervalS.l0 k x y (n : Int) = some (y.take n ++ (x.drop n).map conI) := by
  intro d
  induction d with
  | zero =>
    intro n k y h1 h2 hk hy
    obtain ⟨k, rfl⟩ : ∃ m, k = m + 1 := ⟨k - 1, by omega⟩
    simp only [laws_toIntervalS.l0]
    rw [if_neg (by omega), List.take_of_length_le (by omega), List.drop_of_length_le (by omega)]
    simp
  | succ d ih =>
    intro n k y h1 h2 hk hy
    obtain ⟨k, rfl⟩ : ∃ m, k = m + 1 := ⟨k - 1, by omega⟩
    simp only [laws_toIntervalS.l0, laws_toInterval.f, Option.bind_some]
    rw [if_pos (by omega), if_pos (by omega), if_pos (by omega), rdIa_nat, wrap_next (by omega), Int.toNat_natCast]
    rw [ih (n + 1) k _ (by omega) (by omega) (by omega) (by simpa using hy), take_set_next y n _ (by omega), drop_getD x z112 n (by omega)]
    rw [List.map_cons, List.append_assoc]
    rfl
theorem toIntervalS_eq (x : List S112) (hb : x.length ≤ 1048576) (k : Nat) (hk : x.length < k) : laws_toIntervalS.f k x = some (x.map conI) := by
  unfold laws_toIntervalS.f
  rw [if_pos (by omega), Int.toNat_natCast, if_pos (by omega)]
  have h := toIntervalS_loop x (by omega) x.length 0 k (List.replicate x.length z86) (by omega) (by omega) hk (by simp)
  simpa using h
theorem eqIntervalS_loop (x : List S86) (hb : x.length ≤ 140737488355328) : ∀ (d n k : Nat), n ≤ x.length → x.length - n = d → d < k → laws_eqIntervalS.l0 k x x (n : Int) = some true := by
  intro d
  induction d with
  | zero =>
    intro n k h1 h2 hk
    obtain ⟨k, rfl⟩ : ∃ m, k = m + 1 := ⟨k - 1, by omega⟩
    simp only [laws_eqIntervalS.l0]
    rw [if_neg (by omega)]
  | succ d ih =>
    intro n k h1 h2 hk
    obtain ⟨k, rfl⟩ : ∃ m, k = m + 1 := ⟨k - 1, by omega⟩
    simp only [laws_eqIntervalS.l0, laws_eqInterval.f]
    rw [if_pos (by omega), if_pos (by omega), if_pos (by omega), wrap_next (by omega)]
    simp only [if_true, Option.bind_some]
    exact ih (n + 1) k (by omega) (by omega) (by omega)
theorem eqIntervalS_self (x : List S86) (hb : x.length ≤ 140737488355328) (k : Nat) (hk : x.length < k) : laws_eqIntervalS.f k x x = some true := by
  unfold laws_eqIntervalS.f
  rw [if_pos rfl]
  exact eqIntervalS_loop x hb x.length 0 k (by omega) (by omega) hk
theorem eqInterval_self (a b c r : Int) : laws_eqInterval.f a b c r a b c r = some true := by simp [laws_eqInterval.f]
theorem checkV_ok (a b c r : Int) (h : (checkV a b c r).2.2.2.2 = true) : iOk (checkV a b c r).1 (checkV a b c r).2.1 (checkV a b c r).2.2.1 (checkV a b c r).2.2.2.1 := by
  unfold checkV at h ⊢
  split at h
  · rename_i hh; rw [if_pos hh]; exact hh
  · simp at h
theorem addV_ok (a0 a1 a2 a3 b0 b1 b2 b3 : Int) (h : (addV a0 a1 a2 a3 b0 b1 b2 b3).2.2.2.2 = true) : iOk (addV a0 a1 a2 a3 b0 b1 b2 b3).1 (addV a0 a1 a2 a3 b0 b1 b2 b3).2.1 (addV a0 a1 a2 a3 b0 b1 b2 b3).2.2.1 (addV a0 a1 a2 a3 b0 b1 b2 b3).2.2.2.1 := by
  unfold addV at h ⊢
  split at h
  · rename_i hh; rw [if_pos hh]; exact checkV_ok _ _ _ _ h
  · simp at h
theorem sumV_ok : ∀ (x : List S86) (a b c r : Int), iOk a b c r → (sumV x a b c r).2.2.2.2 = true → iOk (sumV x a b c r).1 (sumV x a b c r).2.1 (sumV x a b c r).2.2.1 (sumV x a b c r).2.2.2.1 := by
  intro x
  induction x with
  | nil => intro a b c r h _; exact h
  | cons y ys ih =>
    intro a b c r h hf
    unfold sumV at hf ⊢
    split at hf
    · rename_i hh; rw [if_pos hh]; exact ih _ _ _ _ (addV_ok _ _ _ _ _ _ _ _ hh) hf
    · simp at hf
theorem sumOfV_ok (x : List S86) (h : (sumOfV x).2.2.2.2 = true) : iOk (sumOfV x).1 (sumOfV x).2.1 (sumOfV x).2.2.1 (sumOfV x).2.2.2.1 := by
  unfold sumOfV at h ⊢
  split at h
  · rename_i hh; rw [if_pos hh]; exact sumV_ok _ _ _ _ _ (by omega) h
  · simp at h
theorem best12_small : impl_BestMap.f 400 12 = some (12, 19, 28) := by decide +kernel
theorem best12_up : ∀ n : Nat, impl_BestMap.f (400 + n) 12 = some (12, 19, 28)
  | 0 => best12_small
  | n + 1 => impl_BestMap.mono 12 (400 + n) _ (best12_up n)
theorem best12 (k : Nat) (hk : 400 ≤ k) : impl_BestMap.f k 12 = some (12, 19, 28) := by
  have h := best12_up (k - 400)
  rwa [show 400 + (k - 400) = k by omega] at h
def stepV (a b c : Int) : Int := 12 * a + 19 * b + 28 * c
theorem steps_num {a b c : Int} (h : iOk a b c 1) : wrap64 ((wrap64 ((wrap64 (12 * a)) + (wrap64 (19 * b)))) + (wrap64 (28 * c))) = stepV a b c := by
  unfold stepV
  rw [w64 (n := 12 * a) (by omega) (by omega), w64 (n := 19 * b) (by omega) (by omega), w64 (n := 28 * c) (by omega) (by omega), w64 (n := 12 * a + 19 * b) (by omega) (by omega), w64 (by omega) (by omega)]
theorem impl_StepsIn_eq {a b c : Int} (h : iOk a b c 1) : impl_StepsIn.f 12 19 28 a b c 1 = some (stepV a b c, true) := by
  unfold impl_StepsIn.f impl_MapOk.f
  simp only [impl_IntervalOk_eq, within_eq, Option.bind_some]
  rw [decide_eq_true h, steps_num h]
  simp
theorem spec_StepsIn_eq {a b c : Int} (h : iOk a b c 1) : spec_StepsIn.f 12 19 28 a b c 1 = some (stepV a b c, true) := by
  unfold spec_StepsIn.f spec_MapOk.f
  simp only [spec_IntervalOk_eq, l01In_eq, Option.bind_some]
  rw [decide_eq_true h, steps_num h]
  simp
theorem drift_num {a b c : Int} (h : iOk a b c 1) : wrap64 (a - (wrap64 (Int.tdiv (stepV a b c) 12))) = a - Int.tdiv (stepV a b c) 12 ∧ bd (a - Int.tdiv (stepV a b c) 12) := by
  have h1 := Int.natAbs_tdiv_le_natAbs (stepV a b c) 12
  have h2 : (stepV a b c).natAbs ≤ 23600 := by unfold stepV; omega
  rw [w64 (n := Int.tdiv (stepV a b c) 12) (by omega) (by omega), w64 (by omega) (by omega)]
  exact ⟨rfl, by omega⟩
def driftV (x : List S86) : Int × Int × Int × Int × Bool :=
  if (sumOfV x).2.2.2.2 = true ∧ (sumOfV x).2.2.2.1 = 1 then
    (if Int.tmod (stepV (sumOfV x).1 (sumOfV x).2.1 (sumOfV x).2.2.1) 12 = 0 then checkV ((sumOfV x).1 - Int.tdiv (stepV (sumOfV x).1 (sumOfV x).2.1 (sumOfV x).2.2.1) 12) (sumOfV x).2.1 (sumOfV x).2.2.1 1 else (0, 0, 0, 0, false))
  else (0, 0, 0, 0, false)
theorem impl_DriftOf_eq (x : List S86) (k : Nat) (hk : 2000000 < k) : impl_DriftOf.f k x = some (driftV x) := by
  unfold impl_DriftOf.f driftV
  rw [impl_SumOf_eq x k (by omega)]
  simp only [Option.bind_some]
  have hs := sumOfV_ok x
  generalize sumOfV x = s at hs ⊢
  obtain ⟨a, b, c, r, o⟩ := s
  obtain ⟨k, rfl⟩ : ∃ m, k = m + 1 := ⟨k - 1, by omega⟩
  dsimp only at hs ⊢
  by_cases ho : o = true
  · subst ho
    rw [if_pos rfl]
    simp only [impl_DriftOf.j0]
    by_cases hr : r = 1
    · subst hr
      have hi := hs rfl
      obtain ⟨e, e2⟩ := drift_num hi
      rw [if_neg (by decide), best12 k (by omega), if_pos (by simp)]
      simp only [Option.bind_some]
      rw [impl_StepsIn_eq hi]
      simp only [Option.bind_some]
      by_cases hm : Int.tmod (stepV a b c) 12 = 0
      · rw [if_pos hm, if_pos hm, e, impl_okInterval_eq e2 (by omega) (by omega) (by omega) k (by omega)]
        rfl
      · rw [if_neg hm, if_neg hm]
    · rw [if_pos (by simpa using hr), if_neg (fun hh => hr hh.2)]
  · rw [if_neg ho, if_neg (fun hh => ho hh.1)]
    simp only [impl_DriftOf.j0]
    simp
theorem spec_DriftOf_eq (x : List S86) (k : Nat) (hk : 2000000 < k) : spec_DriftOf.f k x = some (driftV x) := by
  unfold spec_DriftOf.f driftV
  rw [spec_SumOf_eq x k (by omega)]
  simp only [Option.bind_some]
  have hs := sumOfV_ok x
  generalize sumOfV x = s at hs ⊢
  obtain ⟨a, b, c, r, o⟩ := s
  obtain ⟨k, rfl⟩ : ∃ m, k = m + 1 := ⟨k - 1, by omega⟩
  dsimp only at hs ⊢
  by_cases ho : o = true
  · subst ho
    rw [if_pos rfl]
    simp only [spec_DriftOf.j0]
    by_cases hr : r = 1
    · subst hr
      have hi := hs rfl
      obtain ⟨e, e2⟩ := drift_num hi
      rw [if_neg (by decide), if_pos (by simp), spec_StepsIn_eq hi]
      simp only [Option.bind_some]
      by_cases hm : Int.tmod (stepV a b c) 12 = 0
      · rw [if_pos hm, if_pos hm, e, spec_checked_eq e2 (by omega) (by omega) (by omega) k (by omega)]
        rfl
      · rw [if_neg hm, if_neg hm]
    · rw [if_pos (by simpa using hr), if_neg (fun hh => hr hh.2)]
  · rw [if_neg ho, if_neg (fun hh => ho hh.1)]
    simp only [spec_DriftOf.j0]
    simp
def pureV (x : List S86) : Bool := if (driftV x).2.2.2.2 = true then ((driftV x).1 == 0 && ((driftV x).2.1 == 0 && ((driftV x).2.2.1 == 0 && ((driftV x).2.2.2.1 == 1)))) else false
theorem impl_IsPure_eq (x : List S86) (k : Nat) (hk : 2000000 < k) : impl_IsPure.f k x = some (pureV x) := by
  unfold impl_IsPure.f pureV
  rw [impl_DriftOf_eq x k hk, impl_PureOf_eq, if_pos (by omega)]
  simp only [Option.bind_some]
  split <;> rfl
theorem spec_IsPure_eq (x : List S86) (k : Nat) (hk : 2000000 < k) : spec_IsPure.f k x = some (pureV x) := by
  unfold spec_IsPure.f pureV
  rw [spec_DriftOf_eq x k hk]
  simp only [Option.bind_some]
  split <;> rfl
theorem pure_law (l : List S112) (hm : l.length ≤ 9223372036854775807) (k : Nat) (hk : 3000000 < k) : laws_FnExactIsPure.f k l = some true := by
  unfold laws_FnExactIsPure.f
  simp only [laws_szIntervalS.f]
  rw [w64 (n := 1048576 - (l.length : Int)) (by omega) (by omega)]
  by_cases hl : 1048576 - (l.length : Int) < 0
  · rw [if_pos hl]; simp
  · have hlen : (l.map conI).length = l.length := by simp
    rw [if_neg hl]
    simp only [Option.bind_some]
    rw [if_neg hl, toIntervalS_eq l (by omega) k (by omega)]
    simp only [Option.bind_some]
    rw [spec_IsPure_eq _ k (by omega), impl_IsPure_eq _ k (by omega)]
    simp only [Option.bind_some]
    rw [if_neg (by simp), eqIntervalS_self _ (by omega) k (by omega)]
    simp
theorem FnExactIsPure (l : List S112) (hm : l.length ≤ 9223372036854775807) : ∃ k, laws_FnExactIsPure.f k l = some true := by
  obtain ⟨k, hk⟩ : ∃ k : Nat, 3000000 < k := ⟨3000001, by omega⟩
  exact ⟨k, pure_law l hm k hk⟩
end Go.Proofs.Ytbimhcdfojbjgac.Pure
