/- The plain law of FnExactIsSlender: the printed function of the law answers true. Its conditions are those of the statement's own bounds. -/
import Derived.Test.YtbimhcdfojbjgaaHFnExactIsSlenderx1
namespace Go.Proofs.Ytbimhcdfojbjgaa.Pure
open Go.RowKit Go.Proofs.Ytbimhcdfojbjgaa.PFnExactIsSlender Go.Proofs.YtbimhcdfojbjgaaW.PrintWords Go.Proofs.YtbimhcdfojbjgaaW.PrintLast Go.Proofs.YtbimhcdfojbjgaaW.PrintMore
set_option linter.unusedVariables false
theorem l01In_eq (a b c : Int) : spec_l01In.f a b c = some (decide (b ≤ a ∧ a ≤ c)) := by
  unfold spec_l01In.f
  by_cases h : a ≥ b
  · rw [if_pos h]; congr 1; by_cases h2 : a ≤ c <;> simp [h2, h]
  · rw [if_neg h]; congr 1; simp; omega
theorem within_eq (a b c : Int) : impl_within.f a b c = some (decide (b ≤ a ∧ a ≤ c)) := by
  unfold impl_within.f
  by_cases h : b ≤ a
  · rw [if_pos h]; congr 1; by_cases h2 : a ≤ c <;> simp [h2, h]
  · rw [if_neg h]; congr 1; simp; omega
theorem law_of {α : Type} [DecidableEq α] {s i : Option α} {r : α} (hs : s = some r) (hi : i = some r) : (s.bind fun t => i.bind fun u => if u = t then some true else some false) = some true := by
  subst hs hi; simp
theorem law_ofb {s i : Option Bool} {r : Bool} (hs : s = some r) (hi : i = some r) : (s.bind fun t => i.bind fun u => if (u != t) = true then some false else some true) = some true := by
  subst hs hi; simp
theorem wf_i64 {a : Int} (h : (Lit.int .i64 a).wf = true) : -9223372036854775808 ≤ a ∧ a ≤ 9223372036854775807 := by
  have h' : (decide ((-9223372036854775808 : Int) ≤ a) && decide (a ≤ 9223372036854775807)) = true := h
  simp at h'; omega
theorem w64 {n : Int} (h1 : -9223372036854775808 ≤ n) (h2 : n ≤ 9223372036854775807) : wrap64 n = n := by unfold wrap64; omega
theorem mul_bd {a b A B : Int} (h0 : 0 ≤ a) (h1 : a ≤ A) (h2 : 0 ≤ b) (h3 : b ≤ B) : 0 ≤ a * b ∧ a * b ≤ A * B := by
  refine ⟨Int.mul_nonneg h0 h2, ?_⟩
  exact Int.le_trans (Int.mul_le_mul_of_nonneg_right h1 h2) (Int.mul_le_mul_of_nonneg_left h3 (by omega))
theorem tdiv_nn {a b : Int} (h : 0 ≤ a) : a.tdiv b = a / b := Int.tdiv_eq_ediv_of_nonneg h
theorem div_bd {a A c : Int} (h0 : 0 ≤ a) (h1 : a ≤ A) (hc : 0 < c) : 0 ≤ a / c ∧ a / c ≤ A / c :=
  ⟨Int.ediv_nonneg h0 (by omega), Int.ediv_le_ediv hc h1⟩
def lenOf (x : Int) : Int := if 20 ≤ x ∧ x ≤ 8000 then 170000 / x else 0
theorem div_anti {n a b : Int} (hn : 0 ≤ n) (ha : 0 < a) (hab : a ≤ b) : n / b ≤ n / a := by
  apply Int.le_ediv_of_mul_le ha
  have h1 := Int.ediv_mul_le n (show b ≠ 0 by omega)
  have h2 : n / b * a ≤ n / b * b := Int.mul_le_mul_of_nonneg_left hab (Int.ediv_nonneg hn (by omega))
  omega
theorem lenOf_bd (x : Int) : 0 ≤ lenOf x ∧ lenOf x ≤ 8500 := by
  unfold lenOf
  split
  · have h := div_anti (n := 170000) (a := 20) (b := x) (by omega) (by omega) (by omega)
    exact ⟨Int.ediv_nonneg (by omega) (by omega), by omega⟩
  · omega
theorem spec_LengthOf_eq (x : Int) : spec_LengthOf.f x = some (lenOf x) := by
  have hb := lenOf_bd x
  simp only [spec_LengthOf.f, l01In_eq, Option.bind_some]
  unfold lenOf at hb ⊢
  by_cases h : 20 ≤ x ∧ x ≤ 8000
  · rw [if_pos h] at hb ⊢
    rw [if_pos (decide_eq_true h), if_neg (by omega), w64 (by omega) (by omega)]
  · rw [if_neg h, if_neg (by simpa using h)]
theorem impl_LengthOf_eq (x : Int) : impl_LengthOf.f x = some (lenOf x) := by
  have hb := lenOf_bd x
  simp only [impl_LengthOf.f, within_eq, Option.bind_some]
  unfold lenOf at hb ⊢
  by_cases h : 20 ≤ x ∧ x ≤ 8000
  · rw [if_pos h] at hb ⊢
    rw [if_pos (decide_eq_true h), if_neg (by omega), w64 (by omega) (by omega)]
  · rw [if_neg h, if_neg (by simpa using h)]
theorem spec_RankOk_eq (a b c : Int) : spec_RankOk.f a b c = some (decide (1 ≤ a ∧ a ≤ 61 ∧ 10 ≤ b ∧ b ≤ 5000 ∧ 8 ≤ c ∧ c ≤ 24)) := by
  simp only [spec_RankOk.f, l01In_eq, Option.bind_some]
  repeat' split
  all_goals (simp_all <;> omega)
theorem impl_RankOk_eq (a b c : Int) : impl_RankOk.f a b c = some (decide (1 ≤ a ∧ a ≤ 61 ∧ 10 ≤ b ∧ b ≤ 5000 ∧ 8 ≤ c ∧ c ≤ 24)) := by
  simp only [impl_RankOk.f, within_eq, Option.bind_some]
  repeat' split
  all_goals (simp_all <;> omega)
theorem shl_num {c : Int} {q : Int} (hc : 8 ≤ c ∧ c ≤ 24) (hq : 0 ≤ q ∧ q ≤ 7) : shl .i64 (wrap64 (2 * c)) q = 2 * c * 2 ^ q.toNat ∧ 16 ≤ 2 * c * 2 ^ q.toNat ∧ 2 * c * 2 ^ q.toNat ≤ 6144 := by
  have e1 : wrap64 (2 * c) = 2 * c := w64 (by omega) (by omega)
  rw [e1]
  have hq' : q.toNat ≤ 7 := by omega
  have : ∀ n : Nat, n ≤ 7 → shl .i64 (2 * c) (n : Int) = 2 * c * 2 ^ n ∧ 16 ≤ 2 * c * 2 ^ n ∧ 2 * c * 2 ^ n ≤ 6144 := by
    intro n hn
    have h2 : (1 : Int) ≤ 2 ^ n ∧ (2 : Int) ^ n ≤ 128 := by
      have : n = 0 ∨ n = 1 ∨ n = 2 ∨ n = 3 ∨ n = 4 ∨ n = 5 ∨ n = 6 ∨ n = 7 := by omega
      rcases this with h | h | h | h | h | h | h | h <;> subst h <;> decide
    have b := mul_bd (a := 2 * c) (b := 2 ^ n) (A := 48) (B := 128) (by omega) (by omega) (by omega) h2.2
    have b2 : 2 * c * 1 ≤ 2 * c * 2 ^ n := Int.mul_le_mul_of_nonneg_left h2.1 (by omega)
    refine ⟨?_, by omega, by omega⟩
    unfold shl
    have hm : min ((n : Int).toNat) (IntKind.bits .i64) = n := by
      have : IntKind.bits .i64 = 64 := rfl
      rw [this]; simp; omega
    rw [hm]
    have hw : IntKind.i64.wrap (2 * c * 2 ^ n) = wrap64 (2 * c * 2 ^ n) := by rw [IntKind.wrap_i64, wrap64]
    rw [hw]
    exact w64 (by omega) (by omega)
  have h := this q.toNat hq'
  rwa [Int.toNat_of_nonneg hq.1] at h
def diam (b c k : Int) : Int := b * (2 * c - k % c) / (2 * c * 2 ^ (k / c).toNat)
def diamOf (a b c k : Int) : Int := if (1 ≤ a ∧ a ≤ 61 ∧ 10 ≤ b ∧ b ≤ 5000 ∧ 8 ≤ c ∧ c ≤ 24) ∧ (0 ≤ k ∧ k ≤ a - 1) then diam b c k else 0
theorem diam_q {c k : Int} (hc : 8 ≤ c ∧ c ≤ 24) (hk : 0 ≤ k ∧ k ≤ 60) : 0 ≤ k / c ∧ k / c ≤ 7 ∧ 0 ≤ k % c ∧ k % c < c := by
  have h1 : 0 ≤ k / c := Int.ediv_nonneg hk.1 (by omega)
  have h2 : k / c * c ≤ k := Int.ediv_mul_le k (by omega)
  have h3 : k / c * 8 ≤ k / c * c := Int.mul_le_mul_of_nonneg_left hc.1 h1
  exact ⟨h1, by omega, Int.emod_nonneg k (by omega), Int.emod_lt_of_pos k (by omega)⟩
theorem diam_bd {b c k : Int} (hb : 10 ≤ b ∧ b ≤ 5000) (hc : 8 ≤ c ∧ c ≤ 24) (hk : 0 ≤ k ∧ k ≤ 60) : 0 ≤ b * (2 * c - k % c) ∧ b * (2 * c - k % c) ≤ 240000 ∧ 0 ≤ diam b c k ∧ diam b c k ≤ 240000 := by
  obtain ⟨q0, q1, r0, r1⟩ := diam_q hc hk
  have h := mul_bd (a := b) (b := 2 * c - k % c) (A := 5000) (B := 48) (by omega) hb.2 (by omega) (by omega)
  obtain ⟨_, s1, s2⟩ := shl_num hc ⟨q0, q1⟩
  refine ⟨h.1, by omega, Int.ediv_nonneg h.1 (by omega), ?_⟩
  exact Int.le_trans (Int.ediv_le_self _ h.1) (by omega)
theorem diam_num {a b c k : Int} (h : 1 ≤ a ∧ a ≤ 61 ∧ 10 ≤ b ∧ b ≤ 5000 ∧ 8 ≤ c ∧ c ≤ 24) (hk : 0 ≤ k ∧ k ≤ a - 1) :
    (if c = 0 then none else (if 0 ≤ (wrap64 (Int.tdiv k c)) then (if (shl .i64 (wrap64 (2 * c)) (wrap64 (Int.tdiv k c))) = 0 then none else (some (wrap64 (Int.tdiv (wrap64 (b * (wrap64 ((wrap64 (2 * c)) - (Int.tmod k c))))) (shl .i64 (wrap64 (2 * c)) (wrap64 (Int.tdiv k c))))))) else none)) = some (diam b c k) := by
  obtain ⟨q0, q1, r0, r1⟩ := diam_q (c := c) (k := k) (by omega) (by omega)
  obtain ⟨s0, s1, s2⟩ := shl_num (c := c) (q := k / c) (by omega) ⟨q0, q1⟩
  obtain ⟨d0, d1, d2, d3⟩ := diam_bd (b := b) (c := c) (k := k) (by omega) (by omega) (by omega)
  have e1 : wrap64 (Int.tdiv k c) = k / c := by rw [tdiv_nn hk.1]; exact w64 (by omega) (by omega)
  have e2 : Int.tmod k c = k % c := Int.tmod_eq_emod_of_nonneg hk.1
  rw [e1, s0, e2, if_neg (by omega), if_pos q0, if_neg (by omega), w64 (n := 2 * c) (by omega) (by omega), w64 (n := 2 * c - k % c) (by omega) (by omega), w64 (n := b * (2 * c - k % c)) (by omega) (by omega), tdiv_nn d0]
  exact congrArg some (w64 (n := diam b c k) (by omega) (by omega))
theorem spec_DiameterOf_eq (a b c k : Int) : spec_DiameterOf.f a b c k = some (diamOf a b c k) := by
  simp only [spec_DiameterOf.f, spec_RankOk_eq, l01In_eq, Option.bind_some]
  by_cases h : 1 ≤ a ∧ a ≤ 61 ∧ 10 ≤ b ∧ b ≤ 5000 ∧ 8 ≤ c ∧ c ≤ 24
  · rw [w64 (n := a - 1) (by omega) (by omega)]
    by_cases hk : 0 ≤ k ∧ k ≤ a - 1
    · have e := diam_num h hk
      simp only [h, hk, and_self, decide_true, if_true, diamOf]
      exact e
    · simp [h, hk, diamOf]
  · simp only [h, diamOf, false_and, decide_false, Bool.false_eq_true, if_false]
theorem impl_DiameterOf_eq (a b c k : Int) : impl_DiameterOf.f a b c k = some (diamOf a b c k) := by
  simp only [impl_DiameterOf.f, impl_RankOk_eq, within_eq, Option.bind_some]
  by_cases h : 1 ≤ a ∧ a ≤ 61 ∧ 10 ≤ b ∧ b ≤ 5000 ∧ 8 ≤ c ∧ c ≤ 24
  · rw [w64 (n := a - 1) (by omega) (by omega)]
    by_cases hk : 0 ≤ k ∧ k ≤ a - 1
    · have e := diam_num h hk
      simp only [h, hk, and_self, decide_true, if_true, diamOf]
      exact e
    · simp [h, hk, diamOf]
  · simp only [h, diamOf, false_and, decide_false, Bool.false_eq_true, if_false]
def slender (a b c k p : Int) : Bool := decide (0 < diamOf a b c k) && decide (0 < lenOf p) && decide (lenOf p ≥ 8 * diamOf a b c k / 10)
theorem diamOf_bd (a b c k : Int) : 0 ≤ diamOf a b c k ∧ diamOf a b c k ≤ 240000 := by
  unfold diamOf
  split
  · rename_i h
    have := diam_bd (b := b) (c := c) (k := k) (by omega) (by omega) (by omega)
    omega
  · omega
theorem slender_num {d : Int} (h : 0 ≤ d ∧ d ≤ 240000) : wrap64 (Int.tdiv (wrap64 (8 * d)) 10) = 8 * d / 10 := by
  rw [w64 (n := 8 * d) (by omega) (by omega), tdiv_nn (by omega), w64 (by omega) (by omega)]
theorem spec_IsSlender_eq (a b c k p : Int) : spec_IsSlender.f a b c k p = some (slender a b c k p) := by
  have hd := diamOf_bd a b c k
  simp only [spec_IsSlender.f, spec_DiameterOf_eq, spec_LengthOf_eq, Option.bind_some, slender]
  rw [slender_num hd]
  by_cases h1 : 0 < diamOf a b c k
  · by_cases h2 : 0 < lenOf p
    · rw [if_pos h1, if_pos h2, decide_eq_true h1, decide_eq_true h2]; simp
    · rw [if_pos h1, if_neg h2, decide_eq_false h2]; simp
  · rw [if_neg h1, decide_eq_false h1]; simp
theorem impl_IsSlender_eq (a b c k p : Int) : impl_IsSlender.f a b c k p = some (slender a b c k p) := by
  have hd := diamOf_bd a b c k
  simp only [impl_IsSlender.f, impl_DiameterOf_eq, impl_LengthOf_eq, Option.bind_some, slender]
  rw [slender_num hd]
  by_cases h1 : 0 < diamOf a b c k
  · by_cases h2 : 0 < lenOf p
    · rw [if_pos h1, if_pos h2, decide_eq_true h1, decide_eq_true h2]; simp
    · rw [if_pos h1, if_neg h2, decide_eq_false h2]; simp
  · rw [if_neg h1, decide_eq_false h1]; simp
theorem FnExactIsSlender (a b c k p : Int) : laws_FnExactIsSlender.f a b c k p = some true :=
  law_ofb (spec_IsSlender_eq a b c k p) (impl_IsSlender_eq a b c k p)
end Go.Proofs.Ytbimhcdfojbjgaa.Pure
