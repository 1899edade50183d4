/- The plain law of FnExactLengthOf: the printed function of the law answers true. Its conditions are those of the statement's own bounds. -/
import Derived.Test.YtiifemlnknochaaHFnExactLengthOfx1
namespace Go.Proofs.Ytiifemlnknochaa.Pure
open Go.RowKit Go.Proofs.Ytiifemlnknochaa.PFnExactLengthOf Go.Proofs.YtiifemlnknochaaW.PrintWords Go.Proofs.YtiifemlnknochaaW.PrintLast Go.Proofs.YtiifemlnknochaaW.PrintMore
set_option linter.unusedVariables false
theorem l01In_eq (a b c : Int) : spec_l01In.f a b c = some (decide (b ≤ a ∧ a ≤ c)) := by
  unfold spec_l01In.f
  by_cases h : a ≥ b
  · rw [if_pos h]; congr 1; by_cases h2 : a ≤ c <;> simp [h2, h]
  · rw [if_neg h]; congr 1; simp; omega
theorem within_eq (a b c : Int) : impl_within.f a b c = some (decide (b ≤ a ∧ a ≤ c)) := by
  unfold impl_within.f
  by_cases h : b ≤ a
  · rw [if_pos h]; congr 1; by_cases h2 : a ≤ c <;> simp [h2, h]
  · rw [if_neg h]; congr 1; simp; omega
theorem law_of {α : Type} [DecidableEq α] {s i : Option α} {r : α} (hs : s = some r) (hi : i = some r) : (s.bind fun t => i.bind fun u => if u = t then some true else some false) = some true := by
  subst hs hi; simp
theorem law_ofb {s i : Option Bool} {r : Bool} (hs : s = some r) (hi : i = some r) : (s.bind fun t => i.bind fun u => if (u != t) = true then some false else some true) = some true := by
  subst hs hi; simp
theorem wf_i64 {a : Int} (h : (Lit.int .i64 a).wf = true) : -9223372036854775808 ≤ a ∧ a ≤ 9223372036854775807 := by
  have h' : (decide ((-9223372036854775808 : Int) ≤ a) && decide (a ≤ 9223372036854775807)) = true := h
  simp at h'; omega
theorem w64 {n : Int} (h1 : -9223372036854775808 ≤ n) (h2 : n ≤ 9223372036854775807) : wrap64 n = n := by unfold wrap64; omega
theorem mul_bd {a b A B : Int} (h0 : 0 ≤ a) (h1 : a ≤ A) (h2 : 0 ≤ b) (h3 : b ≤ B) : 0 ≤ a * b ∧ a * b ≤ A * B := by
  refine ⟨Int.mul_nonneg h0 h2, ?_⟩
  exact Int.le_trans (Int.mul_le_mul_of_nonneg_right h1 h2) (Int.mul_le_mul_of_nonneg_left h3 (by omega))
theorem tdiv_nn {a b : Int} (h : 0 ≤ a) : a.tdiv b = a / b := Int.tdiv_eq_ediv_of_nonneg h
theorem div_bd {a A c : Int} (h0 : 0 ≤ a) (h1 : a ≤ A) (hc : 0 < c) : 0 ≤ a / c ∧ a / c ≤ A / c :=
  ⟨Int.ediv_nonneg h0 (by omega), Int.ediv_le_ediv hc h1⟩
def lenOf (x : Int) : Int := if 20 ≤ x ∧ x ≤ 8000 then 170000 / x else 0
theorem div_anti {n a b : Int} (hn : 0 ≤ n) (ha : 0 < a) (hab : a ≤ b) : n / b ≤ n / a := by
  apply Int.le_ediv_of_mul_le ha
  have h1 := Int.ediv_mul_le n (show b ≠ 0 by omega)
  have h2 : n / b * a ≤ n / b * b := Int.mul_le_mul_of_nonneg_left hab (Int.ediv_nonneg hn (by omega))
  omega
theorem lenOf_bd (x : Int) : 0 ≤ lenOf x ∧ lenOf x ≤ 8500 := by
  unfold lenOf
  split
  · have h := div_anti (n := 170000) (a := 20) (b := x) (by omega) (by omega) (by omega)
    exact ⟨Int.ediv_nonneg (by omega) (by omega), by omega⟩
  · omega
theorem spec_LengthOf_eq (x : Int) : spec_LengthOf.f x = some (lenOf x) := by
  have hb := lenOf_bd x
  simp only [spec_LengthOf.f, l01In_eq, Option.bind_some]
  unfold lenOf at hb ⊢
  by_cases h : 20 ≤ x ∧ x ≤ 8000
  · rw [if_pos h] at hb ⊢
    rw [if_pos (decide_eq_true h), if_neg (by omega), w64 (by omega) (by omega)]
  · rw [if_neg h, if_neg (by simpa using h)]
theorem impl_LengthOf_eq (x : Int) : impl_LengthOf.f x = some (lenOf x) := by
  have hb := lenOf_bd x
  simp only [impl_LengthOf.f, within_eq, Option.bind_some]
  unfold lenOf at hb ⊢
  by_cases h : 20 ≤ x ∧ x ≤ 8000
  · rw [if_pos h] at hb ⊢
    rw [if_pos (decide_eq_true h), if_neg (by omega), w64 (by omega) (by omega)]
  · rw [if_neg h, if_neg (by simpa using h)]
theorem FnExactLengthOf : laws_FnExactLengthOf.Pure := fun x _ => law_of (spec_LengthOf_eq x) (impl_LengthOf_eq x)
end Go.Proofs.Ytiifemlnknochaa.Pure
