/- The plain law of FnExactCordOk: the printed function of the law answers true. Its conditions are those of the statement's own bounds. -/
import Derived.Test.YtiifemlnknochaaPFnExactCordOkx1
namespace Go.Proofs.Ytiifemlnknochaa.Pure
open Go.RowKit Go.Proofs.Ytiifemlnknochaa.PFnExactCordOk Go.Proofs.YtiifemlnknochaaW.PrintWords Go.Proofs.YtiifemlnknochaaW.PrintLast Go.Proofs.YtiifemlnknochaaW.PrintMore
set_option linter.unusedVariables false
theorem l01In_eq (a b c : Int) : spec_l01In.f a b c = some (decide (b ≤ a ∧ a ≤ c)) := by
  unfold spec_l01In.f
  by_cases h : a ≥ b
  · rw [if_pos h]; congr 1; by_cases h2 : a ≤ c <;> simp [h2, h]
  · rw [if_neg h]; congr 1; simp; omega
theorem within_eq (a b c : Int) : impl_within.f a b c = some (decide (b ≤ a ∧ a ≤ c)) := by
  unfold impl_within.f
  by_cases h : b ≤ a
  · rw [if_pos h]; congr 1; by_cases h2 : a ≤ c <;> simp [h2, h]
  · rw [if_neg h]; congr 1; simp; omega
theorem law_of {α : Type} [DecidableEq α] {s i : Option α} {r : α} (hs : s = some r) (hi : i = some r) : (s.bind fun t => i.bind fun u => if u = t then some true else some false) = some true := by
  subst hs hi; simp
theorem law_ofb {s i : Option Bool} {r : Bool} (hs : s = some r) (hi : i = some r) : (s.bind fun t => i.bind fun u => if (u != t) = true then some false else some true) = some true := by
  subst hs hi; simp
theorem wf_i64 {a : Int} (h : (Lit.int .i64 a).wf = true) : -9223372036854775808 ≤ a ∧ a ≤ 9223372036854775807 := by
  have h' : (decide ((-9223372036854775808 : Int) ≤ a) && decide (a ≤ 9223372036854775807)) = true := h
  simp at h'; omega
theorem w64 {n : Int} (h1 : -9223372036854775808 ≤ n) (h2 : n ≤ 9223372036854775807) : wrap64 n = n := by unfold wrap64; omega
theorem mul_bd {a b A B : Int} (h0 : 0 ≤ a) (h1 : a ≤ A) (h2 : 0 ≤ b) (h3 : b ≤ B) : 0 ≤ a * b ∧ a * b ≤ A * B := by
  refine ⟨Int.mul_nonneg h0 h2, ?_⟩
  exact Int.le_trans (Int.mul_le_mul_of_nonneg_right h1 h2) (Int.mul_le_mul_of_nonneg_left h3 (by omega))
theorem tdiv_nn {a b : Int} (h : 0 ≤ a) : a.tdiv b = a / b := Int.tdiv_eq_ediv_of_nonneg h
theorem div_bd {a A c : Int} (h0 : 0 ≤ a) (h1 : a ≤ A) (hc : 0 < c) : 0 ≤ a / c ∧ a / c ≤ A / c :=
  ⟨Int.ediv_nonneg h0 (by omega), Int.ediv_le_ediv hc h1⟩
theorem spec_CordOk_eq (a b c : Int) : spec_CordOk.f a b c = some (decide (50 ≤ a ∧ a ≤ 3000 ∧ 100 ≤ b ∧ b ≤ 100000 ∧ 1 ≤ c ∧ c ≤ 5000)) := by
  simp only [spec_CordOk.f, l01In_eq, Option.bind_some]
  repeat' split
  all_goals (simp_all <;> omega)
theorem impl_CordOk_eq (a b c : Int) : impl_CordOk.f a b c = some (decide (50 ≤ a ∧ a ≤ 3000 ∧ 100 ≤ b ∧ b ≤ 100000 ∧ 1 ≤ c ∧ c ≤ 5000)) := by
  simp only [impl_CordOk.f, within_eq, Option.bind_some]
  repeat' split
  all_goals (simp_all <;> omega)
theorem FnExactCordOk (a b c : Int) : laws_FnExactCordOk.f a b c = some true :=
  law_ofb (spec_CordOk_eq a b c) (impl_CordOk_eq a b c)
end Go.Proofs.Ytiifemlnknochaa.Pure
