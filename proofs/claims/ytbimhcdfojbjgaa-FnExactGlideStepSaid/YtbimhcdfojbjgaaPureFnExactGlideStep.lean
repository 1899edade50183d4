/- The plain law of FnExactGlideStep: the printed function of the law answers true. Its conditions are those of the statement's own bounds. -/
import Derived.Test.YtbimhcdfojbjgaaPFnExactGlideStepx1
namespace Go.Proofs.Ytbimhcdfojbjgaa.Pure
open Go.RowKit Go.Proofs.Ytbimhcdfojbjgaa.PFnExactGlideStep Go.Proofs.YtbimhcdfojbjgaaW.PrintWords Go.Proofs.YtbimhcdfojbjgaaW.PrintLast Go.Proofs.YtbimhcdfojbjgaaW.PrintMore
set_option linter.unusedVariables false
theorem l01In_eq (a b c : Int) : spec_l01In.f a b c = some (decide (b ≤ a ∧ a ≤ c)) := by
  unfold spec_l01In.f
  by_cases h : a ≥ b
  · rw [if_pos h]; congr 1; by_cases h2 : a ≤ c <;> simp [h2, h]
  · rw [if_neg h]; congr 1; simp; omega
theorem within_eq (a b c : Int) : impl_within.f a b c = some (decide (b ≤ a ∧ a ≤ c)) := by
  unfold impl_within.f
  by_cases h : b ≤ a
  · rw [if_pos h]; congr 1; by_cases h2 : a ≤ c <;> simp [h2, h]
  · rw [if_neg h]; congr 1; simp; omega
theorem law_of {α : Type} [DecidableEq α] {s i : Option α} {r : α} (hs : s = some r) (hi : i = some r) : (s.bind fun t => i.bind fun u => if u = t then some true else some false) = some true := by
  subst hs hi; simp
theorem law_ofb {s i : Option Bool} {r : Bool} (hs : s = some r) (hi : i = some r) : (s.bind fun t => i.bind fun u => if (u != t) = true then some false else some true) = some true := by
  subst hs hi; simp
theorem wf_i64 {a : Int} (h : (Lit.int .i64 a).wf = true) : -9223372036854775808 ≤ a ∧ a ≤ 9223372036854775807 := by
  have h' : (decide ((-9223372036854775808 : Int) ≤ a) && decide (a ≤ 9223372036854775807)) = true := h
  simp at h'; omega
theorem w64 {n : Int} (h1 : -9223372036854775808 ≤ n) (h2 : n ≤ 9223372036854775807) : wrap64 n = n := by unfold wrap64; omega
theorem mul_bd {a b A B : Int} (h0 : 0 ≤ a) (h1 : a ≤ A) (h2 : 0 ≤ b) (h3 : b ≤ B) : 0 ≤ a * b ∧ a * b ≤ A * B := by
  refine ⟨Int.mul_nonneg h0 h2, ?_⟩
  exact Int.le_trans (Int.mul_le_mul_of_nonneg_right h1 h2) (Int.mul_le_mul_of_nonneg_left h3 (by omega))
theorem tdiv_nn {a b : Int} (h : 0 ≤ a) : a.tdiv b = a / b := Int.tdiv_eq_ediv_of_nonneg h
theorem div_bd {a A c : Int} (h0 : 0 ≤ a) (h1 : a ≤ A) (hc : 0 < c) : 0 ≤ a / c ∧ a / c ≤ A / c :=
  ⟨Int.ediv_nonneg h0 (by omega), Int.ediv_le_ediv hc h1⟩
abbrev gOk (n t m : Int) : Prop := -1000000 ≤ n ∧ n ≤ 1000000 ∧ -1000000 ≤ t ∧ t ≤ 1000000 ∧ 1 ≤ m ∧ m ≤ 10000
theorem spec_l32Ok_eq (n t m : Int) : spec_l32Ok.f n t m = some (decide (gOk n t m)) := by
  simp only [spec_l32Ok.f, l01In_eq, Option.bind_some]
  by_cases h1 : -1000000 ≤ n ∧ n ≤ 1000000 <;> by_cases h2 : -1000000 ≤ t ∧ t ≤ 1000000 <;> by_cases h3 : 1 ≤ m ∧ m ≤ 10000 <;> simp [h1, h2, h3] <;> omega
theorem impl_mayGlide_eq (n t m : Int) : impl_mayGlide.f n t m = some (decide (gOk n t m)) := by
  simp only [impl_mayGlide.f, within_eq, Option.bind_some]
  by_cases h1 : -1000000 ≤ n ∧ n ≤ 1000000 <;> by_cases h2 : -1000000 ≤ t ∧ t ≤ 1000000 <;> by_cases h3 : 1 ≤ m ∧ m ≤ 10000 <;> simp [h1, h2, h3] <;> omega
def glide (n t m : Int) : Int := if gOk n t m then (if t > n + m then n + m else if t < n - m then n - m else t) else n
theorem glide_no {n t m : Int} (h : ¬ gOk n t m) : glide n t m = n := if_neg h
theorem glide_yes {n t m : Int} (h : gOk n t m) : glide n t m = if t > n + m then n + m else if t < n - m then n - m else t := if_pos h
theorem spec_GlideStep_eq (n t m : Int) : spec_GlideStep.f n t m = some (glide n t m) := by
  simp only [spec_GlideStep.f, spec_l32Ok_eq, Option.bind_some]
  by_cases h : gOk n t m
  · rw [w64 (n := n + m) (by omega) (by omega), w64 (n := n - m) (by omega) (by omega), if_pos (decide_eq_true h), glide_yes h]
    split
    · rfl
    · split <;> rfl
  · rw [glide_no h, if_neg (by simpa using h)]
theorem impl_GlideStep_eq (n t m : Int) : impl_GlideStep.f n t m = some (glide n t m) := by
  simp only [impl_GlideStep.f, impl_mayGlide_eq, impl_Clamp.f, Option.bind_some]
  by_cases h : gOk n t m
  · rw [w64 (n := n + m) (by omega) (by omega), w64 (n := n - m) (by omega) (by omega), if_pos (decide_eq_true h), glide_yes h]
    by_cases h1 : t > n + m
    · rw [if_pos h1, if_pos h1, if_neg (by omega)]; rfl
    · rw [if_neg h1, if_neg h1]
      by_cases h2 : t < n - m
      · rw [if_pos h2, if_pos h2]; rfl
      · rw [if_neg h2, if_neg h2]; rfl
  · rw [glide_no h, if_neg (by simpa using h)]
theorem FnExactGlideStep : laws_FnExactGlideStep.Pure := by
  intro n t m _ _ _
  exact law_of (spec_GlideStep_eq n t m) (impl_GlideStep_eq n t m)
end Go.Proofs.Ytbimhcdfojbjgaa.Pure
