/- The plain law of FnExactBreaks: the printed function of the law answers true. Its conditions are those of the statement's own bounds. -/
import Derived.Test.YtiifemlnknochaaPFnExactBreaksx1
namespace Go.Proofs.Ytiifemlnknochaa.Pure
open Go.RowKit Go.Proofs.Ytiifemlnknochaa.PFnExactBreaks Go.Proofs.YtiifemlnknochaaW.PrintWords Go.Proofs.YtiifemlnknochaaW.PrintLast Go.Proofs.YtiifemlnknochaaW.PrintMore
set_option linter.unusedVariables false
theorem l01In_eq (a b c : Int) : spec_l01In.f a b c = some (decide (b ≤ a ∧ a ≤ c)) := by
  unfold spec_l01In.f
  by_cases h : a ≥ b
  · rw [if_pos h]; congr 1; by_cases h2 : a ≤ c <;> simp [h2, h]
  · rw [if_neg h]; congr 1; simp; omega
theorem within_eq (a b c : Int) : impl_within.f a b c = some (decide (b ≤ a ∧ a ≤ c)) := by
  unfold impl_within.f
  by_cases h : b ≤ a
  · rw [if_pos h]; congr 1; by_cases h2 : a ≤ c <;> simp [h2, h]
  · rw [if_neg h]; congr 1; simp; omega
theorem law_of {α : Type} [DecidableEq α] {s i : Option α} {r : α} (hs : s = some r) (hi : i = some r) : (s.bind fun t => i.bind fun u => if u = t then some true else some false) = some true := by
  subst hs hi; simp
theorem law_ofb {s i : Option Bool} {r : Bool} (hs : s = some r) (hi : i = some r) : (s.bind fun t => i.bind fun u => if (u != t) = true then some false else some true) = some true := by
  subst hs hi; simp
theorem wf_i64 {a : Int} (h : (Lit.int .i64 a).wf = true) : -9223372036854775808 ≤ a ∧ a ≤ 9223372036854775807 := by
  have h' : (decide ((-9223372036854775808 : Int) ≤ a) && decide (a ≤ 9223372036854775807)) = true := h
  simp at h'; omega
theorem w64 {n : Int} (h1 : -9223372036854775808 ≤ n) (h2 : n ≤ 9223372036854775807) : wrap64 n = n := by unfold wrap64; omega
theorem mul_bd {a b A B : Int} (h0 : 0 ≤ a) (h1 : a ≤ A) (h2 : 0 ≤ b) (h3 : b ≤ B) : 0 ≤ a * b ∧ a * b ≤ A * B := by
  refine ⟨Int.mul_nonneg h0 h2, ?_⟩
  exact Int.le_trans (Int.mul_le_mul_of_nonneg_right h1 h2) (Int.mul_le_mul_of_nonneg_left h3 (by omega))
theorem tdiv_nn {a b : Int} (h : 0 ≤ a) : a.tdiv b = a / b := Int.tdiv_eq_ediv_of_nonneg h
theorem div_bd {a A c : Int} (h0 : 0 ≤ a) (h1 : a ≤ A) (hc : 0 < c) : 0 ≤ a / c ∧ a / c ≤ A / c :=
  ⟨Int.ediv_nonneg h0 (by omega), Int.ediv_le_ediv hc h1⟩
theorem spec_CordOk_eq (a b c : Int) : spec_CordOk.f a b c = some (decide (50 ≤ a ∧ a ≤ 3000 ∧ 100 ≤ b ∧ b ≤ 100000 ∧ 1 ≤ c ∧ c ≤ 5000)) := by
  simp only [spec_CordOk.f, l01In_eq, Option.bind_some]
  repeat' split
  all_goals (simp_all <;> omega)
theorem impl_CordOk_eq (a b c : Int) : impl_CordOk.f a b c = some (decide (50 ≤ a ∧ a ≤ 3000 ∧ 100 ≤ b ∧ b ≤ 100000 ∧ 1 ≤ c ∧ c ≤ 5000)) := by
  simp only [impl_CordOk.f, within_eq, Option.bind_some]
  repeat' split
  all_goals (simp_all <;> omega)
def cordB (a b c : Int) : Bool := decide (50 ≤ a ∧ a ≤ 3000 ∧ 100 ≤ b ∧ b ≤ 100000 ∧ 1 ≤ c ∧ c ≤ 5000)
/-- the tension of valid numbers -/
def tens (a b p : Int) : Int := (p * a) * (p * a) / 1000 * (4 * b) / 1000000000
def tensionOf (a b c p : Int) : Int := if (50 ≤ a ∧ a ≤ 3000 ∧ 100 ≤ b ∧ b ≤ 100000 ∧ 1 ≤ c ∧ c ≤ 5000) ∧ (1 ≤ p ∧ p ≤ 5000) then tens a b p else -1
theorem tens_bd {a b p : Int} (ha : 0 ≤ a ∧ a ≤ 3000) (hb : 0 ≤ b ∧ b ≤ 100000) (hp : 0 ≤ p ∧ p ≤ 5000) :
    (0 ≤ p * a ∧ p * a ≤ 15000000) ∧ (0 ≤ (p * a) * (p * a) ∧ (p * a) * (p * a) ≤ 225000000000000) ∧ (0 ≤ (p * a) * (p * a) / 1000 ∧ (p * a) * (p * a) / 1000 ≤ 225000000000) ∧
    (0 ≤ (p * a) * (p * a) / 1000 * (4 * b) ∧ (p * a) * (p * a) / 1000 * (4 * b) ≤ 90000000000000000) ∧ (0 ≤ tens a b p ∧ tens a b p ≤ 90000000) := by
  have b1 := mul_bd (a := p) (b := a) (A := 5000) (B := 3000) hp.1 hp.2 ha.1 ha.2
  have b2 := mul_bd (a := p * a) (b := p * a) (A := 15000000) (B := 15000000) b1.1 (by omega) b1.1 (by omega)
  have b3 : 0 ≤ (p * a) * (p * a) / 1000 ∧ (p * a) * (p * a) / 1000 ≤ 225000000000 := by
    generalize (p * a) * (p * a) = q at b2 ⊢
    omega
  have b4 := mul_bd (a := (p * a) * (p * a) / 1000) (b := 4 * b) (A := 225000000000) (B := 400000) b3.1 b3.2 (by omega) (by omega)
  refine ⟨by omega, by omega, b3, by omega, ?_⟩
  unfold tens
  generalize (p * a) * (p * a) / 1000 * (4 * b) = q at b4 ⊢
  omega
theorem spec_TensionAt_eq (a b c p : Int) : spec_TensionAt.f a b c p = some (tensionOf a b c p) := by
  simp only [spec_TensionAt.f, spec_CordOk_eq, l01In_eq, Option.bind_some]
  by_cases h : 50 ≤ a ∧ a ≤ 3000 ∧ 100 ≤ b ∧ b ≤ 100000 ∧ 1 ≤ c ∧ c ≤ 5000
  · by_cases h2 : 1 ≤ p ∧ p ≤ 5000
    · obtain ⟨b1, b2, b3, b4, b5⟩ := tens_bd (a := a) (b := b) (p := p) (by omega) (by omega) (by omega)
      rw [w64 (n := p * a) (by omega) (by omega), w64 (n := p * a * (p * a)) (by omega) (by omega), tdiv_nn b2.1, w64 (n := p * a * (p * a) / 1000) (by omega) (by omega), w64 (n := 4 * b) (by omega) (by omega), Int.mul_comm (4 * b) _,
        w64 (n := p * a * (p * a) / 1000 * (4 * b)) (by omega) (by omega), tdiv_nn b4.1]
      have e : wrap64 (p * a * (p * a) / 1000 * (4 * b) / 1000000000) = tens a b p := w64 (n := tens a b p) (by omega) (by omega)
      rw [e]
      simp [h, h2, tensionOf]
    · simp [h, h2, tensionOf]
  · simp only [h, tensionOf, false_and, decide_false, Bool.false_eq_true, if_false]
theorem impl_TensionAt_eq (a b c p : Int) : impl_TensionAt.f a b c p = some (tensionOf a b c p) := by
  simp only [impl_TensionAt.f, impl_CordOk_eq, within_eq, Option.bind_some]
  by_cases h : 50 ≤ a ∧ a ≤ 3000 ∧ 100 ≤ b ∧ b ≤ 100000 ∧ 1 ≤ c ∧ c ≤ 5000
  · by_cases h2 : 1 ≤ p ∧ p ≤ 5000
    · obtain ⟨b1, b2, b3, b4, b5⟩ := tens_bd (a := a) (b := b) (p := p) (by omega) (by omega) (by omega)
      rw [w64 (n := p * a) (by omega) (by omega), w64 (n := p * a * (p * a)) (by omega) (by omega), tdiv_nn b2.1, w64 (n := p * a * (p * a) / 1000) (by omega) (by omega), w64 (n := 4 * b) (by omega) (by omega),
        w64 (n := p * a * (p * a) / 1000 * (4 * b)) (by omega) (by omega), tdiv_nn b4.1]
      have e : wrap64 (p * a * (p * a) / 1000 * (4 * b) / 1000000000) = tens a b p := w64 (n := tens a b p) (by omega) (by omega)
      rw [e]
      simp [h, h2, tensionOf]
    · simp [h, h2, tensionOf]
  · simp only [h, tensionOf, false_and, decide_false, Bool.false_eq_true, if_false]
theorem spec_Breaks_eq (a b c p : Int) : spec_Breaks.f a b c p = some (decide (tensionOf a b c p > c)) := by
  simp only [spec_Breaks.f, spec_TensionAt_eq, Option.bind_some]
theorem impl_Breaks_eq (a b c p : Int) : impl_Breaks.f a b c p = some (decide (tensionOf a b c p > c)) := by
  simp only [impl_Breaks.f, impl_TensionAt_eq, Option.bind_some]
theorem FnExactBreaks (a b c p : Int) : laws_FnExactBreaks.f a b c p = some true :=
  law_ofb (spec_Breaks_eq a b c p) (impl_Breaks_eq a b c p)
end Go.Proofs.Ytiifemlnknochaa.Pure
