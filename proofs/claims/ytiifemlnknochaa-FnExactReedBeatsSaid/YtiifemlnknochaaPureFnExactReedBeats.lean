/- The plain law of FnExactReedBeats: the printed function of the law answers true. Its conditions are those of the statement's own bounds. -/
import Derived.Test.YtiifemlnknochaaPFnExactReedBeatsx1
namespace Go.Proofs.Ytiifemlnknochaa.Pure
open Go.RowKit Go.Proofs.Ytiifemlnknochaa.PFnExactReedBeats Go.Proofs.YtiifemlnknochaaW.PrintWords Go.Proofs.YtiifemlnknochaaW.PrintLast Go.Proofs.YtiifemlnknochaaW.PrintMore
set_option linter.unusedVariables false
theorem l01In_eq (a b c : Int) : spec_l01In.f a b c = some (decide (b ≤ a ∧ a ≤ c)) := by
  unfold spec_l01In.f
  by_cases h : a ≥ b
  · rw [if_pos h]; congr 1; by_cases h2 : a ≤ c <;> simp [h2, h]
  · rw [if_neg h]; congr 1; simp; omega
theorem within_eq (a b c : Int) : impl_within.f a b c = some (decide (b ≤ a ∧ a ≤ c)) := by
  unfold impl_within.f
  by_cases h : b ≤ a
  · rw [if_pos h]; congr 1; by_cases h2 : a ≤ c <;> simp [h2, h]
  · rw [if_neg h]; congr 1; simp; omega
theorem law_of {α : Type} [DecidableEq α] {s i : Option α} {r : α} (hs : s = some r) (hi : i = some r) : (s.bind fun t => i.bind fun u => if u = t then some true else some false) = some true := by
  subst hs hi; simp
theorem law_ofb {s i : Option Bool} {r : Bool} (hs : s = some r) (hi : i = some r) : (s.bind fun t => i.bind fun u => if (u != t) = true then some false else some true) = some true := by
  subst hs hi; simp
theorem wf_i64 {a : Int} (h : (Lit.int .i64 a).wf = true) : -9223372036854775808 ≤ a ∧ a ≤ 9223372036854775807 := by
  have h' : (decide ((-9223372036854775808 : Int) ≤ a) && decide (a ≤ 9223372036854775807)) = true := h
  simp at h'; omega
theorem w64 {n : Int} (h1 : -9223372036854775808 ≤ n) (h2 : n ≤ 9223372036854775807) : wrap64 n = n := by unfold wrap64; omega
theorem mul_bd {a b A B : Int} (h0 : 0 ≤ a) (h1 : a ≤ A) (h2 : 0 ≤ b) (h3 : b ≤ B) : 0 ≤ a * b ∧ a * b ≤ A * B := by
  refine ⟨Int.mul_nonneg h0 h2, ?_⟩
  exact Int.le_trans (Int.mul_le_mul_of_nonneg_right h1 h2) (Int.mul_le_mul_of_nonneg_left h3 (by omega))
theorem tdiv_nn {a b : Int} (h : 0 ≤ a) : a.tdiv b = a / b := Int.tdiv_eq_ediv_of_nonneg h
theorem div_bd {a A c : Int} (h0 : 0 ≤ a) (h1 : a ≤ A) (hc : 0 < c) : 0 ≤ a / c ∧ a / c ≤ A / c :=
  ⟨Int.ediv_nonneg h0 (by omega), Int.ediv_le_ediv hc h1⟩
def warm (a w : Int) : Int := if 1 ≤ a ∧ a ≤ 10000000 ∧ -10 ≤ w ∧ w ≤ 40 then a * (970 + 2 * w) / 1000 else 0
theorem warm_num {a w : Int} (h : 1 ≤ a ∧ a ≤ 10000000) (h2 : -10 ≤ w ∧ w ≤ 40) :
    wrap64 (Int.tdiv (wrap64 (a * (wrap64 (1000 + (wrap64 (2 * (wrap64 (w - 15)))))))) 1000) = a * (970 + 2 * w) / 1000 := by
  have e1 : wrap64 (w - 15) = w - 15 := w64 (by omega) (by omega)
  have e2 : wrap64 (2 * (w - 15)) = 2 * (w - 15) := w64 (by omega) (by omega)
  have e3 : wrap64 (1000 + 2 * (w - 15)) = 970 + 2 * w := by rw [w64 (by omega) (by omega)]; omega
  rw [e1, e2, e3]
  have b := mul_bd (a := a) (b := 970 + 2 * w) (A := 10000000) (B := 1050) (by omega) h.2 (by omega) (by omega)
  rw [w64 (n := a * (970 + 2 * w)) (by omega) (by omega), tdiv_nn b.1]
  exact w64 (by omega) (by omega)
theorem spec_WarmPitch_eq (a w : Int) : spec_WarmPitch.f a w = some (warm a w) := by
  simp only [spec_WarmPitch.f, spec_l18Pitch.f, l01In_eq, Option.bind_some]
  by_cases h : 1 ≤ a ∧ a ≤ 10000000
  · by_cases h2 : -10 ≤ w ∧ w ≤ 40
    · rw [warm_num h h2]; simp [h, h2, warm]
    · simp [h, h2, warm]
  · simp only [h, decide_false, Bool.false_eq_true, if_false]
    have : ¬ (1 ≤ a ∧ a ≤ 10000000 ∧ -10 ≤ w ∧ w ≤ 40) := by omega
    simp only [warm, this, if_false]
theorem impl_WarmPitch_eq (a w : Int) : impl_WarmPitch.f a w = some (warm a w) := by
  simp only [impl_WarmPitch.f, impl_isFine.f, impl_isWarmth.f, within_eq, Option.bind_some]
  by_cases h : 1 ≤ a ∧ a ≤ 10000000
  · by_cases h2 : -10 ≤ w ∧ w ≤ 40
    · rw [warm_num h h2]; simp [h, h2, warm]
    · simp [h, h2, warm]
  · simp only [h, decide_false, Bool.false_eq_true, if_false]
    have : ¬ (1 ≤ a ∧ a ≤ 10000000 ∧ -10 ≤ w ∧ w ≤ 40) := by omega
    simp only [warm, this, if_false]
theorem warm_bd (a w : Int) : 0 ≤ warm a w ∧ warm a w ≤ 10500000 := by
  unfold warm
  split
  · have b := mul_bd (a := a) (b := 970 + 2 * w) (A := 10000000) (B := 1050) (by omega) (by omega) (by omega) (by omega)
    omega
  · omega
def apart (a b : Int) : Int := mx (a - b) (b - a)
theorem apart_abs (a b : Int) : 0 ≤ apart a b ∧ (apart a b = a - b ∨ apart a b = b - a) := by unfold apart mx; split <;> omega
def reedB (a r w : Int) : Int := if 1 ≤ r ∧ r ≤ 10000000 ∧ warm a w ≠ 0 then apart (warm a w) r else -1
theorem warm_zero_of {a w : Int} (h : ¬ (1 ≤ a ∧ a ≤ 10000000)) : warm a w = 0 := by
  unfold warm; rw [if_neg (by omega)]
theorem spec_ReedBeats_eq (a r w : Int) : spec_ReedBeats.f a r w = some (reedB a r w) := by
  have hb := warm_bd a w
  simp only [spec_ReedBeats.f, spec_WarmPitch_eq, spec_l18Pitch.f, l01In_eq, Option.bind_some]
  by_cases h0 : warm a w = 0
  · simp [h0, reedB]
  · by_cases h : 1 ≤ r ∧ r ≤ 10000000
    · rw [w64 (n := warm a w - r) (by omega) (by omega), w64 (n := r - warm a w) (by omega) (by omega)]
      simp [h0, h, reedB, apart]
    · have : ¬ (1 ≤ r ∧ r ≤ 10000000 ∧ warm a w ≠ 0) := fun h' => h ⟨h'.1, h'.2.1⟩
      simp only [h0, h, reedB, this, decide_false, Bool.false_eq_true, if_false]
theorem impl_ReedBeats_eq (a r w : Int) : impl_ReedBeats.f a r w = some (reedB a r w) := by
  have hb := warm_bd a w
  simp only [impl_ReedBeats.f, impl_WarmPitch_eq, impl_isFine.f, impl_apart.f, within_eq, Option.bind_some]
  by_cases h1 : 1 ≤ a ∧ a ≤ 10000000
  · by_cases h : 1 ≤ r ∧ r ≤ 10000000
    · by_cases h0 : warm a w = 0
      · simp [h0, h, h1, reedB]
      · rw [w64 (n := warm a w - r) (by omega) (by omega), w64 (n := r - warm a w) (by omega) (by omega)]
        simp [h0, h, h1, reedB, apart]
    · have : ¬ (1 ≤ r ∧ r ≤ 10000000 ∧ warm a w ≠ 0) := fun h' => h ⟨h'.1, h'.2.1⟩
      simp only [h1, h, reedB, this, and_self, decide_true, decide_false, Bool.false_eq_true, if_false, if_true]
  · have : ¬ (1 ≤ r ∧ r ≤ 10000000 ∧ warm a w ≠ 0) := fun h' => h'.2.2 (warm_zero_of h1)
    simp only [h1, reedB, this, decide_false, Bool.false_eq_true, if_false]
theorem FnExactReedBeats : laws_FnExactReedBeats.Pure := by
  intro a0 a1 a2 h0 h1 h2
  exact law_of (spec_ReedBeats_eq a0 a1 a2) (impl_ReedBeats_eq a0 a1 a2)
end Go.Proofs.Ytiifemlnknochaa.Pure
