/- The plain law of FnExactBlowStep: the printed function of the law answers true. Its conditions are those of the statement's own bounds. -/
import Derived.Test.YtbimhcdfojbjgaaPFnExactBlowStepx1
namespace Go.Proofs.Ytbimhcdfojbjgaa.Pure
open Go.RowKit Go.Proofs.Ytbimhcdfojbjgaa.PFnExactBlowStep Go.Proofs.YtbimhcdfojbjgaaW.PrintWords Go.Proofs.YtbimhcdfojbjgaaW.PrintLast Go.Proofs.YtbimhcdfojbjgaaW.PrintMore
set_option linter.unusedVariables false
theorem l01In_eq (a b c : Int) : spec_l01In.f a b c = some (decide (b ≤ a ∧ a ≤ c)) := by
  unfold spec_l01In.f
  by_cases h : a ≥ b
  · rw [if_pos h]; congr 1; by_cases h2 : a ≤ c <;> simp [h2, h]
  · rw [if_neg h]; congr 1; simp; omega
theorem within_eq (a b c : Int) : impl_within.f a b c = some (decide (b ≤ a ∧ a ≤ c)) := by
  unfold impl_within.f
  by_cases h : b ≤ a
  · rw [if_pos h]; congr 1; by_cases h2 : a ≤ c <;> simp [h2, h]
  · rw [if_neg h]; congr 1; simp; omega
theorem law_of {α : Type} [DecidableEq α] {s i : Option α} {r : α} (hs : s = some r) (hi : i = some r) : (s.bind fun t => i.bind fun u => if u = t then some true else some false) = some true := by
  subst hs hi; simp
theorem law_ofb {s i : Option Bool} {r : Bool} (hs : s = some r) (hi : i = some r) : (s.bind fun t => i.bind fun u => if (u != t) = true then some false else some true) = some true := by
  subst hs hi; simp
theorem wf_i64 {a : Int} (h : (Lit.int .i64 a).wf = true) : -9223372036854775808 ≤ a ∧ a ≤ 9223372036854775807 := by
  have h' : (decide ((-9223372036854775808 : Int) ≤ a) && decide (a ≤ 9223372036854775807)) = true := h
  simp at h'; omega
theorem w64 {n : Int} (h1 : -9223372036854775808 ≤ n) (h2 : n ≤ 9223372036854775807) : wrap64 n = n := by unfold wrap64; omega
theorem mul_bd {a b A B : Int} (h0 : 0 ≤ a) (h1 : a ≤ A) (h2 : 0 ≤ b) (h3 : b ≤ B) : 0 ≤ a * b ∧ a * b ≤ A * B := by
  refine ⟨Int.mul_nonneg h0 h2, ?_⟩
  exact Int.le_trans (Int.mul_le_mul_of_nonneg_right h1 h2) (Int.mul_le_mul_of_nonneg_left h3 (by omega))
theorem tdiv_nn {a b : Int} (h : 0 ≤ a) : a.tdiv b = a / b := Int.tdiv_eq_ediv_of_nonneg h
theorem div_bd {a A c : Int} (h0 : 0 ≤ a) (h1 : a ≤ A) (hc : 0 < c) : 0 ≤ a / c ∧ a / c ≤ A / c :=
  ⟨Int.ediv_nonneg h0 (by omega), Int.ediv_le_ediv hc h1⟩
theorem spec_BellowsOk_eq (a b c : Int) : spec_BellowsOk.f a b c = some (decide (1 ≤ b ∧ b ≤ 100000 ∧ 0 ≤ a ∧ a ≤ b ∧ 0 ≤ c ∧ c ≤ 10000)) := by
  simp only [spec_BellowsOk.f, l01In_eq, Option.bind_some]
  repeat' split
  all_goals (simp_all <;> omega)
theorem impl_BellowsOk_eq (a b c : Int) : impl_BellowsOk.f a b c = some (decide (1 ≤ b ∧ b ≤ 100000 ∧ 0 ≤ a ∧ a ≤ b ∧ 0 ≤ c ∧ c ≤ 10000)) := by
  simp only [impl_BellowsOk.f, within_eq, Option.bind_some]
  repeat' split
  all_goals (simp_all <;> omega)
abbrev bOk (a b c : Int) : Prop := 1 ≤ b ∧ b ≤ 100000 ∧ 0 ≤ a ∧ a ≤ b ∧ 0 ≤ c ∧ c ≤ 10000
/-- the air after the inflow -/
def air (a b c : Int) : Int := if b < a + c then b else a + c
theorem air_bd {a b c : Int} (h : bOk a b c) : 0 ≤ air a b c ∧ air a b c ≤ b ∧ a ≤ air a b c := by unfold air; split <;> omega
def blow (a b c d : Int) : Int × Int × Int × Bool := if bOk a b c ∧ (0 ≤ d ∧ d ≤ 100000) then (if air a b c < d then (0, b, c, false) else (air a b c - d, b, c, true)) else (a, b, c, false)
theorem blow_yes {a b c d : Int} (h : bOk a b c) (hd : 0 ≤ d ∧ d ≤ 100000) : blow a b c d = if air a b c < d then (0, b, c, false) else (air a b c - d, b, c, true) := if_pos ⟨h, hd⟩
theorem blow_no {a b c d : Int} (h : ¬ (bOk a b c ∧ (0 ≤ d ∧ d ≤ 100000))) : blow a b c d = (a, b, c, false) := if_neg h
theorem spec_BlowStep_eq (a b c d : Int) : spec_BlowStep.f a b c d = some (blow a b c d) := by
  simp only [spec_BlowStep.f, spec_l27Demand.f, spec_BellowsOk_eq, l01In_eq, Option.bind_some]
  by_cases h : bOk a b c
  · rw [if_pos (decide_eq_true h)]
    by_cases hd : 0 ≤ d ∧ d ≤ 100000
    · have ha := air_bd h
      have e1 : mn b (wrap64 (a + c)) = air a b c := by rw [w64 (n := a + c) (by omega) (by omega)]; unfold mn air; split <;> split <;> omega
      rw [if_pos (decide_eq_true hd), e1, w64 (n := air a b c - d) (by omega) (by omega), blow_yes h hd]
      by_cases hl : air a b c < d
      · have e2 : mx 0 (air a b c - d) = 0 := by unfold mx; rw [if_neg (by omega)]
        rw [if_pos hl, e2, decide_eq_false (by omega)]
      · have e2 : mx 0 (air a b c - d) = air a b c - d := by unfold mx; split <;> omega
        rw [if_neg hl, e2, decide_eq_true (by omega)]
    · rw [if_neg (by simpa using hd), blow_no (fun hh => hd hh.2)]
  · rw [if_neg (by simpa using h), blow_no (fun hh => h hh.1)]
theorem impl_BlowStep_eq (a b c d : Int) (k : Nat) (hk : 0 < k) : impl_BlowStep.f k a b c d = some (blow a b c d) := by
  obtain ⟨k, rfl⟩ : ∃ m, k = m + 1 := ⟨k - 1, by omega⟩
  simp only [impl_BlowStep.f, impl_isDemand.f, impl_BellowsOk_eq, within_eq, Option.bind_some]
  by_cases h : bOk a b c
  · rw [if_pos (decide_eq_true h)]
    by_cases hd : 0 ≤ d ∧ d ≤ 100000
    · have ha := air_bd h
      have e1 : mn (wrap64 (a + c)) b = air a b c := by rw [w64 (n := a + c) (by omega) (by omega)]; unfold mn air; rfl
      rw [decide_eq_true hd, impl_BlowStep.j0, e1, w64 (n := air a b c - d) (by omega) (by omega), blow_yes h hd]
      rw [if_neg (by decide)]
      by_cases hl : air a b c < d
      · rw [if_pos hl, if_pos hl]
      · rw [if_neg hl, if_neg hl]
    · rw [decide_eq_false hd, impl_BlowStep.j0, if_pos (by decide), blow_no (fun hh => hd hh.2)]
  · rw [if_neg (by simpa using h), impl_BlowStep.j0, if_pos rfl, blow_no (fun hh => h hh.1)]
theorem eqBellows_self (a b c : Int) : laws_eqBellows.f a b c a b c = some true := by simp [laws_eqBellows.f]
theorem FnExactBlowStep (a b c d : Int) : ∃ k, laws_FnExactBlowStep.f k a b c d = some true := by
  refine ⟨1, ?_⟩
  unfold laws_FnExactBlowStep.f
  simp only [laws_toBellows.f, Option.bind_some, spec_BlowStep_eq, impl_BlowStep_eq a b c d 1 (by omega), eqBellows_self]
  simp
end Go.Proofs.Ytbimhcdfojbjgaa.Pure
