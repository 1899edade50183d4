/- The plain law of FnExactCanLast: the printed function of the law answers true. Its conditions are those of the statement's own bounds. -/
import Derived.Test.YtbimhcdfojbjgabPFnExactCanLastx2
namespace Go.Proofs.Ytbimhcdfojbjgab.Pure
open Go.RowKit Go.Proofs.Ytbimhcdfojbjgab.PFnExactCanLast Go.Proofs.YtbimhcdfojbjgabW.PrintWords Go.Proofs.YtbimhcdfojbjgabW.PrintLast Go.Proofs.YtbimhcdfojbjgabW.PrintMore
set_option linter.unusedVariables false
theorem l01In_eq (a b c : Int) : spec_l01In.f a b c = some (decide (b ≤ a ∧ a ≤ c)) := by
  unfold spec_l01In.f
  by_cases h : a ≥ b
  · rw [if_pos h]; congr 1; by_cases h2 : a ≤ c <;> simp [h2, h]
  · rw [if_neg h]; congr 1; simp; omega
theorem within_eq (a b c : Int) : impl_within.f a b c = some (decide (b ≤ a ∧ a ≤ c)) := by
  unfold impl_within.f
  by_cases h : b ≤ a
  · rw [if_pos h]; congr 1; by_cases h2 : a ≤ c <;> simp [h2, h]
  · rw [if_neg h]; congr 1; simp; omega
theorem law_of {α : Type} [DecidableEq α] {s i : Option α} {r : α} (hs : s = some r) (hi : i = some r) : (s.bind fun t => i.bind fun u => if u = t then some true else some false) = some true := by
  subst hs hi; simp
theorem law_ofb {s i : Option Bool} {r : Bool} (hs : s = some r) (hi : i = some r) : (s.bind fun t => i.bind fun u => if (u != t) = true then some false else some true) = some true := by
  subst hs hi; simp
theorem wf_i64 {a : Int} (h : (Lit.int .i64 a).wf = true) : -9223372036854775808 ≤ a ∧ a ≤ 9223372036854775807 := by
  have h' : (decide ((-9223372036854775808 : Int) ≤ a) && decide (a ≤ 9223372036854775807)) = true := h
  simp at h'; omega
theorem w64 {n : Int} (h1 : -9223372036854775808 ≤ n) (h2 : n ≤ 9223372036854775807) : wrap64 n = n := by unfold wrap64; omega
theorem mul_bd {a b A B : Int} (h0 : 0 ≤ a) (h1 : a ≤ A) (h2 : 0 ≤ b) (h3 : b ≤ B) : 0 ≤ a * b ∧ a * b ≤ A * B := by
  refine ⟨Int.mul_nonneg h0 h2, ?_⟩
  exact Int.le_trans (Int.mul_le_mul_of_nonneg_right h1 h2) (Int.mul_le_mul_of_nonneg_left h3 (by omega))
theorem tdiv_nn {a b : Int} (h : 0 ≤ a) : a.tdiv b = a / b := Int.tdiv_eq_ediv_of_nonneg h
theorem div_bd {a A c : Int} (h0 : 0 ≤ a) (h1 : a ≤ A) (hc : 0 < c) : 0 ≤ a / c ∧ a / c ≤ A / c :=
  ⟨Int.ediv_nonneg h0 (by omega), Int.ediv_le_ediv hc h1⟩
theorem spec_BellowsOk_eq (a b c : Int) : spec_BellowsOk.f a b c = some (decide (1 ≤ b ∧ b ≤ 100000 ∧ 0 ≤ a ∧ a ≤ b ∧ 0 ≤ c ∧ c ≤ 10000)) := by
  simp only [spec_BellowsOk.f, l01In_eq, Option.bind_some]
  repeat' split
  all_goals (simp_all <;> omega)
theorem impl_BellowsOk_eq (a b c : Int) : impl_BellowsOk.f a b c = some (decide (1 ≤ b ∧ b ≤ 100000 ∧ 0 ≤ a ∧ a ≤ b ∧ 0 ≤ c ∧ c ≤ 10000)) := by
  simp only [impl_BellowsOk.f, within_eq, Option.bind_some]
  repeat' split
  all_goals (simp_all <;> omega)
abbrev bOk (a b c : Int) : Prop := 1 ≤ b ∧ b ≤ 100000 ∧ 0 ≤ a ∧ a ≤ b ∧ 0 ≤ c ∧ c ≤ 10000
/-- the air after the inflow -/
def air (a b c : Int) : Int := if b < a + c then b else a + c
theorem air_bd {a b c : Int} (h : bOk a b c) : 0 ≤ air a b c ∧ air a b c ≤ b ∧ a ≤ air a b c := by unfold air; split <;> omega
def blow (a b c d : Int) : Int × Int × Int × Bool := if bOk a b c ∧ (0 ≤ d ∧ d ≤ 100000) then (if air a b c < d then (0, b, c, false) else (air a b c - d, b, c, true)) else (a, b, c, false)
theorem blow_yes {a b c d : Int} (h : bOk a b c) (hd : 0 ≤ d ∧ d ≤ 100000) : blow a b c d = if air a b c < d then (0, b, c, false) else (air a b c - d, b, c, true) := if_pos ⟨h, hd⟩
theorem blow_no {a b c d : Int} (h : ¬ (bOk a b c ∧ (0 ≤ d ∧ d ≤ 100000))) : blow a b c d = (a, b, c, false) := if_neg h
theorem spec_BlowStep_eq (a b c d : Int) : spec_BlowStep.f a b c d = some (blow a b c d) := by
  simp only [spec_BlowStep.f, spec_l27Demand.f, spec_BellowsOk_eq, l01In_eq, Option.bind_some]
  by_cases h : bOk a b c
  · rw [if_pos (decide_eq_true h)]
    by_cases hd : 0 ≤ d ∧ d ≤ 100000
    · have ha := air_bd h
      have e1 : mn b (wrap64 (a + c)) = air a b c := by rw [w64 (n := a + c) (by omega) (by omega)]; unfold mn air; split <;> split <;> omega
      rw [if_pos (decide_eq_true hd), e1, w64 (n := air a b c - d) (by omega) (by omega), blow_yes h hd]
      by_cases hl : air a b c < d
      · have e2 : mx 0 (air a b c - d) = 0 := by unfold mx; rw [if_neg (by omega)]
        rw [if_pos hl, e2, decide_eq_false (by omega)]
      · have e2 : mx 0 (air a b c - d) = air a b c - d := by unfold mx; split <;> omega
        rw [if_neg hl, e2, decide_eq_true (by omega)]
    · rw [if_neg (by simpa using hd), blow_no (fun hh => hd hh.2)]
  · rw [if_neg (by simpa using h), blow_no (fun hh => h hh.1)]
theorem impl_BlowStep_eq (a b c d : Int) (k : Nat) (hk : 0 < k) : impl_BlowStep.f k a b c d = some (blow a b c d) := by
  obtain ⟨k, rfl⟩ : ∃ m, k = m + 1 := ⟨k - 1, by omega⟩
  simp only [impl_BlowStep.f, impl_isDemand.f, impl_BellowsOk_eq, within_eq, Option.bind_some]
  by_cases h : bOk a b c
  · rw [if_pos (decide_eq_true h)]
    by_cases hd : 0 ≤ d ∧ d ≤ 100000
    · have ha := air_bd h
      have e1 : mn (wrap64 (a + c)) b = air a b c := by rw [w64 (n := a + c) (by omega) (by omega)]; unfold mn air; rfl
      rw [decide_eq_true hd, impl_BlowStep.j0, e1, w64 (n := air a b c - d) (by omega) (by omega), blow_yes h hd]
      rw [if_neg (by decide)]
      by_cases hl : air a b c < d
      · rw [if_pos hl, if_pos hl]
      · rw [if_neg hl, if_neg hl]
    · rw [decide_eq_false hd, impl_BlowStep.j0, if_pos (by decide), blow_no (fun hh => hd hh.2)]
  · rw [if_neg (by simpa using h), impl_BlowStep.j0, if_pos rfl, blow_no (fun hh => h hh.1)]
theorem blow_keep {a b c d : Int} (h : bOk a b c) (hd : 0 ≤ d ∧ d ≤ 100000) : ∃ a' s, blow a b c d = (a', b, c, s) ∧ bOk a' b c ∧ (s = true ↔ d ≤ air a b c) := by
  have ha := air_bd h
  rw [blow_yes h hd]
  by_cases hl : air a b c < d
  · rw [if_pos hl]; exact ⟨0, false, rfl, by omega, by simp; omega⟩
  · rw [if_neg hl]; exact ⟨air a b c - d, true, rfl, by omega, by simp; omega⟩
/-- what is left after n moments, if there is always enough -/
def lasts (b c d : Int) : Nat → Int → Bool
  | 0, _ => true
  | n + 1, a => if air a b c < d then false else lasts b c d n (air a b c - d)
theorem impl_can_loop {b c d : Int} (hd : 0 ≤ d ∧ d ≤ 100000) (m : Int) (hm : m ≤ 1000) : ∀ (e k : Nat) (n a : Int), n = m - e → 0 ≤ n → e + 1 < k → bOk a b c → impl_CanLast.l0 k d m n a b c = some (lasts b c d e a) := by
  intro e
  induction e with
  | zero =>
    intro k n a hn h0 hk h
    obtain ⟨k, rfl⟩ : ∃ m, k = m + 1 := ⟨k - 1, by omega⟩
    simp only [impl_CanLast.l0, lasts]
    rw [if_neg (by omega)]
  | succ e ih =>
    intro k n a hn h0 hk h
    obtain ⟨k, rfl⟩ : ∃ m, k = m + 1 := ⟨k - 1, by omega⟩
    have ha := air_bd h
    simp only [impl_CanLast.l0, lasts]
    rw [if_pos (by omega), impl_BlowStep_eq a b c d k (by omega), blow_yes h hd]
    simp only [Option.bind_some]
    by_cases hl : air a b c < d
    · rw [if_pos hl, if_pos hl]
      rfl
    · rw [if_neg hl, if_neg hl]
      simp only [if_true]
      rw [w64 (n := n + 1) (by omega) (by omega)]
      exact ih k (n + 1) (air a b c - d) (by omega) (by omega) (by omega) (by omega)
theorem impl_CanLast_val {a b c d m : Int} (h : bOk a b c) (hd : 0 ≤ d ∧ d ≤ 100000) (hm : 0 ≤ m ∧ m ≤ 1000) (k : Nat) (hk : 1003 < k) : impl_CanLast.f k a b c d m = some (lasts b c d m.toNat a) := by
  obtain ⟨k, rfl⟩ : ∃ m, k = m + 1 := ⟨k - 1, by omega⟩
  simp only [impl_CanLast.f, impl_BellowsOk_eq, impl_isDemand.f, within_eq, Option.bind_some]
  rw [if_pos (decide_eq_true h), if_pos (decide_eq_true hd), decide_eq_true hm, impl_CanLast.j0, if_neg (by decide)]
  exact impl_can_loop hd m hm.2 m.toNat k 0 a (by omega) (by omega) (by omega) h
theorem impl_CanLast_no {a b c d m : Int} (h : ¬ (bOk a b c ∧ (0 ≤ d ∧ d ≤ 100000) ∧ (0 ≤ m ∧ m ≤ 1000))) (k : Nat) (hk : 1 < k) : impl_CanLast.f k a b c d m = some false := by
  obtain ⟨k, rfl⟩ : ∃ m, k = m + 1 := ⟨k - 1, by omega⟩
  simp only [impl_CanLast.f, impl_BellowsOk_eq, impl_isDemand.f, within_eq, Option.bind_some]
  by_cases h1 : bOk a b c
  · rw [if_pos (decide_eq_true h1)]
    by_cases h2 : 0 ≤ d ∧ d ≤ 100000
    · have h3 : ¬ (0 ≤ m ∧ m ≤ 1000) := fun h3 => h ⟨h1, h2, h3⟩
      rw [if_pos (decide_eq_true h2), decide_eq_false h3, impl_CanLast.j0]; rfl
    · rw [if_neg (by simpa using h2), impl_CanLast.j0]; rfl
  · rw [if_neg (by simpa using h1), impl_CanLast.j0]; rfl
theorem spec_can_loop {b c d : Int} (hd : 0 ≤ d ∧ d ≤ 100000) (m : Int) (hm : m ≤ 1000) : ∀ (e k : Nat) (n a : Int), n = m - e → 0 ≤ n → e + 1 < k → bOk a b c → spec_CanLast.l0 k d m n a b c = some (lasts b c d e a) := by
  intro e
  induction e with
  | zero =>
    intro k n a hn h0 hk h
    obtain ⟨k, rfl⟩ : ∃ m, k = m + 1 := ⟨k - 1, by omega⟩
    simp only [spec_CanLast.l0, lasts]
    rw [if_neg (by omega)]
  | succ e ih =>
    intro k n a hn h0 hk h
    obtain ⟨k, rfl⟩ : ∃ m, k = m + 1 := ⟨k - 1, by omega⟩
    have ha := air_bd h
    simp only [spec_CanLast.l0, lasts]
    rw [if_pos (by omega), spec_BlowStep_eq, blow_yes h hd]
    simp only [Option.bind_some]
    by_cases hl : air a b c < d
    · rw [if_pos hl, if_pos hl]
      rfl
    · rw [if_neg hl, if_neg hl]
      simp only [if_true]
      rw [w64 (n := n + 1) (by omega) (by omega)]
      exact ih k (n + 1) (air a b c - d) (by omega) (by omega) (by omega) (by omega)
theorem can_law (a b c d m : Int) (k : Nat) (hk : 5000 < k) : laws_FnExactCanLast.f (k + 1) a b c d m = some true := by
  unfold laws_FnExactCanLast.f
  simp only [laws_toBellows.f, Option.bind_some]
  by_cases h : bOk a b c ∧ (0 ≤ d ∧ d ≤ 100000) ∧ (0 ≤ m ∧ m ≤ 1000)
  · refine law_ofb (r := lasts b c d m.toNat a) ?_ (impl_CanLast_val h.1 h.2.1 h.2.2 (k + 1) (by omega))
    simp only [spec_CanLast.f, spec_BellowsOk_eq, spec_l27Demand.f, l01In_eq, Option.bind_some]
    rw [if_pos (decide_eq_true h.1), if_pos (decide_eq_true h.2.1), decide_eq_true h.2.2, spec_CanLast.j0, if_neg (by decide)]
    exact spec_can_loop h.2.1 m h.2.2.2 m.toNat k 0 a (by omega) (by omega) (by omega) h.1
  · refine law_ofb (r := false) ?_ (impl_CanLast_no h (k + 1) (by omega))
    simp only [spec_CanLast.f, spec_BellowsOk_eq, spec_l27Demand.f, l01In_eq, Option.bind_some]
    by_cases h1 : bOk a b c
    · rw [if_pos (decide_eq_true h1)]
      by_cases h2 : 0 ≤ d ∧ d ≤ 100000
      · have h3 : ¬ (0 ≤ m ∧ m ≤ 1000) := fun h3 => h ⟨h1, h2, h3⟩
        rw [if_pos (decide_eq_true h2), decide_eq_false h3, spec_CanLast.j0]; rfl
      · rw [if_neg (by simpa using h2), spec_CanLast.j0]; rfl
    · rw [if_neg (by simpa using h1), spec_CanLast.j0]; rfl
theorem FnExactCanLast (a b c d m : Int) : ∃ k, laws_FnExactCanLast.f k a b c d m = some true := by
  obtain ⟨k, hk⟩ : ∃ k : Nat, 5000 < k := ⟨5001, by omega⟩
  exact ⟨k + 1, can_law a b c d m k hk⟩
end Go.Proofs.Ytbimhcdfojbjgab.Pure
