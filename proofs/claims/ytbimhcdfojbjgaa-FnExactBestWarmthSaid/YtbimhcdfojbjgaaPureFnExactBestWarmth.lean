/- The plain law of FnExactBestWarmth: the printed function of the law answers true. Its conditions are those of the statement's own bounds. -/
import Derived.Test.YtbimhcdfojbjgaaPFnExactBestWarmthx1
namespace Go.Proofs.Ytbimhcdfojbjgaa.Pure
open Go.RowKit Go.Proofs.Ytbimhcdfojbjgaa.PFnExactBestWarmth Go.Proofs.YtbimhcdfojbjgaaW.PrintWords Go.Proofs.YtbimhcdfojbjgaaW.PrintLast Go.Proofs.YtbimhcdfojbjgaaW.PrintMore
set_option linter.unusedVariables false
theorem l01In_eq (a b c : Int) : spec_l01In.f a b c = some (decide (b ≤ a ∧ a ≤ c)) := by
  unfold spec_l01In.f
  by_cases h : a ≥ b
  · rw [if_pos h]; congr 1; by_cases h2 : a ≤ c <;> simp [h2, h]
  · rw [if_neg h]; congr 1; simp; omega
theorem within_eq (a b c : Int) : impl_within.f a b c = some (decide (b ≤ a ∧ a ≤ c)) := by
  unfold impl_within.f
  by_cases h : b ≤ a
  · rw [if_pos h]; congr 1; by_cases h2 : a ≤ c <;> simp [h2, h]
  · rw [if_neg h]; congr 1; simp; omega
theorem law_of {α : Type} [DecidableEq α] {s i : Option α} {r : α} (hs : s = some r) (hi : i = some r) : (s.bind fun t => i.bind fun u => if u = t then some true else some false) = some true := by
  subst hs hi; simp
theorem law_ofb {s i : Option Bool} {r : Bool} (hs : s = some r) (hi : i = some r) : (s.bind fun t => i.bind fun u => if (u != t) = true then some false else some true) = some true := by
  subst hs hi; simp
theorem wf_i64 {a : Int} (h : (Lit.int .i64 a).wf = true) : -9223372036854775808 ≤ a ∧ a ≤ 9223372036854775807 := by
  have h' : (decide ((-9223372036854775808 : Int) ≤ a) && decide (a ≤ 9223372036854775807)) = true := h
  simp at h'; omega
theorem w64 {n : Int} (h1 : -9223372036854775808 ≤ n) (h2 : n ≤ 9223372036854775807) : wrap64 n = n := by unfold wrap64; omega
theorem mul_bd {a b A B : Int} (h0 : 0 ≤ a) (h1 : a ≤ A) (h2 : 0 ≤ b) (h3 : b ≤ B) : 0 ≤ a * b ∧ a * b ≤ A * B := by
  refine ⟨Int.mul_nonneg h0 h2, ?_⟩
  exact Int.le_trans (Int.mul_le_mul_of_nonneg_right h1 h2) (Int.mul_le_mul_of_nonneg_left h3 (by omega))
theorem tdiv_nn {a b : Int} (h : 0 ≤ a) : a.tdiv b = a / b := Int.tdiv_eq_ediv_of_nonneg h
theorem div_bd {a A c : Int} (h0 : 0 ≤ a) (h1 : a ≤ A) (hc : 0 < c) : 0 ≤ a / c ∧ a / c ≤ A / c :=
  ⟨Int.ediv_nonneg h0 (by omega), Int.ediv_le_ediv hc h1⟩
def warm (a w : Int) : Int := if 1 ≤ a ∧ a ≤ 10000000 ∧ -10 ≤ w ∧ w ≤ 40 then a * (970 + 2 * w) / 1000 else 0
theorem warm_num {a w : Int} (h : 1 ≤ a ∧ a ≤ 10000000) (h2 : -10 ≤ w ∧ w ≤ 40) :
    wrap64 (Int.tdiv (wrap64 (a * (wrap64 (1000 + (wrap64 (2 * (wrap64 (w - 15)))))))) 1000) = a * (970 + 2 * w) / 1000 := by
  have e1 : wrap64 (w - 15) = w - 15 := w64 (by omega) (by omega)
  have e2 : wrap64 (2 * (w - 15)) = 2 * (w - 15) := w64 (by omega) (by omega)
  have e3 : wrap64 (1000 + 2 * (w - 15)) = 970 + 2 * w := by rw [w64 (by omega) (by omega)]; omega
  rw [e1, e2, e3]
  have b := mul_bd (a := a) (b := 970 + 2 * w) (A := 10000000) (B := 1050) (by omega) h.2 (by omega) (by omega)
  rw [w64 (n := a * (970 + 2 * w)) (by omega) (by omega), tdiv_nn b.1]
  exact w64 (by omega) (by omega)
theorem spec_WarmPitch_eq (a w : Int) : spec_WarmPitch.f a w = some (warm a w) := by
  simp only [spec_WarmPitch.f, spec_l18Pitch.f, l01In_eq, Option.bind_some]
  by_cases h : 1 ≤ a ∧ a ≤ 10000000
  · by_cases h2 : -10 ≤ w ∧ w ≤ 40
    · rw [warm_num h h2]; simp [h, h2, warm]
    · simp [h, h2, warm]
  · simp only [h, decide_false, Bool.false_eq_true, if_false]
    have : ¬ (1 ≤ a ∧ a ≤ 10000000 ∧ -10 ≤ w ∧ w ≤ 40) := by omega
    simp only [warm, this, if_false]
theorem impl_WarmPitch_eq (a w : Int) : impl_WarmPitch.f a w = some (warm a w) := by
  simp only [impl_WarmPitch.f, impl_isFine.f, impl_isWarmth.f, within_eq, Option.bind_some]
  by_cases h : 1 ≤ a ∧ a ≤ 10000000
  · by_cases h2 : -10 ≤ w ∧ w ≤ 40
    · rw [warm_num h h2]; simp [h, h2, warm]
    · simp [h, h2, warm]
  · simp only [h, decide_false, Bool.false_eq_true, if_false]
    have : ¬ (1 ≤ a ∧ a ≤ 10000000 ∧ -10 ≤ w ∧ w ≤ 40) := by omega
    simp only [warm, this, if_false]
theorem warm_bd (a w : Int) : 0 ≤ warm a w ∧ warm a w ≤ 10500000 := by
  unfold warm
  split
  · have b := mul_bd (a := a) (b := 970 + 2 * w) (A := 10000000) (B := 1050) (by omega) (by omega) (by omega) (by omega)
    omega
  · omega
def apart (a b : Int) : Int := mx (a - b) (b - a)
theorem apart_abs (a b : Int) : 0 ≤ apart a b ∧ (apart a b = a - b ∨ apart a b = b - a) := by unfold apart mx; split <;> omega
def reedB (a r w : Int) : Int := if 1 ≤ r ∧ r ≤ 10000000 ∧ warm a w ≠ 0 then apart (warm a w) r else -1
theorem warm_zero_of {a w : Int} (h : ¬ (1 ≤ a ∧ a ≤ 10000000)) : warm a w = 0 := by
  unfold warm; rw [if_neg (by omega)]
theorem spec_ReedBeats_eq (a r w : Int) : spec_ReedBeats.f a r w = some (reedB a r w) := by
  have hb := warm_bd a w
  simp only [spec_ReedBeats.f, spec_WarmPitch_eq, spec_l18Pitch.f, l01In_eq, Option.bind_some]
  by_cases h0 : warm a w = 0
  · simp [h0, reedB]
  · by_cases h : 1 ≤ r ∧ r ≤ 10000000
    · rw [w64 (n := warm a w - r) (by omega) (by omega), w64 (n := r - warm a w) (by omega) (by omega)]
      simp [h0, h, reedB, apart]
    · have : ¬ (1 ≤ r ∧ r ≤ 10000000 ∧ warm a w ≠ 0) := fun h' => h ⟨h'.1, h'.2.1⟩
      simp only [h0, h, reedB, this, decide_false, Bool.false_eq_true, if_false]
theorem impl_ReedBeats_eq (a r w : Int) : impl_ReedBeats.f a r w = some (reedB a r w) := by
  have hb := warm_bd a w
  simp only [impl_ReedBeats.f, impl_WarmPitch_eq, impl_isFine.f, impl_apart.f, within_eq, Option.bind_some]
  by_cases h1 : 1 ≤ a ∧ a ≤ 10000000
  · by_cases h : 1 ≤ r ∧ r ≤ 10000000
    · by_cases h0 : warm a w = 0
      · simp [h0, h, h1, reedB]
      · rw [w64 (n := warm a w - r) (by omega) (by omega), w64 (n := r - warm a w) (by omega) (by omega)]
        simp [h0, h, h1, reedB, apart]
    · have : ¬ (1 ≤ r ∧ r ≤ 10000000 ∧ warm a w ≠ 0) := fun h' => h ⟨h'.1, h'.2.1⟩
      simp only [h1, h, reedB, this, and_self, decide_true, decide_false, Bool.false_eq_true, if_false, if_true]
  · have : ¬ (1 ≤ r ∧ r ≤ 10000000 ∧ warm a w ≠ 0) := fun h' => h'.2.2 (warm_zero_of h1)
    simp only [h1, reedB, this, decide_false, Bool.false_eq_true, if_false]
theorem reedB_bd (a r w : Int) : -1 ≤ reedB a r w ∧ reedB a r w ≤ 20500000 := by
  have hb := warm_bd a w
  unfold reedB
  split
  · have := apart_abs (warm a w) r; omega
  · omega
/-- b is the first best of those before w; n what it hears (-1: none was good) -/
def BestUpto (a r : Int) (b n w : Int) : Prop :=
  (n = -1 ∧ b = -100 ∧ ∀ j, -10 ≤ j → j < w → reedB a r j < 0) ∨
  (0 ≤ n ∧ n = reedB a r b ∧ -10 ≤ b ∧ b < w ∧ ∀ j, -10 ≤ j → j < w → 0 ≤ reedB a r j → n ≤ reedB a r j ∧ (reedB a r j = n → b ≤ j))
theorem BestUpto.step {a r b n w : Int} (h : BestUpto a r b n w) (hw : -10 ≤ w) : BestUpto a r (if reedB a r w ≥ 0 ∧ (n < 0 ∨ reedB a r w < n) then w else b) (if reedB a r w ≥ 0 ∧ (n < 0 ∨ reedB a r w < n) then reedB a r w else n) (w + 1) := by
  by_cases hc : reedB a r w ≥ 0 ∧ (n < 0 ∨ reedB a r w < n)
  · rw [if_pos hc, if_pos hc]
    refine .inr ⟨hc.1, rfl, hw, by omega, fun j hj0 hj1 hjn => ?_⟩
    by_cases e : j = w
    · subst e; exact ⟨by omega, fun _ => by omega⟩
    · rcases h with ⟨_, _, h3⟩ | ⟨_, _, _, _, h5⟩
      · have := h3 j hj0 (by omega); omega
      · have := h5 j hj0 (by omega) hjn
        rcases hc.2 with hn | hn
        · omega
        · omega
  · rw [if_neg hc, if_neg hc]
    rcases h with ⟨h1, h2, h3⟩ | ⟨h1, h2, h3, h4, h5⟩
    · refine .inl ⟨h1, h2, fun j hj0 hj1 => ?_⟩
      by_cases e : j = w
      · subst e; omega
      · exact h3 j hj0 (by omega)
    · refine .inr ⟨h1, h2, h3, by omega, fun j hj0 hj1 hjn => ?_⟩
      by_cases e : j = w
      · subst e; exact ⟨by omega, fun _ => by omega⟩
      · exact h5 j hj0 (by omega) hjn
theorem impl_best_loop (a r : Int) : ∀ (d k : Nat) (b n w : Int), w = 41 - d → -10 ≤ w → d < k → BestUpto a r b n w → ∃ b' n', impl_BestWarmth.l0 k a r b n w = some b' ∧ BestUpto a r b' n' 41 := by
  intro d
  induction d with
  | zero =>
    intro k b n w hw h0 hk h
    obtain ⟨k, rfl⟩ : ∃ m, k = m + 1 := ⟨k - 1, by omega⟩
    refine ⟨b, n, by simp only [impl_BestWarmth.l0]; rw [if_neg (by omega)], ?_⟩
    obtain rfl : w = 41 := by omega
    exact h
  | succ d ih =>
    intro k b n w hw h0 hk h
    obtain ⟨k, rfl⟩ : ∃ m, k = m + 1 := ⟨k - 1, by omega⟩
    have hs := h.step h0
    simp only [impl_BestWarmth.l0, impl_ReedBeats_eq, Option.bind_some]
    rw [if_pos (by omega), w64 (n := w + 1) (by omega) (by omega)]
    by_cases c1 : reedB a r w ≥ 0
    · rw [if_pos c1]
      by_cases c2 : n < 0
      · rw [if_pos ⟨c1, .inl c2⟩, if_pos ⟨c1, .inl c2⟩] at hs
        rw [if_pos c2]
        exact ih k _ _ _ (by omega) (by omega) (by omega) hs
      · rw [if_neg c2]
        by_cases c3 : reedB a r w < n
        · rw [if_pos ⟨c1, .inr c3⟩, if_pos ⟨c1, .inr c3⟩] at hs
          rw [if_pos c3]
          exact ih k _ _ _ (by omega) (by omega) (by omega) hs
        · rw [if_neg (by omega), if_neg (by omega)] at hs
          rw [if_neg c3]
          exact ih k _ _ _ (by omega) (by omega) (by omega) hs
    · rw [if_neg c1]
      rw [if_neg (by omega), if_neg (by omega)] at hs
      exact ih k _ _ _ (by omega) (by omega) (by omega) hs
theorem impl_BestWarmth_val (a r : Int) (k : Nat) (hk : 52 < k) : ∃ b n, impl_BestWarmth.f k a r = some b ∧ BestUpto a r b n 41 := by
  unfold impl_BestWarmth.f
  exact impl_best_loop a r 51 k (-100) (-1) (-10) (by omega) (by omega) (by omega) (.inl ⟨rfl, rfl, fun j h0 h1 => by omega⟩)
theorem BestUpto.unique {a r b n b' n' w : Int} (h : BestUpto a r b n w) (g : BestUpto a r b' n' w) : b = b' := by
  rcases h with ⟨h1, h2, h3⟩ | ⟨h1, h2, h3, h4, h5⟩ <;> rcases g with ⟨g1, g2, g3⟩ | ⟨g1, g2, g3, g4, g5⟩
  · omega
  · have := h3 b' g3 g4; omega
  · have := g3 b h3 h4; omega
  · have e1 := h5 b' g3 g4 (by omega)
    have e2 := g5 b h3 h4 (by omega)
    have e3 := e1.2 (by omega)
    have e4 := e2.2 (by omega)
    omega
theorem spec_best_loop (a r : Int) : ∀ (d k : Nat) (b n w : Int), w = 41 - d → -10 ≤ w → d < k → BestUpto a r b n w → ∃ b' n', spec_BestWarmth.l0 k a r b w = some b' ∧ BestUpto a r b' n' 41 := by
  intro d
  induction d with
  | zero =>
    intro k b n w hw h0 hk h
    obtain ⟨k, rfl⟩ : ∃ m, k = m + 1 := ⟨k - 1, by omega⟩
    refine ⟨b, n, by simp only [spec_BestWarmth.l0]; rw [if_neg (by omega)], ?_⟩
    obtain rfl : w = 41 := by omega
    exact h
  | succ d ih =>
    intro k b n w hw h0 hk h
    obtain ⟨k, rfl⟩ : ∃ m, k = m + 1 := ⟨k - 1, by omega⟩
    have hs := h.step h0
    simp only [spec_BestWarmth.l0, spec_ReedBeats_eq, Option.bind_some]
    rw [if_pos (by omega), w64 (n := w + 1) (by omega) (by omega)]
    by_cases c1 : reedB a r w ≥ 0
    · rw [if_pos c1]
      by_cases c2 : b = -100
      · have hn : n < 0 := by
          rcases h with ⟨h1, _⟩ | ⟨_, _, h3, _⟩ <;> omega
        rw [if_pos ⟨c1, .inl hn⟩, if_pos ⟨c1, .inl hn⟩] at hs
        rw [if_pos c2]
        exact ih k _ _ _ (by omega) (by omega) (by omega) hs
      · rw [if_neg c2]
        have hn : 0 ≤ n ∧ n = reedB a r b := by
          rcases h with ⟨_, h2, _⟩ | ⟨h1, h2, _⟩
          · omega
          · exact ⟨h1, h2⟩
        by_cases c3 : reedB a r w < reedB a r b
        · rw [if_pos (by omega), if_pos (by omega)] at hs
          rw [if_pos c3]
          exact ih k _ _ _ (by omega) (by omega) (by omega) hs
        · rw [if_neg (by omega), if_neg (by omega)] at hs
          rw [if_neg c3]
          exact ih k _ _ _ (by omega) (by omega) (by omega) hs
    · rw [if_neg c1]
      rw [if_neg (by omega), if_neg (by omega)] at hs
      exact ih k _ _ _ (by omega) (by omega) (by omega) hs
theorem FnExactBestWarmth : laws_FnExactBestWarmth.Pure := by
  intro a r _ _
  refine ⟨100, ?_⟩
  obtain ⟨b, n, e, h⟩ := impl_BestWarmth_val a r 100 (by omega)
  obtain ⟨b', n', e', h'⟩ := spec_best_loop a r 51 100 (-100) (-1) (-10) (by omega) (by omega) (by omega) (.inl ⟨rfl, rfl, fun j h0 h1 => by omega⟩)
  rw [h'.unique h] at e'
  exact law_of e' e
end Go.Proofs.Ytbimhcdfojbjgaa.Pure
