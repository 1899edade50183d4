/- The plain law of FnExactUsualPitch: the printed function of the law answers true. Its conditions are those of the statement's own bounds. -/
import Derived.Test.YtbimhcdfojbjgaaPFnExactUsualPitchx1
namespace Go.Proofs.Ytbimhcdfojbjgaa.Pure
open Go.RowKit Go.Proofs.Ytbimhcdfojbjgaa.PFnExactUsualPitch Go.Proofs.YtbimhcdfojbjgaaW.PrintWords Go.Proofs.YtbimhcdfojbjgaaW.PrintLast Go.Proofs.YtbimhcdfojbjgaaW.PrintMore
set_option linter.unusedVariables false
theorem l01In_eq (a b c : Int) : spec_l01In.f a b c = some (decide (b ≤ a ∧ a ≤ c)) := by
  unfold spec_l01In.f
  by_cases h : a ≥ b
  · rw [if_pos h]; congr 1; by_cases h2 : a ≤ c <;> simp [h2, h]
  · rw [if_neg h]; congr 1; simp; omega
theorem within_eq (a b c : Int) : impl_within.f a b c = some (decide (b ≤ a ∧ a ≤ c)) := by
  unfold impl_within.f
  by_cases h : b ≤ a
  · rw [if_pos h]; congr 1; by_cases h2 : a ≤ c <;> simp [h2, h]
  · rw [if_neg h]; congr 1; simp; omega
theorem law_of {α : Type} [DecidableEq α] {s i : Option α} {r : α} (hs : s = some r) (hi : i = some r) : (s.bind fun t => i.bind fun u => if u = t then some true else some false) = some true := by
  subst hs hi; simp
theorem law_ofb {s i : Option Bool} {r : Bool} (hs : s = some r) (hi : i = some r) : (s.bind fun t => i.bind fun u => if (u != t) = true then some false else some true) = some true := by
  subst hs hi; simp
theorem wf_i64 {a : Int} (h : (Lit.int .i64 a).wf = true) : -9223372036854775808 ≤ a ∧ a ≤ 9223372036854775807 := by
  have h' : (decide ((-9223372036854775808 : Int) ≤ a) && decide (a ≤ 9223372036854775807)) = true := h
  simp at h'; omega
theorem w64 {n : Int} (h1 : -9223372036854775808 ≤ n) (h2 : n ≤ 9223372036854775807) : wrap64 n = n := by unfold wrap64; omega
theorem mul_bd {a b A B : Int} (h0 : 0 ≤ a) (h1 : a ≤ A) (h2 : 0 ≤ b) (h3 : b ≤ B) : 0 ≤ a * b ∧ a * b ≤ A * B := by
  refine ⟨Int.mul_nonneg h0 h2, ?_⟩
  exact Int.le_trans (Int.mul_le_mul_of_nonneg_right h1 h2) (Int.mul_le_mul_of_nonneg_left h3 (by omega))
theorem tdiv_nn {a b : Int} (h : 0 ≤ a) : a.tdiv b = a / b := Int.tdiv_eq_ediv_of_nonneg h
theorem div_bd {a A c : Int} (h0 : 0 ≤ a) (h1 : a ≤ A) (hc : 0 < c) : 0 ≤ a / c ∧ a / c ≤ A / c :=
  ⟨Int.ediv_nonneg h0 (by omega), Int.ediv_le_ediv hc h1⟩
def warm (a w : Int) : Int := if 1 ≤ a ∧ a ≤ 10000000 ∧ -10 ≤ w ∧ w ≤ 40 then a * (970 + 2 * w) / 1000 else 0
theorem warm_num {a w : Int} (h : 1 ≤ a ∧ a ≤ 10000000) (h2 : -10 ≤ w ∧ w ≤ 40) :
    wrap64 (Int.tdiv (wrap64 (a * (wrap64 (1000 + (wrap64 (2 * (wrap64 (w - 15)))))))) 1000) = a * (970 + 2 * w) / 1000 := by
  have e1 : wrap64 (w - 15) = w - 15 := w64 (by omega) (by omega)
  have e2 : wrap64 (2 * (w - 15)) = 2 * (w - 15) := w64 (by omega) (by omega)
  have e3 : wrap64 (1000 + 2 * (w - 15)) = 970 + 2 * w := by rw [w64 (by omega) (by omega)]; omega
  rw [e1, e2, e3]
  have b := mul_bd (a := a) (b := 970 + 2 * w) (A := 10000000) (B := 1050) (by omega) h.2 (by omega) (by omega)
  rw [w64 (n := a * (970 + 2 * w)) (by omega) (by omega), tdiv_nn b.1]
  exact w64 (by omega) (by omega)
theorem spec_WarmPitch_eq (a w : Int) : spec_WarmPitch.f a w = some (warm a w) := by
  simp only [spec_WarmPitch.f, spec_l18Pitch.f, l01In_eq, Option.bind_some]
  by_cases h : 1 ≤ a ∧ a ≤ 10000000
  · by_cases h2 : -10 ≤ w ∧ w ≤ 40
    · rw [warm_num h h2]; simp [h, h2, warm]
    · simp [h, h2, warm]
  · simp only [h, decide_false, Bool.false_eq_true, if_false]
    have : ¬ (1 ≤ a ∧ a ≤ 10000000 ∧ -10 ≤ w ∧ w ≤ 40) := by omega
    simp only [warm, this, if_false]
theorem impl_WarmPitch_eq (a w : Int) : impl_WarmPitch.f a w = some (warm a w) := by
  simp only [impl_WarmPitch.f, impl_isFine.f, impl_isWarmth.f, within_eq, Option.bind_some]
  by_cases h : 1 ≤ a ∧ a ≤ 10000000
  · by_cases h2 : -10 ≤ w ∧ w ≤ 40
    · rw [warm_num h h2]; simp [h, h2, warm]
    · simp [h, h2, warm]
  · simp only [h, decide_false, Bool.false_eq_true, if_false]
    have : ¬ (1 ≤ a ∧ a ≤ 10000000 ∧ -10 ≤ w ∧ w ≤ 40) := by omega
    simp only [warm, this, if_false]
theorem warm_bd (a w : Int) : 0 ≤ warm a w ∧ warm a w ≤ 10500000 := by
  unfold warm
  split
  · have b := mul_bd (a := a) (b := 970 + 2 * w) (A := 10000000) (B := 1050) (by omega) (by omega) (by omega) (by omega)
    omega
  · omega
/-- r is the greatest number of [0, m] at which q holds (0 if there is none) -/
def IsTop (q : Int → Bool) (m r : Int) : Prop := 0 ≤ r ∧ r ≤ m ∧ (r = 0 ∨ q r = true) ∧ ∀ n, r < n → n ≤ m → q n = false
theorem IsTop.unique {q : Int → Bool} {m r s : Int} (h : IsTop q m r) (g : IsTop q m s) : r = s := by
  obtain ⟨h0, h1, h2, h3⟩ := h
  obtain ⟨g0, g1, g2, g3⟩ := g
  rcases Int.lt_trichotomy r s with c | c | c
  · rcases g2 with e | e
    · omega
    · rw [h3 s c g1] at e; cases e
  · exact c
  · rcases h2 with e | e
    · omega
    · rw [g3 r c h1] at e; cases e
/-- the search by halved steps -/
def lift (q : Int → Bool) (m : Int) : Nat → Int → Int → Int
  | 0, n, _ => n
  | d + 1, n, s => lift q m d (if n + s ≤ m ∧ q (n + s) = true then n + s else n) (s / 2)
theorem lift_top (q : Int → Bool) (m : Int) (mono : ∀ i j, 1 ≤ i → i ≤ j → j ≤ m → q j = true → q i = true) : ∀ (d : Nat) (n : Int), 0 ≤ n → n ≤ m → (n = 0 ∨ q n = true) →
    (∀ j, n + 2 ^ d ≤ j → j ≤ m → q j = false) → IsTop q m (lift q m d n (2 ^ d / 2)) := by
  intro d
  induction d with
  | zero =>
    intro n h0 h1 h2 h3
    refine ⟨h0, h1, h2, fun j hj hm => h3 j ?_ hm⟩
    have hj' : n < j := hj
    simp
    omega
  | succ d ih =>
    intro n h0 h1 h2 h3
    have hp : (2 : Int) ^ (d + 1) / 2 = 2 ^ d := by rw [Int.pow_succ]; omega
    have hpos : (0 : Int) < 2 ^ d := Int.pow_pos (by decide)
    have hs : (2 : Int) ^ (d + 1) = 2 ^ d + 2 ^ d := by rw [Int.pow_succ]; omega
    rw [hp]
    unfold lift
    by_cases hc : n + 2 ^ d ≤ m ∧ q (n + 2 ^ d) = true
    · rw [if_pos hc]
      exact ih _ (by omega) hc.1 (.inr hc.2) (fun j hj hm => h3 j (by omega) hm)
    · rw [if_neg hc]
      refine ih n h0 h1 h2 (fun j hj hm => ?_)
      cases hq : q j
      · rfl
      · exact absurd ⟨by omega, mono _ j (by omega) hj hm hq⟩ hc
theorem warm_mono {i j w : Int} (h0 : 1 ≤ i) (h1 : i ≤ j) (h2 : j ≤ 10000000) : warm i w ≤ warm j w := by
  unfold warm
  by_cases hw : -10 ≤ w ∧ w ≤ 40
  · rw [if_pos (by omega), if_pos (by omega)]
    apply Int.ediv_le_ediv (by omega)
    exact Int.mul_le_mul_of_nonneg_right h1 (by omega)
  · rw [if_neg (by omega), if_neg (by omega)]; omega
abbrev uq (h w : Int) (n : Int) : Bool := decide (warm n w ≤ h)
theorem uq_mono (h w : Int) : ∀ i j, 1 ≤ i → i ≤ j → j ≤ 10000000 → uq h w j = true → uq h w i = true := by
  intro i j h0 h1 h2 hq
  have := warm_mono (w := w) h0 h1 h2
  simp only [uq, decide_eq_true_eq] at hq ⊢
  omega
abbrev uOk (h w : Int) : Prop := (1 ≤ h ∧ h ≤ 10000000) ∧ (-10 ≤ w ∧ w ≤ 40)
theorem impl_usual_loop (h w : Int) : ∀ (d k : Nat) (a b : Int), 0 ≤ a → a ≤ b → b ≤ 10000000 → b - a ≤ d → d < k → (a = 0 ∨ uq h w a = true) → (∀ j, b < j → j ≤ 10000000 → uq h w j = false) →
    ∃ r, impl_UsualPitch.l0 k h w a b = some r ∧ IsTop (uq h w) 10000000 r := by
  intro d
  induction d with
  | zero =>
    intro k a b h0 h1 h2 hd hk hq hn
    obtain ⟨k, rfl⟩ : ∃ m, k = m + 1 := ⟨k - 1, by omega⟩
    refine ⟨a, by simp only [impl_UsualPitch.l0]; rw [if_neg (by omega)], h0, by omega, hq, fun j hj hm => hn j (by omega) hm⟩
  | succ d ih =>
    intro k a b h0 h1 h2 hd hk hq hn
    obtain ⟨k, rfl⟩ : ∃ m, k = m + 1 := ⟨k - 1, by omega⟩
    by_cases hlt : a < b
    · have e1 : wrap64 (Int.tdiv (wrap64 ((wrap64 (a + b)) + 1)) 2) = (a + b + 1) / 2 := by
        rw [w64 (n := a + b) (by omega) (by omega), w64 (n := a + b + 1) (by omega) (by omega), tdiv_nn (by omega), w64 (by omega) (by omega)]
      simp only [impl_UsualPitch.l0]
      rw [if_pos hlt, e1, impl_WarmPitch_eq]
      simp only [Option.bind_some]
      rw [w64 (n := (a + b + 1) / 2 - 1) (by omega) (by omega)]
      by_cases hc : warm ((a + b + 1) / 2) w ≤ h
      · rw [if_pos hc]
        exact ih k _ b (by omega) (by omega) h2 (by omega) (by omega) (.inr (decide_eq_true hc)) hn
      · rw [if_neg hc]
        refine ih k a _ h0 (by omega) (by omega) (by omega) (by omega) hq (fun j hj hm => ?_)
        cases hu : uq h w j
        · rfl
        · have := uq_mono h w _ j (by omega) (show (a + b + 1) / 2 ≤ j by omega) hm hu
          exact absurd (of_decide_eq_true this) hc
    · refine ⟨a, by simp only [impl_UsualPitch.l0]; rw [if_neg hlt], h0, by omega, hq, fun j hj hm => hn j (by omega) hm⟩
theorem impl_UsualPitch_top (h w : Int) (ho : uOk h w) (k : Nat) (hk : 10000001 < k) : ∃ r, impl_UsualPitch.f k h w = some r ∧ IsTop (uq h w) 10000000 r := by
  obtain ⟨k, rfl⟩ : ∃ m, k = m + 1 := ⟨k - 1, by omega⟩
  obtain ⟨r, e, t⟩ := impl_usual_loop h w 10000000 k 0 10000000 (by omega) (by omega) (by omega) (by omega) (by omega) (.inl rfl) (fun j hj hm => by omega)
  refine ⟨r, ?_, t⟩
  simp only [impl_UsualPitch.f, impl_isFine.f, impl_isWarmth.f, within_eq, Option.bind_some]
  rw [if_pos (decide_eq_true ho.1), decide_eq_true ho.2]
  simp only [impl_UsualPitch.j0, Bool.not_true, Bool.false_eq_true, if_false]
  exact e
theorem impl_UsualPitch_no (h w : Int) (ho : ¬ uOk h w) (k : Nat) (hk : 1 < k) : impl_UsualPitch.f k h w = some 0 := by
  obtain ⟨k, rfl⟩ : ∃ m, k = m + 1 := ⟨k - 1, by omega⟩
  simp only [impl_UsualPitch.f, impl_isFine.f, impl_isWarmth.f, within_eq, Option.bind_some]
  by_cases h1 : 1 ≤ h ∧ h ≤ 10000000
  · have h2 : ¬ (-10 ≤ w ∧ w ≤ 40) := fun h2 => ho ⟨h1, h2⟩
    rw [if_pos (decide_eq_true h1), decide_eq_false h2]
    simp only [impl_UsualPitch.j0, Bool.not_false, if_true]
  · rw [if_neg (by simpa using h1)]
    simp only [impl_UsualPitch.j0, if_true]
theorem spec_usual_loop (h w : Int) : ∀ (d k : Nat) (n s : Int), d < k → s = 2 ^ d / 2 → d ≤ 24 → 0 ≤ n → n ≤ 10000000 → spec_UsualPitch.l0 k h w n s = some (lift (uq h w) 10000000 d n s) := by
  intro d
  induction d with
  | zero =>
    intro k n s hk hs hd h0 h1
    obtain ⟨k, rfl⟩ : ∃ m, k = m + 1 := ⟨k - 1, by omega⟩
    have : s = 0 := by rw [hs]; decide
    subst this
    simp only [spec_UsualPitch.l0, lift]
    rw [if_neg (by omega)]
  | succ d ih =>
    intro k n s hk hs hd h0 h1
    obtain ⟨k, rfl⟩ : ∃ m, k = m + 1 := ⟨k - 1, by omega⟩
    have hs2 : s = 2 ^ d := by rw [hs, Int.pow_succ]; omega
    have hpos : (0 : Int) < 2 ^ d := Int.pow_pos (by decide)
    have hle : (2 : Int) ^ d ≤ 2 ^ 24 := by
      have h1 : (2 : Nat) ^ d ≤ 2 ^ 24 := Nat.pow_le_pow_right (by decide) (by omega)
      exact_mod_cast h1
    have e24 : (2 : Int) ^ 24 = 16777216 := by decide
    have e1 : wrap64 (Int.tdiv s 2) = s / 2 := by rw [tdiv_nn (by omega), w64 (by omega) (by omega)]
    have e2 : s / 2 = 2 ^ d / 2 := by rw [hs2]
    simp only [spec_UsualPitch.l0, lift]
    rw [if_pos (by omega), e1, w64 (n := n + s) (by omega) (by omega)]
    by_cases hc : n + s ≤ 10000000
    · rw [if_pos hc, spec_WarmPitch_eq]
      simp only [Option.bind_some]
      by_cases hq : warm (n + s) w ≤ h
      · rw [if_pos hq, if_pos ⟨hc, decide_eq_true hq⟩]
        exact ih k _ _ (by omega) e2 (by omega) (by omega) hc
      · rw [if_neg hq, if_neg (fun hh => hq (of_decide_eq_true hh.2))]
        exact ih k _ _ (by omega) e2 (by omega) h0 h1
    · rw [if_neg hc, if_neg (fun hh => hc hh.1)]
      exact ih k _ _ (by omega) e2 (by omega) h0 h1
theorem usual_law (h w : Int) (k : Nat) (hk : 10000002 < k) : laws_FnExactUsualPitch.f (k + 1) h w = some true := by
  unfold laws_FnExactUsualPitch.f
  by_cases ho : uOk h w
  · obtain ⟨r, e, t⟩ := impl_UsualPitch_top h w ho (k + 1) (by omega)
    refine law_of (r := r) ?_ e
    have e24 : (2 : Int) ^ 24 = 16777216 := by decide
    have t2 := lift_top (uq h w) 10000000 (uq_mono h w) 24 0 (by omega) (by omega) (.inl rfl) (fun j hj hm => by omega)
    rw [← t2.unique t, ← spec_usual_loop h w 24 k 0 (2 ^ 24 / 2) (by omega) rfl (by omega) (by omega) (by omega)]
    simp only [spec_UsualPitch.f, spec_l18Pitch.f, l01In_eq, Option.bind_some]
    rw [if_pos (decide_eq_true ho.1), decide_eq_true ho.2, spec_UsualPitch.j0]
    rfl
  · refine law_of (r := 0) ?_ (impl_UsualPitch_no h w ho (k + 1) (by omega))
    simp only [spec_UsualPitch.f, spec_l18Pitch.f, l01In_eq, Option.bind_some]
    by_cases h1 : 1 ≤ h ∧ h ≤ 10000000
    · have h2 : ¬ (-10 ≤ w ∧ w ≤ 40) := fun h2 => ho ⟨h1, h2⟩
      rw [if_pos (decide_eq_true h1), decide_eq_false h2, spec_UsualPitch.j0]
      rfl
    · rw [if_neg (by simpa using h1), spec_UsualPitch.j0]
      rfl
theorem FnExactUsualPitch : laws_FnExactUsualPitch.Pure := by
  intro h w _ _
  obtain ⟨k, hk⟩ : ∃ k : Nat, 10000002 < k := ⟨10000003, by omega⟩
  exact ⟨k + 1, usual_law h w k hk⟩
end Go.Proofs.Ytbimhcdfojbjgaa.Pure
