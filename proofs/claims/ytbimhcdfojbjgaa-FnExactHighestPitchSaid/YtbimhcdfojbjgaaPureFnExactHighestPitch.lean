/- The plain law of FnExactHighestPitch: the printed function of the law answers true. Its conditions are those of the statement's own bounds. -/
import Derived.Test.YtbimhcdfojbjgaaPFnExactHighestPitchx2
namespace Go.Proofs.Ytbimhcdfojbjgaa.Pure
open Go.RowKit Go.Proofs.Ytbimhcdfojbjgaa.PFnExactHighestPitch Go.Proofs.YtbimhcdfojbjgaaW.PrintWords Go.Proofs.YtbimhcdfojbjgaaW.PrintLast Go.Proofs.YtbimhcdfojbjgaaW.PrintMore
set_option linter.unusedVariables false
theorem l01In_eq (a b c : Int) : spec_l01In.f a b c = some (decide (b ≤ a ∧ a ≤ c)) := by
  unfold spec_l01In.f
  by_cases h : a ≥ b
  · rw [if_pos h]; congr 1; by_cases h2 : a ≤ c <;> simp [h2, h]
  · rw [if_neg h]; congr 1; simp; omega
theorem within_eq (a b c : Int) : impl_within.f a b c = some (decide (b ≤ a ∧ a ≤ c)) := by
  unfold impl_within.f
  by_cases h : b ≤ a
  · rw [if_pos h]; congr 1; by_cases h2 : a ≤ c <;> simp [h2, h]
  · rw [if_neg h]; congr 1; simp; omega
theorem law_of {α : Type} [DecidableEq α] {s i : Option α} {r : α} (hs : s = some r) (hi : i = some r) : (s.bind fun t => i.bind fun u => if u = t then some true else some false) = some true := by
  subst hs hi; simp
theorem law_ofb {s i : Option Bool} {r : Bool} (hs : s = some r) (hi : i = some r) : (s.bind fun t => i.bind fun u => if (u != t) = true then some false else some true) = some true := by
  subst hs hi; simp
theorem wf_i64 {a : Int} (h : (Lit.int .i64 a).wf = true) : -9223372036854775808 ≤ a ∧ a ≤ 9223372036854775807 := by
  have h' : (decide ((-9223372036854775808 : Int) ≤ a) && decide (a ≤ 9223372036854775807)) = true := h
  simp at h'; omega
theorem w64 {n : Int} (h1 : -9223372036854775808 ≤ n) (h2 : n ≤ 9223372036854775807) : wrap64 n = n := by unfold wrap64; omega
theorem mul_bd {a b A B : Int} (h0 : 0 ≤ a) (h1 : a ≤ A) (h2 : 0 ≤ b) (h3 : b ≤ B) : 0 ≤ a * b ∧ a * b ≤ A * B := by
  refine ⟨Int.mul_nonneg h0 h2, ?_⟩
  exact Int.le_trans (Int.mul_le_mul_of_nonneg_right h1 h2) (Int.mul_le_mul_of_nonneg_left h3 (by omega))
theorem tdiv_nn {a b : Int} (h : 0 ≤ a) : a.tdiv b = a / b := Int.tdiv_eq_ediv_of_nonneg h
theorem div_bd {a A c : Int} (h0 : 0 ≤ a) (h1 : a ≤ A) (hc : 0 < c) : 0 ≤ a / c ∧ a / c ≤ A / c :=
  ⟨Int.ediv_nonneg h0 (by omega), Int.ediv_le_ediv hc h1⟩
theorem spec_CordOk_eq (a b c : Int) : spec_CordOk.f a b c = some (decide (50 ≤ a ∧ a ≤ 3000 ∧ 100 ≤ b ∧ b ≤ 100000 ∧ 1 ≤ c ∧ c ≤ 5000)) := by
  simp only [spec_CordOk.f, l01In_eq, Option.bind_some]
  repeat' split
  all_goals (simp_all <;> omega)
theorem impl_CordOk_eq (a b c : Int) : impl_CordOk.f a b c = some (decide (50 ≤ a ∧ a ≤ 3000 ∧ 100 ≤ b ∧ b ≤ 100000 ∧ 1 ≤ c ∧ c ≤ 5000)) := by
  simp only [impl_CordOk.f, within_eq, Option.bind_some]
  repeat' split
  all_goals (simp_all <;> omega)
def cordB (a b c : Int) : Bool := decide (50 ≤ a ∧ a ≤ 3000 ∧ 100 ≤ b ∧ b ≤ 100000 ∧ 1 ≤ c ∧ c ≤ 5000)
/-- the tension of valid numbers -/
def tens (a b p : Int) : Int := (p * a) * (p * a) / 1000 * (4 * b) / 1000000000
def tensionOf (a b c p : Int) : Int := if (50 ≤ a ∧ a ≤ 3000 ∧ 100 ≤ b ∧ b ≤ 100000 ∧ 1 ≤ c ∧ c ≤ 5000) ∧ (1 ≤ p ∧ p ≤ 5000) then tens a b p else -1
theorem tens_bd {a b p : Int} (ha : 0 ≤ a ∧ a ≤ 3000) (hb : 0 ≤ b ∧ b ≤ 100000) (hp : 0 ≤ p ∧ p ≤ 5000) :
    (0 ≤ p * a ∧ p * a ≤ 15000000) ∧ (0 ≤ (p * a) * (p * a) ∧ (p * a) * (p * a) ≤ 225000000000000) ∧ (0 ≤ (p * a) * (p * a) / 1000 ∧ (p * a) * (p * a) / 1000 ≤ 225000000000) ∧
    (0 ≤ (p * a) * (p * a) / 1000 * (4 * b) ∧ (p * a) * (p * a) / 1000 * (4 * b) ≤ 90000000000000000) ∧ (0 ≤ tens a b p ∧ tens a b p ≤ 90000000) := by
  have b1 := mul_bd (a := p) (b := a) (A := 5000) (B := 3000) hp.1 hp.2 ha.1 ha.2
  have b2 := mul_bd (a := p * a) (b := p * a) (A := 15000000) (B := 15000000) b1.1 (by omega) b1.1 (by omega)
  have b3 : 0 ≤ (p * a) * (p * a) / 1000 ∧ (p * a) * (p * a) / 1000 ≤ 225000000000 := by
    generalize (p * a) * (p * a) = q at b2 ⊢
    omega
  have b4 := mul_bd (a := (p * a) * (p * a) / 1000) (b := 4 * b) (A := 225000000000) (B := 400000) b3.1 b3.2 (by omega) (by omega)
  refine ⟨by omega, by omega, b3, by omega, ?_⟩
  unfold tens
  generalize (p * a) * (p * a) / 1000 * (4 * b) = q at b4 ⊢
  omega
theorem spec_TensionAt_eq (a b c p : Int) : spec_TensionAt.f a b c p = some (tensionOf a b c p) := by
  simp only [spec_TensionAt.f, spec_CordOk_eq, l01In_eq, Option.bind_some]
  by_cases h : 50 ≤ a ∧ a ≤ 3000 ∧ 100 ≤ b ∧ b ≤ 100000 ∧ 1 ≤ c ∧ c ≤ 5000
  · by_cases h2 : 1 ≤ p ∧ p ≤ 5000
    · obtain ⟨b1, b2, b3, b4, b5⟩ := tens_bd (a := a) (b := b) (p := p) (by omega) (by omega) (by omega)
      rw [w64 (n := p * a) (by omega) (by omega), w64 (n := p * a * (p * a)) (by omega) (by omega), tdiv_nn b2.1, w64 (n := p * a * (p * a) / 1000) (by omega) (by omega), w64 (n := 4 * b) (by omega) (by omega), Int.mul_comm (4 * b) _,
        w64 (n := p * a * (p * a) / 1000 * (4 * b)) (by omega) (by omega), tdiv_nn b4.1]
      have e : wrap64 (p * a * (p * a) / 1000 * (4 * b) / 1000000000) = tens a b p := w64 (n := tens a b p) (by omega) (by omega)
      rw [e]
      simp [h, h2, tensionOf]
    · simp [h, h2, tensionOf]
  · simp only [h, tensionOf, false_and, decide_false, Bool.false_eq_true, if_false]
theorem impl_TensionAt_eq (a b c p : Int) : impl_TensionAt.f a b c p = some (tensionOf a b c p) := by
  simp only [impl_TensionAt.f, impl_CordOk_eq, within_eq, Option.bind_some]
  by_cases h : 50 ≤ a ∧ a ≤ 3000 ∧ 100 ≤ b ∧ b ≤ 100000 ∧ 1 ≤ c ∧ c ≤ 5000
  · by_cases h2 : 1 ≤ p ∧ p ≤ 5000
    · obtain ⟨b1, b2, b3, b4, b5⟩ := tens_bd (a := a) (b := b) (p := p) (by omega) (by omega) (by omega)
      rw [w64 (n := p * a) (by omega) (by omega), w64 (n := p * a * (p * a)) (by omega) (by omega), tdiv_nn b2.1, w64 (n := p * a * (p * a) / 1000) (by omega) (by omega), w64 (n := 4 * b) (by omega) (by omega),
        w64 (n := p * a * (p * a) / 1000 * (4 * b)) (by omega) (by omega), tdiv_nn b4.1]
      have e : wrap64 (p * a * (p * a) / 1000 * (4 * b) / 1000000000) = tens a b p := w64 (n := tens a b p) (by omega) (by omega)
      rw [e]
      simp [h, h2, tensionOf]
    · simp [h, h2, tensionOf]
  · simp only [h, tensionOf, false_and, decide_false, Bool.false_eq_true, if_false]
theorem spec_Breaks_eq (a b c p : Int) : spec_Breaks.f a b c p = some (decide (tensionOf a b c p > c)) := by
  simp only [spec_Breaks.f, spec_TensionAt_eq, Option.bind_some]
theorem impl_Breaks_eq (a b c p : Int) : impl_Breaks.f a b c p = some (decide (tensionOf a b c p > c)) := by
  simp only [impl_Breaks.f, impl_TensionAt_eq, Option.bind_some]
/-- r is the greatest number of [0, m] at which q holds (0 if there is none) -/
def IsTop (q : Int → Bool) (m r : Int) : Prop := 0 ≤ r ∧ r ≤ m ∧ (r = 0 ∨ q r = true) ∧ ∀ n, r < n → n ≤ m → q n = false
theorem IsTop.unique {q : Int → Bool} {m r s : Int} (h : IsTop q m r) (g : IsTop q m s) : r = s := by
  obtain ⟨h0, h1, h2, h3⟩ := h
  obtain ⟨g0, g1, g2, g3⟩ := g
  rcases Int.lt_trichotomy r s with c | c | c
  · rcases g2 with e | e
    · omega
    · rw [h3 s c g1] at e; cases e
  · exact c
  · rcases h2 with e | e
    · omega
    · rw [g3 r c h1] at e; cases e
/-- the search by halved steps -/
def lift (q : Int → Bool) (m : Int) : Nat → Int → Int → Int
  | 0, n, _ => n
  | d + 1, n, s => lift q m d (if n + s ≤ m ∧ q (n + s) = true then n + s else n) (s / 2)
theorem lift_top (q : Int → Bool) (m : Int) (mono : ∀ i j, 1 ≤ i → i ≤ j → j ≤ m → q j = true → q i = true) : ∀ (d : Nat) (n : Int), 0 ≤ n → n ≤ m → (n = 0 ∨ q n = true) →
    (∀ j, n + 2 ^ d ≤ j → j ≤ m → q j = false) → IsTop q m (lift q m d n (2 ^ d / 2)) := by
  intro d
  induction d with
  | zero =>
    intro n h0 h1 h2 h3
    refine ⟨h0, h1, h2, fun j hj hm => h3 j ?_ hm⟩
    have hj' : n < j := hj
    simp
    omega
  | succ d ih =>
    intro n h0 h1 h2 h3
    have hp : (2 : Int) ^ (d + 1) / 2 = 2 ^ d := by rw [Int.pow_succ]; omega
    have hpos : (0 : Int) < 2 ^ d := Int.pow_pos (by decide)
    have hs : (2 : Int) ^ (d + 1) = 2 ^ d + 2 ^ d := by rw [Int.pow_succ]; omega
    rw [hp]
    unfold lift
    by_cases hc : n + 2 ^ d ≤ m ∧ q (n + 2 ^ d) = true
    · rw [if_pos hc]
      exact ih _ (by omega) hc.1 (.inr hc.2) (fun j hj hm => h3 j (by omega) hm)
    · rw [if_neg hc]
      refine ih n h0 h1 h2 (fun j hj hm => ?_)
      cases hq : q j
      · rfl
      · exact absurd ⟨by omega, mono _ j (by omega) hj hm hq⟩ hc
theorem tens_mono {a a' b p p' : Int} (ha : 0 ≤ a ∧ a ≤ a') (hb : 0 ≤ b) (hp : 0 ≤ p ∧ p ≤ p') : tens a b p ≤ tens a' b p' := by
  unfold tens
  have h1 : p * a ≤ p' * a' := Int.le_trans (Int.mul_le_mul_of_nonneg_right hp.2 ha.1) (Int.mul_le_mul_of_nonneg_left ha.2 (by omega))
  have h0 : 0 ≤ p * a := Int.mul_nonneg hp.1 ha.1
  have h2 : p * a * (p * a) ≤ p' * a' * (p' * a') := Int.le_trans (Int.mul_le_mul_of_nonneg_right h1 h0) (Int.mul_le_mul_of_nonneg_left h1 (by omega))
  have h3 := Int.ediv_le_ediv (c := 1000) (by decide) h2
  have h4 : p * a * (p * a) / 1000 * (4 * b) ≤ p' * a' * (p' * a') / 1000 * (4 * b) := Int.mul_le_mul_of_nonneg_right h3 (by omega)
  exact Int.ediv_le_ediv (by decide) h4
abbrev cOk (a b c : Int) : Prop := 50 ≤ a ∧ a ≤ 3000 ∧ 100 ≤ b ∧ b ≤ 100000 ∧ 1 ≤ c ∧ c ≤ 5000
theorem tensionOf_yes {a b c p : Int} (h : cOk a b c) (hp : 1 ≤ p ∧ p ≤ 5000) : tensionOf a b c p = tens a b p := if_pos ⟨h, hp⟩
theorem tensionOf_noc {a b c p : Int} (h : ¬ cOk a b c) : tensionOf a b c p = -1 := if_neg (fun hh => h hh.1)
theorem tensionOf_nop {a b c p : Int} (h : ¬ (1 ≤ p ∧ p ≤ 5000)) : tensionOf a b c p = -1 := if_neg (fun hh => h hh.2)
/-- does not break -/
abbrev hq (a b c p : Int) : Bool := decide (¬ (tensionOf a b c p > c))
theorem hq_mono {a b c : Int} (h : cOk a b c) : ∀ i j, 1 ≤ i → i ≤ j → j ≤ 5000 → hq a b c j = true → hq a b c i = true := by
  intro i j h0 h1 h2 hj
  simp only [hq, decide_eq_true_eq] at hj ⊢
  rw [tensionOf_yes h (by omega)] at hj ⊢
  have := tens_mono (a := a) (a' := a) (b := b) (p := i) (p' := j) (by omega) (by omega) (by omega)
  omega
theorem hq_of {a b c p : Int} (h : tensionOf a b c p > c) : hq a b c p = false := by simp [hq, h]
theorem hq_not {a b c p : Int} (h : ¬ tensionOf a b c p > c) : hq a b c p = true := by simp only [hq, decide_eq_true_eq]; exact h
theorem impl_highest_loop (a b c : Int) : ∀ (d k : Nat) (p : Int), p = d → p ≤ 5000 → d < k → (∀ j, p < j → j ≤ 5000 → hq a b c j = false) →
    ∃ r, impl_HighestPitch.l0 k p a b c = some r ∧ IsTop (hq a b c) 5000 r := by
  intro d
  induction d with
  | zero =>
    intro k p h0 h1 hk hn
    obtain ⟨k, rfl⟩ : ∃ m, k = m + 1 := ⟨k - 1, by omega⟩
    exact ⟨0, by simp only [impl_HighestPitch.l0]; rw [if_neg (by omega)], by omega, by omega, .inl rfl, fun j hj hm => hn j (by omega) hm⟩
  | succ d ih =>
    intro k p h0 h1 hk hn
    obtain ⟨k, rfl⟩ : ∃ m, k = m + 1 := ⟨k - 1, by omega⟩
    simp only [impl_HighestPitch.l0, impl_Breaks_eq, Option.bind_some]
    rw [if_pos (by omega), w64 (n := p - 1) (by omega) (by omega)]
    by_cases hb : tensionOf a b c p > c
    · rw [if_pos (decide_eq_true hb)]
      refine ih k (p - 1) (by omega) (by omega) (by omega) (fun j hj hm => ?_)
      by_cases e : j = p
      · rw [e]; exact hq_of hb
      · exact hn j (by omega) hm
    · rw [if_neg (by simpa using hb)]
      exact ⟨p, rfl, by omega, by omega, .inr (hq_not hb), hn⟩
theorem impl_HighestPitch_top {a b c : Int} (h : cOk a b c) (k : Nat) (hk : 5001 < k) : ∃ r, impl_HighestPitch.f k a b c = some r ∧ IsTop (hq a b c) 5000 r := by
  obtain ⟨r, e, t⟩ := impl_highest_loop a b c 5000 k 5000 rfl (by omega) (by omega) (fun j hj hm => by omega)
  refine ⟨r, ?_, t⟩
  simp only [impl_HighestPitch.f, impl_CordOk_eq, Option.bind_some]
  rw [if_pos (decide_eq_true h)]
  exact e
theorem impl_HighestPitch_no {a b c : Int} (h : ¬ cOk a b c) (k : Nat) : impl_HighestPitch.f k a b c = some 0 := by
  simp only [impl_HighestPitch.f, impl_CordOk_eq, Option.bind_some]
  rw [if_neg (by simpa using h)]
theorem spec_highest_loop {a b c : Int} (h : cOk a b c) : ∀ (d k : Nat) (n s : Int), 2 * d < k → s = 2 ^ d / 2 → d ≤ 13 → 0 ≤ n → n ≤ 5000 → spec_HighestPitch.l0 (k + 1) n s a b c = some (lift (hq a b c) 5000 d n s) := by
  intro d
  induction d with
  | zero =>
    intro k n s hk hs hd h0 h1
    obtain ⟨k, rfl⟩ : ∃ m, k = m + 1 := ⟨k - 1, by omega⟩
    have : s = 0 := by rw [hs]; decide
    subst this
    simp only [spec_HighestPitch.l0, spec_HighestPitch.j1, lift]
    simp
  | succ d ih =>
    intro k n s hk hs hd h0 h1
    obtain ⟨k, rfl⟩ : ∃ m, k = m + 1 + 1 := ⟨k - 2, by omega⟩
    have hs2 : s = 2 ^ d := by rw [hs, Int.pow_succ]; omega
    have hpos : (0 : Int) < 2 ^ d := Int.pow_pos (by decide)
    have hle : (2 : Int) ^ d ≤ 2 ^ 13 := by
      have h1 : (2 : Nat) ^ d ≤ 2 ^ 13 := Nat.pow_le_pow_right (by decide) (by omega)
      exact_mod_cast h1
    have e13 : (2 : Int) ^ 13 = 8192 := by decide
    have e1 : wrap64 (Int.tdiv s 2) = s / 2 := by rw [tdiv_nn (by omega), w64 (by omega) (by omega)]
    have e2 : s / 2 = 2 ^ d / 2 := by rw [hs2]
    rw [spec_HighestPitch.l0]
    simp only [spec_CordOk_eq, Option.bind_some]
    rw [if_pos (by omega), decide_eq_true h, spec_HighestPitch.j1]
    simp only [if_true, lift, spec_Breaks_eq, Option.bind_some]
    rw [e1, w64 (n := n + s) (by omega) (by omega)]
    by_cases hc : n + s ≤ 5000
    · rw [if_pos hc]
      by_cases hb : tensionOf a b c (n + s) > c
      · rw [if_pos (decide_eq_true hb), if_neg (fun hh => by have := hh.2; rw [hq_of hb] at this; cases this)]
        exact ih k _ _ (by omega) e2 (by omega) h0 h1
      · rw [if_neg (by simpa using hb), if_pos ⟨hc, hq_not hb⟩]
        exact ih k _ _ (by omega) e2 (by omega) (by omega) hc
    · rw [if_neg hc, if_neg (fun hh => hc hh.1)]
      exact ih k _ _ (by omega) e2 (by omega) h0 h1
theorem highest_law (a b c : Int) (k : Nat) (hk : 6000 < k) : laws_FnExactHighestPitch.f (k + 1) a b c = some true := by
  unfold laws_FnExactHighestPitch.f
  simp only [laws_toCord.f, Option.bind_some]
  by_cases h : cOk a b c
  · obtain ⟨r, e, t⟩ := impl_HighestPitch_top h (k + 1) (by omega)
    refine law_of (r := r) ?_ e
    have e13 : (2 : Int) ^ 13 = 8192 := by decide
    have t2 := lift_top (hq a b c) 5000 (hq_mono h) 13 0 (by omega) (by omega) (.inl rfl) (fun j hj hm => by omega)
    rw [← t2.unique t, ← spec_highest_loop h 13 k 0 (2 ^ 13 / 2) (by omega) rfl (by omega) (by omega) (by omega)]
    rfl
  · refine law_of (r := 0) ?_ (impl_HighestPitch_no h (k + 1))
    obtain ⟨k, rfl⟩ : ∃ m, k = m + 1 := ⟨k - 1, by omega⟩
    simp only [spec_HighestPitch.f, spec_HighestPitch.l0, spec_CordOk_eq, Option.bind_some, spec_HighestPitch.j1]
    rw [if_pos (by decide), if_neg (by simpa using h)]
theorem FnExactHighestPitch (a b c : Int) : ∃ k, laws_FnExactHighestPitch.f k a b c = some true := by
  obtain ⟨k, hk⟩ : ∃ k : Nat, 6000 < k := ⟨6001, by omega⟩
  exact ⟨k + 1, highest_law a b c k hk⟩
end Go.Proofs.Ytbimhcdfojbjgaa.Pure
