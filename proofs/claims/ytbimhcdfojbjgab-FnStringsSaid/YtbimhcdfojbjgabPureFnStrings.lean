/- The plain law of FnStrings: the printed function of the law answers true. Its conditions are those of the statement's own bounds. -/
import Derived.Test.YtbimhcdfojbjgabHFnStringsx5
namespace Go.Proofs.Ytbimhcdfojbjgab.Pure
open Go.RowKit Go.Proofs.Ytbimhcdfojbjgab.PFnStrings Go.Proofs.YtbimhcdfojbjgabW.PrintWords Go.Proofs.YtbimhcdfojbjgabW.PrintLast Go.Proofs.YtbimhcdfojbjgabW.PrintMore
set_option linter.unusedVariables false
theorem and255 (n : Int) : Go.bits .and .i64 n 255 = n % 256 := by
  have h255 : (BitVec.ofInt 64 255).toNat = 2 ^ 8 - 1 := by decide
  have key : (BitVec.ofInt 64 n &&& BitVec.ofInt 64 255).toNat = (n % ((2 ^ 64 : Nat) : Int)).toNat % 2 ^ 8 := by
    rw [BitVec.toNat_and, BitVec.toNat_ofInt, h255, Nat.and_two_pow_sub_one_eq_mod]
  show IntKind.i64.wrap ((BitVec.ofInt 64 n &&& BitVec.ofInt 64 255).toNat : Nat) = n % 256
  rw [key, IntKind.wrap_i64]
  omega
theorem dw64 {n : Int} (h1 : -9223372036854775808 ≤ n) (h2 : n ≤ 9223372036854775807) : wrap64 n = n := by unfold wrap64; omega
theorem lenb {b : List Int} (hb : b.length * 1 ≤ 140737488351232) : (b.length : Int) ≤ 140737488351232 := by omega
theorem new_loop (l : List Int) (hl : (l.length : Int) ≤ 140737488351232) : ∀ (d k : Nat) (h i : Int), 0 ≤ i → i ≤ 4000 → 4000 - i ≤ d → d < k → ∃ h', spec_l01New.l0 k l h i = some (l, 0, h') := by
  intro d
  induction d with
  | zero =>
    intro k h i h0 h1 hd hk
    obtain ⟨k, rfl⟩ : ∃ m, k = m + 1 := ⟨k - 1, by omega⟩
    refine ⟨h, ?_⟩
    simp only [spec_l01New.l0]
    by_cases hlt : i < (l.length : Int)
    · rw [if_pos hlt, if_neg (by omega)]
    · rw [if_neg hlt]
  | succ d ih =>
    intro k h i h0 h1 hd hk
    obtain ⟨k, rfl⟩ : ∃ m, k = m + 1 := ⟨k - 1, by omega⟩
    by_cases hlt : i < (l.length : Int)
    · by_cases h4 : i < 4000
      · obtain ⟨h', e⟩ := ih k (Go.bits .and .i64 (wrap64 ((wrap64 ((wrap64 (h * 131)) + (wrap64 (rd l i)))) + 7)) 1073741823) (i + 1) (by omega) (by omega) (by omega) (by omega)
        refine ⟨h', ?_⟩
        simp only [spec_l01New.l0]
        rw [if_pos hlt, if_pos h4, if_pos h0, dw64 (n := i + 1) (by omega) (by omega)]
        exact e
      · refine ⟨h, ?_⟩
        simp only [spec_l01New.l0]
        rw [if_pos hlt, if_neg h4]
    · refine ⟨h, ?_⟩
      simp only [spec_l01New.l0]
      rw [if_neg hlt]
theorem new_some (l : List Int) (hl : (l.length : Int) ≤ 140737488351232) (k : Nat) (hk : 4000 < k) : ∃ h, spec_l01New.f k l = some (l, 0, h) := by
  unfold spec_l01New.f
  exact new_loop l hl 4000 k _ 0 (by omega) (by omega) (by omega) hk
/-- the cursor's place is good -/
abbrev Cur (b : List Int) (i : Int) : Prop := 0 ≤ i ∧ i ≤ (b.length : Int) ∧ (b.length : Int) ≤ 140737488351232
theorem byte_some (b : List Int) (i h : Int) (hc : Cur b i) : ∃ x i' h', spec_l01Byte.f b i h = some (x, i', h') ∧ 0 ≤ x ∧ x ≤ 255 ∧ Cur b i' := by
  obtain ⟨h0, h1, h2⟩ := hc
  unfold spec_l01Byte.f
  by_cases hlt : i < (b.length : Int)
  · rw [if_pos hlt, if_pos h0]
    refine ⟨_, _, _, rfl, ?_, ?_, ?_⟩
    · rw [and255]; omega
    · rw [and255]; omega
    · rw [dw64 (n := i + 1) (by omega) (by omega)]; exact ⟨by omega, by omega, h2⟩
  · rw [if_neg hlt]
    refine ⟨_, _, _, rfl, ?_, ?_, ?_⟩
    · rw [and255]; omega
    · rw [and255]; omega
    · exact ⟨h0, h1, h2⟩
theorem tmod_lt {x n : Int} (hx : 0 ≤ x) (hn : 0 < n) : 0 ≤ x.tmod n ∧ x.tmod n < n := by
  rw [Int.tmod_eq_emod_of_nonneg hx]
  exact ⟨Int.emod_nonneg _ (by omega), Int.emod_lt_of_pos _ hn⟩
theorem below_some (b : List Int) (i h n : Int) (hc : Cur b i) (hn : 0 < n) (hn2 : n ≤ 2147483648) :
    ∃ x i' h', spec_l01Below.f b i h n = some (x, i', h') ∧ 0 ≤ x ∧ x < n ∧ Cur b i' := by
  unfold spec_l01Below.f
  rw [if_neg (by omega)]
  by_cases h256 : n ≤ 256
  · rw [if_pos h256]
    obtain ⟨x, i1, h1, e, hx0, hx1, hc1⟩ := byte_some b i h hc
    rw [e]; simp only [Option.bind_some]; rw [if_neg (by omega)]
    obtain ⟨a, c⟩ := tmod_lt (x := x) (n := n) hx0 hn
    exact ⟨_, _, _, rfl, a, c, hc1⟩
  · rw [if_neg h256]
    obtain ⟨x, i1, h1, e1, x0, x1, hc1⟩ := byte_some b i h hc
    rw [e1]; simp only [Option.bind_some]
    obtain ⟨y, i2, h2, e2, y0, y1, hc2⟩ := byte_some b i1 h1 hc1
    rw [e2]; simp only [Option.bind_some]
    obtain ⟨z, i3, h3, e3, z0, z1, hc3⟩ := byte_some b i2 h2 hc2
    rw [e3]; simp only [Option.bind_some]
    obtain ⟨w, i4, h4, e4, w0, w1, hc4⟩ := byte_some b i3 h3 hc3
    rw [e4]; simp only [Option.bind_some]; rw [if_neg (by omega)]
    rw [dw64 (n := x * 16777216) (by omega) (by omega), dw64 (n := y * 65536) (by omega) (by omega), dw64 (n := z * 256) (by omega) (by omega), dw64 (n := x * 16777216 + y * 65536) (by omega) (by omega),
      dw64 (n := x * 16777216 + y * 65536 + z * 256) (by omega) (by omega), dw64 (n := x * 16777216 + y * 65536 + z * 256 + w) (by omega) (by omega)]
    obtain ⟨a, c⟩ := tmod_lt (x := x * 16777216 + y * 65536 + z * 256 + w) (n := n) (by omega) hn
    exact ⟨_, _, _, rfl, a, c, hc4⟩
theorem within_eq (a b c : Int) : impl_within.f a b c = some (decide (b ≤ a ∧ a ≤ c)) := by
  unfold impl_within.f
  by_cases h : b ≤ a
  · rw [if_pos h]; congr 1; by_cases h2 : a ≤ c <;> simp [h2, h]
  · rw [if_neg h]; congr 1; simp; omega
theorem law_of {α : Type} [DecidableEq α] {s i : Option α} {r : α} (hs : s = some r) (hi : i = some r) : (s.bind fun t => i.bind fun u => if u = t then some true else some false) = some true := by
  subst hs hi; simp
theorem law_ofb {s i : Option Bool} {r : Bool} (hs : s = some r) (hi : i = some r) : (s.bind fun t => i.bind fun u => if (u != t) = true then some false else some true) = some true := by
  subst hs hi; simp
theorem wf_i64 {a : Int} (h : (Lit.int .i64 a).wf = true) : -9223372036854775808 ≤ a ∧ a ≤ 9223372036854775807 := by
  have h' : (decide ((-9223372036854775808 : Int) ≤ a) && decide (a ≤ 9223372036854775807)) = true := h
  simp at h'; omega
theorem w64 {n : Int} (h1 : -9223372036854775808 ≤ n) (h2 : n ≤ 9223372036854775807) : wrap64 n = n := by unfold wrap64; omega
theorem mul_bd {a b A B : Int} (h0 : 0 ≤ a) (h1 : a ≤ A) (h2 : 0 ≤ b) (h3 : b ≤ B) : 0 ≤ a * b ∧ a * b ≤ A * B := by
  refine ⟨Int.mul_nonneg h0 h2, ?_⟩
  exact Int.le_trans (Int.mul_le_mul_of_nonneg_right h1 h2) (Int.mul_le_mul_of_nonneg_left h3 (by omega))
theorem tdiv_nn {a b : Int} (h : 0 ≤ a) : a.tdiv b = a / b := Int.tdiv_eq_ediv_of_nonneg h
theorem div_bd {a A c : Int} (h0 : 0 ≤ a) (h1 : a ≤ A) (hc : 0 < c) : 0 ≤ a / c ∧ a / c ≤ A / c :=
  ⟨Int.ediv_nonneg h0 (by omega), Int.ediv_le_ediv hc h1⟩
theorem impl_CordOk_eq (a b c : Int) : impl_CordOk.f a b c = some (decide (50 ≤ a ∧ a ≤ 3000 ∧ 100 ≤ b ∧ b ≤ 100000 ∧ 1 ≤ c ∧ c ≤ 5000)) := by
  simp only [impl_CordOk.f, within_eq, Option.bind_some]
  repeat' split
  all_goals (simp_all <;> omega)
def cordB (a b c : Int) : Bool := decide (50 ≤ a ∧ a ≤ 3000 ∧ 100 ≤ b ∧ b ≤ 100000 ∧ 1 ≤ c ∧ c ≤ 5000)
/-- the tension of valid numbers -/
def tens (a b p : Int) : Int := (p * a) * (p * a) / 1000 * (4 * b) / 1000000000
def tensionOf (a b c p : Int) : Int := if (50 ≤ a ∧ a ≤ 3000 ∧ 100 ≤ b ∧ b ≤ 100000 ∧ 1 ≤ c ∧ c ≤ 5000) ∧ (1 ≤ p ∧ p ≤ 5000) then tens a b p else -1
theorem tens_bd {a b p : Int} (ha : 0 ≤ a ∧ a ≤ 3000) (hb : 0 ≤ b ∧ b ≤ 100000) (hp : 0 ≤ p ∧ p ≤ 5000) :
    (0 ≤ p * a ∧ p * a ≤ 15000000) ∧ (0 ≤ (p * a) * (p * a) ∧ (p * a) * (p * a) ≤ 225000000000000) ∧ (0 ≤ (p * a) * (p * a) / 1000 ∧ (p * a) * (p * a) / 1000 ≤ 225000000000) ∧
    (0 ≤ (p * a) * (p * a) / 1000 * (4 * b) ∧ (p * a) * (p * a) / 1000 * (4 * b) ≤ 90000000000000000) ∧ (0 ≤ tens a b p ∧ tens a b p ≤ 90000000) := by
  have b1 := mul_bd (a := p) (b := a) (A := 5000) (B := 3000) hp.1 hp.2 ha.1 ha.2
  have b2 := mul_bd (a := p * a) (b := p * a) (A := 15000000) (B := 15000000) b1.1 (by omega) b1.1 (by omega)
  have b3 : 0 ≤ (p * a) * (p * a) / 1000 ∧ (p * a) * (p * a) / 1000 ≤ 225000000000 := by
    generalize (p * a) * (p * a) = q at b2 ⊢
    omega
  have b4 := mul_bd (a := (p * a) * (p * a) / 1000) (b := 4 * b) (A := 225000000000) (B := 400000) b3.1 b3.2 (by omega) (by omega)
  refine ⟨by omega, by omega, b3, by omega, ?_⟩
  unfold tens
  generalize (p * a) * (p * a) / 1000 * (4 * b) = q at b4 ⊢
  omega
theorem impl_TensionAt_eq (a b c p : Int) : impl_TensionAt.f a b c p = some (tensionOf a b c p) := by
  simp only [impl_TensionAt.f, impl_CordOk_eq, within_eq, Option.bind_some]
  by_cases h : 50 ≤ a ∧ a ≤ 3000 ∧ 100 ≤ b ∧ b ≤ 100000 ∧ 1 ≤ c ∧ c ≤ 5000
  · by_cases h2 : 1 ≤ p ∧ p ≤ 5000
    · obtain ⟨b1, b2, b3, b4, b5⟩ := tens_bd (a := a) (b := b) (p := p) (by omega) (by omega) (by omega)
      rw [w64 (n := p * a) (by omega) (by omega), w64 (n := p * a * (p * a)) (by omega) (by omega), tdiv_nn b2.1, w64 (n := p * a * (p * a) / 1000) (by omega) (by omega), w64 (n := 4 * b) (by omega) (by omega),
        w64 (n := p * a * (p * a) / 1000 * (4 * b)) (by omega) (by omega), tdiv_nn b4.1]
      have e : wrap64 (p * a * (p * a) / 1000 * (4 * b) / 1000000000) = tens a b p := w64 (n := tens a b p) (by omega) (by omega)
      rw [e]
      simp [h, h2, tensionOf]
    · simp [h, h2, tensionOf]
  · simp only [h, tensionOf, false_and, decide_false, Bool.false_eq_true, if_false]
theorem impl_Breaks_eq (a b c p : Int) : impl_Breaks.f a b c p = some (decide (tensionOf a b c p > c)) := by
  simp only [impl_Breaks.f, impl_TensionAt_eq, Option.bind_some]
/-- r is the greatest number of [0, m] at which q holds (0 if there is none) -/
def IsTop (q : Int → Bool) (m r : Int) : Prop := 0 ≤ r ∧ r ≤ m ∧ (r = 0 ∨ q r = true) ∧ ∀ n, r < n → n ≤ m → q n = false
theorem IsTop.unique {q : Int → Bool} {m r s : Int} (h : IsTop q m r) (g : IsTop q m s) : r = s := by
  obtain ⟨h0, h1, h2, h3⟩ := h
  obtain ⟨g0, g1, g2, g3⟩ := g
  rcases Int.lt_trichotomy r s with c | c | c
  · rcases g2 with e | e
    · omega
    · rw [h3 s c g1] at e; cases e
  · exact c
  · rcases h2 with e | e
    · omega
    · rw [g3 r c h1] at e; cases e
/-- the search by halved steps -/
def lift (q : Int → Bool) (m : Int) : Nat → Int → Int → Int
  | 0, n, _ => n
  | d + 1, n, s => lift q m d (if n + s ≤ m ∧ q (n + s) = true then n + s else n) (s / 2)
theorem lift_top (q : Int → Bool) (m : Int) (mono : ∀ i j, 1 ≤ i → i ≤ j → j ≤ m → q j = true → q i = true) : ∀ (d : Nat) (n : Int), 0 ≤ n → n ≤ m → (n = 0 ∨ q n = true) →
    (∀ j, n + 2 ^ d ≤ j → j ≤ m → q j = false) → IsTop q m (lift q m d n (2 ^ d / 2)) := by
  intro d
  induction d with
  | zero =>
    intro n h0 h1 h2 h3
    refine ⟨h0, h1, h2, fun j hj hm => h3 j ?_ hm⟩
    have hj' : n < j := hj
    simp
    omega
  | succ d ih =>
    intro n h0 h1 h2 h3
    have hp : (2 : Int) ^ (d + 1) / 2 = 2 ^ d := by rw [Int.pow_succ]; omega
    have hpos : (0 : Int) < 2 ^ d := Int.pow_pos (by decide)
    have hs : (2 : Int) ^ (d + 1) = 2 ^ d + 2 ^ d := by rw [Int.pow_succ]; omega
    rw [hp]
    unfold lift
    by_cases hc : n + 2 ^ d ≤ m ∧ q (n + 2 ^ d) = true
    · rw [if_pos hc]
      exact ih _ (by omega) hc.1 (.inr hc.2) (fun j hj hm => h3 j (by omega) hm)
    · rw [if_neg hc]
      refine ih n h0 h1 h2 (fun j hj hm => ?_)
      cases hq : q j
      · rfl
      · exact absurd ⟨by omega, mono _ j (by omega) hj hm hq⟩ hc
theorem tens_mono {a a' b p p' : Int} (ha : 0 ≤ a ∧ a ≤ a') (hb : 0 ≤ b) (hp : 0 ≤ p ∧ p ≤ p') : tens a b p ≤ tens a' b p' := by
  unfold tens
  have h1 : p * a ≤ p' * a' := Int.le_trans (Int.mul_le_mul_of_nonneg_right hp.2 ha.1) (Int.mul_le_mul_of_nonneg_left ha.2 (by omega))
  have h0 : 0 ≤ p * a := Int.mul_nonneg hp.1 ha.1
  have h2 : p * a * (p * a) ≤ p' * a' * (p' * a') := Int.le_trans (Int.mul_le_mul_of_nonneg_right h1 h0) (Int.mul_le_mul_of_nonneg_left h1 (by omega))
  have h3 := Int.ediv_le_ediv (c := 1000) (by decide) h2
  have h4 : p * a * (p * a) / 1000 * (4 * b) ≤ p' * a' * (p' * a') / 1000 * (4 * b) := Int.mul_le_mul_of_nonneg_right h3 (by omega)
  exact Int.ediv_le_ediv (by decide) h4
abbrev cOk (a b c : Int) : Prop := 50 ≤ a ∧ a ≤ 3000 ∧ 100 ≤ b ∧ b ≤ 100000 ∧ 1 ≤ c ∧ c ≤ 5000
theorem tensionOf_yes {a b c p : Int} (h : cOk a b c) (hp : 1 ≤ p ∧ p ≤ 5000) : tensionOf a b c p = tens a b p := if_pos ⟨h, hp⟩
theorem tensionOf_noc {a b c p : Int} (h : ¬ cOk a b c) : tensionOf a b c p = -1 := if_neg (fun hh => h hh.1)
theorem tensionOf_nop {a b c p : Int} (h : ¬ (1 ≤ p ∧ p ≤ 5000)) : tensionOf a b c p = -1 := if_neg (fun hh => h hh.2)
/-- does not break -/
abbrev hq (a b c p : Int) : Bool := decide (¬ (tensionOf a b c p > c))
theorem hq_mono {a b c : Int} (h : cOk a b c) : ∀ i j, 1 ≤ i → i ≤ j → j ≤ 5000 → hq a b c j = true → hq a b c i = true := by
  intro i j h0 h1 h2 hj
  simp only [hq, decide_eq_true_eq] at hj ⊢
  rw [tensionOf_yes h (by omega)] at hj ⊢
  have := tens_mono (a := a) (a' := a) (b := b) (p := i) (p' := j) (by omega) (by omega) (by omega)
  omega
theorem hq_of {a b c p : Int} (h : tensionOf a b c p > c) : hq a b c p = false := by simp [hq, h]
theorem hq_not {a b c p : Int} (h : ¬ tensionOf a b c p > c) : hq a b c p = true := by simp only [hq, decide_eq_true_eq]; exact h
theorem impl_highest_loop (a b c : Int) : ∀ (d k : Nat) (p : Int), p = d → p ≤ 5000 → d < k → (∀ j, p < j → j ≤ 5000 → hq a b c j = false) →
    ∃ r, impl_HighestPitch.l0 k p a b c = some r ∧ IsTop (hq a b c) 5000 r := by
  intro d
  induction d with
  | zero =>
    intro k p h0 h1 hk hn
    obtain ⟨k, rfl⟩ : ∃ m, k = m + 1 := ⟨k - 1, by omega⟩
    exact ⟨0, by simp only [impl_HighestPitch.l0]; rw [if_neg (by omega)], by omega, by omega, .inl rfl, fun j hj hm => hn j (by omega) hm⟩
  | succ d ih =>
    intro k p h0 h1 hk hn
    obtain ⟨k, rfl⟩ : ∃ m, k = m + 1 := ⟨k - 1, by omega⟩
    simp only [impl_HighestPitch.l0, impl_Breaks_eq, Option.bind_some]
    rw [if_pos (by omega), w64 (n := p - 1) (by omega) (by omega)]
    by_cases hb : tensionOf a b c p > c
    · rw [if_pos (decide_eq_true hb)]
      refine ih k (p - 1) (by omega) (by omega) (by omega) (fun j hj hm => ?_)
      by_cases e : j = p
      · rw [e]; exact hq_of hb
      · exact hn j (by omega) hm
    · rw [if_neg (by simpa using hb)]
      exact ⟨p, rfl, by omega, by omega, .inr (hq_not hb), hn⟩
theorem impl_HighestPitch_top {a b c : Int} (h : cOk a b c) (k : Nat) (hk : 5001 < k) : ∃ r, impl_HighestPitch.f k a b c = some r ∧ IsTop (hq a b c) 5000 r := by
  obtain ⟨r, e, t⟩ := impl_highest_loop a b c 5000 k 5000 rfl (by omega) (by omega) (fun j hj hm => by omega)
  refine ⟨r, ?_, t⟩
  simp only [impl_HighestPitch.f, impl_CordOk_eq, Option.bind_some]
  rw [if_pos (decide_eq_true h)]
  exact e
theorem impl_HighestPitch_no {a b c : Int} (h : ¬ cOk a b c) (k : Nat) : impl_HighestPitch.f k a b c = some 0 := by
  simp only [impl_HighestPitch.f, impl_CordOk_eq, Option.bind_some]
  rw [if_neg (by simpa using h)]
/-- a length (50 to 3000) at which the string does not break -/
abbrev lq (b c p n : Int) : Bool := decide (50 ≤ n ∧ ¬ (tensionOf n b c p > c))
theorem impl_longest_loop (b c p : Int) : ∀ (d k : Nat) (n : Int), n = 49 + d → n ≤ 3000 → d < k → (∀ j, n < j → j ≤ 3000 → lq b c p j = false) →
    ∃ r, impl_LongestFor.l0 k p n b c = some r ∧ IsTop (lq b c p) 3000 r := by
  intro d
  induction d with
  | zero =>
    intro k n h0 h1 hk hn
    obtain ⟨k, rfl⟩ : ∃ m, k = m + 1 := ⟨k - 1, by omega⟩
    refine ⟨0, by simp only [impl_LongestFor.l0]; rw [if_neg (by omega)], by omega, by omega, .inl rfl, fun j hj hm => ?_⟩
    by_cases hj2 : n < j
    · exact hn j hj2 hm
    · simp only [lq, decide_eq_false_iff_not]; omega
  | succ d ih =>
    intro k n h0 h1 hk hn
    obtain ⟨k, rfl⟩ : ∃ m, k = m + 1 := ⟨k - 1, by omega⟩
    simp only [impl_LongestFor.l0, impl_Breaks_eq, Option.bind_some]
    rw [if_pos (by omega), w64 (n := n - 1) (by omega) (by omega)]
    by_cases hb : tensionOf n b c p > c
    · rw [if_pos (decide_eq_true hb)]
      refine ih k (n - 1) (by omega) (by omega) (by omega) (fun j hj hm => ?_)
      by_cases e : j = n
      · rw [e]; simp only [lq, decide_eq_false_iff_not]; exact fun hh => hh.2 hb
      · exact hn j (by omega) hm
    · rw [if_neg (by simpa using hb)]
      exact ⟨n, rfl, by omega, by omega, .inr (by simp only [lq, decide_eq_true_eq]; exact ⟨by omega, hb⟩), hn⟩
abbrev lOk (a b c p : Int) : Prop := cOk a b c ∧ (1 ≤ p ∧ p ≤ 5000)
theorem impl_LongestFor_top {a b c p : Int} (h : lOk a b c p) (k : Nat) (hk : 3001 < k) : ∃ r, impl_LongestFor.f k a b c p = some r ∧ IsTop (lq b c p) 3000 r := by
  obtain ⟨k, rfl⟩ : ∃ m, k = m + 1 := ⟨k - 1, by omega⟩
  obtain ⟨r, e, t⟩ := impl_longest_loop b c p 2951 k 3000 (by omega) (by omega) (by omega) (fun j hj hm => by omega)
  refine ⟨r, ?_, t⟩
  simp only [impl_LongestFor.f, impl_CordOk_eq, within_eq, Option.bind_some]
  rw [if_pos (decide_eq_true h.1), decide_eq_true h.2, impl_LongestFor.j0]
  exact e
theorem impl_LongestFor_no {a b c p : Int} (h : ¬ lOk a b c p) (k : Nat) (hk : 1 < k) : impl_LongestFor.f k a b c p = some 0 := by
  obtain ⟨k, rfl⟩ : ∃ m, k = m + 1 := ⟨k - 1, by omega⟩
  simp only [impl_LongestFor.f, impl_CordOk_eq, within_eq, Option.bind_some]
  by_cases h1 : cOk a b c
  · have h2 : ¬ (1 ≤ p ∧ p ≤ 5000) := fun h2 => h ⟨h1, h2⟩
    rw [if_pos (decide_eq_true h1), decide_eq_false h2, impl_LongestFor.j0]; rfl
  · rw [if_neg (by simpa using h1), impl_LongestFor.j0]; rfl
theorem frame_two (a b c p : Int) (ht : 0 ≤ tensionOf a b c p ∧ tensionOf a b c p ≤ 90000000) (k : Nat) (hk : 10 < k) : impl_FrameLoad.f k [(⟨a, b, c⟩ : S63), (⟨a, b, c⟩ : S63)] [p, p] = some (2 * tensionOf a b c p) := by
  obtain ⟨k, rfl⟩ : ∃ m, k = m + 1 + 1 + 1 + 1 := ⟨k - 4, by omega⟩
  unfold impl_FrameLoad.f
  rw [if_pos (by simp), impl_FrameLoad.j0, if_neg (by simp)]
  generalize hx : ([(⟨a, b, c⟩ : S63), (⟨a, b, c⟩ : S63)]) = x
  have hl : x.length = 2 := by rw [← hx]; rfl
  have e0 : rd_T63 x 0 = ⟨a, b, c⟩ := by rw [← hx]; rfl
  have e1 : rd_T63 x 1 = ⟨a, b, c⟩ := by rw [← hx]; rfl
  have f0 : rd [p, p] 0 = p := rfl
  have f1 : rd [p, p] 1 = p := rfl
  have w1 : wrap64 ((0 : Int) + 1) = 1 := w64 (by omega) (by omega)
  have w2 : wrap64 ((1 : Int) + 1) = 2 := w64 (by omega) (by omega)
  have hp : ([p, p] : List Int).length = 2 := rfl
  rw [impl_FrameLoad.l0, if_pos (by omega), if_pos (by omega), if_pos (by omega), if_pos (by rw [hp]; omega), e0, f0, impl_TensionAt_eq]
  simp only [Option.bind_some]
  rw [if_neg (by omega), w1, w64 (n := 0 + tensionOf a b c p) (by omega) (by omega)]
  rw [impl_FrameLoad.l0, if_pos (by omega), if_pos (by omega), if_pos (by omega), if_pos (by rw [hp]; omega), e1, f1, impl_TensionAt_eq]
  simp only [Option.bind_some]
  rw [if_neg (by omega), w2, w64 (n := 0 + tensionOf a b c p + tensionOf a b c p) (by omega) (by omega)]
  rw [impl_FrameLoad.l0, if_neg (by omega)]
  congr 1; omega
theorem drawCord_some (l : List Int) (hl : (l.length : Int) ≤ 140737488351232) (k : Nat) (hk : 4000 < k) : ∃ a b c p, spec_DrawCord.f k l = some (a, b, c, p) ∧ cOk a b c ∧ 1 ≤ p ∧ p ≤ 2000 := by
  obtain ⟨h, e0⟩ := new_some l hl k hk
  have c0 : Cur l 0 := ⟨by omega, by omega, hl⟩
  obtain ⟨x, i1, h1, e1, x0, x1, c1⟩ := below_some l 0 h 1500 c0 (by omega) (by omega)
  obtain ⟨y, i2, h2, e2, y0, y1, c2⟩ := below_some l i1 h1 20000 c1 (by omega) (by omega)
  obtain ⟨z, i3, h3, e3, z0, z1, c3⟩ := below_some l i2 h2 1500 c2 (by omega) (by omega)
  obtain ⟨n, i4, h4, e4, n0, n1, c4⟩ := below_some l i3 h3 2000 c3 (by omega) (by omega)
  refine ⟨50 + x, 100 + y, 1 + z, 1 + n, ?_, ⟨by omega, by omega, by omega, by omega, by omega, by omega⟩, by omega, by omega⟩
  unfold spec_DrawCord.f
  rw [e0]; simp only [Option.bind_some]
  unfold spec_l25Cord.f
  rw [e1]; simp only [Option.bind_some]
  rw [e2]; simp only [Option.bind_some]
  rw [e3]; simp only [Option.bind_some]
  rw [e4]; simp only [Option.bind_some]
  rw [w64 (n := 50 + x) (by omega) (by omega), w64 (n := 100 + y) (by omega) (by omega), w64 (n := 1 + z) (by omega) (by omega), w64 (n := 1 + n) (by omega) (by omega)]
theorem lpart (T : Option Bool) (hT : T = some true) {b c p l : Int} (h : IsTop (lq b c p) 3000 l) :
    (if l = 0 then (if l = 3000 then T else T) else ((impl_Breaks.f l b c p).bind fun t => (if t = true then (some false) else (if l = 3000 then T else ((impl_Breaks.f (wrap64 (l + 1)) b c p).bind fun t => (if t = true then T else (some false))))))) = some true := by
  obtain ⟨h0, h1, h2, h3⟩ := h
  by_cases hz : l = 0
  · rw [if_pos hz]; split <;> exact hT
  · rw [if_neg hz, impl_Breaks_eq]
    have h4 : lq b c p l = true := by
      rcases h2 with h2 | h2
      · exact absurd h2 hz
      · exact h2
    simp only [lq, decide_eq_true_eq] at h4
    simp only [Option.bind_some]
    rw [decide_eq_false h4.2, if_neg (by decide)]
    by_cases hm : l = 3000
    · rw [if_pos hm]; exact hT
    · have h5 := h3 (l + 1) (by omega) (by omega)
      simp only [lq, decide_eq_false_iff_not] at h5
      have h6 : tensionOf (l + 1) b c p > c := Classical.byContradiction fun hh => h5 ⟨by omega, hh⟩
      rw [if_neg hm, w64 (n := l + 1) (by omega) (by omega), impl_Breaks_eq]
      simp only [Option.bind_some]
      rw [decide_eq_true h6, if_pos rfl]; exact hT
theorem hpart (T : Option Bool) (hT : T = some true) {a b c h : Int} (hh : IsTop (hq a b c) 5000 h) :
    (if h = 0 then (if h = 5000 then T else ((impl_Breaks.f a b c (wrap64 (h + 1))).bind fun t => (if t = true then T else (some false)))) else ((impl_Breaks.f a b c h).bind fun t => (if t = true then (some false) else (if h = 5000 then T else ((impl_Breaks.f a b c (wrap64 (h + 1))).bind fun t => (if t = true then T else (some false))))))) = some true := by
  obtain ⟨h0, h1, h2, h3⟩ := hh
  have up : h ≠ 5000 → ((impl_Breaks.f a b c (wrap64 (h + 1))).bind fun t => (if t = true then T else (some false))) = some true := by
    intro hm
    have h5 := h3 (h + 1) (by omega) (by omega)
    simp only [hq, decide_eq_false_iff_not] at h5
    have h6 : tensionOf a b c (h + 1) > c := Classical.byContradiction h5
    rw [w64 (n := h + 1) (by omega) (by omega), impl_Breaks_eq]
    simp only [Option.bind_some]
    rw [decide_eq_true h6, if_pos rfl]; exact hT
  by_cases hz : h = 0
  · rw [if_pos hz, if_neg (by omega)]; exact up (by omega)
  · have h4 : hq a b c h = true := by
      rcases h2 with h2 | h2
      · exact absurd h2 hz
      · exact h2
    simp only [hq, decide_eq_true_eq] at h4
    rw [if_neg hz, impl_Breaks_eq]
    simp only [Option.bind_some]
    rw [decide_eq_false h4, if_neg (by decide)]
    by_cases hm : h = 5000
    · rw [if_pos hm]; exact hT
    · rw [if_neg hm]; exact up hm
theorem strings_tail {a b c p h : Int} (hc : cOk a b c) (hp : 1 ≤ p ∧ p ≤ 2000) (hh : IsTop (hq a b c) 5000 h) (k : Nat) (hk : 10 < k) :
    ((impl_Breaks.f a b c p).bind fun t => (if (t == (decide (p > h))) = true then ((impl_TensionAt.f a b c (wrap64 (p + 1))).bind fun u => (if tensionOf a b c p ≤ u then ((impl_FrameLoad.f k (([(⟨a, b, c⟩ : S63), (⟨a, b, c⟩ : S63)] : List (S63))) (([p, p] : List Int))).bind fun v => (some (v == (wrap64 (2 * tensionOf a b c p))))) else (some false))) else (some false))) = some true := by
  have tb := (tens_bd (a := a) (b := b) (p := p) (by omega) (by omega) (by omega)).2.2.2.2
  have e1 := tensionOf_yes (p := p) hc (by omega)
  have e2 := tensionOf_yes (p := p + 1) hc (by omega)
  have hm := tens_mono (a := a) (a' := a) (b := b) (p := p) (p' := p + 1) (by omega) (by omega) (by omega)
  have hb : (decide (tensionOf a b c p > c) == decide (p > h)) = true := by
    have : (tensionOf a b c p > c) ↔ p > h := by
      obtain ⟨h0, h1, h2, h3⟩ := hh
      constructor
      · intro g
        refine Classical.byContradiction fun hn => ?_
        rcases h2 with h2 | h2
        · omega
        · have := hq_mono hc p h (by omega) (by omega) h1 h2
          simp only [hq, decide_eq_true_eq] at this
          exact this g
      · intro g
        have := h3 p g (by omega)
        simp only [hq, decide_eq_false_iff_not] at this
        exact Classical.byContradiction this
    rw [beq_iff_eq]; exact decide_eq_decide.mpr this
  rw [impl_Breaks_eq]; simp only [Option.bind_some]
  rw [if_pos hb, w64 (n := p + 1) (by omega) (by omega), impl_TensionAt_eq]
  simp only [Option.bind_some]
  rw [if_pos (by omega), frame_two a b c p (by omega) k hk]
  simp only [Option.bind_some]
  rw [w64 (n := 2 * tensionOf a b c p) (by omega) (by omega)]
  simp
theorem strings_law (l : List Int) (hl : (l.length : Int) ≤ 1048576) (k : Nat) (hk : 6000 < k) : laws_FnStrings.f k l = some true := by
  unfold laws_FnStrings.f
  simp only [laws_big.f, Option.bind_some]
  rw [if_neg (by simp; omega)]
  obtain ⟨a, b, c, p, e, hc, p0, p1⟩ := drawCord_some l (by omega) k (by omega)
  obtain ⟨h, e1, hh⟩ := impl_HighestPitch_top hc k (by omega)
  obtain ⟨n, e2, hn⟩ := impl_LongestFor_top (p := p) ⟨hc, by omega⟩ k (by omega)
  rw [e]; simp only [Option.bind_some]
  rw [e1]; simp only [Option.bind_some]
  rw [e2]; simp only [Option.bind_some]
  rw [impl_TensionAt_eq, impl_CordOk_eq]
  simp only [Option.bind_some]
  rw [if_pos (decide_eq_true hc)]
  have hT := strings_tail hc ⟨p0, p1⟩ hh k (by omega)
  have hL := lpart _ hT hn
  exact hpart _ hL hh
theorem FnStrings : laws_FnStrings.Pure := by
  intro l _ hb _
  obtain ⟨k, hk⟩ : ∃ k : Nat, 6000 < k := ⟨6001, by omega⟩
  refine ⟨k, ?_⟩
  by_cases hl : (l.length : Int) > 1048576
  · unfold laws_FnStrings.f
    simp only [laws_big.f, Option.bind_some]
    rw [if_pos (decide_eq_true hl)]
  · exact strings_law l (by omega) k hk
end Go.Proofs.Ytbimhcdfojbjgab.Pure
