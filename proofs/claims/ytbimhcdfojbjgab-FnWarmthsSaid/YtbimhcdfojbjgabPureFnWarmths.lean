/- The plain law of FnWarmths: the printed function of the law answers true. Its conditions are those of the statement's own bounds. -/
import Derived.Test.YtbimhcdfojbjgabHFnWarmthsx2
namespace Go.Proofs.Ytbimhcdfojbjgab.Pure
open Go.RowKit Go.Proofs.Ytbimhcdfojbjgab.PFnWarmths Go.Proofs.YtbimhcdfojbjgabW.PrintWords Go.Proofs.YtbimhcdfojbjgabW.PrintLast Go.Proofs.YtbimhcdfojbjgabW.PrintMore
set_option linter.unusedVariables false
theorem and255 (n : Int) : Go.bits .and .i64 n 255 = n % 256 := by
  have h255 : (BitVec.ofInt 64 255).toNat = 2 ^ 8 - 1 := by decide
  have key : (BitVec.ofInt 64 n &&& BitVec.ofInt 64 255).toNat = (n % ((2 ^ 64 : Nat) : Int)).toNat % 2 ^ 8 := by
    rw [BitVec.toNat_and, BitVec.toNat_ofInt, h255, Nat.and_two_pow_sub_one_eq_mod]
  show IntKind.i64.wrap ((BitVec.ofInt 64 n &&& BitVec.ofInt 64 255).toNat : Nat) = n % 256
  rw [key, IntKind.wrap_i64]
  omega
theorem dw64 {n : Int} (h1 : -9223372036854775808 ≤ n) (h2 : n ≤ 9223372036854775807) : wrap64 n = n := by unfold wrap64; omega
theorem lenb {b : List Int} (hb : b.length * 1 ≤ 140737488351232) : (b.length : Int) ≤ 140737488351232 := by omega
theorem new_loop (l : List Int) (hl : (l.length : Int) ≤ 140737488351232) : ∀ (d k : Nat) (h i : Int), 0 ≤ i → i ≤ 4000 → 4000 - i ≤ d → d < k → ∃ h', spec_l01New.l0 k l h i = some (l, 0, h') := by
  intro d
  induction d with
  | zero =>
    intro k h i h0 h1 hd hk
    obtain ⟨k, rfl⟩ : ∃ m, k = m + 1 := ⟨k - 1, by omega⟩
    refine ⟨h, ?_⟩
    simp only [spec_l01New.l0]
    by_cases hlt : i < (l.length : Int)
    · rw [if_pos hlt, if_neg (by omega)]
    · rw [if_neg hlt]
  | succ d ih =>
    intro k h i h0 h1 hd hk
    obtain ⟨k, rfl⟩ : ∃ m, k = m + 1 := ⟨k - 1, by omega⟩
    by_cases hlt : i < (l.length : Int)
    · by_cases h4 : i < 4000
      · obtain ⟨h', e⟩ := ih k (Go.bits .and .i64 (wrap64 ((wrap64 ((wrap64 (h * 131)) + (wrap64 (rd l i)))) + 7)) 1073741823) (i + 1) (by omega) (by omega) (by omega) (by omega)
        refine ⟨h', ?_⟩
        simp only [spec_l01New.l0]
        rw [if_pos hlt, if_pos h4, if_pos h0, dw64 (n := i + 1) (by omega) (by omega)]
        exact e
      · refine ⟨h, ?_⟩
        simp only [spec_l01New.l0]
        rw [if_pos hlt, if_neg h4]
    · refine ⟨h, ?_⟩
      simp only [spec_l01New.l0]
      rw [if_neg hlt]
theorem new_some (l : List Int) (hl : (l.length : Int) ≤ 140737488351232) (k : Nat) (hk : 4000 < k) : ∃ h, spec_l01New.f k l = some (l, 0, h) := by
  unfold spec_l01New.f
  exact new_loop l hl 4000 k _ 0 (by omega) (by omega) (by omega) hk
/-- the cursor's place is good -/
abbrev Cur (b : List Int) (i : Int) : Prop := 0 ≤ i ∧ i ≤ (b.length : Int) ∧ (b.length : Int) ≤ 140737488351232
theorem byte_some (b : List Int) (i h : Int) (hc : Cur b i) : ∃ x i' h', spec_l01Byte.f b i h = some (x, i', h') ∧ 0 ≤ x ∧ x ≤ 255 ∧ Cur b i' := by
  obtain ⟨h0, h1, h2⟩ := hc
  unfold spec_l01Byte.f
  by_cases hlt : i < (b.length : Int)
  · rw [if_pos hlt, if_pos h0]
    refine ⟨_, _, _, rfl, ?_, ?_, ?_⟩
    · rw [and255]; omega
    · rw [and255]; omega
    · rw [dw64 (n := i + 1) (by omega) (by omega)]; exact ⟨by omega, by omega, h2⟩
  · rw [if_neg hlt]
    refine ⟨_, _, _, rfl, ?_, ?_, ?_⟩
    · rw [and255]; omega
    · rw [and255]; omega
    · exact ⟨h0, h1, h2⟩
theorem tmod_lt {x n : Int} (hx : 0 ≤ x) (hn : 0 < n) : 0 ≤ x.tmod n ∧ x.tmod n < n := by
  rw [Int.tmod_eq_emod_of_nonneg hx]
  exact ⟨Int.emod_nonneg _ (by omega), Int.emod_lt_of_pos _ hn⟩
theorem below_some (b : List Int) (i h n : Int) (hc : Cur b i) (hn : 0 < n) (hn2 : n ≤ 2147483648) :
    ∃ x i' h', spec_l01Below.f b i h n = some (x, i', h') ∧ 0 ≤ x ∧ x < n ∧ Cur b i' := by
  unfold spec_l01Below.f
  rw [if_neg (by omega)]
  by_cases h256 : n ≤ 256
  · rw [if_pos h256]
    obtain ⟨x, i1, h1, e, hx0, hx1, hc1⟩ := byte_some b i h hc
    rw [e]; simp only [Option.bind_some]; rw [if_neg (by omega)]
    obtain ⟨a, c⟩ := tmod_lt (x := x) (n := n) hx0 hn
    exact ⟨_, _, _, rfl, a, c, hc1⟩
  · rw [if_neg h256]
    obtain ⟨x, i1, h1, e1, x0, x1, hc1⟩ := byte_some b i h hc
    rw [e1]; simp only [Option.bind_some]
    obtain ⟨y, i2, h2, e2, y0, y1, hc2⟩ := byte_some b i1 h1 hc1
    rw [e2]; simp only [Option.bind_some]
    obtain ⟨z, i3, h3, e3, z0, z1, hc3⟩ := byte_some b i2 h2 hc2
    rw [e3]; simp only [Option.bind_some]
    obtain ⟨w, i4, h4, e4, w0, w1, hc4⟩ := byte_some b i3 h3 hc3
    rw [e4]; simp only [Option.bind_some]; rw [if_neg (by omega)]
    rw [dw64 (n := x * 16777216) (by omega) (by omega), dw64 (n := y * 65536) (by omega) (by omega), dw64 (n := z * 256) (by omega) (by omega), dw64 (n := x * 16777216 + y * 65536) (by omega) (by omega),
      dw64 (n := x * 16777216 + y * 65536 + z * 256) (by omega) (by omega), dw64 (n := x * 16777216 + y * 65536 + z * 256 + w) (by omega) (by omega)]
    obtain ⟨a, c⟩ := tmod_lt (x := x * 16777216 + y * 65536 + z * 256 + w) (n := n) (by omega) hn
    exact ⟨_, _, _, rfl, a, c, hc4⟩
theorem within_eq (a b c : Int) : impl_within.f a b c = some (decide (b ≤ a ∧ a ≤ c)) := by
  unfold impl_within.f
  by_cases h : b ≤ a
  · rw [if_pos h]; congr 1; by_cases h2 : a ≤ c <;> simp [h2, h]
  · rw [if_neg h]; congr 1; simp; omega
theorem law_of {α : Type} [DecidableEq α] {s i : Option α} {r : α} (hs : s = some r) (hi : i = some r) : (s.bind fun t => i.bind fun u => if u = t then some true else some false) = some true := by
  subst hs hi; simp
theorem law_ofb {s i : Option Bool} {r : Bool} (hs : s = some r) (hi : i = some r) : (s.bind fun t => i.bind fun u => if (u != t) = true then some false else some true) = some true := by
  subst hs hi; simp
theorem wf_i64 {a : Int} (h : (Lit.int .i64 a).wf = true) : -9223372036854775808 ≤ a ∧ a ≤ 9223372036854775807 := by
  have h' : (decide ((-9223372036854775808 : Int) ≤ a) && decide (a ≤ 9223372036854775807)) = true := h
  simp at h'; omega
theorem w64 {n : Int} (h1 : -9223372036854775808 ≤ n) (h2 : n ≤ 9223372036854775807) : wrap64 n = n := by unfold wrap64; omega
theorem mul_bd {a b A B : Int} (h0 : 0 ≤ a) (h1 : a ≤ A) (h2 : 0 ≤ b) (h3 : b ≤ B) : 0 ≤ a * b ∧ a * b ≤ A * B := by
  refine ⟨Int.mul_nonneg h0 h2, ?_⟩
  exact Int.le_trans (Int.mul_le_mul_of_nonneg_right h1 h2) (Int.mul_le_mul_of_nonneg_left h3 (by omega))
theorem tdiv_nn {a b : Int} (h : 0 ≤ a) : a.tdiv b = a / b := Int.tdiv_eq_ediv_of_nonneg h
theorem div_bd {a A c : Int} (h0 : 0 ≤ a) (h1 : a ≤ A) (hc : 0 < c) : 0 ≤ a / c ∧ a / c ≤ A / c :=
  ⟨Int.ediv_nonneg h0 (by omega), Int.ediv_le_ediv hc h1⟩
def warm (a w : Int) : Int := if 1 ≤ a ∧ a ≤ 10000000 ∧ -10 ≤ w ∧ w ≤ 40 then a * (970 + 2 * w) / 1000 else 0
theorem warm_num {a w : Int} (h : 1 ≤ a ∧ a ≤ 10000000) (h2 : -10 ≤ w ∧ w ≤ 40) :
    wrap64 (Int.tdiv (wrap64 (a * (wrap64 (1000 + (wrap64 (2 * (wrap64 (w - 15)))))))) 1000) = a * (970 + 2 * w) / 1000 := by
  have e1 : wrap64 (w - 15) = w - 15 := w64 (by omega) (by omega)
  have e2 : wrap64 (2 * (w - 15)) = 2 * (w - 15) := w64 (by omega) (by omega)
  have e3 : wrap64 (1000 + 2 * (w - 15)) = 970 + 2 * w := by rw [w64 (by omega) (by omega)]; omega
  rw [e1, e2, e3]
  have b := mul_bd (a := a) (b := 970 + 2 * w) (A := 10000000) (B := 1050) (by omega) h.2 (by omega) (by omega)
  rw [w64 (n := a * (970 + 2 * w)) (by omega) (by omega), tdiv_nn b.1]
  exact w64 (by omega) (by omega)
theorem impl_WarmPitch_eq (a w : Int) : impl_WarmPitch.f a w = some (warm a w) := by
  simp only [impl_WarmPitch.f, impl_isFine.f, impl_isWarmth.f, within_eq, Option.bind_some]
  by_cases h : 1 ≤ a ∧ a ≤ 10000000
  · by_cases h2 : -10 ≤ w ∧ w ≤ 40
    · rw [warm_num h h2]; simp [h, h2, warm]
    · simp [h, h2, warm]
  · simp only [h, decide_false, Bool.false_eq_true, if_false]
    have : ¬ (1 ≤ a ∧ a ≤ 10000000 ∧ -10 ≤ w ∧ w ≤ 40) := by omega
    simp only [warm, this, if_false]
theorem warm_bd (a w : Int) : 0 ≤ warm a w ∧ warm a w ≤ 10500000 := by
  unfold warm
  split
  · have b := mul_bd (a := a) (b := 970 + 2 * w) (A := 10000000) (B := 1050) (by omega) (by omega) (by omega) (by omega)
    omega
  · omega
/-- r is the greatest number of [0, m] at which q holds (0 if there is none) -/
def IsTop (q : Int → Bool) (m r : Int) : Prop := 0 ≤ r ∧ r ≤ m ∧ (r = 0 ∨ q r = true) ∧ ∀ n, r < n → n ≤ m → q n = false
theorem IsTop.unique {q : Int → Bool} {m r s : Int} (h : IsTop q m r) (g : IsTop q m s) : r = s := by
  obtain ⟨h0, h1, h2, h3⟩ := h
  obtain ⟨g0, g1, g2, g3⟩ := g
  rcases Int.lt_trichotomy r s with c | c | c
  · rcases g2 with e | e
    · omega
    · rw [h3 s c g1] at e; cases e
  · exact c
  · rcases h2 with e | e
    · omega
    · rw [g3 r c h1] at e; cases e
/-- the search by halved steps -/
def lift (q : Int → Bool) (m : Int) : Nat → Int → Int → Int
  | 0, n, _ => n
  | d + 1, n, s => lift q m d (if n + s ≤ m ∧ q (n + s) = true then n + s else n) (s / 2)
theorem lift_top (q : Int → Bool) (m : Int) (mono : ∀ i j, 1 ≤ i → i ≤ j → j ≤ m → q j = true → q i = true) : ∀ (d : Nat) (n : Int), 0 ≤ n → n ≤ m → (n = 0 ∨ q n = true) →
    (∀ j, n + 2 ^ d ≤ j → j ≤ m → q j = false) → IsTop q m (lift q m d n (2 ^ d / 2)) := by
  intro d
  induction d with
  | zero =>
    intro n h0 h1 h2 h3
    refine ⟨h0, h1, h2, fun j hj hm => h3 j ?_ hm⟩
    have hj' : n < j := hj
    simp
    omega
  | succ d ih =>
    intro n h0 h1 h2 h3
    have hp : (2 : Int) ^ (d + 1) / 2 = 2 ^ d := by rw [Int.pow_succ]; omega
    have hpos : (0 : Int) < 2 ^ d := Int.pow_pos (by decide)
    have hs : (2 : Int) ^ (d + 1) = 2 ^ d + 2 ^ d := by rw [Int.pow_succ]; omega
    rw [hp]
    unfold lift
    by_cases hc : n + 2 ^ d ≤ m ∧ q (n + 2 ^ d) = true
    · rw [if_pos hc]
      exact ih _ (by omega) hc.1 (.inr hc.2) (fun j hj hm => h3 j (by omega) hm)
    · rw [if_neg hc]
      refine ih n h0 h1 h2 (fun j hj hm => ?_)
      cases hq : q j
      · rfl
      · exact absurd ⟨by omega, mono _ j (by omega) hj hm hq⟩ hc
theorem warm_mono {i j w : Int} (h0 : 1 ≤ i) (h1 : i ≤ j) (h2 : j ≤ 10000000) : warm i w ≤ warm j w := by
  unfold warm
  by_cases hw : -10 ≤ w ∧ w ≤ 40
  · rw [if_pos (by omega), if_pos (by omega)]
    apply Int.ediv_le_ediv (by omega)
    exact Int.mul_le_mul_of_nonneg_right h1 (by omega)
  · rw [if_neg (by omega), if_neg (by omega)]; omega
abbrev uq (h w : Int) (n : Int) : Bool := decide (warm n w ≤ h)
theorem uq_mono (h w : Int) : ∀ i j, 1 ≤ i → i ≤ j → j ≤ 10000000 → uq h w j = true → uq h w i = true := by
  intro i j h0 h1 h2 hq
  have := warm_mono (w := w) h0 h1 h2
  simp only [uq, decide_eq_true_eq] at hq ⊢
  omega
abbrev uOk (h w : Int) : Prop := (1 ≤ h ∧ h ≤ 10000000) ∧ (-10 ≤ w ∧ w ≤ 40)
theorem impl_usual_loop (h w : Int) : ∀ (d k : Nat) (a b : Int), 0 ≤ a → a ≤ b → b ≤ 10000000 → b - a ≤ d → d < k → (a = 0 ∨ uq h w a = true) → (∀ j, b < j → j ≤ 10000000 → uq h w j = false) →
    ∃ r, impl_UsualPitch.l0 k h w a b = some r ∧ IsTop (uq h w) 10000000 r := by
  intro d
  induction d with
  | zero =>
    intro k a b h0 h1 h2 hd hk hq hn
    obtain ⟨k, rfl⟩ : ∃ m, k = m + 1 := ⟨k - 1, by omega⟩
    refine ⟨a, by simp only [impl_UsualPitch.l0]; rw [if_neg (by omega)], h0, by omega, hq, fun j hj hm => hn j (by omega) hm⟩
  | succ d ih =>
    intro k a b h0 h1 h2 hd hk hq hn
    obtain ⟨k, rfl⟩ : ∃ m, k = m + 1 := ⟨k - 1, by omega⟩
    by_cases hlt : a < b
    · have e1 : wrap64 (Int.tdiv (wrap64 ((wrap64 (a + b)) + 1)) 2) = (a + b + 1) / 2 := by
        rw [w64 (n := a + b) (by omega) (by omega), w64 (n := a + b + 1) (by omega) (by omega), tdiv_nn (by omega), w64 (by omega) (by omega)]
      simp only [impl_UsualPitch.l0]
      rw [if_pos hlt, e1, impl_WarmPitch_eq]
      simp only [Option.bind_some]
      rw [w64 (n := (a + b + 1) / 2 - 1) (by omega) (by omega)]
      by_cases hc : warm ((a + b + 1) / 2) w ≤ h
      · rw [if_pos hc]
        exact ih k _ b (by omega) (by omega) h2 (by omega) (by omega) (.inr (decide_eq_true hc)) hn
      · rw [if_neg hc]
        refine ih k a _ h0 (by omega) (by omega) (by omega) (by omega) hq (fun j hj hm => ?_)
        cases hu : uq h w j
        · rfl
        · have := uq_mono h w _ j (by omega) (show (a + b + 1) / 2 ≤ j by omega) hm hu
          exact absurd (of_decide_eq_true this) hc
    · refine ⟨a, by simp only [impl_UsualPitch.l0]; rw [if_neg hlt], h0, by omega, hq, fun j hj hm => hn j (by omega) hm⟩
theorem impl_UsualPitch_top (h w : Int) (ho : uOk h w) (k : Nat) (hk : 10000001 < k) : ∃ r, impl_UsualPitch.f k h w = some r ∧ IsTop (uq h w) 10000000 r := by
  obtain ⟨k, rfl⟩ : ∃ m, k = m + 1 := ⟨k - 1, by omega⟩
  obtain ⟨r, e, t⟩ := impl_usual_loop h w 10000000 k 0 10000000 (by omega) (by omega) (by omega) (by omega) (by omega) (.inl rfl) (fun j hj hm => by omega)
  refine ⟨r, ?_, t⟩
  simp only [impl_UsualPitch.f, impl_isFine.f, impl_isWarmth.f, within_eq, Option.bind_some]
  rw [if_pos (decide_eq_true ho.1), decide_eq_true ho.2]
  simp only [impl_UsualPitch.j0, Bool.not_true, Bool.false_eq_true, if_false]
  exact e
theorem impl_UsualPitch_no (h w : Int) (ho : ¬ uOk h w) (k : Nat) (hk : 1 < k) : impl_UsualPitch.f k h w = some 0 := by
  obtain ⟨k, rfl⟩ : ∃ m, k = m + 1 := ⟨k - 1, by omega⟩
  simp only [impl_UsualPitch.f, impl_isFine.f, impl_isWarmth.f, within_eq, Option.bind_some]
  by_cases h1 : 1 ≤ h ∧ h ≤ 10000000
  · have h2 : ¬ (-10 ≤ w ∧ w ≤ 40) := fun h2 => ho ⟨h1, h2⟩
    rw [if_pos (decide_eq_true h1), decide_eq_false h2]
    simp only [impl_UsualPitch.j0, Bool.not_false, if_true]
  · rw [if_neg (by simpa using h1)]
    simp only [impl_UsualPitch.j0, if_true]
def apart (a b : Int) : Int := mx (a - b) (b - a)
theorem apart_abs (a b : Int) : 0 ≤ apart a b ∧ (apart a b = a - b ∨ apart a b = b - a) := by unfold apart mx; split <;> omega
def reedB (a r w : Int) : Int := if 1 ≤ r ∧ r ≤ 10000000 ∧ warm a w ≠ 0 then apart (warm a w) r else -1
theorem warm_zero_of {a w : Int} (h : ¬ (1 ≤ a ∧ a ≤ 10000000)) : warm a w = 0 := by
  unfold warm; rw [if_neg (by omega)]
theorem impl_ReedBeats_eq (a r w : Int) : impl_ReedBeats.f a r w = some (reedB a r w) := by
  have hb := warm_bd a w
  simp only [impl_ReedBeats.f, impl_WarmPitch_eq, impl_isFine.f, impl_apart.f, within_eq, Option.bind_some]
  by_cases h1 : 1 ≤ a ∧ a ≤ 10000000
  · by_cases h : 1 ≤ r ∧ r ≤ 10000000
    · by_cases h0 : warm a w = 0
      · simp [h0, h, h1, reedB]
      · rw [w64 (n := warm a w - r) (by omega) (by omega), w64 (n := r - warm a w) (by omega) (by omega)]
        simp [h0, h, h1, reedB, apart]
    · have : ¬ (1 ≤ r ∧ r ≤ 10000000 ∧ warm a w ≠ 0) := fun h' => h ⟨h'.1, h'.2.1⟩
      simp only [h1, h, reedB, this, and_self, decide_true, decide_false, Bool.false_eq_true, if_false, if_true]
  · have : ¬ (1 ≤ r ∧ r ≤ 10000000 ∧ warm a w ≠ 0) := fun h' => h'.2.2 (warm_zero_of h1)
    simp only [h1, reedB, this, decide_false, Bool.false_eq_true, if_false]
theorem reedB_bd (a r w : Int) : -1 ≤ reedB a r w ∧ reedB a r w ≤ 20500000 := by
  have hb := warm_bd a w
  unfold reedB
  split
  · have := apart_abs (warm a w) r; omega
  · omega
/-- b is the first best of those before w; n what it hears (-1: none was good) -/
def BestUpto (a r : Int) (b n w : Int) : Prop :=
  (n = -1 ∧ b = -100 ∧ ∀ j, -10 ≤ j → j < w → reedB a r j < 0) ∨
  (0 ≤ n ∧ n = reedB a r b ∧ -10 ≤ b ∧ b < w ∧ ∀ j, -10 ≤ j → j < w → 0 ≤ reedB a r j → n ≤ reedB a r j ∧ (reedB a r j = n → b ≤ j))
theorem BestUpto.step {a r b n w : Int} (h : BestUpto a r b n w) (hw : -10 ≤ w) : BestUpto a r (if reedB a r w ≥ 0 ∧ (n < 0 ∨ reedB a r w < n) then w else b) (if reedB a r w ≥ 0 ∧ (n < 0 ∨ reedB a r w < n) then reedB a r w else n) (w + 1) := by
  by_cases hc : reedB a r w ≥ 0 ∧ (n < 0 ∨ reedB a r w < n)
  · rw [if_pos hc, if_pos hc]
    refine .inr ⟨hc.1, rfl, hw, by omega, fun j hj0 hj1 hjn => ?_⟩
    by_cases e : j = w
    · subst e; exact ⟨by omega, fun _ => by omega⟩
    · rcases h with ⟨_, _, h3⟩ | ⟨_, _, _, _, h5⟩
      · have := h3 j hj0 (by omega); omega
      · have := h5 j hj0 (by omega) hjn
        rcases hc.2 with hn | hn
        · omega
        · omega
  · rw [if_neg hc, if_neg hc]
    rcases h with ⟨h1, h2, h3⟩ | ⟨h1, h2, h3, h4, h5⟩
    · refine .inl ⟨h1, h2, fun j hj0 hj1 => ?_⟩
      by_cases e : j = w
      · subst e; omega
      · exact h3 j hj0 (by omega)
    · refine .inr ⟨h1, h2, h3, by omega, fun j hj0 hj1 hjn => ?_⟩
      by_cases e : j = w
      · subst e; exact ⟨by omega, fun _ => by omega⟩
      · exact h5 j hj0 (by omega) hjn
theorem impl_best_loop (a r : Int) : ∀ (d k : Nat) (b n w : Int), w = 41 - d → -10 ≤ w → d < k → BestUpto a r b n w → ∃ b' n', impl_BestWarmth.l0 k a r b n w = some b' ∧ BestUpto a r b' n' 41 := by
  intro d
  induction d with
  | zero =>
    intro k b n w hw h0 hk h
    obtain ⟨k, rfl⟩ : ∃ m, k = m + 1 := ⟨k - 1, by omega⟩
    refine ⟨b, n, by simp only [impl_BestWarmth.l0]; rw [if_neg (by omega)], ?_⟩
    obtain rfl : w = 41 := by omega
    exact h
  | succ d ih =>
    intro k b n w hw h0 hk h
    obtain ⟨k, rfl⟩ : ∃ m, k = m + 1 := ⟨k - 1, by omega⟩
    have hs := h.step h0
    simp only [impl_BestWarmth.l0, impl_ReedBeats_eq, Option.bind_some]
    rw [if_pos (by omega), w64 (n := w + 1) (by omega) (by omega)]
    by_cases c1 : reedB a r w ≥ 0
    · rw [if_pos c1]
      by_cases c2 : n < 0
      · rw [if_pos ⟨c1, .inl c2⟩, if_pos ⟨c1, .inl c2⟩] at hs
        rw [if_pos c2]
        exact ih k _ _ _ (by omega) (by omega) (by omega) hs
      · rw [if_neg c2]
        by_cases c3 : reedB a r w < n
        · rw [if_pos ⟨c1, .inr c3⟩, if_pos ⟨c1, .inr c3⟩] at hs
          rw [if_pos c3]
          exact ih k _ _ _ (by omega) (by omega) (by omega) hs
        · rw [if_neg (by omega), if_neg (by omega)] at hs
          rw [if_neg c3]
          exact ih k _ _ _ (by omega) (by omega) (by omega) hs
    · rw [if_neg c1]
      rw [if_neg (by omega), if_neg (by omega)] at hs
      exact ih k _ _ _ (by omega) (by omega) (by omega) hs
theorem impl_BestWarmth_val (a r : Int) (k : Nat) (hk : 52 < k) : ∃ b n, impl_BestWarmth.f k a r = some b ∧ BestUpto a r b n 41 := by
  unfold impl_BestWarmth.f
  exact impl_best_loop a r 51 k (-100) (-1) (-10) (by omega) (by omega) (by omega) (.inl ⟨rfl, rfl, fun j h0 h1 => by omega⟩)
theorem BestUpto.unique {a r b n b' n' w : Int} (h : BestUpto a r b n w) (g : BestUpto a r b' n' w) : b = b' := by
  rcases h with ⟨h1, h2, h3⟩ | ⟨h1, h2, h3, h4, h5⟩ <;> rcases g with ⟨g1, g2, g3⟩ | ⟨g1, g2, g3, g4, g5⟩
  · omega
  · have := h3 b' g3 g4; omega
  · have := g3 b h3 h4; omega
  · have e1 := h5 b' g3 g4 (by omega)
    have e2 := g5 b h3 h4 (by omega)
    have e3 := e1.2 (by omega)
    have e4 := e2.2 (by omega)
    omega
theorem drawWarm_some (l : List Int) (hl : (l.length : Int) ≤ 140737488351232) (k : Nat) (hk : 4000 < k) : ∃ p w, spec_DrawWarm.f k l = some (p, w) ∧ 50000 ≤ p ∧ p < 950000 ∧ -10 ≤ w ∧ w ≤ 40 := by
  obtain ⟨h, e0⟩ := new_some l hl k hk
  have c0 : Cur l 0 := ⟨by omega, by omega, hl⟩
  obtain ⟨x, i1, h1, e1, x0, x1, c1⟩ := below_some l 0 h 900000 c0 (by omega) (by omega)
  obtain ⟨y, i2, h2, e2, y0, y1, c2⟩ := below_some l i1 h1 51 c1 (by omega) (by omega)
  refine ⟨50000 + x, y - 10, ?_, by omega, by omega, by omega, by omega⟩
  unfold spec_DrawWarm.f
  rw [e0]; simp only [Option.bind_some]
  rw [e1]; simp only [Option.bind_some]
  rw [e2]; simp only [Option.bind_some]
  rw [w64 (n := 50000 + x) (by omega) (by omega), w64 (n := y - 10) (by omega) (by omega)]
theorem warm_yes {p w : Int} (h : 1 ≤ p ∧ p ≤ 10000000 ∧ -10 ≤ w ∧ w ≤ 40) : warm p w = p * (970 + 2 * w) / 1000 := if_pos h
theorem warms_law (l : List Int) (hb : l.length ≤ 1048576) (k : Nat) (hk : 10000003 < k) : laws_FnWarmths.f k l = some true := by
  unfold laws_FnWarmths.f
  simp only [laws_big.f, Option.bind_some]
  rw [if_neg (by simp; omega)]
  obtain ⟨p, w, e, p0, p1, w0, w1⟩ := drawWarm_some l (by omega) k (by omega)
  rw [e]; simp only [Option.bind_some, impl_WarmPitch_eq]
  have hw : warm p w = p * (970 + 2 * w) / 1000 := warm_yes (by omega)
  have hb := mul_bd (a := p) (b := 970 + 2 * w) (A := 949999) (B := 1050) (by omega) (by omega) (by omega) (by omega)
  have hlow : 50000 * 950 ≤ p * (970 + 2 * w) := Int.le_trans (Int.mul_le_mul_of_nonneg_left (show (950 : Int) ≤ 970 + 2 * w by omega) (by omega)) (Int.mul_le_mul_of_nonneg_right p0 (by omega))
  have hh : 47500 ≤ warm p w ∧ warm p w ≤ 997500 := by rw [hw]; omega
  obtain ⟨u, eu, tu⟩ := impl_UsualPitch_top (warm p w) w ⟨by omega, by omega⟩ k (by omega)
  obtain ⟨b, n, eb, tb⟩ := impl_BestWarmth_val p (warm p w) k (by omega)
  rw [eu]; simp only [Option.bind_some]
  rw [eb]; simp only [Option.bind_some]
  obtain ⟨t0, t1, t2, t3⟩ := tu
  have hup : p ≤ u := by
    rcases Int.lt_or_le u p with hlt | hge
    · have := t3 p hlt (by omega)
      simp [uq] at this
    · exact hge
  have hqu : warm u w ≤ warm p w := by
    rcases t2 with h0 | h0
    · omega
    · exact of_decide_eq_true h0
  have heq : warm u w = warm p w := by
    have := warm_mono (w := w) (show 1 ≤ p by omega) hup t1
    omega
  have hu7 : u < 10000000 := by
    rcases Int.lt_or_le u 10000000 with hlt | hge
    · exact hlt
    · obtain rfl : u = 10000000 := by omega
      rw [warm_yes (by omega)] at hqu
      omega
  have hnext : warm (u + 1) w > warm p w := by
    have := t3 (u + 1) (by omega) (by omega)
    simp only [uq, decide_eq_false_iff_not] at this
    omega
  have h15 : warm p 15 = p := by rw [warm_yes (by omega)]; omega
  have hr : reedB p (warm p w) w = 0 := by
    unfold reedB
    rw [if_pos (by omega)]
    unfold apart mx
    split <;> omega
  have hbest : reedB p (warm p w) b = 0 ∧ b ≤ w := by
    rcases tb with ⟨_, _, h3⟩ | ⟨h1, h2, _, _, h5⟩
    · have := h3 w w0 (by omega); omega
    · have := h5 w w0 (by omega) (by omega)
      exact ⟨by omega, this.2 (by omega)⟩
  rw [if_pos (by omega), if_pos hup, if_pos heq, w64 (n := u + 1) (by omega) (by omega), if_pos hnext]
  by_cases h40 : w = 40
  · rw [if_pos h40, if_pos h15, impl_ReedBeats_eq]
    simp only [Option.bind_some]
    rw [if_pos hr, impl_ReedBeats_eq]
    simp only [Option.bind_some]
    rw [if_pos hbest.1, decide_eq_true hbest.2]
  · have hwn : warm p (w + 1) ≥ warm p w := by
      rw [hw, warm_yes (by omega)]
      exact Int.ediv_le_ediv (by omega) (Int.mul_le_mul_of_nonneg_left (by omega) (by omega))
    rw [if_neg h40, w64 (n := w + 1) (by omega) (by omega), if_pos hwn, if_pos h15, impl_ReedBeats_eq]
    simp only [Option.bind_some]
    rw [if_pos hr, impl_ReedBeats_eq]
    simp only [Option.bind_some]
    rw [if_pos hbest.1, decide_eq_true hbest.2]
theorem FnWarmths : laws_FnWarmths.Pure := by
  intro l _ hb _
  obtain ⟨k, hk⟩ : ∃ k : Nat, 10000003 < k := ⟨10000004, by omega⟩
  refine ⟨k, ?_⟩
  by_cases hl : (l.length : Int) > 1048576
  · unfold laws_FnWarmths.f
    simp only [laws_big.f, Option.bind_some]
    rw [if_pos (decide_eq_true hl)]
  · exact warms_law l (by omega) k hk
end Go.Proofs.Ytbimhcdfojbjgab.Pure
