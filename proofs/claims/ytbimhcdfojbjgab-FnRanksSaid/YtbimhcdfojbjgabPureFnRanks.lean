/- The plain law of FnRanks: the printed function of the law answers true. Its conditions are those of the statement's own bounds. -/
import Derived.Test.YtbimhcdfojbjgabHFnRanksx2
namespace Go.Proofs.Ytbimhcdfojbjgab.Pure
open Go.RowKit Go.Proofs.Ytbimhcdfojbjgab.PFnRanks Go.Proofs.YtbimhcdfojbjgabW.PrintWords Go.Proofs.YtbimhcdfojbjgabW.PrintLast Go.Proofs.YtbimhcdfojbjgabW.PrintMore
set_option linter.unusedVariables false
theorem and255 (n : Int) : Go.bits .and .i64 n 255 = n % 256 := by
  have h255 : (BitVec.ofInt 64 255).toNat = 2 ^ 8 - 1 := by decide
  have key : (BitVec.ofInt 64 n &&& BitVec.ofInt 64 255).toNat = (n % ((2 ^ 64 : Nat) : Int)).toNat % 2 ^ 8 := by
    rw [BitVec.toNat_and, BitVec.toNat_ofInt, h255, Nat.and_two_pow_sub_one_eq_mod]
  show IntKind.i64.wrap ((BitVec.ofInt 64 n &&& BitVec.ofInt 64 255).toNat : Nat) = n % 256
  rw [key, IntKind.wrap_i64]
  omega
theorem dw64 {n : Int} (h1 : -9223372036854775808 ≤ n) (h2 : n ≤ 9223372036854775807) : wrap64 n = n := by unfold wrap64; omega
theorem lenb {b : List Int} (hb : b.length * 1 ≤ 140737488351232) : (b.length : Int) ≤ 140737488351232 := by omega
theorem new_loop (l : List Int) (hl : (l.length : Int) ≤ 140737488351232) : ∀ (d k : Nat) (h i : Int), 0 ≤ i → i ≤ 4000 → 4000 - i ≤ d → d < k → ∃ h', spec_l01New.l0 k l h i = some (l, 0, h') := by
  intro d
  induction d with
  | zero =>
    intro k h i h0 h1 hd hk
    obtain ⟨k, rfl⟩ : ∃ m, k = m + 1 := ⟨k - 1, by omega⟩
    refine ⟨h, ?_⟩
    simp only [spec_l01New.l0]
    by_cases hlt : i < (l.length : Int)
    · rw [if_pos hlt, if_neg (by omega)]
    · rw [if_neg hlt]
  | succ d ih =>
    intro k h i h0 h1 hd hk
    obtain ⟨k, rfl⟩ : ∃ m, k = m + 1 := ⟨k - 1, by omega⟩
    by_cases hlt : i < (l.length : Int)
    · by_cases h4 : i < 4000
      · obtain ⟨h', e⟩ := ih k (Go.bits .and .i64 (wrap64 ((wrap64 ((wrap64 (h * 131)) + (wrap64 (rd l i)))) + 7)) 1073741823) (i + 1) (by omega) (by omega) (by omega) (by omega)
        refine ⟨h', ?_⟩
        simp only [spec_l01New.l0]
        rw [if_pos hlt, if_pos h4, if_pos h0, dw64 (n := i + 1) (by omega) (by omega)]
        exact e
      · refine ⟨h, ?_⟩
        simp only [spec_l01New.l0]
        rw [if_pos hlt, if_neg h4]
    · refine ⟨h, ?_⟩
      simp only [spec_l01New.l0]
      rw [if_neg hlt]
theorem new_some (l : List Int) (hl : (l.length : Int) ≤ 140737488351232) (k : Nat) (hk : 4000 < k) : ∃ h, spec_l01New.f k l = some (l, 0, h) := by
  unfold spec_l01New.f
  exact new_loop l hl 4000 k _ 0 (by omega) (by omega) (by omega) hk
/-- the cursor's place is good -/
abbrev Cur (b : List Int) (i : Int) : Prop := 0 ≤ i ∧ i ≤ (b.length : Int) ∧ (b.length : Int) ≤ 140737488351232
theorem byte_some (b : List Int) (i h : Int) (hc : Cur b i) : ∃ x i' h', spec_l01Byte.f b i h = some (x, i', h') ∧ 0 ≤ x ∧ x ≤ 255 ∧ Cur b i' := by
  obtain ⟨h0, h1, h2⟩ := hc
  unfold spec_l01Byte.f
  by_cases hlt : i < (b.length : Int)
  · rw [if_pos hlt, if_pos h0]
    refine ⟨_, _, _, rfl, ?_, ?_, ?_⟩
    · rw [and255]; omega
    · rw [and255]; omega
    · rw [dw64 (n := i + 1) (by omega) (by omega)]; exact ⟨by omega, by omega, h2⟩
  · rw [if_neg hlt]
    refine ⟨_, _, _, rfl, ?_, ?_, ?_⟩
    · rw [and255]; omega
    · rw [and255]; omega
    · exact ⟨h0, h1, h2⟩
theorem tmod_lt {x n : Int} (hx : 0 ≤ x) (hn : 0 < n) : 0 ≤ x.tmod n ∧ x.tmod n < n := by
  rw [Int.tmod_eq_emod_of_nonneg hx]
  exact ⟨Int.emod_nonneg _ (by omega), Int.emod_lt_of_pos _ hn⟩
theorem below_some (b : List Int) (i h n : Int) (hc : Cur b i) (hn : 0 < n) (hn2 : n ≤ 2147483648) :
    ∃ x i' h', spec_l01Below.f b i h n = some (x, i', h') ∧ 0 ≤ x ∧ x < n ∧ Cur b i' := by
  unfold spec_l01Below.f
  rw [if_neg (by omega)]
  by_cases h256 : n ≤ 256
  · rw [if_pos h256]
    obtain ⟨x, i1, h1, e, hx0, hx1, hc1⟩ := byte_some b i h hc
    rw [e]; simp only [Option.bind_some]; rw [if_neg (by omega)]
    obtain ⟨a, c⟩ := tmod_lt (x := x) (n := n) hx0 hn
    exact ⟨_, _, _, rfl, a, c, hc1⟩
  · rw [if_neg h256]
    obtain ⟨x, i1, h1, e1, x0, x1, hc1⟩ := byte_some b i h hc
    rw [e1]; simp only [Option.bind_some]
    obtain ⟨y, i2, h2, e2, y0, y1, hc2⟩ := byte_some b i1 h1 hc1
    rw [e2]; simp only [Option.bind_some]
    obtain ⟨z, i3, h3, e3, z0, z1, hc3⟩ := byte_some b i2 h2 hc2
    rw [e3]; simp only [Option.bind_some]
    obtain ⟨w, i4, h4, e4, w0, w1, hc4⟩ := byte_some b i3 h3 hc3
    rw [e4]; simp only [Option.bind_some]; rw [if_neg (by omega)]
    rw [dw64 (n := x * 16777216) (by omega) (by omega), dw64 (n := y * 65536) (by omega) (by omega), dw64 (n := z * 256) (by omega) (by omega), dw64 (n := x * 16777216 + y * 65536) (by omega) (by omega),
      dw64 (n := x * 16777216 + y * 65536 + z * 256) (by omega) (by omega), dw64 (n := x * 16777216 + y * 65536 + z * 256 + w) (by omega) (by omega)]
    obtain ⟨a, c⟩ := tmod_lt (x := x * 16777216 + y * 65536 + z * 256 + w) (n := n) (by omega) hn
    exact ⟨_, _, _, rfl, a, c, hc4⟩
theorem u8_bd {x : Int} (h : (Lit.int .u8 x).wf = true) : 0 ≤ x ∧ x ≤ 255 := by
  have h' : (decide ((0 : Int) ≤ x) && decide (x ≤ 255)) = true := h
  simp at h'; omega
theorem at_some (l : List Int) (hl : (l.length : Int) ≤ 140737488351232) (hw : ∀ x ∈ l, (Lit.int .u8 x).wf = true) (i : Int) (hi : 0 ≤ i ∧ i ≤ 1000) : ∃ r, laws_at.f l i = some r ∧ 0 ≤ r ∧ r ≤ 255 := by
  unfold laws_at.f
  by_cases h0 : (l.length : Int) = 0
  · rw [if_pos h0]; exact ⟨0, rfl, by omega, by omega⟩
  · rw [if_neg h0, dw64 (n := i * 5) (by omega) (by omega), dw64 (n := i * 5 + 1) (by omega) (by omega)]
    obtain ⟨a, c⟩ := tmod_lt (x := i * 5 + 1) (n := (l.length : Int)) (by omega) (by omega)
    rw [if_pos a, if_pos c]
    have hm : rd l (Int.tmod (i * 5 + 1) (l.length : Int)) ∈ l := by
      unfold rd
      have hx : (Int.tmod (i * 5 + 1) (l.length : Int)).toNat < l.length := by omega
      rw [List.getD_eq_getElem?_getD, List.getElem?_eq_getElem hx]
      exact List.getElem_mem _
    have hb := u8_bd (hw _ hm)
    rw [dw64 (by omega) (by omega)]
    exact ⟨_, rfl, hb.1, hb.2⟩
theorem within_eq (a b c : Int) : impl_within.f a b c = some (decide (b ≤ a ∧ a ≤ c)) := by
  unfold impl_within.f
  by_cases h : b ≤ a
  · rw [if_pos h]; congr 1; by_cases h2 : a ≤ c <;> simp [h2, h]
  · rw [if_neg h]; congr 1; simp; omega
theorem law_of {α : Type} [DecidableEq α] {s i : Option α} {r : α} (hs : s = some r) (hi : i = some r) : (s.bind fun t => i.bind fun u => if u = t then some true else some false) = some true := by
  subst hs hi; simp
theorem law_ofb {s i : Option Bool} {r : Bool} (hs : s = some r) (hi : i = some r) : (s.bind fun t => i.bind fun u => if (u != t) = true then some false else some true) = some true := by
  subst hs hi; simp
theorem wf_i64 {a : Int} (h : (Lit.int .i64 a).wf = true) : -9223372036854775808 ≤ a ∧ a ≤ 9223372036854775807 := by
  have h' : (decide ((-9223372036854775808 : Int) ≤ a) && decide (a ≤ 9223372036854775807)) = true := h
  simp at h'; omega
theorem w64 {n : Int} (h1 : -9223372036854775808 ≤ n) (h2 : n ≤ 9223372036854775807) : wrap64 n = n := by unfold wrap64; omega
theorem mul_bd {a b A B : Int} (h0 : 0 ≤ a) (h1 : a ≤ A) (h2 : 0 ≤ b) (h3 : b ≤ B) : 0 ≤ a * b ∧ a * b ≤ A * B := by
  refine ⟨Int.mul_nonneg h0 h2, ?_⟩
  exact Int.le_trans (Int.mul_le_mul_of_nonneg_right h1 h2) (Int.mul_le_mul_of_nonneg_left h3 (by omega))
theorem tdiv_nn {a b : Int} (h : 0 ≤ a) : a.tdiv b = a / b := Int.tdiv_eq_ediv_of_nonneg h
theorem div_bd {a A c : Int} (h0 : 0 ≤ a) (h1 : a ≤ A) (hc : 0 < c) : 0 ≤ a / c ∧ a / c ≤ A / c :=
  ⟨Int.ediv_nonneg h0 (by omega), Int.ediv_le_ediv hc h1⟩
def lenOf (x : Int) : Int := if 20 ≤ x ∧ x ≤ 8000 then 170000 / x else 0
theorem div_anti {n a b : Int} (hn : 0 ≤ n) (ha : 0 < a) (hab : a ≤ b) : n / b ≤ n / a := by
  apply Int.le_ediv_of_mul_le ha
  have h1 := Int.ediv_mul_le n (show b ≠ 0 by omega)
  have h2 : n / b * a ≤ n / b * b := Int.mul_le_mul_of_nonneg_left hab (Int.ediv_nonneg hn (by omega))
  omega
theorem lenOf_bd (x : Int) : 0 ≤ lenOf x ∧ lenOf x ≤ 8500 := by
  unfold lenOf
  split
  · have h := div_anti (n := 170000) (a := 20) (b := x) (by omega) (by omega) (by omega)
    exact ⟨Int.ediv_nonneg (by omega) (by omega), by omega⟩
  · omega
theorem impl_LengthOf_eq (x : Int) : impl_LengthOf.f x = some (lenOf x) := by
  have hb := lenOf_bd x
  simp only [impl_LengthOf.f, within_eq, Option.bind_some]
  unfold lenOf at hb ⊢
  by_cases h : 20 ≤ x ∧ x ≤ 8000
  · rw [if_pos h] at hb ⊢
    rw [if_pos (decide_eq_true h), if_neg (by omega), w64 (by omega) (by omega)]
  · rw [if_neg h, if_neg (by simpa using h)]
theorem impl_RankOk_eq (a b c : Int) : impl_RankOk.f a b c = some (decide (1 ≤ a ∧ a ≤ 61 ∧ 10 ≤ b ∧ b ≤ 5000 ∧ 8 ≤ c ∧ c ≤ 24)) := by
  simp only [impl_RankOk.f, within_eq, Option.bind_some]
  repeat' split
  all_goals (simp_all <;> omega)
theorem shl_num {c : Int} {q : Int} (hc : 8 ≤ c ∧ c ≤ 24) (hq : 0 ≤ q ∧ q ≤ 7) : shl .i64 (wrap64 (2 * c)) q = 2 * c * 2 ^ q.toNat ∧ 16 ≤ 2 * c * 2 ^ q.toNat ∧ 2 * c * 2 ^ q.toNat ≤ 6144 := by
  have e1 : wrap64 (2 * c) = 2 * c := w64 (by omega) (by omega)
  rw [e1]
  have hq' : q.toNat ≤ 7 := by omega
  have : ∀ n : Nat, n ≤ 7 → shl .i64 (2 * c) (n : Int) = 2 * c * 2 ^ n ∧ 16 ≤ 2 * c * 2 ^ n ∧ 2 * c * 2 ^ n ≤ 6144 := by
    intro n hn
    have h2 : (1 : Int) ≤ 2 ^ n ∧ (2 : Int) ^ n ≤ 128 := by
      have : n = 0 ∨ n = 1 ∨ n = 2 ∨ n = 3 ∨ n = 4 ∨ n = 5 ∨ n = 6 ∨ n = 7 := by omega
      rcases this with h | h | h | h | h | h | h | h <;> subst h <;> decide
    have b := mul_bd (a := 2 * c) (b := 2 ^ n) (A := 48) (B := 128) (by omega) (by omega) (by omega) h2.2
    have b2 : 2 * c * 1 ≤ 2 * c * 2 ^ n := Int.mul_le_mul_of_nonneg_left h2.1 (by omega)
    refine ⟨?_, by omega, by omega⟩
    unfold shl
    have hm : min ((n : Int).toNat) (IntKind.bits .i64) = n := by
      have : IntKind.bits .i64 = 64 := rfl
      rw [this]; simp; omega
    rw [hm]
    have hw : IntKind.i64.wrap (2 * c * 2 ^ n) = wrap64 (2 * c * 2 ^ n) := by rw [IntKind.wrap_i64, wrap64]
    rw [hw]
    exact w64 (by omega) (by omega)
  have h := this q.toNat hq'
  rwa [Int.toNat_of_nonneg hq.1] at h
def diam (b c k : Int) : Int := b * (2 * c - k % c) / (2 * c * 2 ^ (k / c).toNat)
def diamOf (a b c k : Int) : Int := if (1 ≤ a ∧ a ≤ 61 ∧ 10 ≤ b ∧ b ≤ 5000 ∧ 8 ≤ c ∧ c ≤ 24) ∧ (0 ≤ k ∧ k ≤ a - 1) then diam b c k else 0
theorem diam_q {c k : Int} (hc : 8 ≤ c ∧ c ≤ 24) (hk : 0 ≤ k ∧ k ≤ 60) : 0 ≤ k / c ∧ k / c ≤ 7 ∧ 0 ≤ k % c ∧ k % c < c := by
  have h1 : 0 ≤ k / c := Int.ediv_nonneg hk.1 (by omega)
  have h2 : k / c * c ≤ k := Int.ediv_mul_le k (by omega)
  have h3 : k / c * 8 ≤ k / c * c := Int.mul_le_mul_of_nonneg_left hc.1 h1
  exact ⟨h1, by omega, Int.emod_nonneg k (by omega), Int.emod_lt_of_pos k (by omega)⟩
theorem diam_bd {b c k : Int} (hb : 10 ≤ b ∧ b ≤ 5000) (hc : 8 ≤ c ∧ c ≤ 24) (hk : 0 ≤ k ∧ k ≤ 60) : 0 ≤ b * (2 * c - k % c) ∧ b * (2 * c - k % c) ≤ 240000 ∧ 0 ≤ diam b c k ∧ diam b c k ≤ 240000 := by
  obtain ⟨q0, q1, r0, r1⟩ := diam_q hc hk
  have h := mul_bd (a := b) (b := 2 * c - k % c) (A := 5000) (B := 48) (by omega) hb.2 (by omega) (by omega)
  obtain ⟨_, s1, s2⟩ := shl_num hc ⟨q0, q1⟩
  refine ⟨h.1, by omega, Int.ediv_nonneg h.1 (by omega), ?_⟩
  exact Int.le_trans (Int.ediv_le_self _ h.1) (by omega)
theorem diam_num {a b c k : Int} (h : 1 ≤ a ∧ a ≤ 61 ∧ 10 ≤ b ∧ b ≤ 5000 ∧ 8 ≤ c ∧ c ≤ 24) (hk : 0 ≤ k ∧ k ≤ a - 1) :
    (if c = 0 then none else (if 0 ≤ (wrap64 (Int.tdiv k c)) then (if (shl .i64 (wrap64 (2 * c)) (wrap64 (Int.tdiv k c))) = 0 then none else (some (wrap64 (Int.tdiv (wrap64 (b * (wrap64 ((wrap64 (2 * c)) - (Int.tmod k c))))) (shl .i64 (wrap64 (2 * c)) (wrap64 (Int.tdiv k c))))))) else none)) = some (diam b c k) := by
  obtain ⟨q0, q1, r0, r1⟩ := diam_q (c := c) (k := k) (by omega) (by omega)
  obtain ⟨s0, s1, s2⟩ := shl_num (c := c) (q := k / c) (by omega) ⟨q0, q1⟩
  obtain ⟨d0, d1, d2, d3⟩ := diam_bd (b := b) (c := c) (k := k) (by omega) (by omega) (by omega)
  have e1 : wrap64 (Int.tdiv k c) = k / c := by rw [tdiv_nn hk.1]; exact w64 (by omega) (by omega)
  have e2 : Int.tmod k c = k % c := Int.tmod_eq_emod_of_nonneg hk.1
  rw [e1, s0, e2, if_neg (by omega), if_pos q0, if_neg (by omega), w64 (n := 2 * c) (by omega) (by omega), w64 (n := 2 * c - k % c) (by omega) (by omega), w64 (n := b * (2 * c - k % c)) (by omega) (by omega), tdiv_nn d0]
  exact congrArg some (w64 (n := diam b c k) (by omega) (by omega))
theorem impl_DiameterOf_eq (a b c k : Int) : impl_DiameterOf.f a b c k = some (diamOf a b c k) := by
  simp only [impl_DiameterOf.f, impl_RankOk_eq, within_eq, Option.bind_some]
  by_cases h : 1 ≤ a ∧ a ≤ 61 ∧ 10 ≤ b ∧ b ≤ 5000 ∧ 8 ≤ c ∧ c ≤ 24
  · rw [w64 (n := a - 1) (by omega) (by omega)]
    by_cases hk : 0 ≤ k ∧ k ≤ a - 1
    · have e := diam_num h hk
      simp only [h, hk, and_self, decide_true, if_true, diamOf]
      exact e
    · simp [h, hk, diamOf]
  · simp only [h, diamOf, false_and, decide_false, Bool.false_eq_true, if_false]
def slender (a b c k p : Int) : Bool := decide (0 < diamOf a b c k) && decide (0 < lenOf p) && decide (lenOf p ≥ 8 * diamOf a b c k / 10)
theorem diamOf_bd (a b c k : Int) : 0 ≤ diamOf a b c k ∧ diamOf a b c k ≤ 240000 := by
  unfold diamOf
  split
  · rename_i h
    have := diam_bd (b := b) (c := c) (k := k) (by omega) (by omega) (by omega)
    omega
  · omega
theorem slender_num {d : Int} (h : 0 ≤ d ∧ d ≤ 240000) : wrap64 (Int.tdiv (wrap64 (8 * d)) 10) = 8 * d / 10 := by
  rw [w64 (n := 8 * d) (by omega) (by omega), tdiv_nn (by omega), w64 (by omega) (by omega)]
theorem impl_IsSlender_eq (a b c k p : Int) : impl_IsSlender.f a b c k p = some (slender a b c k p) := by
  have hd := diamOf_bd a b c k
  simp only [impl_IsSlender.f, impl_DiameterOf_eq, impl_LengthOf_eq, Option.bind_some, slender]
  rw [slender_num hd]
  by_cases h1 : 0 < diamOf a b c k
  · by_cases h2 : 0 < lenOf p
    · rw [if_pos h1, if_pos h2, decide_eq_true h1, decide_eq_true h2]; simp
    · rw [if_pos h1, if_neg h2, decide_eq_false h2]; simp
  · rw [if_neg h1, decide_eq_false h1]; simp
theorem drawRank_some (l : List Int) (hl : (l.length : Int) ≤ 140737488351232) (k : Nat) (hk : 4000 < k) : ∃ a b c, spec_DrawRank.f k l = some (a, b, c) ∧ 1 ≤ a ∧ a ≤ 61 ∧ 500 ≤ b ∧ b ≤ 3499 ∧ 8 ≤ c ∧ c ≤ 24 := by
  obtain ⟨h, e0⟩ := new_some l hl k hk
  have c0 : Cur l 0 := ⟨by omega, by omega, hl⟩
  obtain ⟨x, i1, h1, e1, x0, x1, c1⟩ := below_some l 0 h 61 c0 (by omega) (by omega)
  obtain ⟨y, i2, h2, e2, y0, y1, c2⟩ := below_some l i1 h1 3000 c1 (by omega) (by omega)
  obtain ⟨z, i3, h3, e3, z0, z1, c3⟩ := below_some l i2 h2 17 c2 (by omega) (by omega)
  refine ⟨1 + x, 500 + y, 8 + z, ?_, by omega, by omega, by omega, by omega, by omega, by omega⟩
  unfold spec_DrawRank.f spec_l26Rank.f
  rw [e0]; simp only [Option.bind_some]
  rw [e1]; simp only [Option.bind_some]
  rw [e2]; simp only [Option.bind_some]
  rw [e3]; simp only [Option.bind_some]
  rw [w64 (n := 1 + x) (by omega) (by omega), w64 (n := 500 + y) (by omega) (by omega), w64 (n := 8 + z) (by omega) (by omega)]
theorem diamOf_yes {a b c k : Int} (h : 1 ≤ a ∧ a ≤ 61 ∧ 10 ≤ b ∧ b ≤ 5000 ∧ 8 ≤ c ∧ c ≤ 24) (hk : 0 ≤ k ∧ k ≤ a - 1) : diamOf a b c k = diam b c k := if_pos ⟨h, hk⟩
theorem pow_pos' (q : Nat) : (0 : Int) < 2 ^ q := Int.pow_pos (by decide)
theorem diam_pos {b c k : Int} (hb : 500 ≤ b ∧ b ≤ 5000) (hc : 8 ≤ c ∧ c ≤ 24) (hk : 0 ≤ k ∧ k ≤ 60) : 0 < diam b c k := by
  obtain ⟨q0, q1, r0, r1⟩ := diam_q hc hk
  unfold diam
  have hp := pow_pos' (k / c).toNat
  have h128 : (2 : Int) ^ (k / c).toNat ≤ 128 := by
    have : (k / c).toNat ≤ 7 := by omega
    have h1 : (2 : Nat) ^ (k / c).toNat ≤ 2 ^ 7 := Nat.pow_le_pow_right (by decide) this
    exact_mod_cast h1
  have hD : 0 < 2 * c * 2 ^ (k / c).toNat := Int.mul_pos (by omega) hp
  have hD2 : 2 * c * 2 ^ (k / c).toNat ≤ 2 * c * 128 := Int.mul_le_mul_of_nonneg_left h128 (by omega)
  have hN : 500 * (c + 1) ≤ b * (2 * c - k % c) := Int.le_trans (Int.mul_le_mul_of_nonneg_right hb.1 (by omega)) (Int.mul_le_mul_of_nonneg_left (by omega) (by omega))
  have : 1 ≤ b * (2 * c - k % c) / (2 * c * 2 ^ (k / c).toNat) := Int.le_ediv_of_mul_le hD (by omega)
  omega
theorem diam_zero {b c : Int} (hc : 8 ≤ c ∧ c ≤ 24) : diam b c 0 = b := by
  unfold diam
  have e1 : (0 : Int) / c = 0 := Int.zero_ediv c
  have e2 : (0 : Int) % c = 0 := Int.zero_emod c
  rw [e1, e2]
  simp only [Int.toNat_zero, Int.pow_zero, Int.mul_one, Int.sub_zero]
  exact Int.mul_ediv_cancel b (by omega)
theorem diam_step {b c k : Int} (hb : 0 ≤ b) (hc : 8 ≤ c ∧ c ≤ 24) (hk : 1 ≤ k ∧ k ≤ 60) : diam b c k ≤ diam b c (k - 1) := by
  obtain ⟨q0, q1, r0, r1⟩ := diam_q (c := c) (k := k) hc (by omega)
  have hdm := Int.emod_add_mul_ediv k c
  unfold diam
  have hp := pow_pos' (k / c).toNat
  by_cases h0 : k % c = 0
  · have hq1 : 1 ≤ k / c := by
      rcases Int.lt_or_le 0 (k / c) with h | h
      · omega
      · have : k / c = 0 := by omega
        rw [this, h0] at hdm
        omega
    have e1 : (k - 1) / c = k / c - 1 := by
      have : k - 1 = (c - 1) + c * (k / c - 1) := by rw [Int.mul_sub]; omega
      rw [this, Int.add_mul_ediv_left _ _ (by omega), Int.ediv_eq_zero_of_lt (by omega) (by omega)]
      omega
    have e2 : (k - 1) % c = c - 1 := by
      have : k - 1 = (c - 1) + c * (k / c - 1) := by rw [Int.mul_sub]; omega
      rw [this, Int.add_mul_emod_self_left, Int.emod_eq_of_lt (by omega) (by omega)]
    rw [e1, e2, h0]
    have e3 : (k / c).toNat = (k / c - 1).toNat + 1 := by omega
    have hp2 := pow_pos' (k / c - 1).toNat
    rw [e3, Int.pow_succ]
    have hD : 0 < 2 * c * 2 ^ (k / c - 1).toNat := Int.mul_pos (by omega) hp2
    have e4 : 2 * c * (2 ^ (k / c - 1).toNat * 2) = 2 * (2 * c * 2 ^ (k / c - 1).toNat) := by
      rw [← Int.mul_assoc, Int.mul_comm]
    have e5 : b * (2 * c - 0) = 2 * (b * c) := by rw [Int.sub_zero, Int.mul_left_comm]
    rw [e4, e5, Int.mul_ediv_mul_of_pos _ _ (by decide)]
    exact Int.ediv_le_ediv hD (Int.mul_le_mul_of_nonneg_left (by omega) hb)
  · have e1 : (k - 1) / c = k / c := by
      have : k - 1 = (k % c - 1) + c * (k / c) := by omega
      rw [this, Int.add_mul_ediv_left _ _ (by omega), Int.ediv_eq_zero_of_lt (by omega) (by omega)]
      omega
    have e2 : (k - 1) % c = k % c - 1 := by
      have : k - 1 = (k % c - 1) + c * (k / c) := by omega
      rw [this, Int.add_mul_emod_self_left, Int.emod_eq_of_lt (by omega) (by omega)]
    rw [e1, e2]
    have hD : 0 < 2 * c * 2 ^ (k / c).toNat := Int.mul_pos (by omega) hp
    exact Int.ediv_le_ediv hD (Int.mul_le_mul_of_nonneg_left (by omega) hb)
theorem diam_half {b c k : Int} (hc : 8 ≤ c ∧ c ≤ 24) (hk : 0 ≤ k ∧ k ≤ 60) : diam b c (k + c) = diam b c k / 2 := by
  obtain ⟨q0, q1, r0, r1⟩ := diam_q hc hk
  unfold diam
  have e1 : (k + c) / c = k / c + 1 := by
    have := Int.add_mul_ediv_right k 1 (show c ≠ 0 by omega)
    simpa using this
  have e2 : (k + c) % c = k % c := by simp
  rw [e1, e2]
  have e3 : (k / c + 1).toNat = (k / c).toNat + 1 := by omega
  have hp := pow_pos' (k / c).toNat
  have hD : 0 < 2 * c * 2 ^ (k / c).toNat := Int.mul_pos (by omega) hp
  rw [e3, Int.pow_succ, ← Int.mul_assoc, Int.ediv_ediv, if_neg (fun hh => by have := hh.1; omega), Int.sub_zero]
theorem ranks_tail (l : List Int) (hl : (l.length : Int) ≤ 140737488351232) (hw : ∀ x ∈ l, (Lit.int .u8 x).wf = true) {a b c k d : Int} (h : 1 ≤ a ∧ a ≤ 61 ∧ 10 ≤ b ∧ b ≤ 5000 ∧ 8 ≤ c ∧ c ≤ 24) (hk : 0 ≤ k ∧ k ≤ a - 1) (hd : d = diam b c k) (hpos : 0 < d) (n : Nat) :
    laws_FnRanks.j1 (n + 1) l k d false a b c = some true := by
  obtain ⟨t, e, t0, t1⟩ := at_some l hl hw 1 (by omega)
  have hdb := diam_bd (b := b) (c := c) (k := k) (by omega) (by omega) (by omega)
  rw [laws_FnRanks.j1, if_neg (by decide), e]
  simp only [Option.bind_some, impl_LengthOf_eq, impl_StoppedLength.f, impl_IsSlender_eq]
  rw [w64 (n := t * 20) (by omega) (by omega), w64 (n := 20 + t * 20) (by omega) (by omega), w64 (n := 20 + t * 20 + 1) (by omega) (by omega)]
  have l1 : lenOf (20 + t * 20) = 170000 / (20 + t * 20) := if_pos (by omega)
  have l2 : lenOf (20 + t * 20 + 1) = 170000 / (20 + t * 20 + 1) := if_pos (by omega)
  have h1 : lenOf (20 + t * 20) ≥ lenOf (20 + t * 20 + 1) := by rw [l1, l2]; exact div_anti (by omega) (by omega) (by omega)
  have h2 : lenOf (20 + t * 20) > 0 := by
    have := div_anti (n := 170000) (a := 20 + t * 20) (b := 5120) (by omega) (by omega) (by omega)
    rw [l1]; omega
  rw [if_pos h1, if_pos trivial, if_pos h2, hd, slender_num (by omega)]
  unfold slender
  rw [diamOf_yes h hk, decide_eq_true (show 0 < diam b c k by omega), decide_eq_true (show 0 < lenOf (20 + t * 20) from h2)]
  simp
theorem ranks_law (l : List Int) (hb : l.length ≤ 1048576) (hw : ∀ x ∈ l, (Lit.int .u8 x).wf = true) (n : Nat) (hn : 5000 < n) : laws_FnRanks.f (n + 1 + 1) l = some true := by
  unfold laws_FnRanks.f
  simp only [laws_big.f, Option.bind_some]
  rw [if_neg (by simp; omega)]
  obtain ⟨a, b, c, e, a0, a1, b0, b1, c0, c1⟩ := drawRank_some l (by omega) (n + 1 + 1) (by omega)
  rw [e]; simp only [Option.bind_some]
  obtain ⟨t, et, t0, t1⟩ := at_some l (by omega) hw 0 (by omega)
  rw [et]; simp only [Option.bind_some]
  obtain ⟨k0, k1⟩ := tmod_lt (x := t) (n := a) t0 (by omega)
  generalize Int.tmod t a = k at k0 k1 ⊢
  have h : 1 ≤ a ∧ a ≤ 61 ∧ 10 ≤ b ∧ b ≤ 5000 ∧ 8 ≤ c ∧ c ≤ 24 := by omega
  have hpos := diam_pos (b := b) (c := c) (k := k) (by omega) (by omega) (by omega)
  have hdb := diam_bd (b := b) (c := c) (k := k) (by omega) (by omega) (by omega)
  have hz : diamOf a b c 0 = b := by rw [diamOf_yes h (by omega)]; exact diam_zero (by omega)
  have tail : laws_FnRanks.j0 (n + 1 + 1) l k (diam b c k) false a b c = some true := by
    rw [laws_FnRanks.j0, if_neg (by decide), w64 (n := k + c) (by omega) (by omega)]
    by_cases hc : k + c < a
    · rw [if_pos hc, impl_DiameterOf_eq, diamOf_yes h (by omega), diam_half (by omega) (by omega), tdiv_nn (by omega), w64 (n := diam b c k / 2) (by omega) (by omega)]
      simp only [Option.bind_some, bne_self_eq_false]
      exact ranks_tail l (by omega) hw h (by omega) rfl hpos n
    · rw [if_neg hc]
      exact ranks_tail l (by omega) hw h (by omega) rfl hpos n
  rw [if_neg (by omega), impl_DiameterOf_eq, diamOf_yes h (by omega)]
  simp only [Option.bind_some, impl_DiameterOf_eq, hz, bne_self_eq_false]
  rw [if_neg (by omega)]
  by_cases hk0 : k > 0
  · rw [if_pos hk0, w64 (n := k - 1) (by omega) (by omega), diamOf_yes h (by omega), if_neg (by have := diam_step (b := b) (c := c) (k := k) (by omega) (by omega) (by omega); omega)]
    exact tail
  · rw [if_neg hk0]
    exact tail
theorem FnRanks : laws_FnRanks.Pure := by
  intro l _ hb hw
  obtain ⟨k, hk⟩ : ∃ k : Nat, 5000 < k := ⟨5001, by omega⟩
  refine ⟨k + 1 + 1, ?_⟩
  by_cases hl : (l.length : Int) > 1048576
  · unfold laws_FnRanks.f
    simp only [laws_big.f, Option.bind_some]
    rw [if_pos (decide_eq_true hl)]
  · exact ranks_law l (by omega) hw k hk
end Go.Proofs.Ytbimhcdfojbjgab.Pure
