/- The plain law of FnDrifts: the printed function of the law answers true. Its conditions are those of the statement's own bounds. -/
import Derived.Test.YtdlnhcljdkgmiaaHFnDriftsx10
namespace Go.Proofs.Ytdlnhcljdkgmiaa.Pure
open Go.RowKit Go.Proofs.Ytdlnhcljdkgmiaa.PFnDrifts Go.Proofs.YtdlnhcljdkgmiaaW.PrintWords Go.Proofs.YtdlnhcljdkgmiaaW.PrintLast Go.Proofs.YtdlnhcljdkgmiaaW.PrintMore
set_option linter.unusedVariables false
theorem and255 (n : Int) : Go.bits .and .i64 n 255 = n % 256 := by
  have h255 : (BitVec.ofInt 64 255).toNat = 2 ^ 8 - 1 := by decide
  have key : (BitVec.ofInt 64 n &&& BitVec.ofInt 64 255).toNat = (n % ((2 ^ 64 : Nat) : Int)).toNat % 2 ^ 8 := by
    rw [BitVec.toNat_and, BitVec.toNat_ofInt, h255, Nat.and_two_pow_sub_one_eq_mod]
  show IntKind.i64.wrap ((BitVec.ofInt 64 n &&& BitVec.ofInt 64 255).toNat : Nat) = n % 256
  rw [key, IntKind.wrap_i64]
  omega
theorem dw64 {n : Int} (h1 : -9223372036854775808 ≤ n) (h2 : n ≤ 9223372036854775807) : wrap64 n = n := by unfold wrap64; omega
theorem lenb {b : List Int} (hb : b.length * 1 ≤ 140737488351232) : (b.length : Int) ≤ 140737488351232 := by omega
theorem new_loop (l : List Int) (hl : (l.length : Int) ≤ 140737488351232) : ∀ (d k : Nat) (h i : Int), 0 ≤ i → i ≤ 4000 → 4000 - i ≤ d → d < k → ∃ h', spec_l01New.l0 k l h i = some (l, 0, h') := by
  intro d
  induction d with
  | zero =>
    intro k h i h0 h1 hd hk
    obtain ⟨k, rfl⟩ : ∃ m, k = m + 1 := ⟨k - 1, by omega⟩
    refine ⟨h, ?_⟩
    simp only [spec_l01New.l0]
    by_cases hlt : i < (l.length : Int)
    · rw [if_pos hlt, if_neg (by omega)]
    · rw [if_neg hlt]
  | succ d ih =>
    intro k h i h0 h1 hd hk
    obtain ⟨k, rfl⟩ : ∃ m, k = m + 1 := ⟨k - 1, by omega⟩
    by_cases hlt : i < (l.length : Int)
    · by_cases h4 : i < 4000
      · obtain ⟨h', e⟩ := ih k (Go.bits .and .i64 (wrap64 ((wrap64 ((wrap64 (h * 131)) + (wrap64 (rd l i)))) + 7)) 1073741823) (i + 1) (by omega) (by omega) (by omega) (by omega)
        refine ⟨h', ?_⟩
        simp only [spec_l01New.l0]
        rw [if_pos hlt, if_pos h4, if_pos h0, dw64 (n := i + 1) (by omega) (by omega)]
        exact e
      · refine ⟨h, ?_⟩
        simp only [spec_l01New.l0]
        rw [if_pos hlt, if_neg h4]
    · refine ⟨h, ?_⟩
      simp only [spec_l01New.l0]
      rw [if_neg hlt]
theorem new_some (l : List Int) (hl : (l.length : Int) ≤ 140737488351232) (k : Nat) (hk : 4000 < k) : ∃ h, spec_l01New.f k l = some (l, 0, h) := by
  unfold spec_l01New.f
  exact new_loop l hl 4000 k _ 0 (by omega) (by omega) (by omega) hk
/-- the cursor's place is good -/
abbrev Cur (b : List Int) (i : Int) : Prop := 0 ≤ i ∧ i ≤ (b.length : Int) ∧ (b.length : Int) ≤ 140737488351232
theorem byte_some (b : List Int) (i h : Int) (hc : Cur b i) : ∃ x i' h', spec_l01Byte.f b i h = some (x, i', h') ∧ 0 ≤ x ∧ x ≤ 255 ∧ Cur b i' := by
  obtain ⟨h0, h1, h2⟩ := hc
  unfold spec_l01Byte.f
  by_cases hlt : i < (b.length : Int)
  · rw [if_pos hlt, if_pos h0]
    refine ⟨_, _, _, rfl, ?_, ?_, ?_⟩
    · rw [and255]; omega
    · rw [and255]; omega
    · rw [dw64 (n := i + 1) (by omega) (by omega)]; exact ⟨by omega, by omega, h2⟩
  · rw [if_neg hlt]
    refine ⟨_, _, _, rfl, ?_, ?_, ?_⟩
    · rw [and255]; omega
    · rw [and255]; omega
    · exact ⟨h0, h1, h2⟩
theorem tmod_lt {x n : Int} (hx : 0 ≤ x) (hn : 0 < n) : 0 ≤ x.tmod n ∧ x.tmod n < n := by
  rw [Int.tmod_eq_emod_of_nonneg hx]
  exact ⟨Int.emod_nonneg _ (by omega), Int.emod_lt_of_pos _ hn⟩
theorem below_some (b : List Int) (i h n : Int) (hc : Cur b i) (hn : 0 < n) (hn2 : n ≤ 2147483648) :
    ∃ x i' h', spec_l01Below.f b i h n = some (x, i', h') ∧ 0 ≤ x ∧ x < n ∧ Cur b i' := by
  unfold spec_l01Below.f
  rw [if_neg (by omega)]
  by_cases h256 : n ≤ 256
  · rw [if_pos h256]
    obtain ⟨x, i1, h1, e, hx0, hx1, hc1⟩ := byte_some b i h hc
    rw [e]; simp only [Option.bind_some]; rw [if_neg (by omega)]
    obtain ⟨a, c⟩ := tmod_lt (x := x) (n := n) hx0 hn
    exact ⟨_, _, _, rfl, a, c, hc1⟩
  · rw [if_neg h256]
    obtain ⟨x, i1, h1, e1, x0, x1, hc1⟩ := byte_some b i h hc
    rw [e1]; simp only [Option.bind_some]
    obtain ⟨y, i2, h2, e2, y0, y1, hc2⟩ := byte_some b i1 h1 hc1
    rw [e2]; simp only [Option.bind_some]
    obtain ⟨z, i3, h3, e3, z0, z1, hc3⟩ := byte_some b i2 h2 hc2
    rw [e3]; simp only [Option.bind_some]
    obtain ⟨w, i4, h4, e4, w0, w1, hc4⟩ := byte_some b i3 h3 hc3
    rw [e4]; simp only [Option.bind_some]; rw [if_neg (by omega)]
    rw [dw64 (n := x * 16777216) (by omega) (by omega), dw64 (n := y * 65536) (by omega) (by omega), dw64 (n := z * 256) (by omega) (by omega), dw64 (n := x * 16777216 + y * 65536) (by omega) (by omega),
      dw64 (n := x * 16777216 + y * 65536 + z * 256) (by omega) (by omega), dw64 (n := x * 16777216 + y * 65536 + z * 256 + w) (by omega) (by omega)]
    obtain ⟨a, c⟩ := tmod_lt (x := x * 16777216 + y * 65536 + z * 256 + w) (n := n) (by omega) hn
    exact ⟨_, _, _, rfl, a, c, hc4⟩
theorem once_some (b : List Int) (i h n : Int) (hc : Cur b i) (hn : 0 < n) (hn2 : n ≤ 2147483648) :
    ∃ x i' h', spec_l01Once.f b i h n = some (x, i', h') ∧ Cur b i' := by
  unfold spec_l01Once.f
  obtain ⟨x, i1, h1, e, _, _, hc1⟩ := below_some b i h n hc hn hn2
  rw [e]
  exact ⟨_, _, _, rfl, hc1⟩
theorem l01In_eq (a b c : Int) : spec_l01In.f a b c = some (decide (b ≤ a ∧ a ≤ c)) := by
  unfold spec_l01In.f
  by_cases h : a ≥ b
  · rw [if_pos h]; congr 1; by_cases h2 : a ≤ c <;> simp [h2, h]
  · rw [if_neg h]; congr 1; simp; omega
theorem within_eq (a b c : Int) : impl_within.f a b c = some (decide (b ≤ a ∧ a ≤ c)) := by
  unfold impl_within.f
  by_cases h : b ≤ a
  · rw [if_pos h]; congr 1; by_cases h2 : a ≤ c <;> simp [h2, h]
  · rw [if_neg h]; congr 1; simp; omega
theorem law_of {α : Type} [DecidableEq α] {s i : Option α} {r : α} (hs : s = some r) (hi : i = some r) : (s.bind fun t => i.bind fun u => if u = t then some true else some false) = some true := by
  subst hs hi; simp
theorem law_ofb {s i : Option Bool} {r : Bool} (hs : s = some r) (hi : i = some r) : (s.bind fun t => i.bind fun u => if (u != t) = true then some false else some true) = some true := by
  subst hs hi; simp
theorem wf_i64 {a : Int} (h : (Lit.int .i64 a).wf = true) : -9223372036854775808 ≤ a ∧ a ≤ 9223372036854775807 := by
  have h' : (decide ((-9223372036854775808 : Int) ≤ a) && decide (a ≤ 9223372036854775807)) = true := h
  simp at h'; omega
theorem w64 {n : Int} (h1 : -9223372036854775808 ≤ n) (h2 : n ≤ 9223372036854775807) : wrap64 n = n := by unfold wrap64; omega
theorem mul_bd {a b A B : Int} (h0 : 0 ≤ a) (h1 : a ≤ A) (h2 : 0 ≤ b) (h3 : b ≤ B) : 0 ≤ a * b ∧ a * b ≤ A * B := by
  refine ⟨Int.mul_nonneg h0 h2, ?_⟩
  exact Int.le_trans (Int.mul_le_mul_of_nonneg_right h1 h2) (Int.mul_le_mul_of_nonneg_left h3 (by omega))
theorem tdiv_nn {a b : Int} (h : 0 ≤ a) : a.tdiv b = a / b := Int.tdiv_eq_ediv_of_nonneg h
theorem div_bd {a A c : Int} (h0 : 0 ≤ a) (h1 : a ≤ A) (hc : 0 < c) : 0 ≤ a / c ∧ a / c ≤ A / c :=
  ⟨Int.ediv_nonneg h0 (by omega), Int.ediv_le_ediv hc h1⟩
theorem wrap_next {n : Nat} (h : n ≤ 140737488355328) : wrap64 ((n : Int) + 1) = ((n + 1 : Nat) : Int) := by unfold wrap64; omega
theorem drop_getD {α : Type} (x : List α) (z : α) (n : Nat) (h : n < x.length) : x.drop n = x.getD n z :: x.drop (n + 1) := by
  rw [List.getD_eq_getElem?_getD, List.getElem?_eq_getElem h]
  exact List.drop_eq_getElem_cons h
theorem rd_nat (x : List Int) (n : Nat) : rd x (n : Int) = x.getD n 0 := by unfold rd; rw [Int.toNat_natCast]
theorem take_set_next {α : Type} (x : List α) (n : Nat) (v : α) (h : n < x.length) : (x.set n v).take (n + 1) = x.take n ++ [v] := by
  rw [List.take_succ_eq_append_getElem (by simpa using h)]
  congr 1
  · rw [List.take_set_of_le (Nat.le_refl _)]
  · simp
theorem gcd_step (a b : Int) : Nat.gcd b.natAbs (a.tmod b).natAbs = Nat.gcd a.natAbs b.natAbs := by
  rw [Int.natAbs_tmod, Nat.gcd_comm a.natAbs b.natAbs]
  rw [Nat.gcd_rec b.natAbs a.natAbs, Nat.gcd_comm]
theorem divisor_loop : ∀ (n : Nat) (k : Nat) (a b : Int), b.natAbs ≤ n → n < k → a.natAbs ≤ 1000000 → b.natAbs ≤ 1000000 → impl_divisor.l0 k a b = some ((Nat.gcd a.natAbs b.natAbs : Nat) : Int) := by
  intro n
  induction n with
  | zero =>
    intro k a b hb hk ha _
    obtain ⟨k, rfl⟩ : ∃ m, k = m + 1 := ⟨k - 1, by omega⟩
    obtain rfl : b = 0 := by omega
    simp only [impl_divisor.l0, if_true, Int.natAbs_zero, Nat.gcd_zero_right]
    split
    · rw [w64 (by omega) (by omega)]; congr 1; omega
    · congr 1; omega
  | succ n ih =>
    intro k a b hb hk ha hb2
    obtain ⟨k, rfl⟩ : ∃ m, k = m + 1 := ⟨k - 1, by omega⟩
    by_cases h0 : b = 0
    · subst h0
      simp only [impl_divisor.l0, if_true, Int.natAbs_zero, Nat.gcd_zero_right]
      split
      · rw [w64 (by omega) (by omega)]; congr 1; omega
      · congr 1; omega
    · have hlt : (a.tmod b).natAbs < b.natAbs := by rw [Int.natAbs_tmod]; exact Nat.mod_lt _ (by omega)
      simp only [impl_divisor.l0]
      rw [if_neg h0, ih k b (a.tmod b) (by omega) (by omega) hb2 (by omega), gcd_step]
theorem impl_divisor_eq (a b : Int) (ha : a.natAbs ≤ 1000000) (hb : b.natAbs ≤ 1000000) (k : Nat) (hk : 1000000 < k) : impl_divisor.f k a b = some ((Nat.gcd a.natAbs b.natAbs : Nat) : Int) := by
  unfold impl_divisor.f
  exact divisor_loop b.natAbs k a b (Nat.le_refl _) (by omega) ha hb
theorem gcd_loop : ∀ (n : Nat) (k : Nat) (a b : Int), 0 ≤ a → 0 ≤ b → b.natAbs ≤ n → n < k → spec_l03Gcd.l0 k a b = some ((Nat.gcd a.natAbs b.natAbs : Nat) : Int) := by
  intro n
  induction n with
  | zero =>
    intro k a b ha hb0 hb hk
    obtain ⟨k, rfl⟩ : ∃ m, k = m + 1 := ⟨k - 1, by omega⟩
    obtain rfl : b = 0 := by omega
    simp only [spec_l03Gcd.l0, Int.natAbs_zero, Nat.gcd_zero_right]
    rw [if_neg (by omega)]; congr 1; omega
  | succ n ih =>
    intro k a b ha hb0 hb hk
    obtain ⟨k, rfl⟩ : ∃ m, k = m + 1 := ⟨k - 1, by omega⟩
    by_cases h0 : b = 0
    · subst h0
      simp only [spec_l03Gcd.l0, Int.natAbs_zero, Nat.gcd_zero_right]
      rw [if_neg (by omega)]; congr 1; omega
    · have hlt : (a.tmod b).natAbs < b.natAbs := by rw [Int.natAbs_tmod]; exact Nat.mod_lt _ (by omega)
      have hnn : 0 ≤ a.tmod b := Int.tmod_nonneg b ha
      simp only [spec_l03Gcd.l0]
      rw [if_pos (by omega), if_neg h0, ih k b (a.tmod b) hb0 hnn (by omega) (by omega), gcd_step]
theorem mx_abs {a : Int} (ha : a.natAbs ≤ 1000000) : mx a (wrap64 (-a)) = (a.natAbs : Int) := by
  rw [w64 (by omega) (by omega)]; unfold mx; split <;> omega
theorem spec_gcd_eq (a b : Int) (ha : a.natAbs ≤ 1000000) (hb : b.natAbs ≤ 1000000) (k : Nat) (hk : 1000000 < k) : spec_l03Gcd.f k a b = some ((Nat.gcd a.natAbs b.natAbs : Nat) : Int) := by
  unfold spec_l03Gcd.f
  rw [mx_abs ha, mx_abs hb]
  have h := gcd_loop b.natAbs k (a.natAbs : Int) (b.natAbs : Int) (by omega) (by omega) (by omega) (by omega)
  simpa using h
def gcd4 (a b c r : Int) : Nat := Nat.gcd (Nat.gcd a.natAbs b.natAbs) (Nat.gcd c.natAbs r.natAbs)
theorem gcd4_pos {a b c r : Int} (h : 1 ≤ r) : 1 ≤ gcd4 a b c r := by
  unfold gcd4
  have h1 : 0 < Nat.gcd c.natAbs r.natAbs := Nat.gcd_pos_of_pos_right _ (by omega)
  exact Nat.gcd_pos_of_pos_right _ h1
theorem gcd4_one (a b c : Int) : gcd4 a b c 1 = 1 := by simp [gcd4]
abbrev bd (a : Int) : Prop := -1000000 ≤ a ∧ a ≤ 1000000
theorem gcd_bd {a b : Nat} (ha : a ≤ 1000000) (hb : b ≤ 1000000) : Nat.gcd a b ≤ 1000000 := by
  rcases Nat.eq_zero_or_pos a with h | h
  · subst h; simpa using hb
  · exact Nat.le_trans (Nat.gcd_le_left b h) ha
theorem tdiv_bd {a : Int} (ha : bd a) {g : Nat} (hg : 1 ≤ g) : bd (a.tdiv (g : Int)) := by
  have h1 := Int.natAbs_tdiv_le_natAbs a (g : Int)
  omega
def simpV (a b c r : Int) : Int × Int × Int × Int := (a.tdiv (gcd4 a b c r : Int), b.tdiv (gcd4 a b c r : Int), c.tdiv (gcd4 a b c r : Int), r.tdiv (gcd4 a b c r : Int))
theorem impl_simplest_eq {a b c r : Int} (ha : bd a) (hb : bd b) (hc : bd c) (hr : 1 ≤ r ∧ r ≤ 1000000) (k : Nat) (hk : 1000000 < k) : impl_simplest.f k a b c r = some (simpV a b c r) := by
  unfold impl_simplest.f
  rw [impl_divisor_eq a b (by omega) (by omega) k hk, impl_divisor_eq c r (by omega) (by omega) k hk]
  simp only [Option.bind_some]
  have g1 := gcd_bd (a := a.natAbs) (b := b.natAbs) (by omega) (by omega)
  have g2 := gcd_bd (a := c.natAbs) (b := r.natAbs) (by omega) (by omega)
  rw [impl_divisor_eq _ _ (by simpa using g1) (by simpa using g2) k hk]
  simp only [Option.bind_some, Int.natAbs_natCast]
  have hg := gcd4_pos (a := a) (b := b) (c := c) (r := r) hr.1
  have e : Nat.gcd (Nat.gcd a.natAbs b.natAbs) (Nat.gcd c.natAbs r.natAbs) = gcd4 a b c r := rfl
  rw [e, if_neg (by omega)]
  have b1 := tdiv_bd ha hg
  have b2 := tdiv_bd hb hg
  have b3 := tdiv_bd hc hg
  have b4 := tdiv_bd (show bd r by omega) hg
  rw [w64 (n := a.tdiv _) (by omega) (by omega), w64 (n := b.tdiv _) (by omega) (by omega), w64 (n := c.tdiv _) (by omega) (by omega), w64 (n := r.tdiv _) (by omega) (by omega)]
  rfl
theorem spec_simple_eq {a b c r : Int} (ha : bd a) (hb : bd b) (hc : bd c) (hr : 1 ≤ r ∧ r ≤ 1000000) (k : Nat) (hk : 1000000 < k) : spec_l03Simple.f k a b c r = some (simpV a b c r) := by
  unfold spec_l03Simple.f
  rw [spec_gcd_eq a b (by omega) (by omega) k hk, spec_gcd_eq c r (by omega) (by omega) k hk]
  simp only [Option.bind_some]
  have g1 := gcd_bd (a := a.natAbs) (b := b.natAbs) (by omega) (by omega)
  have g2 := gcd_bd (a := c.natAbs) (b := r.natAbs) (by omega) (by omega)
  rw [spec_gcd_eq _ _ (by simpa using g1) (by simpa using g2) k hk]
  simp only [Option.bind_some, Int.natAbs_natCast]
  have hg := gcd4_pos (a := a) (b := b) (c := c) (r := r) hr.1
  have e : Nat.gcd (Nat.gcd a.natAbs b.natAbs) (Nat.gcd c.natAbs r.natAbs) = gcd4 a b c r := rfl
  rw [e, if_neg (by omega)]
  have b1 := tdiv_bd ha hg
  have b2 := tdiv_bd hb hg
  have b3 := tdiv_bd hc hg
  have b4 := tdiv_bd (show bd r by omega) hg
  rw [w64 (n := a.tdiv _) (by omega) (by omega), w64 (n := b.tdiv _) (by omega) (by omega), w64 (n := c.tdiv _) (by omega) (by omega), w64 (n := r.tdiv _) (by omega) (by omega)]
  rfl
abbrev iOk (a b c r : Int) : Prop := (1 ≤ r ∧ r ≤ 12) ∧ (-400 ≤ a ∧ a ≤ 400) ∧ (-400 ≤ b ∧ b ≤ 400) ∧ (-400 ≤ c ∧ c ≤ 400)
theorem spec_IntervalOk_eq (a b c r : Int) : spec_IntervalOk.f a b c r = some (decide (iOk a b c r)) := by
  simp only [spec_IntervalOk.f, l01In_eq, Option.bind_some]
  by_cases h1 : 1 ≤ r ∧ r ≤ 12
  · rw [if_pos (decide_eq_true h1)]
    by_cases h2 : -400 ≤ a ∧ a ≤ 400
    · rw [if_pos (decide_eq_true h2)]
      by_cases h3 : -400 ≤ b ∧ b ≤ 400
      · rw [if_pos (decide_eq_true h3)]; congr 1; rw [decide_eq_decide]; omega
      · rw [if_neg (by simpa using h3)]; congr 1; symm; rw [decide_eq_false_iff_not]; omega
    · rw [if_neg (by simpa using h2)]; congr 1; symm; rw [decide_eq_false_iff_not]; omega
  · rw [if_neg (by simpa using h1)]; congr 1; symm; rw [decide_eq_false_iff_not]; omega
theorem impl_IntervalOk_eq (a b c r : Int) : impl_IntervalOk.f a b c r = some (decide (iOk a b c r)) := by
  simp only [impl_IntervalOk.f, within_eq, Option.bind_some]
  by_cases h1 : 1 ≤ r ∧ r ≤ 12
  · rw [if_pos (decide_eq_true h1)]
    by_cases h2 : -400 ≤ a ∧ a ≤ 400
    · rw [if_pos (decide_eq_true h2)]
      by_cases h3 : -400 ≤ b ∧ b ≤ 400
      · rw [if_pos (decide_eq_true h3)]; congr 1; rw [decide_eq_decide]; omega
      · rw [if_neg (by simpa using h3)]; congr 1; symm; rw [decide_eq_false_iff_not]; omega
    · rw [if_neg (by simpa using h2)]; congr 1; symm; rw [decide_eq_false_iff_not]; omega
  · rw [if_neg (by simpa using h1)]; congr 1; symm; rw [decide_eq_false_iff_not]; omega
/-- made simplest, if it is valid then -/
def checkV (a b c r : Int) : Int × Int × Int × Int × Bool :=
  if iOk (simpV a b c r).1 (simpV a b c r).2.1 (simpV a b c r).2.2.1 (simpV a b c r).2.2.2 then ((simpV a b c r).1, (simpV a b c r).2.1, (simpV a b c r).2.2.1, (simpV a b c r).2.2.2, true) else (0, 0, 0, 0, false)
theorem impl_okInterval_eq {a b c r : Int} (ha : bd a) (hb : bd b) (hc : bd c) (hr : 1 ≤ r ∧ r ≤ 1000000) (k : Nat) (hk : 1000000 < k) : impl_okInterval.f k a b c r = some (checkV a b c r) := by
  unfold impl_okInterval.f checkV
  rw [impl_simplest_eq ha hb hc hr k hk]
  simp only [Option.bind_some, impl_IntervalOk_eq]
  by_cases h : iOk (simpV a b c r).1 (simpV a b c r).2.1 (simpV a b c r).2.2.1 (simpV a b c r).2.2.2
  · rw [if_pos (decide_eq_true h), if_pos h]
  · rw [if_neg (by simpa using h), if_neg h]
theorem spec_checked_eq {a b c r : Int} (ha : bd a) (hb : bd b) (hc : bd c) (hr : 1 ≤ r ∧ r ≤ 1000000) (k : Nat) (hk : 1000000 < k) : spec_l03Checked.f k a b c r = some (checkV a b c r) := by
  unfold spec_l03Checked.f checkV
  rw [spec_simple_eq ha hb hc hr k hk]
  simp only [Option.bind_some, spec_IntervalOk_eq]
  by_cases h : iOk (simpV a b c r).1 (simpV a b c r).2.1 (simpV a b c r).2.2.1 (simpV a b c r).2.2.2
  · rw [if_pos (decide_eq_true h), if_pos h]
  · rw [if_neg (by simpa using h), if_neg h]
def addV (a0 a1 a2 a3 b0 b1 b2 b3 : Int) : Int × Int × Int × Int × Bool :=
  if iOk a0 a1 a2 a3 ∧ iOk b0 b1 b2 b3 then checkV (a0 * b3 + b0 * a3) (a1 * b3 + b1 * a3) (a2 * b3 + b2 * a3) (a3 * b3) else (0, 0, 0, 0, false)
theorem mul_small {a b : Int} (ha : -400 ≤ a ∧ a ≤ 400) (hb : 1 ≤ b ∧ b ≤ 12) : -4800 ≤ a * b ∧ a * b ≤ 4800 := by
  have : b = 1 ∨ b = 2 ∨ b = 3 ∨ b = 4 ∨ b = 5 ∨ b = 6 ∨ b = 7 ∨ b = 8 ∨ b = 9 ∨ b = 10 ∨ b = 11 ∨ b = 12 := by omega
  rcases this with h | h | h | h | h | h | h | h | h | h | h | h <;> subst h <;> omega
theorem add_num {a0 a1 a2 a3 b0 b1 b2 b3 : Int} (h : iOk a0 a1 a2 a3 ∧ iOk b0 b1 b2 b3) :
    wrap64 ((wrap64 (a0 * b3)) + (wrap64 (b0 * a3))) = a0 * b3 + b0 * a3 ∧ wrap64 ((wrap64 (a1 * b3)) + (wrap64 (b1 * a3))) = a1 * b3 + b1 * a3 ∧ wrap64 ((wrap64 (a2 * b3)) + (wrap64 (b2 * a3))) = a2 * b3 + b2 * a3 ∧ wrap64 (a3 * b3) = a3 * b3 ∧
    bd (a0 * b3 + b0 * a3) ∧ bd (a1 * b3 + b1 * a3) ∧ bd (a2 * b3 + b2 * a3) ∧ (1 ≤ a3 * b3 ∧ a3 * b3 ≤ 1000000) := by
  obtain ⟨ha, hb⟩ := h
  have p0 := mul_small ha.2.1 hb.1
  have p1 := mul_small ha.2.2.1 hb.1
  have p2 := mul_small ha.2.2.2 hb.1
  have q0 := mul_small hb.2.1 ha.1
  have q1 := mul_small hb.2.2.1 ha.1
  have q2 := mul_small hb.2.2.2 ha.1
  have p3 := mul_small (show -400 ≤ a3 ∧ a3 ≤ 400 by omega) hb.1
  have p4 : 0 < a3 * b3 := Int.mul_pos (by omega) (by omega)
  rw [w64 (n := a0 * b3) (by omega) (by omega), w64 (n := b0 * a3) (by omega) (by omega), w64 (n := a1 * b3) (by omega) (by omega), w64 (n := b1 * a3) (by omega) (by omega), w64 (n := a2 * b3) (by omega) (by omega), w64 (n := b2 * a3) (by omega) (by omega)]
  refine ⟨w64 (by omega) (by omega), w64 (by omega) (by omega), w64 (by omega) (by omega), w64 (by omega) (by omega), by omega, by omega, by omega, by omega⟩
theorem impl_AddIntervals_eq (a0 a1 a2 a3 b0 b1 b2 b3 : Int) (k : Nat) (hk : 1000000 < k) : impl_AddIntervals.f k a0 a1 a2 a3 b0 b1 b2 b3 = some (addV a0 a1 a2 a3 b0 b1 b2 b3) := by
  unfold impl_AddIntervals.f addV
  simp only [impl_IntervalOk_eq, Option.bind_some]
  by_cases h1 : iOk a0 a1 a2 a3
  · rw [if_pos (decide_eq_true h1)]
    by_cases h2 : iOk b0 b1 b2 b3
    · obtain ⟨e0, e1, e2, e3, n0, n1, n2, n3⟩ := add_num ⟨h1, h2⟩
      rw [if_pos (decide_eq_true h2), if_pos ⟨h1, h2⟩, e0, e1, e2, e3, impl_okInterval_eq n0 n1 n2 n3 k hk]
      rfl
    · rw [if_neg (by simpa using h2), if_neg (fun hh => h2 hh.2)]
  · rw [if_neg (by simpa using h1), if_neg (fun hh => h1 hh.1)]
theorem spec_AddIntervals_eq (a0 a1 a2 a3 b0 b1 b2 b3 : Int) (k : Nat) (hk : 1000000 < k) : spec_AddIntervals.f k a0 a1 a2 a3 b0 b1 b2 b3 = some (addV a0 a1 a2 a3 b0 b1 b2 b3) := by
  unfold spec_AddIntervals.f addV
  simp only [spec_IntervalOk_eq, Option.bind_some]
  by_cases h1 : iOk a0 a1 a2 a3
  · rw [if_pos (decide_eq_true h1)]
    by_cases h2 : iOk b0 b1 b2 b3
    · obtain ⟨e0, e1, e2, e3, n0, n1, n2, n3⟩ := add_num ⟨h1, h2⟩
      rw [if_pos (decide_eq_true h2), if_pos ⟨h1, h2⟩, e0, e1, e2, e3, spec_checked_eq n0 n1 n2 n3 k hk]
      rfl
    · rw [if_neg (by simpa using h2), if_neg (fun hh => h2 hh.2)]
  · rw [if_neg (by simpa using h1), if_neg (fun hh => h1 hh.1)]
theorem impl_PureOf_eq (a b c : Int) : impl_PureOf.f a b c = some (if iOk a b c 1 then (a, b, c, 1) else (0, 0, 0, 0)) := by
  unfold impl_PureOf.f
  simp only [impl_IntervalOk_eq, Option.bind_some]
  by_cases h : iOk a b c 1
  · rw [if_pos (decide_eq_true h), if_pos h]
  · rw [if_neg (by simpa using h), if_neg h]
theorem rdV_nat (x : List S27) (n : Nat) : rd_T27 x (n : Int) = x.getD n z27 := by unfold rd_T27; rw [Int.toNat_natCast]
def sumV : List S27 → Int → Int → Int → Int → Int × Int × Int × Int × Bool
  | [], a, b, c, r => (a, b, c, r, true)
  | x :: xs, a, b, c, r => if (addV a b c r x.f0 x.f1 x.f2 x.f3).2.2.2.2 = true then sumV xs (addV a b c r x.f0 x.f1 x.f2 x.f3).1 (addV a b c r x.f0 x.f1 x.f2 x.f3).2.1 (addV a b c r x.f0 x.f1 x.f2 x.f3).2.2.1 (addV a b c r x.f0 x.f1 x.f2 x.f3).2.2.2.1 else (0, 0, 0, 0, false)
theorem impl_sum_loop (x : List S27) (hx : x.length ≤ 40) : ∀ (d n k : Nat) (a b c r : Int), n ≤ x.length → x.length - n = d → d + 1000001 < k → impl_SumOf.l0 k x (x.length : Int) (n : Int) a b c r = some (sumV (x.drop n) a b c r) := by
  intro d
  induction d with
  | zero =>
    intro n k a b c r h1 h2 hk
    obtain ⟨k, rfl⟩ : ∃ m, k = m + 1 := ⟨k - 1, by omega⟩
    simp only [impl_SumOf.l0]
    rw [if_neg (by omega), List.drop_of_length_le (by omega)]
    rfl
  | succ d ih =>
    intro n k a b c r h1 h2 hk
    obtain ⟨k, rfl⟩ : ∃ m, k = m + 1 := ⟨k - 1, by omega⟩
    simp only [impl_SumOf.l0]
    rw [if_pos (by omega), if_pos (by omega), if_pos (by omega), rdV_nat, wrap_next (by omega), drop_getD x z27 n (by omega), impl_AddIntervals_eq _ _ _ _ _ _ _ _ k (by omega)]
    simp only [Option.bind_some, sumV]
    split
    · exact ih (n + 1) k _ _ _ _ (by omega) (by omega) (by omega)
    · rfl
def sumOfV (x : List S27) : Int × Int × Int × Int × Bool := if x.length ≤ 40 then sumV x 0 0 0 1 else (0, 0, 0, 0, false)
theorem impl_SumOf_eq (x : List S27) (k : Nat) (hk : 1000100 < k) : impl_SumOf.f k x = some (sumOfV x) := by
  unfold impl_SumOf.f sumOfV
  rw [impl_PureOf_eq, if_pos (by omega)]
  simp only [Option.bind_some]
  by_cases h : x.length ≤ 40
  · rw [if_neg (by omega), if_pos h]
    have e := impl_sum_loop x h x.length 0 k 0 0 0 1 (by omega) (by omega) (by omega)
    simpa using e
  · rw [if_pos (by omega), if_neg h]
theorem spec_sum_loop (x : List S27) (hx : x.length ≤ 40) : ∀ (d n k : Nat) (a b c r : Int), n ≤ x.length → x.length - n = d → d + 1000001 < k → spec_SumOf.l0 k x (n : Int) a b c r = some (sumV (x.drop n) a b c r) := by
  intro d
  induction d with
  | zero =>
    intro n k a b c r h1 h2 hk
    obtain ⟨k, rfl⟩ : ∃ m, k = m + 1 := ⟨k - 1, by omega⟩
    simp only [spec_SumOf.l0]
    rw [if_neg (by omega), List.drop_of_length_le (by omega)]
    rfl
  | succ d ih =>
    intro n k a b c r h1 h2 hk
    obtain ⟨k, rfl⟩ : ∃ m, k = m + 1 := ⟨k - 1, by omega⟩
    simp only [spec_SumOf.l0]
    rw [if_pos (by omega), if_pos (by omega), rdV_nat, wrap_next (by omega), drop_getD x z27 n (by omega), spec_AddIntervals_eq _ _ _ _ _ _ _ _ k (by omega)]
    simp only [Option.bind_some, sumV]
    split
    · exact ih (n + 1) k _ _ _ _ (by omega) (by omega) (by omega)
    · rfl
theorem spec_SumOf_eq (x : List S27) (k : Nat) (hk : 1000100 < k) : spec_SumOf.f k x = some (sumOfV x) := by
  unfold spec_SumOf.f sumOfV
  by_cases h : x.length ≤ 40
  · rw [if_neg (by omega), if_pos h]
    have e := spec_sum_loop x h x.length 0 k 0 0 0 1 (by omega) (by omega) (by omega)
    simpa using e
  · rw [if_pos (by omega), if_neg h]
theorem checkV_ok (a b c r : Int) (h : (checkV a b c r).2.2.2.2 = true) : iOk (checkV a b c r).1 (checkV a b c r).2.1 (checkV a b c r).2.2.1 (checkV a b c r).2.2.2.1 := by
  unfold checkV at h ⊢
  split at h
  · rename_i hh; rw [if_pos hh]; exact hh
  · simp at h
theorem addV_ok (a0 a1 a2 a3 b0 b1 b2 b3 : Int) (h : (addV a0 a1 a2 a3 b0 b1 b2 b3).2.2.2.2 = true) : iOk (addV a0 a1 a2 a3 b0 b1 b2 b3).1 (addV a0 a1 a2 a3 b0 b1 b2 b3).2.1 (addV a0 a1 a2 a3 b0 b1 b2 b3).2.2.1 (addV a0 a1 a2 a3 b0 b1 b2 b3).2.2.2.1 := by
  unfold addV at h ⊢
  split at h
  · rename_i hh; rw [if_pos hh]; exact checkV_ok _ _ _ _ h
  · simp at h
theorem sumV_ok : ∀ (x : List S27) (a b c r : Int), iOk a b c r → (sumV x a b c r).2.2.2.2 = true → iOk (sumV x a b c r).1 (sumV x a b c r).2.1 (sumV x a b c r).2.2.1 (sumV x a b c r).2.2.2.1 := by
  intro x
  induction x with
  | nil => intro a b c r h _; exact h
  | cons y ys ih =>
    intro a b c r h hf
    unfold sumV at hf ⊢
    split at hf
    · rename_i hh; rw [if_pos hh]; exact ih _ _ _ _ (addV_ok _ _ _ _ _ _ _ _ hh) hf
    · simp at hf
theorem sumOfV_ok (x : List S27) (h : (sumOfV x).2.2.2.2 = true) : iOk (sumOfV x).1 (sumOfV x).2.1 (sumOfV x).2.2.1 (sumOfV x).2.2.2.1 := by
  unfold sumOfV at h ⊢
  split at h
  · rename_i hh; rw [if_pos hh]; exact sumV_ok _ _ _ _ _ (by omega) h
  · simp at h
theorem best12_small : impl_BestMap.f 400 12 = some (12, 19, 28) := by decide +kernel
theorem best12_up : ∀ n : Nat, impl_BestMap.f (400 + n) 12 = some (12, 19, 28)
  | 0 => best12_small
  | n + 1 => impl_BestMap.mono 12 (400 + n) _ (best12_up n)
theorem best12 (k : Nat) (hk : 400 ≤ k) : impl_BestMap.f k 12 = some (12, 19, 28) := by
  have h := best12_up (k - 400)
  rwa [show 400 + (k - 400) = k by omega] at h
def stepV (a b c : Int) : Int := 12 * a + 19 * b + 28 * c
theorem steps_num {a b c : Int} (h : iOk a b c 1) : wrap64 ((wrap64 ((wrap64 (12 * a)) + (wrap64 (19 * b)))) + (wrap64 (28 * c))) = stepV a b c := by
  unfold stepV
  rw [w64 (n := 12 * a) (by omega) (by omega), w64 (n := 19 * b) (by omega) (by omega), w64 (n := 28 * c) (by omega) (by omega), w64 (n := 12 * a + 19 * b) (by omega) (by omega), w64 (by omega) (by omega)]
theorem impl_StepsIn_eq {a b c : Int} (h : iOk a b c 1) : impl_StepsIn.f 12 19 28 a b c 1 = some (stepV a b c, true) := by
  unfold impl_StepsIn.f impl_MapOk.f
  simp only [impl_IntervalOk_eq, within_eq, Option.bind_some]
  rw [decide_eq_true h, steps_num h]
  simp
theorem spec_StepsIn_eq {a b c : Int} (h : iOk a b c 1) : spec_StepsIn.f 12 19 28 a b c 1 = some (stepV a b c, true) := by
  unfold spec_StepsIn.f spec_MapOk.f
  simp only [spec_IntervalOk_eq, l01In_eq, Option.bind_some]
  rw [decide_eq_true h, steps_num h]
  simp
theorem drift_num {a b c : Int} (h : iOk a b c 1) : wrap64 (a - (wrap64 (Int.tdiv (stepV a b c) 12))) = a - Int.tdiv (stepV a b c) 12 ∧ bd (a - Int.tdiv (stepV a b c) 12) := by
  have h1 := Int.natAbs_tdiv_le_natAbs (stepV a b c) 12
  have h2 : (stepV a b c).natAbs ≤ 23600 := by unfold stepV; omega
  rw [w64 (n := Int.tdiv (stepV a b c) 12) (by omega) (by omega), w64 (by omega) (by omega)]
  exact ⟨rfl, by omega⟩
def driftV (x : List S27) : Int × Int × Int × Int × Bool :=
  if (sumOfV x).2.2.2.2 = true ∧ (sumOfV x).2.2.2.1 = 1 then
    (if Int.tmod (stepV (sumOfV x).1 (sumOfV x).2.1 (sumOfV x).2.2.1) 12 = 0 then checkV ((sumOfV x).1 - Int.tdiv (stepV (sumOfV x).1 (sumOfV x).2.1 (sumOfV x).2.2.1) 12) (sumOfV x).2.1 (sumOfV x).2.2.1 1 else (0, 0, 0, 0, false))
  else (0, 0, 0, 0, false)
theorem impl_DriftOf_eq (x : List S27) (k : Nat) (hk : 2000000 < k) : impl_DriftOf.f k x = some (driftV x) := by
  unfold impl_DriftOf.f driftV
  rw [impl_SumOf_eq x k (by omega)]
  simp only [Option.bind_some]
  have hs := sumOfV_ok x
  generalize sumOfV x = s at hs ⊢
  obtain ⟨a, b, c, r, o⟩ := s
  obtain ⟨k, rfl⟩ : ∃ m, k = m + 1 := ⟨k - 1, by omega⟩
  dsimp only at hs ⊢
  by_cases ho : o = true
  · subst ho
    rw [if_pos rfl]
    simp only [impl_DriftOf.j0]
    by_cases hr : r = 1
    · subst hr
      have hi := hs rfl
      obtain ⟨e, e2⟩ := drift_num hi
      rw [if_neg (by decide), best12 k (by omega), if_pos (by simp)]
      simp only [Option.bind_some]
      rw [impl_StepsIn_eq hi]
      simp only [Option.bind_some]
      by_cases hm : Int.tmod (stepV a b c) 12 = 0
      · rw [if_pos hm, if_pos hm, e, impl_okInterval_eq e2 (by omega) (by omega) (by omega) k (by omega)]
        rfl
      · rw [if_neg hm, if_neg hm]
    · rw [if_pos (by simpa using hr), if_neg (fun hh => hr hh.2)]
  · rw [if_neg ho, if_neg (fun hh => ho hh.1)]
    simp only [impl_DriftOf.j0]
    simp
theorem spec_DriftOf_eq (x : List S27) (k : Nat) (hk : 2000000 < k) : spec_DriftOf.f k x = some (driftV x) := by
  unfold spec_DriftOf.f driftV
  rw [spec_SumOf_eq x k (by omega)]
  simp only [Option.bind_some]
  have hs := sumOfV_ok x
  generalize sumOfV x = s at hs ⊢
  obtain ⟨a, b, c, r, o⟩ := s
  obtain ⟨k, rfl⟩ : ∃ m, k = m + 1 := ⟨k - 1, by omega⟩
  dsimp only at hs ⊢
  by_cases ho : o = true
  · subst ho
    rw [if_pos rfl]
    simp only [spec_DriftOf.j0]
    by_cases hr : r = 1
    · subst hr
      have hi := hs rfl
      obtain ⟨e, e2⟩ := drift_num hi
      rw [if_neg (by decide), if_pos (by simp), spec_StepsIn_eq hi]
      simp only [Option.bind_some]
      by_cases hm : Int.tmod (stepV a b c) 12 = 0
      · rw [if_pos hm, if_pos hm, e, spec_checked_eq e2 (by omega) (by omega) (by omega) k (by omega)]
        rfl
      · rw [if_neg hm, if_neg hm]
    · rw [if_pos (by simpa using hr), if_neg (fun hh => hr hh.2)]
  · rw [if_neg ho, if_neg (fun hh => ho hh.1)]
    simp only [spec_DriftOf.j0]
    simp
def pureV (x : List S27) : Bool := if (driftV x).2.2.2.2 = true then ((driftV x).1 == 0 && ((driftV x).2.1 == 0 && ((driftV x).2.2.1 == 0 && ((driftV x).2.2.2.1 == 1)))) else false
theorem impl_IsPure_eq (x : List S27) (k : Nat) (hk : 2000000 < k) : impl_IsPure.f k x = some (pureV x) := by
  unfold impl_IsPure.f pureV
  rw [impl_DriftOf_eq x k hk, impl_PureOf_eq, if_pos (by omega)]
  simp only [Option.bind_some]
  split <;> rfl
abbrev IV := S27
abbrev small (x : S27) : Prop := x.f3 = 1 ∧ (-2 ≤ x.f0 ∧ x.f0 ≤ 2) ∧ (-1 ≤ x.f1 ∧ x.f1 ≤ 1) ∧ (-1 ≤ x.f2 ∧ x.f2 ≤ 1)
theorem checkV_one {a b c : Int} (h : iOk a b c 1) : checkV a b c 1 = (a, b, c, 1, true) := by
  have e : simpV a b c 1 = (a, b, c, 1) := by unfold simpV; rw [gcd4_one]; simp
  unfold checkV
  rw [e, if_pos h]
theorem addV_one {a b c a' b' c' : Int} (h : iOk a b c 1) (h' : iOk a' b' c' 1) (h2 : iOk (a + a') (b + b') (c + c') 1) : addV a b c 1 a' b' c' 1 = (a + a', b + b', c + c', 1, true) := by
  unfold addV
  rw [if_pos ⟨h, h'⟩]
  simp only [Int.mul_one]
  exact checkV_one h2
def s0 : List S27 → Int
  | [] => 0
  | x :: xs => x.f0 + s0 xs
def s1 : List S27 → Int
  | [] => 0
  | x :: xs => x.f1 + s1 xs
def s2 : List S27 → Int
  | [] => 0
  | x :: xs => x.f2 + s2 xs
theorem s_app (l m : List S27) : s0 (l ++ m) = s0 l + s0 m ∧ s1 (l ++ m) = s1 l + s1 m ∧ s2 (l ++ m) = s2 l + s2 m := by
  induction l with
  | nil => simp [s0, s1, s2]
  | cons x xs ih => simp only [List.cons_append, s0, s1, s2]; omega
theorem s_bd (l : List S27) (h : ∀ x ∈ l, small x) : (-2 * (l.length : Int) ≤ s0 l ∧ s0 l ≤ 2 * l.length) ∧ (-(l.length : Int) ≤ s1 l ∧ s1 l ≤ l.length) ∧ (-(l.length : Int) ≤ s2 l ∧ s2 l ≤ l.length) := by
  induction l with
  | nil => simp [s0, s1, s2]
  | cons x xs ih =>
    have h1 := h x List.mem_cons_self
    have h2 := ih (fun y hy => h y (List.mem_cons_of_mem _ hy))
    simp only [s0, s1, s2, List.length_cons]
    omega
theorem sumV_small : ∀ (l : List S27) (a b c : Int), (∀ x ∈ l, small x) → -300 + 2 * (l.length : Int) ≤ a → a ≤ 300 - 2 * (l.length : Int) → -300 + 2 * (l.length : Int) ≤ b → b ≤ 300 - 2 * (l.length : Int) → -300 + 2 * (l.length : Int) ≤ c → c ≤ 300 - 2 * (l.length : Int) →
    sumV l a b c 1 = (a + s0 l, b + s1 l, c + s2 l, 1, true) := by
  intro l
  induction l with
  | nil => intro a b c _ _ _ _ _ _ _; simp [sumV, s0, s1, s2]
  | cons x xs ih =>
    intro a b c h h1 h2 h3 h4 h5 h6
    obtain ⟨e, b1, b2, b3⟩ := h x List.mem_cons_self
    rw [List.length_cons] at h1 h2 h3 h4 h5 h6
    have ea := addV_one (a := a) (b := b) (c := c) (a' := x.f0) (b' := x.f1) (c' := x.f2) (by omega) (by omega) (by omega)
    simp only [sumV, e, ea, if_true]
    rw [ih _ _ _ (fun y hy => h y (List.mem_cons_of_mem _ hy)) (by omega) (by omega) (by omega) (by omega) (by omega) (by omega)]
    simp only [s0, s1, s2, Int.add_assoc]
theorem sumOf_small (l : List S27) (h : ∀ x ∈ l, small x) (hl : l.length ≤ 24) : sumOfV l = (s0 l, s1 l, s2 l, 1, true) := by
  unfold sumOfV
  rw [if_pos (by omega), sumV_small l 0 0 0 h (by omega) (by omega) (by omega) (by omega) (by omega) (by omega)]
  simp
theorem drift_small (l : List S27) (h : ∀ x ∈ l, small x) (hl : l.length ≤ 24) (q : Int) (hq : 12 * s0 l + 19 * s1 l + 28 * s2 l = 12 * q) : driftV l = (s0 l - q, s1 l, s2 l, 1, true) := by
  have hb := s_bd l h
  have e : stepV (s0 l) (s1 l) (s2 l) = 12 * q := hq
  have e1 : Int.tmod (12 * q) 12 = 0 := Int.mul_tmod_right 12 q
  have e2 : Int.tdiv (12 * q) 12 = q := Int.mul_tdiv_cancel_left q (by decide)
  unfold driftV
  rw [sumOf_small l h hl]
  simp only
  rw [if_pos (by simp), e, e1, e2, if_pos rfl]
  exact checkV_one (by omega)
theorem drift_no (l : List S27) (h : ∀ x ∈ l, small x) (hl : l.length ≤ 24) (hq : ¬ Int.tmod (stepV (s0 l) (s1 l) (s2 l)) 12 = 0) : driftV l = (0, 0, 0, 0, false) := by
  unfold driftV
  rw [sumOf_small l h hl]
  simp only
  rw [if_pos (by simp), if_neg hq]
def negI (x : S27) : S27 := ⟨-x.f0, -x.f1, -x.f2, 1⟩
theorem neg_small {x : S27} (h : small x) : small (negI x) := by
  obtain ⟨e, b1, b2, b3⟩ := h
  exact ⟨rfl, by show -2 ≤ -x.f0 ∧ -x.f0 ≤ 2; omega, by show -1 ≤ -x.f1 ∧ -x.f1 ≤ 1; omega, by show -1 ≤ -x.f2 ∧ -x.f2 ≤ 1; omega⟩
theorem s_neg (l : List S27) : s0 (l.map negI) = -s0 l ∧ s1 (l.map negI) = -s1 l ∧ s2 (l.map negI) = -s2 l := by
  induction l with
  | nil => simp [s0, s1, s2]
  | cons x xs ih => simp only [List.map_cons, s0, s1, s2, negI]; omega
theorem spec_times_neg {x : S27} (h : small x) (k : Nat) (hk : 1000000 < k) : spec_TimesInterval.f k x.f0 x.f1 x.f2 x.f3 (-1) = some (-x.f0, -x.f1, -x.f2, 1, true) := by
  obtain ⟨e, b1, b2, b3⟩ := h
  unfold spec_TimesInterval.f
  rw [e, spec_IntervalOk_eq, l01In_eq]
  simp only [Option.bind_some]
  rw [if_pos (decide_eq_true (by omega)), if_pos (by decide), w64 (n := -1 * x.f0) (by omega) (by omega), w64 (n := -1 * x.f1) (by omega) (by omega), w64 (n := -1 * x.f2) (by omega) (by omega), spec_checked_eq (by omega) (by omega) (by omega) (by omega) k hk, checkV_one (by omega)]
  simp only [Option.bind_some, Int.neg_mul, Int.one_mul]
theorem impl_times_eq {a b c n : Int} (h : iOk a b c 1) (hn : -2 ≤ n ∧ n ≤ 2) (h2 : iOk (a * n) (b * n) (c * n) 1) (k : Nat) (hk : 1000000 < k) : impl_TimesInterval.f k a b c 1 n = some (a * n, b * n, c * n, 1, true) := by
  unfold impl_TimesInterval.f
  rw [impl_IntervalOk_eq, within_eq]
  simp only [Option.bind_some]
  rw [if_pos (decide_eq_true h), if_pos (decide_eq_true (by omega)), w64 (n := a * n) (by omega) (by omega), w64 (n := b * n) (by omega) (by omega), w64 (n := c * n) (by omega) (by omega), impl_okInterval_eq (by omega) (by omega) (by omega) (by omega) k hk, checkV_one h2]
  simp only [Option.bind_some]
def chk (b c : Int) : Bool := if (19 * b + 28 * c) % 12 = 0 then (match impl_sign.f 400 (-((19 * b + 28 * c) / 12)) b c with | some t => (t == 0) == (b == 0 && c == 0) | none => false) else true
theorem sign_table : ((List.range 25).all fun i => (List.range 11).all fun j => chk ((i : Int) - 12) ((j : Int) - 5)) = true := by decide +kernel
theorem chk_at {b c : Int} (hb : -12 ≤ b ∧ b ≤ 12) (hc : -5 ≤ c ∧ c ≤ 5) : chk b c = true := by
  have h := sign_table
  rw [List.all_eq_true] at h
  have h1 := h (b + 12).toNat (List.mem_range.2 (by omega))
  rw [List.all_eq_true] at h1
  have h2 := h1 (c + 5).toNat (List.mem_range.2 (by omega))
  have e1 : ((b + 12).toNat : Int) - 12 = b := by omega
  have e2 : ((c + 5).toNat : Int) - 5 = c := by omega
  rwa [e1, e2] at h2
theorem sign_up (a b c : Int) (r : Int) (h : impl_sign.f 400 a b c = some r) : ∀ n : Nat, impl_sign.f (400 + n) a b c = some r
  | 0 => h
  | n + 1 => impl_sign.mono a b c (400 + n) _ (sign_up a b c r h n)
theorem sign_eq {d b c : Int} (hd : 12 * d + 19 * b + 28 * c = 0) (hb : -12 ≤ b ∧ b ≤ 12) (hc : -5 ≤ c ∧ c ≤ 5) (k : Nat) (hk : 400 ≤ k) : ∃ t, impl_sign.f k d b c = some t ∧ (t == 0) = (b == 0 && c == 0) := by
  have h := chk_at hb hc
  unfold chk at h
  rw [if_pos (by omega), show -((19 * b + 28 * c) / 12) = d by omega] at h
  split at h
  · rename_i t ht
    have h2 := sign_up d b c t ht (k - 400)
    rw [show 400 + (k - 400) = k by omega] at h2
    exact ⟨t, h2, by simpa using h⟩
  · cases h
abbrev good (l : List S27) : Prop := (∀ x ∈ l, small x) ∧ l.length ≤ 12 ∧ (-12 ≤ s1 l ∧ s1 l ≤ 12) ∧ (-5 ≤ s2 l ∧ s2 l ≤ 5)
def pumpL : List S27 := [⟨-1, -1, 1, 1⟩, ⟨2, -1, 0, 1⟩, ⟨2, -1, 0, 1⟩, ⟨2, -1, 0, 1⟩]
theorem spec_pump : spec_PumpMoves.f = some pumpL := rfl
theorem impl_pump : impl_PumpMoves.f = some pumpL := rfl
theorem pump_small : ∀ x ∈ pumpL, small x := by
  intro x hx
  simp only [pumpL, List.mem_cons, List.not_mem_nil, or_false] at hx
  rcases hx with rfl | rfl | rfl | rfl <;> exact ⟨rfl, by decide, by decide, by decide⟩
theorem moves_loop0 (l : List Int) : ∀ (e k : Nat) (x i h : Int) (acc : List S27), x = (e : Int) - 1 → e < k → (∀ y ∈ acc, small y) → acc.length + 4 * e ≤ 12 → s1 acc = -(acc.length : Int) → 4 * s2 acc = acc.length →
    ∃ r i' h', spec_l31Moves.l0 k acc x l i h = some (r, i', h') ∧ good r := by
  intro e
  induction e with
  | zero =>
    intro k x i h acc hx hk ha hl h1 h2
    obtain ⟨k, rfl⟩ : ∃ m, k = m + 1 := ⟨k - 1, by omega⟩
    simp only [spec_l31Moves.l0]
    rw [if_neg (by omega)]
    exact ⟨_, _, _, rfl, ha, by omega, by omega, by omega⟩
  | succ e ih =>
    intro k x i h acc hx hk ha hl h1 h2
    obtain ⟨k, rfl⟩ : ∃ m, k = m + 1 := ⟨k - 1, by omega⟩
    have hp : pumpL.length = 4 := rfl
    have hs := s_app acc pumpL
    have p1 : s1 pumpL = -4 := rfl
    have p2 : s2 pumpL = 1 := rfl
    simp only [spec_l31Moves.l0]
    rw [if_pos (by omega), spec_pump]
    simp only [Option.bind_some]
    rw [if_pos (by omega), w64 (n := x - 1) (by omega) (by omega)]
    refine ih k (x - 1) i h (acc ++ pumpL) (by omega) (by omega) (fun y hy => ?_) (by rw [List.length_append]; omega) (by rw [List.length_append]; omega) (by rw [List.length_append]; omega)
    rcases List.mem_append.1 hy with h3 | h3
    · exact ha y h3
    · exact pump_small y h3
def moveL : List S27 := [⟨-1, 1, 0, 1⟩, ⟨2, -1, 0, 1⟩, ⟨-2, 0, 1, 1⟩, ⟨1, 1, -1, 1⟩, ⟨1, 0, 0, 1⟩]
theorem move_small (r : Int) (h : 0 ≤ r ∧ r < 5) : small (rd_T27 moveL r) := by
  have : r = 0 ∨ r = 1 ∨ r = 2 ∨ r = 3 ∨ r = 4 := by omega
  rcases this with rfl | rfl | rfl | rfl | rfl <;> exact ⟨rfl, by decide, by decide, by decide⟩
theorem pure0 : spec_PureOf.f (-1) 1 0 = some (-1, 1, 0, 1) := rfl
theorem pure1 : spec_PureOf.f 2 (-1) 0 = some (2, -1, 0, 1) := rfl
theorem pure2 : spec_PureOf.f (-2) 0 1 = some (-2, 0, 1, 1) := rfl
theorem pure3 : spec_PureOf.f 1 1 (-1) = some (1, 1, -1, 1) := rfl
theorem pure4 : spec_PureOf.f 1 0 0 = some (1, 0, 0, 1) := rfl
theorem small_snoc {acc : List S27} {x : S27} (h : ∀ y ∈ acc, small y) (hx : small x) : ∀ y ∈ acc ++ [x], small y := by
  intro y hy
  rcases List.mem_append.1 hy with h3 | h3
  · exact h y h3
  · have : y = x := by simpa using h3
    rw [this]; exact hx
theorem moves_loop1 (l : List Int) (n : Int) (hn : n ≤ 5) : ∀ (e k : Nat) (j i h : Int) (acc : List S27), j = n - e → 0 ≤ j → e + 1000000 < k → Cur l i → (∀ y ∈ acc, small y) → (acc.length : Int) = j →
    ∃ r i' h', spec_l31Moves.l1 k acc n j l i h = some (r, i', h') ∧ good r := by
  intro e
  induction e with
  | zero =>
    intro k j i h acc hj h0 hk hc ha hl
    obtain ⟨k, rfl⟩ : ∃ m, k = m + 1 := ⟨k - 1, by omega⟩
    have hb := s_bd acc ha
    simp only [spec_l31Moves.l1]
    rw [if_neg (by omega)]
    exact ⟨_, _, _, rfl, ha, by omega, by omega, by omega⟩
  | succ e ih =>
    intro k j i h acc hj h0 hk hc ha hl
    obtain ⟨k, rfl⟩ : ∃ m, k = m + 1 := ⟨k - 1, by omega⟩
    obtain ⟨r, i1, h1, e1, r0, r1, c1⟩ := below_some l i h 5 hc (by omega) (by omega)
    obtain ⟨b, i2, h2, e2, c2⟩ := once_some l i1 h1 2 c1 (by omega) (by omega)
    have hs := move_small r ⟨r0, r1⟩
    have hml : moveL.length = 5 := rfl
    simp only [spec_l31Moves.l1]
    rw [if_pos (by omega), pure0, pure1, pure2, pure3, pure4]
    simp only [Option.bind_some]
    rw [e1]
    simp only [Option.bind_some]
    rw [show ([(⟨-1, 1, 0, 1⟩ : S27), ⟨2, -1, 0, 1⟩, ⟨-2, 0, 1, 1⟩, ⟨1, 1, -1, 1⟩, ⟨1, 0, 0, 1⟩] : List S27) = moveL from rfl]
    rw [if_pos r0, if_pos (by omega), e2]
    simp only [Option.bind_some]
    rw [w64 (n := j + 1) (by omega) (by omega), spec_times_neg hs k (by omega)]
    simp only [Option.bind_some]
    rw [if_pos (show acc.length < 4398046511104 by omega), if_pos (show acc.length < 4398046511104 by omega)]
    split
    · exact ih k (j + 1) i2 h2 _ (by omega) (by omega) (by omega) c2 (small_snoc ha (neg_small hs)) (by rw [List.length_append, List.length_singleton]; omega)
    · exact ih k (j + 1) i2 h2 _ (by omega) (by omega) (by omega) c2 (small_snoc ha hs) (by rw [List.length_append, List.length_singleton]; omega)
theorem drawMoves_some (l : List Int) (hl : (l.length : Int) ≤ 140737488351232) (k : Nat) (hk : 1000100 < k) : ∃ r, spec_DrawMoves.f k l = some r ∧ good r := by
  obtain ⟨h, e0⟩ := new_some l hl k (by omega)
  have c0 : Cur l 0 := ⟨by omega, by omega, hl⟩
  obtain ⟨b, i1, h1, e1, c1⟩ := once_some l 0 h 2 c0 (by omega) (by omega)
  obtain ⟨x, i2, h2, e2, x0, x1, c2⟩ := below_some l i1 h1 3 c1 (by omega) (by omega)
  obtain ⟨y, i3, h3, e3, y0, y1, c3⟩ := below_some l i1 h1 6 c1 (by omega) (by omega)
  obtain ⟨r, i4, h4, e4, hr⟩ := moves_loop0 l (x + 1).toNat k x i2 h2 [] (by omega) (by omega) (by simp) (by simp; omega) rfl rfl
  obtain ⟨t, i5, h5, e5, ht⟩ := moves_loop1 l y (by omega) y.toNat k 0 i3 h3 [] (by omega) (by omega) (by omega) c3 (by simp) (by simp)
  unfold spec_DrawMoves.f
  rw [e0]; simp only [Option.bind_some]
  unfold spec_l31Moves.f
  simp only [Option.bind_some]
  rw [e1]; simp only [Option.bind_some]
  rw [e2, e3]; simp only [Option.bind_some]
  by_cases hb : b = true
  · rw [if_pos hb, e4]; exact ⟨r, rfl, hr⟩
  · rw [if_neg hb, e5]; exact ⟨t, rfl, ht⟩
theorem rdV_nat2 (x : List S27) (n : Nat) : rd_T27 x (n : Int) = x.getD n z27 := by unfold rd_T27; rw [Int.toNat_natCast]
theorem comma2 : impl_CommaOf.f 2 = some (-4, 4, -1, 1) := rfl
theorem eq4 {a b c a' b' c' : Int} (h1 : a = a') (h2 : b = b') (h3 : c = c') : (a == a' && (b == b' && (c == c' && ((1 : Int) == 1)))) = true := by subst h1 h2 h3; simp
theorem drifts_end {l : List S27} (hg : good l) (q : Int) (hq : 12 * s0 l + 19 * s1 l + 28 * s2 l = 12 * q) (k : Nat) (hk : 2000100 < k) : laws_FnDrifts.l0 (k + 1) l (l.map negI) (l.length : Int) (s0 l - q) (s1 l) (s2 l) 1 = some true := by
  obtain ⟨hs, hl, hb1, hb2⟩ := hg
  have hb := s_bd l hs
  obtain ⟨n0, n1, n2⟩ := s_neg l
  obtain ⟨a0, a1, a2⟩ := s_app l l
  have hll : (l ++ l).length = l.length + l.length := List.length_append
  have d1 := drift_small (l.map negI) (fun y hy => by obtain ⟨x, hx, e⟩ := List.mem_map.1 hy; rw [← e]; exact neg_small (hs x hx)) (by simp; omega) (-q) (by rw [n0, n1, n2]; omega)
  have d2 := drift_small (l ++ l) (fun y hy => by rcases List.mem_append.1 hy with h | h <;> exact hs y h) (by omega) (2 * q) (by rw [a0, a1, a2]; omega)
  have d3 := drift_small pumpL pump_small (by decide) 1 (by decide)
  have d4 := drift_small l hs (by omega) q hq
  have p0 : s0 pumpL = 5 := rfl
  have p1 : s1 pumpL = -4 := rfl
  have p2 : s2 pumpL = 1 := rfl
  have t1 := impl_times_eq (a := s0 l - q) (b := s1 l) (c := s2 l) (n := -1) (by omega) (by omega) (by omega) k (by omega)
  have t2 := impl_times_eq (a := s0 l - q) (b := s1 l) (c := s2 l) (n := 2) (by omega) (by omega) (by omega) k (by omega)
  have t3 := impl_times_eq (a := -4) (b := 4) (c := -1) (n := -1) (by decide) (by decide) (by decide) k (by omega)
  have hi : iOk (s0 l - q) (s1 l) (s2 l) 1 := by omega
  obtain ⟨t, ht, hz⟩ := sign_eq (d := s0 l - q) (b := s1 l) (c := s2 l) (by omega) hb1 hb2 k (by omega)
  have h0 : stepV (s0 l - q) (s1 l) (s2 l) = 0 := by unfold stepV; omega
  simp only [laws_FnDrifts.l0]
  rw [if_neg (by omega), impl_DriftOf_eq _ k (by omega), d1, t1]
  simp only [Option.bind_some, List.length_nil, List.nil_append]
  rw [if_pos (by omega), if_pos (by omega), impl_DriftOf_eq _ k (by omega), d2, t2]
  simp only [Option.bind_some]
  rw [impl_pump]
  simp only [Option.bind_some]
  rw [impl_DriftOf_eq _ k (by omega), d3, comma2]
  simp only [Option.bind_some]
  rw [t3]
  simp only [Option.bind_some]
  rw [if_pos trivial, if_pos trivial, if_pos (eq4 (by rw [n0]; omega) (by rw [n1]; omega) (by rw [n2]; omega)), if_pos trivial, if_pos trivial, if_pos (eq4 (by rw [a0]; omega) (by rw [a1]; omega) (by rw [a2]; omega)), if_pos trivial, if_pos trivial, if_pos (eq4 (by rw [p0]; decide) (by rw [p1]; decide) (by rw [p2]; decide)), best12 k (by omega)]
  simp only [Option.bind_some]
  unfold impl_Hides.f
  rw [impl_StepsIn_eq hi, h0]
  simp only [Option.bind_some]
  rw [if_pos trivial]
  simp only [Option.bind_some]
  rw [if_pos (by decide), impl_IsPure_eq l k (by omega)]
  unfold impl_SignOf.f
  rw [impl_IntervalOk_eq, ht]
  simp only [Option.bind_some]
  rw [if_pos (decide_eq_true hi)]
  simp only [Option.bind_some]
  unfold pureV
  rw [d4, hz]
  simp only [if_true]
  by_cases e1 : s1 l = 0
  · by_cases e2 : s2 l = 0
    · have e3 : s0 l - q = 0 := by omega
      rw [e1, e2, e3]; decide
    · have f2 : (s2 l == 0) = false := by simpa using e2
      rw [f2]; simp
  · have f1 : (s1 l == 0) = false := by simpa using e1
    rw [f1]; simp
theorem drifts_loop {l : List S27} (hg : good l) (q : Int) (hq : 12 * s0 l + 19 * s1 l + 28 * s2 l = 12 * q) : ∀ (e n k : Nat) (acc : List S27), n ≤ l.length → l.length - n = e → e + 2000200 < k → acc ++ (l.drop n).map negI = l.map negI → acc.length ≤ 12 →
    laws_FnDrifts.l0 k l acc (n : Int) (s0 l - q) (s1 l) (s2 l) 1 = some true := by
  intro e
  induction e with
  | zero =>
    intro n k acc h1 h2 hk ha hal
    obtain ⟨k, rfl⟩ : ∃ m, k = m + 1 := ⟨k - 1, by omega⟩
    have hn : n = l.length := by omega
    rw [List.drop_of_length_le (by omega), List.map_nil, List.append_nil] at ha
    rw [ha, hn]
    exact drifts_end hg q hq k (by omega)
  | succ e ih =>
    intro n k acc h1 h2 hk ha hal
    obtain ⟨k, rfl⟩ : ∃ m, k = m + 1 := ⟨k - 1, by omega⟩
    have hlt : n < l.length := by omega
    have hm : l.getD n z27 ∈ l := by rw [List.getD_eq_getElem?_getD, List.getElem?_eq_getElem hlt]; exact List.getElem_mem _
    obtain ⟨e1, b1, b2, b3⟩ := hg.1 _ hm
    have hll := hg.2.1
    have t1 := impl_times_eq (a := (l.getD n z27).f0) (b := (l.getD n z27).f1) (c := (l.getD n z27).f2) (n := -1) (by omega) (by omega) (by omega) k (by omega)
    have hneg : (⟨(l.getD n z27).f0 * -1, (l.getD n z27).f1 * -1, (l.getD n z27).f2 * -1, 1⟩ : S27) = negI (l.getD n z27) := by
      unfold negI
      rw [Int.mul_neg_one, Int.mul_neg_one, Int.mul_neg_one]
    have hlen : (acc ++ (l.drop n).map negI).length = (l.map negI).length := by rw [ha]
    have hd : (l.drop n).length = l.length - n := List.length_drop
    rw [List.length_append, List.length_map, List.length_map] at hlen
    simp only [laws_FnDrifts.l0]
    rw [if_pos (by omega), if_pos (by omega), rdV_nat2, e1, t1]
    simp only [Option.bind_some]
    rw [if_pos (by omega), wrap_next (by omega), hneg]
    refine ih (n + 1) k _ (by omega) (by omega) (by omega) ?_ (by rw [List.length_append, List.length_singleton]; omega)
    rw [← ha, drop_getD l z27 n hlt, List.map_cons, List.append_assoc]
    rfl
theorem drifts_law (l : List Int) (hl : (l.length : Int) ≤ 1048576) (k : Nat) (hk : 3000000 < k) : laws_FnDrifts.f k l = some true := by
  unfold laws_FnDrifts.f
  simp only [laws_big.f, Option.bind_some]
  rw [if_neg (by simp; omega)]
  obtain ⟨r, e, hg⟩ := drawMoves_some l (by omega) k (by omega)
  have hrl := hg.2.1
  rw [e]; simp only [Option.bind_some]
  rw [impl_DriftOf_eq r k (by omega), spec_DriftOf_eq r k (by omega)]
  simp only [Option.bind_some]
  by_cases hm : Int.tmod (stepV (s0 r) (s1 r) (s2 r)) 12 = 0
  · obtain ⟨q, hq⟩ := Int.dvd_of_tmod_eq_zero hm
    have hq' : 12 * s0 r + 19 * s1 r + 28 * s2 r = 12 * q := hq
    rw [drift_small r hg.1 (by omega) q hq']
    simp only
    rw [if_pos trivial]
    exact drifts_loop hg q hq' r.length 0 k [] (by omega) (by omega) (by omega) (by simp) (by simp)
  · rw [drift_no r hg.1 (by omega) hm]
    simp
theorem FnDrifts : laws_FnDrifts.Pure := by
  intro l _ hb _
  obtain ⟨k, hk⟩ : ∃ k : Nat, 3000000 < k := ⟨3000001, by omega⟩
  refine ⟨k, ?_⟩
  by_cases hl : (l.length : Int) > 1048576
  · unfold laws_FnDrifts.f
    simp only [laws_big.f, Option.bind_some]
    rw [if_pos (decide_eq_true hl)]
  · exact drifts_law l (by omega) k hk
end Go.Proofs.Ytdlnhcljdkgmiaa.Pure
