/- The plain law of FnExactBreakAt: the printed function of the law answers true. Its conditions are those of the statement's own bounds. -/
import Derived.Test.YtbimhcdfojbjgabPFnExactBreakAtx3
namespace Go.Proofs.Ytbimhcdfojbjgab.Pure
open Go.RowKit Go.Proofs.Ytbimhcdfojbjgab.PFnExactBreakAt Go.Proofs.YtbimhcdfojbjgabW.PrintWords Go.Proofs.YtbimhcdfojbjgabW.PrintLast Go.Proofs.YtbimhcdfojbjgabW.PrintMore
set_option linter.unusedVariables false
theorem l01In_eq (a b c : Int) : spec_l01In.f a b c = some (decide (b ≤ a ∧ a ≤ c)) := by
  unfold spec_l01In.f
  by_cases h : a ≥ b
  · rw [if_pos h]; congr 1; by_cases h2 : a ≤ c <;> simp [h2, h]
  · rw [if_neg h]; congr 1; simp; omega
theorem within_eq (a b c : Int) : impl_within.f a b c = some (decide (b ≤ a ∧ a ≤ c)) := by
  unfold impl_within.f
  by_cases h : b ≤ a
  · rw [if_pos h]; congr 1; by_cases h2 : a ≤ c <;> simp [h2, h]
  · rw [if_neg h]; congr 1; simp; omega
theorem law_of {α : Type} [DecidableEq α] {s i : Option α} {r : α} (hs : s = some r) (hi : i = some r) : (s.bind fun t => i.bind fun u => if u = t then some true else some false) = some true := by
  subst hs hi; simp
theorem law_ofb {s i : Option Bool} {r : Bool} (hs : s = some r) (hi : i = some r) : (s.bind fun t => i.bind fun u => if (u != t) = true then some false else some true) = some true := by
  subst hs hi; simp
theorem wf_i64 {a : Int} (h : (Lit.int .i64 a).wf = true) : -9223372036854775808 ≤ a ∧ a ≤ 9223372036854775807 := by
  have h' : (decide ((-9223372036854775808 : Int) ≤ a) && decide (a ≤ 9223372036854775807)) = true := h
  simp at h'; omega
theorem w64 {n : Int} (h1 : -9223372036854775808 ≤ n) (h2 : n ≤ 9223372036854775807) : wrap64 n = n := by unfold wrap64; omega
theorem mul_bd {a b A B : Int} (h0 : 0 ≤ a) (h1 : a ≤ A) (h2 : 0 ≤ b) (h3 : b ≤ B) : 0 ≤ a * b ∧ a * b ≤ A * B := by
  refine ⟨Int.mul_nonneg h0 h2, ?_⟩
  exact Int.le_trans (Int.mul_le_mul_of_nonneg_right h1 h2) (Int.mul_le_mul_of_nonneg_left h3 (by omega))
theorem tdiv_nn {a b : Int} (h : 0 ≤ a) : a.tdiv b = a / b := Int.tdiv_eq_ediv_of_nonneg h
theorem div_bd {a A c : Int} (h0 : 0 ≤ a) (h1 : a ≤ A) (hc : 0 < c) : 0 ≤ a / c ∧ a / c ≤ A / c :=
  ⟨Int.ediv_nonneg h0 (by omega), Int.ediv_le_ediv hc h1⟩
theorem wrap_next {n : Nat} (h : n ≤ 140737488355328) : wrap64 ((n : Int) + 1) = ((n + 1 : Nat) : Int) := by unfold wrap64; omega
theorem drop_getD {α : Type} (x : List α) (z : α) (n : Nat) (h : n < x.length) : x.drop n = x.getD n z :: x.drop (n + 1) := by
  rw [List.getD_eq_getElem?_getD, List.getElem?_eq_getElem h]
  exact List.drop_eq_getElem_cons h
theorem rd_nat (x : List Int) (n : Nat) : rd x (n : Int) = x.getD n 0 := by unfold rd; rw [Int.toNat_natCast]
theorem take_set_next {α : Type} (x : List α) (n : Nat) (v : α) (h : n < x.length) : (x.set n v).take (n + 1) = x.take n ++ [v] := by
  rw [List.take_succ_eq_append_getElem (by simpa using h)]
  congr 1
  · rw [List.take_set_of_le (Nat.le_refl _)]
  · simp
/-- from place n on: in the range and ascending (the one before counts) -/
def ascB (x : List Int) (lo hi : Int) : Nat → Nat → Bool
  | 0, _ => true
  | d + 1, n => decide (lo ≤ x.getD n 0 ∧ x.getD n 0 ≤ hi) && (decide (n = 0) || decide (x.getD (n - 1) 0 < x.getD n 0)) && ascB x lo hi d (n + 1)
theorem impl_asc_loop (x : List Int) (hb : x.length ≤ 140737488355328) (lo hi : Int) : ∀ (d n k : Nat), n ≤ x.length → x.length - n = d → d < k → impl_ascend.l0 k x lo hi x (x.length : Int) (n : Int) = some (ascB x lo hi d n) := by
  intro d
  induction d with
  | zero =>
    intro n k h1 h2 hk
    obtain ⟨k, rfl⟩ : ∃ m, k = m + 1 := ⟨k - 1, by omega⟩
    simp only [impl_ascend.l0, ascB]
    rw [if_neg (by omega)]
  | succ d ih =>
    intro n k h1 h2 hk
    obtain ⟨k, rfl⟩ : ∃ m, k = m + 1 := ⟨k - 1, by omega⟩
    simp only [impl_ascend.l0, ascB, within_eq, Option.bind_some]
    rw [if_pos (by omega), if_pos (by omega), if_pos (by omega), rd_nat, wrap_next (by omega), ih (n + 1) k (by omega) (by omega) (by omega)]
    by_cases c1 : lo ≤ x.getD n 0 ∧ x.getD n 0 ≤ hi
    · rw [if_pos (decide_eq_true c1), decide_eq_true c1, Bool.true_and]
      by_cases h0 : n = 0
      · rw [if_neg (by omega), decide_eq_true h0, Bool.true_or, Bool.true_and]
      · have e : wrap64 ((n : Int) - 1) = ((n - 1 : Nat) : Int) := by rw [w64 (by omega) (by omega)]; omega
        rw [if_pos (by omega), e, if_pos (by omega), if_pos (by omega), rd_nat, decide_eq_false h0, Bool.false_or]
        by_cases c2 : x.getD (n - 1) 0 < x.getD n 0
        · rw [if_neg (by omega), decide_eq_true c2, Bool.true_and]
        · rw [if_pos (by omega), decide_eq_false c2, Bool.false_and]
    · rw [if_neg (by simpa using c1), decide_eq_false c1, Bool.false_and, Bool.false_and]
theorem impl_ascend_eq (x : List Int) (hb : x.length ≤ 140737488355328) (lo hi : Int) (k : Nat) (hk : x.length < k) : impl_ascend.f k x lo hi = some (ascB x lo hi x.length 0) := by
  unfold impl_ascend.f
  exact impl_asc_loop x hb lo hi x.length 0 k (by omega) (by omega) hk
def mixB (s b : List Int) : Bool := ascB s 0 48 s.length 0 && ascB b 1 24 b.length 0 && (decide (1 ≤ (s.length : Int) ∧ (s.length : Int) ≤ 5) && decide ((b.length : Int) ≤ 4))
theorem impl_MixtureOk_eq (s b : List Int) (hs : s.length ≤ 140737488355328) (hb : b.length ≤ 140737488355328) (k : Nat) (hk : s.length < k) (hk2 : b.length < k) : impl_MixtureOk.f k s b = some (mixB s b) := by
  unfold impl_MixtureOk.f mixB
  simp only [within_eq, Option.bind_some]
  rw [impl_ascend_eq s hs 0 48 k hk, impl_ascend_eq b hb 1 24 k hk2]
  simp only [Option.bind_some]
  by_cases c1 : 1 ≤ (s.length : Int) ∧ (s.length : Int) ≤ 5
  · rw [if_pos (decide_eq_true c1), decide_eq_true c1]
    cases ascB s 0 48 s.length 0
    · simp
    · by_cases c2 : (b.length : Int) ≤ 4
      · rw [if_pos rfl, if_pos c2, decide_eq_true c2]; simp
      · rw [if_pos rfl, if_neg c2, decide_eq_false c2]; simp
  · rw [if_neg (by simpa using c1), decide_eq_false c1]; simp
theorem impl_hasInt_loop (a : Int) (x : List Int) (hb : x.length ≤ 140737488355328) : ∀ (d n k : Nat), n ≤ x.length → x.length - n = d → d < k → impl_hasInt.l0 k a x (x.length : Int) (n : Int) = some (decide (a ∈ x.drop n)) := by
  intro d
  induction d with
  | zero =>
    intro n k h1 h2 hk
    obtain ⟨k, rfl⟩ : ∃ m, k = m + 1 := ⟨k - 1, by omega⟩
    simp only [impl_hasInt.l0]
    rw [if_neg (by omega), List.drop_of_length_le (by omega)]
    simp
  | succ d ih =>
    intro n k h1 h2 hk
    obtain ⟨k, rfl⟩ : ∃ m, k = m + 1 := ⟨k - 1, by omega⟩
    simp only [impl_hasInt.l0]
    rw [if_pos (by omega), if_pos (by omega), if_pos (by omega), rd_nat, wrap_next (by omega), ih (n + 1) k (by omega) (by omega) (by omega), drop_getD x 0 n (by omega)]
    by_cases e : x.getD n 0 = a
    · rw [if_pos e, decide_eq_true (by rw [e]; exact List.mem_cons_self)]
    · rw [if_neg e]
      congr 1
      rw [decide_eq_decide]
      constructor
      · exact fun h => List.mem_cons_of_mem _ h
      · intro h
        rcases List.mem_cons.1 h with h | h
        · exact absurd h.symm e
        · exact h
theorem impl_hasInt_eq (x : List Int) (hb : x.length ≤ 140737488355328) (a : Int) (k : Nat) (hk : x.length < k) : impl_hasInt.f k x a = some (decide (a ∈ x)) := by
  unfold impl_hasInt.f
  have h := impl_hasInt_loop a x hb x.length 0 k (by omega) (by omega) hk
  simpa using h
theorem impl_BreakAt_eq (s b : List Int) (hs : s.length ≤ 140737488355328) (hb : b.length ≤ 140737488355328) (a : Int) (k : Nat) (hk : s.length < k) (hk2 : b.length < k) : impl_BreakAt.f k s b a = some (mixB s b && decide (a ∈ b)) := by
  unfold impl_BreakAt.f
  rw [impl_MixtureOk_eq s b hs hb k hk hk2]
  simp only [Option.bind_some]
  cases mixB s b
  · simp
  · rw [if_pos rfl, impl_hasInt_eq b hb a k hk2]; simp
theorem spec_mix_loop1 (s b : List Int) (hb : b.length ≤ 140737488355328) : ∀ (d n k : Nat), n ≤ b.length → b.length - n = d → d < k →
    spec_MixtureOk.l1 k (n : Int) s b = some (ascB b 1 24 d n && (decide (1 ≤ (s.length : Int) ∧ (s.length : Int) ≤ 5) && decide ((b.length : Int) ≤ 4))) := by
  intro d
  induction d with
  | zero =>
    intro n k h1 h2 hk
    obtain ⟨k, rfl⟩ : ∃ m, k = m + 1 := ⟨k - 1, by omega⟩
    simp only [spec_MixtureOk.l1, ascB, l01In_eq, Option.bind_some]
    rw [if_neg (by omega), Bool.true_and]
    by_cases c1 : 1 ≤ (s.length : Int) ∧ (s.length : Int) ≤ 5
    · rw [if_pos (decide_eq_true c1), decide_eq_true c1, Bool.true_and]
    · rw [if_neg (by simpa using c1), decide_eq_false c1, Bool.false_and]
  | succ d ih =>
    intro n k h1 h2 hk
    obtain ⟨k, rfl⟩ : ∃ m, k = m + 1 := ⟨k - 1, by omega⟩
    simp only [spec_MixtureOk.l1, ascB, l01In_eq, Option.bind_some]
    rw [if_pos (by omega), if_pos (by omega), rd_nat, wrap_next (by omega), ih (n + 1) k (by omega) (by omega) (by omega)]
    by_cases c1 : 1 ≤ b.getD n 0 ∧ b.getD n 0 ≤ 24
    · rw [if_pos (decide_eq_true c1), decide_eq_true c1, Bool.true_and]
      by_cases h0 : n = 0
      · rw [if_neg (by omega), decide_eq_true h0, Bool.true_or, Bool.true_and]
      · have e : wrap64 ((n : Int) - 1) = ((n - 1 : Nat) : Int) := by rw [w64 (by omega) (by omega)]; omega
        rw [if_pos (by omega), e, if_pos (by omega), if_pos (by omega), rd_nat, decide_eq_false h0, Bool.false_or]
        by_cases c2 : b.getD (n - 1) 0 < b.getD n 0
        · rw [if_neg (by omega), decide_eq_true c2, Bool.true_and]
        · rw [if_pos (by omega), decide_eq_false c2, Bool.false_and, Bool.false_and]
    · rw [if_neg (by simpa using c1), decide_eq_false c1, Bool.false_and, Bool.false_and, Bool.false_and]
theorem spec_mix_loop0 (s b : List Int) (hs : s.length ≤ 140737488355328) (hb : b.length ≤ 140737488355328) : ∀ (d n k : Nat), n ≤ s.length → s.length - n = d → d + b.length + 1 < k →
    spec_MixtureOk.l0 k (n : Int) s b = some (ascB s 0 48 d n && (ascB b 1 24 b.length 0 && (decide (1 ≤ (s.length : Int) ∧ (s.length : Int) ≤ 5) && decide ((b.length : Int) ≤ 4)))) := by
  intro d
  induction d with
  | zero =>
    intro n k h1 h2 hk
    obtain ⟨k, rfl⟩ : ∃ m, k = m + 1 := ⟨k - 1, by omega⟩
    simp only [spec_MixtureOk.l0, ascB]
    rw [if_neg (by omega), Bool.true_and]
    exact spec_mix_loop1 s b hb b.length 0 k (by omega) (by omega) (by omega)
  | succ d ih =>
    intro n k h1 h2 hk
    obtain ⟨k, rfl⟩ : ∃ m, k = m + 1 := ⟨k - 1, by omega⟩
    simp only [spec_MixtureOk.l0, ascB, l01In_eq, Option.bind_some]
    rw [if_pos (by omega), if_pos (by omega), rd_nat, wrap_next (by omega), ih (n + 1) k (by omega) (by omega) (by omega)]
    by_cases c1 : 0 ≤ s.getD n 0 ∧ s.getD n 0 ≤ 48
    · rw [if_pos (decide_eq_true c1), decide_eq_true c1, Bool.true_and]
      by_cases h0 : n = 0
      · rw [if_neg (by omega), decide_eq_true h0, Bool.true_or, Bool.true_and]
      · have e : wrap64 ((n : Int) - 1) = ((n - 1 : Nat) : Int) := by rw [w64 (by omega) (by omega)]; omega
        rw [if_pos (by omega), e, if_pos (by omega), if_pos (by omega), rd_nat, decide_eq_false h0, Bool.false_or]
        by_cases c2 : s.getD (n - 1) 0 < s.getD n 0
        · rw [if_neg (by omega), decide_eq_true c2, Bool.true_and]
        · rw [if_pos (by omega), decide_eq_false c2, Bool.false_and, Bool.false_and]
    · rw [if_neg (by simpa using c1), decide_eq_false c1, Bool.false_and, Bool.false_and, Bool.false_and]
theorem spec_MixtureOk_eq (s b : List Int) (hs : s.length ≤ 140737488355328) (hb : b.length ≤ 140737488355328) (k : Nat) (hk : s.length + b.length + 1 < k) : spec_MixtureOk.f k s b = some (mixB s b) := by
  unfold spec_MixtureOk.f mixB
  have h := spec_mix_loop0 s b hs hb s.length 0 k (by omega) (by omega) hk
  rw [Bool.and_assoc]
  exact h
theorem toIntS_loop (x : List Int) (hb : x.length ≤ 140737488355328) : ∀ (d n k : Nat) (y : List Int), n ≤ x.length → x.length - n = d → d < k → y.length = x.length →
    laws_toIntS.l0 k x y (n : Int) = some (y.take n ++ x.drop n) := by
  intro d
  induction d with
  | zero =>
    intro n k y h1 h2 hk hy
    obtain ⟨k, rfl⟩ : ∃ m, k = m + 1 := ⟨k - 1, by omega⟩
    simp only [laws_toIntS.l0]
    rw [if_neg (by omega), List.take_of_length_le (by omega), List.drop_of_length_le (by omega)]
    simp
  | succ d ih =>
    intro n k y h1 h2 hk hy
    obtain ⟨k, rfl⟩ : ∃ m, k = m + 1 := ⟨k - 1, by omega⟩
    simp only [laws_toIntS.l0]
    rw [if_pos (by omega), if_pos (by omega), if_pos (by omega), rd_nat, wrap_next (by omega), Int.toNat_natCast]
    rw [ih (n + 1) k _ (by omega) (by omega) (by omega) (by simpa using hy), take_set_next y n _ (by omega), drop_getD x 0 n (by omega)]
    rw [List.append_assoc]
    rfl
theorem toIntS_eq (x : List Int) (hb : x.length ≤ 35184372088832) (k : Nat) (hk : x.length < k) : laws_toIntS.f k x = some x := by
  unfold laws_toIntS.f
  rw [if_pos (by omega), Int.toNat_natCast, if_pos hb]
  have h := toIntS_loop x (by omega) x.length 0 k (List.replicate x.length 0) (by omega) (by omega) hk (by simp)
  simpa using h
theorem eqIntS_loop (x y : List Int) (hl : x.length = y.length) (hb : x.length ≤ 140737488355328) : ∀ (d n k : Nat), n ≤ x.length → x.length - n ≤ d → d < k → laws_eqIntS.l0 k x y (n : Int) = some (decide (x.drop n = y.drop n)) := by
  intro d
  induction d with
  | zero =>
    intro n k h1 h2 hk
    obtain ⟨k, rfl⟩ : ∃ m, k = m + 1 := ⟨k - 1, by omega⟩
    simp only [laws_eqIntS.l0]
    rw [if_neg (by omega), List.drop_of_length_le (by omega), List.drop_of_length_le (by omega)]
    simp
  | succ d ih =>
    intro n k h1 h2 hk
    obtain ⟨k, rfl⟩ : ∃ m, k = m + 1 := ⟨k - 1, by omega⟩
    simp only [laws_eqIntS.l0]
    by_cases hlt : n < x.length
    · rw [if_pos (by omega), if_pos (by omega), if_pos (by omega), rd_nat, rd_nat, wrap_next (by omega), drop_getD x 0 n hlt, drop_getD y 0 n (by omega), ih (n + 1) k (by omega) (by omega) (by omega)]
      by_cases e : x.getD n 0 = y.getD n 0
      · rw [if_pos e, e]; simp
      · rw [if_neg e]; simp only [List.cons.injEq, e, false_and, decide_false]
    · rw [if_neg (by omega), List.drop_of_length_le (by omega), List.drop_of_length_le (by omega)]
      simp
theorem eqIntS_eq (x y : List Int) (hb : x.length ≤ 140737488355328) (k : Nat) (hk : x.length < k) : laws_eqIntS.f k x y = some (decide (x = y)) := by
  unfold laws_eqIntS.f
  by_cases hl : x.length = y.length
  · rw [if_pos (by omega)]
    have h := eqIntS_loop x y hl hb x.length 0 k (by omega) (by omega) hk
    simpa using h
  · rw [if_neg (by omega)]
    have : x ≠ y := fun e => hl (by rw [e])
    simp [this]
theorem toMixture_eq (s b : List Int) (hs : s.length ≤ 35184372088832) (hb : b.length ≤ 35184372088832) (k : Nat) (hk : s.length < k) (hk2 : b.length < k) : laws_toMixture.f k s b = some (s, b) := by
  unfold laws_toMixture.f
  rw [toIntS_eq s hs k hk]; simp only [Option.bind_some]
  rw [toIntS_eq b hb k hk2]; simp only [Option.bind_some]
theorem eqMixture_self (s b : List Int) (hs : s.length ≤ 35184372088832) (hb : b.length ≤ 35184372088832) (k : Nat) (hk : s.length < k) (hk2 : b.length < k) : laws_eqMixture.f k s b s b = some true := by
  unfold laws_eqMixture.f
  rw [eqIntS_eq s s (by omega) k hk, eqIntS_eq b b (by omega) k hk2]
  simp
/-- the law's own look at the sizes -/
theorem szMixture_eq (s b : List Int) (hs : s.length ≤ 9223372036854775807) (hb : b.length ≤ 9223372036854775807) :
    (∃ r, laws_szMixture.f s b 1048576 = some r ∧ r < 0) ∨ (s.length ≤ 1048576 ∧ b.length ≤ 1048576 ∧ ∃ r, laws_szMixture.f s b 1048576 = some r ∧ ¬ r < 0) := by
  simp only [laws_szMixture.f, laws_szIntS.f]
  rw [w64 (n := 1048576 - (s.length : Int)) (by omega) (by omega)]
  by_cases h1 : 1048576 - (s.length : Int) < 0
  · rw [if_pos h1]
    exact .inl ⟨-1, rfl, by omega⟩
  · rw [if_neg h1]
    simp only [Option.bind_some]
    rw [if_neg h1, w64 (n := 1048576 - (s.length : Int) - (b.length : Int)) (by omega) (by omega)]
    by_cases h2 : 1048576 - (s.length : Int) - (b.length : Int) < 0
    · rw [if_pos h2]
      exact .inl ⟨-1, rfl, by omega⟩
    · rw [if_neg h2]
      simp only [Option.bind_some]
      rw [if_neg h2]
      exact .inr ⟨by omega, by omega, _, rfl, h2⟩
theorem spec_l28In_loop (a : Int) (x : List Int) (hb : x.length ≤ 140737488355328) : ∀ (d n k : Nat), n ≤ x.length → x.length - n = d → d < k → spec_l28In.l0 k x a (n : Int) = some (decide (a ∈ x.drop n)) := by
  intro d
  induction d with
  | zero =>
    intro n k h1 h2 hk
    obtain ⟨k, rfl⟩ : ∃ m, k = m + 1 := ⟨k - 1, by omega⟩
    simp only [spec_l28In.l0]
    rw [if_neg (by omega), List.drop_of_length_le (by omega)]
    simp
  | succ d ih =>
    intro n k h1 h2 hk
    obtain ⟨k, rfl⟩ : ∃ m, k = m + 1 := ⟨k - 1, by omega⟩
    simp only [spec_l28In.l0]
    rw [if_pos (by omega), if_pos (by omega), rd_nat, wrap_next (by omega), ih (n + 1) k (by omega) (by omega) (by omega), drop_getD x 0 n (by omega)]
    by_cases e : x.getD n 0 = a
    · rw [if_pos e, decide_eq_true (by rw [e]; exact List.mem_cons_self)]
    · rw [if_neg e]
      congr 1
      rw [decide_eq_decide]
      constructor
      · exact fun h => List.mem_cons_of_mem _ h
      · intro h
        rcases List.mem_cons.1 h with h | h
        · exact absurd h.symm e
        · exact h
theorem spec_BreakAt_eq (s b : List Int) (hs : s.length ≤ 140737488355328) (hb : b.length ≤ 140737488355328) (a : Int) (k : Nat) (hk : s.length + b.length + 1 < k) : spec_BreakAt.f k s b a = some (mixB s b && decide (a ∈ b)) := by
  unfold spec_BreakAt.f
  rw [spec_MixtureOk_eq s b hs hb k hk]
  simp only [Option.bind_some]
  cases mixB s b
  · simp
  · unfold spec_l28In.f
    have h := spec_l28In_loop a b hb b.length 0 k (by omega) (by omega) (by omega)
    rw [if_pos rfl]
    simp only [Int.natCast_zero, List.drop_zero] at h
    rw [h]; simp
theorem break_law (s b : List Int) (hs : s.length ≤ 9223372036854775807) (hb : b.length ≤ 9223372036854775807) (a : Int) (k : Nat) (hk : 3000000 < k) : laws_FnExactBreakAt.f k s b a = some true := by
  unfold laws_FnExactBreakAt.f
  rcases szMixture_eq s b hs hb with ⟨r, e, hr⟩ | ⟨h1, h2, r, e, hr⟩
  · rw [e]; simp only [Option.bind_some]; rw [if_pos hr]
  · rw [e]; simp only [Option.bind_some]; rw [if_neg hr, toMixture_eq s b (by omega) (by omega) k (by omega) (by omega)]
    simp only [Option.bind_some]
    rw [spec_BreakAt_eq s b (by omega) (by omega) a k (by omega), impl_BreakAt_eq s b (by omega) (by omega) a k (by omega) (by omega), eqMixture_self s b (by omega) (by omega) k (by omega) (by omega)]
    simp
theorem FnExactBreakAt (s : List Int) (hs : s.length ≤ maxLen) (b : List Int) (hb : b.length ≤ maxLen) (a : Int) : ∃ k, laws_FnExactBreakAt.f k s b a = some true := by
  obtain ⟨k, hk⟩ : ∃ k : Nat, 3000000 < k := ⟨3000001, by omega⟩
  unfold maxLen at hs hb
  exact ⟨k, break_law s b hs hb a k hk⟩
end Go.Proofs.Ytbimhcdfojbjgab.Pure
