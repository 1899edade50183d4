/- The plain law of FnExactCoupled: the printed function of the law answers true. Its conditions are those of the statement's own bounds. -/
import Derived.Test.YtookbccmhflhlaaHFnExactCoupledx2
namespace Go.Proofs.Ytookbccmhflhlaa.Pure
open Go.RowKit Go.Proofs.Ytookbccmhflhlaa.PFnExactCoupled Go.Proofs.YtookbccmhflhlaaW.PrintWords Go.Proofs.YtookbccmhflhlaaW.PrintLast Go.Proofs.YtookbccmhflhlaaW.PrintMore
set_option linter.unusedVariables false
theorem wrap_next {n : Nat} (h : n ≤ 140737488355328) : wrap64 ((n : Int) + 1) = ((n + 1 : Nat) : Int) := by unfold wrap64; omega
theorem drop_getD {α : Type} (x : List α) (z : α) (n : Nat) (h : n < x.length) : x.drop n = x.getD n z :: x.drop (n + 1) := by
  rw [List.getD_eq_getElem?_getD, List.getElem?_eq_getElem h]
  exact List.drop_eq_getElem_cons h
theorem rd_nat (x : List Int) (n : Nat) : rd x (n : Int) = x.getD n 0 := by unfold rd; rw [Int.toNat_natCast]
theorem take_set_next {α : Type} (x : List α) (n : Nat) (v : α) (h : n < x.length) : (x.set n v).take (n + 1) = x.take n ++ [v] := by
  rw [List.take_succ_eq_append_getElem (by simpa using h)]
  congr 1
  · rw [List.take_set_of_le (Nat.le_refl _)]
  · simp
theorem l01In_eq (a b c : Int) : spec_l01In.f a b c = some (decide (b ≤ a ∧ a ≤ c)) := by
  unfold spec_l01In.f
  by_cases h : a ≥ b
  · rw [if_pos h]; congr 1; by_cases h2 : a ≤ c <;> simp [h2, h]
  · rw [if_neg h]; congr 1; simp; omega
theorem within_eq (a b c : Int) : impl_within.f a b c = some (decide (b ≤ a ∧ a ≤ c)) := by
  unfold impl_within.f
  by_cases h : b ≤ a
  · rw [if_pos h]; congr 1; by_cases h2 : a ≤ c <;> simp [h2, h]
  · rw [if_neg h]; congr 1; simp; omega
theorem law_of {α : Type} [DecidableEq α] {s i : Option α} {r : α} (hs : s = some r) (hi : i = some r) : (s.bind fun t => i.bind fun u => if u = t then some true else some false) = some true := by
  subst hs hi; simp
theorem law_ofb {s i : Option Bool} {r : Bool} (hs : s = some r) (hi : i = some r) : (s.bind fun t => i.bind fun u => if (u != t) = true then some false else some true) = some true := by
  subst hs hi; simp
theorem wf_i64 {a : Int} (h : (Lit.int .i64 a).wf = true) : -9223372036854775808 ≤ a ∧ a ≤ 9223372036854775807 := by
  have h' : (decide ((-9223372036854775808 : Int) ≤ a) && decide (a ≤ 9223372036854775807)) = true := h
  simp at h'; omega
theorem w64 {n : Int} (h1 : -9223372036854775808 ≤ n) (h2 : n ≤ 9223372036854775807) : wrap64 n = n := by unfold wrap64; omega
theorem mul_bd {a b A B : Int} (h0 : 0 ≤ a) (h1 : a ≤ A) (h2 : 0 ≤ b) (h3 : b ≤ B) : 0 ≤ a * b ∧ a * b ≤ A * B := by
  refine ⟨Int.mul_nonneg h0 h2, ?_⟩
  exact Int.le_trans (Int.mul_le_mul_of_nonneg_right h1 h2) (Int.mul_le_mul_of_nonneg_left h3 (by omega))
theorem tdiv_nn {a b : Int} (h : 0 ≤ a) : a.tdiv b = a / b := Int.tdiv_eq_ediv_of_nonneg h
theorem div_bd {a A c : Int} (h0 : 0 ≤ a) (h1 : a ≤ A) (hc : 0 < c) : 0 ≤ a / c ∧ a / c ≤ A / c :=
  ⟨Int.ediv_nonneg h0 (by omega), Int.ediv_le_ediv hc h1⟩
theorem l28In_loop (l : List Int) (v : Int) (hb : l.length ≤ 140737488355328) : ∀ (d n k : Nat), n ≤ l.length → l.length - n = d → d < k → spec_l28In.l0 k l v (n : Int) = some (decide (v ∈ l.drop n)) := by
  intro d
  induction d with
  | zero =>
    intro n k h1 h2 hk
    obtain ⟨k, rfl⟩ : ∃ m, k = m + 1 := ⟨k - 1, by omega⟩
    simp only [spec_l28In.l0]
    rw [if_neg (by omega), List.drop_of_length_le (by omega)]
    simp
  | succ d ih =>
    intro n k h1 h2 hk
    obtain ⟨k, rfl⟩ : ∃ m, k = m + 1 := ⟨k - 1, by omega⟩
    simp only [spec_l28In.l0]
    rw [if_pos (by omega), if_pos (by omega), rd_nat, wrap_next (by omega), drop_getD l 0 n (by omega), ih (n + 1) k (by omega) (by omega) (by omega)]
    by_cases e : l.getD n 0 = v
    · rw [if_pos e, e]; simp
    · rw [if_neg e]
      have e' : v ≠ l.getD n 0 := fun h => e h.symm
      simp only [List.mem_cons, e', false_or]
theorem l28In_eq (l : List Int) (v : Int) (hb : l.length ≤ 140737488355328) (k : Nat) (hk : l.length < k) : spec_l28In.f k l v = some (decide (v ∈ l)) := by
  unfold spec_l28In.f
  have h := l28In_loop l v hb l.length 0 k (by omega) (by omega) hk
  simpa using h
theorem specCoupled_fill (l : List Int) (a : Int) (hb : l.length ≤ 1048576) (ha : -24 ≤ a ∧ a ≤ 24) : ∀ (d j k : Nat) (y : List Int), j ≤ 25 → 25 - j = d → 2 * d + l.length + 10 < k → y.length ≤ j →
    spec_Coupled.l1 k l a y (j : Int) = some (y ++ ((List.range' j d).filter (impl_Coupled.hit l a)).map Int.ofNat) := by
  intro d
  induction d with
  | zero =>
    intro j k y h1 h2 hk hy
    obtain ⟨k, rfl⟩ : ∃ m, k = m + 2 := ⟨k - 2, by omega⟩
    simp only [spec_Coupled.l1]
    rw [if_neg (by omega)]
    simp [spec_Coupled.j2]
  | succ d ih =>
    intro j k y h1 h2 hk hy
    obtain ⟨k, rfl⟩ : ∃ m, k = m + 2 := ⟨k - 2, by omega⟩
    have w1 : wrap64 ((j : Int) + 1) = ((j + 1 : Nat) : Int) := wrap_next (by omega)
    have w2 : wrap64 ((j : Int) - a) = (j : Int) - a := w64 (by omega) (by omega)
    simp only [spec_Coupled.l1]
    rw [if_pos (by omega), l01In_eq]
    simp only [Option.bind_some, ha, and_self, decide_true, spec_Coupled.j2, if_true]
    rw [l28In_eq l _ (by omega) k (by omega), w1, w2, l28In_eq l _ (by omega) k (by omega)]
    simp only [Option.bind_some, decide_eq_true_eq]
    have hr : List.range' j (d + 1) = j :: List.range' (j + 1) d := by rw [List.range'_succ]
    rw [hr]
    by_cases c1 : (j : Int) ∈ l
    · rw [if_pos c1, if_pos (by omega), ih (j + 1) k _ (by omega) (by omega) (by omega) (by simp; omega)]
      rw [List.filter_cons_of_pos (by simp [impl_Coupled.hit, c1])]
      simp
    · rw [if_neg c1]
      by_cases c2 : (j : Int) - a ∈ l
      · rw [if_pos c2, if_pos (by omega), ih (j + 1) k _ (by omega) (by omega) (by omega) (by simp; omega)]
        rw [List.filter_cons_of_pos (by simp [impl_Coupled.hit, c2])]
        simp
      · rw [if_neg c2, ih (j + 1) k _ (by omega) (by omega) (by omega) (by omega)]
        rw [List.filter_cons_of_neg (by simp [impl_Coupled.hit, c1, c2])]
theorem specCoupled_scan (l : List Int) (a : Int) (hb : l.length ≤ 1048576) : ∀ (d n k : Nat), n ≤ l.length → l.length - n = d → d + l.length + 100 < k →
    spec_Coupled.l0 k l a [] (n : Int) = if (∀ x ∈ l.drop n, 0 ≤ x ∧ x ≤ 24) ∧ -24 ≤ a ∧ a ≤ 24 then some (((List.range 25).filter (impl_Coupled.hit l a)).map Int.ofNat) else some [] := by
  intro d
  induction d with
  | zero =>
    intro n k h1 h2 hk
    obtain ⟨k, rfl⟩ : ∃ m, k = m + 1 := ⟨k - 1, by omega⟩
    simp only [spec_Coupled.l0]
    rw [if_neg (by omega), List.drop_of_length_le (by omega)]
    by_cases ha : -24 ≤ a ∧ a ≤ 24
    · rw [if_pos ⟨by simp, ha⟩]
      have h := specCoupled_fill l a hb ha 25 0 k [] (by omega) (by omega) (by omega) (by simp)
      rw [List.range_eq_range']
      simpa using h
    · rw [if_neg (fun h => ha h.2)]
      obtain ⟨k, rfl⟩ : ∃ m, k = m + 2 := ⟨k - 2, by omega⟩
      simp only [spec_Coupled.l1]
      rw [if_pos (by omega), l01In_eq]
      simp [ha, spec_Coupled.j2]
  | succ d ih =>
    intro n k h1 h2 hk
    obtain ⟨k, rfl⟩ : ∃ m, k = m + 1 := ⟨k - 1, by omega⟩
    simp only [spec_Coupled.l0]
    rw [if_pos (by omega), if_pos (by omega), rd_nat, wrap_next (by omega), l01In_eq, drop_getD l 0 n (by omega)]
    simp only [Option.bind_some, decide_eq_true_eq]
    by_cases c : 0 ≤ l.getD n 0 ∧ l.getD n 0 ≤ 24
    · rw [if_pos c, ih (n + 1) k (by omega) (by omega) (by omega)]
      simp only [List.mem_cons, forall_eq_or_imp, c, and_self, true_and]
    · rw [if_neg c, if_neg (fun h => c (h.1 _ (by simp)))]
theorem spec_Coupled_eq (l : List Int) (a : Int) (hb : l.length ≤ 1048576) (k : Nat) (hk : 3000000 < k) : spec_Coupled.f k l a = impl_Coupled.f l a := by
  unfold spec_Coupled.f impl_Coupled.f
  have h := specCoupled_scan l a hb l.length 0 k (by omega) (by omega) (by omega)
  simpa using h
theorem impl_Coupled_some (l : List Int) (a : Int) : ∃ r, impl_Coupled.f l a = some r ∧ r.length ≤ 25 := by
  unfold impl_Coupled.f
  split
  · refine ⟨_, rfl, ?_⟩
    have := List.length_filter_le (impl_Coupled.hit l a) (List.range 25)
    simp at this
    simpa using this
  · exact ⟨_, rfl, by simp⟩
theorem toIntS_loop (x : List Int) (hb : x.length ≤ 140737488355328) : ∀ (d n k : Nat) (y : List Int), n ≤ x.length → x.length - n = d → d < k → y.length = x.length →
    laws_toIntS.l0 k x y (n : Int) = some (y.take n ++ x.drop n) := by
  intro d
  induction d with
  | zero =>
    intro n k y h1 h2 hk hy
    obtain ⟨k, rfl⟩ : ∃ m, k = m + 1 := ⟨k - 1, by omega⟩
    simp only [laws_toIntS.l0]
    rw [if_neg (by omega), List.take_of_length_le (by omega), List.drop_of_length_le (by omega)]
    simp
  | succ d ih =>
    intro n k y h1 h2 hk hy
    obtain ⟨k, rfl⟩ : ∃ m, k = m + 1 := ⟨k - 1, by omega⟩
    simp only [laws_toIntS.l0]
    rw [if_pos (by omega), if_pos (by omega), if_pos (by omega), rd_nat, wrap_next (by omega), Int.toNat_natCast]
    rw [ih (n + 1) k _ (by omega) (by omega) (by omega) (by simpa using hy), take_set_next y n _ (by omega), drop_getD x 0 n (by omega)]
    rw [List.append_assoc]
    rfl
theorem toIntS_eq (x : List Int) (hb : x.length ≤ 35184372088832) (k : Nat) (hk : x.length < k) : laws_toIntS.f k x = some x := by
  unfold laws_toIntS.f
  rw [if_pos (by omega), Int.toNat_natCast, if_pos hb]
  have h := toIntS_loop x (by omega) x.length 0 k (List.replicate x.length 0) (by omega) (by omega) hk (by simp)
  simpa using h
theorem eqIntS_loop (x y : List Int) (hl : x.length = y.length) (hb : x.length ≤ 140737488355328) : ∀ (d n k : Nat), n ≤ x.length → x.length - n ≤ d → d < k → laws_eqIntS.l0 k x y (n : Int) = some (decide (x.drop n = y.drop n)) := by
  intro d
  induction d with
  | zero =>
    intro n k h1 h2 hk
    obtain ⟨k, rfl⟩ : ∃ m, k = m + 1 := ⟨k - 1, by omega⟩
    simp only [laws_eqIntS.l0]
    rw [if_neg (by omega), List.drop_of_length_le (by omega), List.drop_of_length_le (by omega)]
    simp
  | succ d ih =>
    intro n k h1 h2 hk
    obtain ⟨k, rfl⟩ : ∃ m, k = m + 1 := ⟨k - 1, by omega⟩
    simp only [laws_eqIntS.l0]
    by_cases hlt : n < x.length
    · rw [if_pos (by omega), if_pos (by omega), if_pos (by omega), rd_nat, rd_nat, wrap_next (by omega), drop_getD x 0 n hlt, drop_getD y 0 n (by omega), ih (n + 1) k (by omega) (by omega) (by omega)]
      by_cases e : x.getD n 0 = y.getD n 0
      · rw [if_pos e, e]; simp
      · rw [if_neg e]; simp only [List.cons.injEq, e, false_and, decide_false]
    · rw [if_neg (by omega), List.drop_of_length_le (by omega), List.drop_of_length_le (by omega)]
      simp
theorem eqIntS_eq (x y : List Int) (hb : x.length ≤ 140737488355328) (k : Nat) (hk : x.length < k) : laws_eqIntS.f k x y = some (decide (x = y)) := by
  unfold laws_eqIntS.f
  by_cases hl : x.length = y.length
  · rw [if_pos (by omega)]
    have h := eqIntS_loop x y hl hb x.length 0 k (by omega) (by omega) hk
    simpa using h
  · rw [if_neg (by omega)]
    have : x ≠ y := fun e => hl (by rw [e])
    simp [this]
def iota (m : Int) : Nat → List Int
  | 0 => []
  | n + 1 => m :: iota (m + 1) n
theorem iota_length (n : Nat) : ∀ m : Int, (iota m n).length = n := by
  induction n with
  | zero => intro m; rfl
  | succ n ih => intro m; simp [iota, ih]
theorem wrap_int {m : Int} (h : -9223372036854775808 ≤ m) (h2 : m ≤ 9223372036854775807) : wrap64 m = m := by unfold wrap64; omega
theorem markIntS_loop : ∀ (d n k : Nat) (x : List Int) (m : Int), x.length ≤ 140737488355328 → n ≤ x.length → x.length - n = d → d < k → 0 ≤ m → m + d ≤ 281474976710656 →
    laws_markIntS.l0 k x m (n : Int) = some (m + d, x.take n ++ iota m d) := by
  intro d
  induction d with
  | zero =>
    intro n k x m hb h1 h2 hk hm hm2
    obtain ⟨k, rfl⟩ : ∃ m, k = m + 1 := ⟨k - 1, by omega⟩
    simp only [laws_markIntS.l0]
    rw [if_neg (by omega), List.take_of_length_le (by omega)]
    simp [iota]
  | succ d ih =>
    intro n k x m hb h1 h2 hk hm hm2
    obtain ⟨k, rfl⟩ : ∃ m, k = m + 1 := ⟨k - 1, by omega⟩
    simp only [laws_markIntS.l0]
    rw [if_pos (by omega), if_pos (by omega), wrap_next (by omega), wrap_int (m := m + 1) (by omega) (by omega), Int.toNat_natCast]
    rw [ih (n + 1) k (x.set n m) (m + 1) (by simpa using hb) (by simp; omega) (by simp; omega) (by omega) (by omega) (by omega), take_set_next x n m (by omega)]
    simp [iota]
    omega
theorem markIntS_eq (x : List Int) (hb : x.length ≤ 140737488355328) (k : Nat) (hk : x.length < k) (m : Int) (h0 : 0 ≤ m) (h1 : m ≤ 140737488355328) : laws_markIntS.f k x m = some (m + x.length, iota m x.length) := by
  unfold laws_markIntS.f
  have h := markIntS_loop x.length 0 k x m hb (by omega) (by omega) hk h0 (by omega)
  simpa using h
theorem heldIntS_loop : ∀ (d n k : Nat) (x : List Int) (m : Int), x.length ≤ 140737488355328 → n ≤ x.length → x.length - n = d → d < k → 0 ≤ m → m + d ≤ 281474976710656 → x.drop n = iota m d →
    laws_heldIntS.l0 k x m (n : Int) = some (m + d) := by
  intro d
  induction d with
  | zero =>
    intro n k x m hb h1 h2 hk hm hm2 hx
    obtain ⟨k, rfl⟩ : ∃ m, k = m + 1 := ⟨k - 1, by omega⟩
    simp only [laws_heldIntS.l0]
    rw [if_neg (by omega)]
    simp
  | succ d ih =>
    intro n k x m hb h1 h2 hk hm hm2 hx
    obtain ⟨k, rfl⟩ : ∃ m, k = m + 1 := ⟨k - 1, by omega⟩
    simp only [laws_heldIntS.l0]
    rw [drop_getD x 0 n (by omega)] at hx
    injection hx with e1 e2
    rw [if_pos (by omega), if_pos (by omega), rd_nat, if_pos e1, wrap_next (by omega), wrap_int (m := m + 1) (by omega) (by omega), ih (n + 1) k x (m + 1) hb (by omega) (by omega) (by omega) (by omega) (by omega) e2]
    congr 1
    omega
theorem heldIntS_eq (n : Nat) (hb : n ≤ 140737488355328) (k : Nat) (hk : n < k) (m : Int) (h0 : 0 ≤ m) (h1 : m ≤ 140737488355328) : laws_heldIntS.f k (iota m n) m = some (m + n) := by
  unfold laws_heldIntS.f
  have hl := iota_length n m
  exact heldIntS_loop n 0 k (iota m n) m (by omega) (by omega) (by omega) hk h0 (by omega) (by simp)
theorem coupled_law (x : List Int) (a : Int) (k : Nat) (hk : 4000000 < k) : laws_FnExactCoupled.f k x a = some true := by
  unfold laws_FnExactCoupled.f
  by_cases hb : (x.length : Int) > 1048576
  · rw [if_pos hb]
  · obtain ⟨r, e, hr⟩ := impl_Coupled_some x a
    rw [if_neg hb, toIntS_eq x (by omega) k (by omega)]
    simp only [Option.bind_some]
    rw [spec_Coupled_eq x a (by omega) k (by omega), e]
    simp only [Option.bind_some]
    rw [eqIntS_eq r r (by omega) k (by omega), eqIntS_eq x x (by omega) k (by omega), markIntS_eq x (by omega) k (by omega) 1 (by omega) (by omega)]
    simp only [Option.bind_some, decide_true, if_true]
    rw [if_neg (by omega)]
    obtain ⟨k, rfl⟩ : ∃ m, k = m + 1 := ⟨k - 1, by omega⟩
    rw [laws_FnExactCoupled.j0]
    simp only [Bool.not_true, Bool.false_eq_true, if_false]
    rw [markIntS_eq r (by omega) k (by omega) 1 (by omega) (by omega)]
    simp only [Option.bind_some]
    rw [heldIntS_eq _ (by omega) k (by omega) 1 (by omega) (by omega)]
    simp only [Option.bind_some]
    rw [if_neg (by omega), if_pos trivial, toIntS_eq x (by omega) k (by omega)]
    simp only [Option.bind_some]
    rw [e]
    simp only [Option.bind_some]
    rw [eqIntS_eq r r (by omega) k (by omega)]
    simp only [Option.bind_some, decide_true, if_true]
    rw [if_neg (by omega)]
theorem FnExactCoupled : laws_FnExactCoupled.Pure := by
  intro x a hx h8 hw ha
  obtain ⟨k, hk⟩ : ∃ k : Nat, 4000000 < k := ⟨4000001, by omega⟩
  exact ⟨k, coupled_law x a k hk⟩
end Go.Proofs.Ytookbccmhflhlaa.Pure
