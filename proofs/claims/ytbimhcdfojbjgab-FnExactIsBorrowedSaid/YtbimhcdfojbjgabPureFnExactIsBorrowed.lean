/- The plain law of FnExactIsBorrowed: the printed function of the law answers true. Its conditions are those of the statement's own bounds. -/
import Derived.Test.YtbimhcdfojbjgabHFnExactIsBorrowedx5
namespace Go.Proofs.Ytbimhcdfojbjgab.Pure
open Go.RowKit Go.Proofs.Ytbimhcdfojbjgab.PFnExactIsBorrowed Go.Proofs.YtbimhcdfojbjgabW.PrintWords Go.Proofs.YtbimhcdfojbjgabW.PrintLast Go.Proofs.YtbimhcdfojbjgabW.PrintMore
set_option linter.unusedVariables false
theorem l01In_eq (a b c : Int) : spec_l01In.f a b c = some (decide (b ≤ a ∧ a ≤ c)) := by
  unfold spec_l01In.f
  by_cases h : a ≥ b
  · rw [if_pos h]; congr 1; by_cases h2 : a ≤ c <;> simp [h2, h]
  · rw [if_neg h]; congr 1; simp; omega
theorem within_eq (a b c : Int) : impl_within.f a b c = some (decide (b ≤ a ∧ a ≤ c)) := by
  unfold impl_within.f
  by_cases h : b ≤ a
  · rw [if_pos h]; congr 1; by_cases h2 : a ≤ c <;> simp [h2, h]
  · rw [if_neg h]; congr 1; simp; omega
theorem law_of {α : Type} [DecidableEq α] {s i : Option α} {r : α} (hs : s = some r) (hi : i = some r) : (s.bind fun t => i.bind fun u => if u = t then some true else some false) = some true := by
  subst hs hi; simp
theorem law_ofb {s i : Option Bool} {r : Bool} (hs : s = some r) (hi : i = some r) : (s.bind fun t => i.bind fun u => if (u != t) = true then some false else some true) = some true := by
  subst hs hi; simp
theorem wf_i64 {a : Int} (h : (Lit.int .i64 a).wf = true) : -9223372036854775808 ≤ a ∧ a ≤ 9223372036854775807 := by
  have h' : (decide ((-9223372036854775808 : Int) ≤ a) && decide (a ≤ 9223372036854775807)) = true := h
  simp at h'; omega
theorem w64 {n : Int} (h1 : -9223372036854775808 ≤ n) (h2 : n ≤ 9223372036854775807) : wrap64 n = n := by unfold wrap64; omega
theorem mul_bd {a b A B : Int} (h0 : 0 ≤ a) (h1 : a ≤ A) (h2 : 0 ≤ b) (h3 : b ≤ B) : 0 ≤ a * b ∧ a * b ≤ A * B := by
  refine ⟨Int.mul_nonneg h0 h2, ?_⟩
  exact Int.le_trans (Int.mul_le_mul_of_nonneg_right h1 h2) (Int.mul_le_mul_of_nonneg_left h3 (by omega))
theorem tdiv_nn {a b : Int} (h : 0 ≤ a) : a.tdiv b = a / b := Int.tdiv_eq_ediv_of_nonneg h
theorem div_bd {a A c : Int} (h0 : 0 ≤ a) (h1 : a ≤ A) (hc : 0 < c) : 0 ≤ a / c ∧ a / c ≤ A / c :=
  ⟨Int.ediv_nonneg h0 (by omega), Int.ediv_le_ediv hc h1⟩
theorem wrap_next {n : Nat} (h : n ≤ 140737488355328) : wrap64 ((n : Int) + 1) = ((n + 1 : Nat) : Int) := by unfold wrap64; omega
theorem drop_getD {α : Type} (x : List α) (z : α) (n : Nat) (h : n < x.length) : x.drop n = x.getD n z :: x.drop (n + 1) := by
  rw [List.getD_eq_getElem?_getD, List.getElem?_eq_getElem h]
  exact List.drop_eq_getElem_cons h
theorem rd_nat (x : List Int) (n : Nat) : rd x (n : Int) = x.getD n 0 := by unfold rd; rw [Int.toNat_natCast]
theorem take_set_next {α : Type} (x : List α) (n : Nat) (v : α) (h : n < x.length) : (x.set n v).take (n + 1) = x.take n ++ [v] := by
  rw [List.take_succ_eq_append_getElem (by simpa using h)]
  congr 1
  · rw [List.take_set_of_le (Nat.le_refl _)]
  · simp
theorem rdSk_nat (x : List S101) (n : Nat) : rd_T101 x (n : Int) = x.getD n z101 := by unfold rd_T101; rw [Int.toNat_natCast]
def stopB (s : S101) : Bool := decide ((0 ≤ s.f0 ∧ s.f0 ≤ 3) ∧ (-12 ≤ s.f1 ∧ s.f1 ≤ 24))
def stopsB (x : List S101) : Bool := x.all stopB && decide (x.length ≤ 6)
theorem impl_stops_loop (x : List S101) (hb : x.length ≤ 140737488355328) : ∀ (d n k : Nat), n ≤ x.length → x.length - n = d → d < k → impl_StopsOk.l0 k x x (x.length : Int) (n : Int) = some ((x.drop n).all stopB && decide (x.length ≤ 6)) := by
  intro d
  induction d with
  | zero =>
    intro n k h1 h2 hk
    obtain ⟨k, rfl⟩ : ∃ m, k = m + 1 := ⟨k - 1, by omega⟩
    simp only [impl_StopsOk.l0]
    rw [if_neg (by omega), List.drop_of_length_le (by omega)]
    simp only [List.all_nil, Bool.true_and]
    congr 1; rw [decide_eq_decide]; omega
  | succ d ih =>
    intro n k h1 h2 hk
    obtain ⟨k, rfl⟩ : ∃ m, k = m + 1 := ⟨k - 1, by omega⟩
    simp only [impl_StopsOk.l0, within_eq, Option.bind_some]
    rw [if_pos (by omega), if_pos (by omega), if_pos (by omega), rdSk_nat, wrap_next (by omega), drop_getD x z101 n (by omega), List.all_cons]
    by_cases c1 : 0 ≤ (x.getD n z101).f0 ∧ (x.getD n z101).f0 ≤ 3
    · rw [if_pos (decide_eq_true c1)]
      by_cases c2 : -12 ≤ (x.getD n z101).f1 ∧ (x.getD n z101).f1 ≤ 24
      · rw [if_pos (decide_eq_true c2), ih (n + 1) k (by omega) (by omega) (by omega)]
        have : stopB (x.getD n z101) = true := decide_eq_true ⟨c1, c2⟩
        rw [this, Bool.true_and]
      · rw [if_neg (by simpa using c2)]
        have : stopB (x.getD n z101) = false := decide_eq_false (fun hh => c2 hh.2)
        rw [this, Bool.false_and, Bool.false_and]
    · rw [if_neg (by simpa using c1)]
      have : stopB (x.getD n z101) = false := decide_eq_false (fun hh => c1 hh.1)
      rw [this, Bool.false_and, Bool.false_and]
theorem impl_StopsOk_eq (x : List S101) (hb : x.length ≤ 140737488355328) (k : Nat) (hk : x.length < k) : impl_StopsOk.f k x = some (stopsB x) := by
  unfold impl_StopsOk.f stopsB
  have h := impl_stops_loop x hb x.length 0 k (by omega) (by omega) hk
  simpa using h
theorem spec_stops_loop (x : List S101) (hb : x.length ≤ 140737488355328) : ∀ (d n k : Nat), n ≤ x.length → x.length - n = d → d < k → spec_StopsOk.l0 k x (n : Int) = some ((x.drop n).all stopB && decide (x.length ≤ 6)) := by
  intro d
  induction d with
  | zero =>
    intro n k h1 h2 hk
    obtain ⟨k, rfl⟩ : ∃ m, k = m + 1 := ⟨k - 1, by omega⟩
    simp only [spec_StopsOk.l0]
    rw [if_neg (by omega), List.drop_of_length_le (by omega)]
    simp only [List.all_nil, Bool.true_and]
    congr 1; rw [decide_eq_decide]; omega
  | succ d ih =>
    intro n k h1 h2 hk
    obtain ⟨k, rfl⟩ : ∃ m, k = m + 1 := ⟨k - 1, by omega⟩
    simp only [spec_StopsOk.l0, l01In_eq, Option.bind_some]
    rw [if_pos (by omega), if_pos (by omega), rdSk_nat, wrap_next (by omega), drop_getD x z101 n (by omega), List.all_cons]
    by_cases c1 : 0 ≤ (x.getD n z101).f0 ∧ (x.getD n z101).f0 ≤ 3
    · rw [if_pos (decide_eq_true c1)]
      by_cases c2 : -12 ≤ (x.getD n z101).f1 ∧ (x.getD n z101).f1 ≤ 24
      · rw [if_pos (decide_eq_true c2), ih (n + 1) k (by omega) (by omega) (by omega)]
        have : stopB (x.getD n z101) = true := decide_eq_true ⟨c1, c2⟩
        rw [this, Bool.true_and]
      · rw [if_neg (by simpa using c2)]
        have : stopB (x.getD n z101) = false := decide_eq_false (fun hh => c2 hh.2)
        rw [this, Bool.false_and, Bool.false_and]
    · rw [if_neg (by simpa using c1)]
      have : stopB (x.getD n z101) = false := decide_eq_false (fun hh => c1 hh.1)
      rw [this, Bool.false_and, Bool.false_and]
theorem spec_StopsOk_eq (x : List S101) (hb : x.length ≤ 140737488355328) (k : Nat) (hk : x.length < k) : spec_StopsOk.f k x = some (stopsB x) := by
  unfold spec_StopsOk.f stopsB
  have h := spec_stops_loop x hb x.length 0 k (by omega) (by omega) hk
  simpa using h
theorem rdSa_nat (x : List S103) (n : Nat) : rd_T103 x (n : Int) = x.getD n z103 := by unfold rd_T103; rw [Int.toNat_natCast]
theorem rdSi_nat (x : List S101) (n : Nat) : rd_T101 x (n : Int) = x.getD n z101 := by unfold rd_T101; rw [Int.toNat_natCast]
def conS (s : S103) : S101 := ⟨s.f0, s.f1⟩
theorem toStopS_loop (x : List S103) (hb : x.length ≤ 140737488355328) : ∀ (d n k : Nat) (y : List S101), n ≤ x.length → x.length - n = d → d < k → y.length = x.length →
    laws_toStopS.l0 k x y (n : Int) = some (y.take n ++ (x.drop n).map conS) := by
  intro d
  induction d with
  | zero =>
    intro n k y h1 h2 hk hy
    obtain ⟨k, rfl⟩ : ∃ m, k = m + 1 := ⟨k - 1, by omega⟩
    simp only [laws_toStopS.l0]
    rw [if_neg (by omega), List.take_of_length_le (by omega), List.drop_of_length_le (by omega)]
    simp
  | succ d ih =>
    intro n k y h1 h2 hk hy
    obtain ⟨k, rfl⟩ : ∃ m, k = m + 1 := ⟨k - 1, by omega⟩
    simp only [laws_toStopS.l0, laws_toStop.f, Option.bind_some]
    rw [if_pos (by omega), if_pos (by omega), if_pos (by omega), rdSa_nat, wrap_next (by omega), Int.toNat_natCast]
    rw [ih (n + 1) k _ (by omega) (by omega) (by omega) (by simpa using hy), take_set_next y n _ (by omega), drop_getD x z103 n (by omega)]
    rw [List.map_cons, List.append_assoc]
    rfl
theorem toStopS_eq (x : List S103) (hb : x.length ≤ 17592186044416) (k : Nat) (hk : x.length < k) : laws_toStopS.f k x = some (x.map conS) := by
  unfold laws_toStopS.f
  rw [if_pos (by omega), Int.toNat_natCast, if_pos hb]
  have h := toStopS_loop x (by omega) x.length 0 k (List.replicate x.length z101) (by omega) (by omega) hk (by simp)
  simpa using h
theorem eqStopS_loop (x : List S101) (hb : x.length ≤ 140737488355328) : ∀ (d n k : Nat), n ≤ x.length → x.length - n = d → d < k → laws_eqStopS.l0 k x x (n : Int) = some true := by
  intro d
  induction d with
  | zero =>
    intro n k h1 h2 hk
    obtain ⟨k, rfl⟩ : ∃ m, k = m + 1 := ⟨k - 1, by omega⟩
    simp only [laws_eqStopS.l0]
    rw [if_neg (by omega)]
  | succ d ih =>
    intro n k h1 h2 hk
    obtain ⟨k, rfl⟩ : ∃ m, k = m + 1 := ⟨k - 1, by omega⟩
    simp only [laws_eqStopS.l0, laws_eqStop.f]
    rw [if_pos (by omega), if_pos (by omega), if_pos (by omega), wrap_next (by omega)]
    simp only [if_true, Option.bind_some]
    exact ih (n + 1) k (by omega) (by omega) (by omega)
theorem eqStopS_self (x : List S101) (hb : x.length ≤ 140737488355328) (k : Nat) (hk : x.length < k) : laws_eqStopS.f k x x = some true := by
  unfold laws_eqStopS.f
  rw [if_pos rfl]
  exact eqStopS_loop x hb x.length 0 k (by omega) (by omega) hk
def borrowed (x : List S101) (a b : Int) : Bool :=
  stopsB x && decide (0 ≤ a ∧ a ≤ (x.length : Int) - 1) && decide (0 ≤ b ∧ b ≤ (x.length : Int) - 1) && !decide (a = b) && ((rd_T101 x a).f0 == (rd_T101 x b).f0)
theorem spec_IsBorrowed_eq (x : List S101) (hb : x.length ≤ 140737488355328) (a b : Int) (k : Nat) (hk : x.length < k) : spec_IsBorrowed.f k x a b = some (borrowed x a b) := by
  unfold spec_IsBorrowed.f borrowed
  rw [spec_StopsOk_eq x hb k hk, w64 (n := (x.length : Int) - 1) (by omega) (by omega)]
  simp only [Option.bind_some, l01In_eq]
  cases hs : stopsB x
  · simp
  · by_cases c1 : 0 ≤ a ∧ a ≤ (x.length : Int) - 1
    · by_cases c2 : 0 ≤ b ∧ b ≤ (x.length : Int) - 1
      · rw [if_pos rfl, if_pos (decide_eq_true c1), if_pos (decide_eq_true c2), decide_eq_true c1, decide_eq_true c2]
        by_cases e : a = b
        · rw [if_pos e, decide_eq_true e]; simp
        · rw [if_neg e, if_pos c1.1, if_pos (by omega), if_pos c2.1, if_pos (by omega), decide_eq_false e]; simp
      · rw [if_pos rfl, if_pos (decide_eq_true c1), if_neg (by simpa using c2), decide_eq_false c2]; simp
    · rw [if_pos rfl, if_neg (by simpa using c1), decide_eq_false c1]; simp
theorem impl_IsBorrowed_eq (x : List S101) (hb : x.length ≤ 140737488355328) (a b : Int) (k : Nat) (hk : x.length < k) : impl_IsBorrowed.f k x a b = some (borrowed x a b) := by
  unfold impl_IsBorrowed.f borrowed
  rw [impl_StopsOk_eq x hb k hk, w64 (n := (x.length : Int) - 1) (by omega) (by omega)]
  simp only [Option.bind_some, within_eq]
  cases hs : stopsB x
  · simp
  · by_cases c1 : 0 ≤ a ∧ a ≤ (x.length : Int) - 1
    · by_cases c2 : 0 ≤ b ∧ b ≤ (x.length : Int) - 1
      · rw [if_pos rfl, if_pos (decide_eq_true c1), if_pos (decide_eq_true c2), decide_eq_true c1, decide_eq_true c2]
        by_cases e : a = b
        · rw [if_pos e, decide_eq_true e]; simp
        · rw [if_neg e, if_pos c1.1, if_pos (by omega), if_pos c2.1, if_pos (by omega), decide_eq_false e]; simp
      · rw [if_pos rfl, if_pos (decide_eq_true c1), if_neg (by simpa using c2), decide_eq_false c2]; simp
    · rw [if_pos rfl, if_neg (by simpa using c1), decide_eq_false c1]; simp
theorem borrowed_law (l : List S103) (hm : l.length ≤ 9223372036854775807) (a b : Int) (k : Nat) (hk : 1048577 < k) : laws_FnExactIsBorrowed.f k l a b = some true := by
  unfold laws_FnExactIsBorrowed.f
  simp only [laws_szStopS.f]
  rw [w64 (n := 1048576 - (l.length : Int)) (by omega) (by omega)]
  by_cases hl : 1048576 - (l.length : Int) < 0
  · rw [if_pos hl]; simp
  · rw [if_neg hl]
    simp only [Option.bind_some]
    rw [if_neg hl, toStopS_eq l (by omega) k (by omega)]
    simp only [Option.bind_some]
    have hlen : (l.map conS).length = l.length := by simp
    rw [spec_IsBorrowed_eq _ (by omega) a b k (by omega), impl_IsBorrowed_eq _ (by omega) a b k (by omega), eqStopS_self _ (by omega) k (by omega)]
    simp
theorem FnExactIsBorrowed (l : List S103) (hm : l.length ≤ 9223372036854775807) (a b : Int) : ∃ k, laws_FnExactIsBorrowed.f k l a b = some true := by
  obtain ⟨k, hk⟩ : ∃ k : Nat, 1048577 < k := ⟨1048578, by omega⟩
  exact ⟨k, borrowed_law l hm a b k hk⟩
end Go.Proofs.Ytbimhcdfojbjgab.Pure
