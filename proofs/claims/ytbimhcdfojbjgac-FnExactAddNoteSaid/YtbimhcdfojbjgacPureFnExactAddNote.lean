/- The plain law of FnExactAddNote: the printed function of the law answers true. Its conditions are those of the statement's own bounds. -/
import Derived.Test.YtbimhcdfojbjgacHFnExactAddNotex6
namespace Go.Proofs.Ytbimhcdfojbjgac.Pure
open Go.RowKit Go.Proofs.Ytbimhcdfojbjgac.PFnExactAddNote Go.Proofs.YtbimhcdfojbjgacW.PrintWords Go.Proofs.YtbimhcdfojbjgacW.PrintLast Go.Proofs.YtbimhcdfojbjgacW.PrintMore
set_option linter.unusedVariables false
theorem l01In_eq (a b c : Int) : spec_l01In.f a b c = some (decide (b ≤ a ∧ a ≤ c)) := by
  unfold spec_l01In.f
  by_cases h : a ≥ b
  · rw [if_pos h]; congr 1; by_cases h2 : a ≤ c <;> simp [h2, h]
  · rw [if_neg h]; congr 1; simp; omega
theorem within_eq (a b c : Int) : impl_within.f a b c = some (decide (b ≤ a ∧ a ≤ c)) := by
  unfold impl_within.f
  by_cases h : b ≤ a
  · rw [if_pos h]; congr 1; by_cases h2 : a ≤ c <;> simp [h2, h]
  · rw [if_neg h]; congr 1; simp; omega
theorem law_of {α : Type} [DecidableEq α] {s i : Option α} {r : α} (hs : s = some r) (hi : i = some r) : (s.bind fun t => i.bind fun u => if u = t then some true else some false) = some true := by
  subst hs hi; simp
theorem law_ofb {s i : Option Bool} {r : Bool} (hs : s = some r) (hi : i = some r) : (s.bind fun t => i.bind fun u => if (u != t) = true then some false else some true) = some true := by
  subst hs hi; simp
theorem wf_i64 {a : Int} (h : (Lit.int .i64 a).wf = true) : -9223372036854775808 ≤ a ∧ a ≤ 9223372036854775807 := by
  have h' : (decide ((-9223372036854775808 : Int) ≤ a) && decide (a ≤ 9223372036854775807)) = true := h
  simp at h'; omega
theorem w64 {n : Int} (h1 : -9223372036854775808 ≤ n) (h2 : n ≤ 9223372036854775807) : wrap64 n = n := by unfold wrap64; omega
theorem mul_bd {a b A B : Int} (h0 : 0 ≤ a) (h1 : a ≤ A) (h2 : 0 ≤ b) (h3 : b ≤ B) : 0 ≤ a * b ∧ a * b ≤ A * B := by
  refine ⟨Int.mul_nonneg h0 h2, ?_⟩
  exact Int.le_trans (Int.mul_le_mul_of_nonneg_right h1 h2) (Int.mul_le_mul_of_nonneg_left h3 (by omega))
theorem tdiv_nn {a b : Int} (h : 0 ≤ a) : a.tdiv b = a / b := Int.tdiv_eq_ediv_of_nonneg h
theorem div_bd {a A c : Int} (h0 : 0 ≤ a) (h1 : a ≤ A) (hc : 0 < c) : 0 ≤ a / c ∧ a / c ≤ A / c :=
  ⟨Int.ediv_nonneg h0 (by omega), Int.ediv_le_ediv hc h1⟩
theorem wrap_next {n : Nat} (h : n ≤ 140737488355328) : wrap64 ((n : Int) + 1) = ((n + 1 : Nat) : Int) := by unfold wrap64; omega
theorem drop_getD {α : Type} (x : List α) (z : α) (n : Nat) (h : n < x.length) : x.drop n = x.getD n z :: x.drop (n + 1) := by
  rw [List.getD_eq_getElem?_getD, List.getElem?_eq_getElem h]
  exact List.drop_eq_getElem_cons h
theorem rd_nat (x : List Int) (n : Nat) : rd x (n : Int) = x.getD n 0 := by unfold rd; rw [Int.toNat_natCast]
theorem take_set_next {α : Type} (x : List α) (n : Nat) (v : α) (h : n < x.length) : (x.set n v).take (n + 1) = x.take n ++ [v] := by
  rw [List.take_succ_eq_append_getElem (by simpa using h)]
  congr 1
  · rw [List.take_set_of_le (Nat.le_refl _)]
  · simp
/-- from place n on: in the range and ascending (the one before counts) -/
def ascB (x : List Int) (lo hi : Int) : Nat → Nat → Bool
  | 0, _ => true
  | d + 1, n => decide (lo ≤ x.getD n 0 ∧ x.getD n 0 ≤ hi) && (decide (n = 0) || decide (x.getD (n - 1) 0 < x.getD n 0)) && ascB x lo hi d (n + 1)
def mixB (s b : List Int) : Bool := ascB s 0 48 s.length 0 && ascB b 1 24 b.length 0 && (decide (1 ≤ (s.length : Int) ∧ (s.length : Int) ≤ 5) && decide ((b.length : Int) ≤ 4))
theorem impl_hasInt_loop (a : Int) (x : List Int) (hb : x.length ≤ 140737488355328) : ∀ (d n k : Nat), n ≤ x.length → x.length - n = d → d < k → impl_hasInt.l0 k a x (x.length : Int) (n : Int) = some (decide (a ∈ x.drop n)) := by
  intro d
  induction d with
  | zero =>
    intro n k h1 h2 hk
    obtain ⟨k, rfl⟩ : ∃ m, k = m + 1 := ⟨k - 1, by omega⟩
    simp only [impl_hasInt.l0]
    rw [if_neg (by omega), List.drop_of_length_le (by omega)]
    simp
  | succ d ih =>
    intro n k h1 h2 hk
    obtain ⟨k, rfl⟩ : ∃ m, k = m + 1 := ⟨k - 1, by omega⟩
    simp only [impl_hasInt.l0]
    rw [if_pos (by omega), if_pos (by omega), if_pos (by omega), rd_nat, wrap_next (by omega), ih (n + 1) k (by omega) (by omega) (by omega), drop_getD x 0 n (by omega)]
    by_cases e : x.getD n 0 = a
    · rw [if_pos e, decide_eq_true (by rw [e]; exact List.mem_cons_self)]
    · rw [if_neg e]
      congr 1
      rw [decide_eq_decide]
      constructor
      · exact fun h => List.mem_cons_of_mem _ h
      · intro h
        rcases List.mem_cons.1 h with h | h
        · exact absurd h.symm e
        · exact h
theorem impl_hasInt_eq (x : List Int) (hb : x.length ≤ 140737488355328) (a : Int) (k : Nat) (hk : x.length < k) : impl_hasInt.f k x a = some (decide (a ∈ x)) := by
  unfold impl_hasInt.f
  have h := impl_hasInt_loop a x hb x.length 0 k (by omega) (by omega) hk
  simpa using h
def kbB (x : List Int) : Bool := ascB x (-15) 19 x.length 0 && decide (1 ≤ (x.length : Int) ∧ (x.length : Int) ≤ 20)
theorem impl_kb_loop (x : List Int) (hb : x.length ≤ 140737488355328) : ∀ (d n k : Nat), n ≤ x.length → x.length - n = d → d < k → impl_KeyboardOk.l0 k x (x.length : Int) (n : Int) x = some (ascB x (-15) 19 d n && decide (1 ≤ (x.length : Int) ∧ (x.length : Int) ≤ 20)) := by
  intro d
  induction d with
  | zero =>
    intro n k h1 h2 hk
    obtain ⟨k, rfl⟩ : ∃ m, k = m + 1 := ⟨k - 1, by omega⟩
    simp only [impl_KeyboardOk.l0, ascB, within_eq, Option.bind_some]
    rw [if_neg (by omega), Bool.true_and]
  | succ d ih =>
    intro n k h1 h2 hk
    obtain ⟨k, rfl⟩ : ∃ m, k = m + 1 := ⟨k - 1, by omega⟩
    simp only [impl_KeyboardOk.l0, ascB, impl_hasName.f, within_eq, Option.bind_some]
    rw [if_pos (by omega), if_pos (by omega), if_pos (by omega), rd_nat, wrap_next (by omega), ih (n + 1) k (by omega) (by omega) (by omega)]
    by_cases c1 : -15 ≤ x.getD n 0 ∧ x.getD n 0 ≤ 19
    · rw [if_pos (decide_eq_true c1), decide_eq_true c1, Bool.true_and]
      by_cases h0 : n = 0
      · rw [if_neg (by omega), decide_eq_true h0, Bool.true_or, Bool.true_and]
      · have e : wrap64 ((n : Int) - 1) = ((n - 1 : Nat) : Int) := by rw [w64 (by omega) (by omega)]; omega
        rw [if_pos (by omega), e, if_pos (by omega), if_pos (by omega), rd_nat, decide_eq_false h0, Bool.false_or]
        by_cases c2 : x.getD (n - 1) 0 < x.getD n 0
        · rw [if_neg (by omega), decide_eq_true c2, Bool.true_and]
        · rw [if_pos (by omega), decide_eq_false c2, Bool.false_and, Bool.false_and]
    · rw [if_neg (by simpa using c1), decide_eq_false c1, Bool.false_and, Bool.false_and, Bool.false_and]
theorem impl_KeyboardOk_eq (x : List Int) (hb : x.length ≤ 140737488355328) (k : Nat) (hk : x.length < k) : impl_KeyboardOk.f k x = some (kbB x) := by
  unfold impl_KeyboardOk.f
  exact impl_kb_loop x hb x.length 0 k (by omega) (by omega) hk
theorem spec_kb_loop (x : List Int) (hb : x.length ≤ 140737488355328) : ∀ (d n k : Nat), n ≤ x.length → x.length - n = d → d < k → spec_KeyboardOk.l0 k (n : Int) x = some (ascB x (-15) 19 d n && decide (1 ≤ (x.length : Int) ∧ (x.length : Int) ≤ 20)) := by
  intro d
  induction d with
  | zero =>
    intro n k h1 h2 hk
    obtain ⟨k, rfl⟩ : ∃ m, k = m + 1 := ⟨k - 1, by omega⟩
    simp only [spec_KeyboardOk.l0, ascB, l01In_eq, Option.bind_some]
    rw [if_neg (by omega), Bool.true_and]
  | succ d ih =>
    intro n k h1 h2 hk
    obtain ⟨k, rfl⟩ : ∃ m, k = m + 1 := ⟨k - 1, by omega⟩
    simp only [spec_KeyboardOk.l0, ascB, spec_l07Has.f, l01In_eq, Option.bind_some]
    rw [if_pos (by omega), if_pos (by omega), rd_nat, wrap_next (by omega), ih (n + 1) k (by omega) (by omega) (by omega)]
    by_cases c1 : -15 ≤ x.getD n 0 ∧ x.getD n 0 ≤ 19
    · rw [if_pos (decide_eq_true c1), decide_eq_true c1, Bool.true_and]
      by_cases h0 : n = 0
      · rw [if_neg (by omega), decide_eq_true h0, Bool.true_or, Bool.true_and]
      · have e : wrap64 ((n : Int) - 1) = ((n - 1 : Nat) : Int) := by rw [w64 (by omega) (by omega)]; omega
        rw [if_pos (by omega), e, if_pos (by omega), if_pos (by omega), rd_nat, decide_eq_false h0, Bool.false_or]
        by_cases c2 : x.getD (n - 1) 0 < x.getD n 0
        · rw [if_neg (by omega), decide_eq_true c2, Bool.true_and]
        · rw [if_pos (by omega), decide_eq_false c2, Bool.false_and, Bool.false_and]
    · rw [if_neg (by simpa using c1), decide_eq_false c1, Bool.false_and, Bool.false_and, Bool.false_and]
theorem spec_KeyboardOk_eq (x : List Int) (hb : x.length ≤ 140737488355328) (k : Nat) (hk : x.length < k) : spec_KeyboardOk.f k x = some (kbB x) := by
  unfold spec_KeyboardOk.f
  exact spec_kb_loop x hb x.length 0 k (by omega) (by omega) hk
def hasB (x : List Int) (a : Int) : Bool := kbB x && decide (a ∈ x)
def tonicL (n : Int) : List Int := if -14 ≤ n ∧ n ≤ 14 then [n - 1, n, n + 1, n + 2, n + 3, n + 4, n + 5] else []
def playB (x : List Int) (n : Int) : Bool := (tonicL n).all (hasB x) && decide ((tonicL n).length > 0)
theorem tonicL_length (n : Int) : (tonicL n).length ≤ 7 := by unfold tonicL; split <;> simp
def playL (x : List Int) : Nat → Int → List Int
  | 0, _ => []
  | d + 1, n => if playB x n = true then n :: playL x d (n + 1) else playL x d (n + 1)
theorem playL_length (x : List Int) : ∀ (d : Nat) (n : Int), (playL x d n).length ≤ d := by
  intro d
  induction d with
  | zero => intro n; simp [playL]
  | succ d ih => intro n; have := ih (n + 1); unfold playL; split <;> simp <;> omega
theorem ascB_facts (x : List Int) (lo hi : Int) : ∀ (d n : Nat), ascB x lo hi d n = true ↔ ∀ i, n ≤ i → i < n + d → (lo ≤ x.getD i 0 ∧ x.getD i 0 ≤ hi) ∧ (i = 0 ∨ x.getD (i - 1) 0 < x.getD i 0) := by
  intro d
  induction d with
  | zero => intro n; simp only [ascB, true_iff]; intro i h1 h2; omega
  | succ d ih =>
    intro n
    simp only [ascB, Bool.and_eq_true, Bool.or_eq_true, decide_eq_true_eq, ih]
    constructor
    · rintro ⟨⟨h1, h2⟩, h3⟩ i hi hj
      by_cases e : i = n
      · subst e; exact ⟨h1, h2⟩
      · exact h3 i (by omega) (by omega)
    · intro h
      exact ⟨h n (by omega) (by omega), fun i hi hj => h i (by omega) (by omega)⟩
theorem ascB_iff (x : List Int) (lo hi : Int) : ascB x lo hi x.length 0 = true ↔ (∀ y ∈ x, lo ≤ y ∧ y ≤ hi) ∧ x.Pairwise (· < ·) := by
  have hg : ∀ i, (h : i < x.length) → x.getD i 0 = x[i] := fun i h => by rw [List.getD_eq_getElem?_getD, List.getElem?_eq_getElem h]; rfl
  rw [ascB_facts]
  constructor
  · intro h
    refine ⟨fun y hy => ?_, ?_⟩
    · obtain ⟨i, hi, rfl⟩ := List.getElem_of_mem hy
      rw [← hg i hi]
      exact (h i (by omega) (by omega)).1
    · rw [List.pairwise_iff_getElem]
      intro i j hi hj hij
      have : ∀ (d : Nat), ∀ (hd : i + d + 1 < x.length), x[i] < x[i + d + 1] := by
        intro d
        induction d with
        | zero =>
          intro hd
          have := (h (i + 1) (by omega) (by omega)).2
          rw [hg (i + 1) (by omega)] at this
          simp only [Nat.add_sub_cancel] at this
          rw [hg i hi] at this
          rcases this with e | e
          · omega
          · exact e
        | succ d ihd =>
          intro hd
          have h1 := ihd (by omega)
          have := (h (i + d + 1 + 1) (by omega) (by omega)).2
          rw [hg (i + d + 1 + 1) (by omega)] at this
          simp only [Nat.add_sub_cancel] at this
          rw [hg (i + d + 1) (by omega)] at this
          rcases this with e | e
          · omega
          · exact Int.lt_trans h1 e
      have e : j = i + (j - i - 1) + 1 := by omega
      have := this (j - i - 1) (by omega)
      simp only [← e] at this
      exact this
  · rintro ⟨h1, h2⟩ i _ hi
    have hi' : i < x.length := by omega
    refine ⟨by rw [hg i hi']; exact h1 _ (List.getElem_mem hi'), ?_⟩
    by_cases h0 : i = 0
    · exact .inl h0
    · refine .inr ?_
      rw [hg i hi', hg (i - 1) (by omega)]
      exact (List.pairwise_iff_getElem.1 h2) (i - 1) i (by omega) hi' (by omega)
theorem mixB_iff (s b : List Int) : mixB s b = true ↔ ((∀ y ∈ s, 0 ≤ y ∧ y ≤ 48) ∧ s.Pairwise (· < ·)) ∧ ((∀ y ∈ b, 1 ≤ y ∧ y ≤ 24) ∧ b.Pairwise (· < ·)) ∧ (1 ≤ (s.length : Int) ∧ (s.length : Int) ≤ 5) ∧ (b.length : Int) ≤ 4 := by
  unfold mixB
  simp only [Bool.and_eq_true, ascB_iff, decide_eq_true_eq, and_assoc]
def insB (a : Int) : List Int → List Int
  | [] => [a]
  | x :: xs => if x > a then a :: x :: xs else x :: insB a xs
theorem insB_length (a : Int) : ∀ x : List Int, (insB a x).length = x.length + 1 := by
  intro x
  induction x with
  | nil => rfl
  | cons y ys ih => unfold insB; split <;> simp [ih]
theorem insB_mem (a : Int) : ∀ x : List Int, a ∈ insB a x := by
  intro x
  induction x with
  | nil => simp [insB]
  | cons y ys ih => unfold insB; split <;> simp [ih]
theorem insB_apart (a : Int) : ∀ x : List Int, (insB a x).Pairwise (· < ·) → ¬ a ∈ x := by
  intro x
  induction x with
  | nil => intro _ h; simp at h
  | cons y ys ih =>
    intro h
    unfold insB at h
    split at h
    · intro hm
      have := (List.pairwise_cons.1 h).1 a hm
      omega
    · obtain ⟨h1, h2⟩ := List.pairwise_cons.1 h
      intro hm
      rcases List.mem_cons.1 hm with e | e
      · have := h1 a (insB_mem a ys); omega
      · exact ih h2 e
theorem kbB_insB {a : Int} {x : List Int} (h : kbB (insB a x) = true) : ¬ a ∈ x := by
  unfold kbB at h
  rw [Bool.and_eq_true] at h
  exact insB_apart a x ((ascB_iff _ _ _).1 h.1).2
def addNV (x out : List Int) : List Int × Bool := if kbB x = true ∧ kbB out = true then (out, true) else (x, false)
theorem kbB_length {x : List Int} (h : kbB x = true) : x.length ≤ 20 := by
  unfold kbB at h
  rw [Bool.and_eq_true, decide_eq_true_eq] at h
  omega
theorem addNV_length (x out : List Int) (hx : x.length ≤ 1048576) : (addNV x out).1.length ≤ 1048576 := by
  unfold addNV
  split
  · rename_i h; have := kbB_length h.2; dsimp only; omega
  · exact hx
theorem spec_copy_eq (x : List Int) (hb : x.length ≤ 140737488355) : spec_l02Copy.f x = some x := by
  unfold spec_l02Copy.f
  simp only [Option.bind_some, List.length_nil, List.nil_append]
  rw [if_pos (by omega)]
theorem spec_add_j1 (x out : List Int) (hx : x.length ≤ 140737488355) (ho : out.length ≤ x.length + 1) (k : Nat) (hk : x.length + 3 < k) : spec_AddNote.j1 k x out = some (addNV x out) := by
  obtain ⟨k, rfl⟩ : ∃ m, k = m + 1 := ⟨k - 1, by omega⟩
  simp only [spec_AddNote.j1]
  rw [spec_KeyboardOk_eq x (by omega) k (by omega), spec_KeyboardOk_eq out (by omega) k (by omega), spec_copy_eq x hx]
  simp only [Option.bind_some]
  unfold addNV
  cases kbB x <;> cases kbB out <;> simp
theorem spec_add_loop_t (a : Int) (x : List Int) (hb : x.length ≤ 140737488355) : ∀ (d n k : Nat) (acc : List Int), n ≤ x.length → x.length - n = d → d + x.length + 10 < k → acc.length = n + 1 → spec_AddNote.l0 k a true (n : Int) x acc = some (addNV x (acc ++ x.drop n)) := by
  intro d
  induction d with
  | zero =>
    intro n k acc h1 h2 hk ha
    obtain ⟨k, rfl⟩ : ∃ m, k = m + 1 := ⟨k - 1, by omega⟩
    simp only [spec_AddNote.l0]
    rw [if_neg (by omega), if_pos trivial, List.drop_of_length_le (by omega), List.append_nil]
    exact spec_add_j1 x acc hb (by omega) k (by omega)
  | succ d ih =>
    intro n k acc h1 h2 hk ha
    obtain ⟨k, rfl⟩ : ∃ m, k = m + 1 := ⟨k - 1, by omega⟩
    simp only [spec_AddNote.l0]
    rw [if_pos (by omega), if_pos trivial, if_pos (by omega), if_pos (by omega), wrap_next (by omega), rd_nat, ih (n + 1) k _ (by omega) (by omega) (by omega) (by simp; omega), drop_getD x 0 n (by omega), List.append_assoc]
    rfl
theorem spec_add_loop (a : Int) (x : List Int) (hb : x.length ≤ 140737488355) : ∀ (d n k : Nat) (acc : List Int), n ≤ x.length → x.length - n = d → d + x.length + 10 < k → acc.length = n → spec_AddNote.l0 k a false (n : Int) x acc = some (addNV x (acc ++ insB a (x.drop n))) := by
  intro d
  induction d with
  | zero =>
    intro n k acc h1 h2 hk ha
    obtain ⟨k, rfl⟩ : ∃ m, k = m + 1 := ⟨k - 1, by omega⟩
    simp only [spec_AddNote.l0]
    rw [if_neg (by omega), if_neg (by decide), if_pos (by omega), List.drop_of_length_le (by omega)]
    exact spec_add_j1 x _ hb (by simp; omega) k (by omega)
  | succ d ih =>
    intro n k acc h1 h2 hk ha
    obtain ⟨k, rfl⟩ : ∃ m, k = m + 1 := ⟨k - 1, by omega⟩
    simp only [spec_AddNote.l0]
    rw [if_pos (by omega), if_neg (by decide), if_pos (by omega), wrap_next (by omega), rd_nat, drop_getD x 0 n (by omega)]
    simp only [insB]
    by_cases h : x.getD n 0 > a
    · rw [if_pos h, if_pos h, if_pos (by omega)]
      simp only [Option.bind_some]
      rw [if_pos (by simp; omega), spec_add_loop_t a x hb d (n + 1) k _ (by omega) (by omega) (by omega) (by simp; omega)]
      simp
    · rw [if_neg h, if_neg h, if_pos (by omega), ih (n + 1) k _ (by omega) (by omega) (by omega) (by simp; omega)]
      simp
theorem spec_AddNote_eq (a : Int) (x : List Int) (hb : x.length ≤ 140737488355) (k : Nat) (hk : 2 * x.length + 10 < k) : spec_AddNote.f k x a = some (addNV x (insB a x)) := by
  unfold spec_AddNote.f
  have h := spec_add_loop a x hb x.length 0 k [] (by omega) (by omega) (by omega) rfl
  simpa using h
def putNV (s out : List Int) : List Int × Bool := if kbB out = true then (out, true) else (s, false)
theorem impl_add_j2 (a : Int) (x s : List Int) (hb : x.length ≤ 140737488355) (n : Nat) (hn : n ≤ x.length) (k : Nat) (hk : x.length + 3 < k) : impl_AddNote.j2 k a (n : Int) x s = some (putNV s (x.take n ++ (a :: x.drop n))) := by
  obtain ⟨k, rfl⟩ : ∃ m, k = m + 1 := ⟨k - 1, by omega⟩
  have hl : (x.take n).length = n := by simp; omega
  have hd : (x.drop n).length = x.length - n := by simp
  simp only [impl_AddNote.j2, Option.bind_some, Int.toNat_natCast, List.nil_append]
  rw [if_pos (by omega), if_pos (by omega), if_pos (by simp; omega), if_pos (by simp; omega), if_pos (by simp; omega)]
  have e : x.take n ++ [a] ++ x.drop n = x.take n ++ (a :: x.drop n) := by simp
  rw [e, impl_KeyboardOk_eq _ (by simp; omega) k (by simp; omega)]
  simp only [Option.bind_some, putNV]
  split <;> rfl
theorem impl_add_loop (a : Int) (x s : List Int) (hb : x.length ≤ 140737488355) (ha : ¬ a ∈ x) : ∀ (d n k : Nat), n ≤ x.length → x.length - n = d → d + x.length + 10 < k → impl_AddNote.l0 k a (n : Int) x s = some (putNV s (x.take n ++ insB a (x.drop n))) := by
  intro d
  induction d with
  | zero =>
    intro n k h1 h2 hk
    obtain ⟨k, rfl⟩ : ∃ m, k = m + 1 := ⟨k - 1, by omega⟩
    simp only [impl_AddNote.l0]
    rw [if_neg (by omega), impl_add_j2 a x s hb n h1 k (by omega), List.drop_of_length_le (by omega)]
    rfl
  | succ d ih =>
    intro n k h1 h2 hk
    obtain ⟨k, rfl⟩ : ∃ m, k = m + 1 := ⟨k - 1, by omega⟩
    have hlt : n < x.length := by omega
    have hm : x.getD n 0 ∈ x := by rw [List.getD_eq_getElem?_getD, List.getElem?_eq_getElem hlt]; exact List.getElem_mem _
    have hne : x.getD n 0 ≠ a := fun e => ha (e ▸ hm)
    simp only [impl_AddNote.l0]
    rw [if_pos (by omega), if_pos (by omega), rd_nat, wrap_next (by omega)]
    by_cases h : x.getD n 0 < a
    · rw [if_pos h, ih (n + 1) k (by omega) (by omega) (by omega)]
      have e1 : x.drop n = x.getD n 0 :: x.drop (n + 1) := drop_getD x 0 n hlt
      have e2 : x.take (n + 1) = x.take n ++ [x.getD n 0] := by
        have e3 : x.getD n 0 = x[n] := by rw [List.getD_eq_getElem?_getD, List.getElem?_eq_getElem hlt]; rfl
        rw [e3, List.take_succ_eq_append_getElem hlt]
      rw [e1]
      simp only [insB]
      rw [if_neg (by omega), e2]
      simp
    · rw [if_neg h, impl_add_j2 a x s hb n h1 k (by omega), drop_getD x 0 n hlt]
      simp only [insB]
      rw [if_pos (by omega)]
theorem impl_AddNote_eq (a : Int) (x : List Int) (hb : x.length ≤ 140737488355) (k : Nat) (hk : 2 * x.length + 20 < k) : impl_AddNote.f k x a = some (addNV x (insB a x)) := by
  obtain ⟨k, rfl⟩ : ∃ m, k = m + 1 := ⟨k - 1, by omega⟩
  unfold impl_AddNote.f
  simp only [Option.bind_some, List.length_nil, List.nil_append]
  rw [if_pos (by omega), impl_KeyboardOk_eq x (by omega) (k + 1) (by omega), impl_hasInt_eq x (by omega) a (k + 1) (by omega)]
  simp only [Option.bind_some]
  by_cases h : kbB x = true
  · rw [if_pos h]
    by_cases hm : a ∈ x
    · rw [decide_eq_true hm, impl_AddNote.j0, if_pos rfl]
      unfold addNV
      rw [if_neg (fun hh => kbB_insB hh.2 hm)]
    · rw [decide_eq_false hm, impl_AddNote.j0, if_neg (by decide)]
      have e := impl_add_loop a x x hb hm x.length 0 k (by omega) (by omega) (by omega)
      simp only [Int.natCast_zero, List.take_zero, List.nil_append, List.drop_zero] at e
      rw [e]
      unfold putNV addNV
      by_cases ho : kbB (insB a x) = true
      · rw [if_pos ho, if_pos ⟨h, ho⟩]
      · rw [if_neg ho, if_neg (fun hh => ho hh.2)]
  · rw [if_neg h, impl_AddNote.j0, if_pos rfl]
    unfold addNV
    rw [if_neg (fun hh => h hh.1)]
theorem toIntS_loop (x : List Int) (hb : x.length ≤ 140737488355328) : ∀ (d n k : Nat) (y : List Int), n ≤ x.length → x.length - n = d → d < k → y.length = x.length →
    laws_toIntS.l0 k x y (n : Int) = some (y.take n ++ x.drop n) := by
  intro d
  induction d with
  | zero =>
    intro n k y h1 h2 hk hy
    obtain ⟨k, rfl⟩ : ∃ m, k = m + 1 := ⟨k - 1, by omega⟩
    simp only [laws_toIntS.l0]
    rw [if_neg (by omega), List.take_of_length_le (by omega), List.drop_of_length_le (by omega)]
    simp
  | succ d ih =>
    intro n k y h1 h2 hk hy
    obtain ⟨k, rfl⟩ : ∃ m, k = m + 1 := ⟨k - 1, by omega⟩
    simp only [laws_toIntS.l0]
    rw [if_pos (by omega), if_pos (by omega), if_pos (by omega), rd_nat, wrap_next (by omega), Int.toNat_natCast]
    rw [ih (n + 1) k _ (by omega) (by omega) (by omega) (by simpa using hy), take_set_next y n _ (by omega), drop_getD x 0 n (by omega)]
    rw [List.append_assoc]
    rfl
theorem toIntS_eq (x : List Int) (hb : x.length ≤ 35184372088832) (k : Nat) (hk : x.length < k) : laws_toIntS.f k x = some x := by
  unfold laws_toIntS.f
  rw [if_pos (by omega), Int.toNat_natCast, if_pos hb]
  have h := toIntS_loop x (by omega) x.length 0 k (List.replicate x.length 0) (by omega) (by omega) hk (by simp)
  simpa using h
theorem eqIntS_loop (x y : List Int) (hl : x.length = y.length) (hb : x.length ≤ 140737488355328) : ∀ (d n k : Nat), n ≤ x.length → x.length - n ≤ d → d < k → laws_eqIntS.l0 k x y (n : Int) = some (decide (x.drop n = y.drop n)) := by
  intro d
  induction d with
  | zero =>
    intro n k h1 h2 hk
    obtain ⟨k, rfl⟩ : ∃ m, k = m + 1 := ⟨k - 1, by omega⟩
    simp only [laws_eqIntS.l0]
    rw [if_neg (by omega), List.drop_of_length_le (by omega), List.drop_of_length_le (by omega)]
    simp
  | succ d ih =>
    intro n k h1 h2 hk
    obtain ⟨k, rfl⟩ : ∃ m, k = m + 1 := ⟨k - 1, by omega⟩
    simp only [laws_eqIntS.l0]
    by_cases hlt : n < x.length
    · rw [if_pos (by omega), if_pos (by omega), if_pos (by omega), rd_nat, rd_nat, wrap_next (by omega), drop_getD x 0 n hlt, drop_getD y 0 n (by omega), ih (n + 1) k (by omega) (by omega) (by omega)]
      by_cases e : x.getD n 0 = y.getD n 0
      · rw [if_pos e, e]; simp
      · rw [if_neg e]; simp only [List.cons.injEq, e, false_and, decide_false]
    · rw [if_neg (by omega), List.drop_of_length_le (by omega), List.drop_of_length_le (by omega)]
      simp
theorem eqIntS_eq (x y : List Int) (hb : x.length ≤ 140737488355328) (k : Nat) (hk : x.length < k) : laws_eqIntS.f k x y = some (decide (x = y)) := by
  unfold laws_eqIntS.f
  by_cases hl : x.length = y.length
  · rw [if_pos (by omega)]
    have h := eqIntS_loop x y hl hb x.length 0 k (by omega) (by omega) hk
    simpa using h
  · rw [if_neg (by omega)]
    have : x ≠ y := fun e => hl (by rw [e])
    simp [this]
def iota (m : Int) : Nat → List Int
  | 0 => []
  | n + 1 => m :: iota (m + 1) n
theorem iota_length (n : Nat) : ∀ m : Int, (iota m n).length = n := by
  induction n with
  | zero => intro m; rfl
  | succ n ih => intro m; simp [iota, ih]
theorem wrap_int {m : Int} (h : -9223372036854775808 ≤ m) (h2 : m ≤ 9223372036854775807) : wrap64 m = m := by unfold wrap64; omega
theorem markIntS_loop : ∀ (d n k : Nat) (x : List Int) (m : Int), x.length ≤ 140737488355328 → n ≤ x.length → x.length - n = d → d < k → 0 ≤ m → m + d ≤ 281474976710656 →
    laws_markIntS.l0 k x m (n : Int) = some (m + d, x.take n ++ iota m d) := by
  intro d
  induction d with
  | zero =>
    intro n k x m hb h1 h2 hk hm hm2
    obtain ⟨k, rfl⟩ : ∃ m, k = m + 1 := ⟨k - 1, by omega⟩
    simp only [laws_markIntS.l0]
    rw [if_neg (by omega), List.take_of_length_le (by omega)]
    simp [iota]
  | succ d ih =>
    intro n k x m hb h1 h2 hk hm hm2
    obtain ⟨k, rfl⟩ : ∃ m, k = m + 1 := ⟨k - 1, by omega⟩
    simp only [laws_markIntS.l0]
    rw [if_pos (by omega), if_pos (by omega), wrap_next (by omega), wrap_int (m := m + 1) (by omega) (by omega), Int.toNat_natCast]
    rw [ih (n + 1) k (x.set n m) (m + 1) (by simpa using hb) (by simp; omega) (by simp; omega) (by omega) (by omega) (by omega), take_set_next x n m (by omega)]
    simp [iota]
    omega
theorem markIntS_eq (x : List Int) (hb : x.length ≤ 140737488355328) (k : Nat) (hk : x.length < k) (m : Int) (h0 : 0 ≤ m) (h1 : m ≤ 140737488355328) : laws_markIntS.f k x m = some (m + x.length, iota m x.length) := by
  unfold laws_markIntS.f
  have h := markIntS_loop x.length 0 k x m hb (by omega) (by omega) hk h0 (by omega)
  simpa using h
theorem toKeyboard_eq (x : List Int) (hb : x.length ≤ 35184372088832) (k : Nat) (hk : x.length < k) : laws_toKeyboard.f k x = some x := by
  unfold laws_toKeyboard.f
  rw [toIntS_eq x hb k hk]; simp only [Option.bind_some]
theorem eqKeyboard_self (x : List Int) (hb : x.length ≤ 35184372088832) (k : Nat) (hk : x.length < k) : laws_eqKeyboard.f k x x = some true := by
  unfold laws_eqKeyboard.f
  rw [eqIntS_eq x x (by omega) k hk]
  simp
theorem markKeyboard_eq (x : List Int) (hb : x.length ≤ 1048576) (k : Nat) (hk : x.length < k) : laws_markKeyboard.f k x 1 = some (1 + (x.length : Int), iota 1 x.length) := by
  unfold laws_markKeyboard.f
  rw [markIntS_eq x (by omega) k hk 1 (by omega) (by omega)]; simp only [Option.bind_some]
theorem szKeyboard_eq (x : List Int) (hx : x.length ≤ 9223372036854775807) :
    (∃ r, laws_szKeyboard.f x 1048576 = some r ∧ r < 0) ∨ (x.length ≤ 1048576 ∧ ∃ r, laws_szKeyboard.f x 1048576 = some r ∧ ¬ r < 0) := by
  simp only [laws_szKeyboard.f, laws_szIntS.f]
  rw [w64 (n := 1048576 - (x.length : Int)) (by omega) (by omega)]
  by_cases h1 : 1048576 - (x.length : Int) < 0
  · rw [if_pos h1]
    exact .inl ⟨-1, rfl, by omega⟩
  · rw [if_neg h1]
    simp only [Option.bind_some]
    rw [if_neg h1]
    exact .inr ⟨by omega, _, rfl, h1⟩
theorem heldIntS_loop : ∀ (d n k : Nat) (x : List Int) (m : Int), x.length ≤ 140737488355328 → n ≤ x.length → x.length - n = d → d < k → 0 ≤ m → m + d ≤ 281474976710656 → x.drop n = iota m d →
    laws_heldIntS.l0 k x m (n : Int) = some (m + d) := by
  intro d
  induction d with
  | zero =>
    intro n k x m hb h1 h2 hk hm hm2 hx
    obtain ⟨k, rfl⟩ : ∃ m, k = m + 1 := ⟨k - 1, by omega⟩
    simp only [laws_heldIntS.l0]
    rw [if_neg (by omega)]
    simp
  | succ d ih =>
    intro n k x m hb h1 h2 hk hm hm2 hx
    obtain ⟨k, rfl⟩ : ∃ m, k = m + 1 := ⟨k - 1, by omega⟩
    simp only [laws_heldIntS.l0]
    rw [drop_getD x 0 n (by omega)] at hx
    injection hx with e1 e2
    rw [if_pos (by omega), if_pos (by omega), rd_nat, if_pos e1, wrap_next (by omega), wrap_int (m := m + 1) (by omega) (by omega), ih (n + 1) k x (m + 1) hb (by omega) (by omega) (by omega) (by omega) (by omega) e2]
    congr 1
    omega
theorem heldIntS_eq (n : Nat) (hb : n ≤ 140737488355328) (k : Nat) (hk : n < k) (m : Int) (h0 : 0 ≤ m) (h1 : m ≤ 140737488355328) : laws_heldIntS.f k (iota m n) m = some (m + n) := by
  unfold laws_heldIntS.f
  have hl := iota_length n m
  exact heldIntS_loop n 0 k (iota m n) m (by omega) (by omega) (by omega) hk h0 (by omega) (by simp)
theorem heldKeyboard_eq (n : Nat) (hb : n ≤ 1048576) (k : Nat) (hk : n < k) : laws_heldKeyboard.f k (iota 1 n) 1 = some (1 + (n : Int)) := by
  unfold laws_heldKeyboard.f
  rw [heldIntS_eq n (by omega) k hk 1 (by omega) (by omega)]
  simp only [Option.bind_some]
  rw [if_neg (by omega)]
theorem add_law (x : List Int) (hx : x.length ≤ 9223372036854775807) (a : Int) (k : Nat) (hk : 4000000 < k) : laws_FnExactAddNote.f k x a = some true := by
  unfold laws_FnExactAddNote.f
  rcases szKeyboard_eq x hx with ⟨r, e, hr⟩ | ⟨h1, r, e, hr⟩
  · rw [e]; simp only [Option.bind_some]; rw [if_pos hr]
  · have hl := addNV_length x (insB a x) h1
    rw [e]; simp only [Option.bind_some]; rw [if_neg hr, toKeyboard_eq x (by omega) k (by omega)]
    simp only [Option.bind_some]
    rw [spec_AddNote_eq a x (by omega) k (by omega), impl_AddNote_eq a x (by omega) k (by omega)]
    simp only [Option.bind_some]
    have hR : ∃ R b, addNV x (insB a x) = (R, b) ∧ R.length ≤ 1048576 := ⟨_, _, rfl, hl⟩
    obtain ⟨R, b, hR, hRl⟩ := hR
    simp only [hR]
    rw [eqKeyboard_self R (by omega) k (by omega)]
    simp only [Option.bind_some, if_true, bne_self_eq_false]
    obtain ⟨k, rfl⟩ : ∃ m, k = m + 1 + 1 + 1 := ⟨k - 3, by omega⟩
    rw [laws_FnExactAddNote.j0]
    simp only [Bool.false_eq_true, if_false]
    rw [toKeyboard_eq x (by omega) (k + 1 + 1) (by omega)]
    simp only [Option.bind_some]
    rw [eqKeyboard_self x (by omega) (k + 1 + 1) (by omega)]
    simp only [Option.bind_some, if_true]
    rw [markKeyboard_eq x (by omega) (k + 1 + 1) (by omega)]
    simp only [Option.bind_some]
    rw [if_neg (by omega), eqKeyboard_self R (by omega) (k + 1 + 1) (by omega)]
    simp only [Option.bind_some, if_true, bne_self_eq_false]
    rw [laws_FnExactAddNote.j1]
    simp only [Bool.false_eq_true, if_false]
    rw [markKeyboard_eq R (by omega) (k + 1) (by omega)]
    simp only [Option.bind_some]
    rw [heldKeyboard_eq R.length (by omega) (k + 1) (by omega)]
    simp only [Option.bind_some]
    rw [if_neg (by omega), if_pos trivial, toKeyboard_eq x (by omega) (k + 1) (by omega)]
    simp only [Option.bind_some]
    rw [impl_AddNote_eq a x (by omega) (k + 1) (by omega), hR]
    simp only [Option.bind_some]
    rw [eqKeyboard_self R (by omega) (k + 1) (by omega)]
    simp only [Option.bind_some, if_true, bne_self_eq_false]
    rw [laws_FnExactAddNote.j2]
    simp only [Bool.false_eq_true, if_false]
    rw [heldKeyboard_eq R.length (by omega) k (by omega)]
    simp only [Option.bind_some]
    rw [if_neg (by omega), if_pos trivial]
theorem FnExactAddNote (x : List Int) (hx : x.length ≤ maxLen) (a : Int) : ∃ k, laws_FnExactAddNote.f k x a = some true := by
  obtain ⟨k, hk⟩ : ∃ k : Nat, 4000000 < k := ⟨4000001, by omega⟩
  exact ⟨k, add_law x hx a k hk⟩
end Go.Proofs.Ytbimhcdfojbjgac.Pure
