/- The plain law of FnExactPlayableKeys: the printed function of the law answers true. Its conditions are those of the statement's own bounds. -/
import Derived.Test.YtbimhcdfojbjgacHFnExactPlayableKeysx4
namespace Go.Proofs.Ytbimhcdfojbjgac.Pure
open Go.RowKit Go.Proofs.Ytbimhcdfojbjgac.PFnExactPlayableKeys Go.Proofs.YtbimhcdfojbjgacW.PrintWords Go.Proofs.YtbimhcdfojbjgacW.PrintLast Go.Proofs.YtbimhcdfojbjgacW.PrintMore
set_option linter.unusedVariables false
theorem l01In_eq (a b c : Int) : spec_l01In.f a b c = some (decide (b ≤ a ∧ a ≤ c)) := by
  unfold spec_l01In.f
  by_cases h : a ≥ b
  · rw [if_pos h]; congr 1; by_cases h2 : a ≤ c <;> simp [h2, h]
  · rw [if_neg h]; congr 1; simp; omega
theorem within_eq (a b c : Int) : impl_within.f a b c = some (decide (b ≤ a ∧ a ≤ c)) := by
  unfold impl_within.f
  by_cases h : b ≤ a
  · rw [if_pos h]; congr 1; by_cases h2 : a ≤ c <;> simp [h2, h]
  · rw [if_neg h]; congr 1; simp; omega
theorem law_of {α : Type} [DecidableEq α] {s i : Option α} {r : α} (hs : s = some r) (hi : i = some r) : (s.bind fun t => i.bind fun u => if u = t then some true else some false) = some true := by
  subst hs hi; simp
theorem law_ofb {s i : Option Bool} {r : Bool} (hs : s = some r) (hi : i = some r) : (s.bind fun t => i.bind fun u => if (u != t) = true then some false else some true) = some true := by
  subst hs hi; simp
theorem wf_i64 {a : Int} (h : (Lit.int .i64 a).wf = true) : -9223372036854775808 ≤ a ∧ a ≤ 9223372036854775807 := by
  have h' : (decide ((-9223372036854775808 : Int) ≤ a) && decide (a ≤ 9223372036854775807)) = true := h
  simp at h'; omega
theorem w64 {n : Int} (h1 : -9223372036854775808 ≤ n) (h2 : n ≤ 9223372036854775807) : wrap64 n = n := by unfold wrap64; omega
theorem mul_bd {a b A B : Int} (h0 : 0 ≤ a) (h1 : a ≤ A) (h2 : 0 ≤ b) (h3 : b ≤ B) : 0 ≤ a * b ∧ a * b ≤ A * B := by
  refine ⟨Int.mul_nonneg h0 h2, ?_⟩
  exact Int.le_trans (Int.mul_le_mul_of_nonneg_right h1 h2) (Int.mul_le_mul_of_nonneg_left h3 (by omega))
theorem tdiv_nn {a b : Int} (h : 0 ≤ a) : a.tdiv b = a / b := Int.tdiv_eq_ediv_of_nonneg h
theorem div_bd {a A c : Int} (h0 : 0 ≤ a) (h1 : a ≤ A) (hc : 0 < c) : 0 ≤ a / c ∧ a / c ≤ A / c :=
  ⟨Int.ediv_nonneg h0 (by omega), Int.ediv_le_ediv hc h1⟩
theorem wrap_next {n : Nat} (h : n ≤ 140737488355328) : wrap64 ((n : Int) + 1) = ((n + 1 : Nat) : Int) := by unfold wrap64; omega
theorem drop_getD {α : Type} (x : List α) (z : α) (n : Nat) (h : n < x.length) : x.drop n = x.getD n z :: x.drop (n + 1) := by
  rw [List.getD_eq_getElem?_getD, List.getElem?_eq_getElem h]
  exact List.drop_eq_getElem_cons h
theorem rd_nat (x : List Int) (n : Nat) : rd x (n : Int) = x.getD n 0 := by unfold rd; rw [Int.toNat_natCast]
theorem take_set_next {α : Type} (x : List α) (n : Nat) (v : α) (h : n < x.length) : (x.set n v).take (n + 1) = x.take n ++ [v] := by
  rw [List.take_succ_eq_append_getElem (by simpa using h)]
  congr 1
  · rw [List.take_set_of_le (Nat.le_refl _)]
  · simp
/-- from place n on: in the range and ascending (the one before counts) -/
def ascB (x : List Int) (lo hi : Int) : Nat → Nat → Bool
  | 0, _ => true
  | d + 1, n => decide (lo ≤ x.getD n 0 ∧ x.getD n 0 ≤ hi) && (decide (n = 0) || decide (x.getD (n - 1) 0 < x.getD n 0)) && ascB x lo hi d (n + 1)
def mixB (s b : List Int) : Bool := ascB s 0 48 s.length 0 && ascB b 1 24 b.length 0 && (decide (1 ≤ (s.length : Int) ∧ (s.length : Int) ≤ 5) && decide ((b.length : Int) ≤ 4))
theorem impl_hasInt_loop (a : Int) (x : List Int) (hb : x.length ≤ 140737488355328) : ∀ (d n k : Nat), n ≤ x.length → x.length - n = d → d < k → impl_hasInt.l0 k a x (x.length : Int) (n : Int) = some (decide (a ∈ x.drop n)) := by
  intro d
  induction d with
  | zero =>
    intro n k h1 h2 hk
    obtain ⟨k, rfl⟩ : ∃ m, k = m + 1 := ⟨k - 1, by omega⟩
    simp only [impl_hasInt.l0]
    rw [if_neg (by omega), List.drop_of_length_le (by omega)]
    simp
  | succ d ih =>
    intro n k h1 h2 hk
    obtain ⟨k, rfl⟩ : ∃ m, k = m + 1 := ⟨k - 1, by omega⟩
    simp only [impl_hasInt.l0]
    rw [if_pos (by omega), if_pos (by omega), if_pos (by omega), rd_nat, wrap_next (by omega), ih (n + 1) k (by omega) (by omega) (by omega), drop_getD x 0 n (by omega)]
    by_cases e : x.getD n 0 = a
    · rw [if_pos e, decide_eq_true (by rw [e]; exact List.mem_cons_self)]
    · rw [if_neg e]
      congr 1
      rw [decide_eq_decide]
      constructor
      · exact fun h => List.mem_cons_of_mem _ h
      · intro h
        rcases List.mem_cons.1 h with h | h
        · exact absurd h.symm e
        · exact h
theorem impl_hasInt_eq (x : List Int) (hb : x.length ≤ 140737488355328) (a : Int) (k : Nat) (hk : x.length < k) : impl_hasInt.f k x a = some (decide (a ∈ x)) := by
  unfold impl_hasInt.f
  have h := impl_hasInt_loop a x hb x.length 0 k (by omega) (by omega) hk
  simpa using h
def kbB (x : List Int) : Bool := ascB x (-15) 19 x.length 0 && decide (1 ≤ (x.length : Int) ∧ (x.length : Int) ≤ 20)
theorem impl_kb_loop (x : List Int) (hb : x.length ≤ 140737488355328) : ∀ (d n k : Nat), n ≤ x.length → x.length - n = d → d < k → impl_KeyboardOk.l0 k x (x.length : Int) (n : Int) x = some (ascB x (-15) 19 d n && decide (1 ≤ (x.length : Int) ∧ (x.length : Int) ≤ 20)) := by
  intro d
  induction d with
  | zero =>
    intro n k h1 h2 hk
    obtain ⟨k, rfl⟩ : ∃ m, k = m + 1 := ⟨k - 1, by omega⟩
    simp only [impl_KeyboardOk.l0, ascB, within_eq, Option.bind_some]
    rw [if_neg (by omega), Bool.true_and]
  | succ d ih =>
    intro n k h1 h2 hk
    obtain ⟨k, rfl⟩ : ∃ m, k = m + 1 := ⟨k - 1, by omega⟩
    simp only [impl_KeyboardOk.l0, ascB, impl_hasName.f, within_eq, Option.bind_some]
    rw [if_pos (by omega), if_pos (by omega), if_pos (by omega), rd_nat, wrap_next (by omega), ih (n + 1) k (by omega) (by omega) (by omega)]
    by_cases c1 : -15 ≤ x.getD n 0 ∧ x.getD n 0 ≤ 19
    · rw [if_pos (decide_eq_true c1), decide_eq_true c1, Bool.true_and]
      by_cases h0 : n = 0
      · rw [if_neg (by omega), decide_eq_true h0, Bool.true_or, Bool.true_and]
      · have e : wrap64 ((n : Int) - 1) = ((n - 1 : Nat) : Int) := by rw [w64 (by omega) (by omega)]; omega
        rw [if_pos (by omega), e, if_pos (by omega), if_pos (by omega), rd_nat, decide_eq_false h0, Bool.false_or]
        by_cases c2 : x.getD (n - 1) 0 < x.getD n 0
        · rw [if_neg (by omega), decide_eq_true c2, Bool.true_and]
        · rw [if_pos (by omega), decide_eq_false c2, Bool.false_and, Bool.false_and]
    · rw [if_neg (by simpa using c1), decide_eq_false c1, Bool.false_and, Bool.false_and, Bool.false_and]
theorem impl_KeyboardOk_eq (x : List Int) (hb : x.length ≤ 140737488355328) (k : Nat) (hk : x.length < k) : impl_KeyboardOk.f k x = some (kbB x) := by
  unfold impl_KeyboardOk.f
  exact impl_kb_loop x hb x.length 0 k (by omega) (by omega) hk
theorem spec_kb_loop (x : List Int) (hb : x.length ≤ 140737488355328) : ∀ (d n k : Nat), n ≤ x.length → x.length - n = d → d < k → spec_KeyboardOk.l0 k (n : Int) x = some (ascB x (-15) 19 d n && decide (1 ≤ (x.length : Int) ∧ (x.length : Int) ≤ 20)) := by
  intro d
  induction d with
  | zero =>
    intro n k h1 h2 hk
    obtain ⟨k, rfl⟩ : ∃ m, k = m + 1 := ⟨k - 1, by omega⟩
    simp only [spec_KeyboardOk.l0, ascB, l01In_eq, Option.bind_some]
    rw [if_neg (by omega), Bool.true_and]
  | succ d ih =>
    intro n k h1 h2 hk
    obtain ⟨k, rfl⟩ : ∃ m, k = m + 1 := ⟨k - 1, by omega⟩
    simp only [spec_KeyboardOk.l0, ascB, spec_l07Has.f, l01In_eq, Option.bind_some]
    rw [if_pos (by omega), if_pos (by omega), rd_nat, wrap_next (by omega), ih (n + 1) k (by omega) (by omega) (by omega)]
    by_cases c1 : -15 ≤ x.getD n 0 ∧ x.getD n 0 ≤ 19
    · rw [if_pos (decide_eq_true c1), decide_eq_true c1, Bool.true_and]
      by_cases h0 : n = 0
      · rw [if_neg (by omega), decide_eq_true h0, Bool.true_or, Bool.true_and]
      · have e : wrap64 ((n : Int) - 1) = ((n - 1 : Nat) : Int) := by rw [w64 (by omega) (by omega)]; omega
        rw [if_pos (by omega), e, if_pos (by omega), if_pos (by omega), rd_nat, decide_eq_false h0, Bool.false_or]
        by_cases c2 : x.getD (n - 1) 0 < x.getD n 0
        · rw [if_neg (by omega), decide_eq_true c2, Bool.true_and]
        · rw [if_pos (by omega), decide_eq_false c2, Bool.false_and, Bool.false_and]
    · rw [if_neg (by simpa using c1), decide_eq_false c1, Bool.false_and, Bool.false_and, Bool.false_and]
theorem spec_KeyboardOk_eq (x : List Int) (hb : x.length ≤ 140737488355328) (k : Nat) (hk : x.length < k) : spec_KeyboardOk.f k x = some (kbB x) := by
  unfold spec_KeyboardOk.f
  exact spec_kb_loop x hb x.length 0 k (by omega) (by omega) hk
def hasB (x : List Int) (a : Int) : Bool := kbB x && decide (a ∈ x)
theorem impl_HasNote_eq (x : List Int) (hb : x.length ≤ 140737488355328) (a : Int) (k : Nat) (hk : x.length < k) : impl_HasNote.f k x a = some (hasB x a) := by
  unfold impl_HasNote.f hasB
  rw [impl_KeyboardOk_eq x hb k hk]
  simp only [Option.bind_some]
  cases kbB x
  · simp
  · rw [if_pos rfl, impl_hasInt_eq x hb a k hk]; simp
theorem spec_has_loop (a : Int) (x : List Int) (hb : x.length ≤ 140737488355328) : ∀ (d n k : Nat), n ≤ x.length → x.length - n = d → d + x.length + 1 < k → spec_HasNote.l0 k a (n : Int) x = some (kbB x && decide (a ∈ x.drop n)) := by
  intro d
  induction d with
  | zero =>
    intro n k h1 h2 hk
    obtain ⟨k, rfl⟩ : ∃ m, k = m + 1 := ⟨k - 1, by omega⟩
    simp only [spec_HasNote.l0]
    rw [if_neg (by omega), List.drop_of_length_le (by omega)]
    simp
  | succ d ih =>
    intro n k h1 h2 hk
    obtain ⟨k, rfl⟩ : ∃ m, k = m + 1 := ⟨k - 1, by omega⟩
    simp only [spec_HasNote.l0]
    rw [if_pos (by omega), if_pos (by omega), rd_nat, wrap_next (by omega), ih (n + 1) k (by omega) (by omega) (by omega), drop_getD x 0 n (by omega), spec_KeyboardOk_eq x hb k (by omega)]
    simp only [Option.bind_some]
    by_cases e : x.getD n 0 = a
    · rw [if_pos e, e]
      cases kbB x
      · simp
      · simp
    · rw [if_neg e]
      congr 2
      rw [decide_eq_decide]
      constructor
      · exact fun h => List.mem_cons_of_mem _ h
      · intro h
        rcases List.mem_cons.1 h with h | h
        · exact absurd h.symm e
        · exact h
theorem spec_HasNote_eq (x : List Int) (hb : x.length ≤ 140737488355328) (a : Int) (k : Nat) (hk : 2 * x.length + 1 < k) : spec_HasNote.f k x a = some (hasB x a) := by
  unfold spec_HasNote.f hasB
  have h := spec_has_loop a x hb x.length 0 k (by omega) (by omega) (by omega)
  simpa using h
def tonicL (n : Int) : List Int := if -14 ≤ n ∧ n ≤ 14 then [n - 1, n, n + 1, n + 2, n + 3, n + 4, n + 5] else []
theorem impl_TonicNotes_eq (n : Int) (k : Nat) (hk : 8 < k) : impl_TonicNotes.f k n = some (tonicL n) := by
  obtain ⟨k, rfl⟩ : ∃ m, k = m + 8 := ⟨k - 8, by omega⟩
  unfold impl_TonicNotes.f tonicL
  rw [within_eq]
  simp only [Option.bind_some]
  by_cases h : -14 ≤ n ∧ n ≤ 14
  · rw [if_pos (decide_eq_true h), if_pos h]
    simp only [impl_TonicNotes.l0]
    rw [w64 (n := n + 5) (by omega) (by omega), w64 (n := n - 1) (by omega) (by omega)]
    rw [w64 (n := n - 1 + 1) (by omega) (by omega), w64 (n := n - 1 + 1 + 1) (by omega) (by omega), w64 (n := n - 1 + 1 + 1 + 1) (by omega) (by omega), w64 (n := n - 1 + 1 + 1 + 1 + 1) (by omega) (by omega), w64 (n := n - 1 + 1 + 1 + 1 + 1 + 1) (by omega) (by omega), w64 (n := n - 1 + 1 + 1 + 1 + 1 + 1 + 1) (by omega) (by omega), w64 (n := n - 1 + 1 + 1 + 1 + 1 + 1 + 1 + 1) (by omega) (by omega)]
    rw [if_pos (by omega), if_pos (by simp), if_pos (by omega), if_pos (by simp), if_pos (by omega), if_pos (by simp), if_pos (by omega), if_pos (by simp), if_pos (by omega), if_pos (by simp), if_pos (by omega), if_pos (by simp), if_pos (by omega), if_pos (by simp), if_neg (by omega)]
    simp only [List.nil_append, List.cons_append]
    congr 2
    all_goals (try omega)
    repeat' (first | omega | (congr 1) )
  · rw [if_neg (by simpa using h), if_neg h]
theorem spec_TonicNotes_eq (n : Int) (k : Nat) (hk : 8 < k) : spec_TonicNotes.f k n = some (tonicL n) := by
  obtain ⟨k, rfl⟩ : ∃ m, k = m + 8 := ⟨k - 8, by omega⟩
  unfold spec_TonicNotes.f tonicL
  rw [l01In_eq]
  simp only [Option.bind_some]
  by_cases h : -14 ≤ n ∧ n ≤ 14
  · rw [if_pos (decide_eq_true h), if_pos h]
    simp only [spec_TonicNotes.l0]
    rw [w64 (n := n + 5) (by omega) (by omega), w64 (n := n - 1) (by omega) (by omega)]
    rw [w64 (n := n - 1 + 1) (by omega) (by omega), w64 (n := n - 1 + 1 + 1) (by omega) (by omega), w64 (n := n - 1 + 1 + 1 + 1) (by omega) (by omega), w64 (n := n - 1 + 1 + 1 + 1 + 1) (by omega) (by omega), w64 (n := n - 1 + 1 + 1 + 1 + 1 + 1) (by omega) (by omega), w64 (n := n - 1 + 1 + 1 + 1 + 1 + 1 + 1) (by omega) (by omega), w64 (n := n - 1 + 1 + 1 + 1 + 1 + 1 + 1 + 1) (by omega) (by omega)]
    rw [if_pos (by omega), if_pos (by simp), if_pos (by omega), if_pos (by simp), if_pos (by omega), if_pos (by simp), if_pos (by omega), if_pos (by simp), if_pos (by omega), if_pos (by simp), if_pos (by omega), if_pos (by simp), if_pos (by omega), if_pos (by simp), if_neg (by omega)]
    simp only [List.nil_append, List.cons_append]
    congr 2
    all_goals (try omega)
    repeat' (first | omega | (congr 1) )
  · rw [if_neg (by simpa using h), if_neg h]
def playB (x : List Int) (n : Int) : Bool := (tonicL n).all (hasB x) && decide ((tonicL n).length > 0)
theorem tonicL_length (n : Int) : (tonicL n).length ≤ 7 := by unfold tonicL; split <;> simp
theorem impl_play_loop (x t : List Int) (hb : x.length ≤ 140737488355328) (ht : t.length ≤ 7) : ∀ (d n k : Nat), n ≤ t.length → t.length - n = d → d + x.length + 1 < k → impl_IsPlayable.l0 k t t (t.length : Int) (n : Int) x = some ((t.drop n).all (hasB x) && decide (t.length > 0)) := by
  intro d
  induction d with
  | zero =>
    intro n k h1 h2 hk
    obtain ⟨k, rfl⟩ : ∃ m, k = m + 1 := ⟨k - 1, by omega⟩
    simp only [impl_IsPlayable.l0]
    rw [if_neg (by omega), List.drop_of_length_le (by omega), List.all_nil, Bool.true_and]
    congr 1; rw [decide_eq_decide]; omega
  | succ d ih =>
    intro n k h1 h2 hk
    obtain ⟨k, rfl⟩ : ∃ m, k = m + 1 := ⟨k - 1, by omega⟩
    simp only [impl_IsPlayable.l0]
    rw [if_pos (by omega), if_pos (by omega), if_pos (by omega), rd_nat, wrap_next (by omega), ih (n + 1) k (by omega) (by omega) (by omega), impl_HasNote_eq x hb _ k (by omega), drop_getD t 0 n (by omega), List.all_cons]
    simp only [Option.bind_some]
    cases hasB x (t.getD n 0)
    · simp
    · simp
theorem impl_IsPlayable_eq (x : List Int) (hb : x.length ≤ 140737488355328) (n : Int) (k : Nat) (hk : x.length + 20 < k) : impl_IsPlayable.f k x n = some (playB x n) := by
  have ht := tonicL_length n
  unfold impl_IsPlayable.f playB
  rw [impl_TonicNotes_eq n k (by omega)]
  simp only [Option.bind_some]
  exact impl_play_loop x (tonicL n) hb ht (tonicL n).length 0 k (by omega) (by omega) (by omega)
theorem spec_play_loop (x t : List Int) (hb : x.length ≤ 140737488355328) (ht : t.length ≤ 7) : ∀ (d n k : Nat), n ≤ t.length → t.length - n = d → d + 2 * x.length + 1 < k → spec_IsPlayable.l0 k t (n : Int) x = some ((t.drop n).all (hasB x) && decide (t.length > 0)) := by
  intro d
  induction d with
  | zero =>
    intro n k h1 h2 hk
    obtain ⟨k, rfl⟩ : ∃ m, k = m + 1 := ⟨k - 1, by omega⟩
    simp only [spec_IsPlayable.l0]
    rw [if_neg (by omega), List.drop_of_length_le (by omega), List.all_nil, Bool.true_and]
    congr 1; rw [decide_eq_decide]; omega
  | succ d ih =>
    intro n k h1 h2 hk
    obtain ⟨k, rfl⟩ : ∃ m, k = m + 1 := ⟨k - 1, by omega⟩
    simp only [spec_IsPlayable.l0]
    rw [if_pos (by omega), if_pos (by omega), rd_nat, wrap_next (by omega), ih (n + 1) k (by omega) (by omega) (by omega), spec_HasNote_eq x hb _ k (by omega), drop_getD t 0 n (by omega), List.all_cons]
    simp only [Option.bind_some]
    cases hasB x (t.getD n 0)
    · simp
    · simp
theorem spec_IsPlayable_eq (x : List Int) (hb : x.length ≤ 140737488355328) (n : Int) (k : Nat) (hk : 2 * x.length + 20 < k) : spec_IsPlayable.f k x n = some (playB x n) := by
  have ht := tonicL_length n
  unfold spec_IsPlayable.f playB
  rw [spec_TonicNotes_eq n k (by omega)]
  simp only [Option.bind_some]
  exact spec_play_loop x (tonicL n) hb ht (tonicL n).length 0 k (by omega) (by omega) (by omega)
def playL (x : List Int) : Nat → Int → List Int
  | 0, _ => []
  | d + 1, n => if playB x n = true then n :: playL x d (n + 1) else playL x d (n + 1)
theorem playL_length (x : List Int) : ∀ (d : Nat) (n : Int), (playL x d n).length ≤ d := by
  intro d
  induction d with
  | zero => intro n; simp [playL]
  | succ d ih => intro n; have := ih (n + 1); unfold playL; split <;> simp <;> omega
theorem impl_keys_loop (x : List Int) (hb : x.length ≤ 140737488355328) : ∀ (d k : Nat) (n : Int) (acc : List Int), n = 15 - d → -14 ≤ n → d + x.length + 20 < k → acc.length ≤ 100 - d → d ≤ 29 →
    impl_PlayableKeys.l0 k acc n x = some (acc ++ playL x d n) := by
  intro d
  induction d with
  | zero =>
    intro k n acc h1 h0 hk ha hd
    obtain ⟨k, rfl⟩ : ∃ m, k = m + 1 := ⟨k - 1, by omega⟩
    simp only [impl_PlayableKeys.l0, playL]
    rw [if_neg (by omega)]
    simp
  | succ d ih =>
    intro k n acc h1 h0 hk ha hd
    obtain ⟨k, rfl⟩ : ∃ m, k = m + 1 := ⟨k - 1, by omega⟩
    simp only [impl_PlayableKeys.l0, playL]
    rw [if_pos (by omega), impl_IsPlayable_eq x hb n k (by omega), w64 (n := n + 1) (by omega) (by omega)]
    simp only [Option.bind_some]
    cases playB x n
    · rw [if_neg (by decide), if_neg (by decide), ih k (n + 1) acc (by omega) (by omega) (by omega) (by omega) (by omega)]
    · rw [if_pos rfl, if_pos (by omega), if_pos rfl, ih k (n + 1) _ (by omega) (by omega) (by omega) (by simp; omega) (by omega)]
      simp
theorem impl_PlayableKeys_eq (x : List Int) (hb : x.length ≤ 140737488355328) (k : Nat) (hk : x.length + 60 < k) : impl_PlayableKeys.f k x = some (playL x 29 (-14)) := by
  unfold impl_PlayableKeys.f
  have h := impl_keys_loop x hb 29 k (-14) [] (by omega) (by omega) (by omega) (by simp) (by omega)
  simpa using h
theorem spec_keys_loop (x : List Int) (hb : x.length ≤ 140737488355328) : ∀ (d k : Nat) (n : Int) (acc : List Int), n = 15 - d → -14 ≤ n → d + 2 * x.length + 20 < k → acc.length ≤ 100 - d → d ≤ 29 →
    spec_PlayableKeys.l0 k acc n x = some (acc ++ playL x d n) := by
  intro d
  induction d with
  | zero =>
    intro k n acc h1 h0 hk ha hd
    obtain ⟨k, rfl⟩ : ∃ m, k = m + 1 := ⟨k - 1, by omega⟩
    simp only [spec_PlayableKeys.l0, playL]
    rw [if_neg (by omega)]
    simp
  | succ d ih =>
    intro k n acc h1 h0 hk ha hd
    obtain ⟨k, rfl⟩ : ∃ m, k = m + 1 := ⟨k - 1, by omega⟩
    simp only [spec_PlayableKeys.l0, playL]
    rw [if_pos (by omega), spec_IsPlayable_eq x hb n k (by omega), w64 (n := n + 1) (by omega) (by omega)]
    simp only [Option.bind_some]
    cases playB x n
    · rw [if_neg (by decide), if_neg (by decide), ih k (n + 1) acc (by omega) (by omega) (by omega) (by omega) (by omega)]
    · rw [if_pos rfl, if_pos (by omega), if_pos rfl, ih k (n + 1) _ (by omega) (by omega) (by omega) (by simp; omega) (by omega)]
      simp
theorem spec_PlayableKeys_eq (x : List Int) (hb : x.length ≤ 140737488355328) (k : Nat) (hk : 2 * x.length + 60 < k) : spec_PlayableKeys.f k x = some (playL x 29 (-14)) := by
  unfold spec_PlayableKeys.f
  have h := spec_keys_loop x hb 29 k (-14) [] (by omega) (by omega) (by omega) (by simp) (by omega)
  simpa using h
theorem toIntS_loop (x : List Int) (hb : x.length ≤ 140737488355328) : ∀ (d n k : Nat) (y : List Int), n ≤ x.length → x.length - n = d → d < k → y.length = x.length →
    laws_toIntS.l0 k x y (n : Int) = some (y.take n ++ x.drop n) := by
  intro d
  induction d with
  | zero =>
    intro n k y h1 h2 hk hy
    obtain ⟨k, rfl⟩ : ∃ m, k = m + 1 := ⟨k - 1, by omega⟩
    simp only [laws_toIntS.l0]
    rw [if_neg (by omega), List.take_of_length_le (by omega), List.drop_of_length_le (by omega)]
    simp
  | succ d ih =>
    intro n k y h1 h2 hk hy
    obtain ⟨k, rfl⟩ : ∃ m, k = m + 1 := ⟨k - 1, by omega⟩
    simp only [laws_toIntS.l0]
    rw [if_pos (by omega), if_pos (by omega), if_pos (by omega), rd_nat, wrap_next (by omega), Int.toNat_natCast]
    rw [ih (n + 1) k _ (by omega) (by omega) (by omega) (by simpa using hy), take_set_next y n _ (by omega), drop_getD x 0 n (by omega)]
    rw [List.append_assoc]
    rfl
theorem toIntS_eq (x : List Int) (hb : x.length ≤ 35184372088832) (k : Nat) (hk : x.length < k) : laws_toIntS.f k x = some x := by
  unfold laws_toIntS.f
  rw [if_pos (by omega), Int.toNat_natCast, if_pos hb]
  have h := toIntS_loop x (by omega) x.length 0 k (List.replicate x.length 0) (by omega) (by omega) hk (by simp)
  simpa using h
theorem eqIntS_loop (x y : List Int) (hl : x.length = y.length) (hb : x.length ≤ 140737488355328) : ∀ (d n k : Nat), n ≤ x.length → x.length - n ≤ d → d < k → laws_eqIntS.l0 k x y (n : Int) = some (decide (x.drop n = y.drop n)) := by
  intro d
  induction d with
  | zero =>
    intro n k h1 h2 hk
    obtain ⟨k, rfl⟩ : ∃ m, k = m + 1 := ⟨k - 1, by omega⟩
    simp only [laws_eqIntS.l0]
    rw [if_neg (by omega), List.drop_of_length_le (by omega), List.drop_of_length_le (by omega)]
    simp
  | succ d ih =>
    intro n k h1 h2 hk
    obtain ⟨k, rfl⟩ : ∃ m, k = m + 1 := ⟨k - 1, by omega⟩
    simp only [laws_eqIntS.l0]
    by_cases hlt : n < x.length
    · rw [if_pos (by omega), if_pos (by omega), if_pos (by omega), rd_nat, rd_nat, wrap_next (by omega), drop_getD x 0 n hlt, drop_getD y 0 n (by omega), ih (n + 1) k (by omega) (by omega) (by omega)]
      by_cases e : x.getD n 0 = y.getD n 0
      · rw [if_pos e, e]; simp
      · rw [if_neg e]; simp only [List.cons.injEq, e, false_and, decide_false]
    · rw [if_neg (by omega), List.drop_of_length_le (by omega), List.drop_of_length_le (by omega)]
      simp
theorem eqIntS_eq (x y : List Int) (hb : x.length ≤ 140737488355328) (k : Nat) (hk : x.length < k) : laws_eqIntS.f k x y = some (decide (x = y)) := by
  unfold laws_eqIntS.f
  by_cases hl : x.length = y.length
  · rw [if_pos (by omega)]
    have h := eqIntS_loop x y hl hb x.length 0 k (by omega) (by omega) hk
    simpa using h
  · rw [if_neg (by omega)]
    have : x ≠ y := fun e => hl (by rw [e])
    simp [this]
def iota (m : Int) : Nat → List Int
  | 0 => []
  | n + 1 => m :: iota (m + 1) n
theorem iota_length (n : Nat) : ∀ m : Int, (iota m n).length = n := by
  induction n with
  | zero => intro m; rfl
  | succ n ih => intro m; simp [iota, ih]
theorem wrap_int {m : Int} (h : -9223372036854775808 ≤ m) (h2 : m ≤ 9223372036854775807) : wrap64 m = m := by unfold wrap64; omega
theorem markIntS_loop : ∀ (d n k : Nat) (x : List Int) (m : Int), x.length ≤ 140737488355328 → n ≤ x.length → x.length - n = d → d < k → 0 ≤ m → m + d ≤ 281474976710656 →
    laws_markIntS.l0 k x m (n : Int) = some (m + d, x.take n ++ iota m d) := by
  intro d
  induction d with
  | zero =>
    intro n k x m hb h1 h2 hk hm hm2
    obtain ⟨k, rfl⟩ : ∃ m, k = m + 1 := ⟨k - 1, by omega⟩
    simp only [laws_markIntS.l0]
    rw [if_neg (by omega), List.take_of_length_le (by omega)]
    simp [iota]
  | succ d ih =>
    intro n k x m hb h1 h2 hk hm hm2
    obtain ⟨k, rfl⟩ : ∃ m, k = m + 1 := ⟨k - 1, by omega⟩
    simp only [laws_markIntS.l0]
    rw [if_pos (by omega), if_pos (by omega), wrap_next (by omega), wrap_int (m := m + 1) (by omega) (by omega), Int.toNat_natCast]
    rw [ih (n + 1) k (x.set n m) (m + 1) (by simpa using hb) (by simp; omega) (by simp; omega) (by omega) (by omega) (by omega), take_set_next x n m (by omega)]
    simp [iota]
    omega
theorem markIntS_eq (x : List Int) (hb : x.length ≤ 140737488355328) (k : Nat) (hk : x.length < k) (m : Int) (h0 : 0 ≤ m) (h1 : m ≤ 140737488355328) : laws_markIntS.f k x m = some (m + x.length, iota m x.length) := by
  unfold laws_markIntS.f
  have h := markIntS_loop x.length 0 k x m hb (by omega) (by omega) hk h0 (by omega)
  simpa using h
theorem toKeyboard_eq (x : List Int) (hb : x.length ≤ 35184372088832) (k : Nat) (hk : x.length < k) : laws_toKeyboard.f k x = some x := by
  unfold laws_toKeyboard.f
  rw [toIntS_eq x hb k hk]; simp only [Option.bind_some]
theorem eqKeyboard_self (x : List Int) (hb : x.length ≤ 35184372088832) (k : Nat) (hk : x.length < k) : laws_eqKeyboard.f k x x = some true := by
  unfold laws_eqKeyboard.f
  rw [eqIntS_eq x x (by omega) k hk]
  simp
theorem markKeyboard_eq (x : List Int) (hb : x.length ≤ 1048576) (k : Nat) (hk : x.length < k) : laws_markKeyboard.f k x 1 = some (1 + (x.length : Int), iota 1 x.length) := by
  unfold laws_markKeyboard.f
  rw [markIntS_eq x (by omega) k hk 1 (by omega) (by omega)]; simp only [Option.bind_some]
theorem szKeyboard_eq (x : List Int) (hx : x.length ≤ 9223372036854775807) :
    (∃ r, laws_szKeyboard.f x 1048576 = some r ∧ r < 0) ∨ (x.length ≤ 1048576 ∧ ∃ r, laws_szKeyboard.f x 1048576 = some r ∧ ¬ r < 0) := by
  simp only [laws_szKeyboard.f, laws_szIntS.f]
  rw [w64 (n := 1048576 - (x.length : Int)) (by omega) (by omega)]
  by_cases h1 : 1048576 - (x.length : Int) < 0
  · rw [if_pos h1]
    exact .inl ⟨-1, rfl, by omega⟩
  · rw [if_neg h1]
    simp only [Option.bind_some]
    rw [if_neg h1]
    exact .inr ⟨by omega, _, rfl, h1⟩
theorem heldIntS_loop : ∀ (d n k : Nat) (x : List Int) (m : Int), x.length ≤ 140737488355328 → n ≤ x.length → x.length - n = d → d < k → 0 ≤ m → m + d ≤ 281474976710656 → x.drop n = iota m d →
    laws_heldIntS.l0 k x m (n : Int) = some (m + d) := by
  intro d
  induction d with
  | zero =>
    intro n k x m hb h1 h2 hk hm hm2 hx
    obtain ⟨k, rfl⟩ : ∃ m, k = m + 1 := ⟨k - 1, by omega⟩
    simp only [laws_heldIntS.l0]
    rw [if_neg (by omega)]
    simp
  | succ d ih =>
    intro n k x m hb h1 h2 hk hm hm2 hx
    obtain ⟨k, rfl⟩ : ∃ m, k = m + 1 := ⟨k - 1, by omega⟩
    simp only [laws_heldIntS.l0]
    rw [drop_getD x 0 n (by omega)] at hx
    injection hx with e1 e2
    rw [if_pos (by omega), if_pos (by omega), rd_nat, if_pos e1, wrap_next (by omega), wrap_int (m := m + 1) (by omega) (by omega), ih (n + 1) k x (m + 1) hb (by omega) (by omega) (by omega) (by omega) (by omega) e2]
    congr 1
    omega
theorem heldIntS_eq (n : Nat) (hb : n ≤ 140737488355328) (k : Nat) (hk : n < k) (m : Int) (h0 : 0 ≤ m) (h1 : m ≤ 140737488355328) : laws_heldIntS.f k (iota m n) m = some (m + n) := by
  unfold laws_heldIntS.f
  have hl := iota_length n m
  exact heldIntS_loop n 0 k (iota m n) m (by omega) (by omega) (by omega) hk h0 (by omega) (by simp)
theorem keys_law (x : List Int) (hx : x.length ≤ 9223372036854775807) (k : Nat) (hk : 4000000 < k) : laws_FnExactPlayableKeys.f k x = some true := by
  unfold laws_FnExactPlayableKeys.f
  rcases szKeyboard_eq x hx with ⟨r, e, hr⟩ | ⟨h1, r, e, hr⟩
  · rw [e]; simp only [Option.bind_some]; rw [if_pos hr]
  · have hl := playL_length x 29 (-14)
    rw [e]; simp only [Option.bind_some]; rw [if_neg hr, toKeyboard_eq x (by omega) k (by omega)]
    simp only [Option.bind_some]
    rw [spec_PlayableKeys_eq x (by omega) k (by omega), impl_PlayableKeys_eq x (by omega) k (by omega)]
    simp only [Option.bind_some]
    rw [eqIntS_eq _ _ (by omega) k (by omega)]
    simp only [Option.bind_some, decide_true, if_true]
    rw [eqKeyboard_self x (by omega) k (by omega), markKeyboard_eq x (by omega) k (by omega)]
    simp only [Option.bind_some, if_true]
    rw [if_neg (by omega)]
    obtain ⟨k, rfl⟩ : ∃ m, k = m + 1 := ⟨k - 1, by omega⟩
    rw [laws_FnExactPlayableKeys.j0]
    simp only [Bool.not_true, Bool.false_eq_true, if_false]
    rw [markIntS_eq _ (by omega) k (by omega) 1 (by omega) (by omega)]
    simp only [Option.bind_some]
    rw [heldIntS_eq _ (by omega) k (by omega) 1 (by omega) (by omega)]
    simp only [Option.bind_some]
    rw [if_neg (by omega), if_pos trivial, toKeyboard_eq x (by omega) k (by omega)]
    simp only [Option.bind_some]
    rw [impl_PlayableKeys_eq x (by omega) k (by omega)]
    simp only [Option.bind_some]
    rw [eqIntS_eq _ _ (by omega) k (by omega)]
    simp only [Option.bind_some, decide_true, if_true]
    rw [if_neg (by omega)]
theorem FnExactPlayableKeys (x : List Int) (hx : x.length ≤ maxLen) : ∃ k, laws_FnExactPlayableKeys.f k x = some true := by
  obtain ⟨k, hk⟩ : ∃ k : Nat, 4000000 < k := ⟨4000001, by omega⟩
  exact ⟨k, keys_law x hx k hk⟩
end Go.Proofs.Ytbimhcdfojbjgac.Pure
