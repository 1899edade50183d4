/- The plain law of FnExactSplitPairs: the printed function of the law answers true. Its conditions are those of the statement's own bounds. -/
import Derived.Test.YtnpckibmahjbbaaHFnExactSplitPairsx5
namespace Go.Proofs.Ytnpckibmahjbbaa.Pure
open Go.RowKit Go.Proofs.Ytnpckibmahjbbaa.PFnExactSplitPairs Go.Proofs.YtnpckibmahjbbaaW.PrintWords Go.Proofs.YtnpckibmahjbbaaW.PrintLast Go.Proofs.YtnpckibmahjbbaaW.PrintMore
set_option linter.unusedVariables false
theorem l01In_eq (a b c : Int) : spec_l01In.f a b c = some (decide (b ≤ a ∧ a ≤ c)) := by
  unfold spec_l01In.f
  by_cases h : a ≥ b
  · rw [if_pos h]; congr 1; by_cases h2 : a ≤ c <;> simp [h2, h]
  · rw [if_neg h]; congr 1; simp; omega
theorem within_eq (a b c : Int) : impl_within.f a b c = some (decide (b ≤ a ∧ a ≤ c)) := by
  unfold impl_within.f
  by_cases h : b ≤ a
  · rw [if_pos h]; congr 1; by_cases h2 : a ≤ c <;> simp [h2, h]
  · rw [if_neg h]; congr 1; simp; omega
theorem law_of {α : Type} [DecidableEq α] {s i : Option α} {r : α} (hs : s = some r) (hi : i = some r) : (s.bind fun t => i.bind fun u => if u = t then some true else some false) = some true := by
  subst hs hi; simp
theorem law_ofb {s i : Option Bool} {r : Bool} (hs : s = some r) (hi : i = some r) : (s.bind fun t => i.bind fun u => if (u != t) = true then some false else some true) = some true := by
  subst hs hi; simp
theorem wf_i64 {a : Int} (h : (Lit.int .i64 a).wf = true) : -9223372036854775808 ≤ a ∧ a ≤ 9223372036854775807 := by
  have h' : (decide ((-9223372036854775808 : Int) ≤ a) && decide (a ≤ 9223372036854775807)) = true := h
  simp at h'; omega
theorem w64 {n : Int} (h1 : -9223372036854775808 ≤ n) (h2 : n ≤ 9223372036854775807) : wrap64 n = n := by unfold wrap64; omega
theorem mul_bd {a b A B : Int} (h0 : 0 ≤ a) (h1 : a ≤ A) (h2 : 0 ≤ b) (h3 : b ≤ B) : 0 ≤ a * b ∧ a * b ≤ A * B := by
  refine ⟨Int.mul_nonneg h0 h2, ?_⟩
  exact Int.le_trans (Int.mul_le_mul_of_nonneg_right h1 h2) (Int.mul_le_mul_of_nonneg_left h3 (by omega))
theorem tdiv_nn {a b : Int} (h : 0 ≤ a) : a.tdiv b = a / b := Int.tdiv_eq_ediv_of_nonneg h
theorem div_bd {a A c : Int} (h0 : 0 ≤ a) (h1 : a ≤ A) (hc : 0 < c) : 0 ≤ a / c ∧ a / c ≤ A / c :=
  ⟨Int.ediv_nonneg h0 (by omega), Int.ediv_le_ediv hc h1⟩
theorem wrap_next {n : Nat} (h : n ≤ 140737488355328) : wrap64 ((n : Int) + 1) = ((n + 1 : Nat) : Int) := by unfold wrap64; omega
theorem drop_getD {α : Type} (x : List α) (z : α) (n : Nat) (h : n < x.length) : x.drop n = x.getD n z :: x.drop (n + 1) := by
  rw [List.getD_eq_getElem?_getD, List.getElem?_eq_getElem h]
  exact List.drop_eq_getElem_cons h
theorem rd_nat (x : List Int) (n : Nat) : rd x (n : Int) = x.getD n 0 := by unfold rd; rw [Int.toNat_natCast]
theorem take_set_next {α : Type} (x : List α) (n : Nat) (v : α) (h : n < x.length) : (x.set n v).take (n + 1) = x.take n ++ [v] := by
  rw [List.take_succ_eq_append_getElem (by simpa using h)]
  congr 1
  · rw [List.take_set_of_le (Nat.le_refl _)]
  · simp
/-- from place n on: in the range and ascending (the one before counts) -/
def ascB (x : List Int) (lo hi : Int) : Nat → Nat → Bool
  | 0, _ => true
  | d + 1, n => decide (lo ≤ x.getD n 0 ∧ x.getD n 0 ≤ hi) && (decide (n = 0) || decide (x.getD (n - 1) 0 < x.getD n 0)) && ascB x lo hi d (n + 1)
def mixB (s b : List Int) : Bool := ascB s 0 48 s.length 0 && ascB b 1 24 b.length 0 && (decide (1 ≤ (s.length : Int) ∧ (s.length : Int) ≤ 5) && decide ((b.length : Int) ≤ 4))
def kbB (x : List Int) : Bool := ascB x (-15) 19 x.length 0 && decide (1 ≤ (x.length : Int) ∧ (x.length : Int) ≤ 20)
theorem impl_kb_loop (x : List Int) (hb : x.length ≤ 140737488355328) : ∀ (d n k : Nat), n ≤ x.length → x.length - n = d → d < k → impl_KeyboardOk.l0 k x (x.length : Int) (n : Int) x = some (ascB x (-15) 19 d n && decide (1 ≤ (x.length : Int) ∧ (x.length : Int) ≤ 20)) := by
  intro d
  induction d with
  | zero =>
    intro n k h1 h2 hk
    obtain ⟨k, rfl⟩ : ∃ m, k = m + 1 := ⟨k - 1, by omega⟩
    simp only [impl_KeyboardOk.l0, ascB, within_eq, Option.bind_some]
    rw [if_neg (by omega), Bool.true_and]
  | succ d ih =>
    intro n k h1 h2 hk
    obtain ⟨k, rfl⟩ : ∃ m, k = m + 1 := ⟨k - 1, by omega⟩
    simp only [impl_KeyboardOk.l0, ascB, impl_hasName.f, within_eq, Option.bind_some]
    rw [if_pos (by omega), if_pos (by omega), if_pos (by omega), rd_nat, wrap_next (by omega), ih (n + 1) k (by omega) (by omega) (by omega)]
    by_cases c1 : -15 ≤ x.getD n 0 ∧ x.getD n 0 ≤ 19
    · rw [if_pos (decide_eq_true c1), decide_eq_true c1, Bool.true_and]
      by_cases h0 : n = 0
      · rw [if_neg (by omega), decide_eq_true h0, Bool.true_or, Bool.true_and]
      · have e : wrap64 ((n : Int) - 1) = ((n - 1 : Nat) : Int) := by rw [w64 (by omega) (by omega)]; omega
        rw [if_pos (by omega), e, if_pos (by omega), if_pos (by omega), rd_nat, decide_eq_false h0, Bool.false_or]
        by_cases c2 : x.getD (n - 1) 0 < x.getD n 0
        · rw [if_neg (by omega), decide_eq_true c2, Bool.true_and]
        · rw [if_pos (by omega), decide_eq_false c2, Bool.false_and, Bool.false_and]
    · rw [if_neg (by simpa using c1), decide_eq_false c1, Bool.false_and, Bool.false_and, Bool.false_and]
theorem impl_KeyboardOk_eq (x : List Int) (hb : x.length ≤ 140737488355328) (k : Nat) (hk : x.length < k) : impl_KeyboardOk.f k x = some (kbB x) := by
  unfold impl_KeyboardOk.f
  exact impl_kb_loop x hb x.length 0 k (by omega) (by omega) hk
theorem spec_kb_loop (x : List Int) (hb : x.length ≤ 140737488355328) : ∀ (d n k : Nat), n ≤ x.length → x.length - n = d → d < k → spec_KeyboardOk.l0 k (n : Int) x = some (ascB x (-15) 19 d n && decide (1 ≤ (x.length : Int) ∧ (x.length : Int) ≤ 20)) := by
  intro d
  induction d with
  | zero =>
    intro n k h1 h2 hk
    obtain ⟨k, rfl⟩ : ∃ m, k = m + 1 := ⟨k - 1, by omega⟩
    simp only [spec_KeyboardOk.l0, ascB, l01In_eq, Option.bind_some]
    rw [if_neg (by omega), Bool.true_and]
  | succ d ih =>
    intro n k h1 h2 hk
    obtain ⟨k, rfl⟩ : ∃ m, k = m + 1 := ⟨k - 1, by omega⟩
    simp only [spec_KeyboardOk.l0, ascB, spec_l07Has.f, l01In_eq, Option.bind_some]
    rw [if_pos (by omega), if_pos (by omega), rd_nat, wrap_next (by omega), ih (n + 1) k (by omega) (by omega) (by omega)]
    by_cases c1 : -15 ≤ x.getD n 0 ∧ x.getD n 0 ≤ 19
    · rw [if_pos (decide_eq_true c1), decide_eq_true c1, Bool.true_and]
      by_cases h0 : n = 0
      · rw [if_neg (by omega), decide_eq_true h0, Bool.true_or, Bool.true_and]
      · have e : wrap64 ((n : Int) - 1) = ((n - 1 : Nat) : Int) := by rw [w64 (by omega) (by omega)]; omega
        rw [if_pos (by omega), e, if_pos (by omega), if_pos (by omega), rd_nat, decide_eq_false h0, Bool.false_or]
        by_cases c2 : x.getD (n - 1) 0 < x.getD n 0
        · rw [if_neg (by omega), decide_eq_true c2, Bool.true_and]
        · rw [if_pos (by omega), decide_eq_false c2, Bool.false_and, Bool.false_and]
    · rw [if_neg (by simpa using c1), decide_eq_false c1, Bool.false_and, Bool.false_and, Bool.false_and]
theorem spec_KeyboardOk_eq (x : List Int) (hb : x.length ≤ 140737488355328) (k : Nat) (hk : x.length < k) : spec_KeyboardOk.f k x = some (kbB x) := by
  unfold spec_KeyboardOk.f
  exact spec_kb_loop x hb x.length 0 k (by omega) (by omega) hk
def hasB (x : List Int) (a : Int) : Bool := kbB x && decide (a ∈ x)
def tonicL (n : Int) : List Int := if -14 ≤ n ∧ n ≤ 14 then [n - 1, n, n + 1, n + 2, n + 3, n + 4, n + 5] else []
def playB (x : List Int) (n : Int) : Bool := (tonicL n).all (hasB x) && decide ((tonicL n).length > 0)
theorem tonicL_length (n : Int) : (tonicL n).length ≤ 7 := by unfold tonicL; split <;> simp
def playL (x : List Int) : Nat → Int → List Int
  | 0, _ => []
  | d + 1, n => if playB x n = true then n :: playL x d (n + 1) else playL x d (n + 1)
theorem playL_length (x : List Int) : ∀ (d : Nat) (n : Int), (playL x d n).length ≤ d := by
  intro d
  induction d with
  | zero => intro n; simp [playL]
  | succ d ih => intro n; have := ih (n + 1); unfold playL; split <;> simp <;> omega
theorem ascB_facts (x : List Int) (lo hi : Int) : ∀ (d n : Nat), ascB x lo hi d n = true ↔ ∀ i, n ≤ i → i < n + d → (lo ≤ x.getD i 0 ∧ x.getD i 0 ≤ hi) ∧ (i = 0 ∨ x.getD (i - 1) 0 < x.getD i 0) := by
  intro d
  induction d with
  | zero => intro n; simp only [ascB, true_iff]; intro i h1 h2; omega
  | succ d ih =>
    intro n
    simp only [ascB, Bool.and_eq_true, Bool.or_eq_true, decide_eq_true_eq, ih]
    constructor
    · rintro ⟨⟨h1, h2⟩, h3⟩ i hi hj
      by_cases e : i = n
      · subst e; exact ⟨h1, h2⟩
      · exact h3 i (by omega) (by omega)
    · intro h
      exact ⟨h n (by omega) (by omega), fun i hi hj => h i (by omega) (by omega)⟩
theorem ascB_iff (x : List Int) (lo hi : Int) : ascB x lo hi x.length 0 = true ↔ (∀ y ∈ x, lo ≤ y ∧ y ≤ hi) ∧ x.Pairwise (· < ·) := by
  have hg : ∀ i, (h : i < x.length) → x.getD i 0 = x[i] := fun i h => by rw [List.getD_eq_getElem?_getD, List.getElem?_eq_getElem h]; rfl
  rw [ascB_facts]
  constructor
  · intro h
    refine ⟨fun y hy => ?_, ?_⟩
    · obtain ⟨i, hi, rfl⟩ := List.getElem_of_mem hy
      rw [← hg i hi]
      exact (h i (by omega) (by omega)).1
    · rw [List.pairwise_iff_getElem]
      intro i j hi hj hij
      have : ∀ (d : Nat), ∀ (hd : i + d + 1 < x.length), x[i] < x[i + d + 1] := by
        intro d
        induction d with
        | zero =>
          intro hd
          have := (h (i + 1) (by omega) (by omega)).2
          rw [hg (i + 1) (by omega)] at this
          simp only [Nat.add_sub_cancel] at this
          rw [hg i hi] at this
          rcases this with e | e
          · omega
          · exact e
        | succ d ihd =>
          intro hd
          have h1 := ihd (by omega)
          have := (h (i + d + 1 + 1) (by omega) (by omega)).2
          rw [hg (i + d + 1 + 1) (by omega)] at this
          simp only [Nat.add_sub_cancel] at this
          rw [hg (i + d + 1) (by omega)] at this
          rcases this with e | e
          · omega
          · exact Int.lt_trans h1 e
      have e : j = i + (j - i - 1) + 1 := by omega
      have := this (j - i - 1) (by omega)
      simp only [← e] at this
      exact this
  · rintro ⟨h1, h2⟩ i _ hi
    have hi' : i < x.length := by omega
    refine ⟨by rw [hg i hi']; exact h1 _ (List.getElem_mem hi'), ?_⟩
    by_cases h0 : i = 0
    · exact .inl h0
    · refine .inr ?_
      rw [hg i hi', hg (i - 1) (by omega)]
      exact (List.pairwise_iff_getElem.1 h2) (i - 1) i (by omega) hi' (by omega)
theorem mixB_iff (s b : List Int) : mixB s b = true ↔ ((∀ y ∈ s, 0 ≤ y ∧ y ≤ 48) ∧ s.Pairwise (· < ·)) ∧ ((∀ y ∈ b, 1 ≤ y ∧ y ≤ 24) ∧ b.Pairwise (· < ·)) ∧ (1 ≤ (s.length : Int) ∧ (s.length : Int) ≤ 5) ∧ (b.length : Int) ≤ 4 := by
  unfold mixB
  simp only [Bool.and_eq_true, ascB_iff, decide_eq_true_eq, and_assoc]
def insB (a : Int) : List Int → List Int
  | [] => [a]
  | x :: xs => if x > a then a :: x :: xs else x :: insB a xs
theorem insB_length (a : Int) : ∀ x : List Int, (insB a x).length = x.length + 1 := by
  intro x
  induction x with
  | nil => rfl
  | cons y ys ih => unfold insB; split <;> simp [ih]
theorem insB_mem (a : Int) : ∀ x : List Int, a ∈ insB a x := by
  intro x
  induction x with
  | nil => simp [insB]
  | cons y ys ih => unfold insB; split <;> simp [ih]
theorem insB_apart (a : Int) : ∀ x : List Int, (insB a x).Pairwise (· < ·) → ¬ a ∈ x := by
  intro x
  induction x with
  | nil => intro _ h; simp at h
  | cons y ys ih =>
    intro h
    unfold insB at h
    split at h
    · intro hm
      have := (List.pairwise_cons.1 h).1 a hm
      omega
    · obtain ⟨h1, h2⟩ := List.pairwise_cons.1 h
      intro hm
      rcases List.mem_cons.1 hm with e | e
      · have := h1 a (insB_mem a ys); omega
      · exact ih h2 e
theorem kbB_insB {a : Int} {x : List Int} (h : kbB (insB a x) = true) : ¬ a ∈ x := by
  unfold kbB at h
  rw [Bool.and_eq_true] at h
  exact insB_apart a x ((ascB_iff _ _ _).1 h.1).2
def addNV (x out : List Int) : List Int × Bool := if kbB x = true ∧ kbB out = true then (out, true) else (x, false)
theorem kbB_length {x : List Int} (h : kbB x = true) : x.length ≤ 20 := by
  unfold kbB at h
  rw [Bool.and_eq_true, decide_eq_true_eq] at h
  omega
theorem addNV_length (x out : List Int) (hx : x.length ≤ 1048576) : (addNV x out).1.length ≤ 1048576 := by
  unfold addNV
  split
  · rename_i h; have := kbB_length h.2; dsimp only; omega
  · exact hx
def putNV (s out : List Int) : List Int × Bool := if kbB out = true then (out, true) else (s, false)
theorem toIntS_loop (x : List Int) (hb : x.length ≤ 140737488355328) : ∀ (d n k : Nat) (y : List Int), n ≤ x.length → x.length - n = d → d < k → y.length = x.length →
    laws_toIntS.l0 k x y (n : Int) = some (y.take n ++ x.drop n) := by
  intro d
  induction d with
  | zero =>
    intro n k y h1 h2 hk hy
    obtain ⟨k, rfl⟩ : ∃ m, k = m + 1 := ⟨k - 1, by omega⟩
    simp only [laws_toIntS.l0]
    rw [if_neg (by omega), List.take_of_length_le (by omega), List.drop_of_length_le (by omega)]
    simp
  | succ d ih =>
    intro n k y h1 h2 hk hy
    obtain ⟨k, rfl⟩ : ∃ m, k = m + 1 := ⟨k - 1, by omega⟩
    simp only [laws_toIntS.l0]
    rw [if_pos (by omega), if_pos (by omega), if_pos (by omega), rd_nat, wrap_next (by omega), Int.toNat_natCast]
    rw [ih (n + 1) k _ (by omega) (by omega) (by omega) (by simpa using hy), take_set_next y n _ (by omega), drop_getD x 0 n (by omega)]
    rw [List.append_assoc]
    rfl
theorem toIntS_eq (x : List Int) (hb : x.length ≤ 35184372088832) (k : Nat) (hk : x.length < k) : laws_toIntS.f k x = some x := by
  unfold laws_toIntS.f
  rw [if_pos (by omega), Int.toNat_natCast, if_pos hb]
  have h := toIntS_loop x (by omega) x.length 0 k (List.replicate x.length 0) (by omega) (by omega) hk (by simp)
  simpa using h
theorem eqIntS_loop (x y : List Int) (hl : x.length = y.length) (hb : x.length ≤ 140737488355328) : ∀ (d n k : Nat), n ≤ x.length → x.length - n ≤ d → d < k → laws_eqIntS.l0 k x y (n : Int) = some (decide (x.drop n = y.drop n)) := by
  intro d
  induction d with
  | zero =>
    intro n k h1 h2 hk
    obtain ⟨k, rfl⟩ : ∃ m, k = m + 1 := ⟨k - 1, by omega⟩
    simp only [laws_eqIntS.l0]
    rw [if_neg (by omega), List.drop_of_length_le (by omega), List.drop_of_length_le (by omega)]
    simp
  | succ d ih =>
    intro n k h1 h2 hk
    obtain ⟨k, rfl⟩ : ∃ m, k = m + 1 := ⟨k - 1, by omega⟩
    simp only [laws_eqIntS.l0]
    by_cases hlt : n < x.length
    · rw [if_pos (by omega), if_pos (by omega), if_pos (by omega), rd_nat, rd_nat, wrap_next (by omega), drop_getD x 0 n hlt, drop_getD y 0 n (by omega), ih (n + 1) k (by omega) (by omega) (by omega)]
      by_cases e : x.getD n 0 = y.getD n 0
      · rw [if_pos e, e]; simp
      · rw [if_neg e]; simp only [List.cons.injEq, e, false_and, decide_false]
    · rw [if_neg (by omega), List.drop_of_length_le (by omega), List.drop_of_length_le (by omega)]
      simp
theorem eqIntS_eq (x y : List Int) (hb : x.length ≤ 140737488355328) (k : Nat) (hk : x.length < k) : laws_eqIntS.f k x y = some (decide (x = y)) := by
  unfold laws_eqIntS.f
  by_cases hl : x.length = y.length
  · rw [if_pos (by omega)]
    have h := eqIntS_loop x y hl hb x.length 0 k (by omega) (by omega) hk
    simpa using h
  · rw [if_neg (by omega)]
    have : x ≠ y := fun e => hl (by rw [e])
    simp [this]
def iota (m : Int) : Nat → List Int
  | 0 => []
  | n + 1 => m :: iota (m + 1) n
theorem iota_length (n : Nat) : ∀ m : Int, (iota m n).length = n := by
  induction n with
  | zero => intro m; rfl
  | succ n ih => intro m; simp [iota, ih]
theorem wrap_int {m : Int} (h : -9223372036854775808 ≤ m) (h2 : m ≤ 9223372036854775807) : wrap64 m = m := by unfold wrap64; omega
theorem markIntS_loop : ∀ (d n k : Nat) (x : List Int) (m : Int), x.length ≤ 140737488355328 → n ≤ x.length → x.length - n = d → d < k → 0 ≤ m → m + d ≤ 281474976710656 →
    laws_markIntS.l0 k x m (n : Int) = some (m + d, x.take n ++ iota m d) := by
  intro d
  induction d with
  | zero =>
    intro n k x m hb h1 h2 hk hm hm2
    obtain ⟨k, rfl⟩ : ∃ m, k = m + 1 := ⟨k - 1, by omega⟩
    simp only [laws_markIntS.l0]
    rw [if_neg (by omega), List.take_of_length_le (by omega)]
    simp [iota]
  | succ d ih =>
    intro n k x m hb h1 h2 hk hm hm2
    obtain ⟨k, rfl⟩ : ∃ m, k = m + 1 := ⟨k - 1, by omega⟩
    simp only [laws_markIntS.l0]
    rw [if_pos (by omega), if_pos (by omega), wrap_next (by omega), wrap_int (m := m + 1) (by omega) (by omega), Int.toNat_natCast]
    rw [ih (n + 1) k (x.set n m) (m + 1) (by simpa using hb) (by simp; omega) (by simp; omega) (by omega) (by omega) (by omega), take_set_next x n m (by omega)]
    simp [iota]
    omega
theorem markIntS_eq (x : List Int) (hb : x.length ≤ 140737488355328) (k : Nat) (hk : x.length < k) (m : Int) (h0 : 0 ≤ m) (h1 : m ≤ 140737488355328) : laws_markIntS.f k x m = some (m + x.length, iota m x.length) := by
  unfold laws_markIntS.f
  have h := markIntS_loop x.length 0 k x m hb (by omega) (by omega) hk h0 (by omega)
  simpa using h
theorem toKeyboard_eq (x : List Int) (hb : x.length ≤ 35184372088832) (k : Nat) (hk : x.length < k) : laws_toKeyboard.f k x = some x := by
  unfold laws_toKeyboard.f
  rw [toIntS_eq x hb k hk]; simp only [Option.bind_some]
theorem eqKeyboard_self (x : List Int) (hb : x.length ≤ 35184372088832) (k : Nat) (hk : x.length < k) : laws_eqKeyboard.f k x x = some true := by
  unfold laws_eqKeyboard.f
  rw [eqIntS_eq x x (by omega) k hk]
  simp
theorem markKeyboard_eq (x : List Int) (hb : x.length ≤ 1048576) (k : Nat) (hk : x.length < k) : laws_markKeyboard.f k x 1 = some (1 + (x.length : Int), iota 1 x.length) := by
  unfold laws_markKeyboard.f
  rw [markIntS_eq x (by omega) k hk 1 (by omega) (by omega)]; simp only [Option.bind_some]
theorem szKeyboard_eq (x : List Int) (hx : x.length ≤ 9223372036854775807) :
    (∃ r, laws_szKeyboard.f x 1048576 = some r ∧ r < 0) ∨ (x.length ≤ 1048576 ∧ ∃ r, laws_szKeyboard.f x 1048576 = some r ∧ ¬ r < 0) := by
  simp only [laws_szKeyboard.f, laws_szIntS.f]
  rw [w64 (n := 1048576 - (x.length : Int)) (by omega) (by omega)]
  by_cases h1 : 1048576 - (x.length : Int) < 0
  · rw [if_pos h1]
    exact .inl ⟨-1, rfl, by omega⟩
  · rw [if_neg h1]
    simp only [Option.bind_some]
    rw [if_neg h1]
    exact .inr ⟨by omega, _, rfl, h1⟩
theorem heldIntS_loop : ∀ (d n k : Nat) (x : List Int) (m : Int), x.length ≤ 140737488355328 → n ≤ x.length → x.length - n = d → d < k → 0 ≤ m → m + d ≤ 281474976710656 → x.drop n = iota m d →
    laws_heldIntS.l0 k x m (n : Int) = some (m + d) := by
  intro d
  induction d with
  | zero =>
    intro n k x m hb h1 h2 hk hm hm2 hx
    obtain ⟨k, rfl⟩ : ∃ m, k = m + 1 := ⟨k - 1, by omega⟩
    simp only [laws_heldIntS.l0]
    rw [if_neg (by omega)]
    simp
  | succ d ih =>
    intro n k x m hb h1 h2 hk hm hm2 hx
    obtain ⟨k, rfl⟩ : ∃ m, k = m + 1 := ⟨k - 1, by omega⟩
    simp only [laws_heldIntS.l0]
    rw [drop_getD x 0 n (by omega)] at hx
    injection hx with e1 e2
    rw [if_pos (by omega), if_pos (by omega), rd_nat, if_pos e1, wrap_next (by omega), wrap_int (m := m + 1) (by omega) (by omega), ih (n + 1) k x (m + 1) hb (by omega) (by omega) (by omega) (by omega) (by omega) e2]
    congr 1
    omega
theorem heldIntS_eq (n : Nat) (hb : n ≤ 140737488355328) (k : Nat) (hk : n < k) (m : Int) (h0 : 0 ≤ m) (h1 : m ≤ 140737488355328) : laws_heldIntS.f k (iota m n) m = some (m + n) := by
  unfold laws_heldIntS.f
  have hl := iota_length n m
  exact heldIntS_loop n 0 k (iota m n) m (by omega) (by omega) (by omega) hk h0 (by omega) (by simp)
def enhB (a b : Int) : Bool := decide (-15 ≤ a ∧ a ≤ 19) && (decide (-15 ≤ b ∧ b ≤ 19) && ((Int.tmod (a - b) 12) == 0))
theorem impl_AreEnharmonic_eq (a b : Int) : impl_AreEnharmonic.f a b = some (enhB a b) := by
  unfold impl_AreEnharmonic.f enhB
  simp only [impl_hasName.f, within_eq, Option.bind_some]
  by_cases h1 : -15 ≤ a ∧ a ≤ 19
  · rw [if_pos (decide_eq_true h1), decide_eq_true h1, Bool.true_and]
    by_cases h2 : -15 ≤ b ∧ b ≤ 19
    · rw [if_pos (decide_eq_true h2), decide_eq_true h2, Bool.true_and, w64 (n := a - b) (by omega) (by omega)]
    · rw [if_neg (by simpa using h2), decide_eq_false h2, Bool.false_and]
  · rw [if_neg (by simpa using h1), decide_eq_false h1, Bool.false_and]
def pairsOf (a : Int) : List Int → List (List Int)
  | [] => []
  | b :: t => if enhB a b = true then [a, b] :: pairsOf a t else pairsOf a t
theorem pairsOf_length (a : Int) : ∀ t : List Int, (pairsOf a t).length ≤ t.length := by
  intro t
  induction t with
  | nil => simp [pairsOf]
  | cons b t ih => unfold pairsOf; split <;> simp <;> omega
theorem pairsOf_mem (a : Int) (p : List Int) : ∀ t : List Int, p ∈ pairsOf a t → ∃ b ∈ t, p = [a, b] ∧ enhB a b = true := by
  intro t
  induction t with
  | nil => intro h; simp [pairsOf] at h
  | cons b t ih =>
    intro h
    unfold pairsOf at h
    split at h
    · rename_i he
      rcases List.mem_cons.1 h with e | e
      · exact ⟨b, List.mem_cons_self, e, he⟩
      · obtain ⟨c, hc, e1, e2⟩ := ih e; exact ⟨c, List.mem_cons_of_mem _ hc, e1, e2⟩
    · obtain ⟨c, hc, e1, e2⟩ := ih h; exact ⟨c, List.mem_cons_of_mem _ hc, e1, e2⟩
def splitL : List Int → List (List Int)
  | [] => []
  | a :: t => pairsOf a t ++ splitL t
theorem splitL_mem (p : List Int) : ∀ x : List Int, x.Pairwise (· < ·) → p ∈ splitL x → ∃ a b, p = [a, b] ∧ a < b ∧ enhB a b = true ∧ a ∈ x := by
  intro x
  induction x with
  | nil => intro _ h; simp [splitL] at h
  | cons a t ih =>
    intro hp h
    obtain ⟨h1, h2⟩ := List.pairwise_cons.1 hp
    unfold splitL at h
    rcases List.mem_append.1 h with e | e
    · obtain ⟨b, hb, e1, e2⟩ := pairsOf_mem a p t e
      exact ⟨a, b, e1, h1 b hb, e2, List.mem_cons_self⟩
    · obtain ⟨c, d, e1, e2, e3, e4⟩ := ih h2 e
      exact ⟨c, d, e1, e2, e3, List.mem_cons_of_mem _ e4⟩
theorem split_loop1 (a : Int) (x y : List Int) (m i : Int) (t : List Int) (ht : t.length ≤ 1000) : ∀ (d n k : Nat) (acc : List (List Int)), n ≤ t.length → t.length - n = d → d < k → acc.length + t.length ≤ 10000 + n →
    impl_SplitPairs.l1 k acc a x m i t (t.length : Int) (n : Int) y = impl_SplitPairs.l0 (k - d - 1) (acc ++ pairsOf a (t.drop n)) x m (wrap64 (i + 1)) y := by
  intro d
  induction d with
  | zero =>
    intro n k acc h1 h2 hk ha
    obtain ⟨k, rfl⟩ : ∃ m, k = m + 1 := ⟨k - 1, by omega⟩
    simp only [impl_SplitPairs.l1]
    rw [if_neg (by omega), List.drop_of_length_le (by omega)]
    simp [pairsOf]
  | succ d ih =>
    intro n k acc h1 h2 hk ha
    obtain ⟨k, rfl⟩ : ∃ m, k = m + 1 := ⟨k - 1, by omega⟩
    have ek : k + 1 - (d + 1) - 1 = k - d - 1 := by omega
    simp only [impl_SplitPairs.l1, impl_AreEnharmonic_eq, Option.bind_some]
    rw [if_pos (by omega), if_pos (by omega), if_pos (by omega), wrap_next (by omega), rd_nat, drop_getD t 0 n (by omega), ek]
    simp only [pairsOf]
    by_cases h : enhB a (t.getD n 0) = true
    · rw [if_pos h, if_pos h, if_pos (by omega), ih (n + 1) k _ (by omega) (by omega) (by omega) (by simp; omega)]
      simp
    · rw [if_neg h, if_neg h, ih (n + 1) k _ (by omega) (by omega) (by omega) (by omega)]
theorem split_loop0 (x : List Int) (hx : x.length ≤ 20) : ∀ (e n k : Nat) (acc : List (List Int)), n ≤ x.length → x.length - n = e → 25 * e + 1 < k → acc.length ≤ 20 * n →
    impl_SplitPairs.l0 k acc x (x.length : Int) (n : Int) x = some (acc ++ splitL (x.drop n)) := by
  intro e
  induction e with
  | zero =>
    intro n k acc h1 h2 hk ha
    obtain ⟨k, rfl⟩ : ∃ m, k = m + 1 := ⟨k - 1, by omega⟩
    simp only [impl_SplitPairs.l0]
    rw [if_neg (by omega), List.drop_of_length_le (by omega)]
    simp [splitL]
  | succ e ih =>
    intro n k acc h1 h2 hk ha
    obtain ⟨k, rfl⟩ : ∃ m, k = m + 1 := ⟨k - 1, by omega⟩
    have hd : (x.drop (n + 1)).length = x.length - (n + 1) := by simp
    have hpl := pairsOf_length (x.getD n 0) (x.drop (n + 1))
    simp only [impl_SplitPairs.l0]
    rw [if_pos (by omega), if_pos (by omega), if_pos (by omega), wrap_next (by omega), if_pos (by omega), if_pos (by omega), rd_nat, Int.toNat_natCast]
    have e1 := split_loop1 (x.getD n 0) x x (x.length : Int) (n : Int) (x.drop (n + 1)) (by omega) (x.drop (n + 1)).length 0 k acc (by omega) (by omega) (by omega) (by omega)
    simp only [Int.natCast_zero, List.drop_zero] at e1
    rw [e1, wrap_next (by omega), ih (n + 1) _ _ (by omega) (by omega) (by omega) (by rw [List.length_append]; omega), drop_getD x 0 n (by omega)]
    simp [splitL]
theorem impl_SplitPairs_eq {x : List Int} (h : kbB x = true) (k : Nat) (hk : 600 < k) : impl_SplitPairs.f k x = some (splitL x) := by
  have hl := kbB_length h
  unfold impl_SplitPairs.f
  rw [impl_KeyboardOk_eq x (by omega) k (by omega), h]
  simp only [Option.bind_some]
  have e := split_loop0 x hl x.length 0 k [] (by omega) (by omega) (by omega) (by simp)
  simpa using e
theorem splitL_length : ∀ x : List Int, x.length ≤ 20 → (splitL x).length ≤ 20 * x.length := by
  intro x
  induction x with
  | nil => intro _; simp [splitL]
  | cons a t ih =>
    intro h
    have h1 : t.length + 1 ≤ 20 := by simpa using h
    have := ih (by omega)
    have h2 := pairsOf_length a t
    simp only [splitL, List.length_append, List.length_cons]
    omega
theorem spec_AreEnharmonic_eq (a b : Int) : spec_AreEnharmonic.f a b = some (enhB a b) := by
  unfold spec_AreEnharmonic.f enhB
  simp only [spec_l07Has.f, l01In_eq, Option.bind_some]
  by_cases h1 : -15 ≤ a ∧ a ≤ 19
  · rw [if_pos (decide_eq_true h1), decide_eq_true h1, Bool.true_and]
    by_cases h2 : -15 ≤ b ∧ b ≤ 19
    · rw [if_pos (decide_eq_true h2), decide_eq_true h2, Bool.true_and, w64 (n := a - b) (by omega) (by omega)]
    · rw [if_neg (by simpa using h2), decide_eq_false h2, Bool.false_and]
  · rw [if_neg (by simpa using h1), decide_eq_false h1, Bool.false_and]
theorem sp_loop1 (x : List Int) (hx : x.length ≤ 20) (i : Nat) (hi : i < x.length) : ∀ (d n k : Nat) (acc : List (List Int)), n ≤ x.length → x.length - n = d → d < k → acc.length + x.length ≤ 10000 + n →
    spec_SplitPairs.l1 k acc (i : Int) (n : Int) x = spec_SplitPairs.l0 (k - d - 1) (acc ++ pairsOf (x.getD i 0) (x.drop n)) (wrap64 ((i : Int) + 1)) x := by
  intro d
  induction d with
  | zero =>
    intro n k acc h1 h2 hk ha
    obtain ⟨k, rfl⟩ : ∃ m, k = m + 1 := ⟨k - 1, by omega⟩
    simp only [spec_SplitPairs.l1]
    rw [if_neg (by omega), List.drop_of_length_le (by omega)]
    simp [pairsOf]
  | succ d ih =>
    intro n k acc h1 h2 hk ha
    obtain ⟨k, rfl⟩ : ∃ m, k = m + 1 := ⟨k - 1, by omega⟩
    have ek : k + 1 - (d + 1) - 1 = k - d - 1 := by omega
    simp only [spec_SplitPairs.l1, spec_AreEnharmonic_eq, Option.bind_some]
    rw [if_pos (by omega), if_pos (by omega), if_pos (by omega), if_pos (by omega), wrap_next (by omega), rd_nat, rd_nat, drop_getD x 0 n (by omega), ek]
    simp only [pairsOf]
    by_cases h : enhB (x.getD i 0) (x.getD n 0) = true
    · rw [if_pos h, if_pos h, if_pos (by omega), ih (n + 1) k _ (by omega) (by omega) (by omega) (by simp; omega)]
      simp
    · rw [if_neg h, if_neg h, ih (n + 1) k _ (by omega) (by omega) (by omega) (by omega)]
theorem sp_loop0 (x : List Int) (hx : x.length ≤ 20) (hkb : kbB x = true) : ∀ (e n k : Nat) (acc : List (List Int)), n ≤ x.length → x.length - n = e → 30 * e + 25 < k → acc.length ≤ 20 * n →
    spec_SplitPairs.l0 k acc (n : Int) x = some (acc ++ splitL (x.drop n)) := by
  intro e
  induction e with
  | zero =>
    intro n k acc h1 h2 hk ha
    obtain ⟨k, rfl⟩ : ∃ m, k = m + 1 + 1 := ⟨k - 2, by omega⟩
    simp only [spec_SplitPairs.l0]
    rw [if_neg (by omega), List.drop_of_length_le (by omega)]
    simp [spec_SplitPairs.j1, splitL]
  | succ e ih =>
    intro n k acc h1 h2 hk ha
    obtain ⟨k, rfl⟩ : ∃ m, k = m + 1 + 1 := ⟨k - 2, by omega⟩
    have hd : (x.drop (n + 1)).length = x.length - (n + 1) := by simp
    have hpl := pairsOf_length (x.getD n 0) (x.drop (n + 1))
    simp only [spec_SplitPairs.l0]
    rw [if_pos (by omega), spec_KeyboardOk_eq x (by omega) (k + 1) (by omega), hkb]
    simp only [Option.bind_some, spec_SplitPairs.j1]
    rw [if_pos trivial, wrap_next (by omega), sp_loop1 x hx n (by omega) (x.length - (n + 1)) (n + 1) k acc (by omega) (by omega) (by omega) (by omega), wrap_next (by omega), ih (n + 1) _ _ (by omega) (by omega) (by omega) (by rw [List.length_append]; omega), drop_getD x 0 n (by omega)]
    simp [splitL]
def splitV (x : List Int) : List (List Int) := if kbB x = true then splitL x else []
theorem spec_SplitPairs_eq (x : List Int) (hx : x.length ≤ 1048576) (k : Nat) (hk : 4000000 < k) : spec_SplitPairs.f k x = some (splitV x) := by
  unfold spec_SplitPairs.f splitV
  by_cases h : kbB x = true
  · rw [if_pos h]
    have hl := kbB_length h
    have e := sp_loop0 x hl h x.length 0 k [] (by omega) (by omega) (by omega) (by simp)
    simpa using e
  · rw [if_neg h]
    have hf : kbB x = false := by simpa using h
    obtain ⟨k, rfl⟩ : ∃ m, k = m + 1 + 1 := ⟨k - 2, by omega⟩
    simp only [spec_SplitPairs.l0]
    rw [spec_KeyboardOk_eq x (by omega) (k + 1) (by omega), hf]
    simp [spec_SplitPairs.j1]
theorem impl_SplitPairs_any (x : List Int) (hx : x.length ≤ 1048576) (k : Nat) (hk : 4000000 < k) : impl_SplitPairs.f k x = some (splitV x) := by
  unfold splitV
  by_cases h : kbB x = true
  · rw [if_pos h]
    exact impl_SplitPairs_eq h k (by omega)
  · rw [if_neg h]
    have hf : kbB x = false := by simpa using h
    unfold impl_SplitPairs.f
    rw [impl_KeyboardOk_eq x (by omega) k (by omega), hf]
    simp
theorem splitL_rows (p : List Int) : ∀ x : List Int, p ∈ splitL x → p.length ≤ 2 := by
  intro x
  induction x with
  | nil => intro h; simp [splitL] at h
  | cons a t ih =>
    intro h
    unfold splitL at h
    rcases List.mem_append.1 h with e | e
    · obtain ⟨b, hb, e1, e2⟩ := pairsOf_mem a p t e
      rw [e1]; simp
    · exact ih e
theorem splitV_rows (x : List Int) : ∀ p ∈ splitV x, p.length ≤ 2 := by
  intro p h
  unfold splitV at h
  split at h
  · exact splitL_rows p x h
  · simp at h
theorem splitV_length (x : List Int) : (splitV x).length ≤ 400 := by
  unfold splitV
  split
  · rename_i h
    have hl := kbB_length h
    have := splitL_length x hl
    omega
  · simp
theorem rdL_nat (x : List (List Int)) (n : Nat) : rd_L1 x (n : Int) = x.getD n [] := by unfold rd_L1; rw [Int.toNat_natCast]
theorem row_le (x : List (List Int)) (hr : ∀ p ∈ x, p.length ≤ 2) (n : Nat) : (x.getD n []).length ≤ 2 := by
  by_cases h : n < x.length
  · rw [List.getD_eq_getElem?_getD, List.getElem?_eq_getElem h]
    exact hr _ (List.getElem_mem _)
  · rw [List.getD_eq_getElem?_getD, List.getElem?_eq_none (by omega)]
    simp
theorem eqIntSS_loop (x : List (List Int)) (hx : x.length ≤ 400) (hr : ∀ p ∈ x, p.length ≤ 2) : ∀ (d n k : Nat), n ≤ x.length → x.length - n = d → d + 10 < k → laws_eqIntSS.l0 k x x (n : Int) = some true := by
  intro d
  induction d with
  | zero =>
    intro n k h1 h2 hk
    obtain ⟨k, rfl⟩ : ∃ m, k = m + 1 := ⟨k - 1, by omega⟩
    simp only [laws_eqIntSS.l0]
    rw [if_neg (by omega)]
  | succ d ih =>
    intro n k h1 h2 hk
    obtain ⟨k, rfl⟩ : ∃ m, k = m + 1 := ⟨k - 1, by omega⟩
    have hl := row_le x hr n
    simp only [laws_eqIntSS.l0]
    rw [if_pos (by omega), if_pos (by omega), if_pos (by omega), rdL_nat, eqIntS_eq _ _ (by omega) k (by omega), wrap_next (by omega)]
    simp only [Option.bind_some, decide_true, if_true]
    exact ih (n + 1) k (by omega) (by omega) (by omega)
theorem eqIntSS_self (x : List (List Int)) (hx : x.length ≤ 400) (hr : ∀ p ∈ x, p.length ≤ 2) (k : Nat) (hk : 1000 < k) : laws_eqIntSS.f k x x = some true := by
  unfold laws_eqIntSS.f
  rw [if_pos rfl]
  exact eqIntSS_loop x hx hr x.length 0 k (by omega) (by omega) (by omega)
def sumL : List (List Int) → Nat
  | [] => 0
  | y :: ys => y.length + sumL ys
def markL (m : Int) : List (List Int) → List (List Int)
  | [] => []
  | y :: ys => iota m y.length :: markL (m + y.length) ys
theorem markL_length : ∀ (ys : List (List Int)) (m : Int), (markL m ys).length = ys.length := by
  intro ys
  induction ys with
  | nil => intro m; rfl
  | cons y ys ih => intro m; simp [markL, ih]
theorem markIntSS_loop : ∀ (d n k : Nat) (x : List (List Int)) (m : Int), (∀ p ∈ x, p.length ≤ 2) → x.length ≤ 400 → n ≤ x.length → x.length - n = d → d + 10 < k → 0 ≤ m → m + 2 * d ≤ 100000 →
    laws_markIntSS.l0 k x m (n : Int) = some (m + sumL (x.drop n), x.take n ++ markL m (x.drop n)) := by
  intro d
  induction d with
  | zero =>
    intro n k x m hr hb h1 h2 hk hm hm2
    obtain ⟨k, rfl⟩ : ∃ m, k = m + 1 := ⟨k - 1, by omega⟩
    simp only [laws_markIntSS.l0]
    rw [if_neg (by omega), List.take_of_length_le (by omega), List.drop_of_length_le (by omega)]
    simp [markL, sumL]
  | succ d ih =>
    intro n k x m hr hb h1 h2 hk hm hm2
    obtain ⟨k, rfl⟩ : ∃ m, k = m + 1 := ⟨k - 1, by omega⟩
    have hl := row_le x hr n
    have hi : (iota m (x.getD n []).length).length ≤ 2 := by rw [iota_length]; exact hl
    simp only [laws_markIntSS.l0]
    rw [if_pos (by omega), if_pos (by omega), rdL_nat, markIntS_eq _ (by omega) k (by omega) m hm (by omega), wrap_next (by omega), Int.toNat_natCast]
    simp only [Option.bind_some]
    rw [ih (n + 1) k (x.set n (iota m (x.getD n []).length)) (m + (x.getD n []).length) (fun p hp => by
      rcases List.mem_or_eq_of_mem_set hp with h | h
      · exact hr p h
      · rw [h]; exact hi) (by simpa using hb) (by simp; omega) (by simp; omega) (by omega) (by omega) (by omega), take_set_next x n _ (by omega), List.drop_set_of_lt (by omega), drop_getD x [] n (by omega)]
    simp [markL, sumL]
    omega
theorem heldIntSS_loop : ∀ (ys : List (List Int)) (n k : Nat) (s : List (List Int)) (m : Int), (∀ p ∈ ys, p.length ≤ 2) → s.length ≤ 400 → ys.length + 10 < k → 0 ≤ m → m + 2 * ys.length ≤ 100000 → s.drop n = markL m ys →
    laws_heldIntSS.l0 k s m (n : Int) = some (m + sumL ys) := by
  intro ys
  induction ys with
  | nil =>
    intro n k s m hr hb hk hm hm2 hs
    obtain ⟨k, rfl⟩ : ∃ m, k = m + 1 := ⟨k - 1, by omega⟩
    have hl : s.length ≤ n := by simpa [markL] using hs
    simp only [laws_heldIntSS.l0]
    rw [if_neg (by omega)]
    simp [sumL]
  | cons y ys ih =>
    intro n k s m hr hb hk hm hm2 hs
    obtain ⟨k, rfl⟩ : ∃ m, k = m + 1 := ⟨k - 1, by omega⟩
    have hy := hr y List.mem_cons_self
    have hlt : n < s.length := by
      have h := congrArg List.length hs
      rw [List.length_drop, markL_length, List.length_cons] at h
      omega
    rw [drop_getD s [] n hlt] at hs
    simp only [markL] at hs
    injection hs with e1 e2
    rw [List.length_cons] at hk hm2
    simp only [laws_heldIntSS.l0]
    rw [if_pos (by omega), if_pos (by omega), rdL_nat, e1, heldIntS_eq y.length (by omega) k (by omega) m hm (by omega), wrap_next (by omega)]
    simp only [Option.bind_some]
    rw [if_neg (by omega), ih (n + 1) k s (m + y.length) (fun p hp => hr p (List.mem_cons_of_mem _ hp)) hb (by omega) (by omega) (by omega) e2]
    simp only [sumL]
    congr 1
    omega
theorem sumL_le : ∀ ys : List (List Int), (∀ p ∈ ys, p.length ≤ 2) → sumL ys ≤ 2 * ys.length := by
  intro ys
  induction ys with
  | nil => intro _; simp [sumL]
  | cons y ys ih =>
    intro h
    have h1 := h y List.mem_cons_self
    have h2 := ih (fun p hp => h p (List.mem_cons_of_mem _ hp))
    simp only [sumL, List.length_cons]
    omega
theorem markIntSS_eq (x : List (List Int)) (hx : x.length ≤ 400) (hr : ∀ p ∈ x, p.length ≤ 2) (k : Nat) (hk : 1000 < k) : laws_markIntSS.f k x 1 = some (1 + (sumL x : Int), markL 1 x) := by
  unfold laws_markIntSS.f
  have h := markIntSS_loop x.length 0 k x 1 hr hx (by omega) (by omega) (by omega) (by omega) (by omega)
  simpa using h
theorem heldIntSS_eq (x : List (List Int)) (hx : x.length ≤ 400) (hr : ∀ p ∈ x, p.length ≤ 2) (k : Nat) (hk : 1000 < k) : laws_heldIntSS.f k (markL 1 x) 1 = some (1 + (sumL x : Int)) := by
  unfold laws_heldIntSS.f
  exact heldIntSS_loop x 0 k (markL 1 x) 1 hr (by rw [markL_length]; exact hx) (by omega) (by omega) (by omega) (by simp)
theorem split_law (x : List Int) (hx : x.length ≤ 9223372036854775807) (k : Nat) (hk : 4000001 < k) : laws_FnExactSplitPairs.f k x = some true := by
  unfold laws_FnExactSplitPairs.f
  rcases szKeyboard_eq x hx with ⟨r, e, hr⟩ | ⟨h1, r, e, hr⟩
  · rw [e]; simp only [Option.bind_some]; rw [if_pos hr]
  · have hl := splitV_length x
    have hro := splitV_rows x
    rw [e]; simp only [Option.bind_some]; rw [if_neg hr, toKeyboard_eq x (by omega) k (by omega)]
    simp only [Option.bind_some]
    rw [spec_SplitPairs_eq x (by omega) k (by omega), impl_SplitPairs_any x (by omega) k (by omega)]
    simp only [Option.bind_some]
    rw [eqIntSS_self _ hl hro k (by omega)]
    simp only [Option.bind_some, if_true]
    rw [eqKeyboard_self x (by omega) k (by omega), markKeyboard_eq x (by omega) k (by omega)]
    simp only [Option.bind_some, if_true]
    rw [if_neg (by omega)]
    obtain ⟨k, rfl⟩ : ∃ m, k = m + 1 := ⟨k - 1, by omega⟩
    rw [laws_FnExactSplitPairs.j0]
    simp only [Bool.not_true, Bool.false_eq_true, if_false]
    rw [markIntSS_eq _ hl hro k (by omega)]
    simp only [Option.bind_some]
    rw [heldIntSS_eq _ hl hro k (by omega)]
    simp only [Option.bind_some]
    rw [if_neg (by omega), if_pos trivial, toKeyboard_eq x (by omega) k (by omega)]
    simp only [Option.bind_some]
    rw [impl_SplitPairs_any x (by omega) k (by omega)]
    simp only [Option.bind_some]
    rw [eqIntSS_self _ hl hro k (by omega)]
    simp only [Option.bind_some, if_true]
    rw [if_neg (by omega)]
theorem FnExactSplitPairs (x : List Int) (hx : x.length ≤ maxLen) : ∃ k, laws_FnExactSplitPairs.f k x = some true := by
  obtain ⟨k, hk⟩ : ∃ k : Nat, 4000001 < k := ⟨4000002, by omega⟩
  exact ⟨k, split_law x hx k hk⟩
end Go.Proofs.Ytnpckibmahjbbaa.Pure
