/- The plain law of FnExactSoundsAt: the printed function of the law answers true. Its conditions are those of the statement's own bounds. -/
import Derived.Test.YtbimhcdfojbjgacHFnExactSoundsAtx4
namespace Go.Proofs.Ytbimhcdfojbjgac.Pure
open Go.RowKit Go.Proofs.Ytbimhcdfojbjgac.PFnExactSoundsAt Go.Proofs.YtbimhcdfojbjgacW.PrintWords Go.Proofs.YtbimhcdfojbjgacW.PrintLast Go.Proofs.YtbimhcdfojbjgacW.PrintMore
set_option linter.unusedVariables false
theorem l01In_eq (a b c : Int) : spec_l01In.f a b c = some (decide (b ≤ a ∧ a ≤ c)) := by
  unfold spec_l01In.f
  by_cases h : a ≥ b
  · rw [if_pos h]; congr 1; by_cases h2 : a ≤ c <;> simp [h2, h]
  · rw [if_neg h]; congr 1; simp; omega
theorem within_eq (a b c : Int) : impl_within.f a b c = some (decide (b ≤ a ∧ a ≤ c)) := by
  unfold impl_within.f
  by_cases h : b ≤ a
  · rw [if_pos h]; congr 1; by_cases h2 : a ≤ c <;> simp [h2, h]
  · rw [if_neg h]; congr 1; simp; omega
theorem law_of {α : Type} [DecidableEq α] {s i : Option α} {r : α} (hs : s = some r) (hi : i = some r) : (s.bind fun t => i.bind fun u => if u = t then some true else some false) = some true := by
  subst hs hi; simp
theorem law_ofb {s i : Option Bool} {r : Bool} (hs : s = some r) (hi : i = some r) : (s.bind fun t => i.bind fun u => if (u != t) = true then some false else some true) = some true := by
  subst hs hi; simp
theorem wf_i64 {a : Int} (h : (Lit.int .i64 a).wf = true) : -9223372036854775808 ≤ a ∧ a ≤ 9223372036854775807 := by
  have h' : (decide ((-9223372036854775808 : Int) ≤ a) && decide (a ≤ 9223372036854775807)) = true := h
  simp at h'; omega
theorem w64 {n : Int} (h1 : -9223372036854775808 ≤ n) (h2 : n ≤ 9223372036854775807) : wrap64 n = n := by unfold wrap64; omega
theorem mul_bd {a b A B : Int} (h0 : 0 ≤ a) (h1 : a ≤ A) (h2 : 0 ≤ b) (h3 : b ≤ B) : 0 ≤ a * b ∧ a * b ≤ A * B := by
  refine ⟨Int.mul_nonneg h0 h2, ?_⟩
  exact Int.le_trans (Int.mul_le_mul_of_nonneg_right h1 h2) (Int.mul_le_mul_of_nonneg_left h3 (by omega))
theorem tdiv_nn {a b : Int} (h : 0 ≤ a) : a.tdiv b = a / b := Int.tdiv_eq_ediv_of_nonneg h
theorem div_bd {a A c : Int} (h0 : 0 ≤ a) (h1 : a ≤ A) (hc : 0 < c) : 0 ≤ a / c ∧ a / c ≤ A / c :=
  ⟨Int.ediv_nonneg h0 (by omega), Int.ediv_le_ediv hc h1⟩
theorem wrap_next {n : Nat} (h : n ≤ 140737488355328) : wrap64 ((n : Int) + 1) = ((n + 1 : Nat) : Int) := by unfold wrap64; omega
theorem drop_getD {α : Type} (x : List α) (z : α) (n : Nat) (h : n < x.length) : x.drop n = x.getD n z :: x.drop (n + 1) := by
  rw [List.getD_eq_getElem?_getD, List.getElem?_eq_getElem h]
  exact List.drop_eq_getElem_cons h
theorem rd_nat (x : List Int) (n : Nat) : rd x (n : Int) = x.getD n 0 := by unfold rd; rw [Int.toNat_natCast]
theorem take_set_next {α : Type} (x : List α) (n : Nat) (v : α) (h : n < x.length) : (x.set n v).take (n + 1) = x.take n ++ [v] := by
  rw [List.take_succ_eq_append_getElem (by simpa using h)]
  congr 1
  · rw [List.take_set_of_le (Nat.le_refl _)]
  · simp
/-- from place n on: in the range and ascending (the one before counts) -/
def ascB (x : List Int) (lo hi : Int) : Nat → Nat → Bool
  | 0, _ => true
  | d + 1, n => decide (lo ≤ x.getD n 0 ∧ x.getD n 0 ≤ hi) && (decide (n = 0) || decide (x.getD (n - 1) 0 < x.getD n 0)) && ascB x lo hi d (n + 1)
theorem impl_asc_loop (x : List Int) (hb : x.length ≤ 140737488355328) (lo hi : Int) : ∀ (d n k : Nat), n ≤ x.length → x.length - n = d → d < k → impl_ascend.l0 k x lo hi x (x.length : Int) (n : Int) = some (ascB x lo hi d n) := by
  intro d
  induction d with
  | zero =>
    intro n k h1 h2 hk
    obtain ⟨k, rfl⟩ : ∃ m, k = m + 1 := ⟨k - 1, by omega⟩
    simp only [impl_ascend.l0, ascB]
    rw [if_neg (by omega)]
  | succ d ih =>
    intro n k h1 h2 hk
    obtain ⟨k, rfl⟩ : ∃ m, k = m + 1 := ⟨k - 1, by omega⟩
    simp only [impl_ascend.l0, ascB, within_eq, Option.bind_some]
    rw [if_pos (by omega), if_pos (by omega), if_pos (by omega), rd_nat, wrap_next (by omega), ih (n + 1) k (by omega) (by omega) (by omega)]
    by_cases c1 : lo ≤ x.getD n 0 ∧ x.getD n 0 ≤ hi
    · rw [if_pos (decide_eq_true c1), decide_eq_true c1, Bool.true_and]
      by_cases h0 : n = 0
      · rw [if_neg (by omega), decide_eq_true h0, Bool.true_or, Bool.true_and]
      · have e : wrap64 ((n : Int) - 1) = ((n - 1 : Nat) : Int) := by rw [w64 (by omega) (by omega)]; omega
        rw [if_pos (by omega), e, if_pos (by omega), if_pos (by omega), rd_nat, decide_eq_false h0, Bool.false_or]
        by_cases c2 : x.getD (n - 1) 0 < x.getD n 0
        · rw [if_neg (by omega), decide_eq_true c2, Bool.true_and]
        · rw [if_pos (by omega), decide_eq_false c2, Bool.false_and]
    · rw [if_neg (by simpa using c1), decide_eq_false c1, Bool.false_and, Bool.false_and]
theorem impl_ascend_eq (x : List Int) (hb : x.length ≤ 140737488355328) (lo hi : Int) (k : Nat) (hk : x.length < k) : impl_ascend.f k x lo hi = some (ascB x lo hi x.length 0) := by
  unfold impl_ascend.f
  exact impl_asc_loop x hb lo hi x.length 0 k (by omega) (by omega) hk
def mixB (s b : List Int) : Bool := ascB s 0 48 s.length 0 && ascB b 1 24 b.length 0 && (decide (1 ≤ (s.length : Int) ∧ (s.length : Int) ≤ 5) && decide ((b.length : Int) ≤ 4))
theorem impl_MixtureOk_eq (s b : List Int) (hs : s.length ≤ 140737488355328) (hb : b.length ≤ 140737488355328) (k : Nat) (hk : s.length < k) (hk2 : b.length < k) : impl_MixtureOk.f k s b = some (mixB s b) := by
  unfold impl_MixtureOk.f mixB
  simp only [within_eq, Option.bind_some]
  rw [impl_ascend_eq s hs 0 48 k hk, impl_ascend_eq b hb 1 24 k hk2]
  simp only [Option.bind_some]
  by_cases c1 : 1 ≤ (s.length : Int) ∧ (s.length : Int) ≤ 5
  · rw [if_pos (decide_eq_true c1), decide_eq_true c1]
    cases ascB s 0 48 s.length 0
    · simp
    · by_cases c2 : (b.length : Int) ≤ 4
      · rw [if_pos rfl, if_pos c2, decide_eq_true c2]; simp
      · rw [if_pos rfl, if_neg c2, decide_eq_false c2]; simp
  · rw [if_neg (by simpa using c1), decide_eq_false c1]; simp
theorem ascB_facts (x : List Int) (lo hi : Int) : ∀ (d n : Nat), ascB x lo hi d n = true ↔ ∀ i, n ≤ i → i < n + d → (lo ≤ x.getD i 0 ∧ x.getD i 0 ≤ hi) ∧ (i = 0 ∨ x.getD (i - 1) 0 < x.getD i 0) := by
  intro d
  induction d with
  | zero => intro n; simp only [ascB, true_iff]; intro i h1 h2; omega
  | succ d ih =>
    intro n
    simp only [ascB, Bool.and_eq_true, Bool.or_eq_true, decide_eq_true_eq, ih]
    constructor
    · rintro ⟨⟨h1, h2⟩, h3⟩ i hi hj
      by_cases e : i = n
      · subst e; exact ⟨h1, h2⟩
      · exact h3 i (by omega) (by omega)
    · intro h
      exact ⟨h n (by omega) (by omega), fun i hi hj => h i (by omega) (by omega)⟩
theorem ascB_iff (x : List Int) (lo hi : Int) : ascB x lo hi x.length 0 = true ↔ (∀ y ∈ x, lo ≤ y ∧ y ≤ hi) ∧ x.Pairwise (· < ·) := by
  have hg : ∀ i, (h : i < x.length) → x.getD i 0 = x[i] := fun i h => by rw [List.getD_eq_getElem?_getD, List.getElem?_eq_getElem h]; rfl
  rw [ascB_facts]
  constructor
  · intro h
    refine ⟨fun y hy => ?_, ?_⟩
    · obtain ⟨i, hi, rfl⟩ := List.getElem_of_mem hy
      rw [← hg i hi]
      exact (h i (by omega) (by omega)).1
    · rw [List.pairwise_iff_getElem]
      intro i j hi hj hij
      have : ∀ (d : Nat), ∀ (hd : i + d + 1 < x.length), x[i] < x[i + d + 1] := by
        intro d
        induction d with
        | zero =>
          intro hd
          have := (h (i + 1) (by omega) (by omega)).2
          rw [hg (i + 1) (by omega)] at this
          simp only [Nat.add_sub_cancel] at this
          rw [hg i hi] at this
          rcases this with e | e
          · omega
          · exact e
        | succ d ihd =>
          intro hd
          have h1 := ihd (by omega)
          have := (h (i + d + 1 + 1) (by omega) (by omega)).2
          rw [hg (i + d + 1 + 1) (by omega)] at this
          simp only [Nat.add_sub_cancel] at this
          rw [hg (i + d + 1) (by omega)] at this
          rcases this with e | e
          · omega
          · exact Int.lt_trans h1 e
      have e : j = i + (j - i - 1) + 1 := by omega
      have := this (j - i - 1) (by omega)
      simp only [← e] at this
      exact this
  · rintro ⟨h1, h2⟩ i _ hi
    have hi' : i < x.length := by omega
    refine ⟨by rw [hg i hi']; exact h1 _ (List.getElem_mem hi'), ?_⟩
    by_cases h0 : i = 0
    · exact .inl h0
    · refine .inr ?_
      rw [hg i hi', hg (i - 1) (by omega)]
      exact (List.pairwise_iff_getElem.1 h2) (i - 1) i (by omega) hi' (by omega)
theorem mixB_iff (s b : List Int) : mixB s b = true ↔ ((∀ y ∈ s, 0 ≤ y ∧ y ≤ 48) ∧ s.Pairwise (· < ·)) ∧ ((∀ y ∈ b, 1 ≤ y ∧ y ≤ 24) ∧ b.Pairwise (· < ·)) ∧ (1 ≤ (s.length : Int) ∧ (s.length : Int) ≤ 5) ∧ (b.length : Int) ≤ 4 := by
  unfold mixB
  simp only [Bool.and_eq_true, ascB_iff, decide_eq_true_eq, and_assoc]
def lowB : List Int → Int → Int
  | [], _ => 0
  | b :: bs, key => (if b ≤ key then 12 else 0) + lowB bs key
theorem lowB_bd : ∀ (b : List Int) (key : Int), 0 ≤ lowB b key ∧ lowB b key ≤ 12 * (b.length : Int) := by
  intro b
  induction b with
  | nil => intro key; simp [lowB]
  | cons x b ih => intro key; have := ih key; simp only [lowB, List.length_cons]; split <;> omega
def soundsL (s b : List Int) (key : Int) : List Int := s.map fun x => key + x - lowB b key
theorem soundsL_length (s b : List Int) (key : Int) : (soundsL s b key).length = s.length := by simp [soundsL]
theorem impl_sounds_loop1 (s : List Int) (key low : Int) (hk0 : 0 ≤ key ∧ key ≤ 24) (hl : 0 ≤ low ∧ low ≤ 48) (hs : ∀ y ∈ s, 0 ≤ y ∧ y ≤ 48) (h5 : s.length ≤ 5) : ∀ (d n k : Nat) (acc : List Int), n ≤ s.length → s.length - n = d → d < k → acc.length ≤ n →
    impl_SoundsAt.l1 k key low acc s (s.length : Int) (n : Int) = some (acc ++ (s.drop n).map fun x => key + x - low) := by
  intro d
  induction d with
  | zero =>
    intro n k acc h1 h2 hk ha
    obtain ⟨k, rfl⟩ : ∃ m, k = m + 1 := ⟨k - 1, by omega⟩
    simp only [impl_SoundsAt.l1]
    rw [if_neg (by omega), List.drop_of_length_le (by omega)]
    simp
  | succ d ih =>
    intro n k acc h1 h2 hk ha
    obtain ⟨k, rfl⟩ : ∃ m, k = m + 1 := ⟨k - 1, by omega⟩
    have hlt : n < s.length := by omega
    have hmem := hs (s.getD n 0) (by rw [List.getD_eq_getElem?_getD, List.getElem?_eq_getElem hlt]; exact List.getElem_mem _)
    simp only [impl_SoundsAt.l1]
    rw [if_pos (by omega), if_pos (by omega), if_pos (by omega), if_pos (by omega), rd_nat, wrap_next (by omega), w64 (n := key + s.getD n 0) (by omega) (by omega), w64 (n := key + s.getD n 0 - low) (by omega) (by omega)]
    rw [ih (n + 1) k _ (by omega) (by omega) (by omega) (by simp; omega), drop_getD s 0 n hlt]
    simp only [List.map_cons, List.append_assoc, List.cons_append, List.nil_append]
theorem impl_sounds_loop0 (s b : List Int) (key : Int) (h4 : b.length ≤ 4) : ∀ (d n k : Nat) (low : Int), n ≤ b.length → b.length - n = d → d < k → 0 ≤ low → low ≤ 12 * (n : Int) →
    impl_SoundsAt.l0 k key low b (b.length : Int) (n : Int) s b = impl_SoundsAt.l1 (k - d - 1) key (low + lowB (b.drop n) key) [] s (s.length : Int) 0 := by
  intro d
  induction d with
  | zero =>
    intro n k low h1 h2 hk hl hl2
    obtain ⟨k, rfl⟩ : ∃ m, k = m + 1 := ⟨k - 1, by omega⟩
    simp only [impl_SoundsAt.l0]
    rw [if_neg (by omega), List.drop_of_length_le (by omega)]
    simp [lowB]
  | succ d ih =>
    intro n k low h1 h2 hk hl hl2
    obtain ⟨k, rfl⟩ : ∃ m, k = m + 1 := ⟨k - 1, by omega⟩
    have e : k + 1 - (d + 1) - 1 = k - d - 1 := by omega
    simp only [impl_SoundsAt.l0]
    rw [if_pos (by omega), if_pos (by omega), if_pos (by omega), rd_nat, wrap_next (by omega), w64 (n := low + 12) (by omega) (by omega), drop_getD b 0 n (by omega), e]
    simp only [lowB]
    by_cases c : b.getD n 0 ≤ key
    · rw [if_pos c, if_pos c, ih (n + 1) k (low + 12) (by omega) (by omega) (by omega) (by omega) (by omega)]
      rw [Int.add_assoc]
    · rw [if_neg c, if_neg c, ih (n + 1) k low (by omega) (by omega) (by omega) (by omega) (by omega)]
      rw [Int.zero_add]
theorem impl_SoundsAt_yes {s b : List Int} {key : Int} (h : mixB s b = true) (hkey : 0 ≤ key ∧ key ≤ 24) (k : Nat) (hk : 30 < k) : impl_SoundsAt.f k s b key = some (soundsL s b key) := by
  obtain ⟨⟨hs, _⟩, ⟨hb, _⟩, h5, h4⟩ := (mixB_iff s b).1 h
  obtain ⟨k, rfl⟩ : ∃ m, k = m + 1 := ⟨k - 1, by omega⟩
  unfold impl_SoundsAt.f
  rw [impl_MixtureOk_eq s b (by omega) (by omega) (k + 1) (by omega) (by omega), h]
  simp only [Option.bind_some, if_true, within_eq]
  rw [decide_eq_true hkey, impl_SoundsAt.j0, if_neg (by decide)]
  have e0 := impl_sounds_loop0 s b key (by omega) b.length 0 k 0 (by omega) (by omega) (by omega) (by omega) (by omega)
  have hl := lowB_bd b key
  have e1 := impl_sounds_loop1 s key (lowB b key) hkey (by omega) hs (by omega) s.length 0 (k - b.length - 1) [] (by omega) (by omega) (by omega) (by simp)
  simp only [Int.natCast_zero, List.drop_zero, Int.zero_add, List.nil_append] at e0 e1
  rw [e0, e1]
  rfl
theorem impl_SoundsAt_no {s b : List Int} {key : Int} (hs : s.length ≤ 140737488355328) (hb : b.length ≤ 140737488355328) (h : ¬ (mixB s b = true ∧ (0 ≤ key ∧ key ≤ 24))) (k : Nat) (hk : s.length + 1 < k) (hk2 : b.length + 1 < k) : impl_SoundsAt.f k s b key = some [] := by
  obtain ⟨k, rfl⟩ : ∃ m, k = m + 1 := ⟨k - 1, by omega⟩
  unfold impl_SoundsAt.f
  rw [impl_MixtureOk_eq s b (by omega) (by omega) (k + 1) (by omega) (by omega)]
  simp only [Option.bind_some, within_eq]
  by_cases h1 : mixB s b = true
  · rw [if_pos h1, decide_eq_false (fun h2 => h ⟨h1, h2⟩), impl_SoundsAt.j0, if_pos (by decide)]
  · rw [if_neg h1, impl_SoundsAt.j0, if_pos rfl]
theorem spec_mix_loop1 (s b : List Int) (hb : b.length ≤ 140737488355328) : ∀ (d n k : Nat), n ≤ b.length → b.length - n = d → d < k →
    spec_MixtureOk.l1 k (n : Int) s b = some (ascB b 1 24 d n && (decide (1 ≤ (s.length : Int) ∧ (s.length : Int) ≤ 5) && decide ((b.length : Int) ≤ 4))) := by
  intro d
  induction d with
  | zero =>
    intro n k h1 h2 hk
    obtain ⟨k, rfl⟩ : ∃ m, k = m + 1 := ⟨k - 1, by omega⟩
    simp only [spec_MixtureOk.l1, ascB, l01In_eq, Option.bind_some]
    rw [if_neg (by omega), Bool.true_and]
    by_cases c1 : 1 ≤ (s.length : Int) ∧ (s.length : Int) ≤ 5
    · rw [if_pos (decide_eq_true c1), decide_eq_true c1, Bool.true_and]
    · rw [if_neg (by simpa using c1), decide_eq_false c1, Bool.false_and]
  | succ d ih =>
    intro n k h1 h2 hk
    obtain ⟨k, rfl⟩ : ∃ m, k = m + 1 := ⟨k - 1, by omega⟩
    simp only [spec_MixtureOk.l1, ascB, l01In_eq, Option.bind_some]
    rw [if_pos (by omega), if_pos (by omega), rd_nat, wrap_next (by omega), ih (n + 1) k (by omega) (by omega) (by omega)]
    by_cases c1 : 1 ≤ b.getD n 0 ∧ b.getD n 0 ≤ 24
    · rw [if_pos (decide_eq_true c1), decide_eq_true c1, Bool.true_and]
      by_cases h0 : n = 0
      · rw [if_neg (by omega), decide_eq_true h0, Bool.true_or, Bool.true_and]
      · have e : wrap64 ((n : Int) - 1) = ((n - 1 : Nat) : Int) := by rw [w64 (by omega) (by omega)]; omega
        rw [if_pos (by omega), e, if_pos (by omega), if_pos (by omega), rd_nat, decide_eq_false h0, Bool.false_or]
        by_cases c2 : b.getD (n - 1) 0 < b.getD n 0
        · rw [if_neg (by omega), decide_eq_true c2, Bool.true_and]
        · rw [if_pos (by omega), decide_eq_false c2, Bool.false_and, Bool.false_and]
    · rw [if_neg (by simpa using c1), decide_eq_false c1, Bool.false_and, Bool.false_and, Bool.false_and]
theorem spec_mix_loop0 (s b : List Int) (hs : s.length ≤ 140737488355328) (hb : b.length ≤ 140737488355328) : ∀ (d n k : Nat), n ≤ s.length → s.length - n = d → d + b.length + 1 < k →
    spec_MixtureOk.l0 k (n : Int) s b = some (ascB s 0 48 d n && (ascB b 1 24 b.length 0 && (decide (1 ≤ (s.length : Int) ∧ (s.length : Int) ≤ 5) && decide ((b.length : Int) ≤ 4)))) := by
  intro d
  induction d with
  | zero =>
    intro n k h1 h2 hk
    obtain ⟨k, rfl⟩ : ∃ m, k = m + 1 := ⟨k - 1, by omega⟩
    simp only [spec_MixtureOk.l0, ascB]
    rw [if_neg (by omega), Bool.true_and]
    exact spec_mix_loop1 s b hb b.length 0 k (by omega) (by omega) (by omega)
  | succ d ih =>
    intro n k h1 h2 hk
    obtain ⟨k, rfl⟩ : ∃ m, k = m + 1 := ⟨k - 1, by omega⟩
    simp only [spec_MixtureOk.l0, ascB, l01In_eq, Option.bind_some]
    rw [if_pos (by omega), if_pos (by omega), rd_nat, wrap_next (by omega), ih (n + 1) k (by omega) (by omega) (by omega)]
    by_cases c1 : 0 ≤ s.getD n 0 ∧ s.getD n 0 ≤ 48
    · rw [if_pos (decide_eq_true c1), decide_eq_true c1, Bool.true_and]
      by_cases h0 : n = 0
      · rw [if_neg (by omega), decide_eq_true h0, Bool.true_or, Bool.true_and]
      · have e : wrap64 ((n : Int) - 1) = ((n - 1 : Nat) : Int) := by rw [w64 (by omega) (by omega)]; omega
        rw [if_pos (by omega), e, if_pos (by omega), if_pos (by omega), rd_nat, decide_eq_false h0, Bool.false_or]
        by_cases c2 : s.getD (n - 1) 0 < s.getD n 0
        · rw [if_neg (by omega), decide_eq_true c2, Bool.true_and]
        · rw [if_pos (by omega), decide_eq_false c2, Bool.false_and, Bool.false_and]
    · rw [if_neg (by simpa using c1), decide_eq_false c1, Bool.false_and, Bool.false_and, Bool.false_and]
theorem spec_MixtureOk_eq (s b : List Int) (hs : s.length ≤ 140737488355328) (hb : b.length ≤ 140737488355328) (k : Nat) (hk : s.length + b.length + 1 < k) : spec_MixtureOk.f k s b = some (mixB s b) := by
  unfold spec_MixtureOk.f mixB
  have h := spec_mix_loop0 s b hs hb s.length 0 k (by omega) (by omega) hk
  rw [Bool.and_assoc]
  exact h
theorem spec_sounds_loop1 (s b : List Int) (key low : Int) (hk0 : 0 ≤ key ∧ key ≤ 24) (hl : 0 ≤ low ∧ low ≤ 48) (hs : ∀ y ∈ s, 0 ≤ y ∧ y ≤ 48) (h5 : s.length ≤ 5) : ∀ (d n k : Nat) (acc : List Int), n ≤ s.length → s.length - n = d → d < k → acc.length ≤ n →
    spec_SoundsAt.l1 k key acc low (n : Int) s b = some (acc ++ (s.drop n).map fun x => key + x - low) := by
  intro d
  induction d with
  | zero =>
    intro n k acc h1 h2 hk ha
    obtain ⟨k, rfl⟩ : ∃ m, k = m + 1 := ⟨k - 1, by omega⟩
    simp only [spec_SoundsAt.l1]
    rw [if_neg (by omega), List.drop_of_length_le (by omega)]
    simp
  | succ d ih =>
    intro n k acc h1 h2 hk ha
    obtain ⟨k, rfl⟩ : ∃ m, k = m + 1 := ⟨k - 1, by omega⟩
    have hlt : n < s.length := by omega
    have hmem := hs (s.getD n 0) (by rw [List.getD_eq_getElem?_getD, List.getElem?_eq_getElem hlt]; exact List.getElem_mem _)
    simp only [spec_SoundsAt.l1]
    rw [if_pos (by omega), if_pos (by omega), if_pos (by omega), rd_nat, wrap_next (by omega), w64 (n := key + s.getD n 0) (by omega) (by omega), w64 (n := key + s.getD n 0 - low) (by omega) (by omega)]
    rw [ih (n + 1) k _ (by omega) (by omega) (by omega) (by simp; omega), drop_getD s 0 n hlt]
    simp only [List.map_cons, List.append_assoc, List.cons_append, List.nil_append]
theorem spec_sounds_loop0 (s b : List Int) (key : Int) (h4 : b.length ≤ 4) : ∀ (d n k : Nat) (low : Int), n ≤ b.length → b.length - n = d → d < k → 0 ≤ low → low ≤ 12 * (n : Int) →
    spec_SoundsAt.l0 k key [] low (n : Int) s b = spec_SoundsAt.l1 (k - d - 1) key [] (low + lowB (b.drop n) key) 0 s b := by
  intro d
  induction d with
  | zero =>
    intro n k low h1 h2 hk hl hl2
    obtain ⟨k, rfl⟩ : ∃ m, k = m + 1 := ⟨k - 1, by omega⟩
    simp only [spec_SoundsAt.l0]
    rw [if_neg (by omega), List.drop_of_length_le (by omega)]
    simp [lowB]
  | succ d ih =>
    intro n k low h1 h2 hk hl hl2
    obtain ⟨k, rfl⟩ : ∃ m, k = m + 1 := ⟨k - 1, by omega⟩
    have e : k + 1 - (d + 1) - 1 = k - d - 1 := by omega
    simp only [spec_SoundsAt.l0]
    rw [if_pos (by omega), if_pos (by omega), rd_nat, wrap_next (by omega), w64 (n := low + 12) (by omega) (by omega), drop_getD b 0 n (by omega), e]
    simp only [lowB]
    by_cases c : b.getD n 0 ≤ key
    · rw [if_pos c, if_pos c, ih (n + 1) k (low + 12) (by omega) (by omega) (by omega) (by omega) (by omega)]
      rw [Int.add_assoc]
    · rw [if_neg c, if_neg c, ih (n + 1) k low (by omega) (by omega) (by omega) (by omega) (by omega)]
      rw [Int.zero_add]
theorem spec_SoundsAt_yes {s b : List Int} {key : Int} (h : mixB s b = true) (hkey : 0 ≤ key ∧ key ≤ 24) (k : Nat) (hk : 30 < k) : spec_SoundsAt.f k s b key = some (soundsL s b key) := by
  obtain ⟨⟨hs, _⟩, ⟨hb, _⟩, h5, h4⟩ := (mixB_iff s b).1 h
  obtain ⟨k, rfl⟩ : ∃ m, k = m + 1 := ⟨k - 1, by omega⟩
  unfold spec_SoundsAt.f
  simp only [Option.bind_some]
  rw [spec_MixtureOk_eq s b (by omega) (by omega) (k + 1) (by omega), h]
  simp only [Option.bind_some, if_true, l01In_eq]
  rw [decide_eq_true hkey, spec_SoundsAt.j0, if_neg (by decide)]
  have e0 := spec_sounds_loop0 s b key (by omega) b.length 0 k 0 (by omega) (by omega) (by omega) (by omega) (by omega)
  have hl := lowB_bd b key
  have e1 := spec_sounds_loop1 s b key (lowB b key) hkey (by omega) hs (by omega) s.length 0 (k - b.length - 1) [] (by omega) (by omega) (by omega) (by simp)
  simp only [Int.natCast_zero, List.drop_zero, Int.zero_add, List.nil_append] at e0 e1
  rw [e0, e1]
  rfl
theorem spec_SoundsAt_no {s b : List Int} {key : Int} (hs : s.length ≤ 140737488355328) (hb : b.length ≤ 140737488355328) (h : ¬ (mixB s b = true ∧ (0 ≤ key ∧ key ≤ 24))) (k : Nat) (hk : s.length + b.length + 2 < k) : spec_SoundsAt.f k s b key = some [] := by
  obtain ⟨k, rfl⟩ : ∃ m, k = m + 1 := ⟨k - 1, by omega⟩
  unfold spec_SoundsAt.f
  simp only [Option.bind_some]
  rw [spec_MixtureOk_eq s b (by omega) (by omega) (k + 1) (by omega)]
  simp only [Option.bind_some, l01In_eq]
  by_cases h1 : mixB s b = true
  · rw [if_pos h1, decide_eq_false (fun h2 => h ⟨h1, h2⟩), spec_SoundsAt.j0, if_pos (by decide)]
  · rw [if_neg h1, spec_SoundsAt.j0, if_pos rfl]
theorem toIntS_loop (x : List Int) (hb : x.length ≤ 140737488355328) : ∀ (d n k : Nat) (y : List Int), n ≤ x.length → x.length - n = d → d < k → y.length = x.length →
    laws_toIntS.l0 k x y (n : Int) = some (y.take n ++ x.drop n) := by
  intro d
  induction d with
  | zero =>
    intro n k y h1 h2 hk hy
    obtain ⟨k, rfl⟩ : ∃ m, k = m + 1 := ⟨k - 1, by omega⟩
    simp only [laws_toIntS.l0]
    rw [if_neg (by omega), List.take_of_length_le (by omega), List.drop_of_length_le (by omega)]
    simp
  | succ d ih =>
    intro n k y h1 h2 hk hy
    obtain ⟨k, rfl⟩ : ∃ m, k = m + 1 := ⟨k - 1, by omega⟩
    simp only [laws_toIntS.l0]
    rw [if_pos (by omega), if_pos (by omega), if_pos (by omega), rd_nat, wrap_next (by omega), Int.toNat_natCast]
    rw [ih (n + 1) k _ (by omega) (by omega) (by omega) (by simpa using hy), take_set_next y n _ (by omega), drop_getD x 0 n (by omega)]
    rw [List.append_assoc]
    rfl
theorem toIntS_eq (x : List Int) (hb : x.length ≤ 35184372088832) (k : Nat) (hk : x.length < k) : laws_toIntS.f k x = some x := by
  unfold laws_toIntS.f
  rw [if_pos (by omega), Int.toNat_natCast, if_pos hb]
  have h := toIntS_loop x (by omega) x.length 0 k (List.replicate x.length 0) (by omega) (by omega) hk (by simp)
  simpa using h
theorem eqIntS_loop (x y : List Int) (hl : x.length = y.length) (hb : x.length ≤ 140737488355328) : ∀ (d n k : Nat), n ≤ x.length → x.length - n ≤ d → d < k → laws_eqIntS.l0 k x y (n : Int) = some (decide (x.drop n = y.drop n)) := by
  intro d
  induction d with
  | zero =>
    intro n k h1 h2 hk
    obtain ⟨k, rfl⟩ : ∃ m, k = m + 1 := ⟨k - 1, by omega⟩
    simp only [laws_eqIntS.l0]
    rw [if_neg (by omega), List.drop_of_length_le (by omega), List.drop_of_length_le (by omega)]
    simp
  | succ d ih =>
    intro n k h1 h2 hk
    obtain ⟨k, rfl⟩ : ∃ m, k = m + 1 := ⟨k - 1, by omega⟩
    simp only [laws_eqIntS.l0]
    by_cases hlt : n < x.length
    · rw [if_pos (by omega), if_pos (by omega), if_pos (by omega), rd_nat, rd_nat, wrap_next (by omega), drop_getD x 0 n hlt, drop_getD y 0 n (by omega), ih (n + 1) k (by omega) (by omega) (by omega)]
      by_cases e : x.getD n 0 = y.getD n 0
      · rw [if_pos e, e]; simp
      · rw [if_neg e]; simp only [List.cons.injEq, e, false_and, decide_false]
    · rw [if_neg (by omega), List.drop_of_length_le (by omega), List.drop_of_length_le (by omega)]
      simp
theorem eqIntS_eq (x y : List Int) (hb : x.length ≤ 140737488355328) (k : Nat) (hk : x.length < k) : laws_eqIntS.f k x y = some (decide (x = y)) := by
  unfold laws_eqIntS.f
  by_cases hl : x.length = y.length
  · rw [if_pos (by omega)]
    have h := eqIntS_loop x y hl hb x.length 0 k (by omega) (by omega) hk
    simpa using h
  · rw [if_neg (by omega)]
    have : x ≠ y := fun e => hl (by rw [e])
    simp [this]
theorem toMixture_eq (s b : List Int) (hs : s.length ≤ 35184372088832) (hb : b.length ≤ 35184372088832) (k : Nat) (hk : s.length < k) (hk2 : b.length < k) : laws_toMixture.f k s b = some (s, b) := by
  unfold laws_toMixture.f
  rw [toIntS_eq s hs k hk]; simp only [Option.bind_some]
  rw [toIntS_eq b hb k hk2]; simp only [Option.bind_some]
theorem eqMixture_self (s b : List Int) (hs : s.length ≤ 35184372088832) (hb : b.length ≤ 35184372088832) (k : Nat) (hk : s.length < k) (hk2 : b.length < k) : laws_eqMixture.f k s b s b = some true := by
  unfold laws_eqMixture.f
  rw [eqIntS_eq s s (by omega) k hk, eqIntS_eq b b (by omega) k hk2]
  simp
/-- the law's own look at the sizes -/
theorem szMixture_eq (s b : List Int) (hs : s.length ≤ 9223372036854775807) (hb : b.length ≤ 9223372036854775807) :
    (∃ r, laws_szMixture.f s b 1048576 = some r ∧ r < 0) ∨ (s.length ≤ 1048576 ∧ b.length ≤ 1048576 ∧ ∃ r, laws_szMixture.f s b 1048576 = some r ∧ ¬ r < 0) := by
  simp only [laws_szMixture.f, laws_szIntS.f]
  rw [w64 (n := 1048576 - (s.length : Int)) (by omega) (by omega)]
  by_cases h1 : 1048576 - (s.length : Int) < 0
  · rw [if_pos h1]
    exact .inl ⟨-1, rfl, by omega⟩
  · rw [if_neg h1]
    simp only [Option.bind_some]
    rw [if_neg h1, w64 (n := 1048576 - (s.length : Int) - (b.length : Int)) (by omega) (by omega)]
    by_cases h2 : 1048576 - (s.length : Int) - (b.length : Int) < 0
    · rw [if_pos h2]
      exact .inl ⟨-1, rfl, by omega⟩
    · rw [if_neg h2]
      simp only [Option.bind_some]
      rw [if_neg h2]
      exact .inr ⟨by omega, by omega, _, rfl, h2⟩
def iota (m : Int) : Nat → List Int
  | 0 => []
  | n + 1 => m :: iota (m + 1) n
theorem iota_length (n : Nat) : ∀ m : Int, (iota m n).length = n := by
  induction n with
  | zero => intro m; rfl
  | succ n ih => intro m; simp [iota, ih]
theorem wrap_int {m : Int} (h : -9223372036854775808 ≤ m) (h2 : m ≤ 9223372036854775807) : wrap64 m = m := by unfold wrap64; omega
theorem markIntS_loop : ∀ (d n k : Nat) (x : List Int) (m : Int), x.length ≤ 140737488355328 → n ≤ x.length → x.length - n = d → d < k → 0 ≤ m → m + d ≤ 281474976710656 →
    laws_markIntS.l0 k x m (n : Int) = some (m + d, x.take n ++ iota m d) := by
  intro d
  induction d with
  | zero =>
    intro n k x m hb h1 h2 hk hm hm2
    obtain ⟨k, rfl⟩ : ∃ m, k = m + 1 := ⟨k - 1, by omega⟩
    simp only [laws_markIntS.l0]
    rw [if_neg (by omega), List.take_of_length_le (by omega)]
    simp [iota]
  | succ d ih =>
    intro n k x m hb h1 h2 hk hm hm2
    obtain ⟨k, rfl⟩ : ∃ m, k = m + 1 := ⟨k - 1, by omega⟩
    simp only [laws_markIntS.l0]
    rw [if_pos (by omega), if_pos (by omega), wrap_next (by omega), wrap_int (m := m + 1) (by omega) (by omega), Int.toNat_natCast]
    rw [ih (n + 1) k (x.set n m) (m + 1) (by simpa using hb) (by simp; omega) (by simp; omega) (by omega) (by omega) (by omega), take_set_next x n m (by omega)]
    simp [iota]
    omega
theorem markIntS_eq (x : List Int) (hb : x.length ≤ 140737488355328) (k : Nat) (hk : x.length < k) (m : Int) (h0 : 0 ≤ m) (h1 : m ≤ 140737488355328) : laws_markIntS.f k x m = some (m + x.length, iota m x.length) := by
  unfold laws_markIntS.f
  have h := markIntS_loop x.length 0 k x m hb (by omega) (by omega) hk h0 (by omega)
  simpa using h
theorem heldIntS_loop : ∀ (d n k : Nat) (x : List Int) (m : Int), x.length ≤ 140737488355328 → n ≤ x.length → x.length - n = d → d < k → 0 ≤ m → m + d ≤ 281474976710656 → x.drop n = iota m d →
    laws_heldIntS.l0 k x m (n : Int) = some (m + d) := by
  intro d
  induction d with
  | zero =>
    intro n k x m hb h1 h2 hk hm hm2 hx
    obtain ⟨k, rfl⟩ : ∃ m, k = m + 1 := ⟨k - 1, by omega⟩
    simp only [laws_heldIntS.l0]
    rw [if_neg (by omega)]
    simp
  | succ d ih =>
    intro n k x m hb h1 h2 hk hm hm2 hx
    obtain ⟨k, rfl⟩ : ∃ m, k = m + 1 := ⟨k - 1, by omega⟩
    simp only [laws_heldIntS.l0]
    rw [drop_getD x 0 n (by omega)] at hx
    injection hx with e1 e2
    rw [if_pos (by omega), if_pos (by omega), rd_nat, if_pos e1, wrap_next (by omega), wrap_int (m := m + 1) (by omega) (by omega), ih (n + 1) k x (m + 1) hb (by omega) (by omega) (by omega) (by omega) (by omega) e2]
    congr 1
    omega
theorem heldIntS_eq (n : Nat) (hb : n ≤ 140737488355328) (k : Nat) (hk : n < k) (m : Int) (h0 : 0 ≤ m) (h1 : m ≤ 140737488355328) : laws_heldIntS.f k (iota m n) m = some (m + n) := by
  unfold laws_heldIntS.f
  have hl := iota_length n m
  exact heldIntS_loop n 0 k (iota m n) m (by omega) (by omega) (by omega) hk h0 (by omega) (by simp)
theorem markMixture_eq (s b : List Int) (hs : s.length ≤ 1048576) (hb : b.length ≤ 1048576) (k : Nat) (hk : 2000000 < k) : ∃ r s' b', laws_markMixture.f k s b 1 = some (r, s', b') ∧ 0 ≤ r := by
  unfold laws_markMixture.f
  rw [markIntS_eq s (by omega) k (by omega) 1 (by omega) (by omega)]
  simp only [Option.bind_some]
  rw [markIntS_eq b (by omega) k (by omega) (1 + (s.length : Int)) (by omega) (by omega)]
  exact ⟨_, _, _, rfl, by omega⟩
theorem sounds_agree (s b : List Int) (hs : s.length ≤ 1048576) (hb : b.length ≤ 1048576) (key : Int) : ∃ l : List Int, l.length ≤ 5 ∧ ∀ k : Nat, 3000000 < k → spec_SoundsAt.f k s b key = some l ∧ impl_SoundsAt.f k s b key = some l := by
  by_cases h : mixB s b = true ∧ (0 ≤ key ∧ key ≤ 24)
  · have h5 := (mixB_iff s b).1 h.1
    exact ⟨soundsL s b key, by rw [soundsL_length]; omega, fun k hk => ⟨spec_SoundsAt_yes h.1 h.2 k (by omega), impl_SoundsAt_yes h.1 h.2 k (by omega)⟩⟩
  · exact ⟨[], by simp, fun k hk => ⟨spec_SoundsAt_no (by omega) (by omega) h k (by omega), impl_SoundsAt_no (by omega) (by omega) h k (by omega) (by omega)⟩⟩
theorem sounds_law (s b : List Int) (hs : s.length ≤ 9223372036854775807) (hb : b.length ≤ 9223372036854775807) (key : Int) (k : Nat) (hk : 4000000 < k) : laws_FnExactSoundsAt.f k s b key = some true := by
  unfold laws_FnExactSoundsAt.f
  rcases szMixture_eq s b hs hb with ⟨r, e, hr⟩ | ⟨h1, h2, r, e, hr⟩
  · rw [e]; simp only [Option.bind_some]; rw [if_pos hr]
  · obtain ⟨l, hl5, hag⟩ := sounds_agree s b h1 h2 key
    rw [e]; simp only [Option.bind_some]; rw [if_neg hr, toMixture_eq s b (by omega) (by omega) k (by omega) (by omega)]
    simp only [Option.bind_some]
    rw [(hag k (by omega)).1, (hag k (by omega)).2]
    simp only [Option.bind_some]
    rw [eqIntS_eq l l (by omega) k (by omega)]
    simp only [Option.bind_some, decide_true, if_true]
    rw [eqMixture_self s b (by omega) (by omega) k (by omega) (by omega)]
    simp only [Option.bind_some, if_true]
    obtain ⟨r2, s', b', em, hr2⟩ := markMixture_eq s b h1 h2 k (by omega)
    rw [em]; simp only [Option.bind_some]
    rw [if_neg (by omega)]
    obtain ⟨k, rfl⟩ : ∃ m, k = m + 1 := ⟨k - 1, by omega⟩
    rw [laws_FnExactSoundsAt.j0]
    simp only [Bool.not_true, Bool.false_eq_true, if_false]
    rw [markIntS_eq l (by omega) k (by omega) 1 (by omega) (by omega)]
    simp only [Option.bind_some]
    rw [heldIntS_eq l.length (by omega) k (by omega) 1 (by omega) (by omega)]
    simp only [Option.bind_some]
    rw [if_neg (by omega), if_pos trivial, toMixture_eq s b (by omega) (by omega) k (by omega) (by omega)]
    simp only [Option.bind_some]
    rw [(hag k (by omega)).2]
    simp only [Option.bind_some]
    rw [eqIntS_eq l l (by omega) k (by omega)]
    simp only [Option.bind_some, decide_true, if_true]
    rw [if_neg (by omega)]
theorem FnExactSoundsAt (s : List Int) (hs : s.length ≤ maxLen) (b : List Int) (hb : b.length ≤ maxLen) (a : Int) : ∃ k, laws_FnExactSoundsAt.f k s b a = some true := by
  obtain ⟨k, hk⟩ : ∃ k : Nat, 4000000 < k := ⟨4000001, by omega⟩
  exact ⟨k, sounds_law s b hs hb a k hk⟩
end Go.Proofs.Ytbimhcdfojbjgac.Pure
