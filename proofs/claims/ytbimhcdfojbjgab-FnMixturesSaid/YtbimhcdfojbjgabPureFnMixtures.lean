/- The plain law of FnMixtures: the printed function of the law answers true. Its conditions are those of the statement's own bounds. -/
import Derived.Test.YtbimhcdfojbjgabHFnMixturesx4
namespace Go.Proofs.Ytbimhcdfojbjgab.Pure
open Go.RowKit Go.Proofs.Ytbimhcdfojbjgab.PFnMixtures Go.Proofs.YtbimhcdfojbjgabW.PrintWords Go.Proofs.YtbimhcdfojbjgabW.PrintLast Go.Proofs.YtbimhcdfojbjgabW.PrintMore
set_option linter.unusedVariables false
theorem and255 (n : Int) : Go.bits .and .i64 n 255 = n % 256 := by
  have h255 : (BitVec.ofInt 64 255).toNat = 2 ^ 8 - 1 := by decide
  have key : (BitVec.ofInt 64 n &&& BitVec.ofInt 64 255).toNat = (n % ((2 ^ 64 : Nat) : Int)).toNat % 2 ^ 8 := by
    rw [BitVec.toNat_and, BitVec.toNat_ofInt, h255, Nat.and_two_pow_sub_one_eq_mod]
  show IntKind.i64.wrap ((BitVec.ofInt 64 n &&& BitVec.ofInt 64 255).toNat : Nat) = n % 256
  rw [key, IntKind.wrap_i64]
  omega
theorem dw64 {n : Int} (h1 : -9223372036854775808 ≤ n) (h2 : n ≤ 9223372036854775807) : wrap64 n = n := by unfold wrap64; omega
theorem lenb {b : List Int} (hb : b.length * 1 ≤ 140737488351232) : (b.length : Int) ≤ 140737488351232 := by omega
theorem new_loop (l : List Int) (hl : (l.length : Int) ≤ 140737488351232) : ∀ (d k : Nat) (h i : Int), 0 ≤ i → i ≤ 4000 → 4000 - i ≤ d → d < k → ∃ h', spec_l01New.l0 k l h i = some (l, 0, h') := by
  intro d
  induction d with
  | zero =>
    intro k h i h0 h1 hd hk
    obtain ⟨k, rfl⟩ : ∃ m, k = m + 1 := ⟨k - 1, by omega⟩
    refine ⟨h, ?_⟩
    simp only [spec_l01New.l0]
    by_cases hlt : i < (l.length : Int)
    · rw [if_pos hlt, if_neg (by omega)]
    · rw [if_neg hlt]
  | succ d ih =>
    intro k h i h0 h1 hd hk
    obtain ⟨k, rfl⟩ : ∃ m, k = m + 1 := ⟨k - 1, by omega⟩
    by_cases hlt : i < (l.length : Int)
    · by_cases h4 : i < 4000
      · obtain ⟨h', e⟩ := ih k (Go.bits .and .i64 (wrap64 ((wrap64 ((wrap64 (h * 131)) + (wrap64 (rd l i)))) + 7)) 1073741823) (i + 1) (by omega) (by omega) (by omega) (by omega)
        refine ⟨h', ?_⟩
        simp only [spec_l01New.l0]
        rw [if_pos hlt, if_pos h4, if_pos h0, dw64 (n := i + 1) (by omega) (by omega)]
        exact e
      · refine ⟨h, ?_⟩
        simp only [spec_l01New.l0]
        rw [if_pos hlt, if_neg h4]
    · refine ⟨h, ?_⟩
      simp only [spec_l01New.l0]
      rw [if_neg hlt]
theorem new_some (l : List Int) (hl : (l.length : Int) ≤ 140737488351232) (k : Nat) (hk : 4000 < k) : ∃ h, spec_l01New.f k l = some (l, 0, h) := by
  unfold spec_l01New.f
  exact new_loop l hl 4000 k _ 0 (by omega) (by omega) (by omega) hk
/-- the cursor's place is good -/
abbrev Cur (b : List Int) (i : Int) : Prop := 0 ≤ i ∧ i ≤ (b.length : Int) ∧ (b.length : Int) ≤ 140737488351232
theorem byte_some (b : List Int) (i h : Int) (hc : Cur b i) : ∃ x i' h', spec_l01Byte.f b i h = some (x, i', h') ∧ 0 ≤ x ∧ x ≤ 255 ∧ Cur b i' := by
  obtain ⟨h0, h1, h2⟩ := hc
  unfold spec_l01Byte.f
  by_cases hlt : i < (b.length : Int)
  · rw [if_pos hlt, if_pos h0]
    refine ⟨_, _, _, rfl, ?_, ?_, ?_⟩
    · rw [and255]; omega
    · rw [and255]; omega
    · rw [dw64 (n := i + 1) (by omega) (by omega)]; exact ⟨by omega, by omega, h2⟩
  · rw [if_neg hlt]
    refine ⟨_, _, _, rfl, ?_, ?_, ?_⟩
    · rw [and255]; omega
    · rw [and255]; omega
    · exact ⟨h0, h1, h2⟩
theorem tmod_lt {x n : Int} (hx : 0 ≤ x) (hn : 0 < n) : 0 ≤ x.tmod n ∧ x.tmod n < n := by
  rw [Int.tmod_eq_emod_of_nonneg hx]
  exact ⟨Int.emod_nonneg _ (by omega), Int.emod_lt_of_pos _ hn⟩
theorem below_some (b : List Int) (i h n : Int) (hc : Cur b i) (hn : 0 < n) (hn2 : n ≤ 2147483648) :
    ∃ x i' h', spec_l01Below.f b i h n = some (x, i', h') ∧ 0 ≤ x ∧ x < n ∧ Cur b i' := by
  unfold spec_l01Below.f
  rw [if_neg (by omega)]
  by_cases h256 : n ≤ 256
  · rw [if_pos h256]
    obtain ⟨x, i1, h1, e, hx0, hx1, hc1⟩ := byte_some b i h hc
    rw [e]; simp only [Option.bind_some]; rw [if_neg (by omega)]
    obtain ⟨a, c⟩ := tmod_lt (x := x) (n := n) hx0 hn
    exact ⟨_, _, _, rfl, a, c, hc1⟩
  · rw [if_neg h256]
    obtain ⟨x, i1, h1, e1, x0, x1, hc1⟩ := byte_some b i h hc
    rw [e1]; simp only [Option.bind_some]
    obtain ⟨y, i2, h2, e2, y0, y1, hc2⟩ := byte_some b i1 h1 hc1
    rw [e2]; simp only [Option.bind_some]
    obtain ⟨z, i3, h3, e3, z0, z1, hc3⟩ := byte_some b i2 h2 hc2
    rw [e3]; simp only [Option.bind_some]
    obtain ⟨w, i4, h4, e4, w0, w1, hc4⟩ := byte_some b i3 h3 hc3
    rw [e4]; simp only [Option.bind_some]; rw [if_neg (by omega)]
    rw [dw64 (n := x * 16777216) (by omega) (by omega), dw64 (n := y * 65536) (by omega) (by omega), dw64 (n := z * 256) (by omega) (by omega), dw64 (n := x * 16777216 + y * 65536) (by omega) (by omega),
      dw64 (n := x * 16777216 + y * 65536 + z * 256) (by omega) (by omega), dw64 (n := x * 16777216 + y * 65536 + z * 256 + w) (by omega) (by omega)]
    obtain ⟨a, c⟩ := tmod_lt (x := x * 16777216 + y * 65536 + z * 256 + w) (n := n) (by omega) hn
    exact ⟨_, _, _, rfl, a, c, hc4⟩
theorem within_eq (a b c : Int) : impl_within.f a b c = some (decide (b ≤ a ∧ a ≤ c)) := by
  unfold impl_within.f
  by_cases h : b ≤ a
  · rw [if_pos h]; congr 1; by_cases h2 : a ≤ c <;> simp [h2, h]
  · rw [if_neg h]; congr 1; simp; omega
theorem law_of {α : Type} [DecidableEq α] {s i : Option α} {r : α} (hs : s = some r) (hi : i = some r) : (s.bind fun t => i.bind fun u => if u = t then some true else some false) = some true := by
  subst hs hi; simp
theorem law_ofb {s i : Option Bool} {r : Bool} (hs : s = some r) (hi : i = some r) : (s.bind fun t => i.bind fun u => if (u != t) = true then some false else some true) = some true := by
  subst hs hi; simp
theorem wf_i64 {a : Int} (h : (Lit.int .i64 a).wf = true) : -9223372036854775808 ≤ a ∧ a ≤ 9223372036854775807 := by
  have h' : (decide ((-9223372036854775808 : Int) ≤ a) && decide (a ≤ 9223372036854775807)) = true := h
  simp at h'; omega
theorem w64 {n : Int} (h1 : -9223372036854775808 ≤ n) (h2 : n ≤ 9223372036854775807) : wrap64 n = n := by unfold wrap64; omega
theorem mul_bd {a b A B : Int} (h0 : 0 ≤ a) (h1 : a ≤ A) (h2 : 0 ≤ b) (h3 : b ≤ B) : 0 ≤ a * b ∧ a * b ≤ A * B := by
  refine ⟨Int.mul_nonneg h0 h2, ?_⟩
  exact Int.le_trans (Int.mul_le_mul_of_nonneg_right h1 h2) (Int.mul_le_mul_of_nonneg_left h3 (by omega))
theorem tdiv_nn {a b : Int} (h : 0 ≤ a) : a.tdiv b = a / b := Int.tdiv_eq_ediv_of_nonneg h
theorem div_bd {a A c : Int} (h0 : 0 ≤ a) (h1 : a ≤ A) (hc : 0 < c) : 0 ≤ a / c ∧ a / c ≤ A / c :=
  ⟨Int.ediv_nonneg h0 (by omega), Int.ediv_le_ediv hc h1⟩
theorem wrap_next {n : Nat} (h : n ≤ 140737488355328) : wrap64 ((n : Int) + 1) = ((n + 1 : Nat) : Int) := by unfold wrap64; omega
theorem drop_getD {α : Type} (x : List α) (z : α) (n : Nat) (h : n < x.length) : x.drop n = x.getD n z :: x.drop (n + 1) := by
  rw [List.getD_eq_getElem?_getD, List.getElem?_eq_getElem h]
  exact List.drop_eq_getElem_cons h
theorem rd_nat (x : List Int) (n : Nat) : rd x (n : Int) = x.getD n 0 := by unfold rd; rw [Int.toNat_natCast]
theorem take_set_next {α : Type} (x : List α) (n : Nat) (v : α) (h : n < x.length) : (x.set n v).take (n + 1) = x.take n ++ [v] := by
  rw [List.take_succ_eq_append_getElem (by simpa using h)]
  congr 1
  · rw [List.take_set_of_le (Nat.le_refl _)]
  · simp
/-- from place n on: in the range and ascending (the one before counts) -/
def ascB (x : List Int) (lo hi : Int) : Nat → Nat → Bool
  | 0, _ => true
  | d + 1, n => decide (lo ≤ x.getD n 0 ∧ x.getD n 0 ≤ hi) && (decide (n = 0) || decide (x.getD (n - 1) 0 < x.getD n 0)) && ascB x lo hi d (n + 1)
theorem impl_asc_loop (x : List Int) (hb : x.length ≤ 140737488355328) (lo hi : Int) : ∀ (d n k : Nat), n ≤ x.length → x.length - n = d → d < k → impl_ascend.l0 k x lo hi x (x.length : Int) (n : Int) = some (ascB x lo hi d n) := by
  intro d
  induction d with
  | zero =>
    intro n k h1 h2 hk
    obtain ⟨k, rfl⟩ : ∃ m, k = m + 1 := ⟨k - 1, by omega⟩
    simp only [impl_ascend.l0, ascB]
    rw [if_neg (by omega)]
  | succ d ih =>
    intro n k h1 h2 hk
    obtain ⟨k, rfl⟩ : ∃ m, k = m + 1 := ⟨k - 1, by omega⟩
    simp only [impl_ascend.l0, ascB, within_eq, Option.bind_some]
    rw [if_pos (by omega), if_pos (by omega), if_pos (by omega), rd_nat, wrap_next (by omega), ih (n + 1) k (by omega) (by omega) (by omega)]
    by_cases c1 : lo ≤ x.getD n 0 ∧ x.getD n 0 ≤ hi
    · rw [if_pos (decide_eq_true c1), decide_eq_true c1, Bool.true_and]
      by_cases h0 : n = 0
      · rw [if_neg (by omega), decide_eq_true h0, Bool.true_or, Bool.true_and]
      · have e : wrap64 ((n : Int) - 1) = ((n - 1 : Nat) : Int) := by rw [w64 (by omega) (by omega)]; omega
        rw [if_pos (by omega), e, if_pos (by omega), if_pos (by omega), rd_nat, decide_eq_false h0, Bool.false_or]
        by_cases c2 : x.getD (n - 1) 0 < x.getD n 0
        · rw [if_neg (by omega), decide_eq_true c2, Bool.true_and]
        · rw [if_pos (by omega), decide_eq_false c2, Bool.false_and]
    · rw [if_neg (by simpa using c1), decide_eq_false c1, Bool.false_and, Bool.false_and]
theorem impl_ascend_eq (x : List Int) (hb : x.length ≤ 140737488355328) (lo hi : Int) (k : Nat) (hk : x.length < k) : impl_ascend.f k x lo hi = some (ascB x lo hi x.length 0) := by
  unfold impl_ascend.f
  exact impl_asc_loop x hb lo hi x.length 0 k (by omega) (by omega) hk
def mixB (s b : List Int) : Bool := ascB s 0 48 s.length 0 && ascB b 1 24 b.length 0 && (decide (1 ≤ (s.length : Int) ∧ (s.length : Int) ≤ 5) && decide ((b.length : Int) ≤ 4))
theorem impl_MixtureOk_eq (s b : List Int) (hs : s.length ≤ 140737488355328) (hb : b.length ≤ 140737488355328) (k : Nat) (hk : s.length < k) (hk2 : b.length < k) : impl_MixtureOk.f k s b = some (mixB s b) := by
  unfold impl_MixtureOk.f mixB
  simp only [within_eq, Option.bind_some]
  rw [impl_ascend_eq s hs 0 48 k hk, impl_ascend_eq b hb 1 24 k hk2]
  simp only [Option.bind_some]
  by_cases c1 : 1 ≤ (s.length : Int) ∧ (s.length : Int) ≤ 5
  · rw [if_pos (decide_eq_true c1), decide_eq_true c1]
    cases ascB s 0 48 s.length 0
    · simp
    · by_cases c2 : (b.length : Int) ≤ 4
      · rw [if_pos rfl, if_pos c2, decide_eq_true c2]; simp
      · rw [if_pos rfl, if_neg c2, decide_eq_false c2]; simp
  · rw [if_neg (by simpa using c1), decide_eq_false c1]; simp
theorem impl_hasInt_loop (a : Int) (x : List Int) (hb : x.length ≤ 140737488355328) : ∀ (d n k : Nat), n ≤ x.length → x.length - n = d → d < k → impl_hasInt.l0 k a x (x.length : Int) (n : Int) = some (decide (a ∈ x.drop n)) := by
  intro d
  induction d with
  | zero =>
    intro n k h1 h2 hk
    obtain ⟨k, rfl⟩ : ∃ m, k = m + 1 := ⟨k - 1, by omega⟩
    simp only [impl_hasInt.l0]
    rw [if_neg (by omega), List.drop_of_length_le (by omega)]
    simp
  | succ d ih =>
    intro n k h1 h2 hk
    obtain ⟨k, rfl⟩ : ∃ m, k = m + 1 := ⟨k - 1, by omega⟩
    simp only [impl_hasInt.l0]
    rw [if_pos (by omega), if_pos (by omega), if_pos (by omega), rd_nat, wrap_next (by omega), ih (n + 1) k (by omega) (by omega) (by omega), drop_getD x 0 n (by omega)]
    by_cases e : x.getD n 0 = a
    · rw [if_pos e, decide_eq_true (by rw [e]; exact List.mem_cons_self)]
    · rw [if_neg e]
      congr 1
      rw [decide_eq_decide]
      constructor
      · exact fun h => List.mem_cons_of_mem _ h
      · intro h
        rcases List.mem_cons.1 h with h | h
        · exact absurd h.symm e
        · exact h
theorem impl_hasInt_eq (x : List Int) (hb : x.length ≤ 140737488355328) (a : Int) (k : Nat) (hk : x.length < k) : impl_hasInt.f k x a = some (decide (a ∈ x)) := by
  unfold impl_hasInt.f
  have h := impl_hasInt_loop a x hb x.length 0 k (by omega) (by omega) hk
  simpa using h
theorem impl_BreakAt_eq (s b : List Int) (hs : s.length ≤ 140737488355328) (hb : b.length ≤ 140737488355328) (a : Int) (k : Nat) (hk : s.length < k) (hk2 : b.length < k) : impl_BreakAt.f k s b a = some (mixB s b && decide (a ∈ b)) := by
  unfold impl_BreakAt.f
  rw [impl_MixtureOk_eq s b hs hb k hk hk2]
  simp only [Option.bind_some]
  cases mixB s b
  · simp
  · rw [if_pos rfl, impl_hasInt_eq b hb a k hk2]; simp
theorem ascB_facts (x : List Int) (lo hi : Int) : ∀ (d n : Nat), ascB x lo hi d n = true ↔ ∀ i, n ≤ i → i < n + d → (lo ≤ x.getD i 0 ∧ x.getD i 0 ≤ hi) ∧ (i = 0 ∨ x.getD (i - 1) 0 < x.getD i 0) := by
  intro d
  induction d with
  | zero => intro n; simp only [ascB, true_iff]; intro i h1 h2; omega
  | succ d ih =>
    intro n
    simp only [ascB, Bool.and_eq_true, Bool.or_eq_true, decide_eq_true_eq, ih]
    constructor
    · rintro ⟨⟨h1, h2⟩, h3⟩ i hi hj
      by_cases e : i = n
      · subst e; exact ⟨h1, h2⟩
      · exact h3 i (by omega) (by omega)
    · intro h
      exact ⟨h n (by omega) (by omega), fun i hi hj => h i (by omega) (by omega)⟩
theorem ascB_iff (x : List Int) (lo hi : Int) : ascB x lo hi x.length 0 = true ↔ (∀ y ∈ x, lo ≤ y ∧ y ≤ hi) ∧ x.Pairwise (· < ·) := by
  have hg : ∀ i, (h : i < x.length) → x.getD i 0 = x[i] := fun i h => by rw [List.getD_eq_getElem?_getD, List.getElem?_eq_getElem h]; rfl
  rw [ascB_facts]
  constructor
  · intro h
    refine ⟨fun y hy => ?_, ?_⟩
    · obtain ⟨i, hi, rfl⟩ := List.getElem_of_mem hy
      rw [← hg i hi]
      exact (h i (by omega) (by omega)).1
    · rw [List.pairwise_iff_getElem]
      intro i j hi hj hij
      have : ∀ (d : Nat), ∀ (hd : i + d + 1 < x.length), x[i] < x[i + d + 1] := by
        intro d
        induction d with
        | zero =>
          intro hd
          have := (h (i + 1) (by omega) (by omega)).2
          rw [hg (i + 1) (by omega)] at this
          simp only [Nat.add_sub_cancel] at this
          rw [hg i hi] at this
          rcases this with e | e
          · omega
          · exact e
        | succ d ihd =>
          intro hd
          have h1 := ihd (by omega)
          have := (h (i + d + 1 + 1) (by omega) (by omega)).2
          rw [hg (i + d + 1 + 1) (by omega)] at this
          simp only [Nat.add_sub_cancel] at this
          rw [hg (i + d + 1) (by omega)] at this
          rcases this with e | e
          · omega
          · exact Int.lt_trans h1 e
      have e : j = i + (j - i - 1) + 1 := by omega
      have := this (j - i - 1) (by omega)
      simp only [← e] at this
      exact this
  · rintro ⟨h1, h2⟩ i _ hi
    have hi' : i < x.length := by omega
    refine ⟨by rw [hg i hi']; exact h1 _ (List.getElem_mem hi'), ?_⟩
    by_cases h0 : i = 0
    · exact .inl h0
    · refine .inr ?_
      rw [hg i hi', hg (i - 1) (by omega)]
      exact (List.pairwise_iff_getElem.1 h2) (i - 1) i (by omega) hi' (by omega)
theorem mixB_iff (s b : List Int) : mixB s b = true ↔ ((∀ y ∈ s, 0 ≤ y ∧ y ≤ 48) ∧ s.Pairwise (· < ·)) ∧ ((∀ y ∈ b, 1 ≤ y ∧ y ≤ 24) ∧ b.Pairwise (· < ·)) ∧ (1 ≤ (s.length : Int) ∧ (s.length : Int) ≤ 5) ∧ (b.length : Int) ≤ 4 := by
  unfold mixB
  simp only [Bool.and_eq_true, ascB_iff, decide_eq_true_eq, and_assoc]
def lowB : List Int → Int → Int
  | [], _ => 0
  | b :: bs, key => (if b ≤ key then 12 else 0) + lowB bs key
theorem lowB_bd : ∀ (b : List Int) (key : Int), 0 ≤ lowB b key ∧ lowB b key ≤ 12 * (b.length : Int) := by
  intro b
  induction b with
  | nil => intro key; simp [lowB]
  | cons x b ih => intro key; have := ih key; simp only [lowB, List.length_cons]; split <;> omega
def soundsL (s b : List Int) (key : Int) : List Int := s.map fun x => key + x - lowB b key
theorem soundsL_length (s b : List Int) (key : Int) : (soundsL s b key).length = s.length := by simp [soundsL]
theorem impl_sounds_loop1 (s : List Int) (key low : Int) (hk0 : 0 ≤ key ∧ key ≤ 24) (hl : 0 ≤ low ∧ low ≤ 48) (hs : ∀ y ∈ s, 0 ≤ y ∧ y ≤ 48) (h5 : s.length ≤ 5) : ∀ (d n k : Nat) (acc : List Int), n ≤ s.length → s.length - n = d → d < k → acc.length ≤ n →
    impl_SoundsAt.l1 k key low acc s (s.length : Int) (n : Int) = some (acc ++ (s.drop n).map fun x => key + x - low) := by
  intro d
  induction d with
  | zero =>
    intro n k acc h1 h2 hk ha
    obtain ⟨k, rfl⟩ : ∃ m, k = m + 1 := ⟨k - 1, by omega⟩
    simp only [impl_SoundsAt.l1]
    rw [if_neg (by omega), List.drop_of_length_le (by omega)]
    simp
  | succ d ih =>
    intro n k acc h1 h2 hk ha
    obtain ⟨k, rfl⟩ : ∃ m, k = m + 1 := ⟨k - 1, by omega⟩
    have hlt : n < s.length := by omega
    have hmem := hs (s.getD n 0) (by rw [List.getD_eq_getElem?_getD, List.getElem?_eq_getElem hlt]; exact List.getElem_mem _)
    simp only [impl_SoundsAt.l1]
    rw [if_pos (by omega), if_pos (by omega), if_pos (by omega), if_pos (by omega), rd_nat, wrap_next (by omega), w64 (n := key + s.getD n 0) (by omega) (by omega), w64 (n := key + s.getD n 0 - low) (by omega) (by omega)]
    rw [ih (n + 1) k _ (by omega) (by omega) (by omega) (by simp; omega), drop_getD s 0 n hlt]
    simp only [List.map_cons, List.append_assoc, List.cons_append, List.nil_append]
theorem impl_sounds_loop0 (s b : List Int) (key : Int) (h4 : b.length ≤ 4) : ∀ (d n k : Nat) (low : Int), n ≤ b.length → b.length - n = d → d < k → 0 ≤ low → low ≤ 12 * (n : Int) →
    impl_SoundsAt.l0 k key low b (b.length : Int) (n : Int) s b = impl_SoundsAt.l1 (k - d - 1) key (low + lowB (b.drop n) key) [] s (s.length : Int) 0 := by
  intro d
  induction d with
  | zero =>
    intro n k low h1 h2 hk hl hl2
    obtain ⟨k, rfl⟩ : ∃ m, k = m + 1 := ⟨k - 1, by omega⟩
    simp only [impl_SoundsAt.l0]
    rw [if_neg (by omega), List.drop_of_length_le (by omega)]
    simp [lowB]
  | succ d ih =>
    intro n k low h1 h2 hk hl hl2
    obtain ⟨k, rfl⟩ : ∃ m, k = m + 1 := ⟨k - 1, by omega⟩
    have e : k + 1 - (d + 1) - 1 = k - d - 1 := by omega
    simp only [impl_SoundsAt.l0]
    rw [if_pos (by omega), if_pos (by omega), if_pos (by omega), rd_nat, wrap_next (by omega), w64 (n := low + 12) (by omega) (by omega), drop_getD b 0 n (by omega), e]
    simp only [lowB]
    by_cases c : b.getD n 0 ≤ key
    · rw [if_pos c, if_pos c, ih (n + 1) k (low + 12) (by omega) (by omega) (by omega) (by omega) (by omega)]
      rw [Int.add_assoc]
    · rw [if_neg c, if_neg c, ih (n + 1) k low (by omega) (by omega) (by omega) (by omega) (by omega)]
      rw [Int.zero_add]
theorem impl_SoundsAt_yes {s b : List Int} {key : Int} (h : mixB s b = true) (hkey : 0 ≤ key ∧ key ≤ 24) (k : Nat) (hk : 30 < k) : impl_SoundsAt.f k s b key = some (soundsL s b key) := by
  obtain ⟨⟨hs, _⟩, ⟨hb, _⟩, h5, h4⟩ := (mixB_iff s b).1 h
  obtain ⟨k, rfl⟩ : ∃ m, k = m + 1 := ⟨k - 1, by omega⟩
  unfold impl_SoundsAt.f
  rw [impl_MixtureOk_eq s b (by omega) (by omega) (k + 1) (by omega) (by omega), h]
  simp only [Option.bind_some, if_true, within_eq]
  rw [decide_eq_true hkey, impl_SoundsAt.j0, if_neg (by decide)]
  have e0 := impl_sounds_loop0 s b key (by omega) b.length 0 k 0 (by omega) (by omega) (by omega) (by omega) (by omega)
  have hl := lowB_bd b key
  have e1 := impl_sounds_loop1 s key (lowB b key) hkey (by omega) hs (by omega) s.length 0 (k - b.length - 1) [] (by omega) (by omega) (by omega) (by simp)
  simp only [Int.natCast_zero, List.drop_zero, Int.zero_add, List.nil_append] at e0 e1
  rw [e0, e1]
  rfl
theorem impl_SoundsAt_no {s b : List Int} {key : Int} (hs : s.length ≤ 140737488355328) (hb : b.length ≤ 140737488355328) (h : ¬ (mixB s b = true ∧ (0 ≤ key ∧ key ≤ 24))) (k : Nat) (hk : s.length + 1 < k) (hk2 : b.length + 1 < k) : impl_SoundsAt.f k s b key = some [] := by
  obtain ⟨k, rfl⟩ : ∃ m, k = m + 1 := ⟨k - 1, by omega⟩
  unfold impl_SoundsAt.f
  rw [impl_MixtureOk_eq s b (by omega) (by omega) (k + 1) (by omega) (by omega)]
  simp only [Option.bind_some, within_eq]
  by_cases h1 : mixB s b = true
  · rw [if_pos h1, decide_eq_false (fun h2 => h ⟨h1, h2⟩), impl_SoundsAt.j0, if_pos (by decide)]
  · rw [if_neg h1, impl_SoundsAt.j0, if_pos rfl]
theorem mx_le {a b c : Int} : mx a b ≤ c ↔ a ≤ c ∧ b ≤ c := by unfold mx; split <;> omega
theorem le_mx (a b : Int) : a ≤ mx a b ∧ b ≤ mx a b ∧ (mx a b = a ∨ mx a b = b) := by unfold mx; split <;> omega
/-- the greatest of the keys from key on -/
def highL (s b : List Int) : Nat → Int → Int → Int
  | 0, _, acc => acc
  | d + 1, key, acc => highL s b d (key + 1) ((soundsL s b key).foldl mx acc)
theorem foldl_mx_ge : ∀ (l : List Int) (acc : Int), acc ≤ l.foldl mx acc ∧ ∀ y ∈ l, y ≤ l.foldl mx acc := by
  intro l
  induction l with
  | nil => intro acc; simp
  | cons x l ih =>
    intro acc
    have h := ih (mx acc x)
    have h2 := le_mx acc x
    rw [List.foldl_cons]
    refine ⟨by omega, fun y hy => ?_⟩
    rcases List.mem_cons.1 hy with e | e
    · rw [e]; omega
    · exact h.2 y e
theorem highL_ge (s b : List Int) : ∀ (d : Nat) (key acc : Int), acc ≤ highL s b d key acc ∧ ∀ j y, key ≤ j → j < key + d → y ∈ soundsL s b j → y ≤ highL s b d key acc := by
  intro d
  induction d with
  | zero => intro key acc; exact ⟨Int.le_refl _, fun j y h1 h2 => by omega⟩
  | succ d ih =>
    intro key acc
    have h := ih (key + 1) ((soundsL s b key).foldl mx acc)
    have h2 := foldl_mx_ge (soundsL s b key) acc
    simp only [highL]
    refine ⟨by omega, fun j y h3 h4 hy => ?_⟩
    by_cases e : j = key
    · subst e; have := h2.2 y hy; omega
    · exact h.2 j y (by omega) (by omega) hy
theorem impl_high_loop1 (s b x : List Int) (key : Int) (hx : x.length ≤ 5) : ∀ (d n k : Nat) (acc : Int), n ≤ x.length → x.length - n = d → d < k →
    impl_HighestSound.l1 k acc key x (x.length : Int) (n : Int) s b = impl_HighestSound.l0 (k - d - 1) ((x.drop n).foldl mx acc) (wrap64 (key + 1)) s b := by
  intro d
  induction d with
  | zero =>
    intro n k acc h1 h2 hk
    obtain ⟨k, rfl⟩ : ∃ m, k = m + 1 := ⟨k - 1, by omega⟩
    simp only [impl_HighestSound.l1]
    rw [if_neg (by omega), List.drop_of_length_le (by omega)]
    rfl
  | succ d ih =>
    intro n k acc h1 h2 hk
    obtain ⟨k, rfl⟩ : ∃ m, k = m + 1 := ⟨k - 1, by omega⟩
    have e : k + 1 - (d + 1) - 1 = k - d - 1 := by omega
    simp only [impl_HighestSound.l1]
    rw [if_pos (by omega), if_pos (by omega), if_pos (by omega), rd_nat, wrap_next (by omega), ih (n + 1) k _ (by omega) (by omega) (by omega), drop_getD x 0 n (by omega), e, List.foldl_cons]
theorem impl_high_loop0 {s b : List Int} (h : mixB s b = true) : ∀ (d k : Nat) (key acc : Int), key = 25 - d → 0 ≤ key → 7 * d + 40 < k → impl_HighestSound.l0 k acc key s b = some (highL s b d key acc) := by
  have h5 : s.length ≤ 5 := by have := (mixB_iff s b).1 h; omega
  intro d
  induction d with
  | zero =>
    intro k key acc h1 h0 hk
    obtain ⟨k, rfl⟩ : ∃ m, k = m + 1 := ⟨k - 1, by omega⟩
    simp only [impl_HighestSound.l0, highL]
    rw [if_neg (by omega)]
  | succ d ih =>
    intro k key acc h1 h0 hk
    obtain ⟨k, rfl⟩ : ∃ m, k = m + 1 := ⟨k - 1, by omega⟩
    simp only [impl_HighestSound.l0, highL]
    rw [if_pos (by omega), impl_SoundsAt_yes h (by omega) k (by omega)]
    simp only [Option.bind_some]
    have hl := soundsL_length s b key
    have e := impl_high_loop1 s b (soundsL s b key) key (by omega) s.length 0 k acc (by omega) (by omega) (by omega)
    simp only [Int.natCast_zero, List.drop_zero] at e
    rw [e, w64 (n := key + 1) (by omega) (by omega)]
    exact ih _ (key + 1) _ (by omega) (by omega) (by omega)
def high (s b : List Int) : Int := highL s b 25 0 ((soundsL s b 0).getD 0 0)
theorem impl_HighestSound_yes {s b : List Int} (h : mixB s b = true) (k : Nat) (hk : 300 < k) : impl_HighestSound.f k s b = some (high s b) := by
  have h5 := (mixB_iff s b).1 h
  have hl := soundsL_length s b 0
  unfold impl_HighestSound.f
  rw [impl_MixtureOk_eq s b (by omega) (by omega) k (by omega) (by omega), h]
  simp only [Option.bind_some, if_true]
  rw [impl_SoundsAt_yes h (by omega) k (by omega)]
  simp only [Option.bind_some]
  rw [if_pos (by omega)]
  exact impl_high_loop0 h 25 k 0 _ (by omega) (by omega) (by omega)
theorem impl_HighestSound_no {s b : List Int} (hs : s.length ≤ 140737488355328) (hb : b.length ≤ 140737488355328) (h : mixB s b = false) (k : Nat) (hk : s.length < k) (hk2 : b.length < k) : impl_HighestSound.f k s b = some 0 := by
  unfold impl_HighestSound.f
  rw [impl_MixtureOk_eq s b (by omega) (by omega) k (by omega) (by omega), h]
  simp
theorem impl_IsBelow_yes {s b : List Int} (h : mixB s b = true) (m : Int) (k : Nat) (hk : 300 < k) : impl_IsBelow.f k s b m = some (decide (high s b ≤ m)) := by
  have h5 := (mixB_iff s b).1 h
  unfold impl_IsBelow.f
  rw [impl_MixtureOk_eq s b (by omega) (by omega) k (by omega) (by omega), h, impl_HighestSound_yes h k hk]
  simp
theorem lowB_next : ∀ (b : List Int) (key : Int), b.Pairwise (· < ·) → lowB b (key + 1) = lowB b key + 12 * (if key + 1 ∈ b then 1 else 0) := by
  intro b
  induction b with
  | nil => intro key _; simp [lowB]
  | cons x b ih =>
    intro key hp
    obtain ⟨h1, h2⟩ := List.pairwise_cons.1 hp
    have := ih key h2
    simp only [lowB]
    rw [this]
    by_cases e : x = key + 1
    · have hn : ¬ key + 1 ∈ b := fun hm => by have := h1 _ hm; omega
      have hy : key + 1 ∈ x :: b := by rw [e]; exact List.mem_cons_self
      rw [if_pos (show x ≤ key + 1 by omega), if_neg (show ¬ x ≤ key by omega), if_neg hn, if_pos hy]; omega
    · by_cases hb : key + 1 ∈ b
      · rw [if_pos hb, if_pos (List.mem_cons_of_mem _ hb)]
        split <;> split <;> omega
      · have hn : ¬ key + 1 ∈ x :: b := fun hm => by
          rcases List.mem_cons.1 hm with h | h
          · exact e h.symm
          · exact hb h
        rw [if_neg hb, if_neg hn]
        split <;> split <;> omega
/-- the drawn lists: below x, ascending, from lo on -/
abbrev Below' (l : List Int) (lo x : Int) : Prop := (∀ y ∈ l, lo ≤ y ∧ y < x) ∧ l.Pairwise (· < ·)
theorem Below'.snoc {l : List Int} {lo x z : Int} (h : Below' l lo x) (h0 : lo ≤ x) (hz : x < z) : Below' (l ++ [x]) lo z := by
  refine ⟨fun y hy => ?_, ?_⟩
  · rcases List.mem_append.1 hy with h1 | h1
    · have := h.1 y h1; omega
    · have : y = x := by simpa using h1
      omega
  · rw [List.pairwise_append]
    refine ⟨h.2, by simp, fun a ha c hc => ?_⟩
    have : c = x := by simpa using hc
    have := (h.1 a ha).2
    omega
theorem mixDraw_loop1 (l : List Int) (s : List Int) : ∀ (d k : Nat) (n x i h : Int) (j : Int) (acc : List Int), j = n - d → 0 ≤ j → n ≤ 2 → d < k → Cur l i → Below' acc 1 x → 1 ≤ x → x ≤ 8 + 8 * j → (acc.length : Int) = j →
    ∃ b i' h', spec_l29Mixture.l1 k n x j l i h s acc = some (s, b, i', h') ∧ Cur l i' ∧ Below' b 1 25 ∧ (b.length : Int) = n := by
  intro d
  induction d with
  | zero =>
    intro k n x i h j acc hj h0 h2 hk hc hb hx hx2 ha
    obtain ⟨k, rfl⟩ : ∃ m, k = m + 1 := ⟨k - 1, by omega⟩
    refine ⟨acc, i, h, ?_, hc, ⟨fun y hy => ?_, hb.2⟩, by omega⟩
    · simp only [spec_l29Mixture.l1]
      rw [if_neg (by omega)]
    · have := hb.1 y hy; omega
  | succ d ih =>
    intro k n x i h j acc hj h0 h2 hk hc hb hx hx2 ha
    obtain ⟨k, rfl⟩ : ∃ m, k = m + 1 := ⟨k - 1, by omega⟩
    obtain ⟨y, i1, h1, e1, y0, y1, c1⟩ := below_some l i h 7 hc (by omega) (by omega)
    have hs := hb.snoc (show (1 : Int) ≤ x by omega) (show x < x + 1 + y by omega)
    obtain ⟨b, i', h', e, hr⟩ := ih k n (x + 1 + y) i1 h1 (j + 1) (acc ++ [x]) (by omega) (by omega) h2 (by omega) c1 hs (by omega) (by omega) (by simp; omega)
    refine ⟨b, i', h', ?_, hr⟩
    simp only [spec_l29Mixture.l1]
    rw [if_pos (by omega), if_pos (by omega), e1]
    simp only [Option.bind_some]
    rw [w64 (n := x + 1) (by omega) (by omega), w64 (n := x + 1 + y) (by omega) (by omega), w64 (n := j + 1) (by omega) (by omega)]
    exact e
theorem mixDraw_loop0 (l : List Int) : ∀ (d k : Nat) (n x i h : Int) (j : Int) (acc : List Int), j = n - d → 0 ≤ j → 1 ≤ n → n ≤ 4 → d + 5 < k → Cur l i → Below' acc 0 x → 0 ≤ x → x ≤ 12 + 8 * j → (acc.length : Int) = j →
    ∃ s b i' h', spec_l29Mixture.l0 k x n j l i h acc = some (s, b, i', h') ∧ Cur l i' ∧ mixB s b = true := by
  intro d
  induction d with
  | zero =>
    intro k n x i h j acc hj h0 hn1 hn hk hc hb hx hx2 ha
    obtain ⟨k, rfl⟩ : ∃ m, k = m + 1 := ⟨k - 1, by omega⟩
    obtain ⟨y, i1, h1, e1, y0, y1, c1⟩ := below_some l i h 8 hc (by omega) (by omega)
    obtain ⟨z, i2, h2, e2, z0, z1, c2⟩ := below_some l i1 h1 3 c1 (by omega) (by omega)
    obtain ⟨b, i', h', e, hc', hb', hl'⟩ := mixDraw_loop1 l acc z.toNat k z (1 + y) i2 h2 0 [] (by omega) (by omega) (by omega) (by omega) c2 ⟨by simp, by simp⟩ (by omega) (by omega) (by simp)
    refine ⟨acc, b, i', h', ?_, hc', ?_⟩
    · simp only [spec_l29Mixture.l0]
      rw [if_neg (by omega), e1]
      simp only [Option.bind_some]
      rw [e2]
      simp only [Option.bind_some]
      rw [w64 (n := 1 + y) (by omega) (by omega)]
      exact e
    · rw [mixB_iff]
      exact ⟨⟨fun y hy => by have := hb.1 y hy; omega, hb.2⟩, ⟨fun y hy => by have := hb'.1 y hy; omega, hb'.2⟩, by omega, by omega⟩
  | succ d ih =>
    intro k n x i h j acc hj h0 hn1 hn hk hc hb hx hx2 ha
    obtain ⟨k, rfl⟩ : ∃ m, k = m + 1 := ⟨k - 1, by omega⟩
    obtain ⟨y, i1, h1, e1, y0, y1, c1⟩ := below_some l i h 8 hc (by omega) (by omega)
    have hs := hb.snoc (show (0 : Int) ≤ x by omega) (show x < x + 1 + y by omega)
    obtain ⟨s, b, i', h', e, hr⟩ := ih k n (x + 1 + y) i1 h1 (j + 1) (acc ++ [x]) (by omega) (by omega) hn1 hn (by omega) c1 hs (by omega) (by omega) (by simp; omega)
    refine ⟨s, b, i', h', ?_, hr⟩
    simp only [spec_l29Mixture.l0]
    rw [if_pos (by omega), if_pos (by omega), e1]
    simp only [Option.bind_some]
    rw [w64 (n := x + 1) (by omega) (by omega), w64 (n := x + 1 + y) (by omega) (by omega), w64 (n := j + 1) (by omega) (by omega)]
    exact e
theorem drawMixture_some (l : List Int) (hl : (l.length : Int) ≤ 140737488351232) (k : Nat) (hk : 4000 < k) : ∃ s b key, spec_DrawMixture.f k l = some (s, b, key) ∧ mixB s b = true ∧ 0 ≤ key ∧ key ≤ 24 := by
  obtain ⟨h, e0⟩ := new_some l hl k hk
  have c0 : Cur l 0 := ⟨by omega, by omega, hl⟩
  obtain ⟨x, i1, h1, e1, x0, x1, c1⟩ := below_some l 0 h 13 c0 (by omega) (by omega)
  obtain ⟨y, i2, h2, e2, y0, y1, c2⟩ := below_some l i1 h1 4 c1 (by omega) (by omega)
  obtain ⟨s, b, i3, h3, e3, c3, hm⟩ := mixDraw_loop0 l (1 + y).toNat k (1 + y) x i2 h2 0 [] (by omega) (by omega) (by omega) (by omega) (by omega) c2 ⟨by simp, by simp⟩ (by omega) (by omega) (by simp)
  obtain ⟨z, i4, h4, e4, z0, z1, c4⟩ := below_some l i3 h3 25 c3 (by omega) (by omega)
  refine ⟨s, b, z, ?_, hm, by omega, by omega⟩
  unfold spec_DrawMixture.f
  rw [e0]; simp only [Option.bind_some]
  unfold spec_l29Mixture.f
  rw [e1]; simp only [Option.bind_some]
  rw [e2]; simp only [Option.bind_some]
  rw [w64 (n := 1 + y) (by omega) (by omega), e3]; simp only [Option.bind_some]
  rw [e4]; simp only [Option.bind_some]
theorem sounds_get (s b : List Int) (key : Int) (n : Nat) (h : n < s.length) : (soundsL s b key).getD n 0 = key + s.getD n 0 - lowB b key := by
  unfold soundsL
  rw [List.getD_eq_getElem?_getD, List.getElem?_eq_getElem (by simpa using h), List.getD_eq_getElem?_getD, List.getElem?_eq_getElem h]
  simp
theorem mixLaw_loop {s b : List Int} {key : Int} (h : mixB s b = true) (hkey : 0 ≤ key ∧ key < 24) : ∀ (d n k : Nat), n ≤ s.length → s.length - n = d → d + 100 < k →
    laws_FnMixtures.l0 k key (soundsL s b key) (high s b) (soundsL s b (key + 1)) (n : Int) s b = some true := by
  have hm := (mixB_iff s b).1 h
  have hl1 := soundsL_length s b key
  have hl2 := soundsL_length s b (key + 1)
  intro d
  induction d with
  | zero =>
    intro n k h1 h2 hk
    obtain ⟨k, rfl⟩ : ∃ m, k = m + 1 := ⟨k - 1, by omega⟩
    simp only [laws_FnMixtures.l0]
    rw [if_neg (by omega)]
  | succ d ih =>
    intro n k h1 h2 hk
    obtain ⟨k, rfl⟩ : ∃ m, k = m + 1 := ⟨k - 1, by omega⟩
    have hlt : n < s.length := by omega
    have hy := hm.1.1 (s.getD n 0) (by rw [List.getD_eq_getElem?_getD, List.getElem?_eq_getElem hlt]; exact List.getElem_mem _)
    have hlow := lowB_bd b key
    have hlow2 := lowB_bd b (key + 1)
    have hnext := lowB_next b key hm.2.1.2
    simp only [laws_FnMixtures.l0]
    rw [if_pos (by omega), if_pos (by omega), if_pos (by omega), w64 (n := key + 1) (by omega) (by omega), impl_BreakAt_eq s b (by omega) (by omega) (key + 1) k (by omega) (by omega), h]
    simp only [Option.bind_some, laws_btoi.f, Bool.true_and]
    rw [rd_nat, rd_nat, sounds_get s b (key + 1) n hlt, sounds_get s b key n hlt]
    have hhigh : key + s.getD n 0 - lowB b key ≤ high s b := by
      refine (highL_ge s b 25 0 _).2 key _ hkey.1 (by omega) ?_
      rw [← sounds_get s b key n hlt, List.getD_eq_getElem?_getD, List.getElem?_eq_getElem (by omega)]
      exact List.getElem_mem _
    by_cases hbk : key + 1 ∈ b
    · rw [if_pos (decide_eq_true hbk)]
      simp only [Option.bind_some]
      rw [if_pos hbk] at hnext
      rw [w64 (n := key + 1 + s.getD n 0 - lowB b (key + 1) - (key + s.getD n 0 - lowB b key)) (by omega) (by omega), w64 (n := 12 * 1) (by omega) (by omega), w64 (n := 1 - 12 * 1) (by omega) (by omega), if_pos (by omega), if_neg (by omega), wrap_next (by omega)]
      exact ih (n + 1) k (by omega) (by omega) (by omega)
    · rw [if_neg (by simpa using hbk)]
      simp only [Option.bind_some]
      rw [if_neg hbk] at hnext
      rw [w64 (n := key + 1 + s.getD n 0 - lowB b (key + 1) - (key + s.getD n 0 - lowB b key)) (by omega) (by omega), w64 (n := 12 * 0) (by omega) (by omega), w64 (n := 1 - 12 * 0) (by omega) (by omega), if_pos (by omega), if_neg (by omega), wrap_next (by omega)]
      exact ih (n + 1) k (by omega) (by omega) (by omega)
theorem highL_bd (s b : List Int) (hs : ∀ y ∈ s, 0 ≤ y ∧ y ≤ 48) (hb : (b.length : Int) ≤ 4) : ∀ (d : Nat) (key acc : Int), 0 ≤ key → key + d ≤ 25 → -100 ≤ acc → acc ≤ 100 → -100 ≤ highL s b d key acc ∧ highL s b d key acc ≤ 100 := by
  intro d
  induction d with
  | zero => intro key acc _ _ h1 h2; exact ⟨h1, h2⟩
  | succ d ih =>
    intro key acc h0 hk h1 h2
    simp only [highL]
    have hf : ∀ (l : List Int) (a : Int), (∀ y ∈ l, -100 ≤ y ∧ y ≤ 100) → -100 ≤ a → a ≤ 100 → -100 ≤ l.foldl mx a ∧ l.foldl mx a ≤ 100 := by
      intro l
      induction l with
      | nil => intro a _ h1 h2; exact ⟨h1, h2⟩
      | cons x l ihl =>
        intro a hl h1 h2
        rw [List.foldl_cons]
        have := le_mx a x
        have hx := hl x List.mem_cons_self
        exact ihl _ (fun y hy => hl y (List.mem_cons_of_mem _ hy)) (by omega) (by omega)
    have := hf (soundsL s b key) acc (fun y hy => by
      obtain ⟨x, hx, rfl⟩ := List.mem_map.1 hy
      have := hs x hx
      have := lowB_bd b key
      omega) h1 h2
    exact ih (key + 1) _ (by omega) (by omega) this.1 this.2
theorem mixtures_law (l : List Int) (hb : l.length ≤ 1048576) (k : Nat) (hk : 5000 < k) : laws_FnMixtures.f k l = some true := by
  unfold laws_FnMixtures.f
  simp only [laws_big.f, Option.bind_some]
  rw [if_neg (by simp; omega)]
  obtain ⟨s, b, key, e, h, k0, k1⟩ := drawMixture_some l (by omega) k (by omega)
  have hm := (mixB_iff s b).1 h
  rw [e]; simp only [Option.bind_some]
  rw [impl_SoundsAt_yes h ⟨k0, k1⟩ k (by omega)]
  simp only [Option.bind_some]
  have hl1 := soundsL_length s b key
  rw [if_pos (by omega), impl_BreakAt_eq s b (by omega) (by omega) 0 k (by omega) (by omega), h]
  simp only [Option.bind_some, Bool.true_and]
  have h0 : ¬ (0 : Int) ∈ b := fun hh => by have := hm.2.1.1 0 hh; omega
  obtain ⟨k, rfl⟩ : ∃ m, k = m + 1 := ⟨k - 1, by omega⟩
  rw [decide_eq_false h0, laws_FnMixtures.j0]
  simp only [Bool.false_eq_true, if_false]
  rw [impl_HighestSound_yes h k (by omega)]
  simp only [Option.bind_some]
  by_cases h24 : key = 24
  · have hlen0 := soundsL_length s b 0
    have hbd : -100 ≤ high s b ∧ high s b ≤ 100 := by
      have h00 : (soundsL s b 0).getD 0 0 = 0 + s.getD 0 0 - lowB b 0 := sounds_get s b 0 0 (by omega)
      have hy := hm.1.1 (s.getD 0 0) (by rw [List.getD_eq_getElem?_getD, List.getElem?_eq_getElem (by omega)]; exact List.getElem_mem _)
      have hlow := lowB_bd b 0
      exact highL_bd s b hm.1.1 hm.2.2.2 25 0 _ (by omega) (by omega) (by omega) (by omega)
    rw [if_pos h24, impl_IsBelow_yes h _ k (by omega)]
    simp only [Option.bind_some]
    rw [if_pos (by simp), w64 (n := high s b - 1) (by omega) (by omega), impl_IsBelow_yes h _ k (by omega)]
    simp only [Option.bind_some]
    rw [decide_eq_false (by omega)]
    rfl
  · rw [if_neg h24, w64 (n := key + 1) (by omega) (by omega), impl_SoundsAt_yes h (by omega) k (by omega)]
    simp only [Option.bind_some]
    have hl2 := soundsL_length s b (key + 1)
    rw [if_pos (by omega)]
    exact mixLaw_loop h ⟨k0, by omega⟩ s.length 0 k (by omega) (by omega) (by omega)
theorem FnMixtures : laws_FnMixtures.Pure := by
  intro l _ hb _
  obtain ⟨k, hk⟩ : ∃ k : Nat, 5000 < k := ⟨5001, by omega⟩
  refine ⟨k, ?_⟩
  by_cases hl : (l.length : Int) > 1048576
  · unfold laws_FnMixtures.f
    simp only [laws_big.f, Option.bind_some]
    rw [if_pos (decide_eq_true hl)]
  · exact mixtures_law l (by omega) k hk
end Go.Proofs.Ytbimhcdfojbjgab.Pure
