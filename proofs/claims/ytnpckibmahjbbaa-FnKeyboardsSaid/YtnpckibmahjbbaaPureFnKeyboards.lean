/- The plain law of FnKeyboards: the printed function of the law answers true. Its conditions are those of the statement's own bounds. -/
import Derived.Test.YtnpckibmahjbbaaHFnKeyboardsx6
namespace Go.Proofs.Ytnpckibmahjbbaa.Pure
open Go.RowKit Go.Proofs.Ytnpckibmahjbbaa.PFnKeyboards Go.Proofs.YtnpckibmahjbbaaW.PrintWords Go.Proofs.YtnpckibmahjbbaaW.PrintLast Go.Proofs.YtnpckibmahjbbaaW.PrintMore
set_option linter.unusedVariables false
theorem and255 (n : Int) : Go.bits .and .i64 n 255 = n % 256 := by
  have h255 : (BitVec.ofInt 64 255).toNat = 2 ^ 8 - 1 := by decide
  have key : (BitVec.ofInt 64 n &&& BitVec.ofInt 64 255).toNat = (n % ((2 ^ 64 : Nat) : Int)).toNat % 2 ^ 8 := by
    rw [BitVec.toNat_and, BitVec.toNat_ofInt, h255, Nat.and_two_pow_sub_one_eq_mod]
  show IntKind.i64.wrap ((BitVec.ofInt 64 n &&& BitVec.ofInt 64 255).toNat : Nat) = n % 256
  rw [key, IntKind.wrap_i64]
  omega
theorem dw64 {n : Int} (h1 : -9223372036854775808 ≤ n) (h2 : n ≤ 9223372036854775807) : wrap64 n = n := by unfold wrap64; omega
theorem lenb {b : List Int} (hb : b.length * 1 ≤ 140737488351232) : (b.length : Int) ≤ 140737488351232 := by omega
theorem new_loop (l : List Int) (hl : (l.length : Int) ≤ 140737488351232) : ∀ (d k : Nat) (h i : Int), 0 ≤ i → i ≤ 4000 → 4000 - i ≤ d → d < k → ∃ h', spec_l01New.l0 k l h i = some (l, 0, h') := by
  intro d
  induction d with
  | zero =>
    intro k h i h0 h1 hd hk
    obtain ⟨k, rfl⟩ : ∃ m, k = m + 1 := ⟨k - 1, by omega⟩
    refine ⟨h, ?_⟩
    simp only [spec_l01New.l0]
    by_cases hlt : i < (l.length : Int)
    · rw [if_pos hlt, if_neg (by omega)]
    · rw [if_neg hlt]
  | succ d ih =>
    intro k h i h0 h1 hd hk
    obtain ⟨k, rfl⟩ : ∃ m, k = m + 1 := ⟨k - 1, by omega⟩
    by_cases hlt : i < (l.length : Int)
    · by_cases h4 : i < 4000
      · obtain ⟨h', e⟩ := ih k (Go.bits .and .i64 (wrap64 ((wrap64 ((wrap64 (h * 131)) + (wrap64 (rd l i)))) + 7)) 1073741823) (i + 1) (by omega) (by omega) (by omega) (by omega)
        refine ⟨h', ?_⟩
        simp only [spec_l01New.l0]
        rw [if_pos hlt, if_pos h4, if_pos h0, dw64 (n := i + 1) (by omega) (by omega)]
        exact e
      · refine ⟨h, ?_⟩
        simp only [spec_l01New.l0]
        rw [if_pos hlt, if_neg h4]
    · refine ⟨h, ?_⟩
      simp only [spec_l01New.l0]
      rw [if_neg hlt]
theorem new_some (l : List Int) (hl : (l.length : Int) ≤ 140737488351232) (k : Nat) (hk : 4000 < k) : ∃ h, spec_l01New.f k l = some (l, 0, h) := by
  unfold spec_l01New.f
  exact new_loop l hl 4000 k _ 0 (by omega) (by omega) (by omega) hk
/-- the cursor's place is good -/
abbrev Cur (b : List Int) (i : Int) : Prop := 0 ≤ i ∧ i ≤ (b.length : Int) ∧ (b.length : Int) ≤ 140737488351232
theorem byte_some (b : List Int) (i h : Int) (hc : Cur b i) : ∃ x i' h', spec_l01Byte.f b i h = some (x, i', h') ∧ 0 ≤ x ∧ x ≤ 255 ∧ Cur b i' := by
  obtain ⟨h0, h1, h2⟩ := hc
  unfold spec_l01Byte.f
  by_cases hlt : i < (b.length : Int)
  · rw [if_pos hlt, if_pos h0]
    refine ⟨_, _, _, rfl, ?_, ?_, ?_⟩
    · rw [and255]; omega
    · rw [and255]; omega
    · rw [dw64 (n := i + 1) (by omega) (by omega)]; exact ⟨by omega, by omega, h2⟩
  · rw [if_neg hlt]
    refine ⟨_, _, _, rfl, ?_, ?_, ?_⟩
    · rw [and255]; omega
    · rw [and255]; omega
    · exact ⟨h0, h1, h2⟩
theorem tmod_lt {x n : Int} (hx : 0 ≤ x) (hn : 0 < n) : 0 ≤ x.tmod n ∧ x.tmod n < n := by
  rw [Int.tmod_eq_emod_of_nonneg hx]
  exact ⟨Int.emod_nonneg _ (by omega), Int.emod_lt_of_pos _ hn⟩
theorem below_some (b : List Int) (i h n : Int) (hc : Cur b i) (hn : 0 < n) (hn2 : n ≤ 2147483648) :
    ∃ x i' h', spec_l01Below.f b i h n = some (x, i', h') ∧ 0 ≤ x ∧ x < n ∧ Cur b i' := by
  unfold spec_l01Below.f
  rw [if_neg (by omega)]
  by_cases h256 : n ≤ 256
  · rw [if_pos h256]
    obtain ⟨x, i1, h1, e, hx0, hx1, hc1⟩ := byte_some b i h hc
    rw [e]; simp only [Option.bind_some]; rw [if_neg (by omega)]
    obtain ⟨a, c⟩ := tmod_lt (x := x) (n := n) hx0 hn
    exact ⟨_, _, _, rfl, a, c, hc1⟩
  · rw [if_neg h256]
    obtain ⟨x, i1, h1, e1, x0, x1, hc1⟩ := byte_some b i h hc
    rw [e1]; simp only [Option.bind_some]
    obtain ⟨y, i2, h2, e2, y0, y1, hc2⟩ := byte_some b i1 h1 hc1
    rw [e2]; simp only [Option.bind_some]
    obtain ⟨z, i3, h3, e3, z0, z1, hc3⟩ := byte_some b i2 h2 hc2
    rw [e3]; simp only [Option.bind_some]
    obtain ⟨w, i4, h4, e4, w0, w1, hc4⟩ := byte_some b i3 h3 hc3
    rw [e4]; simp only [Option.bind_some]; rw [if_neg (by omega)]
    rw [dw64 (n := x * 16777216) (by omega) (by omega), dw64 (n := y * 65536) (by omega) (by omega), dw64 (n := z * 256) (by omega) (by omega), dw64 (n := x * 16777216 + y * 65536) (by omega) (by omega),
      dw64 (n := x * 16777216 + y * 65536 + z * 256) (by omega) (by omega), dw64 (n := x * 16777216 + y * 65536 + z * 256 + w) (by omega) (by omega)]
    obtain ⟨a, c⟩ := tmod_lt (x := x * 16777216 + y * 65536 + z * 256 + w) (n := n) (by omega) hn
    exact ⟨_, _, _, rfl, a, c, hc4⟩
theorem once_some (b : List Int) (i h n : Int) (hc : Cur b i) (hn : 0 < n) (hn2 : n ≤ 2147483648) :
    ∃ x i' h', spec_l01Once.f b i h n = some (x, i', h') ∧ Cur b i' := by
  unfold spec_l01Once.f
  obtain ⟨x, i1, h1, e, _, _, hc1⟩ := below_some b i h n hc hn hn2
  rw [e]
  exact ⟨_, _, _, rfl, hc1⟩
theorem u8_bd {x : Int} (h : (Lit.int .u8 x).wf = true) : 0 ≤ x ∧ x ≤ 255 := by
  have h' : (decide ((0 : Int) ≤ x) && decide (x ≤ 255)) = true := h
  simp at h'; omega
theorem at_some (l : List Int) (hl : (l.length : Int) ≤ 140737488351232) (hw : ∀ x ∈ l, (Lit.int .u8 x).wf = true) (i : Int) (hi : 0 ≤ i ∧ i ≤ 1000) : ∃ r, laws_at.f l i = some r ∧ 0 ≤ r ∧ r ≤ 255 := by
  unfold laws_at.f
  by_cases h0 : (l.length : Int) = 0
  · rw [if_pos h0]; exact ⟨0, rfl, by omega, by omega⟩
  · rw [if_neg h0, dw64 (n := i * 5) (by omega) (by omega), dw64 (n := i * 5 + 1) (by omega) (by omega)]
    obtain ⟨a, c⟩ := tmod_lt (x := i * 5 + 1) (n := (l.length : Int)) (by omega) (by omega)
    rw [if_pos a, if_pos c]
    have hm : rd l (Int.tmod (i * 5 + 1) (l.length : Int)) ∈ l := by
      unfold rd
      have hx : (Int.tmod (i * 5 + 1) (l.length : Int)).toNat < l.length := by omega
      rw [List.getD_eq_getElem?_getD, List.getElem?_eq_getElem hx]
      exact List.getElem_mem _
    have hb := u8_bd (hw _ hm)
    rw [dw64 (by omega) (by omega)]
    exact ⟨_, rfl, hb.1, hb.2⟩
theorem within_eq (a b c : Int) : impl_within.f a b c = some (decide (b ≤ a ∧ a ≤ c)) := by
  unfold impl_within.f
  by_cases h : b ≤ a
  · rw [if_pos h]; congr 1; by_cases h2 : a ≤ c <;> simp [h2, h]
  · rw [if_neg h]; congr 1; simp; omega
theorem law_of {α : Type} [DecidableEq α] {s i : Option α} {r : α} (hs : s = some r) (hi : i = some r) : (s.bind fun t => i.bind fun u => if u = t then some true else some false) = some true := by
  subst hs hi; simp
theorem law_ofb {s i : Option Bool} {r : Bool} (hs : s = some r) (hi : i = some r) : (s.bind fun t => i.bind fun u => if (u != t) = true then some false else some true) = some true := by
  subst hs hi; simp
theorem wf_i64 {a : Int} (h : (Lit.int .i64 a).wf = true) : -9223372036854775808 ≤ a ∧ a ≤ 9223372036854775807 := by
  have h' : (decide ((-9223372036854775808 : Int) ≤ a) && decide (a ≤ 9223372036854775807)) = true := h
  simp at h'; omega
theorem w64 {n : Int} (h1 : -9223372036854775808 ≤ n) (h2 : n ≤ 9223372036854775807) : wrap64 n = n := by unfold wrap64; omega
theorem mul_bd {a b A B : Int} (h0 : 0 ≤ a) (h1 : a ≤ A) (h2 : 0 ≤ b) (h3 : b ≤ B) : 0 ≤ a * b ∧ a * b ≤ A * B := by
  refine ⟨Int.mul_nonneg h0 h2, ?_⟩
  exact Int.le_trans (Int.mul_le_mul_of_nonneg_right h1 h2) (Int.mul_le_mul_of_nonneg_left h3 (by omega))
theorem tdiv_nn {a b : Int} (h : 0 ≤ a) : a.tdiv b = a / b := Int.tdiv_eq_ediv_of_nonneg h
theorem div_bd {a A c : Int} (h0 : 0 ≤ a) (h1 : a ≤ A) (hc : 0 < c) : 0 ≤ a / c ∧ a / c ≤ A / c :=
  ⟨Int.ediv_nonneg h0 (by omega), Int.ediv_le_ediv hc h1⟩
theorem wrap_next {n : Nat} (h : n ≤ 140737488355328) : wrap64 ((n : Int) + 1) = ((n + 1 : Nat) : Int) := by unfold wrap64; omega
theorem drop_getD {α : Type} (x : List α) (z : α) (n : Nat) (h : n < x.length) : x.drop n = x.getD n z :: x.drop (n + 1) := by
  rw [List.getD_eq_getElem?_getD, List.getElem?_eq_getElem h]
  exact List.drop_eq_getElem_cons h
theorem rd_nat (x : List Int) (n : Nat) : rd x (n : Int) = x.getD n 0 := by unfold rd; rw [Int.toNat_natCast]
theorem take_set_next {α : Type} (x : List α) (n : Nat) (v : α) (h : n < x.length) : (x.set n v).take (n + 1) = x.take n ++ [v] := by
  rw [List.take_succ_eq_append_getElem (by simpa using h)]
  congr 1
  · rw [List.take_set_of_le (Nat.le_refl _)]
  · simp
/-- from place n on: in the range and ascending (the one before counts) -/
def ascB (x : List Int) (lo hi : Int) : Nat → Nat → Bool
  | 0, _ => true
  | d + 1, n => decide (lo ≤ x.getD n 0 ∧ x.getD n 0 ≤ hi) && (decide (n = 0) || decide (x.getD (n - 1) 0 < x.getD n 0)) && ascB x lo hi d (n + 1)
def mixB (s b : List Int) : Bool := ascB s 0 48 s.length 0 && ascB b 1 24 b.length 0 && (decide (1 ≤ (s.length : Int) ∧ (s.length : Int) ≤ 5) && decide ((b.length : Int) ≤ 4))
theorem impl_hasInt_loop (a : Int) (x : List Int) (hb : x.length ≤ 140737488355328) : ∀ (d n k : Nat), n ≤ x.length → x.length - n = d → d < k → impl_hasInt.l0 k a x (x.length : Int) (n : Int) = some (decide (a ∈ x.drop n)) := by
  intro d
  induction d with
  | zero =>
    intro n k h1 h2 hk
    obtain ⟨k, rfl⟩ : ∃ m, k = m + 1 := ⟨k - 1, by omega⟩
    simp only [impl_hasInt.l0]
    rw [if_neg (by omega), List.drop_of_length_le (by omega)]
    simp
  | succ d ih =>
    intro n k h1 h2 hk
    obtain ⟨k, rfl⟩ : ∃ m, k = m + 1 := ⟨k - 1, by omega⟩
    simp only [impl_hasInt.l0]
    rw [if_pos (by omega), if_pos (by omega), if_pos (by omega), rd_nat, wrap_next (by omega), ih (n + 1) k (by omega) (by omega) (by omega), drop_getD x 0 n (by omega)]
    by_cases e : x.getD n 0 = a
    · rw [if_pos e, decide_eq_true (by rw [e]; exact List.mem_cons_self)]
    · rw [if_neg e]
      congr 1
      rw [decide_eq_decide]
      constructor
      · exact fun h => List.mem_cons_of_mem _ h
      · intro h
        rcases List.mem_cons.1 h with h | h
        · exact absurd h.symm e
        · exact h
theorem impl_hasInt_eq (x : List Int) (hb : x.length ≤ 140737488355328) (a : Int) (k : Nat) (hk : x.length < k) : impl_hasInt.f k x a = some (decide (a ∈ x)) := by
  unfold impl_hasInt.f
  have h := impl_hasInt_loop a x hb x.length 0 k (by omega) (by omega) hk
  simpa using h
def kbB (x : List Int) : Bool := ascB x (-15) 19 x.length 0 && decide (1 ≤ (x.length : Int) ∧ (x.length : Int) ≤ 20)
theorem impl_kb_loop (x : List Int) (hb : x.length ≤ 140737488355328) : ∀ (d n k : Nat), n ≤ x.length → x.length - n = d → d < k → impl_KeyboardOk.l0 k x (x.length : Int) (n : Int) x = some (ascB x (-15) 19 d n && decide (1 ≤ (x.length : Int) ∧ (x.length : Int) ≤ 20)) := by
  intro d
  induction d with
  | zero =>
    intro n k h1 h2 hk
    obtain ⟨k, rfl⟩ : ∃ m, k = m + 1 := ⟨k - 1, by omega⟩
    simp only [impl_KeyboardOk.l0, ascB, within_eq, Option.bind_some]
    rw [if_neg (by omega), Bool.true_and]
  | succ d ih =>
    intro n k h1 h2 hk
    obtain ⟨k, rfl⟩ : ∃ m, k = m + 1 := ⟨k - 1, by omega⟩
    simp only [impl_KeyboardOk.l0, ascB, impl_hasName.f, within_eq, Option.bind_some]
    rw [if_pos (by omega), if_pos (by omega), if_pos (by omega), rd_nat, wrap_next (by omega), ih (n + 1) k (by omega) (by omega) (by omega)]
    by_cases c1 : -15 ≤ x.getD n 0 ∧ x.getD n 0 ≤ 19
    · rw [if_pos (decide_eq_true c1), decide_eq_true c1, Bool.true_and]
      by_cases h0 : n = 0
      · rw [if_neg (by omega), decide_eq_true h0, Bool.true_or, Bool.true_and]
      · have e : wrap64 ((n : Int) - 1) = ((n - 1 : Nat) : Int) := by rw [w64 (by omega) (by omega)]; omega
        rw [if_pos (by omega), e, if_pos (by omega), if_pos (by omega), rd_nat, decide_eq_false h0, Bool.false_or]
        by_cases c2 : x.getD (n - 1) 0 < x.getD n 0
        · rw [if_neg (by omega), decide_eq_true c2, Bool.true_and]
        · rw [if_pos (by omega), decide_eq_false c2, Bool.false_and, Bool.false_and]
    · rw [if_neg (by simpa using c1), decide_eq_false c1, Bool.false_and, Bool.false_and, Bool.false_and]
theorem impl_KeyboardOk_eq (x : List Int) (hb : x.length ≤ 140737488355328) (k : Nat) (hk : x.length < k) : impl_KeyboardOk.f k x = some (kbB x) := by
  unfold impl_KeyboardOk.f
  exact impl_kb_loop x hb x.length 0 k (by omega) (by omega) hk
def hasB (x : List Int) (a : Int) : Bool := kbB x && decide (a ∈ x)
theorem impl_HasNote_eq (x : List Int) (hb : x.length ≤ 140737488355328) (a : Int) (k : Nat) (hk : x.length < k) : impl_HasNote.f k x a = some (hasB x a) := by
  unfold impl_HasNote.f hasB
  rw [impl_KeyboardOk_eq x hb k hk]
  simp only [Option.bind_some]
  cases kbB x
  · simp
  · rw [if_pos rfl, impl_hasInt_eq x hb a k hk]; simp
def tonicL (n : Int) : List Int := if -14 ≤ n ∧ n ≤ 14 then [n - 1, n, n + 1, n + 2, n + 3, n + 4, n + 5] else []
theorem impl_TonicNotes_eq (n : Int) (k : Nat) (hk : 8 < k) : impl_TonicNotes.f k n = some (tonicL n) := by
  obtain ⟨k, rfl⟩ : ∃ m, k = m + 8 := ⟨k - 8, by omega⟩
  unfold impl_TonicNotes.f tonicL
  rw [within_eq]
  simp only [Option.bind_some]
  by_cases h : -14 ≤ n ∧ n ≤ 14
  · rw [if_pos (decide_eq_true h), if_pos h]
    simp only [impl_TonicNotes.l0]
    rw [w64 (n := n + 5) (by omega) (by omega), w64 (n := n - 1) (by omega) (by omega)]
    rw [w64 (n := n - 1 + 1) (by omega) (by omega), w64 (n := n - 1 + 1 + 1) (by omega) (by omega), w64 (n := n - 1 + 1 + 1 + 1) (by omega) (by omega), w64 (n := n - 1 + 1 + 1 + 1 + 1) (by omega) (by omega), w64 (n := n - 1 + 1 + 1 + 1 + 1 + 1) (by omega) (by omega), w64 (n := n - 1 + 1 + 1 + 1 + 1 + 1 + 1) (by omega) (by omega), w64 (n := n - 1 + 1 + 1 + 1 + 1 + 1 + 1 + 1) (by omega) (by omega)]
    rw [if_pos (by omega), if_pos (by simp), if_pos (by omega), if_pos (by simp), if_pos (by omega), if_pos (by simp), if_pos (by omega), if_pos (by simp), if_pos (by omega), if_pos (by simp), if_pos (by omega), if_pos (by simp), if_pos (by omega), if_pos (by simp), if_neg (by omega)]
    simp only [List.nil_append, List.cons_append]
    congr 2
    all_goals (try omega)
    repeat' (first | omega | (congr 1) )
  · rw [if_neg (by simpa using h), if_neg h]
def playB (x : List Int) (n : Int) : Bool := (tonicL n).all (hasB x) && decide ((tonicL n).length > 0)
theorem tonicL_length (n : Int) : (tonicL n).length ≤ 7 := by unfold tonicL; split <;> simp
theorem impl_play_loop (x t : List Int) (hb : x.length ≤ 140737488355328) (ht : t.length ≤ 7) : ∀ (d n k : Nat), n ≤ t.length → t.length - n = d → d + x.length + 1 < k → impl_IsPlayable.l0 k t t (t.length : Int) (n : Int) x = some ((t.drop n).all (hasB x) && decide (t.length > 0)) := by
  intro d
  induction d with
  | zero =>
    intro n k h1 h2 hk
    obtain ⟨k, rfl⟩ : ∃ m, k = m + 1 := ⟨k - 1, by omega⟩
    simp only [impl_IsPlayable.l0]
    rw [if_neg (by omega), List.drop_of_length_le (by omega), List.all_nil, Bool.true_and]
    congr 1; rw [decide_eq_decide]; omega
  | succ d ih =>
    intro n k h1 h2 hk
    obtain ⟨k, rfl⟩ : ∃ m, k = m + 1 := ⟨k - 1, by omega⟩
    simp only [impl_IsPlayable.l0]
    rw [if_pos (by omega), if_pos (by omega), if_pos (by omega), rd_nat, wrap_next (by omega), ih (n + 1) k (by omega) (by omega) (by omega), impl_HasNote_eq x hb _ k (by omega), drop_getD t 0 n (by omega), List.all_cons]
    simp only [Option.bind_some]
    cases hasB x (t.getD n 0)
    · simp
    · simp
theorem impl_IsPlayable_eq (x : List Int) (hb : x.length ≤ 140737488355328) (n : Int) (k : Nat) (hk : x.length + 20 < k) : impl_IsPlayable.f k x n = some (playB x n) := by
  have ht := tonicL_length n
  unfold impl_IsPlayable.f playB
  rw [impl_TonicNotes_eq n k (by omega)]
  simp only [Option.bind_some]
  exact impl_play_loop x (tonicL n) hb ht (tonicL n).length 0 k (by omega) (by omega) (by omega)
def playL (x : List Int) : Nat → Int → List Int
  | 0, _ => []
  | d + 1, n => if playB x n = true then n :: playL x d (n + 1) else playL x d (n + 1)
theorem playL_length (x : List Int) : ∀ (d : Nat) (n : Int), (playL x d n).length ≤ d := by
  intro d
  induction d with
  | zero => intro n; simp [playL]
  | succ d ih => intro n; have := ih (n + 1); unfold playL; split <;> simp <;> omega
theorem impl_keys_loop (x : List Int) (hb : x.length ≤ 140737488355328) : ∀ (d k : Nat) (n : Int) (acc : List Int), n = 15 - d → -14 ≤ n → d + x.length + 20 < k → acc.length ≤ 100 - d → d ≤ 29 →
    impl_PlayableKeys.l0 k acc n x = some (acc ++ playL x d n) := by
  intro d
  induction d with
  | zero =>
    intro k n acc h1 h0 hk ha hd
    obtain ⟨k, rfl⟩ : ∃ m, k = m + 1 := ⟨k - 1, by omega⟩
    simp only [impl_PlayableKeys.l0, playL]
    rw [if_neg (by omega)]
    simp
  | succ d ih =>
    intro k n acc h1 h0 hk ha hd
    obtain ⟨k, rfl⟩ : ∃ m, k = m + 1 := ⟨k - 1, by omega⟩
    simp only [impl_PlayableKeys.l0, playL]
    rw [if_pos (by omega), impl_IsPlayable_eq x hb n k (by omega), w64 (n := n + 1) (by omega) (by omega)]
    simp only [Option.bind_some]
    cases playB x n
    · rw [if_neg (by decide), if_neg (by decide), ih k (n + 1) acc (by omega) (by omega) (by omega) (by omega) (by omega)]
    · rw [if_pos rfl, if_pos (by omega), if_pos rfl, ih k (n + 1) _ (by omega) (by omega) (by omega) (by simp; omega) (by omega)]
      simp
theorem impl_PlayableKeys_eq (x : List Int) (hb : x.length ≤ 140737488355328) (k : Nat) (hk : x.length + 60 < k) : impl_PlayableKeys.f k x = some (playL x 29 (-14)) := by
  unfold impl_PlayableKeys.f
  have h := impl_keys_loop x hb 29 k (-14) [] (by omega) (by omega) (by omega) (by simp) (by omega)
  simpa using h
theorem ascB_facts (x : List Int) (lo hi : Int) : ∀ (d n : Nat), ascB x lo hi d n = true ↔ ∀ i, n ≤ i → i < n + d → (lo ≤ x.getD i 0 ∧ x.getD i 0 ≤ hi) ∧ (i = 0 ∨ x.getD (i - 1) 0 < x.getD i 0) := by
  intro d
  induction d with
  | zero => intro n; simp only [ascB, true_iff]; intro i h1 h2; omega
  | succ d ih =>
    intro n
    simp only [ascB, Bool.and_eq_true, Bool.or_eq_true, decide_eq_true_eq, ih]
    constructor
    · rintro ⟨⟨h1, h2⟩, h3⟩ i hi hj
      by_cases e : i = n
      · subst e; exact ⟨h1, h2⟩
      · exact h3 i (by omega) (by omega)
    · intro h
      exact ⟨h n (by omega) (by omega), fun i hi hj => h i (by omega) (by omega)⟩
theorem ascB_iff (x : List Int) (lo hi : Int) : ascB x lo hi x.length 0 = true ↔ (∀ y ∈ x, lo ≤ y ∧ y ≤ hi) ∧ x.Pairwise (· < ·) := by
  have hg : ∀ i, (h : i < x.length) → x.getD i 0 = x[i] := fun i h => by rw [List.getD_eq_getElem?_getD, List.getElem?_eq_getElem h]; rfl
  rw [ascB_facts]
  constructor
  · intro h
    refine ⟨fun y hy => ?_, ?_⟩
    · obtain ⟨i, hi, rfl⟩ := List.getElem_of_mem hy
      rw [← hg i hi]
      exact (h i (by omega) (by omega)).1
    · rw [List.pairwise_iff_getElem]
      intro i j hi hj hij
      have : ∀ (d : Nat), ∀ (hd : i + d + 1 < x.length), x[i] < x[i + d + 1] := by
        intro d
        induction d with
        | zero =>
          intro hd
          have := (h (i + 1) (by omega) (by omega)).2
          rw [hg (i + 1) (by omega)] at this
          simp only [Nat.add_sub_cancel] at this
          rw [hg i hi] at this
          rcases this with e | e
          · omega
          · exact e
        | succ d ihd =>
          intro hd
          have h1 := ihd (by omega)
          have := (h (i + d + 1 + 1) (by omega) (by omega)).2
          rw [hg (i + d + 1 + 1) (by omega)] at this
          simp only [Nat.add_sub_cancel] at this
          rw [hg (i + d + 1) (by omega)] at this
          rcases this with e | e
          · omega
          · exact Int.lt_trans h1 e
      have e : j = i + (j - i - 1) + 1 := by omega
      have := this (j - i - 1) (by omega)
      simp only [← e] at this
      exact this
  · rintro ⟨h1, h2⟩ i _ hi
    have hi' : i < x.length := by omega
    refine ⟨by rw [hg i hi']; exact h1 _ (List.getElem_mem hi'), ?_⟩
    by_cases h0 : i = 0
    · exact .inl h0
    · refine .inr ?_
      rw [hg i hi', hg (i - 1) (by omega)]
      exact (List.pairwise_iff_getElem.1 h2) (i - 1) i (by omega) hi' (by omega)
theorem mixB_iff (s b : List Int) : mixB s b = true ↔ ((∀ y ∈ s, 0 ≤ y ∧ y ≤ 48) ∧ s.Pairwise (· < ·)) ∧ ((∀ y ∈ b, 1 ≤ y ∧ y ≤ 24) ∧ b.Pairwise (· < ·)) ∧ (1 ≤ (s.length : Int) ∧ (s.length : Int) ≤ 5) ∧ (b.length : Int) ≤ 4 := by
  unfold mixB
  simp only [Bool.and_eq_true, ascB_iff, decide_eq_true_eq, and_assoc]
def insB (a : Int) : List Int → List Int
  | [] => [a]
  | x :: xs => if x > a then a :: x :: xs else x :: insB a xs
theorem insB_length (a : Int) : ∀ x : List Int, (insB a x).length = x.length + 1 := by
  intro x
  induction x with
  | nil => rfl
  | cons y ys ih => unfold insB; split <;> simp [ih]
theorem insB_mem (a : Int) : ∀ x : List Int, a ∈ insB a x := by
  intro x
  induction x with
  | nil => simp [insB]
  | cons y ys ih => unfold insB; split <;> simp [ih]
theorem insB_apart (a : Int) : ∀ x : List Int, (insB a x).Pairwise (· < ·) → ¬ a ∈ x := by
  intro x
  induction x with
  | nil => intro _ h; simp at h
  | cons y ys ih =>
    intro h
    unfold insB at h
    split at h
    · intro hm
      have := (List.pairwise_cons.1 h).1 a hm
      omega
    · obtain ⟨h1, h2⟩ := List.pairwise_cons.1 h
      intro hm
      rcases List.mem_cons.1 hm with e | e
      · have := h1 a (insB_mem a ys); omega
      · exact ih h2 e
theorem kbB_insB {a : Int} {x : List Int} (h : kbB (insB a x) = true) : ¬ a ∈ x := by
  unfold kbB at h
  rw [Bool.and_eq_true] at h
  exact insB_apart a x ((ascB_iff _ _ _).1 h.1).2
def addNV (x out : List Int) : List Int × Bool := if kbB x = true ∧ kbB out = true then (out, true) else (x, false)
theorem kbB_length {x : List Int} (h : kbB x = true) : x.length ≤ 20 := by
  unfold kbB at h
  rw [Bool.and_eq_true, decide_eq_true_eq] at h
  omega
theorem addNV_length (x out : List Int) (hx : x.length ≤ 1048576) : (addNV x out).1.length ≤ 1048576 := by
  unfold addNV
  split
  · rename_i h; have := kbB_length h.2; dsimp only; omega
  · exact hx
def putNV (s out : List Int) : List Int × Bool := if kbB out = true then (out, true) else (s, false)
theorem impl_add_j2 (a : Int) (x s : List Int) (hb : x.length ≤ 140737488355) (n : Nat) (hn : n ≤ x.length) (k : Nat) (hk : x.length + 3 < k) : impl_AddNote.j2 k a (n : Int) x s = some (putNV s (x.take n ++ (a :: x.drop n))) := by
  obtain ⟨k, rfl⟩ : ∃ m, k = m + 1 := ⟨k - 1, by omega⟩
  have hl : (x.take n).length = n := by simp; omega
  have hd : (x.drop n).length = x.length - n := by simp
  simp only [impl_AddNote.j2, Option.bind_some, Int.toNat_natCast, List.nil_append]
  rw [if_pos (by omega), if_pos (by omega), if_pos (by simp; omega), if_pos (by simp; omega), if_pos (by simp; omega)]
  have e : x.take n ++ [a] ++ x.drop n = x.take n ++ (a :: x.drop n) := by simp
  rw [e, impl_KeyboardOk_eq _ (by simp; omega) k (by simp; omega)]
  simp only [Option.bind_some, putNV]
  split <;> rfl
theorem impl_add_loop (a : Int) (x s : List Int) (hb : x.length ≤ 140737488355) (ha : ¬ a ∈ x) : ∀ (d n k : Nat), n ≤ x.length → x.length - n = d → d + x.length + 10 < k → impl_AddNote.l0 k a (n : Int) x s = some (putNV s (x.take n ++ insB a (x.drop n))) := by
  intro d
  induction d with
  | zero =>
    intro n k h1 h2 hk
    obtain ⟨k, rfl⟩ : ∃ m, k = m + 1 := ⟨k - 1, by omega⟩
    simp only [impl_AddNote.l0]
    rw [if_neg (by omega), impl_add_j2 a x s hb n h1 k (by omega), List.drop_of_length_le (by omega)]
    rfl
  | succ d ih =>
    intro n k h1 h2 hk
    obtain ⟨k, rfl⟩ : ∃ m, k = m + 1 := ⟨k - 1, by omega⟩
    have hlt : n < x.length := by omega
    have hm : x.getD n 0 ∈ x := by rw [List.getD_eq_getElem?_getD, List.getElem?_eq_getElem hlt]; exact List.getElem_mem _
    have hne : x.getD n 0 ≠ a := fun e => ha (e ▸ hm)
    simp only [impl_AddNote.l0]
    rw [if_pos (by omega), if_pos (by omega), rd_nat, wrap_next (by omega)]
    by_cases h : x.getD n 0 < a
    · rw [if_pos h, ih (n + 1) k (by omega) (by omega) (by omega)]
      have e1 : x.drop n = x.getD n 0 :: x.drop (n + 1) := drop_getD x 0 n hlt
      have e2 : x.take (n + 1) = x.take n ++ [x.getD n 0] := by
        have e3 : x.getD n 0 = x[n] := by rw [List.getD_eq_getElem?_getD, List.getElem?_eq_getElem hlt]; rfl
        rw [e3, List.take_succ_eq_append_getElem hlt]
      rw [e1]
      simp only [insB]
      rw [if_neg (by omega), e2]
      simp
    · rw [if_neg h, impl_add_j2 a x s hb n h1 k (by omega), drop_getD x 0 n hlt]
      simp only [insB]
      rw [if_pos (by omega)]
theorem impl_AddNote_eq (a : Int) (x : List Int) (hb : x.length ≤ 140737488355) (k : Nat) (hk : 2 * x.length + 20 < k) : impl_AddNote.f k x a = some (addNV x (insB a x)) := by
  obtain ⟨k, rfl⟩ : ∃ m, k = m + 1 := ⟨k - 1, by omega⟩
  unfold impl_AddNote.f
  simp only [Option.bind_some, List.length_nil, List.nil_append]
  rw [if_pos (by omega), impl_KeyboardOk_eq x (by omega) (k + 1) (by omega), impl_hasInt_eq x (by omega) a (k + 1) (by omega)]
  simp only [Option.bind_some]
  by_cases h : kbB x = true
  · rw [if_pos h]
    by_cases hm : a ∈ x
    · rw [decide_eq_true hm, impl_AddNote.j0, if_pos rfl]
      unfold addNV
      rw [if_neg (fun hh => kbB_insB hh.2 hm)]
    · rw [decide_eq_false hm, impl_AddNote.j0, if_neg (by decide)]
      have e := impl_add_loop a x x hb hm x.length 0 k (by omega) (by omega) (by omega)
      simp only [Int.natCast_zero, List.take_zero, List.nil_append, List.drop_zero] at e
      rw [e]
      unfold putNV addNV
      by_cases ho : kbB (insB a x) = true
      · rw [if_pos ho, if_pos ⟨h, ho⟩]
      · rw [if_neg ho, if_neg (fun hh => ho hh.2)]
  · rw [if_neg h, impl_AddNote.j0, if_pos rfl]
    unfold addNV
    rw [if_neg (fun hh => h hh.1)]
theorem has_loop (a : Int) (x : List Int) (hb : x.length ≤ 140737488355328) : ∀ (d n k : Nat), n ≤ x.length → x.length - n = d → d < k → laws_has.l0 k x a (n : Int) = some (decide (a ∈ x.drop n)) := by
  intro d
  induction d with
  | zero =>
    intro n k h1 h2 hk
    obtain ⟨k, rfl⟩ : ∃ m, k = m + 1 := ⟨k - 1, by omega⟩
    simp only [laws_has.l0]
    rw [if_neg (by omega), List.drop_of_length_le (by omega)]
    simp
  | succ d ih =>
    intro n k h1 h2 hk
    obtain ⟨k, rfl⟩ : ∃ m, k = m + 1 := ⟨k - 1, by omega⟩
    simp only [laws_has.l0]
    rw [if_pos (by omega), if_pos (by omega), rd_nat, wrap_next (by omega), ih (n + 1) k (by omega) (by omega) (by omega), drop_getD x 0 n (by omega)]
    by_cases e : x.getD n 0 = a
    · rw [if_pos e, decide_eq_true (by rw [e]; exact List.mem_cons_self)]
    · rw [if_neg e]
      congr 1
      rw [decide_eq_decide]
      constructor
      · exact fun h => List.mem_cons_of_mem _ h
      · intro h
        rcases List.mem_cons.1 h with h | h
        · exact absurd h.symm e
        · exact h
theorem has_eq (x : List Int) (hb : x.length ≤ 140737488355328) (a : Int) (k : Nat) (hk : x.length < k) : laws_has.f k x a = some (decide (a ∈ x)) := by
  unfold laws_has.f
  have h := has_loop a x hb x.length 0 k (by omega) (by omega) hk
  simpa using h
theorem kb_iff (x : List Int) : kbB x = true ↔ ((∀ y ∈ x, -15 ≤ y ∧ y ≤ 19) ∧ x.Pairwise (· < ·)) ∧ 1 ≤ x.length ∧ x.length ≤ 20 := by
  unfold kbB
  rw [Bool.and_eq_true, ascB_iff, decide_eq_true_eq]
  constructor
  · rintro ⟨h1, h2⟩; exact ⟨h1, by omega, by omega⟩
  · rintro ⟨h1, h2⟩; exact ⟨h1, by omega, by omega⟩
theorem insB_mem_iff (a y : Int) : ∀ x : List Int, y ∈ insB a x ↔ y = a ∨ y ∈ x := by
  intro x
  induction x with
  | nil => simp [insB]
  | cons z zs ih =>
    unfold insB
    split
    · simp
    · simp only [List.mem_cons, ih]
      constructor
      · rintro (h | h | h)
        · exact .inr (.inl h)
        · exact .inl h
        · exact .inr (.inr h)
      · rintro (h | h | h)
        · exact .inr (.inl h)
        · exact .inl h
        · exact .inr (.inr h)
theorem insB_sorted (a : Int) : ∀ x : List Int, x.Pairwise (· < ·) → ¬ a ∈ x → (insB a x).Pairwise (· < ·) := by
  intro x
  induction x with
  | nil => intro _ _; simp [insB]
  | cons z zs ih =>
    intro h hm
    obtain ⟨h1, h2⟩ := List.pairwise_cons.1 h
    unfold insB
    split
    · rename_i hz
      refine List.pairwise_cons.2 ⟨fun y hy => ?_, h⟩
      rcases List.mem_cons.1 hy with e | e
      · omega
      · have := h1 y e; omega
    · rename_i hz
      refine List.pairwise_cons.2 ⟨fun y hy => ?_, ih h2 (fun hh => hm (List.mem_cons_of_mem _ hh))⟩
      rcases (insB_mem_iff a y zs).1 hy with e | e
      · have : z ≠ a := fun e2 => hm (by rw [e2]; exact List.mem_cons_self)
        omega
      · exact h1 y e
theorem playL_mem (x : List Int) (a : Int) : ∀ (d : Nat) (n : Int), a ∈ playL x d n ↔ (n ≤ a ∧ a < n + d ∧ playB x a = true) := by
  intro d
  induction d with
  | zero => intro n; simp [playL]; omega
  | succ d ih =>
    intro n
    unfold playL
    by_cases h : playB x n = true
    · rw [if_pos h, List.mem_cons, ih]
      constructor
      · rintro (e | e)
        · rw [e]; exact ⟨by omega, by omega, h⟩
        · exact ⟨by omega, by omega, e.2.2⟩
      · rintro ⟨e1, e2, e3⟩
        by_cases e : a = n
        · exact .inl e
        · exact .inr ⟨by omega, by omega, e3⟩
    · rw [if_neg h, ih]
      constructor
      · rintro ⟨e1, e2, e3⟩; exact ⟨by omega, by omega, e3⟩
      · rintro ⟨e1, e2, e3⟩
        have : a ≠ n := fun e => h (e ▸ e3)
        exact ⟨by omega, by omega, e3⟩
theorem hasB_true {x : List Int} {a : Int} : hasB x a = true ↔ kbB x = true ∧ a ∈ x := by
  unfold hasB
  rw [Bool.and_eq_true, decide_eq_true_eq]
theorem playB_mono {x y : List Int} (hy : kbB y = true) (h : ∀ a ∈ x, a ∈ y) (n : Int) (hp : playB x n = true) : playB y n = true := by
  unfold playB at hp ⊢
  rw [Bool.and_eq_true] at hp ⊢
  refine ⟨?_, hp.2⟩
  rw [List.all_eq_true] at hp ⊢
  intro t ht
  exact hasB_true.2 ⟨hy, h t (hasB_true.1 (hp.1 t ht)).2⟩
def enhB (a b : Int) : Bool := decide (-15 ≤ a ∧ a ≤ 19) && (decide (-15 ≤ b ∧ b ≤ 19) && ((Int.tmod (a - b) 12) == 0))
theorem impl_AreEnharmonic_eq (a b : Int) : impl_AreEnharmonic.f a b = some (enhB a b) := by
  unfold impl_AreEnharmonic.f enhB
  simp only [impl_hasName.f, within_eq, Option.bind_some]
  by_cases h1 : -15 ≤ a ∧ a ≤ 19
  · rw [if_pos (decide_eq_true h1), decide_eq_true h1, Bool.true_and]
    by_cases h2 : -15 ≤ b ∧ b ≤ 19
    · rw [if_pos (decide_eq_true h2), decide_eq_true h2, Bool.true_and, w64 (n := a - b) (by omega) (by omega)]
    · rw [if_neg (by simpa using h2), decide_eq_false h2, Bool.false_and]
  · rw [if_neg (by simpa using h1), decide_eq_false h1, Bool.false_and]
def pairsOf (a : Int) : List Int → List (List Int)
  | [] => []
  | b :: t => if enhB a b = true then [a, b] :: pairsOf a t else pairsOf a t
theorem pairsOf_length (a : Int) : ∀ t : List Int, (pairsOf a t).length ≤ t.length := by
  intro t
  induction t with
  | nil => simp [pairsOf]
  | cons b t ih => unfold pairsOf; split <;> simp <;> omega
theorem pairsOf_mem (a : Int) (p : List Int) : ∀ t : List Int, p ∈ pairsOf a t → ∃ b ∈ t, p = [a, b] ∧ enhB a b = true := by
  intro t
  induction t with
  | nil => intro h; simp [pairsOf] at h
  | cons b t ih =>
    intro h
    unfold pairsOf at h
    split at h
    · rename_i he
      rcases List.mem_cons.1 h with e | e
      · exact ⟨b, List.mem_cons_self, e, he⟩
      · obtain ⟨c, hc, e1, e2⟩ := ih e; exact ⟨c, List.mem_cons_of_mem _ hc, e1, e2⟩
    · obtain ⟨c, hc, e1, e2⟩ := ih h; exact ⟨c, List.mem_cons_of_mem _ hc, e1, e2⟩
def splitL : List Int → List (List Int)
  | [] => []
  | a :: t => pairsOf a t ++ splitL t
theorem splitL_mem (p : List Int) : ∀ x : List Int, x.Pairwise (· < ·) → p ∈ splitL x → ∃ a b, p = [a, b] ∧ a < b ∧ enhB a b = true ∧ a ∈ x := by
  intro x
  induction x with
  | nil => intro _ h; simp [splitL] at h
  | cons a t ih =>
    intro hp h
    obtain ⟨h1, h2⟩ := List.pairwise_cons.1 hp
    unfold splitL at h
    rcases List.mem_append.1 h with e | e
    · obtain ⟨b, hb, e1, e2⟩ := pairsOf_mem a p t e
      exact ⟨a, b, e1, h1 b hb, e2, List.mem_cons_self⟩
    · obtain ⟨c, d, e1, e2, e3, e4⟩ := ih h2 e
      exact ⟨c, d, e1, e2, e3, List.mem_cons_of_mem _ e4⟩
theorem split_loop1 (a : Int) (x y : List Int) (m i : Int) (t : List Int) (ht : t.length ≤ 1000) : ∀ (d n k : Nat) (acc : List (List Int)), n ≤ t.length → t.length - n = d → d < k → acc.length + t.length ≤ 10000 + n →
    impl_SplitPairs.l1 k acc a x m i t (t.length : Int) (n : Int) y = impl_SplitPairs.l0 (k - d - 1) (acc ++ pairsOf a (t.drop n)) x m (wrap64 (i + 1)) y := by
  intro d
  induction d with
  | zero =>
    intro n k acc h1 h2 hk ha
    obtain ⟨k, rfl⟩ : ∃ m, k = m + 1 := ⟨k - 1, by omega⟩
    simp only [impl_SplitPairs.l1]
    rw [if_neg (by omega), List.drop_of_length_le (by omega)]
    simp [pairsOf]
  | succ d ih =>
    intro n k acc h1 h2 hk ha
    obtain ⟨k, rfl⟩ : ∃ m, k = m + 1 := ⟨k - 1, by omega⟩
    have ek : k + 1 - (d + 1) - 1 = k - d - 1 := by omega
    simp only [impl_SplitPairs.l1, impl_AreEnharmonic_eq, Option.bind_some]
    rw [if_pos (by omega), if_pos (by omega), if_pos (by omega), wrap_next (by omega), rd_nat, drop_getD t 0 n (by omega), ek]
    simp only [pairsOf]
    by_cases h : enhB a (t.getD n 0) = true
    · rw [if_pos h, if_pos h, if_pos (by omega), ih (n + 1) k _ (by omega) (by omega) (by omega) (by simp; omega)]
      simp
    · rw [if_neg h, if_neg h, ih (n + 1) k _ (by omega) (by omega) (by omega) (by omega)]
theorem split_loop0 (x : List Int) (hx : x.length ≤ 20) : ∀ (e n k : Nat) (acc : List (List Int)), n ≤ x.length → x.length - n = e → 25 * e + 1 < k → acc.length ≤ 20 * n →
    impl_SplitPairs.l0 k acc x (x.length : Int) (n : Int) x = some (acc ++ splitL (x.drop n)) := by
  intro e
  induction e with
  | zero =>
    intro n k acc h1 h2 hk ha
    obtain ⟨k, rfl⟩ : ∃ m, k = m + 1 := ⟨k - 1, by omega⟩
    simp only [impl_SplitPairs.l0]
    rw [if_neg (by omega), List.drop_of_length_le (by omega)]
    simp [splitL]
  | succ e ih =>
    intro n k acc h1 h2 hk ha
    obtain ⟨k, rfl⟩ : ∃ m, k = m + 1 := ⟨k - 1, by omega⟩
    have hd : (x.drop (n + 1)).length = x.length - (n + 1) := by simp
    have hpl := pairsOf_length (x.getD n 0) (x.drop (n + 1))
    simp only [impl_SplitPairs.l0]
    rw [if_pos (by omega), if_pos (by omega), if_pos (by omega), wrap_next (by omega), if_pos (by omega), if_pos (by omega), rd_nat, Int.toNat_natCast]
    have e1 := split_loop1 (x.getD n 0) x x (x.length : Int) (n : Int) (x.drop (n + 1)) (by omega) (x.drop (n + 1)).length 0 k acc (by omega) (by omega) (by omega) (by omega)
    simp only [Int.natCast_zero, List.drop_zero] at e1
    rw [e1, wrap_next (by omega), ih (n + 1) _ _ (by omega) (by omega) (by omega) (by rw [List.length_append]; omega), drop_getD x 0 n (by omega)]
    simp [splitL]
theorem impl_SplitPairs_eq {x : List Int} (h : kbB x = true) (k : Nat) (hk : 600 < k) : impl_SplitPairs.f k x = some (splitL x) := by
  have hl := kbB_length h
  unfold impl_SplitPairs.f
  rw [impl_KeyboardOk_eq x (by omega) k (by omega), h]
  simp only [Option.bind_some]
  have e := split_loop0 x hl x.length 0 k [] (by omega) (by omega) (by omega) (by simp)
  simpa using e
theorem splitL_length : ∀ x : List Int, x.length ≤ 20 → (splitL x).length ≤ 20 * x.length := by
  intro x
  induction x with
  | nil => intro _; simp [splitL]
  | cons a t ih =>
    intro h
    have h1 : t.length + 1 ≤ 20 := by simpa using h
    have := ih (by omega)
    have h2 := pairsOf_length a t
    simp only [splitL, List.length_append, List.length_cons]
    omega
abbrev Above (acc : List Int) (lo x : Int) : Prop := (∀ y ∈ acc, lo ≤ y ∧ y < x) ∧ acc.Pairwise (· < ·)
theorem kbDraw_loop (l : List Int) (lo m : Int) (hlo : -8 ≤ lo ∧ lo ≤ 3) (hm : 1 ≤ m ∧ m ≤ 14) : ∀ (e k : Nat) (j i h : Int) (acc : List Int), j = lo + m - e → lo ≤ j → e < k → Cur l i → Above acc lo j → (acc.length : Int) ≤ j - lo →
    ∃ x i' h', spec_l24Keyboard.l0 k lo m j l i h acc = some (x, i', h') ∧ kbB x = true ∧ x.length ≤ 15 := by
  intro e
  induction e with
  | zero =>
    intro k j i h acc hj h0 hk hc ha hn
    obtain ⟨k, rfl⟩ : ∃ m, k = m + 1 := ⟨k - 1, by omega⟩
    simp only [spec_l24Keyboard.l0]
    rw [w64 (n := lo + m) (by omega) (by omega), if_neg (by omega)]
    by_cases hz : (acc.length : Int) = 0
    · rw [if_pos hz]
      exact ⟨_, _, _, rfl, by rw [kb_iff]; simp, by simp⟩
    · rw [if_neg hz]
      refine ⟨_, _, _, rfl, ?_, by omega⟩
      rw [kb_iff]
      exact ⟨⟨fun y hy => by have := ha.1 y hy; omega, ha.2⟩, by omega, by omega⟩
  | succ e ih =>
    intro k j i h acc hj h0 hk hc ha hn
    obtain ⟨k, rfl⟩ : ∃ m, k = m + 1 := ⟨k - 1, by omega⟩
    obtain ⟨b, i1, h1, e1, c1⟩ := once_some l i h 8 hc (by omega) (by omega)
    simp only [spec_l24Keyboard.l0]
    rw [w64 (n := lo + m) (by omega) (by omega), if_pos (by omega), e1]
    simp only [Option.bind_some]
    rw [w64 (n := j + 1) (by omega) (by omega)]
    by_cases hb : b = true
    · rw [if_pos hb]
      exact ih k (j + 1) i1 h1 acc (by omega) (by omega) (by omega) c1 ⟨fun y hy => by have := ha.1 y hy; omega, ha.2⟩ (by omega)
    · rw [if_neg hb, if_pos (by omega)]
      refine ih k (j + 1) i1 h1 (acc ++ [j]) (by omega) (by omega) (by omega) c1 ⟨fun y hy => ?_, ?_⟩ (by simp; omega)
      · rcases List.mem_append.1 hy with e | e
        · have := ha.1 y e; omega
        · have : y = j := by simpa using e
          omega
      · rw [List.pairwise_append]
        refine ⟨ha.2, by simp, fun a hx c hy => ?_⟩
        have : c = j := by simpa using hy
        have := (ha.1 a hx).2
        omega
theorem drawKeyboard_some (l : List Int) (hl : (l.length : Int) ≤ 140737488351232) (k : Nat) (hk : 4000 < k) : ∃ x, spec_DrawKeyboard.f k l = some x ∧ kbB x = true ∧ x.length ≤ 15 := by
  obtain ⟨h, e0⟩ := new_some l hl k hk
  have c0 : Cur l 0 := ⟨by omega, by omega, hl⟩
  obtain ⟨x, i1, h1, e1, x0, x1, c1⟩ := below_some l 0 h 12 c0 (by omega) (by omega)
  obtain ⟨y, i2, h2, e2, y0, y1, c2⟩ := below_some l i1 h1 14 c1 (by omega) (by omega)
  obtain ⟨z, i3, h3, e3, hz, hzl⟩ := kbDraw_loop l (x - 8) (1 + y) (by omega) (by omega) (1 + y).toNat k (x - 8) i2 h2 [] (by omega) (by omega) (by omega) c2 ⟨by simp, by simp⟩ (by simp)
  refine ⟨z, ?_, hz, hzl⟩
  unfold spec_DrawKeyboard.f
  rw [e0]; simp only [Option.bind_some]
  unfold spec_l24Keyboard.f
  rw [e1]; simp only [Option.bind_some]
  rw [e2]; simp only [Option.bind_some]
  rw [w64 (n := x - 8) (by omega) (by omega), w64 (n := 1 + y) (by omega) (by omega), e3]; simp only [Option.bind_some]
structure KbFacts (s x : List Int) (n : Int) (ok : Bool) : Prop where
  hs : kbB s = true
  hx : kbB x = true
  sub : ∀ a ∈ s, a ∈ x
  mem : n ∈ x
  okv : ok = !(hasB s n)
  hn : -10 ≤ n ∧ n ≤ 9
  hl : s.length ≤ 20
theorem kb_facts {s : List Int} (hs : kbB s = true) (hl : s.length ≤ 15) {n : Int} (hn : -10 ≤ n ∧ n ≤ 9) : KbFacts s (addNV s (insB n s)).1 n (addNV s (insB n s)).2 := by
  obtain ⟨⟨r1, r2⟩, r3, r4⟩ := (kb_iff s).1 hs
  by_cases hm : n ∈ s
  · have e : addNV s (insB n s) = (s, false) := by unfold addNV; rw [if_neg (fun hh => kbB_insB hh.2 hm)]
    rw [e]
    exact ⟨hs, hs, fun a ha => ha, hm, by rw [hasB_true.2 ⟨hs, hm⟩]; rfl, hn, by omega⟩
  · have hi : kbB (insB n s) = true := by
      rw [kb_iff, insB_length]
      refine ⟨⟨fun y hy => ?_, insB_sorted n s r2 hm⟩, by omega, by omega⟩
      rcases (insB_mem_iff n y s).1 hy with e | e
      · omega
      · exact r1 y e
    have e : addNV s (insB n s) = (insB n s, true) := by unfold addNV; rw [if_pos ⟨hs, hi⟩]
    rw [e]
    refine ⟨hs, hi, fun a ha => (insB_mem_iff n a s).2 (.inr ha), insB_mem n s, ?_, hn, by omega⟩
    have : hasB s n = false := by
      cases h : hasB s n
      · rfl
      · exact absurd (hasB_true.1 h).2 hm
    rw [this]; rfl
theorem kbLaw_l2 {s x : List Int} {n : Int} {ok : Bool} (F : KbFacts s x n ok) : ∀ (d j k : Nat), j ≤ (splitL s).length → (splitL s).length - j = d → d + 1000 < k →
    laws_FnKeyboards.l2 k n (playL s 29 (-14)) ok (tonicL n) ((tonicL n).all (hasB s)) (splitL s) (j : Int) s x = some true := by
  have hsl := splitL_length s F.hl
  have hl := F.hl
  have hxl := kbB_length F.hx
  have hn := F.hn
  have hpl := playL_length s 29 (-14)
  have ht : (tonicL n).length = 7 := by unfold tonicL; rw [if_pos (by omega)]; rfl
  have hps : playB s n = (tonicL n).all (hasB s) := by unfold playB; rw [ht]; simp
  intro d
  induction d with
  | zero =>
    intro j k h1 h2 hk
    obtain ⟨k, rfl⟩ : ∃ m, k = m + 1 := ⟨k - 1, by omega⟩
    simp only [laws_FnKeyboards.l2]
    rw [if_neg (by omega), if_pos (by omega), impl_IsPlayable_eq s (by omega) n k (by omega), has_eq _ (by omega) n k (by omega), impl_HasNote_eq s (by omega) n k (by omega), impl_HasNote_eq x (by omega) n k (by omega)]
    simp only [Option.bind_some]
    have e1 : decide (n ∈ playL s 29 (-14)) = (tonicL n).all (hasB s) := by
      rw [← hps]
      cases hp : playB s n
      · rw [decide_eq_false_iff_not, playL_mem, hp]; simp
      · rw [decide_eq_true_eq, playL_mem, hp]; exact ⟨by omega, by omega, rfl⟩
    rw [hps, if_pos (by simp), e1, if_pos (by simp), F.okv, if_pos (by simp), hasB_true.2 ⟨F.hx, F.mem⟩]
  | succ d ih =>
    intro j k h1 h2 hk
    obtain ⟨k, rfl⟩ : ∃ m, k = m + 1 := ⟨k - 1, by omega⟩
    have hlt : j < (splitL s).length := by omega
    have hr : rd_L1 (splitL s) (j : Int) ∈ splitL s := by
      unfold rd_L1
      rw [Int.toNat_natCast, List.getD_eq_getElem?_getD, List.getElem?_eq_getElem hlt]; exact List.getElem_mem _
    obtain ⟨a, b, e1, e2, e3, e4⟩ := splitL_mem _ s ((kb_iff s).1 F.hs).1.2 hr
    have f0 : rd [a, b] 0 = a := rfl
    have f1 : rd [a, b] 1 = b := rfl
    have fl : ([a, b] : List Int).length = 2 := rfl
    simp only [laws_FnKeyboards.l2]
    rw [if_pos (by omega), if_pos (by omega), e1, f0, f1, fl, if_pos (by omega), if_pos (by omega), if_pos (by omega), if_neg (by omega), impl_AreEnharmonic_eq, impl_HasNote_eq s (by omega) a k (by omega)]
    simp only [Option.bind_some]
    rw [if_pos e3, if_pos (hasB_true.2 ⟨F.hs, e4⟩), wrap_next (by omega)]
    exact ih (j + 1) k (by omega) (by omega) (by omega)
theorem kbLaw_l1 {s x : List Int} {n : Int} {ok : Bool} (F : KbFacts s x n ok) : ∀ (d j k : Nat) (b : Bool), j ≤ (tonicL n).length → (tonicL n).length - j = d → d + 2000 < k → ((tonicL n).all (hasB s) = (b && ((tonicL n).drop j).all (hasB s))) →
    laws_FnKeyboards.l1 k n (playL s 29 (-14)) ok (tonicL n) b (j : Int) s x = some true := by
  have hl := F.hl
  have hsl := splitL_length s F.hl
  have ht := tonicL_length n
  intro d
  induction d with
  | zero =>
    intro j k b h1 h2 hk hb
    obtain ⟨k, rfl⟩ : ∃ m, k = m + 1 := ⟨k - 1, by omega⟩
    rw [List.drop_of_length_le (by omega), List.all_nil, Bool.and_true] at hb
    simp only [laws_FnKeyboards.l1]
    rw [if_neg (by omega), impl_SplitPairs_eq F.hs k (by omega)]
    simp only [Option.bind_some]
    rw [← hb]
    exact kbLaw_l2 F (splitL s).length 0 k (by omega) (by omega) (by omega)
  | succ d ih =>
    intro j k b h1 h2 hk hb
    obtain ⟨k, rfl⟩ : ∃ m, k = m + 1 := ⟨k - 1, by omega⟩
    rw [drop_getD (tonicL n) 0 j (by omega), List.all_cons] at hb
    simp only [laws_FnKeyboards.l1]
    rw [if_pos (by omega), wrap_next (by omega)]
    cases b
    · rw [if_neg (by decide)]
      exact ih (j + 1) k false (by omega) (by omega) (by omega) (by simpa using hb)
    · rw [if_pos rfl, if_pos (by omega), rd_nat, impl_HasNote_eq s (by omega) _ k (by omega)]
      simp only [Option.bind_some]
      exact ih (j + 1) k _ (by omega) (by omega) (by omega) (by simpa using hb)
theorem kbLaw_l0 {s x : List Int} {n : Int} {ok : Bool} (F : KbFacts s x n ok) : ∀ (d j k : Nat), j ≤ (playL s 29 (-14)).length → (playL s 29 (-14)).length - j = d → d + 3000 < k →
    laws_FnKeyboards.l0 k n (playL s 29 (-14)) ok (playL x 29 (-14)) (j : Int) s x = some true := by
  have hl := F.hl
  have hpl := playL_length s 29 (-14)
  have hpx := playL_length x 29 (-14)
  have ht := tonicL_length n
  intro d
  induction d with
  | zero =>
    intro j k h1 h2 hk
    obtain ⟨k, rfl⟩ : ∃ m, k = m + 1 := ⟨k - 1, by omega⟩
    simp only [laws_FnKeyboards.l0]
    rw [if_neg (by omega), impl_TonicNotes_eq n k (by omega)]
    simp only [Option.bind_some]
    exact kbLaw_l1 F (tonicL n).length 0 k true (by omega) (by omega) (by omega) (by simp)
  | succ d ih =>
    intro j k h1 h2 hk
    obtain ⟨k, rfl⟩ : ∃ m, k = m + 1 := ⟨k - 1, by omega⟩
    have hlt : j < (playL s 29 (-14)).length := by omega
    have hr : (playL s 29 (-14)).getD j 0 ∈ playL s 29 (-14) := by
      rw [List.getD_eq_getElem?_getD, List.getElem?_eq_getElem hlt]; exact List.getElem_mem _
    obtain ⟨e1, e2, e3⟩ := (playL_mem s _ 29 (-14)).1 hr
    have e4 : (playL s 29 (-14)).getD j 0 ∈ playL x 29 (-14) := (playL_mem x _ 29 (-14)).2 ⟨e1, e2, playB_mono F.hx F.sub _ e3⟩
    simp only [laws_FnKeyboards.l0]
    rw [if_pos (by omega), if_pos (by omega), rd_nat, has_eq _ (by omega) _ k (by omega), impl_IsPlayable_eq s (by omega) _ k (by omega), wrap_next (by omega)]
    simp only [Option.bind_some]
    rw [if_pos (decide_eq_true e4), if_pos e3]
    exact ih (j + 1) k (by omega) (by omega) (by omega)
theorem keyboards_law (l : List Int) (hl : (l.length : Int) ≤ 1048576) (hw : ∀ x ∈ l, (Lit.int .u8 x).wf = true) (k : Nat) (hk : 5000 < k) : laws_FnKeyboards.f k l = some true := by
  unfold laws_FnKeyboards.f
  simp only [laws_big.f, Option.bind_some]
  rw [if_neg (by simp; omega)]
  obtain ⟨s, e, hs, hsl⟩ := drawKeyboard_some l (by omega) k (by omega)
  obtain ⟨t, e2, t0, t1⟩ := at_some l (by omega) hw 0 (by omega)
  rw [e]; simp only [Option.bind_some]
  rw [e2]; simp only [Option.bind_some]
  obtain ⟨m0, m1⟩ := tmod_lt (x := t) (n := 20) t0 (by omega)
  rw [w64 (n := Int.tmod t 20 - 10) (by omega) (by omega), impl_PlayableKeys_eq s (by omega) k (by omega), impl_AddNote_eq _ s (by omega) k (by omega)]
  simp only [Option.bind_some]
  have F := kb_facts hs hsl (n := Int.tmod t 20 - 10) (by omega)
  have hxl := kbB_length F.hx
  rw [impl_PlayableKeys_eq _ (by omega) k (by omega)]
  simp only [Option.bind_some]
  have hpl := playL_length s 29 (-14)
  exact kbLaw_l0 F (playL s 29 (-14)).length 0 k (by omega) (by omega) (by omega)
theorem FnKeyboards : laws_FnKeyboards.Pure := by
  intro l _ hb hw
  obtain ⟨k, hk⟩ : ∃ k : Nat, 5000 < k := ⟨5001, by omega⟩
  refine ⟨k, ?_⟩
  by_cases hl : (l.length : Int) > 1048576
  · unfold laws_FnKeyboards.f
    simp only [laws_big.f, Option.bind_some]
    rw [if_pos (decide_eq_true hl)]
  · exact keyboards_law l (by omega) hw k hk
end Go.Proofs.Ytnpckibmahjbbaa.Pure
