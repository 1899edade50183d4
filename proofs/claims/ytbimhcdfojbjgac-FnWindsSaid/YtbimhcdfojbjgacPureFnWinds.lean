/- The plain law of FnWinds: the printed function of the law answers true. Its conditions are those of the statement's own bounds. -/
import Derived.Test.YtbimhcdfojbjgacHFnWindsx4
namespace Go.Proofs.Ytbimhcdfojbjgac.Pure
open Go.RowKit Go.Proofs.Ytbimhcdfojbjgac.PFnWinds Go.Proofs.YtbimhcdfojbjgacW.PrintWords Go.Proofs.YtbimhcdfojbjgacW.PrintLast Go.Proofs.YtbimhcdfojbjgacW.PrintMore
set_option linter.unusedVariables false
theorem and255 (n : Int) : Go.bits .and .i64 n 255 = n % 256 := by
  have h255 : (BitVec.ofInt 64 255).toNat = 2 ^ 8 - 1 := by decide
  have key : (BitVec.ofInt 64 n &&& BitVec.ofInt 64 255).toNat = (n % ((2 ^ 64 : Nat) : Int)).toNat % 2 ^ 8 := by
    rw [BitVec.toNat_and, BitVec.toNat_ofInt, h255, Nat.and_two_pow_sub_one_eq_mod]
  show IntKind.i64.wrap ((BitVec.ofInt 64 n &&& BitVec.ofInt 64 255).toNat : Nat) = n % 256
  rw [key, IntKind.wrap_i64]
  omega
theorem dw64 {n : Int} (h1 : -9223372036854775808 ≤ n) (h2 : n ≤ 9223372036854775807) : wrap64 n = n := by unfold wrap64; omega
theorem lenb {b : List Int} (hb : b.length * 1 ≤ 140737488351232) : (b.length : Int) ≤ 140737488351232 := by omega
theorem new_loop (l : List Int) (hl : (l.length : Int) ≤ 140737488351232) : ∀ (d k : Nat) (h i : Int), 0 ≤ i → i ≤ 4000 → 4000 - i ≤ d → d < k → ∃ h', spec_l01New.l0 k l h i = some (l, 0, h') := by
  intro d
  induction d with
  | zero =>
    intro k h i h0 h1 hd hk
    obtain ⟨k, rfl⟩ : ∃ m, k = m + 1 := ⟨k - 1, by omega⟩
    refine ⟨h, ?_⟩
    simp only [spec_l01New.l0]
    by_cases hlt : i < (l.length : Int)
    · rw [if_pos hlt, if_neg (by omega)]
    · rw [if_neg hlt]
  | succ d ih =>
    intro k h i h0 h1 hd hk
    obtain ⟨k, rfl⟩ : ∃ m, k = m + 1 := ⟨k - 1, by omega⟩
    by_cases hlt : i < (l.length : Int)
    · by_cases h4 : i < 4000
      · obtain ⟨h', e⟩ := ih k (Go.bits .and .i64 (wrap64 ((wrap64 ((wrap64 (h * 131)) + (wrap64 (rd l i)))) + 7)) 1073741823) (i + 1) (by omega) (by omega) (by omega) (by omega)
        refine ⟨h', ?_⟩
        simp only [spec_l01New.l0]
        rw [if_pos hlt, if_pos h4, if_pos h0, dw64 (n := i + 1) (by omega) (by omega)]
        exact e
      · refine ⟨h, ?_⟩
        simp only [spec_l01New.l0]
        rw [if_pos hlt, if_neg h4]
    · refine ⟨h, ?_⟩
      simp only [spec_l01New.l0]
      rw [if_neg hlt]
theorem new_some (l : List Int) (hl : (l.length : Int) ≤ 140737488351232) (k : Nat) (hk : 4000 < k) : ∃ h, spec_l01New.f k l = some (l, 0, h) := by
  unfold spec_l01New.f
  exact new_loop l hl 4000 k _ 0 (by omega) (by omega) (by omega) hk
/-- the cursor's place is good -/
abbrev Cur (b : List Int) (i : Int) : Prop := 0 ≤ i ∧ i ≤ (b.length : Int) ∧ (b.length : Int) ≤ 140737488351232
theorem byte_some (b : List Int) (i h : Int) (hc : Cur b i) : ∃ x i' h', spec_l01Byte.f b i h = some (x, i', h') ∧ 0 ≤ x ∧ x ≤ 255 ∧ Cur b i' := by
  obtain ⟨h0, h1, h2⟩ := hc
  unfold spec_l01Byte.f
  by_cases hlt : i < (b.length : Int)
  · rw [if_pos hlt, if_pos h0]
    refine ⟨_, _, _, rfl, ?_, ?_, ?_⟩
    · rw [and255]; omega
    · rw [and255]; omega
    · rw [dw64 (n := i + 1) (by omega) (by omega)]; exact ⟨by omega, by omega, h2⟩
  · rw [if_neg hlt]
    refine ⟨_, _, _, rfl, ?_, ?_, ?_⟩
    · rw [and255]; omega
    · rw [and255]; omega
    · exact ⟨h0, h1, h2⟩
theorem tmod_lt {x n : Int} (hx : 0 ≤ x) (hn : 0 < n) : 0 ≤ x.tmod n ∧ x.tmod n < n := by
  rw [Int.tmod_eq_emod_of_nonneg hx]
  exact ⟨Int.emod_nonneg _ (by omega), Int.emod_lt_of_pos _ hn⟩
theorem below_some (b : List Int) (i h n : Int) (hc : Cur b i) (hn : 0 < n) (hn2 : n ≤ 2147483648) :
    ∃ x i' h', spec_l01Below.f b i h n = some (x, i', h') ∧ 0 ≤ x ∧ x < n ∧ Cur b i' := by
  unfold spec_l01Below.f
  rw [if_neg (by omega)]
  by_cases h256 : n ≤ 256
  · rw [if_pos h256]
    obtain ⟨x, i1, h1, e, hx0, hx1, hc1⟩ := byte_some b i h hc
    rw [e]; simp only [Option.bind_some]; rw [if_neg (by omega)]
    obtain ⟨a, c⟩ := tmod_lt (x := x) (n := n) hx0 hn
    exact ⟨_, _, _, rfl, a, c, hc1⟩
  · rw [if_neg h256]
    obtain ⟨x, i1, h1, e1, x0, x1, hc1⟩ := byte_some b i h hc
    rw [e1]; simp only [Option.bind_some]
    obtain ⟨y, i2, h2, e2, y0, y1, hc2⟩ := byte_some b i1 h1 hc1
    rw [e2]; simp only [Option.bind_some]
    obtain ⟨z, i3, h3, e3, z0, z1, hc3⟩ := byte_some b i2 h2 hc2
    rw [e3]; simp only [Option.bind_some]
    obtain ⟨w, i4, h4, e4, w0, w1, hc4⟩ := byte_some b i3 h3 hc3
    rw [e4]; simp only [Option.bind_some]; rw [if_neg (by omega)]
    rw [dw64 (n := x * 16777216) (by omega) (by omega), dw64 (n := y * 65536) (by omega) (by omega), dw64 (n := z * 256) (by omega) (by omega), dw64 (n := x * 16777216 + y * 65536) (by omega) (by omega),
      dw64 (n := x * 16777216 + y * 65536 + z * 256) (by omega) (by omega), dw64 (n := x * 16777216 + y * 65536 + z * 256 + w) (by omega) (by omega)]
    obtain ⟨a, c⟩ := tmod_lt (x := x * 16777216 + y * 65536 + z * 256 + w) (n := n) (by omega) hn
    exact ⟨_, _, _, rfl, a, c, hc4⟩
theorem u8_bd {x : Int} (h : (Lit.int .u8 x).wf = true) : 0 ≤ x ∧ x ≤ 255 := by
  have h' : (decide ((0 : Int) ≤ x) && decide (x ≤ 255)) = true := h
  simp at h'; omega
theorem at_some (l : List Int) (hl : (l.length : Int) ≤ 140737488351232) (hw : ∀ x ∈ l, (Lit.int .u8 x).wf = true) (i : Int) (hi : 0 ≤ i ∧ i ≤ 1000) : ∃ r, laws_at.f l i = some r ∧ 0 ≤ r ∧ r ≤ 255 := by
  unfold laws_at.f
  by_cases h0 : (l.length : Int) = 0
  · rw [if_pos h0]; exact ⟨0, rfl, by omega, by omega⟩
  · rw [if_neg h0, dw64 (n := i * 5) (by omega) (by omega), dw64 (n := i * 5 + 1) (by omega) (by omega)]
    obtain ⟨a, c⟩ := tmod_lt (x := i * 5 + 1) (n := (l.length : Int)) (by omega) (by omega)
    rw [if_pos a, if_pos c]
    have hm : rd l (Int.tmod (i * 5 + 1) (l.length : Int)) ∈ l := by
      unfold rd
      have hx : (Int.tmod (i * 5 + 1) (l.length : Int)).toNat < l.length := by omega
      rw [List.getD_eq_getElem?_getD, List.getElem?_eq_getElem hx]
      exact List.getElem_mem _
    have hb := u8_bd (hw _ hm)
    rw [dw64 (by omega) (by omega)]
    exact ⟨_, rfl, hb.1, hb.2⟩
theorem within_eq (a b c : Int) : impl_within.f a b c = some (decide (b ≤ a ∧ a ≤ c)) := by
  unfold impl_within.f
  by_cases h : b ≤ a
  · rw [if_pos h]; congr 1; by_cases h2 : a ≤ c <;> simp [h2, h]
  · rw [if_neg h]; congr 1; simp; omega
theorem law_of {α : Type} [DecidableEq α] {s i : Option α} {r : α} (hs : s = some r) (hi : i = some r) : (s.bind fun t => i.bind fun u => if u = t then some true else some false) = some true := by
  subst hs hi; simp
theorem law_ofb {s i : Option Bool} {r : Bool} (hs : s = some r) (hi : i = some r) : (s.bind fun t => i.bind fun u => if (u != t) = true then some false else some true) = some true := by
  subst hs hi; simp
theorem wf_i64 {a : Int} (h : (Lit.int .i64 a).wf = true) : -9223372036854775808 ≤ a ∧ a ≤ 9223372036854775807 := by
  have h' : (decide ((-9223372036854775808 : Int) ≤ a) && decide (a ≤ 9223372036854775807)) = true := h
  simp at h'; omega
theorem w64 {n : Int} (h1 : -9223372036854775808 ≤ n) (h2 : n ≤ 9223372036854775807) : wrap64 n = n := by unfold wrap64; omega
theorem mul_bd {a b A B : Int} (h0 : 0 ≤ a) (h1 : a ≤ A) (h2 : 0 ≤ b) (h3 : b ≤ B) : 0 ≤ a * b ∧ a * b ≤ A * B := by
  refine ⟨Int.mul_nonneg h0 h2, ?_⟩
  exact Int.le_trans (Int.mul_le_mul_of_nonneg_right h1 h2) (Int.mul_le_mul_of_nonneg_left h3 (by omega))
theorem tdiv_nn {a b : Int} (h : 0 ≤ a) : a.tdiv b = a / b := Int.tdiv_eq_ediv_of_nonneg h
theorem div_bd {a A c : Int} (h0 : 0 ≤ a) (h1 : a ≤ A) (hc : 0 < c) : 0 ≤ a / c ∧ a / c ≤ A / c :=
  ⟨Int.ediv_nonneg h0 (by omega), Int.ediv_le_ediv hc h1⟩
theorem impl_BellowsOk_eq (a b c : Int) : impl_BellowsOk.f a b c = some (decide (1 ≤ b ∧ b ≤ 100000 ∧ 0 ≤ a ∧ a ≤ b ∧ 0 ≤ c ∧ c ≤ 10000)) := by
  simp only [impl_BellowsOk.f, within_eq, Option.bind_some]
  repeat' split
  all_goals (simp_all <;> omega)
abbrev bOk (a b c : Int) : Prop := 1 ≤ b ∧ b ≤ 100000 ∧ 0 ≤ a ∧ a ≤ b ∧ 0 ≤ c ∧ c ≤ 10000
/-- the air after the inflow -/
def air (a b c : Int) : Int := if b < a + c then b else a + c
theorem air_bd {a b c : Int} (h : bOk a b c) : 0 ≤ air a b c ∧ air a b c ≤ b ∧ a ≤ air a b c := by unfold air; split <;> omega
def blow (a b c d : Int) : Int × Int × Int × Bool := if bOk a b c ∧ (0 ≤ d ∧ d ≤ 100000) then (if air a b c < d then (0, b, c, false) else (air a b c - d, b, c, true)) else (a, b, c, false)
theorem blow_yes {a b c d : Int} (h : bOk a b c) (hd : 0 ≤ d ∧ d ≤ 100000) : blow a b c d = if air a b c < d then (0, b, c, false) else (air a b c - d, b, c, true) := if_pos ⟨h, hd⟩
theorem blow_no {a b c d : Int} (h : ¬ (bOk a b c ∧ (0 ≤ d ∧ d ≤ 100000))) : blow a b c d = (a, b, c, false) := if_neg h
theorem impl_BlowStep_eq (a b c d : Int) (k : Nat) (hk : 0 < k) : impl_BlowStep.f k a b c d = some (blow a b c d) := by
  obtain ⟨k, rfl⟩ : ∃ m, k = m + 1 := ⟨k - 1, by omega⟩
  simp only [impl_BlowStep.f, impl_isDemand.f, impl_BellowsOk_eq, within_eq, Option.bind_some]
  by_cases h : bOk a b c
  · rw [if_pos (decide_eq_true h)]
    by_cases hd : 0 ≤ d ∧ d ≤ 100000
    · have ha := air_bd h
      have e1 : mn (wrap64 (a + c)) b = air a b c := by rw [w64 (n := a + c) (by omega) (by omega)]; unfold mn air; rfl
      rw [decide_eq_true hd, impl_BlowStep.j0, e1, w64 (n := air a b c - d) (by omega) (by omega), blow_yes h hd]
      rw [if_neg (by decide)]
      by_cases hl : air a b c < d
      · rw [if_pos hl, if_pos hl]
      · rw [if_neg hl, if_neg hl]
    · rw [decide_eq_false hd, impl_BlowStep.j0, if_pos (by decide), blow_no (fun hh => hd hh.2)]
  · rw [if_neg (by simpa using h), impl_BlowStep.j0, if_pos rfl, blow_no (fun hh => h hh.1)]
theorem blow_keep {a b c d : Int} (h : bOk a b c) (hd : 0 ≤ d ∧ d ≤ 100000) : ∃ a' s, blow a b c d = (a', b, c, s) ∧ bOk a' b c ∧ (s = true ↔ d ≤ air a b c) := by
  have ha := air_bd h
  rw [blow_yes h hd]
  by_cases hl : air a b c < d
  · rw [if_pos hl]; exact ⟨0, false, rfl, by omega, by simp; omega⟩
  · rw [if_neg hl]; exact ⟨air a b c - d, true, rfl, by omega, by simp; omega⟩
/-- what is left after n moments, if there is always enough -/
def lasts (b c d : Int) : Nat → Int → Bool
  | 0, _ => true
  | n + 1, a => if air a b c < d then false else lasts b c d n (air a b c - d)
theorem impl_note_loop {b c d : Int} (hd : 0 ≤ d ∧ d ≤ 100000) : ∀ (e k : Nat) (n a : Int), n = 1000 - e → 0 ≤ n → e + 1 < k → bOk a b c →
    ∃ j : Nat, impl_LongestNote.l0 k d n a b c = some (n + j) ∧ j ≤ e ∧ lasts b c d j a = true ∧ (j = e ∨ lasts b c d (j + 1) a = false) := by
  intro e
  induction e with
  | zero =>
    intro k n a hn h0 hk h
    obtain ⟨k, rfl⟩ : ∃ m, k = m + 1 := ⟨k - 1, by omega⟩
    refine ⟨0, ?_, by omega, rfl, .inl rfl⟩
    simp only [impl_LongestNote.l0]
    rw [if_neg (by omega)]
    congr 1; omega
  | succ e ih =>
    intro k n a hn h0 hk h
    obtain ⟨k, rfl⟩ : ∃ m, k = m + 1 := ⟨k - 1, by omega⟩
    have ha := air_bd h
    simp only [impl_LongestNote.l0]
    rw [if_pos (by omega), impl_BlowStep_eq a b c d k (by omega), blow_yes h hd]
    simp only [Option.bind_some]
    by_cases hl : air a b c < d
    · rw [if_pos hl]
      refine ⟨0, ?_, by omega, rfl, .inr ?_⟩
      · simp
      · simp only [lasts]; rw [if_pos hl]
    · rw [if_neg hl]
      obtain ⟨j, e1, e2, e3, e4⟩ := ih k (n + 1) (air a b c - d) (by omega) (by omega) (by omega) (by omega)
      refine ⟨j + 1, ?_, by omega, ?_, ?_⟩
      · simp only [if_true]
        rw [w64 (n := n + 1) (by omega) (by omega), e1]
        congr 1; omega
      · simp only [lasts]; rw [if_neg hl]; exact e3
      · rcases e4 with e4 | e4
        · exact .inl (by omega)
        · refine .inr ?_
          show lasts b c d (j + 1 + 1) a = false
          unfold lasts
          rw [if_neg hl]; exact e4
theorem impl_LongestNote_val {a b c d : Int} (h : bOk a b c) (hd : 0 ≤ d ∧ d ≤ 100000) (k : Nat) (hk : 1003 < k) :
    ∃ j : Nat, impl_LongestNote.f k a b c d = some (j : Int) ∧ j ≤ 1000 ∧ lasts b c d j a = true ∧ (j = 1000 ∨ lasts b c d (j + 1) a = false) := by
  obtain ⟨k, rfl⟩ : ∃ m, k = m + 1 := ⟨k - 1, by omega⟩
  obtain ⟨j, e1, e2, e3, e4⟩ := impl_note_loop hd 1000 k 0 a (by omega) (by omega) (by omega) h
  refine ⟨j, ?_, e2, e3, e4⟩
  simp only [impl_LongestNote.f, impl_BellowsOk_eq, impl_isDemand.f, within_eq, Option.bind_some]
  rw [if_pos (decide_eq_true h), decide_eq_true hd, impl_LongestNote.j0, if_neg (by decide), e1]
  congr 1; omega
theorem impl_LongestNote_no {a b c d : Int} (h : ¬ (bOk a b c ∧ (0 ≤ d ∧ d ≤ 100000))) (k : Nat) (hk : 1 < k) : impl_LongestNote.f k a b c d = some 0 := by
  obtain ⟨k, rfl⟩ : ∃ m, k = m + 1 := ⟨k - 1, by omega⟩
  simp only [impl_LongestNote.f, impl_BellowsOk_eq, impl_isDemand.f, within_eq, Option.bind_some]
  by_cases h1 : bOk a b c
  · have h2 : ¬ (0 ≤ d ∧ d ≤ 100000) := fun h2 => h ⟨h1, h2⟩
    rw [if_pos (decide_eq_true h1), decide_eq_false h2, impl_LongestNote.j0]; rfl
  · rw [if_neg (by simpa using h1), impl_LongestNote.j0]; rfl
theorem impl_can_loop {b c d : Int} (hd : 0 ≤ d ∧ d ≤ 100000) (m : Int) (hm : m ≤ 1000) : ∀ (e k : Nat) (n a : Int), n = m - e → 0 ≤ n → e + 1 < k → bOk a b c → impl_CanLast.l0 k d m n a b c = some (lasts b c d e a) := by
  intro e
  induction e with
  | zero =>
    intro k n a hn h0 hk h
    obtain ⟨k, rfl⟩ : ∃ m, k = m + 1 := ⟨k - 1, by omega⟩
    simp only [impl_CanLast.l0, lasts]
    rw [if_neg (by omega)]
  | succ e ih =>
    intro k n a hn h0 hk h
    obtain ⟨k, rfl⟩ : ∃ m, k = m + 1 := ⟨k - 1, by omega⟩
    have ha := air_bd h
    simp only [impl_CanLast.l0, lasts]
    rw [if_pos (by omega), impl_BlowStep_eq a b c d k (by omega), blow_yes h hd]
    simp only [Option.bind_some]
    by_cases hl : air a b c < d
    · rw [if_pos hl, if_pos hl]
      rfl
    · rw [if_neg hl, if_neg hl]
      simp only [if_true]
      rw [w64 (n := n + 1) (by omega) (by omega)]
      exact ih k (n + 1) (air a b c - d) (by omega) (by omega) (by omega) (by omega)
theorem impl_CanLast_val {a b c d m : Int} (h : bOk a b c) (hd : 0 ≤ d ∧ d ≤ 100000) (hm : 0 ≤ m ∧ m ≤ 1000) (k : Nat) (hk : 1003 < k) : impl_CanLast.f k a b c d m = some (lasts b c d m.toNat a) := by
  obtain ⟨k, rfl⟩ : ∃ m, k = m + 1 := ⟨k - 1, by omega⟩
  simp only [impl_CanLast.f, impl_BellowsOk_eq, impl_isDemand.f, within_eq, Option.bind_some]
  rw [if_pos (decide_eq_true h), if_pos (decide_eq_true hd), decide_eq_true hm, impl_CanLast.j0, if_neg (by decide)]
  exact impl_can_loop hd m hm.2 m.toNat k 0 a (by omega) (by omega) (by omega) h
theorem impl_CanLast_no {a b c d m : Int} (h : ¬ (bOk a b c ∧ (0 ≤ d ∧ d ≤ 100000) ∧ (0 ≤ m ∧ m ≤ 1000))) (k : Nat) (hk : 1 < k) : impl_CanLast.f k a b c d m = some false := by
  obtain ⟨k, rfl⟩ : ∃ m, k = m + 1 := ⟨k - 1, by omega⟩
  simp only [impl_CanLast.f, impl_BellowsOk_eq, impl_isDemand.f, within_eq, Option.bind_some]
  by_cases h1 : bOk a b c
  · rw [if_pos (decide_eq_true h1)]
    by_cases h2 : 0 ≤ d ∧ d ≤ 100000
    · have h3 : ¬ (0 ≤ m ∧ m ≤ 1000) := fun h3 => h ⟨h1, h2, h3⟩
      rw [if_pos (decide_eq_true h2), decide_eq_false h3, impl_CanLast.j0]; rfl
    · rw [if_neg (by simpa using h2), impl_CanLast.j0]; rfl
  · rw [if_neg (by simpa using h1), impl_CanLast.j0]; rfl
theorem wrap_next {n : Nat} (h : n ≤ 140737488355328) : wrap64 ((n : Int) + 1) = ((n + 1 : Nat) : Int) := by unfold wrap64; omega
theorem drop_getD {α : Type} (x : List α) (z : α) (n : Nat) (h : n < x.length) : x.drop n = x.getD n z :: x.drop (n + 1) := by
  rw [List.getD_eq_getElem?_getD, List.getElem?_eq_getElem h]
  exact List.drop_eq_getElem_cons h
theorem rd_nat (x : List Int) (n : Nat) : rd x (n : Int) = x.getD n 0 := by unfold rd; rw [Int.toNat_natCast]
theorem take_set_next {α : Type} (x : List α) (n : Nat) (v : α) (h : n < x.length) : (x.set n v).take (n + 1) = x.take n ++ [v] := by
  rw [List.take_succ_eq_append_getElem (by simpa using h)]
  congr 1
  · rw [List.take_set_of_le (Nat.le_refl _)]
  · simp
def windL (b c : Int) : Int → List Int → List Int
  | _, [] => []
  | a, d :: ds => (blow a b c d).1 :: windL b c (blow a b c d).1 ds
def windN (b c : Int) : Int → Int → List Int → Int
  | _, n, [] => n
  | a, n, d :: ds => windN b c (blow a b c d).1 (if (blow a b c d).2.2.2 = true then n else n + 1) ds
theorem windL_length (b c : Int) : ∀ (ds : List Int) (a : Int), (windL b c a ds).length = ds.length := by
  intro ds
  induction ds with
  | nil => intro a; rfl
  | cons d ds ih => intro a; simp [windL, ih]
abbrev dOk (d : Int) : Prop := 0 ≤ d ∧ d ≤ 100000
theorem impl_wind_loop1 {b c : Int} (x : List Int) (hx : x.length ≤ 60) (hd : ∀ d ∈ x, dOk d) : ∀ (e n k : Nat) (a s : Int) (acc : List Int), n ≤ x.length → x.length - n = e → e + 1 < k → acc.length ≤ n → 0 ≤ s → s ≤ n → bOk a b c →
    impl_RunWind.l1 k acc s x (x.length : Int) (n : Int) a b c = some (acc ++ windL b c a (x.drop n), windN b c a s (x.drop n)) := by
  intro e
  induction e with
  | zero =>
    intro n k a s acc h1 h2 hk ha hs hs2 hb
    obtain ⟨k, rfl⟩ : ∃ m, k = m + 1 := ⟨k - 1, by omega⟩
    simp only [impl_RunWind.l1]
    rw [if_neg (by omega), List.drop_of_length_le (by omega)]
    simp [windL, windN]
  | succ e ih =>
    intro n k a s acc h1 h2 hk ha hs hs2 hb
    obtain ⟨k, rfl⟩ : ∃ m, k = m + 1 := ⟨k - 1, by omega⟩
    have hlt : n < x.length := by omega
    have hdn := hd (x.getD n 0) (by rw [List.getD_eq_getElem?_getD, List.getElem?_eq_getElem hlt]; exact List.getElem_mem _)
    obtain ⟨a', t, eb, hb', _⟩ := blow_keep hb hdn
    simp only [impl_RunWind.l1]
    rw [if_pos (by omega), if_pos (by omega), if_pos (by omega), rd_nat, impl_BlowStep_eq a b c _ k (by omega), drop_getD x 0 n hlt]
    simp only [Option.bind_some, windL, windN, eb]
    rw [wrap_next (by omega), w64 (n := s + 1) (by omega) (by omega)]
    cases t
    · rw [if_neg (by decide), if_pos (by omega), if_neg (by decide), ih (n + 1) k a' (s + 1) _ (by omega) (by omega) (by omega) (by simp; omega) (by omega) (by omega) hb']
      simp
    · rw [if_pos rfl, if_pos (by omega), if_pos rfl, ih (n + 1) k a' s _ (by omega) (by omega) (by omega) (by simp; omega) (by omega) (by omega) hb']
      simp
theorem impl_wind_loop0 (x : List Int) (hx : x.length ≤ 60) (a b c : Int) : ∀ (e n k : Nat), n ≤ x.length → x.length - n = e → e < k →
    impl_RunWind.l0 k x x (x.length : Int) (n : Int) a b c = if (∀ d ∈ x.drop n, dOk d) then impl_RunWind.l1 (k - e - 1) [] 0 x (x.length : Int) 0 a b c else some ([], 0) := by
  intro e
  induction e with
  | zero =>
    intro n k h1 h2 hk
    obtain ⟨k, rfl⟩ : ∃ m, k = m + 1 := ⟨k - 1, by omega⟩
    simp only [impl_RunWind.l0]
    rw [if_neg (by omega), List.drop_of_length_le (by omega), if_pos (by simp)]
    rfl
  | succ e ih =>
    intro n k h1 h2 hk
    obtain ⟨k, rfl⟩ : ∃ m, k = m + 1 := ⟨k - 1, by omega⟩
    simp only [impl_RunWind.l0, impl_isDemand.f, within_eq, Option.bind_some]
    rw [if_pos (by omega), if_pos (by omega), if_pos (by omega), rd_nat, wrap_next (by omega), ih (n + 1) k (by omega) (by omega) (by omega)]
    have ee : k + 1 - (e + 1) - 1 = k - e - 1 := by omega
    rw [ee, drop_getD x 0 n (by omega)]
    by_cases h : dOk (x.getD n 0)
    · rw [if_pos (decide_eq_true h)]
      by_cases h3 : ∀ d ∈ x.drop (n + 1), dOk d
      · rw [if_pos h3, if_pos (fun t ht => by
          rcases List.mem_cons.1 ht with h4 | h4
          · rw [h4]; exact h
          · exact h3 t h4)]
      · rw [if_neg h3, if_neg (fun hh => h3 fun t ht => hh t (List.mem_cons_of_mem _ ht))]
    · rw [if_neg (by simpa using h), if_neg (fun hh => h (hh _ List.mem_cons_self))]
def wOk (a b c : Int) (x : List Int) : Prop := bOk a b c ∧ x.length ≤ 60 ∧ ∀ d ∈ x, dOk d
theorem impl_RunWind_yes {a b c : Int} {x : List Int} (h : wOk a b c x) (k : Nat) (hk : 200 < k) : impl_RunWind.f k a b c x = some (windL b c a x, windN b c a 0 x) := by
  obtain ⟨h1, h2, h3⟩ := h
  obtain ⟨k, rfl⟩ : ∃ m, k = m + 1 := ⟨k - 1, by omega⟩
  unfold impl_RunWind.f
  rw [impl_BellowsOk_eq]
  simp only [Option.bind_some]
  rw [if_pos (decide_eq_true h1), decide_eq_false (by omega), impl_RunWind.j0, if_neg (by decide)]
  have e := impl_wind_loop0 x h2 a b c x.length 0 k (by omega) (by omega) (by omega)
  rw [if_pos (by simpa using h3)] at e
  have e2 := impl_wind_loop1 (b := b) (c := c) x h2 h3 x.length 0 (k - x.length - 1) a 0 [] (by omega) (by omega) (by omega) (by simp) (by omega) (by omega) h1
  simp only [Int.natCast_zero, List.nil_append, List.drop_zero] at e e2
  rw [e, e2]
theorem impl_RunWind_no {a b c : Int} {x : List Int} (h : ¬ wOk a b c x) (k : Nat) (hk : 200 < k) : impl_RunWind.f k a b c x = some ([], 0) := by
  obtain ⟨k, rfl⟩ : ∃ m, k = m + 1 := ⟨k - 1, by omega⟩
  unfold impl_RunWind.f
  rw [impl_BellowsOk_eq]
  simp only [Option.bind_some]
  by_cases h1 : bOk a b c
  · rw [if_pos (decide_eq_true h1)]
    by_cases h2 : x.length ≤ 60
    · rw [decide_eq_false (by omega), impl_RunWind.j0, if_neg (by decide)]
      have e := impl_wind_loop0 x h2 a b c x.length 0 k (by omega) (by omega) (by omega)
      rw [if_neg (fun hh => h ⟨h1, h2, by simpa using hh⟩)] at e
      exact e
    · rw [decide_eq_true (by omega), impl_RunWind.j0, if_pos rfl]
  · rw [if_neg (by simpa using h1), impl_RunWind.j0, if_pos rfl]
theorem lasts_down {b c d : Int} : ∀ (i j : Nat) (a : Int), i ≤ j → lasts b c d j a = true → lasts b c d i a = true := by
  intro i
  induction i with
  | zero => intro j a _ _; rfl
  | succ i ih =>
    intro j a hij hj
    obtain ⟨j, rfl⟩ : ∃ m, j = m + 1 := ⟨j - 1, by omega⟩
    unfold lasts at hj ⊢
    by_cases hl : air a b c < d
    · rw [if_pos hl] at hj; cases hj
    · rw [if_neg hl] at hj ⊢
      exact ih j _ (by omega) hj
theorem lasts_all {b c d : Int} (h1 : d ≤ b) (h2 : d ≤ c) : ∀ (n : Nat) (a : Int), 0 ≤ a → lasts b c d n a = true := by
  intro n
  induction n with
  | zero => intro a _; rfl
  | succ n ih =>
    intro a ha
    have hl : ¬ air a b c < d := by unfold air; split <;> omega
    unfold lasts
    rw [if_neg hl]
    exact ih _ (by omega)
theorem windDraw_loop (l : List Int) (a b c : Int) : ∀ (e k : Nat) (n i h : Int) (j : Int) (acc : List Int), j = n - e → 0 ≤ j → n ≤ 14 → e < k → Cur l i → (∀ y ∈ acc, dOk y) → (acc.length : Int) = j →
    ∃ x, spec_DrawBellows.l0 k acc n j l i h a b c = some (a, b, c, x) ∧ x.length ≤ 60 ∧ ∀ y ∈ x, dOk y := by
  intro e
  induction e with
  | zero =>
    intro k n i h j acc hj h0 h2 hk hc hb ha
    obtain ⟨k, rfl⟩ : ∃ m, k = m + 1 := ⟨k - 1, by omega⟩
    refine ⟨acc, ?_, by omega, hb⟩
    simp only [spec_DrawBellows.l0]
    rw [if_neg (by omega)]
  | succ e ih =>
    intro k n i h j acc hj h0 h2 hk hc hb ha
    obtain ⟨k, rfl⟩ : ∃ m, k = m + 1 := ⟨k - 1, by omega⟩
    obtain ⟨y, i1, h1, e1, y0, y1, c1⟩ := below_some l i h 40 hc (by omega) (by omega)
    obtain ⟨x, e2, hx⟩ := ih k n i1 h1 (j + 1) (acc ++ [y]) (by omega) (by omega) h2 (by omega) c1 (fun z hz => by
      rcases List.mem_append.1 hz with h3 | h3
      · exact hb z h3
      · have : z = y := by simpa using h3
        show 0 ≤ z ∧ z ≤ 100000
        omega) (by simp; omega)
    refine ⟨x, ?_, hx⟩
    simp only [spec_DrawBellows.l0]
    rw [if_pos (by omega), e1]
    simp only [Option.bind_some]
    rw [if_pos (by omega), w64 (n := j + 1) (by omega) (by omega)]
    exact e2
theorem drawBellows_some (l : List Int) (hl : (l.length : Int) ≤ 140737488351232) (k : Nat) (hk : 4000 < k) : ∃ a b c x, spec_DrawBellows.f k l = some (a, b, c, x) ∧ wOk a b c x := by
  obtain ⟨h, e0⟩ := new_some l hl k hk
  have c0 : Cur l 0 := ⟨by omega, by omega, hl⟩
  obtain ⟨x, i1, h1, e1, x0, x1, c1⟩ := below_some l 0 h 200 c0 (by omega) (by omega)
  obtain ⟨y, i2, h2, e2, y0, y1, c2⟩ := below_some l i1 h1 (1 + x + 1) c1 (by omega) (by omega)
  obtain ⟨z, i3, h3, e3, z0, z1, c3⟩ := below_some l i2 h2 20 c2 (by omega) (by omega)
  obtain ⟨n, i4, h4, e4, n0, n1, c4⟩ := below_some l i3 h3 14 c3 (by omega) (by omega)
  obtain ⟨w, e5, hw1, hw2⟩ := windDraw_loop l y (1 + x) z n.toNat k n i4 h4 0 [] (by omega) (by omega) (by omega) (by omega) c4 (by simp) (by simp)
  refine ⟨y, 1 + x, z, w, ?_, ⟨by omega, by omega, by omega, by omega, by omega, by omega⟩, hw1, hw2⟩
  unfold spec_DrawBellows.f
  rw [e0]; simp only [Option.bind_some]
  unfold spec_l27Bellows.f
  rw [e1]; simp only [Option.bind_some]
  rw [w64 (n := 1 + x) (by omega) (by omega), w64 (n := 1 + x + 1) (by omega) (by omega), e2]; simp only [Option.bind_some]
  rw [e3]; simp only [Option.bind_some]
  rw [e4]; simp only [Option.bind_some]
  exact e5
theorem windL_mem {b c : Int} : ∀ (x : List Int) (a : Int), bOk a b c → (∀ d ∈ x, dOk d) → ∀ y ∈ windL b c a x, 0 ≤ y ∧ y ≤ b := by
  intro x
  induction x with
  | nil => intro a _ _ y hy; simp [windL] at hy
  | cons d x ih =>
    intro a h hd y hy
    obtain ⟨a', s, e, h', _⟩ := blow_keep h (hd d List.mem_cons_self)
    simp only [windL, e] at hy
    rcases List.mem_cons.1 hy with h1 | h1
    · omega
    · exact ih a' h' (fun t ht => hd t (List.mem_cons_of_mem _ ht)) y h1
theorem windN_bd {b c : Int} : ∀ (x : List Int) (a n : Int), n ≤ windN b c a n x ∧ windN b c a n x ≤ n + x.length := by
  intro x
  induction x with
  | nil => intro a n; simp [windN]
  | cons d x ih =>
    intro a n
    simp only [windN, List.length_cons]
    have := ih (blow a b c d).1 (if (blow a b c d).2.2.2 = true then n else n + 1)
    split at this <;> (split <;> first | omega | contradiction)
theorem wind_loop {a b c d : Int} (h : bOk a b c) (hd : 0 ≤ d ∧ d ≤ 30) (j : Nat) (hj : j ≤ 1000) (hj1 : lasts b c d j a = true) (hj2 : j = 1000 ∨ lasts b c d (j + 1) a = false) (x : List Int) (hx : x.length ≤ 60) (hm : ∀ y ∈ x, 0 ≤ y ∧ y ≤ b) :
    ∀ (e n k : Nat), n ≤ x.length → x.length - n = e → 2 * e + 1100 < k → laws_FnWinds.l0 k d (j : Int) x (n : Int) a b c = some true := by
  intro e
  induction e with
  | zero =>
    intro n k h1 h2 hk
    obtain ⟨k, rfl⟩ : ∃ m, k = m + 1 := ⟨k - 1, by omega⟩
    obtain ⟨a', s, eb, hb', hs⟩ := blow_keep h (show 0 ≤ d ∧ d ≤ 100000 by omega)
    simp only [laws_FnWinds.l0]
    rw [if_neg (by omega), impl_BlowStep_eq a b c d k (by omega), eb, impl_CanLast_val h (by omega) (by omega) k (by omega)]
    simp only [Option.bind_some, Int.toNat_natCast]
    rw [hj1, if_pos rfl]
    have hs2 : (s == decide ((j : Int) > 0)) = true := by
      cases j with
      | zero =>
        have h3 : lasts b c d 1 a = false := by
          rcases hj2 with h4 | h4
          · omega
          · exact h4
        unfold lasts at h3
        by_cases hl : air a b c < d
        · have : s = false := by cases s with
            | false => rfl
            | true => have := hs.1 rfl; omega
          rw [this]; simp
        · rw [if_neg hl] at h3; simp [lasts] at h3
      | succ j =>
        have h3 := lasts_down 1 (j + 1) a (by omega) hj1
        unfold lasts at h3
        by_cases hl : air a b c < d
        · rw [if_pos hl] at h3; cases h3
        · have : s = true := hs.2 (by omega)
          rw [this]; simp
    have hend : (if (s == decide ((j : Int) > 0)) = true then (if a' ≤ b then (if a' ≥ 0 then ((impl_BellowsOk.f a' b c).bind fun t => (some t)) else (some false)) else (some false)) else (some false)) = some true := by
      rw [if_pos hs2, if_pos (by omega), if_pos (by omega), impl_BellowsOk_eq]
      simp only [Option.bind_some]
      rw [decide_eq_true hb']
    by_cases hn : (j : Int) = 1000
    · rw [if_pos hn]
      by_cases hc : d > c
      · rw [if_pos hc]; exact hend
      · rw [if_neg hc]
        by_cases hb : d > b
        · rw [if_pos hb]; exact hend
        · rw [if_neg hb]; exact hend
    · rw [if_neg hn, w64 (n := (j : Int) + 1) (by omega) (by omega), impl_CanLast_val h (by omega) (by omega) k (by omega)]
      have hf : lasts b c d (j + 1) a = false := by
        rcases hj2 with h4 | h4
        · omega
        · exact h4
      have et : ((j : Int) + 1).toNat = j + 1 := by omega
      simp only [Option.bind_some]
      rw [et, hf, if_neg (by decide)]
      by_cases hc : d > c
      · rw [if_pos hc]; exact hend
      · rw [if_neg hc]
        by_cases hb : d > b
        · rw [if_pos hb]; exact hend
        · rw [lasts_all (by omega) (by omega) (j + 1) a (by omega)] at hf; cases hf
  | succ e ih =>
    intro n k h1 h2 hk
    obtain ⟨k, rfl⟩ : ∃ m, k = m + 1 := ⟨k - 1, by omega⟩
    have hlt : n < x.length := by omega
    have hy := hm (x.getD n 0) (by rw [List.getD_eq_getElem?_getD, List.getElem?_eq_getElem hlt]; exact List.getElem_mem _)
    rw [laws_FnWinds.l0]
    rw [if_pos (by omega), if_pos (by omega), rd_nat, if_neg (by omega), if_neg (by omega), wrap_next (by omega)]
    exact ih (n + 1) k (by omega) (by omega) (by omega)
theorem winds_law (l : List Int) (hl : (l.length : Int) ≤ 1048576) (hw : ∀ x ∈ l, (Lit.int .u8 x).wf = true) (k : Nat) (hk : 5000 < k) : laws_FnWinds.f k l = some true := by
  unfold laws_FnWinds.f
  simp only [laws_big.f, Option.bind_some]
  rw [if_neg (by simp; omega)]
  obtain ⟨a, b, c, x, e, h⟩ := drawBellows_some l (by omega) k (by omega)
  obtain ⟨t, e2, t0, t1⟩ := at_some l (by omega) hw 0 (by omega)
  rw [e]; simp only [Option.bind_some]
  rw [e2]; simp only [Option.bind_some]
  obtain ⟨m0, m1⟩ := tmod_lt (x := t) (n := 30) t0 (by omega)
  obtain ⟨j, e3, hj, hj1, hj2⟩ := impl_LongestNote_val (d := Int.tmod t 30) h.1 (by omega) k (by omega)
  rw [e3]; simp only [Option.bind_some]
  rw [impl_RunWind_yes h k (by omega)]
  simp only [Option.bind_some]
  have hb := windN_bd (b := b) (c := c) x a 0
  have hlen := windL_length b c x a
  obtain ⟨k, rfl⟩ : ∃ m, k = m + 1 := ⟨k - 1, by omega⟩
  rw [if_pos (by omega), if_neg (by omega), decide_eq_false (by omega), laws_FnWinds.j0, if_neg (by decide)]
  have hx := h.2.1
  exact wind_loop h.1 (by omega) j hj hj1 hj2 _ (by omega) (windL_mem x a h.1 h.2.2) x.length 0 k (by omega) (by omega) (by omega)
theorem FnWinds : laws_FnWinds.Pure := by
  intro l _ hb hw
  obtain ⟨k, hk⟩ : ∃ k : Nat, 5000 < k := ⟨5001, by omega⟩
  refine ⟨k, ?_⟩
  by_cases hl : (l.length : Int) > 1048576
  · unfold laws_FnWinds.f
    simp only [laws_big.f, Option.bind_some]
    rw [if_pos (decide_eq_true hl)]
  · exact winds_law l (by omega) hw k hk
end Go.Proofs.Ytbimhcdfojbjgac.Pure
