/- The plain law of FnStops: the printed function of the law answers true. Its conditions are those of the statement's own bounds. -/
import Derived.Test.YtookbccmhflhlaaHFnStopsx4
namespace Go.Proofs.Ytookbccmhflhlaa.Pure
open Go.RowKit Go.Proofs.Ytookbccmhflhlaa.PFnStops Go.Proofs.YtookbccmhflhlaaW.PrintWords Go.Proofs.YtookbccmhflhlaaW.PrintLast Go.Proofs.YtookbccmhflhlaaW.PrintMore
set_option linter.unusedVariables false
theorem and255 (n : Int) : Go.bits .and .i64 n 255 = n % 256 := by
  have h255 : (BitVec.ofInt 64 255).toNat = 2 ^ 8 - 1 := by decide
  have key : (BitVec.ofInt 64 n &&& BitVec.ofInt 64 255).toNat = (n % ((2 ^ 64 : Nat) : Int)).toNat % 2 ^ 8 := by
    rw [BitVec.toNat_and, BitVec.toNat_ofInt, h255, Nat.and_two_pow_sub_one_eq_mod]
  show IntKind.i64.wrap ((BitVec.ofInt 64 n &&& BitVec.ofInt 64 255).toNat : Nat) = n % 256
  rw [key, IntKind.wrap_i64]
  omega
theorem dw64 {n : Int} (h1 : -9223372036854775808 ≤ n) (h2 : n ≤ 9223372036854775807) : wrap64 n = n := by unfold wrap64; omega
theorem lenb {b : List Int} (hb : b.length * 1 ≤ 140737488351232) : (b.length : Int) ≤ 140737488351232 := by omega
theorem new_loop (l : List Int) (hl : (l.length : Int) ≤ 140737488351232) : ∀ (d k : Nat) (h i : Int), 0 ≤ i → i ≤ 4000 → 4000 - i ≤ d → d < k → ∃ h', spec_l01New.l0 k l h i = some (l, 0, h') := by
  intro d
  induction d with
  | zero =>
    intro k h i h0 h1 hd hk
    obtain ⟨k, rfl⟩ : ∃ m, k = m + 1 := ⟨k - 1, by omega⟩
    refine ⟨h, ?_⟩
    simp only [spec_l01New.l0]
    by_cases hlt : i < (l.length : Int)
    · rw [if_pos hlt, if_neg (by omega)]
    · rw [if_neg hlt]
  | succ d ih =>
    intro k h i h0 h1 hd hk
    obtain ⟨k, rfl⟩ : ∃ m, k = m + 1 := ⟨k - 1, by omega⟩
    by_cases hlt : i < (l.length : Int)
    · by_cases h4 : i < 4000
      · obtain ⟨h', e⟩ := ih k (Go.bits .and .i64 (wrap64 ((wrap64 ((wrap64 (h * 131)) + (wrap64 (rd l i)))) + 7)) 1073741823) (i + 1) (by omega) (by omega) (by omega) (by omega)
        refine ⟨h', ?_⟩
        simp only [spec_l01New.l0]
        rw [if_pos hlt, if_pos h4, if_pos h0, dw64 (n := i + 1) (by omega) (by omega)]
        exact e
      · refine ⟨h, ?_⟩
        simp only [spec_l01New.l0]
        rw [if_pos hlt, if_neg h4]
    · refine ⟨h, ?_⟩
      simp only [spec_l01New.l0]
      rw [if_neg hlt]
theorem new_some (l : List Int) (hl : (l.length : Int) ≤ 140737488351232) (k : Nat) (hk : 4000 < k) : ∃ h, spec_l01New.f k l = some (l, 0, h) := by
  unfold spec_l01New.f
  exact new_loop l hl 4000 k _ 0 (by omega) (by omega) (by omega) hk
/-- the cursor's place is good -/
abbrev Cur (b : List Int) (i : Int) : Prop := 0 ≤ i ∧ i ≤ (b.length : Int) ∧ (b.length : Int) ≤ 140737488351232
theorem byte_some (b : List Int) (i h : Int) (hc : Cur b i) : ∃ x i' h', spec_l01Byte.f b i h = some (x, i', h') ∧ 0 ≤ x ∧ x ≤ 255 ∧ Cur b i' := by
  obtain ⟨h0, h1, h2⟩ := hc
  unfold spec_l01Byte.f
  by_cases hlt : i < (b.length : Int)
  · rw [if_pos hlt, if_pos h0]
    refine ⟨_, _, _, rfl, ?_, ?_, ?_⟩
    · rw [and255]; omega
    · rw [and255]; omega
    · rw [dw64 (n := i + 1) (by omega) (by omega)]; exact ⟨by omega, by omega, h2⟩
  · rw [if_neg hlt]
    refine ⟨_, _, _, rfl, ?_, ?_, ?_⟩
    · rw [and255]; omega
    · rw [and255]; omega
    · exact ⟨h0, h1, h2⟩
theorem tmod_lt {x n : Int} (hx : 0 ≤ x) (hn : 0 < n) : 0 ≤ x.tmod n ∧ x.tmod n < n := by
  rw [Int.tmod_eq_emod_of_nonneg hx]
  exact ⟨Int.emod_nonneg _ (by omega), Int.emod_lt_of_pos _ hn⟩
theorem below_some (b : List Int) (i h n : Int) (hc : Cur b i) (hn : 0 < n) (hn2 : n ≤ 2147483648) :
    ∃ x i' h', spec_l01Below.f b i h n = some (x, i', h') ∧ 0 ≤ x ∧ x < n ∧ Cur b i' := by
  unfold spec_l01Below.f
  rw [if_neg (by omega)]
  by_cases h256 : n ≤ 256
  · rw [if_pos h256]
    obtain ⟨x, i1, h1, e, hx0, hx1, hc1⟩ := byte_some b i h hc
    rw [e]; simp only [Option.bind_some]; rw [if_neg (by omega)]
    obtain ⟨a, c⟩ := tmod_lt (x := x) (n := n) hx0 hn
    exact ⟨_, _, _, rfl, a, c, hc1⟩
  · rw [if_neg h256]
    obtain ⟨x, i1, h1, e1, x0, x1, hc1⟩ := byte_some b i h hc
    rw [e1]; simp only [Option.bind_some]
    obtain ⟨y, i2, h2, e2, y0, y1, hc2⟩ := byte_some b i1 h1 hc1
    rw [e2]; simp only [Option.bind_some]
    obtain ⟨z, i3, h3, e3, z0, z1, hc3⟩ := byte_some b i2 h2 hc2
    rw [e3]; simp only [Option.bind_some]
    obtain ⟨w, i4, h4, e4, w0, w1, hc4⟩ := byte_some b i3 h3 hc3
    rw [e4]; simp only [Option.bind_some]; rw [if_neg (by omega)]
    rw [dw64 (n := x * 16777216) (by omega) (by omega), dw64 (n := y * 65536) (by omega) (by omega), dw64 (n := z * 256) (by omega) (by omega), dw64 (n := x * 16777216 + y * 65536) (by omega) (by omega),
      dw64 (n := x * 16777216 + y * 65536 + z * 256) (by omega) (by omega), dw64 (n := x * 16777216 + y * 65536 + z * 256 + w) (by omega) (by omega)]
    obtain ⟨a, c⟩ := tmod_lt (x := x * 16777216 + y * 65536 + z * 256 + w) (n := n) (by omega) hn
    exact ⟨_, _, _, rfl, a, c, hc4⟩
theorem once_some (b : List Int) (i h n : Int) (hc : Cur b i) (hn : 0 < n) (hn2 : n ≤ 2147483648) :
    ∃ x i' h', spec_l01Once.f b i h n = some (x, i', h') ∧ Cur b i' := by
  unfold spec_l01Once.f
  obtain ⟨x, i1, h1, e, _, _, hc1⟩ := below_some b i h n hc hn hn2
  rw [e]
  exact ⟨_, _, _, rfl, hc1⟩
theorem pick_some (b : List Int) (i h : Int) (l : List Int) (hc : Cur b i) (hn : 0 < l.length) (hn2 : (l.length : Int) ≤ 256) :
    ∃ x i' h', spec_l01PickInt.f b i h l = some (x, i', h') ∧ x ∈ l ∧ Cur b i' := by
  unfold spec_l01PickInt.f
  obtain ⟨x, i1, h1, e, h0, h2, hc1⟩ := below_some b i h l.length hc (by omega) (by omega)
  rw [e]; simp only [Option.bind_some]
  rw [if_pos h0, if_pos h2]
  refine ⟨_, _, _, rfl, ?_, hc1⟩
  unfold rd
  have hx : x.toNat < l.length := by omega
  rw [List.getD_eq_getElem?_getD, List.getElem?_eq_getElem hx]
  exact List.getElem_mem _
theorem within_eq (a b c : Int) : impl_within.f a b c = some (decide (b ≤ a ∧ a ≤ c)) := by
  unfold impl_within.f
  by_cases h : b ≤ a
  · rw [if_pos h]; congr 1; by_cases h2 : a ≤ c <;> simp [h2, h]
  · rw [if_neg h]; congr 1; simp; omega
theorem law_of {α : Type} [DecidableEq α] {s i : Option α} {r : α} (hs : s = some r) (hi : i = some r) : (s.bind fun t => i.bind fun u => if u = t then some true else some false) = some true := by
  subst hs hi; simp
theorem law_ofb {s i : Option Bool} {r : Bool} (hs : s = some r) (hi : i = some r) : (s.bind fun t => i.bind fun u => if (u != t) = true then some false else some true) = some true := by
  subst hs hi; simp
theorem wf_i64 {a : Int} (h : (Lit.int .i64 a).wf = true) : -9223372036854775808 ≤ a ∧ a ≤ 9223372036854775807 := by
  have h' : (decide ((-9223372036854775808 : Int) ≤ a) && decide (a ≤ 9223372036854775807)) = true := h
  simp at h'; omega
theorem w64 {n : Int} (h1 : -9223372036854775808 ≤ n) (h2 : n ≤ 9223372036854775807) : wrap64 n = n := by unfold wrap64; omega
theorem mul_bd {a b A B : Int} (h0 : 0 ≤ a) (h1 : a ≤ A) (h2 : 0 ≤ b) (h3 : b ≤ B) : 0 ≤ a * b ∧ a * b ≤ A * B := by
  refine ⟨Int.mul_nonneg h0 h2, ?_⟩
  exact Int.le_trans (Int.mul_le_mul_of_nonneg_right h1 h2) (Int.mul_le_mul_of_nonneg_left h3 (by omega))
theorem tdiv_nn {a b : Int} (h : 0 ≤ a) : a.tdiv b = a / b := Int.tdiv_eq_ediv_of_nonneg h
theorem div_bd {a A c : Int} (h0 : 0 ≤ a) (h1 : a ≤ A) (hc : 0 < c) : 0 ≤ a / c ∧ a / c ≤ A / c :=
  ⟨Int.ediv_nonneg h0 (by omega), Int.ediv_le_ediv hc h1⟩
theorem wrap_next {n : Nat} (h : n ≤ 140737488355328) : wrap64 ((n : Int) + 1) = ((n + 1 : Nat) : Int) := by unfold wrap64; omega
theorem drop_getD {α : Type} (x : List α) (z : α) (n : Nat) (h : n < x.length) : x.drop n = x.getD n z :: x.drop (n + 1) := by
  rw [List.getD_eq_getElem?_getD, List.getElem?_eq_getElem h]
  exact List.drop_eq_getElem_cons h
theorem rd_nat (x : List Int) (n : Nat) : rd x (n : Int) = x.getD n 0 := by unfold rd; rw [Int.toNat_natCast]
theorem take_set_next {α : Type} (x : List α) (n : Nat) (v : α) (h : n < x.length) : (x.set n v).take (n + 1) = x.take n ++ [v] := by
  rw [List.take_succ_eq_append_getElem (by simpa using h)]
  congr 1
  · rw [List.take_set_of_le (Nat.le_refl _)]
  · simp
theorem rdSk_nat (x : List S54) (n : Nat) : rd_T54 x (n : Int) = x.getD n z54 := by unfold rd_T54; rw [Int.toNat_natCast]
def stopB (s : S54) : Bool := decide ((0 ≤ s.f0 ∧ s.f0 ≤ 3) ∧ (-12 ≤ s.f1 ∧ s.f1 ≤ 24))
def stopsB (x : List S54) : Bool := x.all stopB && decide (x.length ≤ 6)
theorem impl_stops_loop (x : List S54) (hb : x.length ≤ 140737488355328) : ∀ (d n k : Nat), n ≤ x.length → x.length - n = d → d < k → impl_StopsOk.l0 k x x (x.length : Int) (n : Int) = some ((x.drop n).all stopB && decide (x.length ≤ 6)) := by
  intro d
  induction d with
  | zero =>
    intro n k h1 h2 hk
    obtain ⟨k, rfl⟩ : ∃ m, k = m + 1 := ⟨k - 1, by omega⟩
    simp only [impl_StopsOk.l0]
    rw [if_neg (by omega), List.drop_of_length_le (by omega)]
    simp only [List.all_nil, Bool.true_and]
    congr 1; rw [decide_eq_decide]; omega
  | succ d ih =>
    intro n k h1 h2 hk
    obtain ⟨k, rfl⟩ : ∃ m, k = m + 1 := ⟨k - 1, by omega⟩
    simp only [impl_StopsOk.l0, within_eq, Option.bind_some]
    rw [if_pos (by omega), if_pos (by omega), if_pos (by omega), rdSk_nat, wrap_next (by omega), drop_getD x z54 n (by omega), List.all_cons]
    by_cases c1 : 0 ≤ (x.getD n z54).f0 ∧ (x.getD n z54).f0 ≤ 3
    · rw [if_pos (decide_eq_true c1)]
      by_cases c2 : -12 ≤ (x.getD n z54).f1 ∧ (x.getD n z54).f1 ≤ 24
      · rw [if_pos (decide_eq_true c2), ih (n + 1) k (by omega) (by omega) (by omega)]
        have : stopB (x.getD n z54) = true := decide_eq_true ⟨c1, c2⟩
        rw [this, Bool.true_and]
      · rw [if_neg (by simpa using c2)]
        have : stopB (x.getD n z54) = false := decide_eq_false (fun hh => c2 hh.2)
        rw [this, Bool.false_and, Bool.false_and]
    · rw [if_neg (by simpa using c1)]
      have : stopB (x.getD n z54) = false := decide_eq_false (fun hh => c1 hh.1)
      rw [this, Bool.false_and, Bool.false_and]
theorem impl_StopsOk_eq (x : List S54) (hb : x.length ≤ 140737488355328) (k : Nat) (hk : x.length < k) : impl_StopsOk.f k x = some (stopsB x) := by
  unfold impl_StopsOk.f stopsB
  have h := impl_stops_loop x hb x.length 0 k (by omega) (by omega) hk
  simpa using h
def inR (a b x : Int) : Bool := decide (a ≤ x ∧ x ≤ b)
def pip (l : List S54) (i key : Int) : Option S31 := if 0 ≤ key + (rd_T54 l i).f1 ∧ key + (rd_T54 l i).f1 ≤ 39 then some ⟨(rd_T54 l i).f0, key + (rd_T54 l i).f1⟩ else none
def pipesK (l : List S54) (ks : List Int) (i : Int) : List S31 := ks.filterMap (pip l i)
def pipesD (l : List S54) (d ks : List Int) : List S31 := d.flatMap (pipesK l ks)
theorem stopB_at (l : List S54) (h : stopsB l = true) (i : Int) (h0 : 0 ≤ i) (h1 : i < (l.length : Int)) : (0 ≤ (rd_T54 l i).f0 ∧ (rd_T54 l i).f0 ≤ 3) ∧ (-12 ≤ (rd_T54 l i).f1 ∧ (rd_T54 l i).f1 ≤ 24) := by
  obtain ⟨n, rfl⟩ : ∃ n : Nat, i = n := ⟨i.toNat, by omega⟩
  rw [rdSk_nat]
  unfold stopsB at h
  rw [Bool.and_eq_true] at h
  have hm : l.getD n z54 ∈ l := by rw [List.getD_eq_getElem?_getD, List.getElem?_eq_getElem (by omega)]; exact List.getElem_mem _
  have := List.all_eq_true.1 h.1 _ hm
  unfold stopB at this
  exact of_decide_eq_true this
theorem stops_len (l : List S54) (h : stopsB l = true) : l.length ≤ 6 := by
  unfold stopsB at h
  rw [Bool.and_eq_true] at h
  exact of_decide_eq_true h.2
theorem pipesK_length (l : List S54) (ks : List Int) (i : Int) : (pipesK l ks i).length ≤ ks.length := List.length_filterMap_le _ _
theorem getD_mem_int (x : List Int) (n : Nat) (h : n < x.length) : x.getD n 0 ∈ x := by rw [List.getD_eq_getElem?_getD, List.getElem?_eq_getElem h]; exact List.getElem_mem _
theorem impl_l3 (l : List S54) (ks : List Int) (d : List Int) (dl m : Int) (i : Int) (hs : stopsB l = true) (h0 : 0 ≤ i) (h1 : i < (l.length : Int)) (hk : ∀ x ∈ ks, 0 ≤ x ∧ x ≤ 24) (hb : ks.length ≤ 1048600) : ∀ (e n k : Nat) (out : List S31), n ≤ ks.length → ks.length - n = e → out.length + e ≤ 4398046511104 →
    impl_PipesFor.l3 (k + e + 1) l ks out i d dl m ks (ks.length : Int) (n : Int) = impl_PipesFor.l2 k l ks (out ++ pipesK l (ks.drop n) i) d dl (wrap64 (m + 1)) := by
  obtain ⟨hr, hf⟩ := stopB_at l hs i h0 h1
  intro e
  induction e with
  | zero =>
    intro n k out hn he ho
    simp only [impl_PipesFor.l3]
    rw [if_neg (by omega), List.drop_of_length_le (by omega)]
    simp [pipesK]
  | succ e ih =>
    intro n k out hn he ho
    have hm := hk _ (getD_mem_int ks n (by omega))
    have hw : wrap64 (ks.getD n 0 + (rd_T54 l i).f1) = ks.getD n 0 + (rd_T54 l i).f1 := w64 (by omega) (by omega)
    rw [show k + (e + 1) + 1 = (k + e + 1) + 1 by omega]
    generalize hK : k + e + 1 = K
    simp only [impl_PipesFor.l3]
    rw [if_pos (by omega), if_pos (by omega), if_pos (by omega), if_pos h0, if_pos h1, rd_nat, hw, within_eq, wrap_next (by omega), drop_getD ks 0 n (by omega)]
    simp only [Option.bind_some, decide_eq_true_eq]
    by_cases c : 0 ≤ ks.getD n 0 + (rd_T54 l i).f1 ∧ ks.getD n 0 + (rd_T54 l i).f1 ≤ 39
    · rw [if_pos c, if_pos (by omega), ← hK, ih (n + 1) k _ (by omega) (by omega) (by simp; omega)]
      have : pip l i (ks.getD n 0) = some ⟨(rd_T54 l i).f0, ks.getD n 0 + (rd_T54 l i).f1⟩ := by unfold pip; rw [if_pos c]
      simp only [pipesK, List.filterMap_cons, this, List.append_assoc, List.singleton_append]
    · rw [if_neg c, ← hK, ih (n + 1) k _ (by omega) (by omega) (by omega)]
      have : pip l i (ks.getD n 0) = none := by unfold pip; rw [if_neg c]
      simp only [pipesK, List.filterMap_cons, this]
theorem impl_l2 (l : List S54) (ks : List Int) (d : List Int) (hs : stopsB l = true) (hd : ∀ x ∈ d, 0 ≤ x ∧ x < (l.length : Int)) (hk : ∀ x ∈ ks, 0 ≤ x ∧ x ≤ 24) (hb : ks.length ≤ 1048600) (hbd : d.length ≤ 1048600) : ∀ (e m k : Nat) (out : List S31), m ≤ d.length → d.length - m = e → out.length + e * ks.length ≤ 4398046511104 →
    impl_PipesFor.l2 (k + e * (ks.length + 2) + 1) l ks out d (d.length : Int) (m : Int) = impl_pipesOf.f (out ++ pipesD l (d.drop m) ks) := by
  intro e
  induction e with
  | zero =>
    intro m k out hm he ho
    simp only [impl_PipesFor.l2]
    rw [if_neg (by omega), List.drop_of_length_le (by omega)]
    simp only [pipesD, List.flatMap_nil, List.append_nil]
    cases impl_pipesOf.f out <;> rfl
  | succ e ih =>
    intro m k out hm he ho
    have hx := hd _ (getD_mem_int d m (by omega))
    have ek : k + (e + 1) * (ks.length + 2) + 1 = ((k + e * (ks.length + 2) + 1) + ks.length + 1) + 1 := by rw [Nat.add_mul]; omega
    have eo : (e + 1) * ks.length = e * ks.length + ks.length := by rw [Nat.add_mul]; omega
    rw [ek]
    generalize hK : (k + e * (ks.length + 2) + 1) + ks.length + 1 = K
    simp only [impl_PipesFor.l2]
    rw [if_pos (by omega), if_pos (by omega), if_pos (by omega), rd_nat]
    have h3 := impl_l3 l ks d (d.length : Int) (m : Int) (d.getD m 0) hs hx.1 hx.2 hk hb ks.length 0 (k + e * (ks.length + 2) + 1) out (by omega) (by omega) (by omega)
    have hl := pipesK_length l ks (d.getD m 0)
    rw [show ((0 : Nat) : Int) = 0 from rfl] at h3
    rw [← hK, h3, wrap_next (by omega), List.drop_zero, ih (m + 1) k _ (by omega) (by omega) (by rw [List.length_append]; omega), drop_getD d 0 m (by omega)]
    simp only [pipesD, List.flatMap_cons, List.append_assoc]
theorem impl_l1 (l : List S54) (ks : List Int) (d : List Int) (hb : ks.length ≤ 1048600) : ∀ (e n k : Nat), n ≤ ks.length → ks.length - n = e →
    impl_PipesFor.l1 (k + e + 1) l d ks ks (ks.length : Int) (n : Int) = if (ks.drop n).all (inR 0 24) = true then impl_PipesFor.l2 k l ks [] d (d.length : Int) 0 else some [] := by
  intro e
  induction e with
  | zero =>
    intro n k hn he
    simp only [impl_PipesFor.l1]
    rw [if_neg (by omega), List.drop_of_length_le (by omega)]
    simp
  | succ e ih =>
    intro n k hn he
    rw [show k + (e + 1) + 1 = (k + e + 1) + 1 by omega]
    generalize hK : k + e + 1 = K
    simp only [impl_PipesFor.l1]
    rw [if_pos (by omega), if_pos (by omega), if_pos (by omega), rd_nat, within_eq, wrap_next (by omega), drop_getD ks 0 n (by omega), ← hK, ih (n + 1) k (by omega) (by omega)]
    simp only [Option.bind_some, List.all_cons]
    cases hc : decide (0 ≤ ks.getD n 0 ∧ ks.getD n 0 ≤ 24)
    · have : inR 0 24 (ks.getD n 0) = false := hc
      simp only [this, Bool.false_and, Bool.false_eq_true, if_false]
    · have : inR 0 24 (ks.getD n 0) = true := hc
      simp only [this, Bool.true_and, if_true]
theorem impl_l0 (l : List S54) (ks : List Int) (d : List Int) (hbd : d.length ≤ 1048600) (hl : l.length ≤ 1048600) : ∀ (e n k : Nat), n ≤ d.length → d.length - n = e →
    impl_PipesFor.l0 (k + e + 1) l d ks d (d.length : Int) (n : Int) = if (d.drop n).all (inR 0 ((l.length : Int) - 1)) = true then impl_PipesFor.l1 k l d ks ks (ks.length : Int) 0 else some [] := by
  intro e
  have hw : wrap64 ((l.length : Int) - 1) = (l.length : Int) - 1 := w64 (by omega) (by omega)
  induction e with
  | zero =>
    intro n k hn he
    simp only [impl_PipesFor.l0]
    rw [if_neg (by omega), List.drop_of_length_le (by omega)]
    simp
  | succ e ih =>
    intro n k hn he
    rw [show k + (e + 1) + 1 = (k + e + 1) + 1 by omega]
    generalize hK : k + e + 1 = K
    simp only [impl_PipesFor.l0]
    rw [if_pos (by omega), if_pos (by omega), if_pos (by omega), rd_nat, hw, within_eq, wrap_next (by omega), drop_getD d 0 n (by omega), ← hK, ih (n + 1) k (by omega) (by omega)]
    simp only [Option.bind_some, List.all_cons]
    cases hc : decide (0 ≤ d.getD n 0 ∧ d.getD n 0 ≤ (l.length : Int) - 1)
    · have : inR 0 ((l.length : Int) - 1) (d.getD n 0) = false := hc
      simp only [this, Bool.false_and, Bool.false_eq_true, if_false]
    · have : inR 0 ((l.length : Int) - 1) (d.getD n 0) = true := hc
      simp only [this, Bool.true_and, if_true]
def okP (l : List S54) (d ks : List Int) : Bool := stopsB l && (d.all (inR 0 ((l.length : Int) - 1)) && ks.all (inR 0 24))
theorem okP_stops {l : List S54} {d ks : List Int} (h : okP l d ks = true) : stopsB l = true := by unfold okP at h; rw [Bool.and_eq_true] at h; exact h.1
theorem okP_drawn {l : List S54} {d ks : List Int} (h : okP l d ks = true) : ∀ x ∈ d, 0 ≤ x ∧ x < (l.length : Int) := by
  unfold okP at h
  rw [Bool.and_eq_true, Bool.and_eq_true] at h
  intro x hx
  have := of_decide_eq_true (List.all_eq_true.1 h.2.1 x hx)
  omega
theorem okP_keys {l : List S54} {d ks : List Int} (h : okP l d ks = true) : ∀ x ∈ ks, 0 ≤ x ∧ x ≤ 24 := by
  unfold okP at h
  rw [Bool.and_eq_true, Bool.and_eq_true] at h
  intro x hx
  exact of_decide_eq_true (List.all_eq_true.1 h.2.2 x hx)
def sortP (l : List S31) : List S31 := (impl_pipesOf.dd l).mergeSort impl_pipesOf.le
theorem pipesD_length (l : List S54) (d ks : List Int) : (pipesD l d ks).length ≤ d.length * ks.length := by
  induction d with
  | nil => simp [pipesD]
  | cons i d ih =>
    have h := pipesK_length l ks i
    have e : pipesD l (i :: d) ks = pipesK l ks i ++ pipesD l d ks := by simp [pipesD]
    rw [e, List.length_append, List.length_cons, Nat.add_mul]
    omega
theorem mul_le_big {a b : Nat} (ha : a ≤ 1048600) (hb : b ≤ 1048600) : a * b ≤ 1099561960000 := Nat.le_trans (Nat.mul_le_mul ha hb) (by decide)
theorem impl_PipesFor_eq (l : List S54) (d ks : List Int) (hl : l.length ≤ 1048600) (hbd : d.length ≤ 1048600) (hb : ks.length ≤ 1048600) (k : Nat) (hk : 4000000000000 < k) :
    impl_PipesFor.f k l d ks = some (if okP l d ks = true then sortP (pipesD l d ks) else []) := by
  unfold impl_PipesFor.f
  rw [impl_StopsOk_eq l (by omega) k (by omega)]
  simp only [Option.bind_some]
  cases hs : stopsB l
  · have : okP l d ks = false := by unfold okP; rw [hs]; rfl
    simp [this]
  · rw [if_pos rfl]
    obtain ⟨k, rfl⟩ : ∃ j, k = j + d.length + 1 := ⟨k - d.length - 1, by omega⟩
    have h0 := impl_l0 l ks d hbd hl d.length 0 k (by omega) (by omega)
    rw [show ((0 : Nat) : Int) = 0 from rfl, List.drop_zero] at h0
    rw [h0]
    cases hd : d.all (inR 0 ((l.length : Int) - 1))
    · have : okP l d ks = false := by unfold okP; rw [hs, hd]; rfl
      simp [this]
    · rw [if_pos rfl]
      obtain ⟨k, rfl⟩ : ∃ j, k = j + ks.length + 1 := ⟨k - ks.length - 1, by omega⟩
      have h1 := impl_l1 l ks d hb ks.length 0 k (by omega) (by omega)
      rw [show ((0 : Nat) : Int) = 0 from rfl, List.drop_zero] at h1
      rw [h1]
      cases hks : ks.all (inR 0 24)
      · have : okP l d ks = false := by unfold okP; rw [hs, hd, hks]; rfl
        simp [this]
      · rw [if_pos rfl]
        have ho : okP l d ks = true := by unfold okP; rw [hs, hd, hks]; rfl
        have hF : d.length * (ks.length + 2) + 1 ≤ 1200000000000 := by
          have := Nat.mul_le_mul (show d.length ≤ 1048600 from hbd) (show ks.length + 2 ≤ 1048602 by omega)
          omega
        have hE := mul_le_big hbd hb
        obtain ⟨k, rfl⟩ : ∃ j, k = j + d.length * (ks.length + 2) + 1 := ⟨k - d.length * (ks.length + 2) - 1, by omega⟩
        have h2 := impl_l2 l ks d hs (okP_drawn ho) (okP_keys ho) hb hbd d.length 0 k [] (by omega) (by omega) (by simp; omega)
        rw [show ((0 : Nat) : Int) = 0 from rfl, List.drop_zero, List.nil_append] at h2
        rw [h2, if_pos ho]
        have hp := pipesD_length l d ks
        unfold impl_pipesOf.f
        rw [if_pos (by omega)]
        rfl
def hitK (l : List S54) (r n : Int) (i key : Int) : Bool := (rd_T54 l i).f0 == r && (key + (rd_T54 l i).f1) == n
def cellP (l : List S54) (d ks : List Int) (r n : Nat) : Option S31 := if (d.any fun i => ks.any (hitK l r n i)) = true then some ⟨(r : Int), (n : Int)⟩ else none
theorem rowP_succ (l : List S54) (d ks : List Int) (r n e : Nat) : (List.range' n (e + 1)).filterMap (cellP l d ks r) = (if (d.any fun i => ks.any (hitK l r n i)) = true then [(⟨(r : Int), (n : Int)⟩ : S31)] else []) ++ (List.range' (n + 1) e).filterMap (cellP l d ks r) := by
  rw [List.range'_succ]
  by_cases c : (d.any fun i => ks.any (hitK l r n i)) = true
  · have : cellP l d ks r n = some ⟨(r : Int), (n : Int)⟩ := by unfold cellP; rw [if_pos c]
    rw [List.filterMap_cons, this, if_pos c]
    rfl
  · have : cellP l d ks r n = none := by unfold cellP; rw [if_neg c]
    rw [List.filterMap_cons, this, if_neg c]
    rfl
def specP (l : List S54) (d ks : List Int) (r e : Nat) : List S31 := (List.range' r e).flatMap fun r => (List.range' 0 40).filterMap (cellP l d ks r)
theorem sameP_iff (p q : S31) : impl_pipesOf.same p q = true ↔ p = q := by
  obtain ⟨a, b⟩ := p
  obtain ⟨c, d⟩ := q
  simp [impl_pipesOf.same]
theorem knownP_iff (l : List S31) (p : S31) : impl_pipesOf.known l p = true ↔ p ∈ l := by
  unfold impl_pipesOf.known
  rw [List.any_eq_true]
  constructor
  · rintro ⟨q, hq, h⟩
    rw [(sameP_iff p q).1 h]
    exact hq
  · intro h
    exact ⟨p, h, (sameP_iff p p).2 rfl⟩
theorem ddP_go : ∀ (l acc : List S31), acc.Nodup → (l.foldl impl_pipesOf.add acc).Nodup ∧ ∀ p, p ∈ l.foldl impl_pipesOf.add acc ↔ p ∈ acc ∨ p ∈ l := by
  intro l
  induction l with
  | nil => intro acc h; exact ⟨h, fun p => by simp⟩
  | cons q l ih =>
    intro acc h
    by_cases c : impl_pipesOf.known acc q = true
    · have e : impl_pipesOf.add acc q = acc := by unfold impl_pipesOf.add; rw [if_pos c]
      obtain ⟨h1, h2⟩ := ih acc h
      rw [List.foldl_cons, e]
      refine ⟨h1, fun p => ?_⟩
      rw [h2, List.mem_cons]
      have hq := (knownP_iff acc q).1 c
      constructor
      · rintro (h | h)
        · exact .inl h
        · exact .inr (.inr h)
      · rintro (h | rfl | h)
        · exact .inl h
        · exact .inl hq
        · exact .inr h
    · have e : impl_pipesOf.add acc q = acc ++ [q] := by unfold impl_pipesOf.add; rw [if_neg c]
      have hq : q ∉ acc := fun hh => c ((knownP_iff acc q).2 hh)
      have hn : (acc ++ [q]).Nodup := by
        rw [List.nodup_append]
        exact ⟨h, by simp, fun a ha b hb => by rw [List.mem_singleton.1 hb]; rintro rfl; exact hq ha⟩
      obtain ⟨h1, h2⟩ := ih (acc ++ [q]) hn
      rw [List.foldl_cons, e]
      refine ⟨h1, fun p => ?_⟩
      rw [h2, List.mem_append, List.mem_singleton, List.mem_cons]
      constructor
      · rintro ((h | h) | h)
        · exact .inl h
        · exact .inr (.inl h)
        · exact .inr (.inr h)
      · rintro (h | h | h)
        · exact .inl (.inl h)
        · exact .inl (.inr h)
        · exact .inr h
theorem ddP_nodup (l : List S31) : (impl_pipesOf.dd l).Nodup := (ddP_go l [] List.nodup_nil).1
theorem ddP_mem (l : List S31) (p : S31) : p ∈ impl_pipesOf.dd l ↔ p ∈ l := by
  have := (ddP_go l [] List.nodup_nil).2 p
  simpa [impl_pipesOf.dd] using this
theorem ltP_antisymm {a b : S31} (h1 : impl_pipesOf.lt a b = false) (h2 : impl_pipesOf.lt b a = false) : a = b := by
  obtain ⟨x, y⟩ := a
  obtain ⟨u, v⟩ := b
  simp [impl_pipesOf.lt] at h1 h2
  have e : x = u := by omega
  subst e
  have e : y = v := by omega
  rw [e]
theorem ltP_asymm {a b : S31} (h1 : impl_pipesOf.lt a b = true) : impl_pipesOf.lt b a = false := by
  simp [impl_pipesOf.lt] at *
  omega
theorem sortP_pairwise (l : List S31) : (sortP l).Pairwise (fun a b => impl_pipesOf.lt b a = false) := by
  have h2 : (sortP l).Pairwise (fun a b => impl_pipesOf.le a b = true) := List.pairwise_mergeSort (fun a b c hab hbc => by simp [impl_pipesOf.le, impl_pipesOf.lt] at *; omega) (fun a b => by simp [impl_pipesOf.le, impl_pipesOf.lt]; omega) _
  exact h2.imp (fun h => by simpa [impl_pipesOf.le] using h)
theorem sortP_perm (l : List S31) : (sortP l).Perm (impl_pipesOf.dd l) := List.mergeSort_perm _ _
theorem uniqueP {ys zs : List S31} (hp : zs.Perm (impl_pipesOf.dd ys)) (hs : zs.Pairwise (fun a b => impl_pipesOf.lt b a = false)) : sortP ys = zs :=
  ((sortP_perm ys).trans hp.symm).eq_of_pairwise (fun a b _ _ hab hba => ltP_antisymm hba hab) (sortP_pairwise ys) hs
theorem cellP_some {l : List S54} {d ks : List Int} {r n : Nat} {p : S31} (h : cellP l d ks r n = some p) : p = ⟨(r : Int), (n : Int)⟩ ∧ (d.any fun i => ks.any (hitK l r n i)) = true := by
  unfold cellP at h
  split at h
  · rename_i c
    exact ⟨(Option.some.inj h).symm, c⟩
  · cases h
theorem specP_lt (l : List S54) (d ks : List Int) : (specP l d ks 0 4).Pairwise (fun a b => impl_pipesOf.lt a b = true) := by
  unfold specP
  rw [List.pairwise_flatMap]
  refine ⟨fun r _ => ?_, ?_⟩
  · rw [List.pairwise_filterMap]
    refine List.Pairwise.imp ?_ (List.pairwise_lt_range' (s := 0) (n := 40))
    intro a b hab p hp q hq
    rw [(cellP_some hp).1, (cellP_some hq).1]
    simp [impl_pipesOf.lt]
    omega
  · refine List.Pairwise.imp ?_ (List.pairwise_lt_range' (s := 0) (n := 4))
    intro a b hab p hp q hq
    obtain ⟨n, _, hn⟩ := List.mem_filterMap.1 hp
    obtain ⟨m, _, hm⟩ := List.mem_filterMap.1 hq
    rw [(cellP_some hn).1, (cellP_some hm).1]
    simp [impl_pipesOf.lt]
    omega
theorem pipesD_mem (l : List S54) (d ks : List Int) (p : S31) : p ∈ pipesD l d ks ↔ ∃ i ∈ d, ∃ key ∈ ks, (0 ≤ key + (rd_T54 l i).f1 ∧ key + (rd_T54 l i).f1 ≤ 39) ∧ p = ⟨(rd_T54 l i).f0, key + (rd_T54 l i).f1⟩ := by
  unfold pipesD
  rw [List.mem_flatMap]
  constructor
  · rintro ⟨i, hi, h⟩
    obtain ⟨key, hkey, h⟩ := List.mem_filterMap.1 h
    unfold pip at h
    split at h
    · rename_i c
      exact ⟨i, hi, key, hkey, c, (Option.some.inj h).symm⟩
    · cases h
  · rintro ⟨i, hi, key, hkey, c, rfl⟩
    refine ⟨i, hi, List.mem_filterMap.2 ⟨key, hkey, ?_⟩⟩
    unfold pip
    rw [if_pos c]
theorem specP_mem (l : List S54) (d ks : List Int) (p : S31) : p ∈ specP l d ks 0 4 ↔ ∃ r : Nat, r < 4 ∧ ∃ n : Nat, n < 40 ∧ p = ⟨(r : Int), (n : Int)⟩ ∧ (d.any fun i => ks.any (hitK l r n i)) = true := by
  unfold specP
  rw [List.mem_flatMap]
  constructor
  · rintro ⟨r, hr, h⟩
    obtain ⟨n, hn, h⟩ := List.mem_filterMap.1 h
    simp at hr hn
    exact ⟨r, hr, n, hn, (cellP_some h).1, (cellP_some h).2⟩
  · rintro ⟨r, hr, n, hn, rfl, h⟩
    refine ⟨r, by simpa using hr, List.mem_filterMap.2 ⟨n, by simpa using hn, ?_⟩⟩
    unfold cellP
    rw [if_pos h]
theorem specP_iff (l : List S54) (d ks : List Int) (ho : okP l d ks = true) (p : S31) : p ∈ specP l d ks 0 4 ↔ p ∈ pipesD l d ks := by
  rw [specP_mem, pipesD_mem]
  constructor
  · rintro ⟨r, hr, n, hn, rfl, h⟩
    obtain ⟨i, hi, h⟩ := List.any_eq_true.1 h
    obtain ⟨key, hkey, h⟩ := List.any_eq_true.1 h
    unfold hitK at h
    rw [Bool.and_eq_true, beq_iff_eq, beq_iff_eq] at h
    refine ⟨i, hi, key, hkey, by omega, ?_⟩
    rw [h.1, h.2]
  · rintro ⟨i, hi, key, hkey, c, rfl⟩
    have hx := okP_drawn ho i hi
    obtain ⟨hr, _⟩ := stopB_at l (okP_stops ho) i hx.1 hx.2
    refine ⟨(rd_T54 l i).f0.toNat, by omega, (key + (rd_T54 l i).f1).toNat, by omega, ?_, ?_⟩
    · rw [Int.toNat_of_nonneg hr.1, Int.toNat_of_nonneg c.1]
    · rw [List.any_eq_true]
      refine ⟨i, hi, List.any_eq_true.2 ⟨key, hkey, ?_⟩⟩
      unfold hitK
      rw [Bool.and_eq_true, beq_iff_eq, beq_iff_eq, Int.toNat_of_nonneg hr.1, Int.toNat_of_nonneg c.1]
      exact ⟨rfl, rfl⟩
theorem sortP_spec (l : List S54) (d ks : List Int) (ho : okP l d ks = true) : sortP (pipesD l d ks) = specP l d ks 0 4 := by
  have hlt := specP_lt l d ks
  refine uniqueP ?_ (hlt.imp (fun h => ltP_asymm h))
  have hn : (specP l d ks 0 4).Nodup := hlt.imp (fun h e => by subst e; have := ltP_asymm h; rw [h] at this; cases this)
  exact (List.perm_ext_iff_of_nodup hn (ddP_nodup _)).2 (fun p => by rw [specP_iff l d ks ho, ddP_mem])
theorem specP_length (l : List S54) (d ks : List Int) : (specP l d ks 0 4).length ≤ 160 := by
  have h : ∀ r, ((List.range' 0 40).filterMap (cellP l d ks r)).length ≤ 40 := fun r => by
    have := List.length_filterMap_le (cellP l d ks r) (List.range' 0 40)
    rwa [List.length_range'] at this
  have e : specP l d ks 0 4 = (List.range' 0 40).filterMap (cellP l d ks 0) ++ ((List.range' 0 40).filterMap (cellP l d ks 1) ++ ((List.range' 0 40).filterMap (cellP l d ks 2) ++ ((List.range' 0 40).filterMap (cellP l d ks 3) ++ []))) := rfl
  have h0 := h 0
  have h1 := h 1
  have h2 := h 2
  have h3 := h 3
  rw [e]
  simp only [List.length_append, List.length_nil]
  omega
theorem impl_Coupled_some (l : List Int) (a : Int) : ∃ r, impl_Coupled.f l a = some r ∧ r.length ≤ 25 := by
  unfold impl_Coupled.f
  split
  · refine ⟨_, rfl, ?_⟩
    have := List.length_filter_le (impl_Coupled.hit l a) (List.range 25)
    simp at this
    simpa using this
  · exact ⟨_, rfl, by simp⟩
theorem stopsDraw_loop (b : List Int) (n : Int) : ∀ (d k : Nat) (acc : List S54) (j i h : Int), 0 ≤ j → j = n - d → n ≤ 5 → d < k → Cur b i → acc.all stopB = true → (acc.length : Int) = j →
    ∃ r i' h', spec_l28Stops.l0 k acc n j b i h = some (r, i', h') ∧ Cur b i' ∧ r.all stopB = true ∧ (r.length : Int) = n := by
  intro d
  induction d with
  | zero =>
    intro k acc j i h h0 hj hn hk hc ha hl
    obtain ⟨k, rfl⟩ : ∃ m, k = m + 1 := ⟨k - 1, by omega⟩
    simp only [spec_l28Stops.l0]
    rw [if_neg (by omega)]
    exact ⟨acc, i, h, rfl, hc, ha, by omega⟩
  | succ d ih =>
    intro k acc j i h h0 hj hn hk hc ha hl
    obtain ⟨k, rfl⟩ : ∃ m, k = m + 1 := ⟨k - 1, by omega⟩
    obtain ⟨x, i1, h1, e1, x0, x1, c1⟩ := below_some b i h 4 hc (by omega) (by omega)
    obtain ⟨y, i2, h2, e2, ym, c2⟩ := pick_some b i1 h1 [0, 12, 24, 7, -12] c1 (by simp) (by simp)
    simp only [spec_l28Stops.l0]
    rw [if_pos (by omega), e1]
    simp only [Option.bind_some]
    rw [e2]
    simp only [Option.bind_some]
    rw [if_pos (by omega), w64 (n := j + 1) (by omega) (by omega)]
    refine ih k _ (j + 1) i2 h2 (by omega) (by omega) hn (by omega) c2 ?_ (by simp; omega)
    rw [List.all_append, ha, Bool.true_and]
    simp only [List.all_cons, List.all_nil, Bool.and_true]
    unfold stopB
    simp only [List.mem_cons, List.not_mem_nil, or_false] at ym
    show decide ((0 ≤ x ∧ x ≤ 3) ∧ (-12 ≤ y ∧ y ≤ 24)) = true
    exact decide_eq_true (by omega)
theorem drawnDraw_loop (b : List Int) (n : Int) : ∀ (d k : Nat) (acc : List Int) (j i h : Int), 0 ≤ j → j = n - d → n ≤ 6 → d < k → Cur b i → (∀ x ∈ acc, 0 ≤ x ∧ x < j) → (acc.length : Int) ≤ j →
    ∃ r i' h', spec_l28Drawn.l0 k n acc j b i h = some (r, i', h') ∧ Cur b i' ∧ (∀ x ∈ r, 0 ≤ x ∧ x < n) ∧ (r.length : Int) ≤ n := by
  intro d
  induction d with
  | zero =>
    intro k acc j i h h0 hj hn hk hc ha hl
    obtain ⟨k, rfl⟩ : ∃ m, k = m + 1 := ⟨k - 1, by omega⟩
    simp only [spec_l28Drawn.l0]
    rw [if_neg (by omega)]
    exact ⟨acc, i, h, rfl, hc, fun x hx => by have := ha x hx; omega, by omega⟩
  | succ d ih =>
    intro k acc j i h h0 hj hn hk hc ha hl
    obtain ⟨k, rfl⟩ : ∃ m, k = m + 1 := ⟨k - 1, by omega⟩
    obtain ⟨x, i1, h1, e1, c1⟩ := once_some b i h 2 hc (by omega) (by omega)
    simp only [spec_l28Drawn.l0]
    rw [if_pos (by omega), e1]
    simp only [Option.bind_some]
    rw [w64 (n := j + 1) (by omega) (by omega)]
    cases x
    · rw [if_neg (by simp)]
      exact ih k acc (j + 1) i1 h1 (by omega) (by omega) hn (by omega) c1 (fun x hx => by have := ha x hx; omega) (by omega)
    · rw [if_pos rfl, if_pos (by omega)]
      refine ih k _ (j + 1) i1 h1 (by omega) (by omega) hn (by omega) c1 ?_ (by simp; omega)
      intro x hx
      rcases List.mem_append.1 hx with hx | hx
      · have := ha x hx; omega
      · rw [List.mem_singleton.1 hx]; omega
theorem keysDraw_loop (b : List Int) (n : Int) : ∀ (d k : Nat) (acc : List Int) (j i h : Int), 0 ≤ j → j = n - d → n ≤ 6 → d < k → Cur b i → (∀ x ∈ acc, 0 ≤ x ∧ x ≤ 24) → (acc.length : Int) = j →
    ∃ r i' h', spec_l28Keys.l0 k acc n j b i h = some (r, i', h') ∧ Cur b i' ∧ (∀ x ∈ r, 0 ≤ x ∧ x ≤ 24) ∧ (r.length : Int) = n := by
  intro d
  induction d with
  | zero =>
    intro k acc j i h h0 hj hn hk hc ha hl
    obtain ⟨k, rfl⟩ : ∃ m, k = m + 1 := ⟨k - 1, by omega⟩
    simp only [spec_l28Keys.l0]
    rw [if_neg (by omega)]
    exact ⟨acc, i, h, rfl, hc, ha, by omega⟩
  | succ d ih =>
    intro k acc j i h h0 hj hn hk hc ha hl
    obtain ⟨k, rfl⟩ : ∃ m, k = m + 1 := ⟨k - 1, by omega⟩
    obtain ⟨x, i1, h1, e1, x0, x1, c1⟩ := below_some b i h 25 hc (by omega) (by omega)
    simp only [spec_l28Keys.l0]
    rw [if_pos (by omega), e1]
    simp only [Option.bind_some]
    rw [if_pos (by omega), w64 (n := j + 1) (by omega) (by omega)]
    refine ih k _ (j + 1) i1 h1 (by omega) (by omega) hn (by omega) c1 ?_ (by simp; omega)
    intro y hy
    rcases List.mem_append.1 hy with hy | hy
    · exact ha y hy
    · rw [List.mem_singleton.1 hy]; omega
theorem drawStops_some (b : List Int) (hl : (b.length : Int) ≤ 140737488351232) (k : Nat) (hk : 4000 < k) : ∃ l d ks, spec_DrawStops.f k b = some (l, d, ks) ∧ stopsB l = true ∧ l.length ≤ 5 ∧ (∀ x ∈ d, 0 ≤ x ∧ x < (l.length : Int)) ∧ d.length ≤ 5 ∧ (∀ x ∈ ks, 0 ≤ x ∧ x ≤ 24) ∧ ks.length ≤ 5 := by
  obtain ⟨h, e0⟩ := new_some b hl k hk
  have c0 : Cur b 0 := ⟨by omega, by omega, hl⟩
  obtain ⟨n, i1, h1, e1, n0, n1, c1⟩ := below_some b 0 h 6 c0 (by omega) (by omega)
  obtain ⟨l, i2, h2, e2, c2, hls, hll⟩ := stopsDraw_loop b n n.toNat k [] 0 i1 h1 (by omega) (by omega) (by omega) (by omega) c1 rfl rfl
  obtain ⟨d, i3, h3, e3, c3, hd, hdl⟩ := drawnDraw_loop b (l.length : Int) l.length k [] 0 i2 h2 (by omega) (by omega) (by omega) (by omega) c2 (by simp) (by simp)
  obtain ⟨m, i4, h4, e4, m0, m1, c4⟩ := below_some b i3 h3 6 c3 (by omega) (by omega)
  obtain ⟨ks, i5, h5, e5, c5, hks, hkl⟩ := keysDraw_loop b m m.toNat k [] 0 i4 h4 (by omega) (by omega) (by omega) (by omega) c4 (by simp) rfl
  refine ⟨l, d, ks, ?_, ?_, by omega, hd, by omega, hks, by omega⟩
  · unfold spec_DrawStops.f spec_l28Stops.f spec_l28Drawn.f spec_l28Keys.f
    rw [e0]; simp only [Option.bind_some]
    rw [e1]; simp only [Option.bind_some]
    rw [e2]; simp only [Option.bind_some]
    rw [e3]; simp only [Option.bind_some]
    rw [e4]; simp only [Option.bind_some]
    rw [e5]; simp only [Option.bind_some]
  · unfold stopsB
    rw [hls, Bool.true_and]
    exact decide_eq_true (by omega)
theorem okP_of {l : List S54} {d ks : List Int} (h1 : stopsB l = true) (h2 : ∀ x ∈ d, 0 ≤ x ∧ x < (l.length : Int)) (h3 : ∀ x ∈ ks, 0 ≤ x ∧ x ≤ 24) : okP l d ks = true := by
  unfold okP
  rw [h1, Bool.true_and, Bool.and_eq_true, List.all_eq_true, List.all_eq_true]
  exact ⟨fun x hx => decide_eq_true (by have := h2 x hx; omega), fun x hx => decide_eq_true (h3 x hx)⟩
theorem nodup_le {α : Type} : ∀ (a b : List α), a.Nodup → (∀ x ∈ a, x ∈ b) → a.length ≤ b.length
  | [], _, _, _ => Nat.zero_le _
  | x :: a, b, hn, hs => by
    obtain ⟨hx, hn⟩ := List.nodup_cons.1 hn
    obtain ⟨s, t, rfl⟩ := List.append_of_mem (hs x List.mem_cons_self)
    have := nodup_le a (s ++ t) hn (fun y hy => by
      have h := hs y (List.mem_cons_of_mem _ hy)
      rcases List.mem_append.1 h with h | h
      · exact List.mem_append_left _ h
      · rcases List.mem_cons.1 h with rfl | h
        · exact absurd hy hx
        · exact List.mem_append_right _ h)
    simp only [List.length_append, List.length_cons] at *
    omega
theorem sortP_length (x : List S31) : (sortP x).length = (impl_pipesOf.dd x).length := (sortP_perm x).length_eq
theorem sortP_le {x y : List S31} (h : ∀ p ∈ x, p ∈ y) : (sortP x).length ≤ (sortP y).length := by
  rw [sortP_length, sortP_length]
  exact nodup_le _ _ (ddP_nodup x) (fun p hp => (ddP_mem y p).2 (h p ((ddP_mem x p).1 hp)))
theorem sortP_le_length (x : List S31) : (sortP x).length ≤ x.length := by
  rw [sortP_length]
  exact nodup_le _ _ (ddP_nodup x) (fun p hp => (ddP_mem x p).1 hp)
theorem pipesD_mono {l : List S54} {d ks ks' : List Int} (h : ∀ x ∈ ks, x ∈ ks') : ∀ p ∈ pipesD l d ks, p ∈ pipesD l d ks' := by
  intro p hp
  obtain ⟨i, hi, key, hkey, c, e⟩ := (pipesD_mem l d ks p).1 hp
  exact (pipesD_mem l d ks' p).2 ⟨i, hi, key, h key hkey, c, e⟩
theorem has_loop (l : List Int) (v : Int) (hb : l.length ≤ 140737488355328) : ∀ (d n k : Nat), n ≤ l.length → l.length - n = d → d < k → laws_has.l0 k l v (n : Int) = some (decide (v ∈ l.drop n)) := by
  intro d
  induction d with
  | zero =>
    intro n k h1 h2 hk
    obtain ⟨k, rfl⟩ : ∃ m, k = m + 1 := ⟨k - 1, by omega⟩
    simp only [laws_has.l0]
    rw [if_neg (by omega), List.drop_of_length_le (by omega)]
    simp
  | succ d ih =>
    intro n k h1 h2 hk
    obtain ⟨k, rfl⟩ : ∃ m, k = m + 1 := ⟨k - 1, by omega⟩
    simp only [laws_has.l0]
    rw [if_pos (by omega), if_pos (by omega), rd_nat, wrap_next (by omega), drop_getD l 0 n (by omega), ih (n + 1) k (by omega) (by omega) (by omega)]
    by_cases e : l.getD n 0 = v
    · rw [if_pos e, e]; simp
    · rw [if_neg e]
      have e' : v ≠ l.getD n 0 := fun h => e h.symm
      simp only [List.mem_cons, e', false_or]
theorem has_eq (l : List Int) (v : Int) (hb : l.length ≤ 140737488355328) (k : Nat) (hk : l.length < k) : laws_has.f k l v = some (decide (v ∈ l)) := by
  unfold laws_has.f
  have h := has_loop l v hb l.length 0 k (by omega) (by omega) hk
  simpa using h
def coup (ks : List Int) : List Int := ((List.range 25).filter (impl_Coupled.hit ks 12)).map Int.ofNat
theorem coup_eq (ks : List Int) (h : ∀ x ∈ ks, 0 ≤ x ∧ x ≤ 24) : impl_Coupled.f ks 12 = some (coup ks) := by
  unfold impl_Coupled.f
  rw [if_pos ⟨h, by omega, by omega⟩]
  rfl
theorem coup_length (ks : List Int) : (coup ks).length ≤ 25 := by
  have := List.length_filter_le (impl_Coupled.hit ks 12) (List.range 25)
  unfold coup
  simp at this
  simpa using this
theorem coup_range (ks : List Int) : ∀ x ∈ coup ks, 0 ≤ x ∧ x ≤ 24 := by
  intro x hx
  unfold coup at hx
  obtain ⟨n, hn, rfl⟩ := List.mem_map.1 hx
  have := List.mem_range.1 (List.mem_filter.1 hn).1
  simp only [Int.ofNat_eq_natCast]
  omega
theorem coup_mem (ks : List Int) (h : ∀ x ∈ ks, 0 ≤ x ∧ x ≤ 24) : ∀ x ∈ ks, x ∈ coup ks := by
  intro x hx
  have hr := h x hx
  unfold coup
  rw [List.mem_map]
  refine ⟨x.toNat, List.mem_filter.2 ⟨List.mem_range.2 (by omega), ?_⟩, by simp only [Int.ofNat_eq_natCast]; omega⟩
  unfold impl_Coupled.hit
  refine decide_eq_true (.inl ?_)
  rw [Int.toNat_of_nonneg hr.1]
  exact hx
theorem rdPk_nat (x : List S31) (n : Nat) : rd_T31 x (n : Int) = x.getD n z31 := by unfold rd_T31; rw [Int.toNat_natCast]
theorem count_eq (l : List S54) (d ks : List Int) (hl : l.length ≤ 1048600) (hbd : d.length ≤ 1048600) (hb : ks.length ≤ 1048600) (k : Nat) (hk : 4000000000000 < k) (ho : okP l d ks = true) :
    impl_CountPipes.f k l d ks = some ((sortP (pipesD l d ks)).length : Int) := by
  unfold impl_CountPipes.f
  rw [impl_PipesFor_eq l d ks hl hbd hb k hk, if_pos ho]
  rfl
theorem stops_l1 (l : List S54) (d ks : List Int) (hs : stopsB l = true) (hll : l.length ≤ 5) (hd : ∀ x ∈ d, 0 ≤ x ∧ x < (l.length : Int)) (hdl : d.length ≤ 5) (hk : ∀ x ∈ ks, 0 ≤ x ∧ x ≤ 24) (hkl : ks.length ≤ 5) : ∀ (e n k : Nat), n ≤ ks.length → ks.length - n = e → 4000000000002 + e < k →
    laws_FnStops.l1 k l d ks (sortP (pipesD l d ks)) (coup ks) (n : Int) = some true := by
  intro e
  induction e with
  | zero =>
    intro n k hn he hkk
    obtain ⟨k, rfl⟩ : ∃ m, k = m + 1 := ⟨k - 1, by omega⟩
    have hcl := coup_length ks
    have ho : okP l d ks = true := okP_of hs hd hk
    have ho1 : okP l d (coup ks) = true := okP_of hs hd (coup_range ks)
    have ho2 : okP l d ([24] ++ ks) = true := okP_of hs hd (fun x hx => by rcases List.mem_append.1 hx with h | h; rw [List.mem_singleton.1 h]; omega; exact hk x h)
    have ho3 : okP l [] ks = true := okP_of hs (by simp) hk
    have hle := sortP_le_length (pipesD l d ks)
    have hpl := pipesD_length l d ks
    have hmm : d.length * ks.length ≤ 25 := Nat.mul_le_mul hdl hkl
    have hcast : ((d.length : Int) * (ks.length : Int)) = ((d.length * ks.length : Nat) : Int) := by simp
    have g1 := sortP_le (pipesD_mono (l := l) (d := d) (coup_mem ks hk))
    have g2 := sortP_le (pipesD_mono (l := l) (d := d) (ks := ks) (ks' := [24] ++ ks) (fun x hx => List.mem_append_right _ hx))
    have h0 : (sortP (pipesD l [] ks)).length = 0 := by rw [sortP_length]; rfl
    simp only [laws_FnStops.l1]
    rw [if_neg (by omega), count_eq l d ks (by omega) (by omega) (by omega) k (by omega) ho]
    simp only [Option.bind_some, if_true]
    rw [hcast, w64 (by omega) (by omega), if_pos (by omega), count_eq l d (coup ks) (by omega) (by omega) (by omega) k (by omega) ho1]
    simp only [Option.bind_some]
    rw [if_pos (by omega), if_pos (by simp; omega), count_eq l d ([24] ++ ks) (by omega) (by omega) (by simp; omega) k (by omega) ho2]
    simp only [Option.bind_some]
    rw [if_pos (by omega), count_eq l [] ks (by omega) (by simp) (by omega) k (by omega) ho3]
    simp only [Option.bind_some, h0]
    rw [if_pos (by omega), impl_StopsOk_eq l (by omega) k (by omega)]
    simp only [Option.bind_some, hs]
  | succ e ih =>
    intro n k hn he hkk
    obtain ⟨k, rfl⟩ : ∃ m, k = m + 1 := ⟨k - 1, by omega⟩
    have hcl := coup_length ks
    have hm := coup_mem ks hk _ (getD_mem_int ks n (by omega))
    simp only [laws_FnStops.l1]
    rw [if_pos (by omega), if_pos (by omega), rd_nat, wrap_next (by omega), has_eq _ _ (by omega) k (by omega)]
    simp only [Option.bind_some, hm, decide_true, if_true]
    exact ih (n + 1) k (by omega) (by omega) (by omega)
theorem stops_l0 (l : List S54) (d ks : List Int) (hs : stopsB l = true) (hll : l.length ≤ 5) (hd : ∀ x ∈ d, 0 ≤ x ∧ x < (l.length : Int)) (hdl : d.length ≤ 5) (hk : ∀ x ∈ ks, 0 ≤ x ∧ x ≤ 24) (hkl : ks.length ≤ 5) (hpl : (sortP (pipesD l d ks)).length ≤ 25) (hlt : (sortP (pipesD l d ks)).Pairwise (fun a b => impl_pipesOf.lt a b = true)) :
    ∀ (e n k : Nat), (sortP (pipesD l d ks)).length - n = e → 4000000001000 + e < k → laws_FnStops.l0 k l d ks (sortP (pipesD l d ks)) ((n + 1 : Nat) : Int) = some true := by
  generalize hp : sortP (pipesD l d ks) = p at hpl hlt
  intro e
  induction e with
  | zero =>
    intro n k he hkk
    obtain ⟨k, rfl⟩ : ∃ m, k = m + 1 := ⟨k - 1, by omega⟩
    simp only [laws_FnStops.l0]
    rw [if_neg (by omega), coup_eq ks hk]
    simp only [Option.bind_some]
    have h1 := stops_l1 l d ks hs hll hd hdl hk hkl ks.length 0 k (by omega) (by omega) (by omega)
    rw [hp] at h1
    exact h1
  | succ e ih =>
    intro n k he hkk
    obtain ⟨k, rfl⟩ : ∃ m, k = m + 1 := ⟨k - 1, by omega⟩
    by_cases hn : n + 1 < p.length
    · have hx : wrap64 (((n + 1 : Nat) : Int) - 1) = ((n : Nat) : Int) := by rw [w64 (by omega) (by omega)]; omega
      have hpw := List.pairwise_iff_getElem.1 hlt n (n + 1) (by omega) hn (by omega)
      have g0 : p.getD n z31 = p[n] := by rw [List.getD_eq_getElem?_getD, List.getElem?_eq_getElem (by omega)]; rfl
      have g1 : p.getD (n + 1) z31 = p[n + 1] := by rw [List.getD_eq_getElem?_getD, List.getElem?_eq_getElem hn]; rfl
      simp only [laws_FnStops.l0]
      rw [if_pos (by omega), if_pos (by omega), hx, if_pos (by omega), if_pos (by omega), rdPk_nat, rdPk_nat, g0, g1, wrap_next (by omega)]
      simp only [impl_pipesOf.lt, Bool.or_eq_true, Bool.and_eq_true, decide_eq_true_eq, beq_iff_eq] at hpw
      rw [if_neg (by omega)]
      have hih := ih (n + 1) k (by omega) (by omega)
      by_cases c : (p[n + 1]).f0 = (p[n]).f0
      · rw [if_pos c, if_neg (by omega)]
        exact hih
      · rw [if_neg c]
        exact hih
    · simp only [laws_FnStops.l0]
      rw [if_neg (by omega), coup_eq ks hk]
      simp only [Option.bind_some]
      have h1 := stops_l1 l d ks hs hll hd hdl hk hkl ks.length 0 k (by omega) (by omega) (by omega)
      rw [hp] at h1
      exact h1
theorem FnStops : laws_FnStops.Pure := by
  intro b hm h1 hw
  obtain ⟨k, hk⟩ : ∃ k : Nat, 4000000002000 < k := ⟨4000000002001, by omega⟩
  refine ⟨k, ?_⟩
  unfold laws_FnStops.f laws_big.f
  simp only [Option.bind_some, decide_eq_true_eq]
  by_cases hbig : (b.length : Int) > 1048576
  · rw [if_pos hbig]
  · rw [if_neg hbig]
    obtain ⟨l, d, ks, e, hs, hll, hd, hdl, hks, hkl⟩ := drawStops_some b (by omega) k (by omega)
    rw [e]
    simp only [Option.bind_some]
    have ho : okP l d ks = true := okP_of hs hd hks
    rw [impl_PipesFor_eq l d ks (by omega) (by omega) (by omega) k (by omega), if_pos ho]
    simp only [Option.bind_some]
    have hlt := specP_lt l d ks
    rw [← sortP_spec l d ks ho] at hlt
    have hle := sortP_le_length (pipesD l d ks)
    have hpl := pipesD_length l d ks
    have hmm : d.length * ks.length ≤ 25 := Nat.mul_le_mul hdl hkl
    exact stops_l0 l d ks hs hll hd hdl hks hkl (by omega) hlt (sortP (pipesD l d ks)).length 0 k (by omega) (by omega)
end Go.Proofs.Ytookbccmhflhlaa.Pure
