/- The plain law of FnExactCountPipes: the printed function of the law answers true. Its conditions are those of the statement's own bounds. -/
import Derived.Test.YtookbccmhflhlaaHFnExactCountPipesx5
namespace Go.Proofs.Ytookbccmhflhlaa.Pure
open Go.RowKit Go.Proofs.Ytookbccmhflhlaa.PFnExactCountPipes Go.Proofs.YtookbccmhflhlaaW.PrintWords Go.Proofs.YtookbccmhflhlaaW.PrintLast Go.Proofs.YtookbccmhflhlaaW.PrintMore
set_option linter.unusedVariables false
theorem l01In_eq (a b c : Int) : spec_l01In.f a b c = some (decide (b ≤ a ∧ a ≤ c)) := by
  unfold spec_l01In.f
  by_cases h : a ≥ b
  · rw [if_pos h]; congr 1; by_cases h2 : a ≤ c <;> simp [h2, h]
  · rw [if_neg h]; congr 1; simp; omega
theorem within_eq (a b c : Int) : impl_within.f a b c = some (decide (b ≤ a ∧ a ≤ c)) := by
  unfold impl_within.f
  by_cases h : b ≤ a
  · rw [if_pos h]; congr 1; by_cases h2 : a ≤ c <;> simp [h2, h]
  · rw [if_neg h]; congr 1; simp; omega
theorem law_of {α : Type} [DecidableEq α] {s i : Option α} {r : α} (hs : s = some r) (hi : i = some r) : (s.bind fun t => i.bind fun u => if u = t then some true else some false) = some true := by
  subst hs hi; simp
theorem law_ofb {s i : Option Bool} {r : Bool} (hs : s = some r) (hi : i = some r) : (s.bind fun t => i.bind fun u => if (u != t) = true then some false else some true) = some true := by
  subst hs hi; simp
theorem wf_i64 {a : Int} (h : (Lit.int .i64 a).wf = true) : -9223372036854775808 ≤ a ∧ a ≤ 9223372036854775807 := by
  have h' : (decide ((-9223372036854775808 : Int) ≤ a) && decide (a ≤ 9223372036854775807)) = true := h
  simp at h'; omega
theorem w64 {n : Int} (h1 : -9223372036854775808 ≤ n) (h2 : n ≤ 9223372036854775807) : wrap64 n = n := by unfold wrap64; omega
theorem mul_bd {a b A B : Int} (h0 : 0 ≤ a) (h1 : a ≤ A) (h2 : 0 ≤ b) (h3 : b ≤ B) : 0 ≤ a * b ∧ a * b ≤ A * B := by
  refine ⟨Int.mul_nonneg h0 h2, ?_⟩
  exact Int.le_trans (Int.mul_le_mul_of_nonneg_right h1 h2) (Int.mul_le_mul_of_nonneg_left h3 (by omega))
theorem tdiv_nn {a b : Int} (h : 0 ≤ a) : a.tdiv b = a / b := Int.tdiv_eq_ediv_of_nonneg h
theorem div_bd {a A c : Int} (h0 : 0 ≤ a) (h1 : a ≤ A) (hc : 0 < c) : 0 ≤ a / c ∧ a / c ≤ A / c :=
  ⟨Int.ediv_nonneg h0 (by omega), Int.ediv_le_ediv hc h1⟩
theorem wrap_next {n : Nat} (h : n ≤ 140737488355328) : wrap64 ((n : Int) + 1) = ((n + 1 : Nat) : Int) := by unfold wrap64; omega
theorem drop_getD {α : Type} (x : List α) (z : α) (n : Nat) (h : n < x.length) : x.drop n = x.getD n z :: x.drop (n + 1) := by
  rw [List.getD_eq_getElem?_getD, List.getElem?_eq_getElem h]
  exact List.drop_eq_getElem_cons h
theorem rd_nat (x : List Int) (n : Nat) : rd x (n : Int) = x.getD n 0 := by unfold rd; rw [Int.toNat_natCast]
theorem take_set_next {α : Type} (x : List α) (n : Nat) (v : α) (h : n < x.length) : (x.set n v).take (n + 1) = x.take n ++ [v] := by
  rw [List.take_succ_eq_append_getElem (by simpa using h)]
  congr 1
  · rw [List.take_set_of_le (Nat.le_refl _)]
  · simp
theorem rdSk_nat (x : List S54) (n : Nat) : rd_T54 x (n : Int) = x.getD n z54 := by unfold rd_T54; rw [Int.toNat_natCast]
def stopB (s : S54) : Bool := decide ((0 ≤ s.f0 ∧ s.f0 ≤ 3) ∧ (-12 ≤ s.f1 ∧ s.f1 ≤ 24))
def stopsB (x : List S54) : Bool := x.all stopB && decide (x.length ≤ 6)
theorem impl_stops_loop (x : List S54) (hb : x.length ≤ 140737488355328) : ∀ (d n k : Nat), n ≤ x.length → x.length - n = d → d < k → impl_StopsOk.l0 k x x (x.length : Int) (n : Int) = some ((x.drop n).all stopB && decide (x.length ≤ 6)) := by
  intro d
  induction d with
  | zero =>
    intro n k h1 h2 hk
    obtain ⟨k, rfl⟩ : ∃ m, k = m + 1 := ⟨k - 1, by omega⟩
    simp only [impl_StopsOk.l0]
    rw [if_neg (by omega), List.drop_of_length_le (by omega)]
    simp only [List.all_nil, Bool.true_and]
    congr 1; rw [decide_eq_decide]; omega
  | succ d ih =>
    intro n k h1 h2 hk
    obtain ⟨k, rfl⟩ : ∃ m, k = m + 1 := ⟨k - 1, by omega⟩
    simp only [impl_StopsOk.l0, within_eq, Option.bind_some]
    rw [if_pos (by omega), if_pos (by omega), if_pos (by omega), rdSk_nat, wrap_next (by omega), drop_getD x z54 n (by omega), List.all_cons]
    by_cases c1 : 0 ≤ (x.getD n z54).f0 ∧ (x.getD n z54).f0 ≤ 3
    · rw [if_pos (decide_eq_true c1)]
      by_cases c2 : -12 ≤ (x.getD n z54).f1 ∧ (x.getD n z54).f1 ≤ 24
      · rw [if_pos (decide_eq_true c2), ih (n + 1) k (by omega) (by omega) (by omega)]
        have : stopB (x.getD n z54) = true := decide_eq_true ⟨c1, c2⟩
        rw [this, Bool.true_and]
      · rw [if_neg (by simpa using c2)]
        have : stopB (x.getD n z54) = false := decide_eq_false (fun hh => c2 hh.2)
        rw [this, Bool.false_and, Bool.false_and]
    · rw [if_neg (by simpa using c1)]
      have : stopB (x.getD n z54) = false := decide_eq_false (fun hh => c1 hh.1)
      rw [this, Bool.false_and, Bool.false_and]
theorem impl_StopsOk_eq (x : List S54) (hb : x.length ≤ 140737488355328) (k : Nat) (hk : x.length < k) : impl_StopsOk.f k x = some (stopsB x) := by
  unfold impl_StopsOk.f stopsB
  have h := impl_stops_loop x hb x.length 0 k (by omega) (by omega) hk
  simpa using h
theorem spec_stops_loop (x : List S54) (hb : x.length ≤ 140737488355328) : ∀ (d n k : Nat), n ≤ x.length → x.length - n = d → d < k → spec_StopsOk.l0 k x (n : Int) = some ((x.drop n).all stopB && decide (x.length ≤ 6)) := by
  intro d
  induction d with
  | zero =>
    intro n k h1 h2 hk
    obtain ⟨k, rfl⟩ : ∃ m, k = m + 1 := ⟨k - 1, by omega⟩
    simp only [spec_StopsOk.l0]
    rw [if_neg (by omega), List.drop_of_length_le (by omega)]
    simp only [List.all_nil, Bool.true_and]
    congr 1; rw [decide_eq_decide]; omega
  | succ d ih =>
    intro n k h1 h2 hk
    obtain ⟨k, rfl⟩ : ∃ m, k = m + 1 := ⟨k - 1, by omega⟩
    simp only [spec_StopsOk.l0, l01In_eq, Option.bind_some]
    rw [if_pos (by omega), if_pos (by omega), rdSk_nat, wrap_next (by omega), drop_getD x z54 n (by omega), List.all_cons]
    by_cases c1 : 0 ≤ (x.getD n z54).f0 ∧ (x.getD n z54).f0 ≤ 3
    · rw [if_pos (decide_eq_true c1)]
      by_cases c2 : -12 ≤ (x.getD n z54).f1 ∧ (x.getD n z54).f1 ≤ 24
      · rw [if_pos (decide_eq_true c2), ih (n + 1) k (by omega) (by omega) (by omega)]
        have : stopB (x.getD n z54) = true := decide_eq_true ⟨c1, c2⟩
        rw [this, Bool.true_and]
      · rw [if_neg (by simpa using c2)]
        have : stopB (x.getD n z54) = false := decide_eq_false (fun hh => c2 hh.2)
        rw [this, Bool.false_and, Bool.false_and]
    · rw [if_neg (by simpa using c1)]
      have : stopB (x.getD n z54) = false := decide_eq_false (fun hh => c1 hh.1)
      rw [this, Bool.false_and, Bool.false_and]
theorem spec_StopsOk_eq (x : List S54) (hb : x.length ≤ 140737488355328) (k : Nat) (hk : x.length < k) : spec_StopsOk.f k x = some (stopsB x) := by
  unfold spec_StopsOk.f stopsB
  have h := spec_stops_loop x hb x.length 0 k (by omega) (by omega) hk
  simpa using h
def inR (a b x : Int) : Bool := decide (a ≤ x ∧ x ≤ b)
def pip (l : List S54) (i key : Int) : Option S31 := if 0 ≤ key + (rd_T54 l i).f1 ∧ key + (rd_T54 l i).f1 ≤ 39 then some ⟨(rd_T54 l i).f0, key + (rd_T54 l i).f1⟩ else none
def pipesK (l : List S54) (ks : List Int) (i : Int) : List S31 := ks.filterMap (pip l i)
def pipesD (l : List S54) (d ks : List Int) : List S31 := d.flatMap (pipesK l ks)
theorem stopB_at (l : List S54) (h : stopsB l = true) (i : Int) (h0 : 0 ≤ i) (h1 : i < (l.length : Int)) : (0 ≤ (rd_T54 l i).f0 ∧ (rd_T54 l i).f0 ≤ 3) ∧ (-12 ≤ (rd_T54 l i).f1 ∧ (rd_T54 l i).f1 ≤ 24) := by
  obtain ⟨n, rfl⟩ : ∃ n : Nat, i = n := ⟨i.toNat, by omega⟩
  rw [rdSk_nat]
  unfold stopsB at h
  rw [Bool.and_eq_true] at h
  have hm : l.getD n z54 ∈ l := by rw [List.getD_eq_getElem?_getD, List.getElem?_eq_getElem (by omega)]; exact List.getElem_mem _
  have := List.all_eq_true.1 h.1 _ hm
  unfold stopB at this
  exact of_decide_eq_true this
theorem stops_len (l : List S54) (h : stopsB l = true) : l.length ≤ 6 := by
  unfold stopsB at h
  rw [Bool.and_eq_true] at h
  exact of_decide_eq_true h.2
theorem pipesK_length (l : List S54) (ks : List Int) (i : Int) : (pipesK l ks i).length ≤ ks.length := List.length_filterMap_le _ _
theorem getD_mem_int (x : List Int) (n : Nat) (h : n < x.length) : x.getD n 0 ∈ x := by rw [List.getD_eq_getElem?_getD, List.getElem?_eq_getElem h]; exact List.getElem_mem _
theorem impl_l3 (l : List S54) (ks : List Int) (d : List Int) (dl m : Int) (i : Int) (hs : stopsB l = true) (h0 : 0 ≤ i) (h1 : i < (l.length : Int)) (hk : ∀ x ∈ ks, 0 ≤ x ∧ x ≤ 24) (hb : ks.length ≤ 1048600) : ∀ (e n k : Nat) (out : List S31), n ≤ ks.length → ks.length - n = e → out.length + e ≤ 4398046511104 →
    impl_PipesFor.l3 (k + e + 1) l ks out i d dl m ks (ks.length : Int) (n : Int) = impl_PipesFor.l2 k l ks (out ++ pipesK l (ks.drop n) i) d dl (wrap64 (m + 1)) := by
  obtain ⟨hr, hf⟩ := stopB_at l hs i h0 h1
  intro e
  induction e with
  | zero =>
    intro n k out hn he ho
    simp only [impl_PipesFor.l3]
    rw [if_neg (by omega), List.drop_of_length_le (by omega)]
    simp [pipesK]
  | succ e ih =>
    intro n k out hn he ho
    have hm := hk _ (getD_mem_int ks n (by omega))
    have hw : wrap64 (ks.getD n 0 + (rd_T54 l i).f1) = ks.getD n 0 + (rd_T54 l i).f1 := w64 (by omega) (by omega)
    rw [show k + (e + 1) + 1 = (k + e + 1) + 1 by omega]
    generalize hK : k + e + 1 = K
    simp only [impl_PipesFor.l3]
    rw [if_pos (by omega), if_pos (by omega), if_pos (by omega), if_pos h0, if_pos h1, rd_nat, hw, within_eq, wrap_next (by omega), drop_getD ks 0 n (by omega)]
    simp only [Option.bind_some, decide_eq_true_eq]
    by_cases c : 0 ≤ ks.getD n 0 + (rd_T54 l i).f1 ∧ ks.getD n 0 + (rd_T54 l i).f1 ≤ 39
    · rw [if_pos c, if_pos (by omega), ← hK, ih (n + 1) k _ (by omega) (by omega) (by simp; omega)]
      have : pip l i (ks.getD n 0) = some ⟨(rd_T54 l i).f0, ks.getD n 0 + (rd_T54 l i).f1⟩ := by unfold pip; rw [if_pos c]
      simp only [pipesK, List.filterMap_cons, this, List.append_assoc, List.singleton_append]
    · rw [if_neg c, ← hK, ih (n + 1) k _ (by omega) (by omega) (by omega)]
      have : pip l i (ks.getD n 0) = none := by unfold pip; rw [if_neg c]
      simp only [pipesK, List.filterMap_cons, this]
theorem impl_l2 (l : List S54) (ks : List Int) (d : List Int) (hs : stopsB l = true) (hd : ∀ x ∈ d, 0 ≤ x ∧ x < (l.length : Int)) (hk : ∀ x ∈ ks, 0 ≤ x ∧ x ≤ 24) (hb : ks.length ≤ 1048600) (hbd : d.length ≤ 1048600) : ∀ (e m k : Nat) (out : List S31), m ≤ d.length → d.length - m = e → out.length + e * ks.length ≤ 4398046511104 →
    impl_PipesFor.l2 (k + e * (ks.length + 2) + 1) l ks out d (d.length : Int) (m : Int) = impl_pipesOf.f (out ++ pipesD l (d.drop m) ks) := by
  intro e
  induction e with
  | zero =>
    intro m k out hm he ho
    simp only [impl_PipesFor.l2]
    rw [if_neg (by omega), List.drop_of_length_le (by omega)]
    simp only [pipesD, List.flatMap_nil, List.append_nil]
    cases impl_pipesOf.f out <;> rfl
  | succ e ih =>
    intro m k out hm he ho
    have hx := hd _ (getD_mem_int d m (by omega))
    have ek : k + (e + 1) * (ks.length + 2) + 1 = ((k + e * (ks.length + 2) + 1) + ks.length + 1) + 1 := by rw [Nat.add_mul]; omega
    have eo : (e + 1) * ks.length = e * ks.length + ks.length := by rw [Nat.add_mul]; omega
    rw [ek]
    generalize hK : (k + e * (ks.length + 2) + 1) + ks.length + 1 = K
    simp only [impl_PipesFor.l2]
    rw [if_pos (by omega), if_pos (by omega), if_pos (by omega), rd_nat]
    have h3 := impl_l3 l ks d (d.length : Int) (m : Int) (d.getD m 0) hs hx.1 hx.2 hk hb ks.length 0 (k + e * (ks.length + 2) + 1) out (by omega) (by omega) (by omega)
    have hl := pipesK_length l ks (d.getD m 0)
    rw [show ((0 : Nat) : Int) = 0 from rfl] at h3
    rw [← hK, h3, wrap_next (by omega), List.drop_zero, ih (m + 1) k _ (by omega) (by omega) (by rw [List.length_append]; omega), drop_getD d 0 m (by omega)]
    simp only [pipesD, List.flatMap_cons, List.append_assoc]
theorem impl_l1 (l : List S54) (ks : List Int) (d : List Int) (hb : ks.length ≤ 1048600) : ∀ (e n k : Nat), n ≤ ks.length → ks.length - n = e →
    impl_PipesFor.l1 (k + e + 1) l d ks ks (ks.length : Int) (n : Int) = if (ks.drop n).all (inR 0 24) = true then impl_PipesFor.l2 k l ks [] d (d.length : Int) 0 else some [] := by
  intro e
  induction e with
  | zero =>
    intro n k hn he
    simp only [impl_PipesFor.l1]
    rw [if_neg (by omega), List.drop_of_length_le (by omega)]
    simp
  | succ e ih =>
    intro n k hn he
    rw [show k + (e + 1) + 1 = (k + e + 1) + 1 by omega]
    generalize hK : k + e + 1 = K
    simp only [impl_PipesFor.l1]
    rw [if_pos (by omega), if_pos (by omega), if_pos (by omega), rd_nat, within_eq, wrap_next (by omega), drop_getD ks 0 n (by omega), ← hK, ih (n + 1) k (by omega) (by omega)]
    simp only [Option.bind_some, List.all_cons]
    cases hc : decide (0 ≤ ks.getD n 0 ∧ ks.getD n 0 ≤ 24)
    · have : inR 0 24 (ks.getD n 0) = false := hc
      simp only [this, Bool.false_and, Bool.false_eq_true, if_false]
    · have : inR 0 24 (ks.getD n 0) = true := hc
      simp only [this, Bool.true_and, if_true]
theorem impl_l0 (l : List S54) (ks : List Int) (d : List Int) (hbd : d.length ≤ 1048600) (hl : l.length ≤ 1048600) : ∀ (e n k : Nat), n ≤ d.length → d.length - n = e →
    impl_PipesFor.l0 (k + e + 1) l d ks d (d.length : Int) (n : Int) = if (d.drop n).all (inR 0 ((l.length : Int) - 1)) = true then impl_PipesFor.l1 k l d ks ks (ks.length : Int) 0 else some [] := by
  intro e
  have hw : wrap64 ((l.length : Int) - 1) = (l.length : Int) - 1 := w64 (by omega) (by omega)
  induction e with
  | zero =>
    intro n k hn he
    simp only [impl_PipesFor.l0]
    rw [if_neg (by omega), List.drop_of_length_le (by omega)]
    simp
  | succ e ih =>
    intro n k hn he
    rw [show k + (e + 1) + 1 = (k + e + 1) + 1 by omega]
    generalize hK : k + e + 1 = K
    simp only [impl_PipesFor.l0]
    rw [if_pos (by omega), if_pos (by omega), if_pos (by omega), rd_nat, hw, within_eq, wrap_next (by omega), drop_getD d 0 n (by omega), ← hK, ih (n + 1) k (by omega) (by omega)]
    simp only [Option.bind_some, List.all_cons]
    cases hc : decide (0 ≤ d.getD n 0 ∧ d.getD n 0 ≤ (l.length : Int) - 1)
    · have : inR 0 ((l.length : Int) - 1) (d.getD n 0) = false := hc
      simp only [this, Bool.false_and, Bool.false_eq_true, if_false]
    · have : inR 0 ((l.length : Int) - 1) (d.getD n 0) = true := hc
      simp only [this, Bool.true_and, if_true]
def okP (l : List S54) (d ks : List Int) : Bool := stopsB l && (d.all (inR 0 ((l.length : Int) - 1)) && ks.all (inR 0 24))
theorem okP_stops {l : List S54} {d ks : List Int} (h : okP l d ks = true) : stopsB l = true := by unfold okP at h; rw [Bool.and_eq_true] at h; exact h.1
theorem okP_drawn {l : List S54} {d ks : List Int} (h : okP l d ks = true) : ∀ x ∈ d, 0 ≤ x ∧ x < (l.length : Int) := by
  unfold okP at h
  rw [Bool.and_eq_true, Bool.and_eq_true] at h
  intro x hx
  have := of_decide_eq_true (List.all_eq_true.1 h.2.1 x hx)
  omega
theorem okP_keys {l : List S54} {d ks : List Int} (h : okP l d ks = true) : ∀ x ∈ ks, 0 ≤ x ∧ x ≤ 24 := by
  unfold okP at h
  rw [Bool.and_eq_true, Bool.and_eq_true] at h
  intro x hx
  exact of_decide_eq_true (List.all_eq_true.1 h.2.2 x hx)
def sortP (l : List S31) : List S31 := (impl_pipesOf.dd l).mergeSort impl_pipesOf.le
theorem pipesD_length (l : List S54) (d ks : List Int) : (pipesD l d ks).length ≤ d.length * ks.length := by
  induction d with
  | nil => simp [pipesD]
  | cons i d ih =>
    have h := pipesK_length l ks i
    have e : pipesD l (i :: d) ks = pipesK l ks i ++ pipesD l d ks := by simp [pipesD]
    rw [e, List.length_append, List.length_cons, Nat.add_mul]
    omega
theorem mul_le_big {a b : Nat} (ha : a ≤ 1048600) (hb : b ≤ 1048600) : a * b ≤ 1099561960000 := Nat.le_trans (Nat.mul_le_mul ha hb) (by decide)
theorem impl_PipesFor_eq (l : List S54) (d ks : List Int) (hl : l.length ≤ 1048600) (hbd : d.length ≤ 1048600) (hb : ks.length ≤ 1048600) (k : Nat) (hk : 4000000000000 < k) :
    impl_PipesFor.f k l d ks = some (if okP l d ks = true then sortP (pipesD l d ks) else []) := by
  unfold impl_PipesFor.f
  rw [impl_StopsOk_eq l (by omega) k (by omega)]
  simp only [Option.bind_some]
  cases hs : stopsB l
  · have : okP l d ks = false := by unfold okP; rw [hs]; rfl
    simp [this]
  · rw [if_pos rfl]
    obtain ⟨k, rfl⟩ : ∃ j, k = j + d.length + 1 := ⟨k - d.length - 1, by omega⟩
    have h0 := impl_l0 l ks d hbd hl d.length 0 k (by omega) (by omega)
    rw [show ((0 : Nat) : Int) = 0 from rfl, List.drop_zero] at h0
    rw [h0]
    cases hd : d.all (inR 0 ((l.length : Int) - 1))
    · have : okP l d ks = false := by unfold okP; rw [hs, hd]; rfl
      simp [this]
    · rw [if_pos rfl]
      obtain ⟨k, rfl⟩ : ∃ j, k = j + ks.length + 1 := ⟨k - ks.length - 1, by omega⟩
      have h1 := impl_l1 l ks d hb ks.length 0 k (by omega) (by omega)
      rw [show ((0 : Nat) : Int) = 0 from rfl, List.drop_zero] at h1
      rw [h1]
      cases hks : ks.all (inR 0 24)
      · have : okP l d ks = false := by unfold okP; rw [hs, hd, hks]; rfl
        simp [this]
      · rw [if_pos rfl]
        have ho : okP l d ks = true := by unfold okP; rw [hs, hd, hks]; rfl
        have hF : d.length * (ks.length + 2) + 1 ≤ 1200000000000 := by
          have := Nat.mul_le_mul (show d.length ≤ 1048600 from hbd) (show ks.length + 2 ≤ 1048602 by omega)
          omega
        have hE := mul_le_big hbd hb
        obtain ⟨k, rfl⟩ : ∃ j, k = j + d.length * (ks.length + 2) + 1 := ⟨k - d.length * (ks.length + 2) - 1, by omega⟩
        have h2 := impl_l2 l ks d hs (okP_drawn ho) (okP_keys ho) hb hbd d.length 0 k [] (by omega) (by omega) (by simp; omega)
        rw [show ((0 : Nat) : Int) = 0 from rfl, List.drop_zero, List.nil_append] at h2
        rw [h2, if_pos ho]
        have hp := pipesD_length l d ks
        unfold impl_pipesOf.f
        rw [if_pos (by omega)]
        rfl
def hitK (l : List S54) (r n : Int) (i key : Int) : Bool := (rd_T54 l i).f0 == r && (key + (rd_T54 l i).f1) == n
def cellP (l : List S54) (d ks : List Int) (r n : Nat) : Option S31 := if (d.any fun i => ks.any (hitK l r n i)) = true then some ⟨(r : Int), (n : Int)⟩ else none
theorem spec_l5 (l : List S54) (ks : List Int) (d : List Int) (r n : Int) (m : Nat) (out : List S31) (hs : stopsB l = true) (hm : m < d.length) (h0 : 0 ≤ d.getD m 0) (h1 : d.getD m 0 < (l.length : Int)) (hk : ∀ x ∈ ks, 0 ≤ x ∧ x ≤ 24) (hb : ks.length ≤ 1048600) (hbd : d.length ≤ 1048600) : ∀ (e j k : Nat) (b : Bool), j ≤ ks.length → ks.length - j = e →
    spec_PipesFor.l5 (k + e + 1) l d ks out r n b (m : Int) (j : Int) = spec_PipesFor.l4 k l d ks out r n (b || (ks.drop j).any (hitK l r n (d.getD m 0))) ((m + 1 : Nat) : Int) := by
  obtain ⟨hr, hf⟩ := stopB_at l hs (d.getD m 0) h0 h1
  intro e
  induction e with
  | zero =>
    intro j k b hj he
    simp only [spec_PipesFor.l5]
    rw [if_neg (by omega), List.drop_of_length_le (by omega), wrap_next (by omega)]
    simp
  | succ e ih =>
    intro j k b hj he
    have hx := hk _ (getD_mem_int ks j (by omega))
    have hw : wrap64 (ks.getD j 0 + (rd_T54 l (d.getD m 0)).f1) = ks.getD j 0 + (rd_T54 l (d.getD m 0)).f1 := w64 (by omega) (by omega)
    rw [show k + (e + 1) + 1 = (k + e + 1) + 1 by omega]
    generalize hK : k + e + 1 = K
    simp only [spec_PipesFor.l5]
    rw [if_pos (by omega), if_pos (by omega), if_pos (by omega), rd_nat, if_pos h0, if_pos h1, rd_nat, hw, wrap_next (by omega), drop_getD ks 0 j (by omega), List.any_cons]
    cases b
    · rw [if_neg (by simp)]
      by_cases c : (rd_T54 l (d.getD m 0)).f0 = r
      · rw [if_pos c, if_pos (by omega), ← hK, ih (j + 1) k _ (by omega) (by omega)]
        have : hitK l r n (d.getD m 0) (ks.getD j 0) = ((ks.getD j 0 + (rd_T54 l (d.getD m 0)).f1) == n) := by unfold hitK; rw [beq_iff_eq.2 c]; rfl
        rw [this, Bool.false_or]
      · rw [if_neg c, ← hK, ih (j + 1) k _ (by omega) (by omega)]
        have : hitK l r n (d.getD m 0) (ks.getD j 0) = false := by unfold hitK; rw [beq_eq_false_iff_ne.2 c]; rfl
        simp only [this, Bool.false_or]
    · rw [if_pos rfl, ← hK, ih (j + 1) k _ (by omega) (by omega), Bool.true_or, Bool.true_or]
theorem spec_l4 (l : List S54) (ks : List Int) (d : List Int) (r n : Int) (out : List S31) (hs : stopsB l = true) (hd : ∀ x ∈ d, 0 ≤ x ∧ x < (l.length : Int)) (hk : ∀ x ∈ ks, 0 ≤ x ∧ x ≤ 24) (hb : ks.length ≤ 1048600) (hbd : d.length ≤ 1048600) (ho : out.length ≤ 1000000) : ∀ (e m k : Nat) (b : Bool), m ≤ d.length → d.length - m = e →
    spec_PipesFor.l4 (k + e * (ks.length + 2) + 1) l d ks out r n b (m : Int) = spec_PipesFor.l3 k l d ks (if (b || (d.drop m).any fun i => ks.any (hitK l r n i)) = true then out ++ [⟨r, n⟩] else out) r (wrap64 (n + 1)) := by
  intro e
  induction e with
  | zero =>
    intro m k b hm he
    simp only [spec_PipesFor.l4]
    have hlt : out.length < 8796093022208 := by omega
    rw [if_neg (by omega), List.drop_of_length_le (by omega)]
    cases b <;> simp [hlt]
  | succ e ih =>
    intro m k b hm he
    have hx := hd _ (getD_mem_int d m (by omega))
    have ek : k + (e + 1) * (ks.length + 2) + 1 = ((k + e * (ks.length + 2) + 1) + ks.length + 1) + 1 := by rw [Nat.add_mul]; omega
    rw [ek]
    generalize hK : (k + e * (ks.length + 2) + 1) + ks.length + 1 = K
    simp only [spec_PipesFor.l4]
    have h5 := spec_l5 l ks d r n m out hs (by omega) hx.1 hx.2 hk hb hbd ks.length 0 (k + e * (ks.length + 2) + 1) b (by omega) (by omega)
    rw [show ((0 : Nat) : Int) = 0 from rfl, List.drop_zero] at h5
    rw [if_pos (by omega), ← hK, h5, ih (m + 1) k _ (by omega) (by omega), drop_getD d 0 m (by omega), List.any_cons, Bool.or_assoc]
theorem rowP_succ (l : List S54) (d ks : List Int) (r n e : Nat) : (List.range' n (e + 1)).filterMap (cellP l d ks r) = (if (d.any fun i => ks.any (hitK l r n i)) = true then [(⟨(r : Int), (n : Int)⟩ : S31)] else []) ++ (List.range' (n + 1) e).filterMap (cellP l d ks r) := by
  rw [List.range'_succ]
  by_cases c : (d.any fun i => ks.any (hitK l r n i)) = true
  · have : cellP l d ks r n = some ⟨(r : Int), (n : Int)⟩ := by unfold cellP; rw [if_pos c]
    rw [List.filterMap_cons, this, if_pos c]
    rfl
  · have : cellP l d ks r n = none := by unfold cellP; rw [if_neg c]
    rw [List.filterMap_cons, this, if_neg c]
    rfl
theorem spec_l3 (l : List S54) (ks : List Int) (d : List Int) (r : Nat) (hs : stopsB l = true) (hd : ∀ x ∈ d, 0 ≤ x ∧ x < (l.length : Int)) (hk : ∀ x ∈ ks, 0 ≤ x ∧ x ≤ 24) (hb : ks.length ≤ 1048600) (hbd : d.length ≤ 1048600) (hr : r < 4) : ∀ (e n k : Nat) (out : List S31), n ≤ 40 → 40 - n = e → out.length + e ≤ 1000000 →
    spec_PipesFor.l3 (k + e * (d.length * (ks.length + 2) + 2) + 1) l d ks out (r : Int) (n : Int) = spec_PipesFor.l2 k l d ks (out ++ (List.range' n e).filterMap (cellP l d ks r)) ((r + 1 : Nat) : Int) := by
  intro e
  induction e with
  | zero =>
    intro n k out hn he ho
    simp only [spec_PipesFor.l3]
    rw [if_neg (by omega), wrap_next (by omega)]
    simp
  | succ e ih =>
    intro n k out hn he ho
    have ek : k + (e + 1) * (d.length * (ks.length + 2) + 2) + 1 = ((k + e * (d.length * (ks.length + 2) + 2) + 1) + d.length * (ks.length + 2) + 1) + 1 := by rw [Nat.add_mul]; omega
    rw [ek]
    generalize hK : (k + e * (d.length * (ks.length + 2) + 2) + 1) + d.length * (ks.length + 2) + 1 = K
    simp only [spec_PipesFor.l3]
    have h4 := spec_l4 l ks d (r : Int) (n : Int) out hs hd hk hb hbd (by omega) d.length 0 (k + e * (d.length * (ks.length + 2) + 2) + 1) false (by omega) (by omega)
    rw [show ((0 : Nat) : Int) = 0 from rfl, List.drop_zero, Bool.false_or, wrap_next (by omega)] at h4
    rw [if_pos (by omega), ← hK, h4, rowP_succ]
    by_cases c : (d.any fun i => ks.any (hitK l r n i)) = true
    · rw [if_pos c, if_pos c, ih (n + 1) k _ (by omega) (by omega) (by rw [List.length_append, List.length_singleton]; omega), List.append_assoc]
    · rw [if_neg c, if_neg c, ih (n + 1) k _ (by omega) (by omega) (by omega), List.nil_append]
def specP (l : List S54) (d ks : List Int) (r e : Nat) : List S31 := (List.range' r e).flatMap fun r => (List.range' 0 40).filterMap (cellP l d ks r)
theorem spec_l2 (l : List S54) (ks : List Int) (d : List Int) (hs : stopsB l = true) (hd : ∀ x ∈ d, 0 ≤ x ∧ x < (l.length : Int)) (hk : ∀ x ∈ ks, 0 ≤ x ∧ x ≤ 24) (hb : ks.length ≤ 1048600) (hbd : d.length ≤ 1048600) : ∀ (e r k : Nat) (out : List S31), r ≤ 4 → 4 - r = e → out.length + e * 40 ≤ 1000 →
    spec_PipesFor.l2 (k + e * (40 * (d.length * (ks.length + 2) + 2) + 2) + 1) l d ks out (r : Int) = some (out ++ specP l d ks r e) := by
  intro e
  induction e with
  | zero =>
    intro r k out hr he ho
    simp only [spec_PipesFor.l2]
    rw [if_neg (by omega)]
    simp [specP]
  | succ e ih =>
    intro r k out hr he ho
    have ek : k + (e + 1) * (40 * (d.length * (ks.length + 2) + 2) + 2) + 1 = ((k + e * (40 * (d.length * (ks.length + 2) + 2) + 2) + 1) + 40 * (d.length * (ks.length + 2) + 2) + 1) + 1 := by rw [Nat.add_mul e 1]; omega
    rw [ek]
    generalize hK : (k + e * (40 * (d.length * (ks.length + 2) + 2) + 2) + 1) + 40 * (d.length * (ks.length + 2) + 2) + 1 = K
    simp only [spec_PipesFor.l2]
    have h3 := spec_l3 l ks d r hs hd hk hb hbd (by omega) 40 0 (k + e * (40 * (d.length * (ks.length + 2) + 2) + 2) + 1) out (by omega) (by omega) (by omega)
    rw [show ((0 : Nat) : Int) = 0 from rfl] at h3
    have hl : ((List.range' 0 40).filterMap (cellP l d ks r)).length ≤ 40 := by
      have := List.length_filterMap_le (cellP l d ks r) (List.range' 0 40)
      rwa [List.length_range'] at this
    rw [if_pos (by omega), ← hK, h3, ih (r + 1) k _ (by omega) (by omega) (by rw [List.length_append]; omega), List.append_assoc]
    simp only [specP, List.range'_succ, List.flatMap_cons]
theorem spec_l1 (l : List S54) (ks : List Int) (d : List Int) (hb : ks.length ≤ 1048600) : ∀ (e n k : Nat), n ≤ ks.length → ks.length - n = e →
    spec_PipesFor.l1 (k + e + 1) l d ks [] (n : Int) = if (ks.drop n).all (inR 0 24) = true then spec_PipesFor.l2 k l d ks [] 0 else some [] := by
  intro e
  induction e with
  | zero =>
    intro n k hn he
    simp only [spec_PipesFor.l1]
    rw [if_neg (by omega), List.drop_of_length_le (by omega)]
    simp
  | succ e ih =>
    intro n k hn he
    rw [show k + (e + 1) + 1 = (k + e + 1) + 1 by omega]
    generalize hK : k + e + 1 = K
    simp only [spec_PipesFor.l1]
    rw [if_pos (by omega), if_pos (by omega), rd_nat, l01In_eq, wrap_next (by omega), drop_getD ks 0 n (by omega), ← hK, ih (n + 1) k (by omega) (by omega)]
    simp only [Option.bind_some, List.all_cons]
    cases hc : decide (0 ≤ ks.getD n 0 ∧ ks.getD n 0 ≤ 24)
    · have : inR 0 24 (ks.getD n 0) = false := hc
      simp only [this, Bool.false_and, Bool.false_eq_true, if_false]
    · have : inR 0 24 (ks.getD n 0) = true := hc
      simp only [this, Bool.true_and, if_true]
theorem spec_l0 (l : List S54) (ks : List Int) (d : List Int) (hbd : d.length ≤ 1048600) (hl : l.length ≤ 1048600) : ∀ (e n k : Nat), n ≤ d.length → d.length - n = e →
    spec_PipesFor.l0 (k + e + 1) l d ks [] (n : Int) = if (d.drop n).all (inR 0 ((l.length : Int) - 1)) = true then spec_PipesFor.l1 k l d ks [] 0 else some [] := by
  intro e
  have hw : wrap64 ((l.length : Int) - 1) = (l.length : Int) - 1 := w64 (by omega) (by omega)
  induction e with
  | zero =>
    intro n k hn he
    simp only [spec_PipesFor.l0]
    rw [if_neg (by omega), List.drop_of_length_le (by omega)]
    simp
  | succ e ih =>
    intro n k hn he
    rw [show k + (e + 1) + 1 = (k + e + 1) + 1 by omega]
    generalize hK : k + e + 1 = K
    simp only [spec_PipesFor.l0]
    rw [if_pos (by omega), if_pos (by omega), rd_nat, hw, l01In_eq, wrap_next (by omega), drop_getD d 0 n (by omega), ← hK, ih (n + 1) k (by omega) (by omega)]
    simp only [Option.bind_some, List.all_cons]
    cases hc : decide (0 ≤ d.getD n 0 ∧ d.getD n 0 ≤ (l.length : Int) - 1)
    · have : inR 0 ((l.length : Int) - 1) (d.getD n 0) = false := hc
      simp only [this, Bool.false_and, Bool.false_eq_true, if_false]
    · have : inR 0 ((l.length : Int) - 1) (d.getD n 0) = true := hc
      simp only [this, Bool.true_and, if_true]
theorem spec_PipesFor_eq (l : List S54) (d ks : List Int) (hl : l.length ≤ 1048600) (hbd : d.length ≤ 1048600) (hb : ks.length ≤ 1048600) (k : Nat) (hk : 1000000000000000 < k) :
    spec_PipesFor.f k l d ks = some (if okP l d ks = true then specP l d ks 0 4 else []) := by
  unfold spec_PipesFor.f
  simp only [Option.bind_some]
  rw [spec_StopsOk_eq l (by omega) k (by omega)]
  simp only [Option.bind_some]
  cases hs : stopsB l
  · have : okP l d ks = false := by unfold okP; rw [hs]; rfl
    simp [this]
  · rw [if_pos rfl]
    obtain ⟨k, rfl⟩ : ∃ j, k = j + d.length + 1 := ⟨k - d.length - 1, by omega⟩
    have h0 := spec_l0 l ks d hbd hl d.length 0 k (by omega) (by omega)
    rw [show ((0 : Nat) : Int) = 0 from rfl, List.drop_zero] at h0
    rw [h0]
    cases hd : d.all (inR 0 ((l.length : Int) - 1))
    · have : okP l d ks = false := by unfold okP; rw [hs, hd]; rfl
      simp [this]
    · rw [if_pos rfl]
      obtain ⟨k, rfl⟩ : ∃ j, k = j + ks.length + 1 := ⟨k - ks.length - 1, by omega⟩
      have h1 := spec_l1 l ks d hb ks.length 0 k (by omega) (by omega)
      rw [show ((0 : Nat) : Int) = 0 from rfl, List.drop_zero] at h1
      rw [h1]
      cases hks : ks.all (inR 0 24)
      · have : okP l d ks = false := by unfold okP; rw [hs, hd, hks]; rfl
        simp [this]
      · rw [if_pos rfl]
        have ho : okP l d ks = true := by unfold okP; rw [hs, hd, hks]; rfl
        have hF : d.length * (ks.length + 2) ≤ 1100000000000 := by
          have := Nat.mul_le_mul (show d.length ≤ 1048600 from hbd) (show ks.length + 2 ≤ 1048602 by omega)
          omega
        obtain ⟨F, hFe⟩ : ∃ F, 4 * (40 * (d.length * (ks.length + 2) + 2) + 2) = F := ⟨_, rfl⟩
        obtain ⟨k, rfl⟩ : ∃ j, k = j + F + 1 := ⟨k - F - 1, by omega⟩
        have h2 := spec_l2 l ks d hs (okP_drawn ho) (okP_keys ho) hb hbd 4 0 k [] (by omega) (by omega) (by simp)
        rw [show ((0 : Nat) : Int) = 0 from rfl, List.nil_append, hFe] at h2
        rw [h2, if_pos ho]
theorem sameP_iff (p q : S31) : impl_pipesOf.same p q = true ↔ p = q := by
  obtain ⟨a, b⟩ := p
  obtain ⟨c, d⟩ := q
  simp [impl_pipesOf.same]
theorem knownP_iff (l : List S31) (p : S31) : impl_pipesOf.known l p = true ↔ p ∈ l := by
  unfold impl_pipesOf.known
  rw [List.any_eq_true]
  constructor
  · rintro ⟨q, hq, h⟩
    rw [(sameP_iff p q).1 h]
    exact hq
  · intro h
    exact ⟨p, h, (sameP_iff p p).2 rfl⟩
theorem ddP_go : ∀ (l acc : List S31), acc.Nodup → (l.foldl impl_pipesOf.add acc).Nodup ∧ ∀ p, p ∈ l.foldl impl_pipesOf.add acc ↔ p ∈ acc ∨ p ∈ l := by
  intro l
  induction l with
  | nil => intro acc h; exact ⟨h, fun p => by simp⟩
  | cons q l ih =>
    intro acc h
    by_cases c : impl_pipesOf.known acc q = true
    · have e : impl_pipesOf.add acc q = acc := by unfold impl_pipesOf.add; rw [if_pos c]
      obtain ⟨h1, h2⟩ := ih acc h
      rw [List.foldl_cons, e]
      refine ⟨h1, fun p => ?_⟩
      rw [h2, List.mem_cons]
      have hq := (knownP_iff acc q).1 c
      constructor
      · rintro (h | h)
        · exact .inl h
        · exact .inr (.inr h)
      · rintro (h | rfl | h)
        · exact .inl h
        · exact .inl hq
        · exact .inr h
    · have e : impl_pipesOf.add acc q = acc ++ [q] := by unfold impl_pipesOf.add; rw [if_neg c]
      have hq : q ∉ acc := fun hh => c ((knownP_iff acc q).2 hh)
      have hn : (acc ++ [q]).Nodup := by
        rw [List.nodup_append]
        exact ⟨h, by simp, fun a ha b hb => by rw [List.mem_singleton.1 hb]; rintro rfl; exact hq ha⟩
      obtain ⟨h1, h2⟩ := ih (acc ++ [q]) hn
      rw [List.foldl_cons, e]
      refine ⟨h1, fun p => ?_⟩
      rw [h2, List.mem_append, List.mem_singleton, List.mem_cons]
      constructor
      · rintro ((h | h) | h)
        · exact .inl h
        · exact .inr (.inl h)
        · exact .inr (.inr h)
      · rintro (h | h | h)
        · exact .inl (.inl h)
        · exact .inl (.inr h)
        · exact .inr h
theorem ddP_nodup (l : List S31) : (impl_pipesOf.dd l).Nodup := (ddP_go l [] List.nodup_nil).1
theorem ddP_mem (l : List S31) (p : S31) : p ∈ impl_pipesOf.dd l ↔ p ∈ l := by
  have := (ddP_go l [] List.nodup_nil).2 p
  simpa [impl_pipesOf.dd] using this
theorem ltP_antisymm {a b : S31} (h1 : impl_pipesOf.lt a b = false) (h2 : impl_pipesOf.lt b a = false) : a = b := by
  obtain ⟨x, y⟩ := a
  obtain ⟨u, v⟩ := b
  simp [impl_pipesOf.lt] at h1 h2
  have e : x = u := by omega
  subst e
  have e : y = v := by omega
  rw [e]
theorem ltP_asymm {a b : S31} (h1 : impl_pipesOf.lt a b = true) : impl_pipesOf.lt b a = false := by
  simp [impl_pipesOf.lt] at *
  omega
theorem sortP_pairwise (l : List S31) : (sortP l).Pairwise (fun a b => impl_pipesOf.lt b a = false) := by
  have h2 : (sortP l).Pairwise (fun a b => impl_pipesOf.le a b = true) := List.pairwise_mergeSort (fun a b c hab hbc => by simp [impl_pipesOf.le, impl_pipesOf.lt] at *; omega) (fun a b => by simp [impl_pipesOf.le, impl_pipesOf.lt]; omega) _
  exact h2.imp (fun h => by simpa [impl_pipesOf.le] using h)
theorem sortP_perm (l : List S31) : (sortP l).Perm (impl_pipesOf.dd l) := List.mergeSort_perm _ _
theorem uniqueP {ys zs : List S31} (hp : zs.Perm (impl_pipesOf.dd ys)) (hs : zs.Pairwise (fun a b => impl_pipesOf.lt b a = false)) : sortP ys = zs :=
  ((sortP_perm ys).trans hp.symm).eq_of_pairwise (fun a b _ _ hab hba => ltP_antisymm hba hab) (sortP_pairwise ys) hs
theorem cellP_some {l : List S54} {d ks : List Int} {r n : Nat} {p : S31} (h : cellP l d ks r n = some p) : p = ⟨(r : Int), (n : Int)⟩ ∧ (d.any fun i => ks.any (hitK l r n i)) = true := by
  unfold cellP at h
  split at h
  · rename_i c
    exact ⟨(Option.some.inj h).symm, c⟩
  · cases h
theorem specP_lt (l : List S54) (d ks : List Int) : (specP l d ks 0 4).Pairwise (fun a b => impl_pipesOf.lt a b = true) := by
  unfold specP
  rw [List.pairwise_flatMap]
  refine ⟨fun r _ => ?_, ?_⟩
  · rw [List.pairwise_filterMap]
    refine List.Pairwise.imp ?_ (List.pairwise_lt_range' (s := 0) (n := 40))
    intro a b hab p hp q hq
    rw [(cellP_some hp).1, (cellP_some hq).1]
    simp [impl_pipesOf.lt]
    omega
  · refine List.Pairwise.imp ?_ (List.pairwise_lt_range' (s := 0) (n := 4))
    intro a b hab p hp q hq
    obtain ⟨n, _, hn⟩ := List.mem_filterMap.1 hp
    obtain ⟨m, _, hm⟩ := List.mem_filterMap.1 hq
    rw [(cellP_some hn).1, (cellP_some hm).1]
    simp [impl_pipesOf.lt]
    omega
theorem pipesD_mem (l : List S54) (d ks : List Int) (p : S31) : p ∈ pipesD l d ks ↔ ∃ i ∈ d, ∃ key ∈ ks, (0 ≤ key + (rd_T54 l i).f1 ∧ key + (rd_T54 l i).f1 ≤ 39) ∧ p = ⟨(rd_T54 l i).f0, key + (rd_T54 l i).f1⟩ := by
  unfold pipesD
  rw [List.mem_flatMap]
  constructor
  · rintro ⟨i, hi, h⟩
    obtain ⟨key, hkey, h⟩ := List.mem_filterMap.1 h
    unfold pip at h
    split at h
    · rename_i c
      exact ⟨i, hi, key, hkey, c, (Option.some.inj h).symm⟩
    · cases h
  · rintro ⟨i, hi, key, hkey, c, rfl⟩
    refine ⟨i, hi, List.mem_filterMap.2 ⟨key, hkey, ?_⟩⟩
    unfold pip
    rw [if_pos c]
theorem specP_mem (l : List S54) (d ks : List Int) (p : S31) : p ∈ specP l d ks 0 4 ↔ ∃ r : Nat, r < 4 ∧ ∃ n : Nat, n < 40 ∧ p = ⟨(r : Int), (n : Int)⟩ ∧ (d.any fun i => ks.any (hitK l r n i)) = true := by
  unfold specP
  rw [List.mem_flatMap]
  constructor
  · rintro ⟨r, hr, h⟩
    obtain ⟨n, hn, h⟩ := List.mem_filterMap.1 h
    simp at hr hn
    exact ⟨r, hr, n, hn, (cellP_some h).1, (cellP_some h).2⟩
  · rintro ⟨r, hr, n, hn, rfl, h⟩
    refine ⟨r, by simpa using hr, List.mem_filterMap.2 ⟨n, by simpa using hn, ?_⟩⟩
    unfold cellP
    rw [if_pos h]
theorem specP_iff (l : List S54) (d ks : List Int) (ho : okP l d ks = true) (p : S31) : p ∈ specP l d ks 0 4 ↔ p ∈ pipesD l d ks := by
  rw [specP_mem, pipesD_mem]
  constructor
  · rintro ⟨r, hr, n, hn, rfl, h⟩
    obtain ⟨i, hi, h⟩ := List.any_eq_true.1 h
    obtain ⟨key, hkey, h⟩ := List.any_eq_true.1 h
    unfold hitK at h
    rw [Bool.and_eq_true, beq_iff_eq, beq_iff_eq] at h
    refine ⟨i, hi, key, hkey, by omega, ?_⟩
    rw [h.1, h.2]
  · rintro ⟨i, hi, key, hkey, c, rfl⟩
    have hx := okP_drawn ho i hi
    obtain ⟨hr, _⟩ := stopB_at l (okP_stops ho) i hx.1 hx.2
    refine ⟨(rd_T54 l i).f0.toNat, by omega, (key + (rd_T54 l i).f1).toNat, by omega, ?_, ?_⟩
    · rw [Int.toNat_of_nonneg hr.1, Int.toNat_of_nonneg c.1]
    · rw [List.any_eq_true]
      refine ⟨i, hi, List.any_eq_true.2 ⟨key, hkey, ?_⟩⟩
      unfold hitK
      rw [Bool.and_eq_true, beq_iff_eq, beq_iff_eq, Int.toNat_of_nonneg hr.1, Int.toNat_of_nonneg c.1]
      exact ⟨rfl, rfl⟩
theorem sortP_spec (l : List S54) (d ks : List Int) (ho : okP l d ks = true) : sortP (pipesD l d ks) = specP l d ks 0 4 := by
  have hlt := specP_lt l d ks
  refine uniqueP ?_ (hlt.imp (fun h => ltP_asymm h))
  have hn : (specP l d ks 0 4).Nodup := hlt.imp (fun h e => by subst e; have := ltP_asymm h; rw [h] at this; cases this)
  exact (List.perm_ext_iff_of_nodup hn (ddP_nodup _)).2 (fun p => by rw [specP_iff l d ks ho, ddP_mem])
theorem PipesFor_same (l : List S54) (d ks : List Int) (hl : l.length ≤ 1048600) (hbd : d.length ≤ 1048600) (hb : ks.length ≤ 1048600) (k : Nat) (hk : 1000000000000000 < k) :
    impl_PipesFor.f k l d ks = spec_PipesFor.f k l d ks := by
  rw [impl_PipesFor_eq l d ks hl hbd hb k (by omega), spec_PipesFor_eq l d ks hl hbd hb k hk]
  by_cases ho : okP l d ks = true
  · rw [if_pos ho, if_pos ho, sortP_spec l d ks ho]
  · rw [if_neg ho, if_neg ho]
theorem specP_length (l : List S54) (d ks : List Int) : (specP l d ks 0 4).length ≤ 160 := by
  have h : ∀ r, ((List.range' 0 40).filterMap (cellP l d ks r)).length ≤ 40 := fun r => by
    have := List.length_filterMap_le (cellP l d ks r) (List.range' 0 40)
    rwa [List.length_range'] at this
  have e : specP l d ks 0 4 = (List.range' 0 40).filterMap (cellP l d ks 0) ++ ((List.range' 0 40).filterMap (cellP l d ks 1) ++ ((List.range' 0 40).filterMap (cellP l d ks 2) ++ ((List.range' 0 40).filterMap (cellP l d ks 3) ++ []))) := rfl
  have h0 := h 0
  have h1 := h 1
  have h2 := h 2
  have h3 := h 3
  rw [e]
  simp only [List.length_append, List.length_nil]
  omega
theorem PipesFor_some (l : List S54) (d ks : List Int) (hl : l.length ≤ 1048600) (hbd : d.length ≤ 1048600) (hb : ks.length ≤ 1048600) : ∃ r : List S31, r.length ≤ 160 ∧ ∀ k : Nat, 1000000000000000 < k → impl_PipesFor.f k l d ks = some r ∧ spec_PipesFor.f k l d ks = some r := by
  refine ⟨if okP l d ks = true then specP l d ks 0 4 else [], ?_, fun k hk => ?_⟩
  · split
    · exact specP_length l d ks
    · simp
  · have h := spec_PipesFor_eq l d ks hl hbd hb k hk
    exact ⟨(PipesFor_same l d ks hl hbd hb k hk).trans h, h⟩
theorem toIntS_loop (x : List Int) (hb : x.length ≤ 140737488355328) : ∀ (d n k : Nat) (y : List Int), n ≤ x.length → x.length - n = d → d < k → y.length = x.length →
    laws_toIntS.l0 k x y (n : Int) = some (y.take n ++ x.drop n) := by
  intro d
  induction d with
  | zero =>
    intro n k y h1 h2 hk hy
    obtain ⟨k, rfl⟩ : ∃ m, k = m + 1 := ⟨k - 1, by omega⟩
    simp only [laws_toIntS.l0]
    rw [if_neg (by omega), List.take_of_length_le (by omega), List.drop_of_length_le (by omega)]
    simp
  | succ d ih =>
    intro n k y h1 h2 hk hy
    obtain ⟨k, rfl⟩ : ∃ m, k = m + 1 := ⟨k - 1, by omega⟩
    simp only [laws_toIntS.l0]
    rw [if_pos (by omega), if_pos (by omega), if_pos (by omega), rd_nat, wrap_next (by omega), Int.toNat_natCast]
    rw [ih (n + 1) k _ (by omega) (by omega) (by omega) (by simpa using hy), take_set_next y n _ (by omega), drop_getD x 0 n (by omega)]
    rw [List.append_assoc]
    rfl
theorem toIntS_eq (x : List Int) (hb : x.length ≤ 35184372088832) (k : Nat) (hk : x.length < k) : laws_toIntS.f k x = some x := by
  unfold laws_toIntS.f
  rw [if_pos (by omega), Int.toNat_natCast, if_pos hb]
  have h := toIntS_loop x (by omega) x.length 0 k (List.replicate x.length 0) (by omega) (by omega) hk (by simp)
  simpa using h
theorem rdSa_nat (x : List S58) (n : Nat) : rd_T58 x (n : Int) = x.getD n z58 := by unfold rd_T58; rw [Int.toNat_natCast]
theorem rdSi_nat (x : List S54) (n : Nat) : rd_T54 x (n : Int) = x.getD n z54 := by unfold rd_T54; rw [Int.toNat_natCast]
def conS (s : S58) : S54 := ⟨s.f0, s.f1⟩
theorem toStopS_loop (x : List S58) (hb : x.length ≤ 140737488355328) : ∀ (d n k : Nat) (y : List S54), n ≤ x.length → x.length - n = d → d < k → y.length = x.length →
    laws_toStopS.l0 k x y (n : Int) = some (y.take n ++ (x.drop n).map conS) := by
  intro d
  induction d with
  | zero =>
    intro n k y h1 h2 hk hy
    obtain ⟨k, rfl⟩ : ∃ m, k = m + 1 := ⟨k - 1, by omega⟩
    simp only [laws_toStopS.l0]
    rw [if_neg (by omega), List.take_of_length_le (by omega), List.drop_of_length_le (by omega)]
    simp
  | succ d ih =>
    intro n k y h1 h2 hk hy
    obtain ⟨k, rfl⟩ : ∃ m, k = m + 1 := ⟨k - 1, by omega⟩
    simp only [laws_toStopS.l0, laws_toStop.f, Option.bind_some]
    rw [if_pos (by omega), if_pos (by omega), if_pos (by omega), rdSa_nat, wrap_next (by omega), Int.toNat_natCast]
    rw [ih (n + 1) k _ (by omega) (by omega) (by omega) (by simpa using hy), take_set_next y n _ (by omega), drop_getD x z58 n (by omega)]
    rw [List.map_cons, List.append_assoc]
    rfl
theorem toStopS_eq (x : List S58) (hb : x.length ≤ 17592186044416) (k : Nat) (hk : x.length < k) : laws_toStopS.f k x = some (x.map conS) := by
  unfold laws_toStopS.f
  rw [if_pos (by omega), Int.toNat_natCast, if_pos hb]
  have h := toStopS_loop x (by omega) x.length 0 k (List.replicate x.length z54) (by omega) (by omega) hk (by simp)
  simpa using h
theorem eqStopS_loop (x : List S54) (hb : x.length ≤ 140737488355328) : ∀ (d n k : Nat), n ≤ x.length → x.length - n = d → d < k → laws_eqStopS.l0 k x x (n : Int) = some true := by
  intro d
  induction d with
  | zero =>
    intro n k h1 h2 hk
    obtain ⟨k, rfl⟩ : ∃ m, k = m + 1 := ⟨k - 1, by omega⟩
    simp only [laws_eqStopS.l0]
    rw [if_neg (by omega)]
  | succ d ih =>
    intro n k h1 h2 hk
    obtain ⟨k, rfl⟩ : ∃ m, k = m + 1 := ⟨k - 1, by omega⟩
    simp only [laws_eqStopS.l0, laws_eqStop.f]
    rw [if_pos (by omega), if_pos (by omega), if_pos (by omega), wrap_next (by omega)]
    simp only [if_true, Option.bind_some]
    exact ih (n + 1) k (by omega) (by omega) (by omega)
theorem eqStopS_self (x : List S54) (hb : x.length ≤ 140737488355328) (k : Nat) (hk : x.length < k) : laws_eqStopS.f k x x = some true := by
  unfold laws_eqStopS.f
  rw [if_pos rfl]
  exact eqStopS_loop x hb x.length 0 k (by omega) (by omega) hk
theorem eqIntS_loop (x y : List Int) (hl : x.length = y.length) (hb : x.length ≤ 140737488355328) : ∀ (d n k : Nat), n ≤ x.length → x.length - n ≤ d → d < k → laws_eqIntS.l0 k x y (n : Int) = some (decide (x.drop n = y.drop n)) := by
  intro d
  induction d with
  | zero =>
    intro n k h1 h2 hk
    obtain ⟨k, rfl⟩ : ∃ m, k = m + 1 := ⟨k - 1, by omega⟩
    simp only [laws_eqIntS.l0]
    rw [if_neg (by omega), List.drop_of_length_le (by omega), List.drop_of_length_le (by omega)]
    simp
  | succ d ih =>
    intro n k h1 h2 hk
    obtain ⟨k, rfl⟩ : ∃ m, k = m + 1 := ⟨k - 1, by omega⟩
    simp only [laws_eqIntS.l0]
    by_cases hlt : n < x.length
    · rw [if_pos (by omega), if_pos (by omega), if_pos (by omega), rd_nat, rd_nat, wrap_next (by omega), drop_getD x 0 n hlt, drop_getD y 0 n (by omega), ih (n + 1) k (by omega) (by omega) (by omega)]
      by_cases e : x.getD n 0 = y.getD n 0
      · rw [if_pos e, e]; simp
      · rw [if_neg e]; simp only [List.cons.injEq, e, false_and, decide_false]
    · rw [if_neg (by omega), List.drop_of_length_le (by omega), List.drop_of_length_le (by omega)]
      simp
theorem eqIntS_eq (x y : List Int) (hb : x.length ≤ 140737488355328) (k : Nat) (hk : x.length < k) : laws_eqIntS.f k x y = some (decide (x = y)) := by
  unfold laws_eqIntS.f
  by_cases hl : x.length = y.length
  · rw [if_pos (by omega)]
    have h := eqIntS_loop x y hl hb x.length 0 k (by omega) (by omega) hk
    simpa using h
  · rw [if_neg (by omega)]
    have : x ≠ y := fun e => hl (by rw [e])
    simp [this]
theorem countpipes_law (l : List S58) (d ks : List Int) (hm : l.length ≤ 9223372036854775807) (k : Nat) (hk : 1000000000000001 < k) : laws_FnExactCountPipes.f k l d ks = some true := by
  unfold laws_FnExactCountPipes.f
  by_cases hd : (d.length : Int) > 1048576
  · rw [if_pos hd]
  by_cases hks : (ks.length : Int) > 1048576
  · rw [if_neg hd, if_pos hks]
  rw [if_neg hd, if_neg hks]
  simp only [laws_szStopS.f]
  rw [w64 (n := 1048576 - (l.length : Int)) (by omega) (by omega)]
  by_cases hl : 1048576 - (l.length : Int) < 0
  · rw [if_pos hl]; simp
  rw [if_neg hl]
  simp only [Option.bind_some]
  rw [if_neg hl, toStopS_eq l (by omega) k (by omega), toIntS_eq d (by omega) k (by omega), toIntS_eq ks (by omega) k (by omega)]
  simp only [Option.bind_some]
  have hlen : (l.map conS).length = l.length := by simp
  obtain ⟨r, hr, hrr⟩ := PipesFor_some (l.map conS) d ks (by omega) (by omega) (by omega)
  obtain ⟨h1, h2⟩ := hrr k (by omega)
  unfold spec_CountPipes.f impl_CountPipes.f
  rw [h2, h1]
  simp only [Option.bind_some, if_true]
  rw [eqStopS_self _ (by omega) k (by omega), eqIntS_eq d d (by omega) k (by omega), eqIntS_eq ks ks (by omega) k (by omega)]
  simp only [Option.bind_some, decide_true, if_true]
theorem FnExactCountPipes (l : List S58) (hm : l.length ≤ 9223372036854775807) (d : List Int) (hd : d.length ≤ maxLen) (h8 : d.length * 8 ≤ 140737488351232) (hw : ∀ x ∈ d, (Lit.int .i64 x).wf = true) (ks : List Int) (hks : ks.length ≤ maxLen) (h9 : ks.length * 8 ≤ 140737488351232) (hw2 : ∀ x ∈ ks, (Lit.int .i64 x).wf = true) : ∃ k, laws_FnExactCountPipes.f k l d ks = some true := by
  obtain ⟨k, hk⟩ : ∃ k : Nat, 1000000000000001 < k := ⟨1000000000000002, by omega⟩
  exact ⟨k, countpipes_law l d ks hm k hk⟩
end Go.Proofs.Ytookbccmhflhlaa.Pure
