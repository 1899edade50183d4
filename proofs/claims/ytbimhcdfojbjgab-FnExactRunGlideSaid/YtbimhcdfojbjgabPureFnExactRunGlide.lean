/- The plain law of FnExactRunGlide: the printed function of the law answers true. Its conditions are those of the statement's own bounds. -/
import Derived.Test.YtbimhcdfojbjgabPFnExactRunGlidex3
namespace Go.Proofs.Ytbimhcdfojbjgab.Pure
open Go.RowKit Go.Proofs.Ytbimhcdfojbjgab.PFnExactRunGlide Go.Proofs.YtbimhcdfojbjgabW.PrintWords Go.Proofs.YtbimhcdfojbjgabW.PrintLast Go.Proofs.YtbimhcdfojbjgabW.PrintMore
set_option linter.unusedVariables false
theorem l01In_eq (a b c : Int) : spec_l01In.f a b c = some (decide (b ≤ a ∧ a ≤ c)) := by
  unfold spec_l01In.f
  by_cases h : a ≥ b
  · rw [if_pos h]; congr 1; by_cases h2 : a ≤ c <;> simp [h2, h]
  · rw [if_neg h]; congr 1; simp; omega
theorem within_eq (a b c : Int) : impl_within.f a b c = some (decide (b ≤ a ∧ a ≤ c)) := by
  unfold impl_within.f
  by_cases h : b ≤ a
  · rw [if_pos h]; congr 1; by_cases h2 : a ≤ c <;> simp [h2, h]
  · rw [if_neg h]; congr 1; simp; omega
theorem law_of {α : Type} [DecidableEq α] {s i : Option α} {r : α} (hs : s = some r) (hi : i = some r) : (s.bind fun t => i.bind fun u => if u = t then some true else some false) = some true := by
  subst hs hi; simp
theorem law_ofb {s i : Option Bool} {r : Bool} (hs : s = some r) (hi : i = some r) : (s.bind fun t => i.bind fun u => if (u != t) = true then some false else some true) = some true := by
  subst hs hi; simp
theorem wf_i64 {a : Int} (h : (Lit.int .i64 a).wf = true) : -9223372036854775808 ≤ a ∧ a ≤ 9223372036854775807 := by
  have h' : (decide ((-9223372036854775808 : Int) ≤ a) && decide (a ≤ 9223372036854775807)) = true := h
  simp at h'; omega
theorem w64 {n : Int} (h1 : -9223372036854775808 ≤ n) (h2 : n ≤ 9223372036854775807) : wrap64 n = n := by unfold wrap64; omega
theorem mul_bd {a b A B : Int} (h0 : 0 ≤ a) (h1 : a ≤ A) (h2 : 0 ≤ b) (h3 : b ≤ B) : 0 ≤ a * b ∧ a * b ≤ A * B := by
  refine ⟨Int.mul_nonneg h0 h2, ?_⟩
  exact Int.le_trans (Int.mul_le_mul_of_nonneg_right h1 h2) (Int.mul_le_mul_of_nonneg_left h3 (by omega))
theorem tdiv_nn {a b : Int} (h : 0 ≤ a) : a.tdiv b = a / b := Int.tdiv_eq_ediv_of_nonneg h
theorem div_bd {a A c : Int} (h0 : 0 ≤ a) (h1 : a ≤ A) (hc : 0 < c) : 0 ≤ a / c ∧ a / c ≤ A / c :=
  ⟨Int.ediv_nonneg h0 (by omega), Int.ediv_le_ediv hc h1⟩
abbrev gOk (n t m : Int) : Prop := -1000000 ≤ n ∧ n ≤ 1000000 ∧ -1000000 ≤ t ∧ t ≤ 1000000 ∧ 1 ≤ m ∧ m ≤ 10000
theorem spec_l32Ok_eq (n t m : Int) : spec_l32Ok.f n t m = some (decide (gOk n t m)) := by
  simp only [spec_l32Ok.f, l01In_eq, Option.bind_some]
  by_cases h1 : -1000000 ≤ n ∧ n ≤ 1000000 <;> by_cases h2 : -1000000 ≤ t ∧ t ≤ 1000000 <;> by_cases h3 : 1 ≤ m ∧ m ≤ 10000 <;> simp [h1, h2, h3] <;> omega
theorem impl_mayGlide_eq (n t m : Int) : impl_mayGlide.f n t m = some (decide (gOk n t m)) := by
  simp only [impl_mayGlide.f, within_eq, Option.bind_some]
  by_cases h1 : -1000000 ≤ n ∧ n ≤ 1000000 <;> by_cases h2 : -1000000 ≤ t ∧ t ≤ 1000000 <;> by_cases h3 : 1 ≤ m ∧ m ≤ 10000 <;> simp [h1, h2, h3] <;> omega
def glide (n t m : Int) : Int := if gOk n t m then (if t > n + m then n + m else if t < n - m then n - m else t) else n
theorem glide_no {n t m : Int} (h : ¬ gOk n t m) : glide n t m = n := if_neg h
theorem glide_yes {n t m : Int} (h : gOk n t m) : glide n t m = if t > n + m then n + m else if t < n - m then n - m else t := if_pos h
theorem spec_GlideStep_eq (n t m : Int) : spec_GlideStep.f n t m = some (glide n t m) := by
  simp only [spec_GlideStep.f, spec_l32Ok_eq, Option.bind_some]
  by_cases h : gOk n t m
  · rw [w64 (n := n + m) (by omega) (by omega), w64 (n := n - m) (by omega) (by omega), if_pos (decide_eq_true h), glide_yes h]
    split
    · rfl
    · split <;> rfl
  · rw [glide_no h, if_neg (by simpa using h)]
theorem impl_GlideStep_eq (n t m : Int) : impl_GlideStep.f n t m = some (glide n t m) := by
  simp only [impl_GlideStep.f, impl_mayGlide_eq, impl_Clamp.f, Option.bind_some]
  by_cases h : gOk n t m
  · rw [w64 (n := n + m) (by omega) (by omega), w64 (n := n - m) (by omega) (by omega), if_pos (decide_eq_true h), glide_yes h]
    by_cases h1 : t > n + m
    · rw [if_pos h1, if_pos h1, if_neg (by omega)]; rfl
    · rw [if_neg h1, if_neg h1]
      by_cases h2 : t < n - m
      · rw [if_pos h2, if_pos h2]; rfl
      · rw [if_neg h2, if_neg h2]; rfl
  · rw [glide_no h, if_neg (by simpa using h)]
theorem wrap_next {n : Nat} (h : n ≤ 140737488355328) : wrap64 ((n : Int) + 1) = ((n + 1 : Nat) : Int) := by unfold wrap64; omega
theorem drop_getD {α : Type} (x : List α) (z : α) (n : Nat) (h : n < x.length) : x.drop n = x.getD n z :: x.drop (n + 1) := by
  rw [List.getD_eq_getElem?_getD, List.getElem?_eq_getElem h]
  exact List.drop_eq_getElem_cons h
theorem rd_nat (x : List Int) (n : Nat) : rd x (n : Int) = x.getD n 0 := by unfold rd; rw [Int.toNat_natCast]
theorem take_set_next {α : Type} (x : List α) (n : Nat) (v : α) (h : n < x.length) : (x.set n v).take (n + 1) = x.take n ++ [v] := by
  rw [List.take_succ_eq_append_getElem (by simpa using h)]
  congr 1
  · rw [List.take_set_of_le (Nat.le_refl _)]
  · simp
def apartG (a b : Int) : Int := mx (a - b) (b - a)
theorem apartG_abs (a b : Int) : 0 ≤ apartG a b ∧ a - b ≤ apartG a b ∧ b - a ≤ apartG a b ∧ (apartG a b = a - b ∨ apartG a b = b - a) := by unfold apartG mx; split <;> omega
def runL (m : Int) : Int → List Int → List Int
  | _, [] => []
  | now, t :: ts => glide now t m :: runL m (glide now t m) ts
def farL (m : Int) : Int → Int → List Int → Int
  | _, lag, [] => lag
  | now, lag, t :: ts => farL m (glide now t m) (mx lag (apartG (glide now t m) t)) ts
theorem runL_length (m : Int) : ∀ (ts : List Int) (now : Int), (runL m now ts).length = ts.length := by
  intro ts
  induction ts with
  | nil => intro now; rfl
  | cons t ts ih => intro now; simp [runL, ih]
/-- where the glide stands is between now and the target -/
theorem glide_bd {n t m : Int} (h : gOk n t m) : (glide n t m ≤ n ∨ glide n t m ≤ t) ∧ (n ≤ glide n t m ∨ t ≤ glide n t m) ∧ -1000000 ≤ glide n t m ∧ glide n t m ≤ 1000000 := by
  rw [glide_yes h]
  split
  · omega
  · split <;> omega
theorem gOk_next {n t u m : Int} (h : gOk n t m) (g : gOk n u m) : gOk (glide n t m) u m := by
  have := glide_bd h; omega
theorem impl_run_loop1 (x : List Int) (m : Int) (hx : x.length ≤ 60) : ∀ (d n k : Nat) (now lag : Int) (acc : List Int), n ≤ x.length → x.length - n = d → d < k → acc.length ≤ n → (∀ t ∈ x, gOk now t m) →
    impl_RunGlide.l1 k now m acc lag x (x.length : Int) (n : Int) = some (acc ++ runL m now (x.drop n), farL m now lag (x.drop n)) := by
  intro d
  induction d with
  | zero =>
    intro n k now lag acc h1 h2 hk ha hg
    obtain ⟨k, rfl⟩ : ∃ m, k = m + 1 := ⟨k - 1, by omega⟩
    simp only [impl_RunGlide.l1]
    rw [if_neg (by omega), List.drop_of_length_le (by omega)]
    simp [runL, farL]
  | succ d ih =>
    intro n k now lag acc h1 h2 hk ha hg
    obtain ⟨k, rfl⟩ : ∃ m, k = m + 1 := ⟨k - 1, by omega⟩
    have hlt : n < x.length := by omega
    have hmem : x.getD n 0 ∈ x := by rw [List.getD_eq_getElem?_getD, List.getElem?_eq_getElem hlt]; exact List.getElem_mem _
    have hgn := hg _ hmem
    have hbd := glide_bd hgn
    simp only [impl_RunGlide.l1, impl_GlideStep_eq, impl_apart.f, Option.bind_some]
    rw [if_pos (by omega), if_pos (by omega), if_pos (by omega), rd_nat, if_pos (by omega), wrap_next (by omega)]
    rw [w64 (n := glide now (x.getD n 0) m - x.getD n 0) (by omega) (by omega), w64 (n := x.getD n 0 - glide now (x.getD n 0) m) (by omega) (by omega)]
    rw [ih (n + 1) k _ _ _ (by omega) (by omega) (by omega) (by simp; omega) (fun t ht => gOk_next hgn (hg t ht)), drop_getD x 0 n hlt]
    simp only [runL, farL, apartG, List.append_assoc, List.cons_append, List.nil_append]
theorem impl_run_loop0 (x : List Int) (m now : Int) (hx : x.length ≤ 60) : ∀ (d n k : Nat), n ≤ x.length → x.length - n = d → d + x.length + 1 < k →
    impl_RunGlide.l0 k now x m x (x.length : Int) (n : Int) = if (∀ t ∈ x.drop n, gOk now t m) then impl_RunGlide.l1 (k - d - 1) now m [] 0 x (x.length : Int) 0 else some ([], 0) := by
  intro d
  induction d with
  | zero =>
    intro n k h1 h2 hk
    obtain ⟨k, rfl⟩ : ∃ m, k = m + 1 := ⟨k - 1, by omega⟩
    simp only [impl_RunGlide.l0]
    rw [if_neg (by omega), List.drop_of_length_le (by omega), if_pos (by simp)]
    rfl
  | succ d ih =>
    intro n k h1 h2 hk
    obtain ⟨k, rfl⟩ : ∃ m, k = m + 1 := ⟨k - 1, by omega⟩
    simp only [impl_RunGlide.l0, impl_mayGlide_eq, Option.bind_some]
    rw [if_pos (by omega), if_pos (by omega), if_pos (by omega), rd_nat, wrap_next (by omega), ih (n + 1) k (by omega) (by omega) (by omega)]
    have e : k + 1 - (d + 1) - 1 = k - d - 1 := by omega
    rw [e, drop_getD x 0 n (by omega)]
    by_cases c : gOk now (x.getD n 0) m
    · rw [if_pos (decide_eq_true c)]
      by_cases c2 : ∀ t ∈ x.drop (n + 1), gOk now t m
      · rw [if_pos c2, if_pos (fun t ht => by
          rcases List.mem_cons.1 ht with h | h
          · rw [h]; exact c
          · exact c2 t h)]
      · rw [if_neg c2, if_neg (fun hh => c2 fun t ht => hh t (List.mem_cons_of_mem _ ht))]
    · rw [if_neg (by simpa using c), if_neg (fun hh => c (hh _ List.mem_cons_self))]
def rOk (now : Int) (x : List Int) (m : Int) : Prop := x.length ≤ 60 ∧ gOk now 0 m ∧ ∀ t ∈ x, gOk now t m
theorem impl_RunGlide_yes {now : Int} {x : List Int} {m : Int} (h : rOk now x m) (k : Nat) (hk : 200 < k) : impl_RunGlide.f k now x m = some (runL m now x, farL m now 0 x) := by
  obtain ⟨h1, h2, h3⟩ := h
  obtain ⟨k, rfl⟩ : ∃ m, k = m + 1 := ⟨k - 1, by omega⟩
  unfold impl_RunGlide.f
  rw [if_neg (by omega), impl_mayGlide_eq, decide_eq_true h2]
  simp only [Option.bind_some, impl_RunGlide.j0]
  rw [if_neg (by decide)]
  have e := impl_run_loop0 x m now h1 x.length 0 k (by omega) (by omega) (by omega)
  rw [if_pos (by simpa using h3)] at e
  have e2 := impl_run_loop1 x m h1 x.length 0 (k - x.length - 1) now 0 [] (by omega) (by omega) (by omega) (by simp) h3
  simp only [Int.natCast_zero, List.nil_append, List.drop_zero] at e e2
  rw [e, e2]
theorem impl_RunGlide_no {now : Int} {x : List Int} {m : Int} (h : ¬ rOk now x m) (k : Nat) (hk : 200 < k) : impl_RunGlide.f k now x m = some ([], 0) := by
  obtain ⟨k, rfl⟩ : ∃ m, k = m + 1 := ⟨k - 1, by omega⟩
  unfold impl_RunGlide.f
  by_cases h1 : x.length ≤ 60
  · rw [if_neg (by omega), impl_mayGlide_eq]
    simp only [Option.bind_some, impl_RunGlide.j0]
    by_cases h2 : gOk now 0 m
    · rw [decide_eq_true h2, if_neg (by decide)]
      have e := impl_run_loop0 x m now h1 x.length 0 k (by omega) (by omega) (by omega)
      rw [if_neg (fun hh => h ⟨h1, h2, by simpa using hh⟩)] at e
      exact e
    · rw [decide_eq_false h2, if_pos (by decide)]
  · rw [if_pos (by omega), impl_RunGlide.j0, if_pos rfl]
theorem toIntS_loop (x : List Int) (hb : x.length ≤ 140737488355328) : ∀ (d n k : Nat) (y : List Int), n ≤ x.length → x.length - n = d → d < k → y.length = x.length →
    laws_toIntS.l0 k x y (n : Int) = some (y.take n ++ x.drop n) := by
  intro d
  induction d with
  | zero =>
    intro n k y h1 h2 hk hy
    obtain ⟨k, rfl⟩ : ∃ m, k = m + 1 := ⟨k - 1, by omega⟩
    simp only [laws_toIntS.l0]
    rw [if_neg (by omega), List.take_of_length_le (by omega), List.drop_of_length_le (by omega)]
    simp
  | succ d ih =>
    intro n k y h1 h2 hk hy
    obtain ⟨k, rfl⟩ : ∃ m, k = m + 1 := ⟨k - 1, by omega⟩
    simp only [laws_toIntS.l0]
    rw [if_pos (by omega), if_pos (by omega), if_pos (by omega), rd_nat, wrap_next (by omega), Int.toNat_natCast]
    rw [ih (n + 1) k _ (by omega) (by omega) (by omega) (by simpa using hy), take_set_next y n _ (by omega), drop_getD x 0 n (by omega)]
    rw [List.append_assoc]
    rfl
theorem toIntS_eq (x : List Int) (hb : x.length ≤ 35184372088832) (k : Nat) (hk : x.length < k) : laws_toIntS.f k x = some x := by
  unfold laws_toIntS.f
  rw [if_pos (by omega), Int.toNat_natCast, if_pos hb]
  have h := toIntS_loop x (by omega) x.length 0 k (List.replicate x.length 0) (by omega) (by omega) hk (by simp)
  simpa using h
theorem eqIntS_loop (x y : List Int) (hl : x.length = y.length) (hb : x.length ≤ 140737488355328) : ∀ (d n k : Nat), n ≤ x.length → x.length - n ≤ d → d < k → laws_eqIntS.l0 k x y (n : Int) = some (decide (x.drop n = y.drop n)) := by
  intro d
  induction d with
  | zero =>
    intro n k h1 h2 hk
    obtain ⟨k, rfl⟩ : ∃ m, k = m + 1 := ⟨k - 1, by omega⟩
    simp only [laws_eqIntS.l0]
    rw [if_neg (by omega), List.drop_of_length_le (by omega), List.drop_of_length_le (by omega)]
    simp
  | succ d ih =>
    intro n k h1 h2 hk
    obtain ⟨k, rfl⟩ : ∃ m, k = m + 1 := ⟨k - 1, by omega⟩
    simp only [laws_eqIntS.l0]
    by_cases hlt : n < x.length
    · rw [if_pos (by omega), if_pos (by omega), if_pos (by omega), rd_nat, rd_nat, wrap_next (by omega), drop_getD x 0 n hlt, drop_getD y 0 n (by omega), ih (n + 1) k (by omega) (by omega) (by omega)]
      by_cases e : x.getD n 0 = y.getD n 0
      · rw [if_pos e, e]; simp
      · rw [if_neg e]; simp only [List.cons.injEq, e, false_and, decide_false]
    · rw [if_neg (by omega), List.drop_of_length_le (by omega), List.drop_of_length_le (by omega)]
      simp
theorem eqIntS_eq (x y : List Int) (hb : x.length ≤ 140737488355328) (k : Nat) (hk : x.length < k) : laws_eqIntS.f k x y = some (decide (x = y)) := by
  unfold laws_eqIntS.f
  by_cases hl : x.length = y.length
  · rw [if_pos (by omega)]
    have h := eqIntS_loop x y hl hb x.length 0 k (by omega) (by omega) hk
    simpa using h
  · rw [if_neg (by omega)]
    have : x ≠ y := fun e => hl (by rw [e])
    simp [this]
def iota (m : Int) : Nat → List Int
  | 0 => []
  | n + 1 => m :: iota (m + 1) n
theorem iota_length (n : Nat) : ∀ m : Int, (iota m n).length = n := by
  induction n with
  | zero => intro m; rfl
  | succ n ih => intro m; simp [iota, ih]
theorem wrap_int {m : Int} (h : -9223372036854775808 ≤ m) (h2 : m ≤ 9223372036854775807) : wrap64 m = m := by unfold wrap64; omega
theorem markIntS_loop : ∀ (d n k : Nat) (x : List Int) (m : Int), x.length ≤ 140737488355328 → n ≤ x.length → x.length - n = d → d < k → 0 ≤ m → m + d ≤ 281474976710656 →
    laws_markIntS.l0 k x m (n : Int) = some (m + d, x.take n ++ iota m d) := by
  intro d
  induction d with
  | zero =>
    intro n k x m hb h1 h2 hk hm hm2
    obtain ⟨k, rfl⟩ : ∃ m, k = m + 1 := ⟨k - 1, by omega⟩
    simp only [laws_markIntS.l0]
    rw [if_neg (by omega), List.take_of_length_le (by omega)]
    simp [iota]
  | succ d ih =>
    intro n k x m hb h1 h2 hk hm hm2
    obtain ⟨k, rfl⟩ : ∃ m, k = m + 1 := ⟨k - 1, by omega⟩
    simp only [laws_markIntS.l0]
    rw [if_pos (by omega), if_pos (by omega), wrap_next (by omega), wrap_int (m := m + 1) (by omega) (by omega), Int.toNat_natCast]
    rw [ih (n + 1) k (x.set n m) (m + 1) (by simpa using hb) (by simp; omega) (by simp; omega) (by omega) (by omega) (by omega), take_set_next x n m (by omega)]
    simp [iota]
    omega
theorem markIntS_eq (x : List Int) (hb : x.length ≤ 140737488355328) (k : Nat) (hk : x.length < k) (m : Int) (h0 : 0 ≤ m) (h1 : m ≤ 140737488355328) : laws_markIntS.f k x m = some (m + x.length, iota m x.length) := by
  unfold laws_markIntS.f
  have h := markIntS_loop x.length 0 k x m hb (by omega) (by omega) hk h0 (by omega)
  simpa using h
theorem heldIntS_loop : ∀ (d n k : Nat) (x : List Int) (m : Int), x.length ≤ 140737488355328 → n ≤ x.length → x.length - n = d → d < k → 0 ≤ m → m + d ≤ 281474976710656 → x.drop n = iota m d →
    laws_heldIntS.l0 k x m (n : Int) = some (m + d) := by
  intro d
  induction d with
  | zero =>
    intro n k x m hb h1 h2 hk hm hm2 hx
    obtain ⟨k, rfl⟩ : ∃ m, k = m + 1 := ⟨k - 1, by omega⟩
    simp only [laws_heldIntS.l0]
    rw [if_neg (by omega)]
    simp
  | succ d ih =>
    intro n k x m hb h1 h2 hk hm hm2 hx
    obtain ⟨k, rfl⟩ : ∃ m, k = m + 1 := ⟨k - 1, by omega⟩
    simp only [laws_heldIntS.l0]
    rw [drop_getD x 0 n (by omega)] at hx
    injection hx with e1 e2
    rw [if_pos (by omega), if_pos (by omega), rd_nat, if_pos e1, wrap_next (by omega), wrap_int (m := m + 1) (by omega) (by omega), ih (n + 1) k x (m + 1) hb (by omega) (by omega) (by omega) (by omega) (by omega) e2]
    congr 1
    omega
theorem heldIntS_eq (n : Nat) (hb : n ≤ 140737488355328) (k : Nat) (hk : n < k) (m : Int) (h0 : 0 ≤ m) (h1 : m ≤ 140737488355328) : laws_heldIntS.f k (iota m n) m = some (m + n) := by
  unfold laws_heldIntS.f
  have hl := iota_length n m
  exact heldIntS_loop n 0 k (iota m n) m (by omega) (by omega) (by omega) hk h0 (by omega) (by simp)
theorem spec_run_loop1 (x : List Int) (m : Int) (hx : x.length ≤ 60) : ∀ (d n k : Nat) (now lag : Int) (acc : List Int), n ≤ x.length → x.length - n = d → d < k → acc.length ≤ n → (∀ t ∈ x, gOk now t m) →
    spec_RunGlide.l1 k now x m acc lag (n : Int) = some (acc ++ runL m now (x.drop n), farL m now lag (x.drop n)) := by
  intro d
  induction d with
  | zero =>
    intro n k now lag acc h1 h2 hk ha hg
    obtain ⟨k, rfl⟩ : ∃ m, k = m + 1 := ⟨k - 1, by omega⟩
    simp only [spec_RunGlide.l1]
    rw [if_neg (by omega), List.drop_of_length_le (by omega)]
    simp [runL, farL]
  | succ d ih =>
    intro n k now lag acc h1 h2 hk ha hg
    obtain ⟨k, rfl⟩ : ∃ m, k = m + 1 := ⟨k - 1, by omega⟩
    have hlt : n < x.length := by omega
    have hmem : x.getD n 0 ∈ x := by rw [List.getD_eq_getElem?_getD, List.getElem?_eq_getElem hlt]; exact List.getElem_mem _
    have hgn := hg _ hmem
    have hbd := glide_bd hgn
    simp only [spec_RunGlide.l1, spec_GlideStep_eq, Option.bind_some]
    rw [if_pos (by omega), if_pos (by omega), rd_nat, if_pos (by omega), wrap_next (by omega)]
    rw [w64 (n := glide now (x.getD n 0) m - x.getD n 0) (by omega) (by omega), w64 (n := x.getD n 0 - glide now (x.getD n 0) m) (by omega) (by omega)]
    have e : mx (mx lag (glide now (x.getD n 0) m - x.getD n 0)) (x.getD n 0 - glide now (x.getD n 0) m) = mx lag (apartG (glide now (x.getD n 0) m) (x.getD n 0)) := by
      unfold apartG mx
      repeat' split
      all_goals omega
    rw [e, ih (n + 1) k _ _ _ (by omega) (by omega) (by omega) (by simp; omega) (fun t ht => gOk_next hgn (hg t ht)), drop_getD x 0 n hlt]
    simp only [runL, farL, List.append_assoc, List.cons_append, List.nil_append]
theorem spec_run_loop0 (x : List Int) (m now : Int) (hb : x.length ≤ 35184372088832) : ∀ (d n k : Nat), n ≤ x.length → x.length - n = d → d + x.length + 1 < k →
    spec_RunGlide.l0 k now x m [] 0 (n : Int) = if (∀ t ∈ x.drop n, gOk now t m ∧ x.length ≤ 60) then spec_RunGlide.l1 (k - d - 1) now x m [] 0 0 else some ([], 0) := by
  intro d
  induction d with
  | zero =>
    intro n k h1 h2 hk
    obtain ⟨k, rfl⟩ : ∃ m, k = m + 1 := ⟨k - 1, by omega⟩
    simp only [spec_RunGlide.l0]
    rw [if_neg (by omega), List.drop_of_length_le (by omega), if_pos (by simp)]
    rfl
  | succ d ih =>
    intro n k h1 h2 hk
    obtain ⟨k, rfl⟩ : ∃ m, k = m + 1 := ⟨k - 1, by omega⟩
    simp only [spec_RunGlide.l0, spec_l32Ok_eq, Option.bind_some]
    rw [if_pos (by omega), if_pos (by omega), rd_nat, wrap_next (by omega), ih (n + 1) k (by omega) (by omega) (by omega)]
    have e : k + 1 - (d + 1) - 1 = k - d - 1 := by omega
    rw [e, drop_getD x 0 n (by omega)]
    by_cases c : gOk now (x.getD n 0) m
    · rw [if_pos (decide_eq_true c)]
      by_cases c3 : x.length ≤ 60
      · rw [if_neg (by omega)]
        by_cases c2 : ∀ t ∈ x.drop (n + 1), gOk now t m ∧ x.length ≤ 60
        · rw [if_pos c2, if_pos (fun t ht => by
            rcases List.mem_cons.1 ht with h | h
            · rw [h]; exact ⟨c, c3⟩
            · exact c2 t h)]
        · rw [if_neg c2, if_neg (fun hh => c2 fun t ht => hh t (List.mem_cons_of_mem _ ht))]
      · rw [if_pos (by omega), if_neg (fun hh => c3 (hh _ List.mem_cons_self).2)]
    · rw [if_neg (by simpa using c), if_neg (fun hh => c (hh _ List.mem_cons_self).1)]
/-- both answer the same list and number -/
theorem run_agree (now : Int) (x : List Int) (m : Int) (hb : x.length ≤ 1048576) (k : Nat) (hk : 3000000 < k) : ∃ l n, spec_RunGlide.f k now x m = some (l, n) ∧ impl_RunGlide.f k now x m = some (l, n) ∧ l.length ≤ 60 := by
  have e := spec_run_loop0 x m now (by omega) x.length 0 k (by omega) (by omega) (by omega)
  simp only [Int.natCast_zero, List.drop_zero] at e
  unfold spec_RunGlide.f
  rw [e]
  by_cases hx : x = []
  · subst hx
    rw [if_pos (by simp)]
    obtain ⟨k, rfl⟩ : ∃ m, k = m + 1 + 1 := ⟨k - 2, by omega⟩
    refine ⟨[], 0, ?_, ?_, by simp⟩
    · show spec_RunGlide.l1 (k + 1) now [] m [] 0 0 = _
      simp [spec_RunGlide.l1]
    · by_cases h : rOk now [] m
      · rw [impl_RunGlide_yes h (k + 1 + 1) (by omega)]; rfl
      · exact impl_RunGlide_no h (k + 1 + 1) (by omega)
  · by_cases h : rOk now x m
    · rw [if_pos (fun t ht => ⟨h.2.2 t ht, h.1⟩)]
      have e2 := spec_run_loop1 x m h.1 x.length 0 (k - x.length - 1) now 0 [] (by omega) (by omega) (by omega) (by simp) h.2.2
      simp only [Int.natCast_zero, List.nil_append, List.drop_zero] at e2
      rw [e2, impl_RunGlide_yes h k (by omega)]
      exact ⟨_, _, rfl, rfl, by rw [runL_length]; exact h.1⟩
    · rw [if_neg (fun hh => h ?_), impl_RunGlide_no h k (by omega)]
      · exact ⟨_, _, rfl, rfl, by simp⟩
      · obtain ⟨t, ht⟩ := List.exists_mem_of_ne_nil x hx
        have := hh t ht
        exact ⟨this.2, by have := this.1; omega, fun u hu => (hh u hu).1⟩
theorem run_law (now : Int) (x : List Int) (m : Int) (hb : x.length ≤ 9223372036854775807) (k : Nat) (hk : 4000000 < k) : laws_FnExactRunGlide.f k now x m = some true := by
  unfold laws_FnExactRunGlide.f
  by_cases hl : (x.length : Int) > 1048576
  · rw [if_pos hl]
  · rw [if_neg hl, toIntS_eq x (by omega) k (by omega)]
    simp only [Option.bind_some]
    obtain ⟨l, n, e1, e2, hl60⟩ := run_agree now x m (by omega) k (by omega)
    rw [e1]; simp only [Option.bind_some]
    rw [e2]; simp only [Option.bind_some]
    rw [eqIntS_eq l l (by omega) k (by omega)]
    simp only [Option.bind_some, decide_true, if_true, bne_self_eq_false]
    obtain ⟨k, rfl⟩ : ∃ m, k = m + 1 + 1 + 1 := ⟨k - 3, by omega⟩
    rw [laws_FnExactRunGlide.j0, if_neg (by decide), toIntS_eq x (by omega) (k + 1 + 1) (by omega)]
    simp only [Option.bind_some]
    rw [eqIntS_eq x x (by omega) (k + 1 + 1) (by omega)]
    simp only [Option.bind_some, decide_true, if_true]
    rw [markIntS_eq x (by omega) (k + 1 + 1) (by omega) 1 (by omega) (by omega)]
    simp only [Option.bind_some]
    rw [if_neg (by omega), eqIntS_eq l l (by omega) (k + 1 + 1) (by omega)]
    simp only [Option.bind_some, decide_true, if_true, bne_self_eq_false]
    rw [laws_FnExactRunGlide.j1, if_neg (by decide), markIntS_eq l (by omega) (k + 1) (by omega) 1 (by omega) (by omega)]
    simp only [Option.bind_some]
    rw [heldIntS_eq l.length (by omega) (k + 1) (by omega) 1 (by omega) (by omega)]
    simp only [Option.bind_some]
    rw [if_neg (by omega), if_pos trivial, toIntS_eq x (by omega) (k + 1) (by omega)]
    simp only [Option.bind_some]
    obtain ⟨l', n', f1, f2, _⟩ := run_agree now x m (by omega) (k + 1) (by omega)
    have fe := at_rounds (fun k => impl_RunGlide.mono now x m k) (show k + 1 ≤ k + 1 + 1 + 1 by omega) f2
    rw [e2] at fe
    simp only [Option.some.injEq, Prod.mk.injEq] at fe
    obtain ⟨rfl, rfl⟩ := fe
    rw [f2]; simp only [Option.bind_some]
    rw [eqIntS_eq l l (by omega) (k + 1) (by omega)]
    simp only [Option.bind_some, decide_true, if_true, bne_self_eq_false]
    rw [laws_FnExactRunGlide.j2]
    simp only [Bool.false_eq_true, if_false]
    rw [heldIntS_eq l.length (by omega) k (by omega) 1 (by omega) (by omega)]
    simp only [Option.bind_some]
    rw [if_neg (by omega), if_pos trivial]
theorem FnExactRunGlide : laws_FnExactRunGlide.Pure := by
  intro now x m _ hb _ _ _
  obtain ⟨k, hk⟩ : ∃ k : Nat, 4000000 < k := ⟨4000001, by omega⟩
  exact ⟨k, run_law now x m hb k hk⟩
end Go.Proofs.Ytbimhcdfojbjgab.Pure
