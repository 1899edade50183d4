/- The plain law of FnExactRunWind: the printed function of the law answers true. Its conditions are those of the statement's own bounds. -/
import Derived.Test.YtbimhcdfojbjgacPFnExactRunWindx4
namespace Go.Proofs.Ytbimhcdfojbjgac.Pure
open Go.RowKit Go.Proofs.Ytbimhcdfojbjgac.PFnExactRunWind Go.Proofs.YtbimhcdfojbjgacW.PrintWords Go.Proofs.YtbimhcdfojbjgacW.PrintLast Go.Proofs.YtbimhcdfojbjgacW.PrintMore
set_option linter.unusedVariables false
theorem l01In_eq (a b c : Int) : spec_l01In.f a b c = some (decide (b ≤ a ∧ a ≤ c)) := by
  unfold spec_l01In.f
  by_cases h : a ≥ b
  · rw [if_pos h]; congr 1; by_cases h2 : a ≤ c <;> simp [h2, h]
  · rw [if_neg h]; congr 1; simp; omega
theorem within_eq (a b c : Int) : impl_within.f a b c = some (decide (b ≤ a ∧ a ≤ c)) := by
  unfold impl_within.f
  by_cases h : b ≤ a
  · rw [if_pos h]; congr 1; by_cases h2 : a ≤ c <;> simp [h2, h]
  · rw [if_neg h]; congr 1; simp; omega
theorem law_of {α : Type} [DecidableEq α] {s i : Option α} {r : α} (hs : s = some r) (hi : i = some r) : (s.bind fun t => i.bind fun u => if u = t then some true else some false) = some true := by
  subst hs hi; simp
theorem law_ofb {s i : Option Bool} {r : Bool} (hs : s = some r) (hi : i = some r) : (s.bind fun t => i.bind fun u => if (u != t) = true then some false else some true) = some true := by
  subst hs hi; simp
theorem wf_i64 {a : Int} (h : (Lit.int .i64 a).wf = true) : -9223372036854775808 ≤ a ∧ a ≤ 9223372036854775807 := by
  have h' : (decide ((-9223372036854775808 : Int) ≤ a) && decide (a ≤ 9223372036854775807)) = true := h
  simp at h'; omega
theorem w64 {n : Int} (h1 : -9223372036854775808 ≤ n) (h2 : n ≤ 9223372036854775807) : wrap64 n = n := by unfold wrap64; omega
theorem mul_bd {a b A B : Int} (h0 : 0 ≤ a) (h1 : a ≤ A) (h2 : 0 ≤ b) (h3 : b ≤ B) : 0 ≤ a * b ∧ a * b ≤ A * B := by
  refine ⟨Int.mul_nonneg h0 h2, ?_⟩
  exact Int.le_trans (Int.mul_le_mul_of_nonneg_right h1 h2) (Int.mul_le_mul_of_nonneg_left h3 (by omega))
theorem tdiv_nn {a b : Int} (h : 0 ≤ a) : a.tdiv b = a / b := Int.tdiv_eq_ediv_of_nonneg h
theorem div_bd {a A c : Int} (h0 : 0 ≤ a) (h1 : a ≤ A) (hc : 0 < c) : 0 ≤ a / c ∧ a / c ≤ A / c :=
  ⟨Int.ediv_nonneg h0 (by omega), Int.ediv_le_ediv hc h1⟩
theorem spec_BellowsOk_eq (a b c : Int) : spec_BellowsOk.f a b c = some (decide (1 ≤ b ∧ b ≤ 100000 ∧ 0 ≤ a ∧ a ≤ b ∧ 0 ≤ c ∧ c ≤ 10000)) := by
  simp only [spec_BellowsOk.f, l01In_eq, Option.bind_some]
  repeat' split
  all_goals (simp_all <;> omega)
theorem impl_BellowsOk_eq (a b c : Int) : impl_BellowsOk.f a b c = some (decide (1 ≤ b ∧ b ≤ 100000 ∧ 0 ≤ a ∧ a ≤ b ∧ 0 ≤ c ∧ c ≤ 10000)) := by
  simp only [impl_BellowsOk.f, within_eq, Option.bind_some]
  repeat' split
  all_goals (simp_all <;> omega)
abbrev bOk (a b c : Int) : Prop := 1 ≤ b ∧ b ≤ 100000 ∧ 0 ≤ a ∧ a ≤ b ∧ 0 ≤ c ∧ c ≤ 10000
/-- the air after the inflow -/
def air (a b c : Int) : Int := if b < a + c then b else a + c
theorem air_bd {a b c : Int} (h : bOk a b c) : 0 ≤ air a b c ∧ air a b c ≤ b ∧ a ≤ air a b c := by unfold air; split <;> omega
def blow (a b c d : Int) : Int × Int × Int × Bool := if bOk a b c ∧ (0 ≤ d ∧ d ≤ 100000) then (if air a b c < d then (0, b, c, false) else (air a b c - d, b, c, true)) else (a, b, c, false)
theorem blow_yes {a b c d : Int} (h : bOk a b c) (hd : 0 ≤ d ∧ d ≤ 100000) : blow a b c d = if air a b c < d then (0, b, c, false) else (air a b c - d, b, c, true) := if_pos ⟨h, hd⟩
theorem blow_no {a b c d : Int} (h : ¬ (bOk a b c ∧ (0 ≤ d ∧ d ≤ 100000))) : blow a b c d = (a, b, c, false) := if_neg h
theorem spec_BlowStep_eq (a b c d : Int) : spec_BlowStep.f a b c d = some (blow a b c d) := by
  simp only [spec_BlowStep.f, spec_l27Demand.f, spec_BellowsOk_eq, l01In_eq, Option.bind_some]
  by_cases h : bOk a b c
  · rw [if_pos (decide_eq_true h)]
    by_cases hd : 0 ≤ d ∧ d ≤ 100000
    · have ha := air_bd h
      have e1 : mn b (wrap64 (a + c)) = air a b c := by rw [w64 (n := a + c) (by omega) (by omega)]; unfold mn air; split <;> split <;> omega
      rw [if_pos (decide_eq_true hd), e1, w64 (n := air a b c - d) (by omega) (by omega), blow_yes h hd]
      by_cases hl : air a b c < d
      · have e2 : mx 0 (air a b c - d) = 0 := by unfold mx; rw [if_neg (by omega)]
        rw [if_pos hl, e2, decide_eq_false (by omega)]
      · have e2 : mx 0 (air a b c - d) = air a b c - d := by unfold mx; split <;> omega
        rw [if_neg hl, e2, decide_eq_true (by omega)]
    · rw [if_neg (by simpa using hd), blow_no (fun hh => hd hh.2)]
  · rw [if_neg (by simpa using h), blow_no (fun hh => h hh.1)]
theorem impl_BlowStep_eq (a b c d : Int) (k : Nat) (hk : 0 < k) : impl_BlowStep.f k a b c d = some (blow a b c d) := by
  obtain ⟨k, rfl⟩ : ∃ m, k = m + 1 := ⟨k - 1, by omega⟩
  simp only [impl_BlowStep.f, impl_isDemand.f, impl_BellowsOk_eq, within_eq, Option.bind_some]
  by_cases h : bOk a b c
  · rw [if_pos (decide_eq_true h)]
    by_cases hd : 0 ≤ d ∧ d ≤ 100000
    · have ha := air_bd h
      have e1 : mn (wrap64 (a + c)) b = air a b c := by rw [w64 (n := a + c) (by omega) (by omega)]; unfold mn air; rfl
      rw [decide_eq_true hd, impl_BlowStep.j0, e1, w64 (n := air a b c - d) (by omega) (by omega), blow_yes h hd]
      rw [if_neg (by decide)]
      by_cases hl : air a b c < d
      · rw [if_pos hl, if_pos hl]
      · rw [if_neg hl, if_neg hl]
    · rw [decide_eq_false hd, impl_BlowStep.j0, if_pos (by decide), blow_no (fun hh => hd hh.2)]
  · rw [if_neg (by simpa using h), impl_BlowStep.j0, if_pos rfl, blow_no (fun hh => h hh.1)]
theorem blow_keep {a b c d : Int} (h : bOk a b c) (hd : 0 ≤ d ∧ d ≤ 100000) : ∃ a' s, blow a b c d = (a', b, c, s) ∧ bOk a' b c ∧ (s = true ↔ d ≤ air a b c) := by
  have ha := air_bd h
  rw [blow_yes h hd]
  by_cases hl : air a b c < d
  · rw [if_pos hl]; exact ⟨0, false, rfl, by omega, by simp; omega⟩
  · rw [if_neg hl]; exact ⟨air a b c - d, true, rfl, by omega, by simp; omega⟩
/-- what is left after n moments, if there is always enough -/
def lasts (b c d : Int) : Nat → Int → Bool
  | 0, _ => true
  | n + 1, a => if air a b c < d then false else lasts b c d n (air a b c - d)
theorem wrap_next {n : Nat} (h : n ≤ 140737488355328) : wrap64 ((n : Int) + 1) = ((n + 1 : Nat) : Int) := by unfold wrap64; omega
theorem drop_getD {α : Type} (x : List α) (z : α) (n : Nat) (h : n < x.length) : x.drop n = x.getD n z :: x.drop (n + 1) := by
  rw [List.getD_eq_getElem?_getD, List.getElem?_eq_getElem h]
  exact List.drop_eq_getElem_cons h
theorem rd_nat (x : List Int) (n : Nat) : rd x (n : Int) = x.getD n 0 := by unfold rd; rw [Int.toNat_natCast]
theorem take_set_next {α : Type} (x : List α) (n : Nat) (v : α) (h : n < x.length) : (x.set n v).take (n + 1) = x.take n ++ [v] := by
  rw [List.take_succ_eq_append_getElem (by simpa using h)]
  congr 1
  · rw [List.take_set_of_le (Nat.le_refl _)]
  · simp
def windL (b c : Int) : Int → List Int → List Int
  | _, [] => []
  | a, d :: ds => (blow a b c d).1 :: windL b c (blow a b c d).1 ds
def windN (b c : Int) : Int → Int → List Int → Int
  | _, n, [] => n
  | a, n, d :: ds => windN b c (blow a b c d).1 (if (blow a b c d).2.2.2 = true then n else n + 1) ds
theorem windL_length (b c : Int) : ∀ (ds : List Int) (a : Int), (windL b c a ds).length = ds.length := by
  intro ds
  induction ds with
  | nil => intro a; rfl
  | cons d ds ih => intro a; simp [windL, ih]
abbrev dOk (d : Int) : Prop := 0 ≤ d ∧ d ≤ 100000
theorem impl_wind_loop1 {b c : Int} (x : List Int) (hx : x.length ≤ 60) (hd : ∀ d ∈ x, dOk d) : ∀ (e n k : Nat) (a s : Int) (acc : List Int), n ≤ x.length → x.length - n = e → e + 1 < k → acc.length ≤ n → 0 ≤ s → s ≤ n → bOk a b c →
    impl_RunWind.l1 k acc s x (x.length : Int) (n : Int) a b c = some (acc ++ windL b c a (x.drop n), windN b c a s (x.drop n)) := by
  intro e
  induction e with
  | zero =>
    intro n k a s acc h1 h2 hk ha hs hs2 hb
    obtain ⟨k, rfl⟩ : ∃ m, k = m + 1 := ⟨k - 1, by omega⟩
    simp only [impl_RunWind.l1]
    rw [if_neg (by omega), List.drop_of_length_le (by omega)]
    simp [windL, windN]
  | succ e ih =>
    intro n k a s acc h1 h2 hk ha hs hs2 hb
    obtain ⟨k, rfl⟩ : ∃ m, k = m + 1 := ⟨k - 1, by omega⟩
    have hlt : n < x.length := by omega
    have hdn := hd (x.getD n 0) (by rw [List.getD_eq_getElem?_getD, List.getElem?_eq_getElem hlt]; exact List.getElem_mem _)
    obtain ⟨a', t, eb, hb', _⟩ := blow_keep hb hdn
    simp only [impl_RunWind.l1]
    rw [if_pos (by omega), if_pos (by omega), if_pos (by omega), rd_nat, impl_BlowStep_eq a b c _ k (by omega), drop_getD x 0 n hlt]
    simp only [Option.bind_some, windL, windN, eb]
    rw [wrap_next (by omega), w64 (n := s + 1) (by omega) (by omega)]
    cases t
    · rw [if_neg (by decide), if_pos (by omega), if_neg (by decide), ih (n + 1) k a' (s + 1) _ (by omega) (by omega) (by omega) (by simp; omega) (by omega) (by omega) hb']
      simp
    · rw [if_pos rfl, if_pos (by omega), if_pos rfl, ih (n + 1) k a' s _ (by omega) (by omega) (by omega) (by simp; omega) (by omega) (by omega) hb']
      simp
theorem impl_wind_loop0 (x : List Int) (hx : x.length ≤ 60) (a b c : Int) : ∀ (e n k : Nat), n ≤ x.length → x.length - n = e → e < k →
    impl_RunWind.l0 k x x (x.length : Int) (n : Int) a b c = if (∀ d ∈ x.drop n, dOk d) then impl_RunWind.l1 (k - e - 1) [] 0 x (x.length : Int) 0 a b c else some ([], 0) := by
  intro e
  induction e with
  | zero =>
    intro n k h1 h2 hk
    obtain ⟨k, rfl⟩ : ∃ m, k = m + 1 := ⟨k - 1, by omega⟩
    simp only [impl_RunWind.l0]
    rw [if_neg (by omega), List.drop_of_length_le (by omega), if_pos (by simp)]
    rfl
  | succ e ih =>
    intro n k h1 h2 hk
    obtain ⟨k, rfl⟩ : ∃ m, k = m + 1 := ⟨k - 1, by omega⟩
    simp only [impl_RunWind.l0, impl_isDemand.f, within_eq, Option.bind_some]
    rw [if_pos (by omega), if_pos (by omega), if_pos (by omega), rd_nat, wrap_next (by omega), ih (n + 1) k (by omega) (by omega) (by omega)]
    have ee : k + 1 - (e + 1) - 1 = k - e - 1 := by omega
    rw [ee, drop_getD x 0 n (by omega)]
    by_cases h : dOk (x.getD n 0)
    · rw [if_pos (decide_eq_true h)]
      by_cases h3 : ∀ d ∈ x.drop (n + 1), dOk d
      · rw [if_pos h3, if_pos (fun t ht => by
          rcases List.mem_cons.1 ht with h4 | h4
          · rw [h4]; exact h
          · exact h3 t h4)]
      · rw [if_neg h3, if_neg (fun hh => h3 fun t ht => hh t (List.mem_cons_of_mem _ ht))]
    · rw [if_neg (by simpa using h), if_neg (fun hh => h (hh _ List.mem_cons_self))]
def wOk (a b c : Int) (x : List Int) : Prop := bOk a b c ∧ x.length ≤ 60 ∧ ∀ d ∈ x, dOk d
theorem impl_RunWind_yes {a b c : Int} {x : List Int} (h : wOk a b c x) (k : Nat) (hk : 200 < k) : impl_RunWind.f k a b c x = some (windL b c a x, windN b c a 0 x) := by
  obtain ⟨h1, h2, h3⟩ := h
  obtain ⟨k, rfl⟩ : ∃ m, k = m + 1 := ⟨k - 1, by omega⟩
  unfold impl_RunWind.f
  rw [impl_BellowsOk_eq]
  simp only [Option.bind_some]
  rw [if_pos (decide_eq_true h1), decide_eq_false (by omega), impl_RunWind.j0, if_neg (by decide)]
  have e := impl_wind_loop0 x h2 a b c x.length 0 k (by omega) (by omega) (by omega)
  rw [if_pos (by simpa using h3)] at e
  have e2 := impl_wind_loop1 (b := b) (c := c) x h2 h3 x.length 0 (k - x.length - 1) a 0 [] (by omega) (by omega) (by omega) (by simp) (by omega) (by omega) h1
  simp only [Int.natCast_zero, List.nil_append, List.drop_zero] at e e2
  rw [e, e2]
theorem impl_RunWind_no {a b c : Int} {x : List Int} (h : ¬ wOk a b c x) (k : Nat) (hk : 200 < k) : impl_RunWind.f k a b c x = some ([], 0) := by
  obtain ⟨k, rfl⟩ : ∃ m, k = m + 1 := ⟨k - 1, by omega⟩
  unfold impl_RunWind.f
  rw [impl_BellowsOk_eq]
  simp only [Option.bind_some]
  by_cases h1 : bOk a b c
  · rw [if_pos (decide_eq_true h1)]
    by_cases h2 : x.length ≤ 60
    · rw [decide_eq_false (by omega), impl_RunWind.j0, if_neg (by decide)]
      have e := impl_wind_loop0 x h2 a b c x.length 0 k (by omega) (by omega) (by omega)
      rw [if_neg (fun hh => h ⟨h1, h2, by simpa using hh⟩)] at e
      exact e
    · rw [decide_eq_true (by omega), impl_RunWind.j0, if_pos rfl]
  · rw [if_neg (by simpa using h1), impl_RunWind.j0, if_pos rfl]
theorem toIntS_loop (x : List Int) (hb : x.length ≤ 140737488355328) : ∀ (d n k : Nat) (y : List Int), n ≤ x.length → x.length - n = d → d < k → y.length = x.length →
    laws_toIntS.l0 k x y (n : Int) = some (y.take n ++ x.drop n) := by
  intro d
  induction d with
  | zero =>
    intro n k y h1 h2 hk hy
    obtain ⟨k, rfl⟩ : ∃ m, k = m + 1 := ⟨k - 1, by omega⟩
    simp only [laws_toIntS.l0]
    rw [if_neg (by omega), List.take_of_length_le (by omega), List.drop_of_length_le (by omega)]
    simp
  | succ d ih =>
    intro n k y h1 h2 hk hy
    obtain ⟨k, rfl⟩ : ∃ m, k = m + 1 := ⟨k - 1, by omega⟩
    simp only [laws_toIntS.l0]
    rw [if_pos (by omega), if_pos (by omega), if_pos (by omega), rd_nat, wrap_next (by omega), Int.toNat_natCast]
    rw [ih (n + 1) k _ (by omega) (by omega) (by omega) (by simpa using hy), take_set_next y n _ (by omega), drop_getD x 0 n (by omega)]
    rw [List.append_assoc]
    rfl
theorem toIntS_eq (x : List Int) (hb : x.length ≤ 35184372088832) (k : Nat) (hk : x.length < k) : laws_toIntS.f k x = some x := by
  unfold laws_toIntS.f
  rw [if_pos (by omega), Int.toNat_natCast, if_pos hb]
  have h := toIntS_loop x (by omega) x.length 0 k (List.replicate x.length 0) (by omega) (by omega) hk (by simp)
  simpa using h
theorem eqIntS_loop (x y : List Int) (hl : x.length = y.length) (hb : x.length ≤ 140737488355328) : ∀ (d n k : Nat), n ≤ x.length → x.length - n ≤ d → d < k → laws_eqIntS.l0 k x y (n : Int) = some (decide (x.drop n = y.drop n)) := by
  intro d
  induction d with
  | zero =>
    intro n k h1 h2 hk
    obtain ⟨k, rfl⟩ : ∃ m, k = m + 1 := ⟨k - 1, by omega⟩
    simp only [laws_eqIntS.l0]
    rw [if_neg (by omega), List.drop_of_length_le (by omega), List.drop_of_length_le (by omega)]
    simp
  | succ d ih =>
    intro n k h1 h2 hk
    obtain ⟨k, rfl⟩ : ∃ m, k = m + 1 := ⟨k - 1, by omega⟩
    simp only [laws_eqIntS.l0]
    by_cases hlt : n < x.length
    · rw [if_pos (by omega), if_pos (by omega), if_pos (by omega), rd_nat, rd_nat, wrap_next (by omega), drop_getD x 0 n hlt, drop_getD y 0 n (by omega), ih (n + 1) k (by omega) (by omega) (by omega)]
      by_cases e : x.getD n 0 = y.getD n 0
      · rw [if_pos e, e]; simp
      · rw [if_neg e]; simp only [List.cons.injEq, e, false_and, decide_false]
    · rw [if_neg (by omega), List.drop_of_length_le (by omega), List.drop_of_length_le (by omega)]
      simp
theorem eqIntS_eq (x y : List Int) (hb : x.length ≤ 140737488355328) (k : Nat) (hk : x.length < k) : laws_eqIntS.f k x y = some (decide (x = y)) := by
  unfold laws_eqIntS.f
  by_cases hl : x.length = y.length
  · rw [if_pos (by omega)]
    have h := eqIntS_loop x y hl hb x.length 0 k (by omega) (by omega) hk
    simpa using h
  · rw [if_neg (by omega)]
    have : x ≠ y := fun e => hl (by rw [e])
    simp [this]
def iota (m : Int) : Nat → List Int
  | 0 => []
  | n + 1 => m :: iota (m + 1) n
theorem iota_length (n : Nat) : ∀ m : Int, (iota m n).length = n := by
  induction n with
  | zero => intro m; rfl
  | succ n ih => intro m; simp [iota, ih]
theorem wrap_int {m : Int} (h : -9223372036854775808 ≤ m) (h2 : m ≤ 9223372036854775807) : wrap64 m = m := by unfold wrap64; omega
theorem markIntS_loop : ∀ (d n k : Nat) (x : List Int) (m : Int), x.length ≤ 140737488355328 → n ≤ x.length → x.length - n = d → d < k → 0 ≤ m → m + d ≤ 281474976710656 →
    laws_markIntS.l0 k x m (n : Int) = some (m + d, x.take n ++ iota m d) := by
  intro d
  induction d with
  | zero =>
    intro n k x m hb h1 h2 hk hm hm2
    obtain ⟨k, rfl⟩ : ∃ m, k = m + 1 := ⟨k - 1, by omega⟩
    simp only [laws_markIntS.l0]
    rw [if_neg (by omega), List.take_of_length_le (by omega)]
    simp [iota]
  | succ d ih =>
    intro n k x m hb h1 h2 hk hm hm2
    obtain ⟨k, rfl⟩ : ∃ m, k = m + 1 := ⟨k - 1, by omega⟩
    simp only [laws_markIntS.l0]
    rw [if_pos (by omega), if_pos (by omega), wrap_next (by omega), wrap_int (m := m + 1) (by omega) (by omega), Int.toNat_natCast]
    rw [ih (n + 1) k (x.set n m) (m + 1) (by simpa using hb) (by simp; omega) (by simp; omega) (by omega) (by omega) (by omega), take_set_next x n m (by omega)]
    simp [iota]
    omega
theorem markIntS_eq (x : List Int) (hb : x.length ≤ 140737488355328) (k : Nat) (hk : x.length < k) (m : Int) (h0 : 0 ≤ m) (h1 : m ≤ 140737488355328) : laws_markIntS.f k x m = some (m + x.length, iota m x.length) := by
  unfold laws_markIntS.f
  have h := markIntS_loop x.length 0 k x m hb (by omega) (by omega) hk h0 (by omega)
  simpa using h
theorem heldIntS_loop : ∀ (d n k : Nat) (x : List Int) (m : Int), x.length ≤ 140737488355328 → n ≤ x.length → x.length - n = d → d < k → 0 ≤ m → m + d ≤ 281474976710656 → x.drop n = iota m d →
    laws_heldIntS.l0 k x m (n : Int) = some (m + d) := by
  intro d
  induction d with
  | zero =>
    intro n k x m hb h1 h2 hk hm hm2 hx
    obtain ⟨k, rfl⟩ : ∃ m, k = m + 1 := ⟨k - 1, by omega⟩
    simp only [laws_heldIntS.l0]
    rw [if_neg (by omega)]
    simp
  | succ d ih =>
    intro n k x m hb h1 h2 hk hm hm2 hx
    obtain ⟨k, rfl⟩ : ∃ m, k = m + 1 := ⟨k - 1, by omega⟩
    simp only [laws_heldIntS.l0]
    rw [drop_getD x 0 n (by omega)] at hx
    injection hx with e1 e2
    rw [if_pos (by omega), if_pos (by omega), rd_nat, if_pos e1, wrap_next (by omega), wrap_int (m := m + 1) (by omega) (by omega), ih (n + 1) k x (m + 1) hb (by omega) (by omega) (by omega) (by omega) (by omega) e2]
    congr 1
    omega
theorem heldIntS_eq (n : Nat) (hb : n ≤ 140737488355328) (k : Nat) (hk : n < k) (m : Int) (h0 : 0 ≤ m) (h1 : m ≤ 140737488355328) : laws_heldIntS.f k (iota m n) m = some (m + n) := by
  unfold laws_heldIntS.f
  have hl := iota_length n m
  exact heldIntS_loop n 0 k (iota m n) m (by omega) (by omega) (by omega) hk h0 (by omega) (by simp)
theorem spec_wind_loop1 {b c : Int} (x : List Int) (hx : x.length ≤ 60) (hd : ∀ d ∈ x, dOk d) : ∀ (e n k : Nat) (a s : Int) (acc : List Int), n ≤ x.length → x.length - n = e → e < k → acc.length ≤ n → 0 ≤ s → s ≤ n → bOk a b c →
    spec_RunWind.l1 k x acc s (n : Int) a b c = some (acc ++ windL b c a (x.drop n), windN b c a s (x.drop n)) := by
  intro e
  induction e with
  | zero =>
    intro n k a s acc h1 h2 hk ha hs hs2 hb
    obtain ⟨k, rfl⟩ : ∃ m, k = m + 1 := ⟨k - 1, by omega⟩
    simp only [spec_RunWind.l1]
    rw [if_neg (by omega), List.drop_of_length_le (by omega)]
    simp [windL, windN]
  | succ e ih =>
    intro n k a s acc h1 h2 hk ha hs hs2 hb
    obtain ⟨k, rfl⟩ : ∃ m, k = m + 1 := ⟨k - 1, by omega⟩
    have hlt : n < x.length := by omega
    have hdn := hd (x.getD n 0) (by rw [List.getD_eq_getElem?_getD, List.getElem?_eq_getElem hlt]; exact List.getElem_mem _)
    obtain ⟨a', t, eb, hb', _⟩ := blow_keep hb hdn
    simp only [spec_RunWind.l1]
    rw [if_pos (by omega), if_pos (by omega), rd_nat, spec_BlowStep_eq, drop_getD x 0 n hlt]
    simp only [Option.bind_some, windL, windN, eb]
    rw [wrap_next (by omega), w64 (n := s + 1) (by omega) (by omega)]
    cases t
    · rw [if_neg (by decide), if_pos (by omega), if_neg (by decide), ih (n + 1) k a' (s + 1) _ (by omega) (by omega) (by omega) (by simp; omega) (by omega) (by omega) hb']
      simp
    · rw [if_pos rfl, if_pos (by omega), if_pos rfl, ih (n + 1) k a' s _ (by omega) (by omega) (by omega) (by simp; omega) (by omega) (by omega) hb']
      simp
theorem spec_wind_loop0 (x : List Int) (hx : x.length ≤ 140737488355328) (a b c : Int) : ∀ (e n k : Nat), n ≤ x.length → x.length - n = e → e + 200 < k →
    ∃ k', 100 < k' ∧ spec_RunWind.l0 k x [] 0 (n : Int) a b c = if (∀ d ∈ x.drop n, dOk d) then (if bOk a b c ∧ x.length ≤ 60 then spec_RunWind.l1 k' x [] 0 0 a b c else some ([], 0)) else some ([], 0) := by
  intro e
  induction e with
  | zero =>
    intro n k h1 h2 hk
    obtain ⟨k, rfl⟩ : ∃ m, k = m + 1 + 1 := ⟨k - 2, by omega⟩
    refine ⟨k, by omega, ?_⟩
    rw [spec_RunWind.l0]
    rw [if_neg (by omega), List.drop_of_length_le (by omega), if_pos (by simp), spec_BellowsOk_eq]
    simp only [Option.bind_some]
    by_cases h3 : bOk a b c
    · rw [if_pos (decide_eq_true h3), spec_RunWind.j1]
      by_cases h4 : x.length ≤ 60
      · rw [decide_eq_false (by omega), if_neg (by decide), if_pos ⟨h3, h4⟩]
      · rw [decide_eq_true (by omega), if_pos rfl, if_neg (fun hh => h4 hh.2)]
    · rw [if_neg (by simpa using h3), spec_RunWind.j1, if_pos rfl, if_neg (fun hh => h3 hh.1)]
  | succ e ih =>
    intro n k h1 h2 hk
    obtain ⟨k, rfl⟩ : ∃ m, k = m + 1 := ⟨k - 1, by omega⟩
    obtain ⟨k', hk', e1⟩ := ih (n + 1) k (by omega) (by omega) (by omega)
    refine ⟨k', hk', ?_⟩
    rw [spec_RunWind.l0]
    simp only [spec_l27Demand.f, l01In_eq, Option.bind_some]
    rw [if_pos (by omega), if_pos (by omega), rd_nat, wrap_next (by omega), e1, drop_getD x 0 n (by omega)]
    by_cases h : dOk (x.getD n 0)
    · rw [if_pos (decide_eq_true h)]
      by_cases h3 : ∀ d ∈ x.drop (n + 1), dOk d
      · rw [if_pos h3, if_pos (fun t ht => by
          rcases List.mem_cons.1 ht with h4 | h4
          · rw [h4]; exact h
          · exact h3 t h4)]
      · rw [if_neg h3, if_neg (fun hh => h3 fun t ht => hh t (List.mem_cons_of_mem _ ht))]
    · rw [if_neg (by simpa using h), if_neg (fun hh => h (hh _ List.mem_cons_self))]
theorem wind_agree (a b c : Int) (x : List Int) (hb : x.length ≤ 1048576) (k : Nat) (hk : 3000000 < k) : ∃ l n, spec_RunWind.f k a b c x = some (l, n) ∧ impl_RunWind.f k a b c x = some (l, n) ∧ l.length ≤ 60 := by
  obtain ⟨k', hk', e⟩ := spec_wind_loop0 x (by omega) a b c x.length 0 k (by omega) (by omega) (by omega)
  simp only [Int.natCast_zero, List.drop_zero] at e
  unfold spec_RunWind.f
  rw [e]
  by_cases h : wOk a b c x
  · rw [if_pos h.2.2, if_pos ⟨h.1, h.2.1⟩]
    have e2 := spec_wind_loop1 (b := b) (c := c) x h.2.1 h.2.2 x.length 0 k' a 0 [] (by omega) (by omega) (by have := h.2.1; omega) (by simp) (by omega) (by omega) h.1
    simp only [Int.natCast_zero, List.nil_append, List.drop_zero] at e2
    rw [e2, impl_RunWind_yes h k (by omega)]
    exact ⟨_, _, rfl, rfl, by rw [windL_length]; exact h.2.1⟩
  · rw [impl_RunWind_no h k (by omega)]
    refine ⟨[], 0, ?_, rfl, by simp⟩
    by_cases h1 : ∀ d ∈ x, dOk d
    · rw [if_pos h1, if_neg (fun hh => h ⟨hh.1, hh.2, h1⟩)]
    · rw [if_neg h1]
theorem wind_law (a b c : Int) (x : List Int) (hb : x.length ≤ 9223372036854775807) (k : Nat) (hk : 4000000 < k) : laws_FnExactRunWind.f k a b c x = some true := by
  unfold laws_FnExactRunWind.f
  by_cases hl : (x.length : Int) > 1048576
  · rw [if_pos hl]
  · rw [if_neg hl, toIntS_eq x (by omega) k (by omega)]
    simp only [Option.bind_some, laws_toBellows.f]
    obtain ⟨l, n, e1, e2, hl60⟩ := wind_agree a b c x (by omega) k (by omega)
    rw [e1]; simp only [Option.bind_some]
    rw [e2]; simp only [Option.bind_some]
    rw [eqIntS_eq l l (by omega) k (by omega)]
    simp only [Option.bind_some, decide_true, if_true, bne_self_eq_false]
    obtain ⟨k, rfl⟩ : ∃ m, k = m + 1 + 1 + 1 := ⟨k - 3, by omega⟩
    rw [laws_FnExactRunWind.j0, if_neg (by decide), toIntS_eq x (by omega) (k + 1 + 1) (by omega)]
    simp only [Option.bind_some]
    rw [eqIntS_eq x x (by omega) (k + 1 + 1) (by omega)]
    simp only [Option.bind_some, decide_true, if_true]
    rw [markIntS_eq x (by omega) (k + 1 + 1) (by omega) 1 (by omega) (by omega)]
    simp only [Option.bind_some]
    rw [if_neg (by omega), eqIntS_eq l l (by omega) (k + 1 + 1) (by omega)]
    simp only [Option.bind_some, decide_true, if_true, bne_self_eq_false]
    rw [laws_FnExactRunWind.j1, if_neg (by decide), markIntS_eq l (by omega) (k + 1) (by omega) 1 (by omega) (by omega)]
    simp only [Option.bind_some]
    rw [heldIntS_eq l.length (by omega) (k + 1) (by omega) 1 (by omega) (by omega)]
    simp only [Option.bind_some]
    rw [if_neg (by omega), if_pos trivial, toIntS_eq x (by omega) (k + 1) (by omega)]
    simp only [Option.bind_some, laws_toBellows.f]
    obtain ⟨l', n', f1, f2, _⟩ := wind_agree a b c x (by omega) (k + 1) (by omega)
    have fe := at_rounds (fun k => impl_RunWind.mono a b c x k) (show k + 1 ≤ k + 1 + 1 + 1 by omega) f2
    rw [e2] at fe
    simp only [Option.some.injEq, Prod.mk.injEq] at fe
    obtain ⟨rfl, rfl⟩ := fe
    rw [f2]; simp only [Option.bind_some]
    rw [eqIntS_eq l l (by omega) (k + 1) (by omega)]
    simp only [Option.bind_some, decide_true, if_true, bne_self_eq_false]
    rw [laws_FnExactRunWind.j2]
    simp only [Bool.false_eq_true, if_false]
    rw [heldIntS_eq l.length (by omega) k (by omega) 1 (by omega) (by omega)]
    simp only [Option.bind_some]
    rw [if_neg (by omega), if_pos trivial]
theorem FnExactRunWind (a b c : Int) (x : List Int) (hb : x.length ≤ maxLen) (_ : x.length * 8 ≤ 140737488351232) (_ : ∀ y ∈ x, (Lit.int .i64 y).wf = true) : ∃ k, laws_FnExactRunWind.f k a b c x = some true := by
  obtain ⟨k, hk⟩ : ∃ k : Nat, 4000000 < k := ⟨4000001, by omega⟩
  exact ⟨k, wind_law a b c x hb k hk⟩
end Go.Proofs.Ytbimhcdfojbjgac.Pure
