/- The plain law of FnExactFrameLoad: the printed function of the law answers true. Its conditions are those of the statement's own bounds. -/
import Derived.Test.YtbimhcdfojbjgacPFnExactFrameLoadx3
namespace Go.Proofs.Ytbimhcdfojbjgac.Pure
open Go.RowKit Go.Proofs.Ytbimhcdfojbjgac.PFnExactFrameLoad Go.Proofs.YtbimhcdfojbjgacW.PrintWords Go.Proofs.YtbimhcdfojbjgacW.PrintLast Go.Proofs.YtbimhcdfojbjgacW.PrintMore
set_option linter.unusedVariables false
theorem l01In_eq (a b c : Int) : spec_l01In.f a b c = some (decide (b ≤ a ∧ a ≤ c)) := by
  unfold spec_l01In.f
  by_cases h : a ≥ b
  · rw [if_pos h]; congr 1; by_cases h2 : a ≤ c <;> simp [h2, h]
  · rw [if_neg h]; congr 1; simp; omega
theorem within_eq (a b c : Int) : impl_within.f a b c = some (decide (b ≤ a ∧ a ≤ c)) := by
  unfold impl_within.f
  by_cases h : b ≤ a
  · rw [if_pos h]; congr 1; by_cases h2 : a ≤ c <;> simp [h2, h]
  · rw [if_neg h]; congr 1; simp; omega
theorem law_of {α : Type} [DecidableEq α] {s i : Option α} {r : α} (hs : s = some r) (hi : i = some r) : (s.bind fun t => i.bind fun u => if u = t then some true else some false) = some true := by
  subst hs hi; simp
theorem law_ofb {s i : Option Bool} {r : Bool} (hs : s = some r) (hi : i = some r) : (s.bind fun t => i.bind fun u => if (u != t) = true then some false else some true) = some true := by
  subst hs hi; simp
theorem wf_i64 {a : Int} (h : (Lit.int .i64 a).wf = true) : -9223372036854775808 ≤ a ∧ a ≤ 9223372036854775807 := by
  have h' : (decide ((-9223372036854775808 : Int) ≤ a) && decide (a ≤ 9223372036854775807)) = true := h
  simp at h'; omega
theorem w64 {n : Int} (h1 : -9223372036854775808 ≤ n) (h2 : n ≤ 9223372036854775807) : wrap64 n = n := by unfold wrap64; omega
theorem mul_bd {a b A B : Int} (h0 : 0 ≤ a) (h1 : a ≤ A) (h2 : 0 ≤ b) (h3 : b ≤ B) : 0 ≤ a * b ∧ a * b ≤ A * B := by
  refine ⟨Int.mul_nonneg h0 h2, ?_⟩
  exact Int.le_trans (Int.mul_le_mul_of_nonneg_right h1 h2) (Int.mul_le_mul_of_nonneg_left h3 (by omega))
theorem tdiv_nn {a b : Int} (h : 0 ≤ a) : a.tdiv b = a / b := Int.tdiv_eq_ediv_of_nonneg h
theorem div_bd {a A c : Int} (h0 : 0 ≤ a) (h1 : a ≤ A) (hc : 0 < c) : 0 ≤ a / c ∧ a / c ≤ A / c :=
  ⟨Int.ediv_nonneg h0 (by omega), Int.ediv_le_ediv hc h1⟩
theorem spec_CordOk_eq (a b c : Int) : spec_CordOk.f a b c = some (decide (50 ≤ a ∧ a ≤ 3000 ∧ 100 ≤ b ∧ b ≤ 100000 ∧ 1 ≤ c ∧ c ≤ 5000)) := by
  simp only [spec_CordOk.f, l01In_eq, Option.bind_some]
  repeat' split
  all_goals (simp_all <;> omega)
theorem impl_CordOk_eq (a b c : Int) : impl_CordOk.f a b c = some (decide (50 ≤ a ∧ a ≤ 3000 ∧ 100 ≤ b ∧ b ≤ 100000 ∧ 1 ≤ c ∧ c ≤ 5000)) := by
  simp only [impl_CordOk.f, within_eq, Option.bind_some]
  repeat' split
  all_goals (simp_all <;> omega)
def cordB (a b c : Int) : Bool := decide (50 ≤ a ∧ a ≤ 3000 ∧ 100 ≤ b ∧ b ≤ 100000 ∧ 1 ≤ c ∧ c ≤ 5000)
/-- the tension of valid numbers -/
def tens (a b p : Int) : Int := (p * a) * (p * a) / 1000 * (4 * b) / 1000000000
def tensionOf (a b c p : Int) : Int := if (50 ≤ a ∧ a ≤ 3000 ∧ 100 ≤ b ∧ b ≤ 100000 ∧ 1 ≤ c ∧ c ≤ 5000) ∧ (1 ≤ p ∧ p ≤ 5000) then tens a b p else -1
theorem tens_bd {a b p : Int} (ha : 0 ≤ a ∧ a ≤ 3000) (hb : 0 ≤ b ∧ b ≤ 100000) (hp : 0 ≤ p ∧ p ≤ 5000) :
    (0 ≤ p * a ∧ p * a ≤ 15000000) ∧ (0 ≤ (p * a) * (p * a) ∧ (p * a) * (p * a) ≤ 225000000000000) ∧ (0 ≤ (p * a) * (p * a) / 1000 ∧ (p * a) * (p * a) / 1000 ≤ 225000000000) ∧
    (0 ≤ (p * a) * (p * a) / 1000 * (4 * b) ∧ (p * a) * (p * a) / 1000 * (4 * b) ≤ 90000000000000000) ∧ (0 ≤ tens a b p ∧ tens a b p ≤ 90000000) := by
  have b1 := mul_bd (a := p) (b := a) (A := 5000) (B := 3000) hp.1 hp.2 ha.1 ha.2
  have b2 := mul_bd (a := p * a) (b := p * a) (A := 15000000) (B := 15000000) b1.1 (by omega) b1.1 (by omega)
  have b3 : 0 ≤ (p * a) * (p * a) / 1000 ∧ (p * a) * (p * a) / 1000 ≤ 225000000000 := by
    generalize (p * a) * (p * a) = q at b2 ⊢
    omega
  have b4 := mul_bd (a := (p * a) * (p * a) / 1000) (b := 4 * b) (A := 225000000000) (B := 400000) b3.1 b3.2 (by omega) (by omega)
  refine ⟨by omega, by omega, b3, by omega, ?_⟩
  unfold tens
  generalize (p * a) * (p * a) / 1000 * (4 * b) = q at b4 ⊢
  omega
theorem spec_TensionAt_eq (a b c p : Int) : spec_TensionAt.f a b c p = some (tensionOf a b c p) := by
  simp only [spec_TensionAt.f, spec_CordOk_eq, l01In_eq, Option.bind_some]
  by_cases h : 50 ≤ a ∧ a ≤ 3000 ∧ 100 ≤ b ∧ b ≤ 100000 ∧ 1 ≤ c ∧ c ≤ 5000
  · by_cases h2 : 1 ≤ p ∧ p ≤ 5000
    · obtain ⟨b1, b2, b3, b4, b5⟩ := tens_bd (a := a) (b := b) (p := p) (by omega) (by omega) (by omega)
      rw [w64 (n := p * a) (by omega) (by omega), w64 (n := p * a * (p * a)) (by omega) (by omega), tdiv_nn b2.1, w64 (n := p * a * (p * a) / 1000) (by omega) (by omega), w64 (n := 4 * b) (by omega) (by omega), Int.mul_comm (4 * b) _,
        w64 (n := p * a * (p * a) / 1000 * (4 * b)) (by omega) (by omega), tdiv_nn b4.1]
      have e : wrap64 (p * a * (p * a) / 1000 * (4 * b) / 1000000000) = tens a b p := w64 (n := tens a b p) (by omega) (by omega)
      rw [e]
      simp [h, h2, tensionOf]
    · simp [h, h2, tensionOf]
  · simp only [h, tensionOf, false_and, decide_false, Bool.false_eq_true, if_false]
theorem impl_TensionAt_eq (a b c p : Int) : impl_TensionAt.f a b c p = some (tensionOf a b c p) := by
  simp only [impl_TensionAt.f, impl_CordOk_eq, within_eq, Option.bind_some]
  by_cases h : 50 ≤ a ∧ a ≤ 3000 ∧ 100 ≤ b ∧ b ≤ 100000 ∧ 1 ≤ c ∧ c ≤ 5000
  · by_cases h2 : 1 ≤ p ∧ p ≤ 5000
    · obtain ⟨b1, b2, b3, b4, b5⟩ := tens_bd (a := a) (b := b) (p := p) (by omega) (by omega) (by omega)
      rw [w64 (n := p * a) (by omega) (by omega), w64 (n := p * a * (p * a)) (by omega) (by omega), tdiv_nn b2.1, w64 (n := p * a * (p * a) / 1000) (by omega) (by omega), w64 (n := 4 * b) (by omega) (by omega),
        w64 (n := p * a * (p * a) / 1000 * (4 * b)) (by omega) (by omega), tdiv_nn b4.1]
      have e : wrap64 (p * a * (p * a) / 1000 * (4 * b) / 1000000000) = tens a b p := w64 (n := tens a b p) (by omega) (by omega)
      rw [e]
      simp [h, h2, tensionOf]
    · simp [h, h2, tensionOf]
  · simp only [h, tensionOf, false_and, decide_false, Bool.false_eq_true, if_false]
theorem wrap_next {n : Nat} (h : n ≤ 140737488355328) : wrap64 ((n : Int) + 1) = ((n + 1 : Nat) : Int) := by unfold wrap64; omega
theorem drop_getD {α : Type} (x : List α) (z : α) (n : Nat) (h : n < x.length) : x.drop n = x.getD n z :: x.drop (n + 1) := by
  rw [List.getD_eq_getElem?_getD, List.getElem?_eq_getElem h]
  exact List.drop_eq_getElem_cons h
theorem rd_nat (x : List Int) (n : Nat) : rd x (n : Int) = x.getD n 0 := by unfold rd; rw [Int.toNat_natCast]
theorem take_set_next {α : Type} (x : List α) (n : Nat) (v : α) (h : n < x.length) : (x.set n v).take (n + 1) = x.take n ++ [v] := by
  rw [List.take_succ_eq_append_getElem (by simpa using h)]
  congr 1
  · rw [List.take_set_of_le (Nat.le_refl _)]
  · simp
theorem rdCa_nat (x : List S99) (n : Nat) : rd_T99 x (n : Int) = x.getD n z99 := by unfold rd_T99; rw [Int.toNat_natCast]
theorem rdCi_nat (x : List S97) (n : Nat) : rd_T97 x (n : Int) = x.getD n z97 := by unfold rd_T97; rw [Int.toNat_natCast]
def conC (s : S99) : S97 := ⟨s.f0, s.f1, s.f2⟩
theorem toCordS_loop (x : List S99) (hb : x.length ≤ 140737488355328) : ∀ (d n k : Nat) (y : List S97), n ≤ x.length → x.length - n = d → d < k → y.length = x.length →
    laws_toCordS.l0 k x y (n : Int) = some (y.take n ++ (x.drop n).map conC) := by
  intro d
  induction d with
  | zero =>
    intro n k y h1 h2 hk hy
    obtain ⟨k, rfl⟩ : ∃ m, k = m + 1 := ⟨k - 1, by omega⟩
    simp only [laws_toCordS.l0]
    rw [if_neg (by omega), List.take_of_length_le (by omega), List.drop_of_length_le (by omega)]
    simp
  | succ d ih =>
    intro n k y h1 h2 hk hy
    obtain ⟨k, rfl⟩ : ∃ m, k = m + 1 := ⟨k - 1, by omega⟩
    simp only [laws_toCordS.l0, laws_toCord.f, Option.bind_some]
    rw [if_pos (by omega), if_pos (by omega), if_pos (by omega), rdCa_nat, wrap_next (by omega), Int.toNat_natCast]
    rw [ih (n + 1) k _ (by omega) (by omega) (by omega) (by simpa using hy), take_set_next y n _ (by omega), drop_getD x z99 n (by omega)]
    rw [List.map_cons, List.append_assoc]
    rfl
theorem toCordS_eq (x : List S99) (hb : x.length ≤ 1048576) (k : Nat) (hk : x.length < k) : laws_toCordS.f k x = some (x.map conC) := by
  unfold laws_toCordS.f
  rw [if_pos (by omega), Int.toNat_natCast, if_pos (by omega)]
  have h := toCordS_loop x (by omega) x.length 0 k (List.replicate x.length z97) (by omega) (by omega) hk (by simp)
  simpa using h
theorem eqCordS_loop (x : List S97) (hb : x.length ≤ 140737488355328) : ∀ (d n k : Nat), n ≤ x.length → x.length - n = d → d < k → laws_eqCordS.l0 k x x (n : Int) = some true := by
  intro d
  induction d with
  | zero =>
    intro n k h1 h2 hk
    obtain ⟨k, rfl⟩ : ∃ m, k = m + 1 := ⟨k - 1, by omega⟩
    simp only [laws_eqCordS.l0]
    rw [if_neg (by omega)]
  | succ d ih =>
    intro n k h1 h2 hk
    obtain ⟨k, rfl⟩ : ∃ m, k = m + 1 := ⟨k - 1, by omega⟩
    simp only [laws_eqCordS.l0, laws_eqCord.f]
    rw [if_pos (by omega), if_pos (by omega), if_pos (by omega), wrap_next (by omega)]
    simp only [if_true, Option.bind_some]
    exact ih (n + 1) k (by omega) (by omega) (by omega)
theorem eqCordS_self (x : List S97) (hb : x.length ≤ 140737488355328) (k : Nat) (hk : x.length < k) : laws_eqCordS.f k x x = some true := by
  unfold laws_eqCordS.f
  rw [if_pos rfl]
  exact eqCordS_loop x hb x.length 0 k (by omega) (by omega) hk
theorem toIntS_loop (x : List Int) (hb : x.length ≤ 140737488355328) : ∀ (d n k : Nat) (y : List Int), n ≤ x.length → x.length - n = d → d < k → y.length = x.length →
    laws_toIntS.l0 k x y (n : Int) = some (y.take n ++ x.drop n) := by
  intro d
  induction d with
  | zero =>
    intro n k y h1 h2 hk hy
    obtain ⟨k, rfl⟩ : ∃ m, k = m + 1 := ⟨k - 1, by omega⟩
    simp only [laws_toIntS.l0]
    rw [if_neg (by omega), List.take_of_length_le (by omega), List.drop_of_length_le (by omega)]
    simp
  | succ d ih =>
    intro n k y h1 h2 hk hy
    obtain ⟨k, rfl⟩ : ∃ m, k = m + 1 := ⟨k - 1, by omega⟩
    simp only [laws_toIntS.l0]
    rw [if_pos (by omega), if_pos (by omega), if_pos (by omega), rd_nat, wrap_next (by omega), Int.toNat_natCast]
    rw [ih (n + 1) k _ (by omega) (by omega) (by omega) (by simpa using hy), take_set_next y n _ (by omega), drop_getD x 0 n (by omega)]
    rw [List.append_assoc]
    rfl
theorem toIntS_eq (x : List Int) (hb : x.length ≤ 35184372088832) (k : Nat) (hk : x.length < k) : laws_toIntS.f k x = some x := by
  unfold laws_toIntS.f
  rw [if_pos (by omega), Int.toNat_natCast, if_pos hb]
  have h := toIntS_loop x (by omega) x.length 0 k (List.replicate x.length 0) (by omega) (by omega) hk (by simp)
  simpa using h
theorem eqIntS_loop (x y : List Int) (hl : x.length = y.length) (hb : x.length ≤ 140737488355328) : ∀ (d n k : Nat), n ≤ x.length → x.length - n ≤ d → d < k → laws_eqIntS.l0 k x y (n : Int) = some (decide (x.drop n = y.drop n)) := by
  intro d
  induction d with
  | zero =>
    intro n k h1 h2 hk
    obtain ⟨k, rfl⟩ : ∃ m, k = m + 1 := ⟨k - 1, by omega⟩
    simp only [laws_eqIntS.l0]
    rw [if_neg (by omega), List.drop_of_length_le (by omega), List.drop_of_length_le (by omega)]
    simp
  | succ d ih =>
    intro n k h1 h2 hk
    obtain ⟨k, rfl⟩ : ∃ m, k = m + 1 := ⟨k - 1, by omega⟩
    simp only [laws_eqIntS.l0]
    by_cases hlt : n < x.length
    · rw [if_pos (by omega), if_pos (by omega), if_pos (by omega), rd_nat, rd_nat, wrap_next (by omega), drop_getD x 0 n hlt, drop_getD y 0 n (by omega), ih (n + 1) k (by omega) (by omega) (by omega)]
      by_cases e : x.getD n 0 = y.getD n 0
      · rw [if_pos e, e]; simp
      · rw [if_neg e]; simp only [List.cons.injEq, e, false_and, decide_false]
    · rw [if_neg (by omega), List.drop_of_length_le (by omega), List.drop_of_length_le (by omega)]
      simp
theorem eqIntS_eq (x y : List Int) (hb : x.length ≤ 140737488355328) (k : Nat) (hk : x.length < k) : laws_eqIntS.f k x y = some (decide (x = y)) := by
  unfold laws_eqIntS.f
  by_cases hl : x.length = y.length
  · rw [if_pos (by omega)]
    have h := eqIntS_loop x y hl hb x.length 0 k (by omega) (by omega) hk
    simpa using h
  · rw [if_neg (by omega)]
    have : x ≠ y := fun e => hl (by rw [e])
    simp [this]
theorem tensionOf_bd (a b c p : Int) : -1 ≤ tensionOf a b c p ∧ tensionOf a b c p ≤ 90000000 := by
  unfold tensionOf
  split
  · rename_i h
    have := (tens_bd (a := a) (b := b) (p := p) (by omega) (by omega) (by omega)).2.2.2.2
    omega
  · omega
def frameL : List S97 → List Int → Int → Int
  | x :: xs, p :: ps, acc => if tensionOf x.f0 x.f1 x.f2 p < 0 then -1 else frameL xs ps (acc + tensionOf x.f0 x.f1 x.f2 p)
  | _, _, acc => acc
theorem spec_frame_loop (x : List S97) (p : List Int) (hp : p.length = x.length) (hx : x.length ≤ 20) : ∀ (d n k : Nat) (acc : Int), n ≤ x.length → x.length - n = d → d < k → 0 ≤ acc → acc ≤ 90000000 * (n : Int) →
    spec_FrameLoad.l0 k x p acc (n : Int) = some (frameL (x.drop n) (p.drop n) acc) := by
  intro d
  induction d with
  | zero =>
    intro n k acc h1 h2 hk ha hb
    obtain ⟨k, rfl⟩ : ∃ m, k = m + 1 := ⟨k - 1, by omega⟩
    simp only [spec_FrameLoad.l0]
    rw [if_neg (by omega), List.drop_of_length_le (by omega)]
    rfl
  | succ d ih =>
    intro n k acc h1 h2 hk ha hb
    obtain ⟨k, rfl⟩ : ∃ m, k = m + 1 := ⟨k - 1, by omega⟩
    have ht := tensionOf_bd (x.getD n z97).f0 (x.getD n z97).f1 (x.getD n z97).f2 (p.getD n 0)
    simp only [spec_FrameLoad.l0, spec_TensionAt_eq, Option.bind_some]
    rw [if_pos (by omega), if_pos (by omega), if_pos (by omega), rdCi_nat, rd_nat, wrap_next (by omega), drop_getD x z97 n (by omega), drop_getD p 0 n (by omega)]
    simp only [frameL]
    by_cases c : tensionOf (x.getD n z97).f0 (x.getD n z97).f1 (x.getD n z97).f2 (p.getD n 0) < 0
    · rw [if_pos c, if_pos c]
    · rw [if_neg c, if_neg c, w64 (by omega) (by omega), ih (n + 1) k _ (by omega) (by omega) (by omega) (by omega) (by omega)]
theorem impl_frame_loop (x : List S97) (p : List Int) (hp : p.length = x.length) (hx : x.length ≤ 20) : ∀ (d n k : Nat) (acc : Int), n ≤ x.length → x.length - n = d → d < k → 0 ≤ acc → acc ≤ 90000000 * (n : Int) →
    impl_FrameLoad.l0 k p acc x (x.length : Int) (n : Int) = some (frameL (x.drop n) (p.drop n) acc) := by
  intro d
  induction d with
  | zero =>
    intro n k acc h1 h2 hk ha hb
    obtain ⟨k, rfl⟩ : ∃ m, k = m + 1 := ⟨k - 1, by omega⟩
    simp only [impl_FrameLoad.l0]
    rw [if_neg (by omega), List.drop_of_length_le (by omega)]
    rfl
  | succ d ih =>
    intro n k acc h1 h2 hk ha hb
    obtain ⟨k, rfl⟩ : ∃ m, k = m + 1 := ⟨k - 1, by omega⟩
    have ht := tensionOf_bd (x.getD n z97).f0 (x.getD n z97).f1 (x.getD n z97).f2 (p.getD n 0)
    simp only [impl_FrameLoad.l0, impl_TensionAt_eq, Option.bind_some]
    rw [if_pos (by omega), if_pos (by omega), if_pos (by omega), if_pos (by omega), rdCi_nat, rd_nat, wrap_next (by omega), drop_getD x z97 n (by omega), drop_getD p 0 n (by omega)]
    simp only [frameL]
    by_cases c : tensionOf (x.getD n z97).f0 (x.getD n z97).f1 (x.getD n z97).f2 (p.getD n 0) < 0
    · rw [if_pos (by omega), if_pos c]
    · rw [if_neg (by omega), if_neg c, w64 (by omega) (by omega), ih (n + 1) k _ (by omega) (by omega) (by omega) (by omega) (by omega)]
theorem frame_agree (x : List S97) (p : List Int) (k : Nat) (hk : 100 < k) : ∃ r, spec_FrameLoad.f k x p = some r ∧ impl_FrameLoad.f k x p = some r := by
  obtain ⟨k, rfl⟩ : ∃ m, k = m + 1 := ⟨k - 1, by omega⟩
  unfold spec_FrameLoad.f impl_FrameLoad.f
  by_cases hl : (x.length : Int) = (p.length : Int)
  · rw [if_pos hl, if_pos hl, spec_FrameLoad.j0, impl_FrameLoad.j0]
    by_cases h20 : (x.length : Int) > 20
    · rw [decide_eq_true h20, if_pos rfl, if_pos rfl]; exact ⟨_, rfl, rfl⟩
    · rw [decide_eq_false h20, if_neg (by decide), if_neg (by decide)]
      refine ⟨_, spec_frame_loop x p (by omega) (by omega) x.length 0 k 0 (by omega) (by omega) (by omega) (by omega) (by omega), impl_frame_loop x p (by omega) (by omega) x.length 0 k 0 (by omega) (by omega) (by omega) (by omega) (by omega)⟩
  · rw [if_neg hl, if_neg hl, spec_FrameLoad.j0, impl_FrameLoad.j0]
    exact ⟨_, rfl, rfl⟩
theorem frame_law (l : List S99) (hm : l.length ≤ 9223372036854775807) (p : List Int) (hp : p.length ≤ 9223372036854775807) (k : Nat) (hk : 1048577 < k) : laws_FnExactFrameLoad.f k l p = some true := by
  unfold laws_FnExactFrameLoad.f
  by_cases hl0 : (p.length : Int) > 1048576
  · rw [if_pos hl0]
  rw [if_neg hl0]
  simp only [laws_szCordS.f]
  rw [w64 (n := 1048576 - (l.length : Int)) (by omega) (by omega)]
  by_cases hl : 1048576 - (l.length : Int) < 0
  · rw [if_pos hl]; simp
  · rw [if_neg hl]
    simp only [Option.bind_some]
    rw [if_neg hl, toCordS_eq l (by omega) k (by omega), toIntS_eq p (by omega) k (by omega)]
    simp only [Option.bind_some]
    obtain ⟨r, e1, e2⟩ := frame_agree (l.map conC) p k (by omega)
    have hlen : (l.map conC).length = l.length := by simp
    rw [e1]; simp only [Option.bind_some]
    rw [e2]; simp only [Option.bind_some]
    rw [if_pos trivial, eqCordS_self _ (by omega) k (by omega)]
    simp only [Option.bind_some, if_true]
    rw [eqIntS_eq p p (by omega) k (by omega)]
    simp
theorem FnExactFrameLoad (l : List S99) (hm : l.length ≤ 9223372036854775807) (p : List Int) (hp : p.length ≤ maxLen) (_ : p.length * 8 ≤ 140737488351232) (_ : ∀ x ∈ p, (Lit.int .i64 x).wf = true) : ∃ k, laws_FnExactFrameLoad.f k l p = some true := by
  obtain ⟨k, hk⟩ : ∃ k : Nat, 1048577 < k := ⟨1048578, by omega⟩
  exact ⟨k, frame_law l hm p hp k hk⟩
end Go.Proofs.Ytbimhcdfojbjgac.Pure
