/- The plain law of FnGlides: the printed function of the law answers true. Its conditions are those of the statement's own bounds. -/
import Derived.Test.YtbimhcdfojbjgabHFnGlidesx3
namespace Go.Proofs.Ytbimhcdfojbjgab.Pure
open Go.RowKit Go.Proofs.Ytbimhcdfojbjgab.PFnGlides Go.Proofs.YtbimhcdfojbjgabW.PrintWords Go.Proofs.YtbimhcdfojbjgabW.PrintLast Go.Proofs.YtbimhcdfojbjgabW.PrintMore
set_option linter.unusedVariables false
theorem and255 (n : Int) : Go.bits .and .i64 n 255 = n % 256 := by
  have h255 : (BitVec.ofInt 64 255).toNat = 2 ^ 8 - 1 := by decide
  have key : (BitVec.ofInt 64 n &&& BitVec.ofInt 64 255).toNat = (n % ((2 ^ 64 : Nat) : Int)).toNat % 2 ^ 8 := by
    rw [BitVec.toNat_and, BitVec.toNat_ofInt, h255, Nat.and_two_pow_sub_one_eq_mod]
  show IntKind.i64.wrap ((BitVec.ofInt 64 n &&& BitVec.ofInt 64 255).toNat : Nat) = n % 256
  rw [key, IntKind.wrap_i64]
  omega
theorem dw64 {n : Int} (h1 : -9223372036854775808 ≤ n) (h2 : n ≤ 9223372036854775807) : wrap64 n = n := by unfold wrap64; omega
theorem lenb {b : List Int} (hb : b.length * 1 ≤ 140737488351232) : (b.length : Int) ≤ 140737488351232 := by omega
theorem new_loop (l : List Int) (hl : (l.length : Int) ≤ 140737488351232) : ∀ (d k : Nat) (h i : Int), 0 ≤ i → i ≤ 4000 → 4000 - i ≤ d → d < k → ∃ h', spec_l01New.l0 k l h i = some (l, 0, h') := by
  intro d
  induction d with
  | zero =>
    intro k h i h0 h1 hd hk
    obtain ⟨k, rfl⟩ : ∃ m, k = m + 1 := ⟨k - 1, by omega⟩
    refine ⟨h, ?_⟩
    simp only [spec_l01New.l0]
    by_cases hlt : i < (l.length : Int)
    · rw [if_pos hlt, if_neg (by omega)]
    · rw [if_neg hlt]
  | succ d ih =>
    intro k h i h0 h1 hd hk
    obtain ⟨k, rfl⟩ : ∃ m, k = m + 1 := ⟨k - 1, by omega⟩
    by_cases hlt : i < (l.length : Int)
    · by_cases h4 : i < 4000
      · obtain ⟨h', e⟩ := ih k (Go.bits .and .i64 (wrap64 ((wrap64 ((wrap64 (h * 131)) + (wrap64 (rd l i)))) + 7)) 1073741823) (i + 1) (by omega) (by omega) (by omega) (by omega)
        refine ⟨h', ?_⟩
        simp only [spec_l01New.l0]
        rw [if_pos hlt, if_pos h4, if_pos h0, dw64 (n := i + 1) (by omega) (by omega)]
        exact e
      · refine ⟨h, ?_⟩
        simp only [spec_l01New.l0]
        rw [if_pos hlt, if_neg h4]
    · refine ⟨h, ?_⟩
      simp only [spec_l01New.l0]
      rw [if_neg hlt]
theorem new_some (l : List Int) (hl : (l.length : Int) ≤ 140737488351232) (k : Nat) (hk : 4000 < k) : ∃ h, spec_l01New.f k l = some (l, 0, h) := by
  unfold spec_l01New.f
  exact new_loop l hl 4000 k _ 0 (by omega) (by omega) (by omega) hk
/-- the cursor's place is good -/
abbrev Cur (b : List Int) (i : Int) : Prop := 0 ≤ i ∧ i ≤ (b.length : Int) ∧ (b.length : Int) ≤ 140737488351232
theorem byte_some (b : List Int) (i h : Int) (hc : Cur b i) : ∃ x i' h', spec_l01Byte.f b i h = some (x, i', h') ∧ 0 ≤ x ∧ x ≤ 255 ∧ Cur b i' := by
  obtain ⟨h0, h1, h2⟩ := hc
  unfold spec_l01Byte.f
  by_cases hlt : i < (b.length : Int)
  · rw [if_pos hlt, if_pos h0]
    refine ⟨_, _, _, rfl, ?_, ?_, ?_⟩
    · rw [and255]; omega
    · rw [and255]; omega
    · rw [dw64 (n := i + 1) (by omega) (by omega)]; exact ⟨by omega, by omega, h2⟩
  · rw [if_neg hlt]
    refine ⟨_, _, _, rfl, ?_, ?_, ?_⟩
    · rw [and255]; omega
    · rw [and255]; omega
    · exact ⟨h0, h1, h2⟩
theorem tmod_lt {x n : Int} (hx : 0 ≤ x) (hn : 0 < n) : 0 ≤ x.tmod n ∧ x.tmod n < n := by
  rw [Int.tmod_eq_emod_of_nonneg hx]
  exact ⟨Int.emod_nonneg _ (by omega), Int.emod_lt_of_pos _ hn⟩
theorem below_some (b : List Int) (i h n : Int) (hc : Cur b i) (hn : 0 < n) (hn2 : n ≤ 2147483648) :
    ∃ x i' h', spec_l01Below.f b i h n = some (x, i', h') ∧ 0 ≤ x ∧ x < n ∧ Cur b i' := by
  unfold spec_l01Below.f
  rw [if_neg (by omega)]
  by_cases h256 : n ≤ 256
  · rw [if_pos h256]
    obtain ⟨x, i1, h1, e, hx0, hx1, hc1⟩ := byte_some b i h hc
    rw [e]; simp only [Option.bind_some]; rw [if_neg (by omega)]
    obtain ⟨a, c⟩ := tmod_lt (x := x) (n := n) hx0 hn
    exact ⟨_, _, _, rfl, a, c, hc1⟩
  · rw [if_neg h256]
    obtain ⟨x, i1, h1, e1, x0, x1, hc1⟩ := byte_some b i h hc
    rw [e1]; simp only [Option.bind_some]
    obtain ⟨y, i2, h2, e2, y0, y1, hc2⟩ := byte_some b i1 h1 hc1
    rw [e2]; simp only [Option.bind_some]
    obtain ⟨z, i3, h3, e3, z0, z1, hc3⟩ := byte_some b i2 h2 hc2
    rw [e3]; simp only [Option.bind_some]
    obtain ⟨w, i4, h4, e4, w0, w1, hc4⟩ := byte_some b i3 h3 hc3
    rw [e4]; simp only [Option.bind_some]; rw [if_neg (by omega)]
    rw [dw64 (n := x * 16777216) (by omega) (by omega), dw64 (n := y * 65536) (by omega) (by omega), dw64 (n := z * 256) (by omega) (by omega), dw64 (n := x * 16777216 + y * 65536) (by omega) (by omega),
      dw64 (n := x * 16777216 + y * 65536 + z * 256) (by omega) (by omega), dw64 (n := x * 16777216 + y * 65536 + z * 256 + w) (by omega) (by omega)]
    obtain ⟨a, c⟩ := tmod_lt (x := x * 16777216 + y * 65536 + z * 256 + w) (n := n) (by omega) hn
    exact ⟨_, _, _, rfl, a, c, hc4⟩
theorem u8_bd {x : Int} (h : (Lit.int .u8 x).wf = true) : 0 ≤ x ∧ x ≤ 255 := by
  have h' : (decide ((0 : Int) ≤ x) && decide (x ≤ 255)) = true := h
  simp at h'; omega
theorem at_some (l : List Int) (hl : (l.length : Int) ≤ 140737488351232) (hw : ∀ x ∈ l, (Lit.int .u8 x).wf = true) (i : Int) (hi : 0 ≤ i ∧ i ≤ 1000) : ∃ r, laws_at.f l i = some r ∧ 0 ≤ r ∧ r ≤ 255 := by
  unfold laws_at.f
  by_cases h0 : (l.length : Int) = 0
  · rw [if_pos h0]; exact ⟨0, rfl, by omega, by omega⟩
  · rw [if_neg h0, dw64 (n := i * 5) (by omega) (by omega), dw64 (n := i * 5 + 1) (by omega) (by omega)]
    obtain ⟨a, c⟩ := tmod_lt (x := i * 5 + 1) (n := (l.length : Int)) (by omega) (by omega)
    rw [if_pos a, if_pos c]
    have hm : rd l (Int.tmod (i * 5 + 1) (l.length : Int)) ∈ l := by
      unfold rd
      have hx : (Int.tmod (i * 5 + 1) (l.length : Int)).toNat < l.length := by omega
      rw [List.getD_eq_getElem?_getD, List.getElem?_eq_getElem hx]
      exact List.getElem_mem _
    have hb := u8_bd (hw _ hm)
    rw [dw64 (by omega) (by omega)]
    exact ⟨_, rfl, hb.1, hb.2⟩
theorem within_eq (a b c : Int) : impl_within.f a b c = some (decide (b ≤ a ∧ a ≤ c)) := by
  unfold impl_within.f
  by_cases h : b ≤ a
  · rw [if_pos h]; congr 1; by_cases h2 : a ≤ c <;> simp [h2, h]
  · rw [if_neg h]; congr 1; simp; omega
theorem law_of {α : Type} [DecidableEq α] {s i : Option α} {r : α} (hs : s = some r) (hi : i = some r) : (s.bind fun t => i.bind fun u => if u = t then some true else some false) = some true := by
  subst hs hi; simp
theorem law_ofb {s i : Option Bool} {r : Bool} (hs : s = some r) (hi : i = some r) : (s.bind fun t => i.bind fun u => if (u != t) = true then some false else some true) = some true := by
  subst hs hi; simp
theorem wf_i64 {a : Int} (h : (Lit.int .i64 a).wf = true) : -9223372036854775808 ≤ a ∧ a ≤ 9223372036854775807 := by
  have h' : (decide ((-9223372036854775808 : Int) ≤ a) && decide (a ≤ 9223372036854775807)) = true := h
  simp at h'; omega
theorem w64 {n : Int} (h1 : -9223372036854775808 ≤ n) (h2 : n ≤ 9223372036854775807) : wrap64 n = n := by unfold wrap64; omega
theorem mul_bd {a b A B : Int} (h0 : 0 ≤ a) (h1 : a ≤ A) (h2 : 0 ≤ b) (h3 : b ≤ B) : 0 ≤ a * b ∧ a * b ≤ A * B := by
  refine ⟨Int.mul_nonneg h0 h2, ?_⟩
  exact Int.le_trans (Int.mul_le_mul_of_nonneg_right h1 h2) (Int.mul_le_mul_of_nonneg_left h3 (by omega))
theorem tdiv_nn {a b : Int} (h : 0 ≤ a) : a.tdiv b = a / b := Int.tdiv_eq_ediv_of_nonneg h
theorem div_bd {a A c : Int} (h0 : 0 ≤ a) (h1 : a ≤ A) (hc : 0 < c) : 0 ≤ a / c ∧ a / c ≤ A / c :=
  ⟨Int.ediv_nonneg h0 (by omega), Int.ediv_le_ediv hc h1⟩
abbrev gOk (n t m : Int) : Prop := -1000000 ≤ n ∧ n ≤ 1000000 ∧ -1000000 ≤ t ∧ t ≤ 1000000 ∧ 1 ≤ m ∧ m ≤ 10000
theorem impl_mayGlide_eq (n t m : Int) : impl_mayGlide.f n t m = some (decide (gOk n t m)) := by
  simp only [impl_mayGlide.f, within_eq, Option.bind_some]
  by_cases h1 : -1000000 ≤ n ∧ n ≤ 1000000 <;> by_cases h2 : -1000000 ≤ t ∧ t ≤ 1000000 <;> by_cases h3 : 1 ≤ m ∧ m ≤ 10000 <;> simp [h1, h2, h3] <;> omega
def glide (n t m : Int) : Int := if gOk n t m then (if t > n + m then n + m else if t < n - m then n - m else t) else n
theorem glide_no {n t m : Int} (h : ¬ gOk n t m) : glide n t m = n := if_neg h
theorem glide_yes {n t m : Int} (h : gOk n t m) : glide n t m = if t > n + m then n + m else if t < n - m then n - m else t := if_pos h
theorem impl_GlideStep_eq (n t m : Int) : impl_GlideStep.f n t m = some (glide n t m) := by
  simp only [impl_GlideStep.f, impl_mayGlide_eq, impl_Clamp.f, Option.bind_some]
  by_cases h : gOk n t m
  · rw [w64 (n := n + m) (by omega) (by omega), w64 (n := n - m) (by omega) (by omega), if_pos (decide_eq_true h), glide_yes h]
    by_cases h1 : t > n + m
    · rw [if_pos h1, if_pos h1, if_neg (by omega)]; rfl
    · rw [if_neg h1, if_neg h1]
      by_cases h2 : t < n - m
      · rw [if_pos h2, if_pos h2]; rfl
      · rw [if_neg h2, if_neg h2]; rfl
  · rw [glide_no h, if_neg (by simpa using h)]
theorem wrap_next {n : Nat} (h : n ≤ 140737488355328) : wrap64 ((n : Int) + 1) = ((n + 1 : Nat) : Int) := by unfold wrap64; omega
theorem drop_getD {α : Type} (x : List α) (z : α) (n : Nat) (h : n < x.length) : x.drop n = x.getD n z :: x.drop (n + 1) := by
  rw [List.getD_eq_getElem?_getD, List.getElem?_eq_getElem h]
  exact List.drop_eq_getElem_cons h
theorem rd_nat (x : List Int) (n : Nat) : rd x (n : Int) = x.getD n 0 := by unfold rd; rw [Int.toNat_natCast]
theorem take_set_next {α : Type} (x : List α) (n : Nat) (v : α) (h : n < x.length) : (x.set n v).take (n + 1) = x.take n ++ [v] := by
  rw [List.take_succ_eq_append_getElem (by simpa using h)]
  congr 1
  · rw [List.take_set_of_le (Nat.le_refl _)]
  · simp
def apartG (a b : Int) : Int := mx (a - b) (b - a)
theorem apartG_abs (a b : Int) : 0 ≤ apartG a b ∧ a - b ≤ apartG a b ∧ b - a ≤ apartG a b ∧ (apartG a b = a - b ∨ apartG a b = b - a) := by unfold apartG mx; split <;> omega
def runL (m : Int) : Int → List Int → List Int
  | _, [] => []
  | now, t :: ts => glide now t m :: runL m (glide now t m) ts
def farL (m : Int) : Int → Int → List Int → Int
  | _, lag, [] => lag
  | now, lag, t :: ts => farL m (glide now t m) (mx lag (apartG (glide now t m) t)) ts
theorem runL_length (m : Int) : ∀ (ts : List Int) (now : Int), (runL m now ts).length = ts.length := by
  intro ts
  induction ts with
  | nil => intro now; rfl
  | cons t ts ih => intro now; simp [runL, ih]
/-- where the glide stands is between now and the target -/
theorem glide_bd {n t m : Int} (h : gOk n t m) : (glide n t m ≤ n ∨ glide n t m ≤ t) ∧ (n ≤ glide n t m ∨ t ≤ glide n t m) ∧ -1000000 ≤ glide n t m ∧ glide n t m ≤ 1000000 := by
  rw [glide_yes h]
  split
  · omega
  · split <;> omega
theorem gOk_next {n t u m : Int} (h : gOk n t m) (g : gOk n u m) : gOk (glide n t m) u m := by
  have := glide_bd h; omega
theorem impl_run_loop1 (x : List Int) (m : Int) (hx : x.length ≤ 60) : ∀ (d n k : Nat) (now lag : Int) (acc : List Int), n ≤ x.length → x.length - n = d → d < k → acc.length ≤ n → (∀ t ∈ x, gOk now t m) →
    impl_RunGlide.l1 k now m acc lag x (x.length : Int) (n : Int) = some (acc ++ runL m now (x.drop n), farL m now lag (x.drop n)) := by
  intro d
  induction d with
  | zero =>
    intro n k now lag acc h1 h2 hk ha hg
    obtain ⟨k, rfl⟩ : ∃ m, k = m + 1 := ⟨k - 1, by omega⟩
    simp only [impl_RunGlide.l1]
    rw [if_neg (by omega), List.drop_of_length_le (by omega)]
    simp [runL, farL]
  | succ d ih =>
    intro n k now lag acc h1 h2 hk ha hg
    obtain ⟨k, rfl⟩ : ∃ m, k = m + 1 := ⟨k - 1, by omega⟩
    have hlt : n < x.length := by omega
    have hmem : x.getD n 0 ∈ x := by rw [List.getD_eq_getElem?_getD, List.getElem?_eq_getElem hlt]; exact List.getElem_mem _
    have hgn := hg _ hmem
    have hbd := glide_bd hgn
    simp only [impl_RunGlide.l1, impl_GlideStep_eq, impl_apart.f, Option.bind_some]
    rw [if_pos (by omega), if_pos (by omega), if_pos (by omega), rd_nat, if_pos (by omega), wrap_next (by omega)]
    rw [w64 (n := glide now (x.getD n 0) m - x.getD n 0) (by omega) (by omega), w64 (n := x.getD n 0 - glide now (x.getD n 0) m) (by omega) (by omega)]
    rw [ih (n + 1) k _ _ _ (by omega) (by omega) (by omega) (by simp; omega) (fun t ht => gOk_next hgn (hg t ht)), drop_getD x 0 n hlt]
    simp only [runL, farL, apartG, List.append_assoc, List.cons_append, List.nil_append]
theorem impl_run_loop0 (x : List Int) (m now : Int) (hx : x.length ≤ 60) : ∀ (d n k : Nat), n ≤ x.length → x.length - n = d → d + x.length + 1 < k →
    impl_RunGlide.l0 k now x m x (x.length : Int) (n : Int) = if (∀ t ∈ x.drop n, gOk now t m) then impl_RunGlide.l1 (k - d - 1) now m [] 0 x (x.length : Int) 0 else some ([], 0) := by
  intro d
  induction d with
  | zero =>
    intro n k h1 h2 hk
    obtain ⟨k, rfl⟩ : ∃ m, k = m + 1 := ⟨k - 1, by omega⟩
    simp only [impl_RunGlide.l0]
    rw [if_neg (by omega), List.drop_of_length_le (by omega), if_pos (by simp)]
    rfl
  | succ d ih =>
    intro n k h1 h2 hk
    obtain ⟨k, rfl⟩ : ∃ m, k = m + 1 := ⟨k - 1, by omega⟩
    simp only [impl_RunGlide.l0, impl_mayGlide_eq, Option.bind_some]
    rw [if_pos (by omega), if_pos (by omega), if_pos (by omega), rd_nat, wrap_next (by omega), ih (n + 1) k (by omega) (by omega) (by omega)]
    have e : k + 1 - (d + 1) - 1 = k - d - 1 := by omega
    rw [e, drop_getD x 0 n (by omega)]
    by_cases c : gOk now (x.getD n 0) m
    · rw [if_pos (decide_eq_true c)]
      by_cases c2 : ∀ t ∈ x.drop (n + 1), gOk now t m
      · rw [if_pos c2, if_pos (fun t ht => by
          rcases List.mem_cons.1 ht with h | h
          · rw [h]; exact c
          · exact c2 t h)]
      · rw [if_neg c2, if_neg (fun hh => c2 fun t ht => hh t (List.mem_cons_of_mem _ ht))]
    · rw [if_neg (by simpa using c), if_neg (fun hh => c (hh _ List.mem_cons_self))]
def rOk (now : Int) (x : List Int) (m : Int) : Prop := x.length ≤ 60 ∧ gOk now 0 m ∧ ∀ t ∈ x, gOk now t m
theorem impl_RunGlide_yes {now : Int} {x : List Int} {m : Int} (h : rOk now x m) (k : Nat) (hk : 200 < k) : impl_RunGlide.f k now x m = some (runL m now x, farL m now 0 x) := by
  obtain ⟨h1, h2, h3⟩ := h
  obtain ⟨k, rfl⟩ : ∃ m, k = m + 1 := ⟨k - 1, by omega⟩
  unfold impl_RunGlide.f
  rw [if_neg (by omega), impl_mayGlide_eq, decide_eq_true h2]
  simp only [Option.bind_some, impl_RunGlide.j0]
  rw [if_neg (by decide)]
  have e := impl_run_loop0 x m now h1 x.length 0 k (by omega) (by omega) (by omega)
  rw [if_pos (by simpa using h3)] at e
  have e2 := impl_run_loop1 x m h1 x.length 0 (k - x.length - 1) now 0 [] (by omega) (by omega) (by omega) (by simp) h3
  simp only [Int.natCast_zero, List.nil_append, List.drop_zero] at e e2
  rw [e, e2]
theorem impl_RunGlide_no {now : Int} {x : List Int} {m : Int} (h : ¬ rOk now x m) (k : Nat) (hk : 200 < k) : impl_RunGlide.f k now x m = some ([], 0) := by
  obtain ⟨k, rfl⟩ : ∃ m, k = m + 1 := ⟨k - 1, by omega⟩
  unfold impl_RunGlide.f
  by_cases h1 : x.length ≤ 60
  · rw [if_neg (by omega), impl_mayGlide_eq]
    simp only [Option.bind_some, impl_RunGlide.j0]
    by_cases h2 : gOk now 0 m
    · rw [decide_eq_true h2, if_neg (by decide)]
      have e := impl_run_loop0 x m now h1 x.length 0 k (by omega) (by omega) (by omega)
      rw [if_neg (fun hh => h ⟨h1, h2, by simpa using hh⟩)] at e
      exact e
    · rw [decide_eq_false h2, if_pos (by decide)]
  · rw [if_pos (by omega), impl_RunGlide.j0, if_pos rfl]
theorem targets_loop (b : List Int) : ∀ (d k : Nat) (n i h : Int) (j : Int) (acc : List Int), j = n - d → 0 ≤ j → n ≤ 9 → d < k → Cur b i → (acc.length : Int) = j → (∀ y ∈ acc, -200 ≤ y ∧ y ≤ 200) →
    ∃ l i' h', spec_l32Targets.l0 k acc n j b i h = some (l, i', h') ∧ Cur b i' ∧ l.length ≤ 9 ∧ (∀ y ∈ l, -200 ≤ y ∧ y ≤ 200) := by
  intro d
  induction d with
  | zero =>
    intro k n i h j acc hj h0 h9 hk hc ha hb
    obtain ⟨k, rfl⟩ : ∃ m, k = m + 1 := ⟨k - 1, by omega⟩
    refine ⟨acc, i, h, ?_, hc, by omega, hb⟩
    simp only [spec_l32Targets.l0]
    rw [if_neg (by omega)]
  | succ d ih =>
    intro k n i h j acc hj h0 h9 hk hc ha hb
    obtain ⟨k, rfl⟩ : ∃ m, k = m + 1 := ⟨k - 1, by omega⟩
    obtain ⟨y, i1, h1, e1, y0, y1, c1⟩ := below_some b i h 401 hc (by omega) (by omega)
    obtain ⟨l, i', h', e, hr⟩ := ih k n i1 h1 (j + 1) (acc ++ [y - 200]) (by omega) (by omega) h9 (by omega) c1 (by simp; omega) (fun z hz => by
      rcases List.mem_append.1 hz with hz | hz
      · exact hb z hz
      · have : z = y - 200 := by simpa using hz
        omega)
    refine ⟨l, i', h', ?_, hr⟩
    simp only [spec_l32Targets.l0]
    rw [if_pos (by omega), e1]
    simp only [Option.bind_some]
    rw [if_pos (by omega), w64 (n := y - 200) (by omega) (by omega), w64 (n := j + 1) (by omega) (by omega)]
    exact e
theorem drawGlide_some (l : List Int) (hl : (l.length : Int) ≤ 140737488351232) (k : Nat) (hk : 4000 < k) : ∃ now x m, spec_DrawGlide.f k l = some (now, x, m) ∧ -150 ≤ now ∧ now ≤ 149 ∧ x.length ≤ 9 ∧ (∀ y ∈ x, -200 ≤ y ∧ y ≤ 200) ∧ 1 ≤ m ∧ m ≤ 100 := by
  obtain ⟨h, e0⟩ := new_some l hl k hk
  have c0 : Cur l 0 := ⟨by omega, by omega, hl⟩
  obtain ⟨a, i1, h1, e1, a0, a1, c1⟩ := below_some l 0 h 300 c0 (by omega) (by omega)
  obtain ⟨n, i2, h2, e2, n0, n1, c2⟩ := below_some l i1 h1 10 c1 (by omega) (by omega)
  obtain ⟨x, i3, h3, e3, c3, hx, hy⟩ := targets_loop l n.toNat k n i2 h2 0 [] (by omega) (by omega) (by omega) (by omega) c2 (by simp) (by simp)
  obtain ⟨z, i4, h4, e4, z0, z1, c4⟩ := below_some l i3 h3 100 c3 (by omega) (by omega)
  refine ⟨a - 150, x, 1 + z, ?_, by omega, by omega, hx, hy, by omega, by omega⟩
  unfold spec_DrawGlide.f
  rw [e0]; simp only [Option.bind_some]
  rw [e1]; simp only [Option.bind_some]
  unfold spec_l32Targets.f
  rw [e2]; simp only [Option.bind_some]
  rw [e3]; simp only [Option.bind_some]
  rw [e4]; simp only [Option.bind_some]
  rw [w64 (n := a - 150) (by omega) (by omega), w64 (n := 1 + z) (by omega) (by omega)]
theorem farL_ge (m : Int) : ∀ (ts : List Int) (now lag : Int), lag ≤ farL m now lag ts := by
  intro ts
  induction ts with
  | nil => intro now lag; exact Int.le_refl _
  | cons t ts ih =>
    intro now lag
    have h := ih (glide now t m) (mx lag (apartG (glide now t m) t))
    have : lag ≤ mx lag (apartG (glide now t m) t) := by unfold mx; split <;> omega
    simp only [farL]; omega
theorem glideSteps_eq {n t m : Int} (h : gOk n t m) : impl_GlideSteps.f n t m = some ((apartG n t + m - 1) / m) := by
  have ha := apartG_abs n t
  have hb : apartG n t ≤ 2000000 := by omega
  simp only [impl_GlideSteps.f, impl_mayGlide_eq, impl_apart.f, Option.bind_some]
  rw [if_pos (decide_eq_true h), w64 (n := n - t) (by omega) (by omega), w64 (n := t - n) (by omega) (by omega)]
  show (if m = 0 then none else some (wrap64 ((wrap64 (wrap64 (apartG n t + m) - 1)).tdiv m))) = _
  rw [if_neg (by omega), w64 (n := apartG n t + m) (by omega) (by omega), w64 (n := apartG n t + m - 1) (by omega) (by omega), tdiv_nn (by omega)]
  have h1 := div_bd (a := apartG n t + m - 1) (A := 2010000) (c := m) (by omega) (by omega) (by omega)
  have h2 : (2010000 : Int) / m ≤ 2010000 := Int.ediv_le_self _ (by omega)
  rw [w64 (by omega) (by omega)]
theorem least_loop (x : List Int) (now lag : Int) (m : Int) (hm : 1 ≤ m ∧ m ≤ 100) (hr : ∀ j, 1 ≤ j → j ≤ 100 → rOk now x j) (hf : farL m now 0 x ≤ lag) : ∀ (d k : Nat) (j : Int), j = m - d → 1 ≤ j → d + 300 < k →
    ∃ r, impl_LeastGlide.l1 k now x lag j = some r ∧ 1 ≤ r ∧ r ≤ m ∧ farL r now 0 x ≤ lag := by
  intro d
  induction d with
  | zero =>
    intro k j hj h1 hk
    obtain ⟨k, rfl⟩ : ∃ m, k = m + 1 := ⟨k - 1, by omega⟩
    obtain rfl : j = m := by omega
    refine ⟨j, ?_, h1, by omega, hf⟩
    simp only [impl_LeastGlide.l1]
    rw [if_pos (by omega), impl_RunGlide_yes (hr j h1 (by omega)) k (by omega)]
    simp only [Option.bind_some]
    rw [if_pos hf]
  | succ d ih =>
    intro k j hj h1 hk
    obtain ⟨k, rfl⟩ : ∃ m, k = m + 1 := ⟨k - 1, by omega⟩
    simp only [impl_LeastGlide.l1]
    rw [if_pos (by omega), impl_RunGlide_yes (hr j h1 (by omega)) k (by omega), w64 (n := j + 1) (by omega) (by omega)]
    simp only [Option.bind_some]
    by_cases c : farL j now 0 x ≤ lag
    · rw [if_pos c]
      exact ⟨j, rfl, h1, by omega, c⟩
    · rw [if_neg c]
      exact ih k (j + 1) (by omega) (by omega) (by omega)
theorem least_loop0 (x : List Int) (now lag : Int) (hx : x.length ≤ 60) (hy : ∀ y ∈ x, -5000 ≤ y ∧ y ≤ 5000) : ∀ (d n k : Nat), n ≤ x.length → x.length - n = d → d < k →
    impl_LeastGlide.l0 k now x lag x (x.length : Int) (n : Int) = impl_LeastGlide.l1 (k - d - 1) now x lag 1 := by
  intro d
  induction d with
  | zero =>
    intro n k h1 h2 hk
    obtain ⟨k, rfl⟩ : ∃ m, k = m + 1 := ⟨k - 1, by omega⟩
    simp only [impl_LeastGlide.l0]
    rw [if_neg (by omega)]
    rfl
  | succ d ih =>
    intro n k h1 h2 hk
    obtain ⟨k, rfl⟩ : ∃ m, k = m + 1 := ⟨k - 1, by omega⟩
    have hlt : n < x.length := by omega
    have hmem := hy (x.getD n 0) (by rw [List.getD_eq_getElem?_getD, List.getElem?_eq_getElem hlt]; exact List.getElem_mem _)
    have e : k + 1 - (d + 1) - 1 = k - d - 1 := by omega
    simp only [impl_LeastGlide.l0, within_eq, Option.bind_some]
    rw [if_pos (by omega), if_pos (by omega), if_pos (by omega), rd_nat, if_pos (decide_eq_true hmem), wrap_next (by omega), ih (n + 1) k (by omega) (by omega) (by omega), e]
theorem least_some (x : List Int) (now lag m : Int) (hx : x.length ≤ 9) (hy : ∀ y ∈ x, -200 ≤ y ∧ y ≤ 200) (hn : -150 ≤ now ∧ now ≤ 149) (hl : 0 ≤ lag) (hm : 1 ≤ m ∧ m ≤ 100) (hr : ∀ j, 1 ≤ j → j ≤ 100 → rOk now x j) (hf : farL m now 0 x ≤ lag) (k : Nat) (hk : 1000 < k) :
    ∃ r, impl_LeastGlide.f k now x lag = some r ∧ 1 ≤ r ∧ r ≤ m ∧ farL r now 0 x ≤ lag := by
  obtain ⟨k, rfl⟩ : ∃ m, k = m + 1 := ⟨k - 1, by omega⟩
  unfold impl_LeastGlide.f
  rw [if_neg (by omega), if_neg (by omega), within_eq, decide_eq_true (by omega)]
  simp only [Option.bind_some, impl_LeastGlide.j0]
  rw [if_neg (by decide)]
  have e := least_loop0 x now lag (by omega) (fun y h => by have := hy y h; omega) x.length 0 k (by omega) (by omega) (by omega)
  simp only [Int.natCast_zero] at e
  rw [e]
  exact least_loop x now lag m hm hr hf (m - 1).toNat _ 1 (by omega) (by omega) (by omega)
theorem glides_loop1 (x : List Int) (now m lag : Int) (l : List Int) (hx : x.length ≤ 9) (hy : ∀ y ∈ x, -200 ≤ y ∧ y ≤ 200) (hn : -150 ≤ now ∧ now ≤ 149) (hm : 1 ≤ m ∧ m ≤ 100) (hr : ∀ j, 1 ≤ j → j ≤ 100 → rOk now x j) (hf : farL m now 0 x ≤ lag) (hll : l.length = x.length) (hlag : 0 ≤ lag) :
    ∀ (d n k : Nat) (y a : Int), n ≤ x.length → x.length - n = d → d + 2000 < k → -1000 ≤ y → y ≤ 1000 → l.drop n = runL m y (x.drop n) → 0 ≤ a → farL m y a (x.drop n) ≤ lag →
    laws_FnGlides.l1 k now x m l lag y (n : Int) = some true := by
  intro d
  induction d with
  | zero =>
    intro n k y a h1 h2 hk hy0 hy1 hd ha hfar
    obtain ⟨k, rfl⟩ : ∃ m, k = m + 1 := ⟨k - 1, by omega⟩
    simp only [laws_FnGlides.l1]
    obtain ⟨r, er, r1, rm, rf⟩ := least_some x now lag m hx hy hn hlag hm hr hf k (by omega)
    rw [if_neg (by omega), er]
    simp only [Option.bind_some]
    rw [impl_RunGlide_yes (hr r r1 (by omega)) k (by omega)]
    simp only [Option.bind_some]
    rw [if_pos (by omega), if_pos rm, decide_eq_true rf]
  | succ d ih =>
    intro n k y a h1 h2 hk hy0 hy1 hd ha hfar
    obtain ⟨k, rfl⟩ : ∃ m, k = m + 1 := ⟨k - 1, by omega⟩
    have hlt : n < x.length := by omega
    have hmem := hy (x.getD n 0) (by rw [List.getD_eq_getElem?_getD, List.getElem?_eq_getElem hlt]; exact List.getElem_mem _)
    have hg : gOk y (x.getD n 0) m := by omega
    have hbd := glide_bd hg
    have hstep : y - m ≤ glide y (x.getD n 0) m ∧ glide y (x.getD n 0) m ≤ y + m := by
      rw [glide_yes hg]
      split
      · omega
      · split <;> omega
    rw [drop_getD x 0 n hlt, drop_getD l 0 n (by omega)] at hd
    simp only [runL] at hd
    injection hd with hd1 hd2
    rw [drop_getD x 0 n hlt] at hfar
    simp only [farL] at hfar
    have hge := farL_ge m (x.drop (n + 1)) (glide y (x.getD n 0) m) (mx a (apartG (glide y (x.getD n 0) m) (x.getD n 0)))
    have hap := apartG_abs (glide y (x.getD n 0) m) (x.getD n 0)
    have hmx : a ≤ mx a (apartG (glide y (x.getD n 0) m) (x.getD n 0)) ∧ apartG (glide y (x.getD n 0) m) (x.getD n 0) ≤ mx a (apartG (glide y (x.getD n 0) m) (x.getD n 0)) := by unfold mx; split <;> omega
    simp only [laws_FnGlides.l1]
    rw [if_pos (by omega), if_pos (by omega), rd_nat, rd_nat, hd1]
    have m1 : ¬ mx (wrap64 (glide y (x.getD n 0) m - y)) (wrap64 (y - glide y (x.getD n 0) m)) > m := by
      rw [w64 (n := glide y (x.getD n 0) m - y) (by omega) (by omega), w64 (n := y - glide y (x.getD n 0) m) (by omega) (by omega)]
      unfold mx; split <;> omega
    have m2 : ¬ mx (wrap64 (glide y (x.getD n 0) m - x.getD n 0)) (wrap64 (x.getD n 0 - glide y (x.getD n 0) m)) > lag := by
      rw [w64 (n := glide y (x.getD n 0) m - x.getD n 0) (by omega) (by omega), w64 (n := x.getD n 0 - glide y (x.getD n 0) m) (by omega) (by omega)]
      unfold mx; split <;> omega
    rw [if_neg m1, if_pos (by omega), if_neg m2, wrap_next (by omega)]
    exact ih (n + 1) k _ _ (by omega) (by omega) (by omega) (by omega) (by omega) hd2 (by omega) hfar
theorem glides_run (x : List Int) (now m t : Int) (hx : x.length ≤ 9) (hy : ∀ y ∈ x, -200 ≤ y ∧ y ≤ 200) (hn : -150 ≤ now ∧ now ≤ 149) (hm : 1 ≤ m ∧ m ≤ 100) (c : Int) (k : Nat) (hk : 3000 < k) :
    laws_FnGlides.j1 k now x m t t c false = some true := by
  have hr : ∀ j, 1 ≤ j → j ≤ 100 → rOk now x j := fun j h1 h2 => ⟨by omega, by omega, fun u hu => by have := hy u hu; omega⟩
  obtain ⟨k, rfl⟩ : ∃ m, k = m + 1 + 1 := ⟨k - 2, by omega⟩
  have hl := runL_length m x now
  have hf := farL_ge m x now 0
  rw [laws_FnGlides.j1, if_neg (by decide), impl_RunGlide_yes (hr m hm.1 hm.2) (k + 1) (by omega)]
  simp only [Option.bind_some, if_true]
  rw [if_pos (by omega), decide_eq_false (by omega), laws_FnGlides.j2, if_neg (by decide)]
  exact glides_loop1 x now m (farL m now 0 x) (runL m now x) hx hy hn hm hr (Int.le_refl _) hl hf x.length 0 k now 0 (by omega) (by omega) (by omega) (by omega) (by omega) (by simp) (by omega) (by simp)
theorem glides_loop0 (x : List Int) (now m t : Int) (hx : x.length ≤ 9) (hy : ∀ y ∈ x, -200 ≤ y ∧ y ≤ 200) (hn : -150 ≤ now ∧ now ≤ 149) (hm : 1 ≤ m ∧ m ≤ 100) (ht : -100 ≤ t ∧ t ≤ 155) :
    ∀ (d k : Nat) (p i : Int), i = (apartG now t + m - 1) / m - d → 0 ≤ i → 2 * d + 4000 < k → -1000 ≤ p → p ≤ 1000 → (apartG p t + i * m = apartG now t ∨ (p = t ∧ apartG now t ≤ i * m)) → laws_FnGlides.l0 k now x m t p i = some true := by
  have hg : gOk now t m := by omega
  have hD := apartG_abs now t
  have hS1 : (apartG now t + m - 1) / m * m ≤ apartG now t + m - 1 := Int.ediv_mul_le _ (by omega)
  have hS2 : apartG now t + m - 1 < ((apartG now t + m - 1) / m + 1) * m := Int.lt_ediv_add_one_mul_self _ (by omega)
  have hS3 : (apartG now t + m - 1) / m ≤ 410 := by
    have h1 := div_bd (a := apartG now t + m - 1) (A := 404) (c := m) (by omega) (by omega) (by omega)
    have h2 : (404 : Int) / m ≤ 404 := Int.ediv_le_self _ (by omega)
    omega
  rw [Int.add_mul] at hS2
  intro d
  induction d with
  | zero =>
    intro k p i hi h0 hk hp0 hp1 hinv
    obtain ⟨k, rfl⟩ : ∃ m, k = m + 1 := ⟨k - 1, by omega⟩
    have hpt : p = t := by
      rcases hinv with h | h
      · have hap := apartG_abs p t
        have : i * m = (apartG now t + m - 1) / m * m := by rw [hi]; simp
        omega
      · exact h.1
    subst hpt
    rw [laws_FnGlides.l0, glideSteps_eq hg]
    simp only [Option.bind_some]
    rw [if_neg (by omega)]
    exact glides_run x now m p hx hy hn hm i k (by omega)
  | succ d ih =>
    intro k p i hi h0 hk hp0 hp1 hinv
    obtain ⟨k, rfl⟩ : ∃ m, k = m + 1 + 1 := ⟨k - 2, by omega⟩
    have him : i * m < apartG now t := by
      have h1 : (i + 1) * m ≤ (apartG now t + m - 1) / m * m := Int.mul_le_mul_of_nonneg_right (by omega) (by omega)
      rw [Int.add_mul] at h1
      omega
    have hap := apartG_abs p t
    have hcase : apartG p t + i * m = apartG now t := by
      rcases hinv with h | h
      · exact h
      · omega
    have hne : p ≠ t := by
      intro e
      subst e
      have : apartG p p = 0 := by unfold apartG mx; split <;> omega
      omega
    have hgp : gOk p t m := by omega
    have hbd := glide_bd hgp
    rw [laws_FnGlides.l0, glideSteps_eq hg]
    simp only [Option.bind_some]
    rw [if_pos (by omega), decide_eq_true (by omega), laws_FnGlides.j1, if_pos rfl, if_neg hne, impl_GlideStep_eq]
    simp only [Option.bind_some]
    rw [w64 (n := i + 1) (by omega) (by omega)]
    refine ih k (glide p t m) (i + 1) (by omega) (by omega) (by omega) (by omega) (by omega) ?_
    rw [Int.add_mul, glide_yes hgp]
    have hap2 := apartG_abs (p + m) t
    have hap3 := apartG_abs (p - m) t
    by_cases c1 : t > p + m
    · rw [if_pos c1]; exact .inl (by omega)
    · rw [if_neg c1]
      by_cases c2 : t < p - m
      · rw [if_pos c2]; exact .inl (by omega)
      · rw [if_neg c2]; exact .inr ⟨rfl, by omega⟩
theorem glides_law (l : List Int) (hb : l.length ≤ 1048576) (hw : ∀ x ∈ l, (Lit.int .u8 x).wf = true) (k : Nat) (hk : 10000 < k) : laws_FnGlides.f k l = some true := by
  unfold laws_FnGlides.f
  simp only [laws_big.f, Option.bind_some]
  rw [if_neg (by simp; omega)]
  obtain ⟨now, x, m, e, n0, n1, hx, hy, m0, m1⟩ := drawGlide_some l (by omega) k (by omega)
  rw [e]; simp only [Option.bind_some]
  obtain ⟨t, et, t0, t1⟩ := at_some l (by omega) hw 0 (by omega)
  rw [et]; simp only [Option.bind_some]
  rw [w64 (n := t - 100) (by omega) (by omega)]
  have hD := apartG_abs now (t - 100)
  have h1 := div_bd (a := apartG now (t - 100) + m - 1) (A := 404) (c := m) (by omega) (by omega) (by omega)
  have h2 : (404 : Int) / m ≤ 404 := Int.ediv_le_self _ (by omega)
  exact glides_loop0 x now m (t - 100) hx hy ⟨n0, n1⟩ ⟨m0, m1⟩ (by omega) ((apartG now (t - 100) + m - 1) / m).toNat k now 0 (by omega) (by omega) (by omega) (by omega) (by omega) (.inl (by omega))
theorem FnGlides : laws_FnGlides.Pure := by
  intro l _ hb hw
  obtain ⟨k, hk⟩ : ∃ k : Nat, 10000 < k := ⟨10001, by omega⟩
  refine ⟨k, ?_⟩
  by_cases hl : (l.length : Int) > 1048576
  · unfold laws_FnGlides.f
    simp only [laws_big.f, Option.bind_some]
    rw [if_pos (decide_eq_true hl)]
  · exact glides_law l (by omega) hw k hk
end Go.Proofs.Ytbimhcdfojbjgab.Pure
