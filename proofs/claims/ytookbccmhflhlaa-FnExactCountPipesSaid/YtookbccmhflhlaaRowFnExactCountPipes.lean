/- FnExactCountPipes: for every argument that can be read as data the law returns true and leaves the argument as it was. No condition. -/
import Derived.Test.YtookbccmhflhlaaRows
import Derived.Test.YtookbccmhflhlaaHFnExactCountPipesx5
import Derived.Test.YtookbccmhflhlaaPureFnExactCountPipes
import Derived.WalkKit
import Derived.ProofKit
import Derived.OpenShut
import Derived.ShutString
import Derived.ChangeOld
import Derived.Below
import Derived.SizedLaws
import Derived.Lib.SmallJoins
import Derived.Deep.Slices
import Derived.Deep.Fields
import Derived.ChangeSame
import Derived.Test.YtookbccmhflhlaaWSized
namespace Go.Proofs.Ytookbccmhflhlaa.fnExactCountPipes
open Go.ChangeShapes Go.WideShapes Go.ChangeAt Go.RowKit Go.Deep Go.Proofs.YtookbccmhflhlaaW
set_option linter.unusedVariables false
set_option linter.unusedSimpArgs false
theorem own : ownKnob Try.prog.godebug = none := by kernel_rfl
theorem laidOut : laidOutB Try.prog = true := by kernel_rfl
theorem row_of {H : Type} {enc : TypeId × Value → H} {W : World} {b : Nat} {held : Bool} {t e : TypeId} {kd : IntKind} {a : Option Addr} {len cap : Nat} {d : DataW H} {ps : List MemPlace} (ht : Try.prog.underlying t = some (.slice e)) (he : Try.prog.underlying e = some (.int kd)) (hC : Try.prog.cellsOf e = 1) (h : DataW.Trod enc Try.prog W b (fun _ => true) held t (.slice a len cap) d ps) :
    ∃ zs : List Int, (a = none ∧ len = 0 ∧ cap = 0 ∧ zs = []) ∨ ∃ x, a = some x ∧ len ≤ cap ∧ cap ≤ maxLen ∧ zs.length = cap ∧ (∀ i, i < zs.length → W.cell? (x.add i) = some (.int kd (zs.getD i 0))) ∧ ∀ n ∈ zs, (Lit.int kd n).wf = true := by
  obtain ⟨fuel, hf⟩ := h
  rcases open_ints ht he hC hf with ⟨hcs, _⟩ | ⟨x, l, c, zs, hcs, _, hl, hm, hz, _, hcell, hwz⟩
  · simp [Value.cells] at hcs
    obtain ⟨rfl, rfl, rfl⟩ := hcs
    exact ⟨[], .inl ⟨rfl, rfl, rfl, rfl⟩⟩
  · simp [Value.cells] at hcs
    obtain ⟨rfl, rfl, rfl⟩ := hcs
    exact ⟨zs, .inr ⟨_, rfl, hl, hm, by simpa using hz, hcell, hwz⟩⟩
section
variable {H : Type} {enc : TypeId × Value → H} {P : Program} {w : World} {base : Nat} {spare : Nat → Bool} {held : Bool}
/-- A list out of one thing for each place. -/
theorem pick_list {α : Type} (Q : Nat → α → Prop) : ∀ n, (∀ i, i < n → ∃ x, Q i x) → ∃ l : List α, l.length = n ∧ ∀ (j : Nat) (x : α), l[j]? = some x → Q j x
  | 0, _ => ⟨[], rfl, fun j x h => by simp at h⟩
  | n + 1, h => by
    obtain ⟨l, hl, hq⟩ := pick_list Q n (fun i hi => h i (by omega))
    obtain ⟨x, hx⟩ := h n (by omega)
    refine ⟨l ++ [x], by simp [hl], fun j y hj => ?_⟩
    by_cases hjl : j < l.length
    · rw [List.getElem?_append_left hjl] at hj
      exact hq j y hj
    · have hlt := (List.getElem?_eq_some_iff.1 hj).1
      simp at hlt
      obtain rfl : j = l.length := by omega
      simp at hj
      subst hj
      rw [hl]
      exact hx
/-- A slice of structs of whole numbers, as a list of lists. -/
theorem open_rows {t e : TypeId} {fs : Array Field} {a : Option Addr} {len cap : Nat} {d : DataW H} {ps : List MemPlace} (ht : P.underlying t = some (.slice e)) (he : P.underlying e = some (.struct fs))
    (hone : oneCellFields P fs = true) (hC : P.cellsOf e = fs.size) (hint : ∀ (j : Nat) (f : Field), fs[j]? = some f → P.underlying f.type = some (.int .i64)) (h : DataW.Trod enc P w base spare held t (.slice a len cap) d ps) :
    len ≤ cap ∧ len ≤ 9223372036854775807 ∧ ∃ l : List (List Int), l.length = len ∧ (0 < len → ∃ x, a = some x ∧ ∀ (j : Nat) (c : List Int), l[j]? = some c → c.length = fs.size ∧ ∀ (i : Nat) (n : Int), c[i]? = some n → w.cell? (x.add (j * fs.size + i)) = some (.int .i64 n) ∧ (Lit.int .i64 n).wf = true) := by
  obtain ⟨fuel, hf⟩ := h
  rcases Go.Deep.open_slice ht hf with ⟨hcs, _⟩ | ⟨x, l, c, m, n, D, Pl, hcs, _, hl, hm, hmm, _, hi⟩
  · simp [Value.cells] at hcs
    obtain ⟨_, rfl, rfl⟩ := hcs
    exact ⟨Nat.le_refl _, by omega, [], rfl, fun hp => absurd hp (by omega)⟩
  · simp [Value.cells] at hcs
    obtain ⟨rfl, rfl, rfl⟩ := hcs
    have hlm : len ≤ m := by rw [hmm]; split <;> omega
    have hmax : cap ≤ 9223372036854775807 := hm
    obtain ⟨L, hL, hq⟩ := pick_list (fun j (c : List Int) => c.length = fs.size ∧ ∀ (i : Nat) (n : Int), c[i]? = some n → w.cell? (x.add (j * fs.size + i)) = some (.int .i64 n) ∧ (Lit.int .i64 n).wf = true) len (fun j hj => by
      obtain ⟨cs', hc, ht'⟩ := hi j (by omega)
      rw [hC] at hc
      obtain ⟨ys, n', _, _, _, hys, hfield⟩ := DataW.trod_struct he ht'
      obtain ⟨_, hcl, hat⟩ := World.cells?_some hc
      obtain ⟨L, hL, hq⟩ := pick_list (fun i (n : Int) => w.cell? (x.add (j * fs.size + i)) = some (.int .i64 n) ∧ (Lit.int .i64 n).wf = true) fs.size (fun i hif => by
        have hfi : fs[i]? = some fs[i] := Array.getElem?_eq_getElem hif
        obtain ⟨ho, hk⟩ := hone_of hone i _ hfi
        have h1 := hfield i _ hfi
        rw [ho, hk] at h1
        have hyl : i < ys.length := by omega
        rw [List.getElem?_eq_getElem hyl] at h1
        have hone1 : (cs'.drop i).take 1 = [cs'[i]'(by omega)] := by
          rw [List.drop_eq_getElem_cons (by omega)]
          rfl
        rw [hone1] at h1
        obtain ⟨v, hv, _, hwf⟩ := DataW.trod_int (hint i _ hfi) h1
        refine ⟨v, ?_, hwf⟩
        have h2 := hat i hif
        rw [Go.Deep.add_add, List.getElem?_eq_getElem (by omega)] at h2
        rw [h2]
        injection hv with hv
        rw [hv])
      exact ⟨L, hL, hq⟩)
    exact ⟨hl, by omega, L, hL, fun _ => ⟨x, rfl, hq⟩⟩
end
theorem reads0 {H : Type} {enc : TypeId × Value → H} {W : World} {b : Nat} {sp : Nat → Bool} {held : Bool} {a : Option Addr} {len cap : Nat} {d : DataW H} {ps : List MemPlace} (h : DataW.Trod enc Try.prog W b sp held 36 (.slice a len cap) d ps) :
    len ≤ cap ∧ ∃ l : List PFnExactCountPipes.S58, len = l.length ∧ l.length ≤ 9223372036854775807 ∧ PrintWords.Kd.C PFnExactCountPipes.k58 W a l.length l := by
  obtain ⟨hlc, hmax, L, hL, hx⟩ := open_rows Try.underlying36 Try.underlying58 (by kernel_rfl) (by kernel_rfl) (fun j f hj => by
    rcases j with _|_ | j
    · simp at hj; subst hj; exact Try.underlying3
    · simp at hj; subst hj; exact Try.underlying3
    · simp at hj) h
  have hn : len = (L.map fun c => (⟨c.getD 0 0, c.getD 1 0⟩ : PFnExactCountPipes.S58)).length := by rw [List.length_map, hL]
  refine ⟨hlc, L.map fun c => ⟨c.getD 0 0, c.getD 1 0⟩, hn, by omega, rfl, by omega, fun hp => ?_⟩
  obtain ⟨x, rfl, hc⟩ := hx (by omega)
  refine ⟨x, rfl, fun j q hj => ?_⟩
  rw [List.getElem?_map] at hj
  obtain ⟨c, hcj, rfl⟩ := Option.map_eq_some_iff.1 hj
  obtain ⟨hcl, hcell⟩ := hc j c hcj
  have hcl' : c.length = 2 := hcl
  refine ⟨_, rfl, PFnExactCountPipes.k58_mk W _, fun i u hu => ?_⟩
  have hg : ∀ i, i < 2 → c[i]? = some (c.getD i 0) := fun i hi => by rw [List.getD_eq_getElem?_getD, List.getElem?_eq_getElem (by omega)]; rfl
  rcases i with _|_ | i
  · simp only [List.getElem?_cons_zero, List.getElem?_cons_succ, Option.some.injEq] at hu
    subst hu
    exact (hcell 0 _ (hg 0 (by omega))).1
  · simp only [List.getElem?_cons_zero, List.getElem?_cons_succ, Option.some.injEq] at hu
    subst hu
    exact (hcell 1 _ (hg 1 (by omega))).1
  · simp at hu
set_option maxRecDepth 100000 in
theorem lifted (os : Os) (started : os.Started) (H : Type) (enc : TypeId × Value → H) :
    ReturnsInHanded {} Try.checked os 4 .any (Rows.fnExactCountPipesSpec.pre6 enc Try.prog Try.f4 Rows.fnExactCountPipesRow.domain false) (Rows.fnExactCountPipesSpec.post enc Try.prog Try.f4 false true false false) := by
  refine returnsInHanded_of_change_sized (C := Try.checked) own started (by kernel_rfl) Try.func4
    (ChangeSpec.witness6 (enc := enc) (C := Try.checked) false ⟨#[], #[.slice none 0 0, .slice none 0 0, .slice none 0 0], []⟩ 8 (by kernel_rfl) (by kernel_rfl) (by kernel_rfl) (by kernel_rfl)) ?_
  intro W base args ds gs before hval0 hW hcnd hsz0 _
  have hsz : (DataW.weightsEach Try.prog (Try.f4.params.toList ++ Rows.fnExactCountPipesSpec.plain.varTypes Try.prog) (ds ++ gs)).all (· ≤ reachBytes) = true := hsz0
  have hval : ∀ (j : Nat) t v, Try.f4.params[j]? = some t → args[j]? = some v → Value.okWide Try.prog W .any base t v := hval0
  have hW' := hW
  obtain ⟨p, q, hA0, hV, rfl, hfz, hnd⟩ := hW
  have hA : DataW.TrodAll enc Try.prog W 0 (fun _ => true) true Try.f4.params.toList args.toList ds p := hA0
  rw [Try.params4] at hA hval hsz
  obtain ⟨v0, vs0, d0, ds0, p0, q0, hargs, rfl, rfl, h0, r0⟩ := trodAll_cons hA
  obtain ⟨v1, vs1, d1, ds1, p1, q1, rfl, rfl, rfl, h1, r1⟩ := trodAll_cons r0
  obtain ⟨v2, vs2, d2, ds2, p2, q2, rfl, rfl, rfl, h2, r2⟩ := trodAll_cons r1
  obtain ⟨rfl, rfl, rfl⟩ := trodAll_nil r2
  obtain rfl : args = #[v0, v1, v2] := by cases args; simp_all
  obtain ⟨rfl, rfl⟩ := trodVars_none hV
  obtain ⟨a0, len0, cap0, rfl⟩ := okWide_slice Try.underlying36 (hval 0 36 v0 rfl rfl)
  have k0 := h0
  have lt0 : ∀ x ∈ p0, x.block < W.heap.size := by obtain ⟨m, hm⟩ := k0; exact DataW.trod_lt m _ _ _ hm
  obtain ⟨hc0, l0, rfl, hm0, hr0⟩ := reads0 h0
  obtain ⟨a1, len1, cap1, rfl⟩ := okWide_slice Try.underlying25 (hval 1 25 v1 rfl rfl)
  have k1 := h1
  have lt1 : ∀ x ∈ p1, x.block < W.heap.size := by obtain ⟨m, hm⟩ := k1; exact DataW.trod_lt m _ _ _ hm
  have y1 : len1 * 8 ≤ 140737488351232 := PrintWords.sized_ints hsz (j := 1) (t := 25) rfl rfl Try.underlying25 Try.underlying3 (by kernel_rfl) (by kernel_rfl) h1
  obtain ⟨l1, rfl, hr1, hm1, hw1, hc1⟩ := PrintWords.ReadsInt.ofRowC (row_of Try.underlying25 Try.underlying3 (by kernel_rfl) h1).choose_spec
  obtain ⟨a2, len2, cap2, rfl⟩ := okWide_slice Try.underlying25 (hval 2 25 v2 rfl rfl)
  have k2 := h2
  have lt2 : ∀ x ∈ p2, x.block < W.heap.size := by obtain ⟨m, hm⟩ := k2; exact DataW.trod_lt m _ _ _ hm
  have y2 : len2 * 8 ≤ 140737488351232 := PrintWords.sized_ints hsz (j := 2) (t := 25) rfl rfl Try.underlying25 Try.underlying3 (by kernel_rfl) (by kernel_rfl) h2
  obtain ⟨l2, rfl, hr2, hm2, hw2, hc2⟩ := PrintWords.ReadsInt.ofRowC (row_of Try.underlying25 Try.underlying3 (by kernel_rfl) h2).choose_spec
  clear hA0 hval0 hsz0 hsz
  obtain ⟨kk, hkk⟩ := Pure.FnExactCountPipes l0 hm0 l1 hm1 y1 hw1 l2 hm2 y2 hw2
  refine (PFnExactCountPipes.laws_FnExactCountPipes.calls kk _ _ l0 _ _ l1 _ _ l2 true W hr0 hc0 (PrintWords.Kd.C_of_reads (d := (0 : Int)) (h1 := fun _ => rfl) hr1) hc1 (PrintWords.Kd.C_of_reads (d := (0 : Int)) (h1 := fun _ => rfl) hr2) hc2 hkk).mono fun e W' ⟨he, bel⟩ => ?_
  subst he
  exact ⟨_, rfl, _, _, _, [], _, [], hW', trodAll_mk1 (shut_bool Try.underlying4 _), (trodAll_cons_mk (Below.trod laidOut (by kernel_rfl) (of_decide_eq_true (by kernel_rfl)) k0 bel lt0) (trodAll_cons_mk (Below.trod laidOut (by kernel_rfl) (of_decide_eq_true (by kernel_rfl)) k1 bel lt1) (trodAll_cons_mk (Below.trod laidOut (by kernel_rfl) (of_decide_eq_true (by kernel_rfl)) k2 bel lt2) trodAll_mk0))), rfl, bel.frame _, fun h => by cases h⟩
theorem over : Rows.fnExactCountPipesRow.holds Try.pinned (OpenSpec.ofChange Rows.fnExactCountPipesSpec) :=
  OpenClaim.holds_of_wide 4 Try.f4 rfl rfl rfl rfl rfl rfl rfl ⟨rfl, rfl, rfl, rfl, rfl⟩ rfl rfl rfl rfl rfl (by kernel_rfl) Try.func4 (by kernel_rfl)
    (of_decide_eq_true (by kernel_rfl)) (by unfold Func.isWrapper; first | (rw [if_pos (by decide +kernel)]; kernel_rfl) | (rw [if_neg (by decide +kernel)]; exact ⟨rfl, rfl⟩))
    (fun os started H enc _ => lifted os started H enc)
theorem proved : Rows.FnExactCountPipesSaid := over
#print axioms proved
end Go.Proofs.Ytookbccmhflhlaa.fnExactCountPipes
namespace Go.Proofs.Ytookbccmhflhlaa
/-- The row, under a short name, for the claim. -/
theorem fnExactCountPipes_holds : Rows.FnExactCountPipesSaid := fnExactCountPipes.proved
end Go.Proofs.Ytookbccmhflhlaa
