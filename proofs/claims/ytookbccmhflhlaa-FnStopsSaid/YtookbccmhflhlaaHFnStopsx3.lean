/- What the Go functions that FnStops uses answer, as Lean functions, with the walks that show it (lines of the kit's print, taken up and changed where they fell). No condition but those that each theorem names. -/
import Derived.Test.YtookbccmhflhlaaHFnStopsx0
import Derived.Test.YtookbccmhflhlaaHFnStopsx1
import Derived.Test.YtookbccmhflhlaaHFnStopsx2
namespace Go.Proofs.Ytookbccmhflhlaa.PFnStops
open Go.RowKit Go.Proofs.YtookbccmhflhlaaW.PrintWords Go.Proofs.YtookbccmhflhlaaW.PrintLast Go.Proofs.YtookbccmhflhlaaW.PrintMore
attribute [local go_sem] max2_int min2_int max_two min_two max_three min_three max_four min_four   -- for this text's walks alone
set_option linter.unusedVariables false
set_option linter.unusedSimpArgs false

/-! ### impl_PipesFor: function 9 -/
mutual
def impl_PipesFor.l0 : Nat → List (S54) → List Int → List Int → List Int → Int → Int → Option ((List (S31)))
  | 0, _, _, _, _, _, _ => none
  | k + 1, x0, x1, x2, x20, x21, x22 => if x22 < x21 then (if 0 ≤ x22 then (if x22 < (x20.length : Int) then ((impl_within.f (rd x20 x22) 0 (wrap64 ((x0.length : Int) - 1))).bind fun t191 => (if t191 = true then (impl_PipesFor.l0 k x0 x1 x2 x20 x21 (wrap64 (x22 + 1))) else (some ([] : List (S31))))) else (none)) else (none)) else (impl_PipesFor.l1 k x0 x1 x2 x2 (x2.length : Int) 0)
def impl_PipesFor.l1 : Nat → List (S54) → List Int → List Int → List Int → Int → Int → Option ((List (S31)))
  | 0, _, _, _, _, _, _ => none
  | k + 1, x0, x1, x2, x33, x34, x35 => if x35 < x34 then (if 0 ≤ x35 then (if x35 < (x33.length : Int) then ((impl_within.f (rd x33 x35) 0 24).bind fun t193 => (if t193 = true then (impl_PipesFor.l1 k x0 x1 x2 x33 x34 (wrap64 (x35 + 1))) else (some ([] : List (S31))))) else (none)) else (none)) else (impl_PipesFor.l2 k x0 x2 (([] : List (S31))) x1 (x1.length : Int) 0)
def impl_PipesFor.l2 : Nat → List (S54) → List Int → List (S31) → List Int → Int → Int → Option ((List (S31)))
  | 0, _, _, _, _, _, _ => none
  | k + 1, x0, x2, x11, x44, x45, x46 => if x46 < x45 then (if 0 ≤ x46 then (if x46 < (x44.length : Int) then (impl_PipesFor.l3 k x0 x2 x11 (rd x44 x46) x44 x45 x46 x2 (x2.length : Int) 0) else (none)) else (none)) else ((impl_pipesOf.f x11).bind fun t197 => (some t197))
def impl_PipesFor.l3 : Nat → List (S54) → List Int → List (S31) → Int → List Int → Int → Int → List Int → Int → Int → Option ((List (S31)))
  | 0, _, _, _, _, _, _, _, _, _, _ => none
  | k + 1, x0, x2, x11, x13, x44, x45, x46, x50, x51, x52 => if x52 < x51 then (if 0 ≤ x52 then (if x52 < (x50.length : Int) then (if 0 ≤ x13 then (if x13 < (x0.length : Int) then ((impl_within.f (wrap64 ((rd x50 x52) + ((rd_T54 x0 x13).f1))) 0 39).bind fun t203 => (if t203 = true then (if x11.length < 8796093022208 then (impl_PipesFor.l3 k x0 x2 (x11 ++ [(⟨(rd_T54 x0 x13).f0, wrap64 ((rd x50 x52) + ((rd_T54 x0 x13).f1))⟩ : S31)]) x13 x44 x45 x46 x50 x51 (wrap64 (x52 + 1))) else (none)) else (impl_PipesFor.l3 k x0 x2 x11 x13 x44 x45 x46 x50 x51 (wrap64 (x52 + 1))))) else (none)) else (none)) else (none)) else (none)) else (impl_PipesFor.l2 k x0 x2 x11 x44 x45 (wrap64 (x46 + 1)))
end
def impl_PipesFor.f (k : Nat) (l0 : List (S54)) (l1 : List Int) (l2 : List Int) : Option ((List (S31))) := (impl_StopsOk.f k l0).bind fun t189 => (if t189 = true then (impl_PipesFor.l0 k l0 l1 l2 l1 (l1.length : Int) 0) else (some ([] : List (S31))))
theorem impl_PipesFor.mono_l : ∀ k, (∀ y0 y1 y2 y3 y4 y5, LeO (impl_PipesFor.l0 k y0 y1 y2 y3 y4 y5) (impl_PipesFor.l0 (k + 1) y0 y1 y2 y3 y4 y5)) ∧ (∀ y0 y1 y2 y3 y4 y5, LeO (impl_PipesFor.l1 k y0 y1 y2 y3 y4 y5) (impl_PipesFor.l1 (k + 1) y0 y1 y2 y3 y4 y5)) ∧ (∀ y0 y1 y2 y3 y4 y5, LeO (impl_PipesFor.l2 k y0 y1 y2 y3 y4 y5) (impl_PipesFor.l2 (k + 1) y0 y1 y2 y3 y4 y5)) ∧ (∀ y0 y1 y2 y3 y4 y5 y6 y7 y8 y9, LeO (impl_PipesFor.l3 k y0 y1 y2 y3 y4 y5 y6 y7 y8 y9) (impl_PipesFor.l3 (k + 1) y0 y1 y2 y3 y4 y5 y6 y7 y8 y9))
  | 0 => ⟨fun _ _ _ _ _ _ r h => by simp [impl_PipesFor.l0] at h, fun _ _ _ _ _ _ r h => by simp [impl_PipesFor.l1] at h, fun _ _ _ _ _ _ r h => by simp [impl_PipesFor.l2] at h, fun _ _ _ _ _ _ _ _ _ _ r h => by simp [impl_PipesFor.l3] at h⟩
  | k + 1 => by
    obtain ⟨ih0, ih1, ih2, ih3⟩ := impl_PipesFor.mono_l k
    refine ⟨?_, ?_, ?_, ?_⟩
    · intro y0 y1 y2 y3 y4 y5
      unfold impl_PipesFor.l0
      repeat' first
      | (with_reducible exact ih0 _ _ _ _ _ _)
      | (with_reducible exact ih1 _ _ _ _ _ _)
      | (with_reducible exact ih2 _ _ _ _ _ _)
      | (with_reducible exact ih3 _ _ _ _ _ _ _ _ _ _)
      | (with_reducible exact impl_StopsOk.mono _ _)
      | (with_reducible exact LeO.refl _)
      | (with_reducible exact LeO.none _)
      | (with_reducible refine LeO.ite ?_ ?_)
      | (with_reducible refine LeO.bind ?_ (fun _ => ?_))
      | exact ih0 _ _ _ _ _ _
      | exact ih1 _ _ _ _ _ _
      | exact ih2 _ _ _ _ _ _
      | exact ih3 _ _ _ _ _ _ _ _ _ _
      | exact impl_StopsOk.mono _ _
      | exact LeO.none _
      | refine LeO.ite ?_ ?_
      | refine LeO.bind ?_ (fun _ => ?_)
    · intro y0 y1 y2 y3 y4 y5
      unfold impl_PipesFor.l1
      repeat' first
      | (with_reducible exact ih0 _ _ _ _ _ _)
      | (with_reducible exact ih1 _ _ _ _ _ _)
      | (with_reducible exact ih2 _ _ _ _ _ _)
      | (with_reducible exact ih3 _ _ _ _ _ _ _ _ _ _)
      | (with_reducible exact impl_StopsOk.mono _ _)
      | (with_reducible exact LeO.refl _)
      | (with_reducible exact LeO.none _)
      | (with_reducible refine LeO.ite ?_ ?_)
      | (with_reducible refine LeO.bind ?_ (fun _ => ?_))
      | exact ih0 _ _ _ _ _ _
      | exact ih1 _ _ _ _ _ _
      | exact ih2 _ _ _ _ _ _
      | exact ih3 _ _ _ _ _ _ _ _ _ _
      | exact impl_StopsOk.mono _ _
      | exact LeO.none _
      | refine LeO.ite ?_ ?_
      | refine LeO.bind ?_ (fun _ => ?_)
    · intro y0 y1 y2 y3 y4 y5
      unfold impl_PipesFor.l2
      repeat' first
      | (with_reducible exact ih0 _ _ _ _ _ _)
      | (with_reducible exact ih1 _ _ _ _ _ _)
      | (with_reducible exact ih2 _ _ _ _ _ _)
      | (with_reducible exact ih3 _ _ _ _ _ _ _ _ _ _)
      | (with_reducible exact impl_StopsOk.mono _ _)
      | (with_reducible exact LeO.refl _)
      | (with_reducible exact LeO.none _)
      | (with_reducible refine LeO.ite ?_ ?_)
      | (with_reducible refine LeO.bind ?_ (fun _ => ?_))
      | exact ih0 _ _ _ _ _ _
      | exact ih1 _ _ _ _ _ _
      | exact ih2 _ _ _ _ _ _
      | exact ih3 _ _ _ _ _ _ _ _ _ _
      | exact impl_StopsOk.mono _ _
      | exact LeO.none _
      | refine LeO.ite ?_ ?_
      | refine LeO.bind ?_ (fun _ => ?_)
    · intro y0 y1 y2 y3 y4 y5 y6 y7 y8 y9
      unfold impl_PipesFor.l3
      repeat' first
      | (with_reducible exact ih0 _ _ _ _ _ _)
      | (with_reducible exact ih1 _ _ _ _ _ _)
      | (with_reducible exact ih2 _ _ _ _ _ _)
      | (with_reducible exact ih3 _ _ _ _ _ _ _ _ _ _)
      | (with_reducible exact impl_StopsOk.mono _ _)
      | (with_reducible exact LeO.refl _)
      | (with_reducible exact LeO.none _)
      | (with_reducible refine LeO.ite ?_ ?_)
      | (with_reducible refine LeO.bind ?_ (fun _ => ?_))
      | exact ih0 _ _ _ _ _ _
      | exact ih1 _ _ _ _ _ _
      | exact ih2 _ _ _ _ _ _
      | exact ih3 _ _ _ _ _ _ _ _ _ _
      | exact impl_StopsOk.mono _ _
      | exact LeO.none _
      | refine LeO.ite ?_ ?_
      | refine LeO.bind ?_ (fun _ => ?_)
theorem impl_PipesFor.mono : ∀ a0 a1 a2 k, LeO (impl_PipesFor.f k a0 a1 a2) (impl_PipesFor.f (k + 1) a0 a1 a2) := by
  intro a0 a1 a2 k
  obtain ⟨ih0, ih1, ih2, ih3⟩ := impl_PipesFor.mono_l k
  unfold impl_PipesFor.f
  repeat' first
      | (with_reducible exact ih0 _ _ _ _ _ _)
      | (with_reducible exact ih1 _ _ _ _ _ _)
      | (with_reducible exact ih2 _ _ _ _ _ _)
      | (with_reducible exact ih3 _ _ _ _ _ _ _ _ _ _)
      | (with_reducible exact impl_StopsOk.mono _ _)
      | (with_reducible exact LeO.refl _)
      | (with_reducible exact LeO.none _)
      | (with_reducible refine LeO.ite ?_ ?_)
      | (with_reducible refine LeO.bind ?_ (fun _ => ?_))
      | exact ih0 _ _ _ _ _ _
      | exact ih1 _ _ _ _ _ _
      | exact ih2 _ _ _ _ _ _
      | exact ih3 _ _ _ _ _ _ _ _ _ _
      | exact impl_StopsOk.mono _ _
      | exact LeO.none _
      | refine LeO.ite ?_ ?_
      | refine LeO.bind ?_ (fun _ => ?_)
set_option maxHeartbeats 8000000 in
set_option maxRecDepth 100000 in
theorem impl_PipesFor.calls (k : Nat) (A0 : Option Addr) (c0 : Nat) (l0 : List (S54)) (A1 : Option Addr) (c1 : Nat) (l1 : List Int) (A2 : Option Addr) (c2 : Nat) (l2 : List Int) (r : List (S31)) (w : World) (hr0 : Kd.C k54 w A0 l0.length l0) (hc0 : l0.length ≤ c0) (hr1 : Kd.C (Kd.int .i64) w A1 l1.length l1) (hc1 : l1.length ≤ c1) (hr2 : Kd.C (Kd.int .i64) w A2 l2.length l2) (hc2 : l2.length ≤ c2) (h : impl_PipesFor.f k l0 l1 l2 = some r) :
    Calls Try.prog 9 #[.slice A0 l0.length c0, .slice A1 l1.length c1, .slice A2 l2.length c2] w fun e w' => ∃ v0_ : Value, e = .returned (v0_) ∧ Kd.R k31 31 w' w.heap.size (fun _ => True) v0_ r ∧ Below w.heap.size w w' := by
  have hu31 := Try.underlying31
  have HR0 := Aside0.mk hr0
  have HC0 := Aside0.mk hc0
  clear hr0 hc0
  have HR1 := Aside0.mk hr1
  have HC1 := Aside0.mk hc1
  clear hr1 hc1
  have HR2 := Aside0.mk hr2
  have HC2 := Aside0.mk hc2
  clear hr2 hc2
  have HB := Aside0.mk (Below.refl w.heap.size w)
  have H : ((impl_StopsOk.f k l0).bind fun t189 => (if t189 = true then (impl_PipesFor.l0 k l0 l1 l2 l1 (l1.length : Int) 0) else (some ([] : List (S31))))) = some r := h
  clear h
  replace H := Option.bind_eq_some_iff.mp H
  obtain ⟨t189, A40, H⟩ := H
  replace H : (if t189 = true then (impl_PipesFor.l0 k l0 l1 l2 l1 (l1.length : Int) 0) else (some ([] : List (S31)))) = some r := H
  have A4 := Aside0.mk A40
  clear A40
  by_cases c5 : t189 = true
  · subst c5
    have H1 : (impl_PipesFor.l0 k l0 l1 l2 l1 (l1.length : Int) 0) = some r := by rw [if_pos rfl] at H; exact H
    clear H
    have H := H1
    clear H1
    have H' := Aside0.mk H
    clear H
    go_enter Try.func9, Try.ntmps9
    go_wp2_with (first | ((with_reducible refine gate_callee (f := 13) rfl ?_); refine goesL_ (some 18) rfl rfl Try.func13 (by kernel_rfl) rfl #[.slice A0 l0.length c0] rfl (by (try simp only [List.map_toArray, List.map_cons, List.map_nil]); first | done | rfl | (simp only [List.length_drop, List.length_take]; rfl)) ?_; (with_reducible refine (impl_StopsOk.calls k _ _ l0 true _ ?side1 ?side2 A4.out).mono ?_); (case side1 => repeat (first | exact HR0.out | (with_reducible refine Kd.C_alloc ?_ _) | (with_reducible refine Kd.C_drewN ?_ _) | (with_reducible refine Kd.C_drew ?_))); (case side2 => exact HC0.out); rintro e w6 ⟨rfl, hb⟩; refine ⟨_, rfl, ?_⟩; have n0_ := Aside0.mk (below_step (by repeat (first | (with_reducible first | exact HB.out | apply below_alloc | apply pw_below_drewN | apply below_drew1) | exact HB.out)) hb); clear HB; have HB := n0_; clear n0_; (try clear hb); (try clear hb2); (try clear hk); (try clear hi)))
    go_loopg [22] k (fun kq v22 w' => ∃ (x22_1 : Int), v22 = .int .i64 x22_1 ∧ Aside0 (impl_PipesFor.l0 kq l0 l1 l2 l1 (l1.length : Int) x22_1 = some r) ∧ Aside0 (kq ≤ k) ∧ Aside0 (Below w.heap.size w w'))
    case atStart => exact ⟨(0), (by first | rfl | (simp; done) | (simp [*]; done)), H', ⟨Nat.le_refl _⟩, ⟨by repeat (first | (with_reducible first | exact HB.out | apply below_alloc | apply pw_below_drewN | apply below_drew1) | exact HB.out)⟩⟩
    case round =>
      clear H'
      try clear c1
      try clear c2
      try clear p2
      try clear c5
      obtain ⟨x22_1, rfl, HA, HK1, HB⟩ := hrel
      cases gk with
      | zero => exact absurd HA.out (by simp [impl_PipesFor.l0])
      | succ k1 =>
        have H := HA.out
        clear HA
        simp only [impl_PipesFor.l0] at H
        by_cases c7 : x22_1 < (l1.length : Int)
        · rw [if_pos c7] at H
          have c7b0 : decide (x22_1 < (l1.length : Int)) = true := decide_eq_true c7
          clear c7
          by_cases c8 : 0 ≤ x22_1
          · rw [if_pos c8] at H
            have c8b0 : decide (0 ≤ x22_1) = true := decide_eq_true c8
            clear c8
            by_cases c9 : x22_1 < (l1.length : Int)
            · rw [if_pos c9] at H
              have c9b0 : decide (x22_1 < (l1.length : Int)) = true := decide_eq_true c9
              clear c9
              replace H := Option.bind_eq_some_iff.mp H
              obtain ⟨t191, A100, H⟩ := H
              replace H : (if t191 = true then (impl_PipesFor.l0 k1 l0 l1 l2 l1 (l1.length : Int) (wrap64 (x22_1 + 1))) else (some ([] : List (S31)))) = some r := H
              have A10 := Aside0.mk A100
              clear A100
              by_cases c11 : t191 = true
              · subst c11
                have H1 : (impl_PipesFor.l0 k1 l0 l1 l2 l1 (l1.length : Int) (wrap64 (x22_1 + 1))) = some r := by rw [if_pos rfl] at H; exact H
                clear H
                have H := H1
                clear H1
                have H' := Aside0.mk H
                clear H
                have p190 : 0 ≤ (x22_1 : Int) := of_decide_eq_true (by first | (with_reducible assumption) | assumption)
                have q190 : x22_1 < (l1.length : Int) := of_decide_eq_true (by first | (with_reducible assumption) | assumption)
                obtain ⟨ad190, e190, hx190_0⟩ := Kd.at_int HR1.out x22_1 p190 q190
                cases e190
                replace hx190_0 := (HB.out.cell (World.block_lt_of_cell? w _ hx190_0)).trans hx190_0
                replace p190 := eq_true p190
                replace q190 := eq_true q190
                go_wp2_with (first | ((with_reducible refine gate_callee (f := 32) rfl ?_); refine goesL_ (some 30) rfl rfl Try.func32 (by kernel_rfl) rfl #[.int .i64 (rd l1 x22_1), .int .i64 0, .int .i64 (wrap64 ((l0.length : Int) - 1))] rfl (by (try simp only [List.map_toArray, List.map_cons, List.map_nil]); first | done | rfl | (simp only [List.length_drop, List.length_take]; rfl)) ?_; (with_reducible refine (impl_within.calls (rd l1 x22_1) 0 (wrap64 ((l0.length : Int) - 1)) true _ A10.out).mono ?_); rintro e w' ⟨rfl, ⟨nd, rfl⟩⟩; refine ⟨_, rfl, ?_⟩))
                go_roundg k1
                case measure => have := HK1.out; omega
                case rel => exact ⟨(wrap64 (x22_1 + 1)), (by first | rfl | (simp; done) | (simp [*]; done)), H', ⟨by have := HK1.out; omega⟩, ⟨by repeat (first | (with_reducible first | exact HB.out | apply below_alloc | apply pw_below_drewN | apply below_drew1) | exact HB.out)⟩⟩
              · replace c11 := Bool.eq_false_iff.mpr c11
                subst c11
                have H1 : (some ([] : List (S31))) = some r := by rw [if_neg (show ¬ (false = true) by decide)] at H; exact H
                clear H
                have H := H1
                clear H1
                obtain rfl := Option.some.inj H
                have p190 : 0 ≤ (x22_1 : Int) := of_decide_eq_true (by first | (with_reducible assumption) | assumption)
                have q190 : x22_1 < (l1.length : Int) := of_decide_eq_true (by first | (with_reducible assumption) | assumption)
                obtain ⟨ad190, e190, hx190_0⟩ := Kd.at_int HR1.out x22_1 p190 q190
                cases e190
                replace hx190_0 := (HB.out.cell (World.block_lt_of_cell? w _ hx190_0)).trans hx190_0
                replace p190 := eq_true p190
                replace q190 := eq_true q190
                go_wp2_with (first | ((with_reducible refine gate_callee (f := 32) rfl ?_); refine goesL_ (some 30) rfl rfl Try.func32 (by kernel_rfl) rfl #[.int .i64 (rd l1 x22_1), .int .i64 0, .int .i64 (wrap64 ((l0.length : Int) - 1))] rfl (by (try simp only [List.map_toArray, List.map_cons, List.map_nil]); first | done | rfl | (simp only [List.length_drop, List.length_take]; rfl)) ?_; (with_reducible refine (impl_within.calls (rd l1 x22_1) 0 (wrap64 ((l0.length : Int) - 1)) false _ A10.out).mono ?_); rintro e w' ⟨rfl, ⟨nd, rfl⟩⟩; refine ⟨_, rfl, ?_⟩))
                go_ret
                exact ⟨_, by first | rfl | (simp [errW_none, errW_some] <;> rfl) | (simp [*, errW_none, errW_some] <;> rfl), by first | exact Kd.R_nil _ _ _ _ _ | exact Kd.N_nil _ _ _ _ _ | exact Kd.V_nil _ _ _ _ _ | exact Kd.Q_nil _ _ _ _ _ | exact Kd.S_nil _ _ _ _ _, by repeat (first | (with_reducible first | exact HB.out | apply below_alloc | apply pw_below_drewN | apply below_drew1) | exact HB.out)⟩
            · rw [if_neg c9] at H
              exact absurd H (by simp)
          · rw [if_neg c8] at H
            exact absurd H (by simp)
        · rw [if_neg c7] at H
          have c7b0 : decide (x22_1 < (l1.length : Int)) = false := decide_eq_false c7
          clear c7
          have H' := Aside0.mk H
          clear H
          go_wp2
          go_loopg [35] k1 (fun kq v35 w' => ∃ (x35_2 : Int), v35 = .int .i64 x35_2 ∧ Aside0 (impl_PipesFor.l1 kq l0 l1 l2 l2 (l2.length : Int) x35_2 = some r) ∧ Aside0 (kq ≤ k1) ∧ Aside0 (Below w.heap.size w w'))
          case atStart => exact ⟨(0), (by first | rfl | (simp; done) | (simp [*]; done)), H', ⟨Nat.le_refl _⟩, ⟨by repeat (first | (with_reducible first | exact HB.out | apply below_alloc | apply pw_below_drewN | apply below_drew1) | exact HB.out)⟩⟩
          case round =>
            clear H'
            try clear c1
            try clear p1
            try clear q1
            try clear hx1
            try clear c2
            try clear p2
            try clear c3
            try clear c5
            try clear p6
            try clear c7
            try clear c7b0
            try clear c8
            try clear c8b0
            try clear c9
            try clear c9b0
            try clear c11
            try clear hx190_0
            try clear p190
            try clear p2
            try clear q190
            obtain ⟨x35_2, rfl, HA, HK2, HB⟩ := hrel
            cases gk with
            | zero => exact absurd HA.out (by simp [impl_PipesFor.l1])
            | succ k2 =>
              have H := HA.out
              clear HA
              simp only [impl_PipesFor.l1] at H
              by_cases c12 : x35_2 < (l2.length : Int)
              · rw [if_pos c12] at H
                have c12b0 : decide (x35_2 < (l2.length : Int)) = true := decide_eq_true c12
                clear c12
                by_cases c13 : 0 ≤ x35_2
                · rw [if_pos c13] at H
                  have c13b0 : decide (0 ≤ x35_2) = true := decide_eq_true c13
                  clear c13
                  by_cases c14 : x35_2 < (l2.length : Int)
                  · rw [if_pos c14] at H
                    have c14b0 : decide (x35_2 < (l2.length : Int)) = true := decide_eq_true c14
                    clear c14
                    replace H := Option.bind_eq_some_iff.mp H
                    obtain ⟨t193, A150, H⟩ := H
                    replace H : (if t193 = true then (impl_PipesFor.l1 k2 l0 l1 l2 l2 (l2.length : Int) (wrap64 (x35_2 + 1))) else (some ([] : List (S31)))) = some r := H
                    have A15 := Aside0.mk A150
                    clear A150
                    by_cases c16 : t193 = true
                    · subst c16
                      have H1 : (impl_PipesFor.l1 k2 l0 l1 l2 l2 (l2.length : Int) (wrap64 (x35_2 + 1))) = some r := by rw [if_pos rfl] at H; exact H
                      clear H
                      have H := H1
                      clear H1
                      have H' := Aside0.mk H
                      clear H
                      have p192 : 0 ≤ (x35_2 : Int) := of_decide_eq_true (by first | (with_reducible assumption) | assumption)
                      have q192 : x35_2 < (l2.length : Int) := of_decide_eq_true (by first | (with_reducible assumption) | assumption)
                      obtain ⟨ad192, e192, hx192_0⟩ := Kd.at_int HR2.out x35_2 p192 q192
                      cases e192
                      replace hx192_0 := (HB.out.cell (World.block_lt_of_cell? w _ hx192_0)).trans hx192_0
                      replace p192 := eq_true p192
                      replace q192 := eq_true q192
                      go_wp2_with (first | ((with_reducible refine gate_callee (f := 32) rfl ?_); refine goesL_ (some 40) rfl rfl Try.func32 (by kernel_rfl) rfl #[.int .i64 (rd l2 x35_2), .int .i64 0, .int .i64 24] rfl (by (try simp only [List.map_toArray, List.map_cons, List.map_nil]); first | done | rfl | (simp only [List.length_drop, List.length_take]; rfl)) ?_; (with_reducible refine (impl_within.calls (rd l2 x35_2) 0 24 true _ A15.out).mono ?_); rintro e w' ⟨rfl, ⟨nd, rfl⟩⟩; refine ⟨_, rfl, ?_⟩))
                      go_roundg k2
                      case measure => have := HK1.out; have := HK2.out; omega
                      case rel => exact ⟨(wrap64 (x35_2 + 1)), (by first | rfl | (simp; done) | (simp [*]; done)), H', ⟨by have := HK1.out; have := HK2.out; omega⟩, ⟨by repeat (first | (with_reducible first | exact HB.out | apply below_alloc | apply pw_below_drewN | apply below_drew1) | exact HB.out)⟩⟩
                    · replace c16 := Bool.eq_false_iff.mpr c16
                      subst c16
                      have H1 : (some ([] : List (S31))) = some r := by rw [if_neg (show ¬ (false = true) by decide)] at H; exact H
                      clear H
                      have H := H1
                      clear H1
                      obtain rfl := Option.some.inj H
                      have p192 : 0 ≤ (x35_2 : Int) := of_decide_eq_true (by first | (with_reducible assumption) | assumption)
                      have q192 : x35_2 < (l2.length : Int) := of_decide_eq_true (by first | (with_reducible assumption) | assumption)
                      obtain ⟨ad192, e192, hx192_0⟩ := Kd.at_int HR2.out x35_2 p192 q192
                      cases e192
                      replace hx192_0 := (HB.out.cell (World.block_lt_of_cell? w _ hx192_0)).trans hx192_0
                      replace p192 := eq_true p192
                      replace q192 := eq_true q192
                      go_wp2_with (first | ((with_reducible refine gate_callee (f := 32) rfl ?_); refine goesL_ (some 40) rfl rfl Try.func32 (by kernel_rfl) rfl #[.int .i64 (rd l2 x35_2), .int .i64 0, .int .i64 24] rfl (by (try simp only [List.map_toArray, List.map_cons, List.map_nil]); first | done | rfl | (simp only [List.length_drop, List.length_take]; rfl)) ?_; (with_reducible refine (impl_within.calls (rd l2 x35_2) 0 24 false _ A15.out).mono ?_); rintro e w' ⟨rfl, ⟨nd, rfl⟩⟩; refine ⟨_, rfl, ?_⟩))
                      go_ret
                      exact ⟨_, by first | rfl | (simp [errW_none, errW_some] <;> rfl) | (simp [*, errW_none, errW_some] <;> rfl), by first | exact Kd.R_nil _ _ _ _ _ | exact Kd.N_nil _ _ _ _ _ | exact Kd.V_nil _ _ _ _ _ | exact Kd.Q_nil _ _ _ _ _ | exact Kd.S_nil _ _ _ _ _, by repeat (first | (with_reducible first | exact HB.out | apply below_alloc | apply pw_below_drewN | apply below_drew1) | exact HB.out)⟩
                  · rw [if_neg c14] at H
                    exact absurd H (by simp)
                · rw [if_neg c13] at H
                  exact absurd H (by simp)
              · rw [if_neg c12] at H
                have c12b0 : decide (x35_2 < (l2.length : Int)) = false := decide_eq_false c12
                clear c12
                obtain ⟨y194, hy194⟩ : ∃ y_ : List (S31), y_ = (([] : List (S31))) := ⟨_, rfl⟩
                replace H : (impl_PipesFor.l2 k2 l0 l2 y194 l1 (l1.length : Int) 0) = some r := by first | (rw [hy194]; with_reducible exact H) | (have H2_ := (Option.bind_some _ _).symm.trans H; rw [hy194]; with_reducible exact H2_) | (have H2_ := (Option.bind_some _ _).symm.trans H; with_reducible exact H2_) | with_reducible exact H | (rw [hy194]; exact H) | exact H
                have Ny194 := Aside0.mk hy194
                clear hy194
                have H' := Aside0.mk H
                clear H
                go_wp2_with (first | ((with_reducible refine gate_dst (N := 43) rfl ?_); refine Kd.R_lit k31 _ 31 ?hg (N := 43) ?hd (xs := ([] : List (S31))) (inner := []) (ok := fun _ => True) (okp := fun _ => True) ?hr ?hp (fun _ hk => hk) trivial (Below.refl _ _) (Nat.le_refl _) (by simp) ?_; (case hd => rfl); (case hg => rfl); (case hr => first | (go_simp; done) | (go_simp; rfl)); (case hp => exact (Reps.none _ _)); intro v195 w17 ho18 hb hg_ hnew_; clear hg_ hnew_; (first | rw [← Ny194.out] at ho18 | (simp only [Int.reduceToNat] at ho18; rw [← Ny194.out] at ho18)); have n0_ := Aside0.mk (Kd.R_lower ho18 (below_size (by repeat (first | (with_reducible first | exact HB.out | apply below_alloc | apply pw_below_drewN | apply below_drew1) | exact HB.out)))); have n1_ := Aside0.mk (below_step (by repeat (first | (with_reducible first | exact HB.out | apply below_alloc | apply pw_below_drewN | apply below_drew1) | exact HB.out)) hb); clear HB; have HO196 := n0_; have HB := n1_; clear n0_ n1_; clear hb ho18))
                go_loopg [11, 46] k2 (fun kq v11 v46 w' => ∃ (x11_3 : List (S31)) (x46_3 : Int), v46 = .int .i64 x46_3 ∧ Aside0 (impl_PipesFor.l2 kq l0 l2 x11_3 l1 (l1.length : Int) x46_3 = some r) ∧ Aside0 (kq ≤ k2) ∧ Aside0 (Kd.R k31 31 w' w.heap.size (fun _ => True) v11 x11_3) ∧ Aside0 (Below w.heap.size w w'))
                case atStart => exact ⟨(y194), (0), (by first | rfl | (simp; done) | (simp [*]; done)), H', ⟨Nat.le_refl _⟩, ⟨by (with_reducible repeat (first | apply Kd.R_alloc | apply Kd.R_drewN | apply Kd.R_drew)); exact HO196.out⟩, ⟨by repeat (first | (with_reducible first | exact HB.out | apply below_alloc | apply pw_below_drewN | apply below_drew1) | exact HB.out)⟩⟩
                case round =>
                  clear H'
                  try clear c1
                  try clear p1
                  try clear q1
                  try clear hx1
                  try clear c2
                  try clear p2
                  try clear c3
                  try clear c5
                  try clear p6
                  try clear c7
                  try clear c7b0
                  try clear c8
                  try clear c8b0
                  try clear c9
                  try clear c9b0
                  try clear c11
                  try clear c12
                  try clear c12b0
                  try clear c13
                  try clear c13b0
                  try clear c14
                  try clear c14b0
                  try clear c16
                  try clear hx190_0
                  try clear hx192_0
                  try clear p1
                  try clear p190
                  try clear p192
                  try clear p2
                  try clear p6
                  try clear q1
                  try clear q190
                  try clear q192
                  obtain ⟨x11_3, x46_3, rfl, HA, HK3, HO_11, HB⟩ := hrel
                  cases gk with
                  | zero => exact absurd HA.out (by simp [impl_PipesFor.l2])
                  | succ k3 =>
                    have H := HA.out
                    clear HA
                    simp only [impl_PipesFor.l2] at H
                    by_cases c19 : x46_3 < (l1.length : Int)
                    · rw [if_pos c19] at H
                      have c19b0 : decide (x46_3 < (l1.length : Int)) = true := decide_eq_true c19
                      clear c19
                      by_cases c20 : 0 ≤ x46_3
                      · rw [if_pos c20] at H
                        have c20b0 : decide (0 ≤ x46_3) = true := decide_eq_true c20
                        clear c20
                        by_cases c21 : x46_3 < (l1.length : Int)
                        · rw [if_pos c21] at H
                          have c21b0 : decide (x46_3 < (l1.length : Int)) = true := decide_eq_true c21
                          clear c21
                          have H' := Aside0.mk H
                          clear H
                          have p200 : 0 ≤ (x46_3 : Int) := of_decide_eq_true (by first | (with_reducible assumption) | assumption)
                          have q200 : x46_3 < (l1.length : Int) := of_decide_eq_true (by first | (with_reducible assumption) | assumption)
                          obtain ⟨ad200, e200, hx200_0⟩ := Kd.at_int HR1.out x46_3 p200 q200
                          cases e200
                          replace hx200_0 := (HB.out.cell (World.block_lt_of_cell? w _ hx200_0)).trans hx200_0
                          replace p200 := eq_true p200
                          replace q200 := eq_true q200
                          go_wp2
                          go_loopg [11, 52] k3 (fun kq v11 v52 w' => ∃ (x11_4 : List (S31)) (x52_4 : Int), v52 = .int .i64 x52_4 ∧ Aside0 (impl_PipesFor.l3 kq l0 l2 x11_4 (rd l1 x46_3) l1 (l1.length : Int) x46_3 l2 (l2.length : Int) x52_4 = some r) ∧ Aside0 (kq ≤ k3) ∧ Aside0 (Kd.R k31 31 w' w.heap.size (fun _ => True) v11 x11_4) ∧ Aside0 (Below w.heap.size w w'))
                          case atStart => exact ⟨(x11_3), (0), (by first | rfl | (simp; done) | (simp [*]; done)), H', ⟨Nat.le_refl _⟩, ⟨by (with_reducible repeat (first | apply Kd.R_alloc | apply Kd.R_drewN | apply Kd.R_drew)); exact HO_11.out⟩, ⟨by repeat (first | (with_reducible first | exact HB.out | apply below_alloc | apply pw_below_drewN | apply below_drew1) | exact HB.out)⟩⟩
                          case round =>
                            clear H'
                            try clear c1
                            try clear p1
                            try clear q1
                            try clear hx1
                            try clear c2
                            try clear p2
                            try clear q2
                            try clear hx2
                            try clear c3
                            try clear c5
                            try clear p6
                            try clear c7
                            try clear c7b0
                            try clear c8
                            try clear c8b0
                            try clear c9
                            try clear c9b0
                            try clear c11
                            try clear c12
                            try clear c12b0
                            try clear c13
                            try clear c13b0
                            try clear c14
                            try clear c14b0
                            try clear c16
                            try clear c19
                            try clear c19b0
                            try clear p19
                            try clear q19
                            try clear hx19
                            try clear c20
                            try clear c20b0
                            try clear p20
                            try clear q20
                            try clear hx20
                            try clear c21
                            try clear c21b0
                            try clear hx190_0
                            try clear hx192_0
                            try clear hx200_0
                            try clear p1
                            try clear p190
                            try clear p192
                            try clear p2
                            try clear p200
                            try clear p6
                            try clear q1
                            try clear q190
                            try clear q192
                            try clear q200
                            obtain ⟨x11_4, x52_4, rfl, HA, HK4, HO_11, HB⟩ := hrel
                            cases gk with
                            | zero => exact absurd HA.out (by simp [impl_PipesFor.l3])
                            | succ k4 =>
                              have H := HA.out
                              clear HA
                              simp only [impl_PipesFor.l3] at H
                              by_cases c22 : x52_4 < (l2.length : Int)
                              · rw [if_pos c22] at H
                                have c22b0 : decide (x52_4 < (l2.length : Int)) = true := decide_eq_true c22
                                clear c22
                                by_cases c23 : 0 ≤ x52_4
                                · rw [if_pos c23] at H
                                  have c23b0 : decide (0 ≤ x52_4) = true := decide_eq_true c23
                                  clear c23
                                  by_cases c24 : x52_4 < (l2.length : Int)
                                  · rw [if_pos c24] at H
                                    have c24b0 : decide (x52_4 < (l2.length : Int)) = true := decide_eq_true c24
                                    clear c24
                                    by_cases c25 : 0 ≤ (rd l1 x46_3)
                                    · rw [if_pos c25] at H
                                      have c25b0 : decide (0 ≤ (rd l1 x46_3)) = true := decide_eq_true c25
                                      clear c25
                                      by_cases c26 : (rd l1 x46_3) < (l0.length : Int)
                                      · rw [if_pos c26] at H
                                        have c26b0 : decide ((rd l1 x46_3) < (l0.length : Int)) = true := decide_eq_true c26
                                        clear c26
                                        replace H := Option.bind_eq_some_iff.mp H
                                        obtain ⟨t203, A270, H⟩ := H
                                        replace H : (if t203 = true then (if x11_4.length < 8796093022208 then (impl_PipesFor.l3 k4 l0 l2 (x11_4 ++ [(⟨(rd_T54 l0 (rd l1 x46_3)).f0, wrap64 ((rd l2 x52_4) + ((rd_T54 l0 (rd l1 x46_3)).f1))⟩ : S31)]) (rd l1 x46_3) l1 (l1.length : Int) x46_3 l2 (l2.length : Int) (wrap64 (x52_4 + 1))) else (none)) else (impl_PipesFor.l3 k4 l0 l2 x11_4 (rd l1 x46_3) l1 (l1.length : Int) x46_3 l2 (l2.length : Int) (wrap64 (x52_4 + 1)))) = some r := H
                                        have A27 := Aside0.mk A270
                                        clear A270
                                        by_cases c28 : t203 = true
                                        · subst c28
                                          have H1 : (if x11_4.length < 8796093022208 then (impl_PipesFor.l3 k4 l0 l2 (x11_4 ++ [(⟨(rd_T54 l0 (rd l1 x46_3)).f0, wrap64 ((rd l2 x52_4) + ((rd_T54 l0 (rd l1 x46_3)).f1))⟩ : S31)]) (rd l1 x46_3) l1 (l1.length : Int) x46_3 l2 (l2.length : Int) (wrap64 (x52_4 + 1))) else (none)) = some r := by rw [if_pos rfl] at H; exact H
                                          clear H
                                          have H := H1
                                          clear H1
                                          by_cases c29 : x11_4.length < 8796093022208
                                          · rw [if_pos c29] at H
                                            have LMc29 := Aside0.mk c29
                                            clear c29
                                            obtain ⟨y205, hy205⟩ : ∃ y_ : List (S31), y_ = (x11_4 ++ [(⟨(rd_T54 l0 (rd l1 x46_3)).f0, wrap64 ((rd l2 x52_4) + ((rd_T54 l0 (rd l1 x46_3)).f1))⟩ : S31)]) := ⟨_, rfl⟩
                                            replace H : (impl_PipesFor.l3 k4 l0 l2 y205 (rd l1 x46_3) l1 (l1.length : Int) x46_3 l2 (l2.length : Int) (wrap64 (x52_4 + 1))) = some r := by first | (rw [hy205]; with_reducible exact H) | (have H2_ := (Option.bind_some _ _).symm.trans H; rw [hy205]; with_reducible exact H2_) | (have H2_ := (Option.bind_some _ _).symm.trans H; with_reducible exact H2_) | with_reducible exact H | (rw [hy205]; exact H) | exact H
                                            have Ny205 := Aside0.mk hy205
                                            clear hy205
                                            have H' := Aside0.mk H
                                            clear H
                                            have p201 : 0 ≤ (x52_4 : Int) := of_decide_eq_true (by first | (with_reducible assumption) | assumption)
                                            have q201 : x52_4 < (l2.length : Int) := of_decide_eq_true (by first | (with_reducible assumption) | assumption)
                                            obtain ⟨ad201, e201, hx201_0⟩ := Kd.at_int HR2.out x52_4 p201 q201
                                            cases e201
                                            replace hx201_0 := (HB.out.cell (World.block_lt_of_cell? w _ hx201_0)).trans hx201_0
                                            replace p201 := eq_true p201
                                            replace q201 := eq_true q201
                                            have p202 : 0 ≤ ((rd l1 x46_3) : Int) := of_decide_eq_true (by first | (with_reducible assumption) | assumption)
                                            have q202 : (rd l1 x46_3) < (l0.length : Int) := of_decide_eq_true (by first | (with_reducible assumption) | assumption)
                                            obtain ⟨ad202, e202, hx202_0, hx202_1⟩ := at_T54 HR0.out (rd l1 x46_3) p202 q202
                                            cases e202
                                            replace hx202_0 := (HB.out.cell (World.block_lt_of_cell? w _ hx202_0)).trans hx202_0
                                            replace hx202_1 := (HB.out.cell (World.block_lt_of_cell? w _ hx202_1)).trans hx202_1
                                            replace p202 := eq_true p202
                                            replace q202 := eq_true q202
                                            go_wp2_with (first | ((with_reducible refine gate_callee (f := 32) rfl ?_); refine goesL_ (some 64) rfl rfl Try.func32 (by kernel_rfl) rfl #[.int .i64 (wrap64 ((rd l2 x52_4) + ((rd_T54 l0 (rd l1 x46_3)).f1))), .int .i64 0, .int .i64 39] rfl (by (try simp only [List.map_toArray, List.map_cons, List.map_nil]); first | done | rfl | (simp only [List.length_drop, List.length_take]; rfl)) ?_; (with_reducible refine (impl_within.calls (wrap64 ((rd l2 x52_4) + ((rd_T54 l0 (rd l1 x46_3)).f1))) 0 39 true _ A27.out).mono ?_); rintro e w' ⟨rfl, ⟨nd, rfl⟩⟩; refine ⟨_, rfl, ?_⟩; have p204 : 0 ≤ ((rd l1 x46_3) : Int) := of_decide_eq_true (by first | (with_reducible assumption) | assumption); have q204 : (rd l1 x46_3) < (l0.length : Int) := of_decide_eq_true (by first | (with_reducible assumption) | assumption); obtain ⟨ad204, e204, hx204_0, hx204_1⟩ := at_T54 HR0.out (rd l1 x46_3) p204 q204; obtain rfl : ad202 = ad204 := (by injection e204); replace hx204_0 := (HB.out.cell (World.block_lt_of_cell? w _ hx204_0)).trans hx204_0; replace hx204_1 := (HB.out.cell (World.block_lt_of_cell? w _ hx204_1)).trans hx204_1; replace p204 := eq_true p204; replace q204 := eq_true q204) | ((with_reducible refine gate_builtin (b := .append) (xs := #[.tmp 65, .tmp 73]) rfl ?_); at_builtin; refine Kd.R_append k31 (w0 := w) w.heap.size rfl (.tmp 65) (.tmp 73) 28 31 (.agg #[(.int .i64 0), (.int .i64 0)]) 16 rfl Try.underlying28 info31 rfl (by decide) (by omega) u11 x11_4 (⟨(rd_T54 l0 (rd l1 x46_3)).f0, wrap64 ((rd l2 x52_4) + ((rd_T54 l0 (rd l1 x46_3)).f1))⟩ : S31) [.int .i64 ((rd_T54 l0 (rd l1 x46_3)).f0), .int .i64 (wrap64 ((rd l2 x52_4) + ((rd_T54 l0 (rd l1 x46_3)).f1)))] (fun _ => True) (fun _ => False) rfl rfl ?aP (fun _ hk => hk.elim) ?aF ?aO ?aB ?aS ?aL ?_; (case aP => exact k31_mkM _ _ _ (⟨(rd_T54 l0 (rd l1 x46_3)).f0, wrap64 ((rd l2 x52_4) + ((rd_T54 l0 (rd l1 x46_3)).f1))⟩ : S31)); (case aB => exact (by repeat (first | (with_reducible first | exact HB.out | apply below_alloc | apply pw_below_drewN | apply below_drew1) | exact HB.out))); (case aF => exact (fun _ _ => trivial)); (case aO => exact (by (with_reducible repeat (first | apply Kd.R_alloc | apply Kd.R_drewN | apply Kd.R_drew)); exact HO_11.out)); (case aS => exact (below_size (by repeat (first | (with_reducible first | exact HB.out | apply below_alloc | apply pw_below_drewN | apply below_drew1) | exact HB.out)))); (case aL => have := LMc29.out; omega); intro v206 w30 ho hb hg hat; rw [← Ny205.out] at ho; have n0_ := Aside0.mk (hb); have n1_ := Aside0.mk (ho); clear HB; clear HO_11; have HB := n0_; have HO207 := n1_; clear n0_ n1_; clear ho hb hg hat))
                                            go_roundg k4
                                            case measure => have := HK1.out; have := HK2.out; have := HK3.out; have := HK4.out; omega
                                            case rel => exact ⟨(y205), (wrap64 (x52_4 + 1)), (by first | rfl | (simp; done) | (simp [*]; done)), H', ⟨by have := HK1.out; have := HK2.out; have := HK3.out; have := HK4.out; omega⟩, ⟨by (with_reducible repeat (first | apply Kd.R_alloc | apply Kd.R_drewN | apply Kd.R_drew)); exact HO207.out⟩, ⟨by repeat (first | (with_reducible first | exact HB.out | apply below_alloc | apply pw_below_drewN | apply below_drew1) | exact HB.out)⟩⟩
                                          · rw [if_neg c29] at H
                                            exact absurd H (by simp)
                                        · replace c28 := Bool.eq_false_iff.mpr c28
                                          subst c28
                                          have H1 : (impl_PipesFor.l3 k4 l0 l2 x11_4 (rd l1 x46_3) l1 (l1.length : Int) x46_3 l2 (l2.length : Int) (wrap64 (x52_4 + 1))) = some r := by rw [if_neg (show ¬ (false = true) by decide)] at H; exact H
                                          clear H
                                          have H := H1
                                          clear H1
                                          have H' := Aside0.mk H
                                          clear H
                                          have p201 : 0 ≤ (x52_4 : Int) := of_decide_eq_true (by first | (with_reducible assumption) | assumption)
                                          have q201 : x52_4 < (l2.length : Int) := of_decide_eq_true (by first | (with_reducible assumption) | assumption)
                                          obtain ⟨ad201, e201, hx201_0⟩ := Kd.at_int HR2.out x52_4 p201 q201
                                          cases e201
                                          replace hx201_0 := (HB.out.cell (World.block_lt_of_cell? w _ hx201_0)).trans hx201_0
                                          replace p201 := eq_true p201
                                          replace q201 := eq_true q201
                                          have p202 : 0 ≤ ((rd l1 x46_3) : Int) := of_decide_eq_true (by first | (with_reducible assumption) | assumption)
                                          have q202 : (rd l1 x46_3) < (l0.length : Int) := of_decide_eq_true (by first | (with_reducible assumption) | assumption)
                                          obtain ⟨ad202, e202, hx202_0, hx202_1⟩ := at_T54 HR0.out (rd l1 x46_3) p202 q202
                                          cases e202
                                          replace hx202_0 := (HB.out.cell (World.block_lt_of_cell? w _ hx202_0)).trans hx202_0
                                          replace hx202_1 := (HB.out.cell (World.block_lt_of_cell? w _ hx202_1)).trans hx202_1
                                          replace p202 := eq_true p202
                                          replace q202 := eq_true q202
                                          go_wp2_with (first | ((with_reducible refine gate_callee (f := 32) rfl ?_); refine goesL_ (some 64) rfl rfl Try.func32 (by kernel_rfl) rfl #[.int .i64 (wrap64 ((rd l2 x52_4) + ((rd_T54 l0 (rd l1 x46_3)).f1))), .int .i64 0, .int .i64 39] rfl (by (try simp only [List.map_toArray, List.map_cons, List.map_nil]); first | done | rfl | (simp only [List.length_drop, List.length_take]; rfl)) ?_; (with_reducible refine (impl_within.calls (wrap64 ((rd l2 x52_4) + ((rd_T54 l0 (rd l1 x46_3)).f1))) 0 39 false _ A27.out).mono ?_); rintro e w' ⟨rfl, ⟨nd, rfl⟩⟩; refine ⟨_, rfl, ?_⟩))
                                          go_roundg k4
                                          case measure => have := HK1.out; have := HK2.out; have := HK3.out; have := HK4.out; omega
                                          case rel => exact ⟨(x11_4), (wrap64 (x52_4 + 1)), (by first | rfl | (simp; done) | (simp [*]; done)), H', ⟨by have := HK1.out; have := HK2.out; have := HK3.out; have := HK4.out; omega⟩, ⟨by (with_reducible repeat (first | apply Kd.R_alloc | apply Kd.R_drewN | apply Kd.R_drew)); exact HO_11.out⟩, ⟨by repeat (first | (with_reducible first | exact HB.out | apply below_alloc | apply pw_below_drewN | apply below_drew1) | exact HB.out)⟩⟩
                                      · rw [if_neg c26] at H
                                        exact absurd H (by simp)
                                    · rw [if_neg c25] at H
                                      exact absurd H (by simp)
                                  · rw [if_neg c24] at H
                                    exact absurd H (by simp)
                                · rw [if_neg c23] at H
                                  exact absurd H (by simp)
                              · rw [if_neg c22] at H
                                have c22b0 : decide (x52_4 < (l2.length : Int)) = false := decide_eq_false c22
                                clear c22
                                have H' := Aside0.mk H
                                clear H
                                go_wp2
                                go_roundg k4
                                case measure => have := HK1.out; have := HK2.out; have := HK3.out; have := HK4.out; omega
                                case rel => exact ⟨(x11_4), (wrap64 (x46_3 + 1)), (by first | rfl | (simp; done) | (simp [*]; done)), H', ⟨by have := HK1.out; have := HK2.out; have := HK3.out; have := HK4.out; omega⟩, ⟨by (with_reducible repeat (first | apply Kd.R_alloc | apply Kd.R_drewN | apply Kd.R_drew)); exact HO_11.out⟩, ⟨by repeat (first | (with_reducible first | exact HB.out | apply below_alloc | apply pw_below_drewN | apply below_drew1) | exact HB.out)⟩⟩
                        · rw [if_neg c21] at H
                          exact absurd H (by simp)
                      · rw [if_neg c20] at H
                        exact absurd H (by simp)
                    · rw [if_neg c19] at H
                      have c19b0 : decide (x46_3 < (l1.length : Int)) = false := decide_eq_false c19
                      clear c19
                      replace H := Option.bind_eq_some_iff.mp H
                      obtain ⟨t197, A310, H⟩ := H
                      replace H : (some t197) = some r := H
                      have A31 := Aside0.mk A310
                      clear A310
                      obtain rfl := Option.some.inj H
                      obtain ⟨Ao32, co32, eo32⟩ := Kd.R_slice HO_11.out
                      subst eo32
                      go_wp2_with (first | ((with_reducible refine gate_callee (f := 33) rfl ?_); refine goesL_ (some 78) rfl rfl Try.func33 (by kernel_rfl) rfl #[.slice Ao32 x11_3.length co32] rfl (by (try simp only [List.map_toArray, List.map_cons, List.map_nil]); first | done | rfl | (simp only [List.length_drop, List.length_take]; rfl)) ?_; (with_reducible refine (impl_pipesOf.calls _ _ x11_3 t197 _ ?side1 ?side2 A31.out).mono ?_); (case side1 => repeat (first | exact (Kd.R_reads' HO_11.out).2.2 | (with_reducible refine Kd.C_alloc ?_ _) | (with_reducible refine Kd.C_drewN ?_ _) | (with_reducible refine Kd.C_drew ?_))); (case side2 => exact (Kd.R_reads' HO_11.out).2.1); rintro e w33 ⟨v198, rfl, ho0, hb⟩; refine ⟨_, rfl, ?_⟩; have n0_ := Aside0.mk (Kd.R_elder' (by (with_reducible repeat (first | apply Kd.R_alloc | apply Kd.R_drewN | apply Kd.R_drew)); exact HO_11.out) (Kd.R_base ho0) hb); have n1_ := Aside0.mk (Kd.R_lower (Kd.R_new' ho0 (Kd.R_lt (by (with_reducible repeat (first | apply Kd.R_alloc | apply Kd.R_drewN | apply Kd.R_drew)); exact HO_11.out))) (below_size (by repeat (first | (with_reducible first | exact HB.out | apply below_alloc | apply pw_below_drewN | apply below_drew1) | exact HB.out)))); have n2_ := Aside0.mk (below_step (by repeat (first | (with_reducible first | exact HB.out | apply below_alloc | apply pw_below_drewN | apply below_drew1) | exact HB.out)) hb); clear HO_11; clear HB; have HO_11 := n0_; have HO199 := n1_; have HB := n2_; clear n0_ n1_ n2_; (try clear hb); (try clear hb2); (try clear hk); (try clear hi); (try clear ho0)))
                      go_ret
                      exact ⟨_, by first | rfl | (simp [errW_none, errW_some] <;> rfl) | (simp [*, errW_none, errW_some] <;> rfl), by (with_reducible repeat (first | apply Kd.R_alloc | apply Kd.R_drewN | apply Kd.R_drew)); exact Kd.R_mono HO199.out (fun _ hk => trivial), by repeat (first | (with_reducible first | exact HB.out | apply below_alloc | apply pw_below_drewN | apply below_drew1) | exact HB.out)⟩
  · replace c5 := Bool.eq_false_iff.mpr c5
    subst c5
    have H1 : (some ([] : List (S31))) = some r := by rw [if_neg (show ¬ (false = true) by decide)] at H; exact H
    clear H
    have H := H1
    clear H1
    obtain rfl := Option.some.inj H
    go_enter Try.func9, Try.ntmps9
    go_wp2_with (first | ((with_reducible refine gate_callee (f := 13) rfl ?_); refine goesL_ (some 18) rfl rfl Try.func13 (by kernel_rfl) rfl #[.slice A0 l0.length c0] rfl (by (try simp only [List.map_toArray, List.map_cons, List.map_nil]); first | done | rfl | (simp only [List.length_drop, List.length_take]; rfl)) ?_; (with_reducible refine (impl_StopsOk.calls k _ _ l0 false _ ?side1 ?side2 A4.out).mono ?_); (case side1 => repeat (first | exact HR0.out | (with_reducible refine Kd.C_alloc ?_ _) | (with_reducible refine Kd.C_drewN ?_ _) | (with_reducible refine Kd.C_drew ?_))); (case side2 => exact HC0.out); rintro e w34 ⟨rfl, hb⟩; refine ⟨_, rfl, ?_⟩; have n0_ := Aside0.mk (below_step (by repeat (first | (with_reducible first | exact HB.out | apply below_alloc | apply pw_below_drewN | apply below_drew1) | exact HB.out)) hb); clear HB; have HB := n0_; clear n0_; (try clear hb); (try clear hb2); (try clear hk); (try clear hi)))
    go_ret
    exact ⟨_, by first | rfl | (simp [errW_none, errW_some] <;> rfl) | (simp [*, errW_none, errW_some] <;> rfl), by first | exact Kd.R_nil _ _ _ _ _ | exact Kd.N_nil _ _ _ _ _ | exact Kd.V_nil _ _ _ _ _ | exact Kd.Q_nil _ _ _ _ _ | exact Kd.S_nil _ _ _ _ _, by repeat (first | (with_reducible first | exact HB.out | apply below_alloc | apply pw_below_drewN | apply below_drew1) | exact HB.out)⟩

/-! ### impl_Coupled: function 10 -/
def impl_Coupled.hit (l0 : List Int) (a1 : Int) (n : Nat) : Bool := decide ((n : Int) ∈ l0 ∨ (n : Int) - a1 ∈ l0)
def impl_Coupled.f (l0 : List Int) (a1 : Int) : Option (List Int) :=
  if (∀ x ∈ l0, 0 ≤ x ∧ x ≤ 24) ∧ -24 ≤ a1 ∧ a1 ≤ 24 then some (((List.range 25).filter (impl_Coupled.hit l0 a1)).map Int.ofNat) else some []
def impl_Coupled.seen (l : List Int) (a1 : Int) : Array Value := ((List.range 25).map fun n => Value.bool (impl_Coupled.hit l a1 n)).toArray
theorem impl_Coupled.seen_nil (a1 : Int) : (.agg #[.bool false, .bool false, .bool false, .bool false, .bool false, .bool false, .bool false, .bool false, .bool false, .bool false, .bool false, .bool false, .bool false, .bool false, .bool false, .bool false, .bool false, .bool false, .bool false, .bool false, .bool false, .bool false, .bool false, .bool false, .bool false] : Value) = .agg (impl_Coupled.seen [] a1) := by
  simp [impl_Coupled.seen, impl_Coupled.hit, List.range, List.range.loop]
theorem impl_Coupled.seen_size (l : List Int) (a1 : Int) : (impl_Coupled.seen l a1).size = 25 := by simp [impl_Coupled.seen]
theorem impl_Coupled.seen_one (l : List Int) (a1 : Int) : (impl_Coupled.seen l a1).all (·.oneCell') = true := by
  rw [Array.all_eq_true_iff_forall_mem]
  intro x hx
  simp [impl_Coupled.seen] at hx
  obtain ⟨n, _, rfl⟩ := hx
  rfl
theorem impl_Coupled.seen_get (l : List Int) (a1 : Int) (i : Nat) (h : i < 25) : (impl_Coupled.seen l a1)[i]? = some (.bool (impl_Coupled.hit l a1 i)) := by
  simp [impl_Coupled.seen, h]
theorem impl_Coupled.hit_snoc (l : List Int) (a1 x : Int) (n : Nat) : impl_Coupled.hit (l ++ [x]) a1 n = (impl_Coupled.hit l a1 n || decide ((n : Int) = x ∨ (n : Int) = x + a1)) := by
  have e : (n : Int) - a1 = x ↔ (n : Int) = x + a1 := by omega
  simp only [impl_Coupled.hit, List.mem_append, List.mem_singleton, Bool.decide_or, e]
  cases decide ((n : Int) ∈ l) <;> cases decide ((n : Int) - a1 ∈ l) <;> cases decide ((n : Int) = x) <;> cases decide ((n : Int) = x + a1) <;> rfl
theorem impl_Coupled.seen_ext {A : Array Value} {l : List Int} {a1 : Int} (hs : A.size = 25) (h : ∀ i, i < 25 → A[i]? = some (.bool (impl_Coupled.hit l a1 i))) : A = impl_Coupled.seen l a1 := by
  apply Array.ext_getElem?
  intro i
  by_cases hi : i < 25
  · rw [h i hi, impl_Coupled.seen_get l a1 i hi]
  · rw [Array.getElem?_eq_none (by omega), Array.getElem?_eq_none (by rw [impl_Coupled.seen_size]; omega)]
theorem impl_Coupled.seen_in (l : List Int) (a1 x : Int) (h0 : 0 ≤ x) (h1 : x ≤ 24) (h2 : 0 ≤ x + a1) (h3 : x + a1 ≤ 24) : ((impl_Coupled.seen l a1).setIfInBounds x.toNat (.bool true)).setIfInBounds (x + a1).toNat (.bool true) = impl_Coupled.seen (l ++ [x]) a1 := by
  refine impl_Coupled.seen_ext (by simp [impl_Coupled.seen_size]) fun i hi => ?_
  rw [Array.getElem?_setIfInBounds, Array.getElem?_setIfInBounds, impl_Coupled.seen_get l a1 i hi, impl_Coupled.hit_snoc]
  simp only [Array.size_setIfInBounds, impl_Coupled.seen_size]
  by_cases e1 : (x + a1).toNat = i
  · rw [if_pos e1, if_pos (by omega)]
    have : (i : Int) = x + a1 := by omega
    simp [this]
  · rw [if_neg e1]
    by_cases e2 : x.toNat = i
    · rw [if_pos e2, if_pos (by omega)]
      have : (i : Int) = x := by omega
      simp [this]
    · rw [if_neg e2]
      have n1 : ¬ (i : Int) = x := by omega
      have n2 : ¬ (i : Int) = x + a1 := by omega
      simp [n1, n2]
theorem impl_Coupled.seen_out (l : List Int) (a1 x : Int) (h0 : 0 ≤ x) (h1 : x ≤ 24) (h2 : ¬ (0 ≤ x + a1 ∧ x + a1 ≤ 24)) : (impl_Coupled.seen l a1).setIfInBounds x.toNat (.bool true) = impl_Coupled.seen (l ++ [x]) a1 := by
  refine impl_Coupled.seen_ext (by simp [impl_Coupled.seen_size]) fun i hi => ?_
  rw [Array.getElem?_setIfInBounds, impl_Coupled.seen_get l a1 i hi, impl_Coupled.hit_snoc]
  simp only [impl_Coupled.seen_size]
  have n2 : ¬ (i : Int) = x + a1 := by omega
  by_cases e2 : x.toNat = i
  · rw [if_pos e2, if_pos (by omega)]
    have : (i : Int) = x := by omega
    simp [this]
  · rw [if_neg e2]
    have n1 : ¬ (i : Int) = x := by omega
    simp [n1, n2]
theorem impl_Coupled.run_index (l : List Int) (a1 : Int) (j : Nat) (h : j < 25) (w : World) : (Instr.index 56 (.agg (impl_Coupled.seen l a1)) (.int .i64 (j : Int))).run Try.prog w = .ok (.bool (impl_Coupled.hit l a1 j)) w := by
  have hg := impl_Coupled.seen_get l a1 j h
  have hu : Try.prog.underlying 56 = some (.array 25 4) := by kernel_rfl
  have h2 : (isAgg 4).run Try.prog w = .ok false w := by kernel_rfl
  have h3 : (sizeOf 4).run Try.prog w = .ok 1 w := by kernel_rfl
  have h1 : ((0 : Int) ≤ (j : Int) ∧ (j : Int) < 25) := by omega
  simp [Instr.index, asIntOf, Sem.run_bind, run_underlying hu, Result.andThen, h1, h3, part, h2, hg]
  intro h4
  omega
theorem impl_Coupled.below_row {w W : World} {g : Nat} (h : Below w.heap.size w W) (hg : w.heap.size ≤ g) (cs : Array Value) : Below w.heap.size w (W.setRow g cs) :=
  ⟨h.os, h.tape, h.output, by rw [size_setRow]; exact h.size, fun i hi => (setRow_other W g i cs (by omega)).trans (h.block i hi)⟩
theorem impl_Coupled.yes {x lo hi : Int} (h : lo ≤ x ∧ x ≤ hi) : impl_within.f x lo hi = some true := by simp [impl_within.f, h.1, h.2]
theorem impl_Coupled.no {x lo hi : Int} (h : ¬ (lo ≤ x ∧ x ≤ hi)) : impl_within.f x lo hi = some false := by
  unfold impl_within.f
  split
  · rename_i h1; simp [decide_eq_false (show ¬ x ≤ hi from fun h2 => h ⟨h1, h2⟩)]
  · rfl
theorem impl_Coupled.take_snoc (l : List Int) (i : Int) (h0 : 0 ≤ i) (h1 : i < (l.length : Int)) : l.take (i + 1).toNat = l.take i.toNat ++ [rd l i] := by
  have e : (i + 1).toNat = i.toNat + 1 := by omega
  have h : i.toNat < l.length := by omega
  rw [e, List.take_succ_eq_append_getElem h]
  simp [rd, List.getD_eq_getElem?_getD, h]
theorem impl_Coupled.put {P : Program} {ops : Array Oper} {rest : List Oper} {o : Oper} {a : Act} {Q : Exit → Act → World → Prop} {W : World} (hgd : o.guard = none) {t : TypeId} {p : Tmp} {v : Operand} (ho : o.op = .store t (.tmp p) v) (hN : o.dst = none)
    {g i : Nat} {cs : Array Value} {ty : TypeId} {b : Bool} (hp : a.eval (.tmp p) = .pointer (some ⟨g, i, none⟩)) (hv : a.eval v = .bool b) (hg : W.heap[g]? = some (.cells cs ty (0, 0))) (hi : i < cs.size) (ht : (P.info? t).map (·.size) = some 1)
    {w : World} (HB : Below w.heap.size w W) (GE : w.heap.size ≤ g) (h : ∀ w', w'.heap[g]? = some (.cells (cs.setIfInBounds i (.bool b)) ty (0, 0)) → Below w.heap.size w w' → wpList P ops Q rest a w') : wpList P ops Q (o :: rest) a W := by
  have hr := run_store_run (P := P) t (.bool b) [.bool b] hg rfl ht (o := i) (by simp; omega) (fun q hq => by rw [List.mem_singleton.1 hq]; rfl)
  refine store_event hgd ho hN (w1 := W.setCell ⟨g, i, none⟩ (.bool b)) ?_ ?_
  · unfold execOp
    simp [ho, hp, hv, hr, Result.andThen, World.setCells]
  · rintro w' rfl
    exact h _ (blk_set hg i _) (below_set HB GE)
set_option maxHeartbeats 8000000 in
set_option maxRecDepth 100000 in
theorem impl_Coupled.calls (A0 : Option Addr) (c0 : Nat) (l0 : List Int) (a1 : Int) (r : List Int) (w : World) (hr0 : Kd.C (Kd.int .i64) w A0 l0.length l0) (hc0 : l0.length ≤ c0) (h : impl_Coupled.f l0 a1 = some r) :
    Calls Try.prog 10 #[.slice A0 l0.length c0, .int .i64 a1] w fun e w' => ∃ v0_ : Value, e = .returned (v0_) ∧ Kd.R (Kd.int .i64) 3 w' w.heap.size (fun _ => True) v0_ r ∧ Below w.heap.size w w' := by
  have HR0 := Aside0.mk hr0
  have HC0 := Aside0.mk hc0
  have H := Aside0.mk h
  have hlen : (l0.length : Int) ≤ 9223372036854775807 := by have := hr0.2.1; omega
  clear hr0 hc0 h
  have HB := Aside0.mk (Below.refl w.heap.size w)
  go_enter Try.func10, Try.ntmps10
  go_wp2_with (first
    | ((with_reducible refine gate_dst (N := 5) rfl ?_); refine box_event ?hg (N := 5) ?hd (cs := #[.bool false, .bool false, .bool false, .bool false, .bool false, .bool false, .bool false, .bool false, .bool false, .bool false, .bool false, .bool false, .bool false, .bool false, .bool false, .bool false, .bool false, .bool false, .bool false, .bool false, .bool false, .bool false, .bool false, .bool false, .bool false]) (t := 56) ?hr ?_; (case hd => rfl); (case hg => rfl); (case hr => first | (go_simp; done) | (go_simp; rfl)); intro gb hg w2 hbox hb; have n1_ := Aside0.mk (below_step HB.out hb); have BK := Aside0.mk hbox; have GE := Aside0.mk (show w.heap.size ≤ gb by rw [hg]; exact Nat.le_refl _); clear HB; have HB := n1_; clear n1_ hb hbox hg)
    | ((with_reducible refine gate_store (t := 56) (p := 5) rfl ?_); refine wpList_store_row rfl 56 (.tmp 5) (.tmp 13) rfl gb (impl_Coupled.seen [] a1) rfl (impl_Coupled.seen_nil a1) 56 _ BK.out (by rw [impl_Coupled.seen_size]; kernel_rfl) (by rw [impl_Coupled.seen_size]; rfl) (impl_Coupled.seen_one _ _) ?_; have n1_ := Aside0.mk (setRow_heap w2 gb _ (impl_Coupled.seen [] a1) 56 (0, 0) BK.out); have n2_ := Aside0.mk (impl_Coupled.below_row HB.out GE.out (impl_Coupled.seen [] a1)); clear BK HB; have BK := n1_; have HB := n2_; clear n1_ n2_))
  go_loopw [16] (fun v16 w' => ∃ i : Int, v16 = .int .i64 i ∧ 0 ≤ i ∧ i ≤ (l0.length : Int) ∧ Aside0 (∀ x ∈ l0.take i.toNat, 0 ≤ x ∧ x ≤ 24) ∧ Aside0 (w'.heap[gb]? = some (.cells (impl_Coupled.seen [] a1) 56 (0, 0))) ∧ Aside0 (Below w.heap.size w w')) (fun v16 _ => ((l0.length : Int) - intOf v16).toNat)
  case atStart => exact ⟨0, rfl, by omega, by omega, ⟨by simp⟩, BK, HB⟩
  case round =>
    clear BK HB
    obtain ⟨i, rfl, hi0, hi1, HA, BK, HB⟩ := hrel
    by_cases c3 : i < (l0.length : Int)
    · have c3b0 : decide (i < (l0.length : Int)) = true := decide_eq_true c3
      obtain ⟨ad113, e113, hx113_0⟩ := Kd.at_int HR0.out i hi0 c3
      cases e113
      replace hx113_0 := (HB.out.cell (World.block_lt_of_cell? w _ hx113_0)).trans hx113_0
      have p113 := eq_true hi0
      have q113 := eq_true c3
      have hs := impl_Coupled.take_snoc l0 i hi0 c3
      have Hs := Aside0.mk hs
      clear hs
      by_cases c4 : 0 ≤ rd l0 i ∧ rd l0 i ≤ 24
      · have A4 := Aside0.mk (impl_Coupled.yes c4)
        have C4 := Aside0.mk c4
        clear c4
        have hw : wrap64 (i + 1) = i + 1 := by unfold wrap64; omega
        go_wp2_with (first | ((with_reducible refine gate_callee (f := 32) rfl ?_); refine goesL_ (some 21) rfl rfl Try.func32 (by kernel_rfl) rfl #[.int .i64 (rd l0 i), .int .i64 0, .int .i64 24] rfl (by (try simp only [List.map_toArray, List.map_cons, List.map_nil]); first | done | rfl) ?_; (with_reducible refine (impl_within.calls (rd l0 i) 0 24 true _ A4.out).mono ?_); rintro e w' ⟨rfl, ⟨nd, rfl⟩⟩; refine ⟨_, rfl, ?_⟩))
        go_roundw
        case rel => exact ⟨i + 1, (by first | rfl | (simp; done) | (simp [*]; done)), by omega, by omega, ⟨by rw [Hs.out]; intro x hx; rcases List.mem_append.1 hx with hx | hx; exact HA.out x hx; rw [List.mem_singleton.1 hx]; exact C4.out⟩, ⟨BK.out⟩, ⟨by repeat (first | (with_reducible first | exact HB.out | apply below_alloc | apply pw_below_drewN | apply below_drew1) | exact HB.out)⟩⟩
        case measure => simp [intOf]; omega
      · have A4 := Aside0.mk (impl_Coupled.no c4)
        have e : r = [] := by
          have h := H.out
          unfold impl_Coupled.f at h
          rw [if_neg (fun hh => c4 (hh.1 _ (by simp only [rd, List.getD_eq_getElem?_getD]; rw [List.getElem?_eq_getElem (by omega : i.toNat < l0.length)]; exact List.getElem_mem _)))] at h
          exact (Option.some.inj h).symm
        subst e
        clear c4
        go_wp2_with (first | ((with_reducible refine gate_callee (f := 32) rfl ?_); refine goesL_ (some 21) rfl rfl Try.func32 (by kernel_rfl) rfl #[.int .i64 (rd l0 i), .int .i64 0, .int .i64 24] rfl (by (try simp only [List.map_toArray, List.map_cons, List.map_nil]); first | done | rfl) ?_; (with_reducible refine (impl_within.calls (rd l0 i) 0 24 false _ A4.out).mono ?_); rintro e w' ⟨rfl, ⟨nd, rfl⟩⟩; refine ⟨_, rfl, ?_⟩))
        go_ret
        exact ⟨_, rfl, Kd.R_nil _ _ _ _ _, by repeat (first | (with_reducible first | exact HB.out | apply below_alloc | apply pw_below_drewN | apply below_drew1 | refine below_set ?_ GE.out) | exact HB.out)⟩
    · have c3b0 : decide (i < (l0.length : Int)) = false := decide_eq_false c3
      have hi : i.toNat = l0.length := by omega
      have HA2 := Aside0.mk (show ∀ x ∈ l0, 0 ≤ x ∧ x ≤ 24 by have := HA.out; rw [hi, List.take_length] at this; exact this)
      clear HA hi
      by_cases c5 : -24 ≤ a1 ∧ a1 ≤ 24
      · have A5 := Aside0.mk (impl_Coupled.yes c5)
        have e : r = ((List.range 25).filter (impl_Coupled.hit l0 a1)).map Int.ofNat := by
          have h := H.out
          unfold impl_Coupled.f at h
          rw [if_pos ⟨HA2.out, c5⟩] at h
          exact (Option.some.inj h).symm
        have E := Aside0.mk e
        have C5 := Aside0.mk c5
        have HZ := Aside0.mk (rfl : impl_Coupled.seen [] a1 = impl_Coupled.seen (l0.take (0 : Int).toNat) a1)
        clear e c5 c3 hi1 hi0
        go_wp2_with (first | ((with_reducible refine gate_callee (f := 32) rfl ?_); refine goesL_ (some 25) rfl rfl Try.func32 (by kernel_rfl) rfl #[.int .i64 a1, .int .i64 (-24), .int .i64 24] rfl (by (try simp only [List.map_toArray, List.map_cons, List.map_nil]); first | done | rfl) ?_; (with_reducible refine (impl_within.calls a1 (-24) 24 true _ A5.out).mono ?_); rintro e w' ⟨rfl, ⟨nd, rfl⟩⟩; refine ⟨_, rfl, ?_⟩))
        go_loopw [29] (fun v29 w' => ∃ i : Int, v29 = .int .i64 i ∧ 0 ≤ i ∧ i ≤ (l0.length : Int) ∧ Aside0 (w'.heap[gb]? = some (.cells (impl_Coupled.seen (l0.take i.toNat) a1) 56 (0, 0))) ∧ Aside0 (Below w.heap.size w w')) (fun v29 _ => ((l0.length : Int) - intOf v29).toNat)
        case atStart => exact ⟨0, rfl, by omega, by omega, ⟨by simpa using BK.out⟩, ⟨by repeat (first | (with_reducible first | exact HB.out | apply below_alloc | apply pw_below_drewN | apply below_drew1 | refine below_set ?_ GE.out) | exact HB.out)⟩⟩
        case round =>
          clear BK HB HZ c3b0
          obtain ⟨i2, rfl, hi0, hi1, BK, HB⟩ := hrel
          by_cases c3 : i2 < (l0.length : Int)
          · have c3b0 : decide (i2 < (l0.length : Int)) = true := decide_eq_true c3
            obtain ⟨ad113, e113, hx113_0⟩ := Kd.at_int HR0.out i2 hi0 c3
            cases e113
            replace hx113_0 := (HB.out.cell (World.block_lt_of_cell? w _ hx113_0)).trans hx113_0
            have p113 := eq_true hi0
            have q113 := eq_true c3
            have Hs := Aside0.mk (impl_Coupled.take_snoc l0 i2 hi0 c3)
            have hm : rd l0 i2 ∈ l0 := by simp only [rd, List.getD_eq_getElem?_getD]; rw [List.getElem?_eq_getElem (by omega : i2.toNat < l0.length)]; exact List.getElem_mem _
            obtain ⟨x, hx⟩ : ∃ x, rd l0 i2 = x := ⟨_, rfl⟩
            rw [hx] at hm hx113_0
            have hx0 : 0 ≤ x := (HA2.out x hm).1
            have hx1 : x ≤ 24 := (HA2.out x hm).2
            have HX := Aside0.mk hx
            clear hm hx
            have hxl : x < 25 := by omega
            have hw : wrap64 (i2 + 1) = i2 + 1 := by unfold wrap64; omega
            have hw2 : wrap64 (x + a1) = x + a1 := by have := C5.out; unfold wrap64; omega
            by_cases c6 : 0 ≤ x + a1 ∧ x + a1 ≤ 24
            · have A6 := Aside0.mk (impl_Coupled.yes c6)
              have HO6 := Aside0.mk c6
              have h60 : 0 ≤ x + a1 := c6.1
              have h61 : x + a1 < 25 := by omega
              clear c6
              go_wp2_with (first
                | (go_at_call 32; (with_reducible refine (impl_within.calls (x + a1) 0 24 true _ A6.out).mono ?_); rintro e w' ⟨rfl, ⟨nd, rfl⟩⟩)
                | ((with_reducible refine gate_store (t := 4) (p := 34) rfl ?_); refine impl_Coupled.put (t := 4) (p := 34) rfl rfl rfl (g := gb) (i := x.toNat) (b := true) rfl rfl (by (with_reducible repeat (first | refine blk_drewN ?_ _ | refine blk_drew ?_ | refine blk_alloc ?_ _)); exact BK.out) (by simp [impl_Coupled.seen_size]; omega) (by kernel_rfl) (by repeat (first | (with_reducible first | exact HB.out | apply below_alloc | apply pw_below_drewN | apply below_drew1 | refine below_set ?_ GE.out) | exact HB.out)) GE.out ?_; intro w5 hbk hb; clear BK HB; have BK := Aside0.mk hbk; have HB := Aside0.mk hb; clear hbk hb)
                | ((with_reducible refine gate_store (t := 4) (p := 42) rfl ?_); refine impl_Coupled.put (t := 4) (p := 42) rfl rfl rfl (g := gb) (i := (x + a1).toNat) (b := true) rfl rfl (by (with_reducible repeat (first | refine blk_drewN ?_ _ | refine blk_drew ?_ | refine blk_alloc ?_ _)); exact BK.out) (by simp [impl_Coupled.seen_size]; omega) (by kernel_rfl) (by repeat (first | (with_reducible first | exact HB.out | apply below_alloc | apply pw_below_drewN | apply below_drew1 | refine below_set ?_ GE.out) | exact HB.out)) GE.out ?_; intro w5 hbk hb; clear BK HB; have BK := Aside0.mk hbk; have HB := Aside0.mk hb; clear hbk hb))
              go_roundw
              case rel => exact ⟨i2 + 1, (by first | rfl | (simp; done) | (simp [*]; done)), by omega, by omega, ⟨by rw [Hs.out, HX.out, ← impl_Coupled.seen_in _ a1 x hx0 hx1 HO6.out.1 HO6.out.2]; (with_reducible repeat (first | refine blk_drewN ?_ _ | refine blk_drew ?_ | refine blk_alloc ?_ _)); exact BK.out⟩, ⟨by repeat (first | (with_reducible first | exact HB.out | apply below_alloc | apply pw_below_drewN | apply below_drew1 | refine below_set ?_ GE.out) | exact HB.out)⟩⟩
              case measure => simp [intOf]; omega
            · have A6 := Aside0.mk (impl_Coupled.no c6)
              have HO6 := Aside0.mk c6
              clear c6
              go_wp2_with (first
                | (go_at_call 32; (with_reducible refine (impl_within.calls (x + a1) 0 24 false _ A6.out).mono ?_); rintro e w' ⟨rfl, ⟨nd, rfl⟩⟩)
                | ((with_reducible refine gate_store (t := 4) (p := 34) rfl ?_); refine impl_Coupled.put (t := 4) (p := 34) rfl rfl rfl (g := gb) (i := x.toNat) (b := true) rfl rfl (by (with_reducible repeat (first | refine blk_drewN ?_ _ | refine blk_drew ?_ | refine blk_alloc ?_ _)); exact BK.out) (by simp [impl_Coupled.seen_size]; omega) (by kernel_rfl) (by repeat (first | (with_reducible first | exact HB.out | apply below_alloc | apply pw_below_drewN | apply below_drew1 | refine below_set ?_ GE.out) | exact HB.out)) GE.out ?_; intro w5 hbk hb; clear BK HB; have BK := Aside0.mk hbk; have HB := Aside0.mk hb; clear hbk hb))
              go_roundw
              case rel => exact ⟨i2 + 1, (by first | rfl | (simp; done) | (simp [*]; done)), by omega, by omega, ⟨by rw [Hs.out, HX.out, ← impl_Coupled.seen_out _ a1 x hx0 hx1 HO6.out]; (with_reducible repeat (first | refine blk_drewN ?_ _ | refine blk_drew ?_ | refine blk_alloc ?_ _)); exact BK.out⟩, ⟨by repeat (first | (with_reducible first | exact HB.out | apply below_alloc | apply pw_below_drewN | apply below_drew1 | refine below_set ?_ GE.out) | exact HB.out)⟩⟩
              case measure => simp [intOf]; omega
          · have c3b0 : decide (i2 < (l0.length : Int)) = false := decide_eq_false c3
            have e2 : l0.take i2.toNat = l0 := by rw [show i2.toNat = l0.length by omega, List.take_length]
            have BK2 := Aside0.mk (show wr.heap[gb]? = some (.cells (impl_Coupled.seen l0 a1) 56 (0, 0)) by have := BK.out; rw [e2] at this; exact this)
            clear e2 BK c3 hi0 hi1
            have BK := BK2
            clear BK2
            go_wp2_with (first
              | ((with_reducible refine gate_dst (N := 44) rfl ?_); refine Kd.R_lit (Kd.int .i64) _ 3 ?hg (N := 44) ?hd (xs := ([] : List Int)) (inner := []) (ok := fun _ => True) (okp := fun _ => True) ?hr ?hp (fun _ hk => hk) trivial (Below.refl _ _) (Nat.le_refl _) (by simp) ?_; (case hd => rfl); (case hg => rfl); (case hr => first | (go_simp; done) | (go_simp; rfl)); (case hp => exact (Reps.none _ _)); intro v111 w3 ho4 hb hg_ hnew_; clear hg_ hnew_; have n0_ := Aside0.mk (Kd.R_lower ho4 (below_size (by repeat (first | (with_reducible first | exact HB.out | apply below_alloc | apply pw_below_drewN | apply below_drew1 | refine below_set ?_ GE.out) | exact HB.out)))); have n1_ := Aside0.mk (below_step (by repeat (first | (with_reducible first | exact HB.out | apply below_alloc | apply pw_below_drewN | apply below_drew1 | refine below_set ?_ GE.out) | exact HB.out)) hb); have n2_ := Aside0.mk (blk_below (g := gb) (o := .cells (impl_Coupled.seen l0 a1) 56 (0, 0)) (by (with_reducible repeat (first | refine blk_drewN ?_ _ | refine blk_drew ?_ | refine blk_alloc ?_ _)); exact BK.out) hb); clear HB BK; have HO := n0_; have HB := n1_; have BK := n2_; clear n0_ n1_ n2_; clear hb ho4)
              | ((with_reducible refine gate_dst (N := 45) rfl ?_); refine wpList_load_row rfl 56 (.tmp 5) rfl gb rfl 56 (impl_Coupled.seen l0 a1) (0, 0) _ BK.out Try.underlying56 rfl (by rw [impl_Coupled.seen_size]; kernel_rfl) ?_))
            go_loopw [10, 46] (fun v10 v46 w' => ∃ j : Nat, v46 = .int .i64 (j : Int) ∧ j ≤ 25 ∧ Aside0 (Kd.R (Kd.int .i64) 3 w' w.heap.size (fun _ => True) v10 (((List.range j).filter (impl_Coupled.hit l0 a1)).map Int.ofNat)) ∧ Aside0 (Below w.heap.size w w')) (fun _ v46 _ => (25 - intOf v46).toNat)
            case atStart => exact ⟨0, rfl, by omega, HO, HB⟩
            case round =>
              clear BK HB HO c3b0
              obtain ⟨j, rfl, hj, HO, HB⟩ := hrel
              by_cases c7 : j < 25
              · have c7b0 : decide ((j : Int) < 25) = true := decide_eq_true (by omega)
                have c7b1 : decide (j < 25) = true := decide_eq_true c7
                have hix := impl_Coupled.run_index l0 a1 j c7
                have LM := Aside0.mk (show ((((List.range j).filter (impl_Coupled.hit l0 a1)).map Int.ofNat).length + 1) * 8 ≤ 140737488355328 by have := List.length_filter_le (impl_Coupled.hit l0 a1) (List.range j); simp at this; simp; omega)
                have hw : wrap64 ((j : Int) + 1) = (j : Int) + 1 := by unfold wrap64; omega
                by_cases c8 : impl_Coupled.hit l0 a1 j = true
                · have C8 := Aside0.mk c8
                  rw [c8] at hix
                  clear c8
                  go_wp2_with (first
                    | ((with_reducible refine gate_builtin (b := .append) (xs := #[.tmp 51, .tmp 53]) rfl ?_); at_builtin; refine Kd.R_append (Kd.int .i64) (w0 := w) w.heap.size rfl (.tmp 51) (.tmp 53) 25 3 (.int .i64 0) 8 rfl Try.underlying25 info3 rfl (by decide) (by omega) u10 (((List.range j).filter (impl_Coupled.hit l0 a1)).map Int.ofNat) (j : Int) [.int .i64 (j : Int)] (fun _ => True) (fun _ => False) rfl rfl ?aP (fun _ hk => hk.elim) ?aF ?aO ?aB ?aS ?aL ?_; (case aP => exact rfl); (case aB => exact (by repeat (first | (with_reducible first | exact HB.out | apply below_alloc | apply pw_below_drewN | apply below_drew1 | refine below_set ?_ GE.out) | exact HB.out))); (case aF => exact (fun _ _ => trivial)); (case aO => exact (by (with_reducible repeat (first | apply Kd.R_alloc | apply Kd.R_drewN | apply Kd.R_drew)); exact HO.out)); (case aS => exact (below_size (by repeat (first | (with_reducible first | exact HB.out | apply below_alloc | apply pw_below_drewN | apply below_drew1 | refine below_set ?_ GE.out) | exact HB.out)))); (case aL => have := LM.out; omega); intro v118 w16 ho hb hg hat; have n0_ := Aside0.mk (hb); have n1_ := Aside0.mk (ho); clear HB; clear HO; have HB := n0_; have HO := n1_; clear n0_ n1_; clear ho hb hg hat))
                  go_roundw
                  case rel => exact ⟨j + 1, (by first | rfl | (simp; done) | (simp [*]; done)), by omega, ⟨by rw [List.range_succ, List.filter_append, List.map_append, List.filter_cons_of_pos C8.out]; (with_reducible repeat (first | apply Kd.R_alloc | apply Kd.R_drewN | apply Kd.R_drew)); exact HO.out⟩, ⟨by repeat (first | (with_reducible first | exact HB.out | apply below_alloc | apply pw_below_drewN | apply below_drew1 | refine below_set ?_ GE.out) | exact HB.out)⟩⟩
                  case measure => simp [intOf]; omega
                · have C8 := Aside0.mk c8
                  rw [Bool.eq_false_iff.mpr c8] at hix
                  clear c8
                  go_wp2
                  go_roundw
                  case rel => exact ⟨j + 1, (by first | rfl | (simp; done) | (simp [*]; done)), by omega, ⟨by rw [List.range_succ, List.filter_append, List.map_append, List.filter_cons_of_neg C8.out]; simpa using HO.out⟩, ⟨by repeat (first | (with_reducible first | exact HB.out | apply below_alloc | apply pw_below_drewN | apply below_drew1 | refine below_set ?_ GE.out) | exact HB.out)⟩⟩
                  case measure => simp [intOf]; omega
              · have c7b0 : decide ((j : Int) < 25) = false := decide_eq_false (by omega)
                have c7b1 : decide (j < 25) = false := decide_eq_false c7
                have e25 : j = 25 := by omega
                go_wp2
                go_ret
                exact ⟨_, rfl, by rw [E.out, ← e25]; (with_reducible repeat (first | apply Kd.R_alloc | apply Kd.R_drewN | apply Kd.R_drew)); exact HO.out, by repeat (first | (with_reducible first | exact HB.out | apply below_alloc | apply pw_below_drewN | apply below_drew1 | refine below_set ?_ GE.out) | exact HB.out)⟩
      · have A5 := Aside0.mk (impl_Coupled.no c5)
        have e : r = [] := by
          have h := H.out
          unfold impl_Coupled.f at h
          rw [if_neg (fun hh => c5 hh.2)] at h
          exact (Option.some.inj h).symm
        subst e
        clear c5
        go_wp2_with (first | ((with_reducible refine gate_callee (f := 32) rfl ?_); refine goesL_ (some 25) rfl rfl Try.func32 (by kernel_rfl) rfl #[.int .i64 a1, .int .i64 (-24), .int .i64 24] rfl (by (try simp only [List.map_toArray, List.map_cons, List.map_nil]); first | done | rfl) ?_; (with_reducible refine (impl_within.calls a1 (-24) 24 false _ A5.out).mono ?_); rintro e w' ⟨rfl, ⟨nd, rfl⟩⟩; refine ⟨_, rfl, ?_⟩))
        go_ret
        exact ⟨_, rfl, Kd.R_nil _ _ _ _ _, by repeat (first | (with_reducible first | exact HB.out | apply below_alloc | apply pw_below_drewN | apply below_drew1 | refine below_set ?_ GE.out) | exact HB.out)⟩

end Go.Proofs.Ytookbccmhflhlaa.PFnStops
