/- What the Go functions that FnStops uses answer, as Lean functions, with the walks that show it (lines of the kit's print, taken up and changed where they fell). No condition but those that each theorem names. -/
import Derived.Laws.StructEq
import Derived.Shelf.SlSortFuncK.WholeK
import Derived.Shelf.GgSortFunc.Tiny
import Derived.Test.YtookbccmhflhlaaHFnStopsx0
import Derived.Test.YtookbccmhflhlaaHFnStopsx1
namespace Go.Proofs.Ytookbccmhflhlaa.PFnStops
open Go.RowKit Go.Proofs.YtookbccmhflhlaaW.PrintWords Go.Proofs.YtookbccmhflhlaaW.PrintLast Go.Proofs.YtookbccmhflhlaaW.PrintMore
attribute [local go_sem] max2_int min2_int max_two min_two max_three min_three max_four min_four   -- for this text's walks alone
set_option linter.unusedVariables false
set_option linter.unusedSimpArgs false

/-! ### impl_StopsOk: function 13 -/
def impl_StopsOk.l0 : Nat → List (S54) → List (S54) → Int → Int → Option (Bool)
  | 0, _, _, _, _ => none
  | k + 1, x0, x5, x6, x7 => if x7 < x6 then (if 0 ≤ x7 then (if x7 < (x5.length : Int) then ((impl_within.f ((rd_T54 x5 x7).f0) 0 3).bind fun t187 => (if t187 = true then ((impl_within.f ((rd_T54 x5 x7).f1) (-12) 24).bind fun t188 => (if t188 = true then (impl_StopsOk.l0 k x0 x5 x6 (wrap64 (x7 + 1))) else (some false))) else (some false))) else (none)) else (none)) else (some (decide ((x0.length : Int) ≤ 6)))
def impl_StopsOk.f (k : Nat) (l0 : List (S54)) : Option (Bool) := impl_StopsOk.l0 k l0 l0 (l0.length : Int) 0
theorem impl_StopsOk.mono_l : ∀ k, (∀ y0 y1 y2 y3, LeO (impl_StopsOk.l0 k y0 y1 y2 y3) (impl_StopsOk.l0 (k + 1) y0 y1 y2 y3))
  | 0 => fun _ _ _ _ r h => by simp [impl_StopsOk.l0] at h
  | k + 1 => by
    have ih0 := impl_StopsOk.mono_l k
    · intro y0 y1 y2 y3
      unfold impl_StopsOk.l0
      repeat' first
      | (with_reducible exact ih0 _ _ _ _)
      | (with_reducible exact LeO.refl _)
      | (with_reducible exact LeO.none _)
      | (with_reducible refine LeO.ite ?_ ?_)
      | (with_reducible refine LeO.bind ?_ (fun _ => ?_))
      | exact ih0 _ _ _ _
      | exact LeO.none _
      | refine LeO.ite ?_ ?_
      | refine LeO.bind ?_ (fun _ => ?_)
theorem impl_StopsOk.mono : ∀ a0 k, LeO (impl_StopsOk.f k a0) (impl_StopsOk.f (k + 1) a0) := by
  intro a0 k
  have ih0 := impl_StopsOk.mono_l k
  unfold impl_StopsOk.f
  repeat' first
      | (with_reducible exact ih0 _ _ _ _)
      | (with_reducible exact LeO.refl _)
      | (with_reducible exact LeO.none _)
      | (with_reducible refine LeO.ite ?_ ?_)
      | (with_reducible refine LeO.bind ?_ (fun _ => ?_))
      | exact ih0 _ _ _ _
      | exact LeO.none _
      | refine LeO.ite ?_ ?_
      | refine LeO.bind ?_ (fun _ => ?_)
set_option maxHeartbeats 8000000 in
set_option maxRecDepth 100000 in
theorem impl_StopsOk.calls (k : Nat) (A0 : Option Addr) (c0 : Nat) (l0 : List (S54)) (r : Bool) (w : World) (hr0 : Kd.C k54 w A0 l0.length l0) (hc0 : l0.length ≤ c0) (h : impl_StopsOk.f k l0 = some r) :
    Calls Try.prog 13 #[.slice A0 l0.length c0] w fun e w' => e = .returned (.bool r) ∧ Below w.heap.size w w' := by
  have hu54 := Try.underlying54
  have HR0 := Aside0.mk hr0
  have HC0 := Aside0.mk hc0
  clear hr0 hc0
  have HB := Aside0.mk (Below.refl w.heap.size w)
  have H : (impl_StopsOk.l0 k l0 l0 (l0.length : Int) 0) = some r := h
  clear h
  have H' := Aside0.mk H
  clear H
  go_enter Try.func13, Try.ntmps13
  go_wp2
  go_loopg [7] k (fun kq v7 w' => ∃ (x7_1 : Int), v7 = .int .i64 x7_1 ∧ Aside0 (impl_StopsOk.l0 kq l0 l0 (l0.length : Int) x7_1 = some r) ∧ Aside0 (kq ≤ k) ∧ Aside0 (Below w.heap.size w w'))
  case atStart => exact ⟨(0), (by first | rfl | (simp; done) | (simp [*]; done)), H', ⟨Nat.le_refl _⟩, ⟨by repeat (first | (with_reducible first | exact HB.out | apply below_alloc | apply pw_below_drewN | apply below_drew1) | exact HB.out)⟩⟩
  case round =>
    clear H'
    try clear c1
    obtain ⟨x7_1, rfl, HA, HK1, HB⟩ := hrel
    cases gk with
    | zero => exact absurd HA.out (by simp [impl_StopsOk.l0])
    | succ k1 =>
      have H := HA.out
      clear HA
      simp only [impl_StopsOk.l0] at H
      by_cases c2 : x7_1 < (l0.length : Int)
      · rw [if_pos c2] at H
        have c2b0 : decide (x7_1 < (l0.length : Int)) = true := decide_eq_true c2
        clear c2
        by_cases c3 : 0 ≤ x7_1
        · rw [if_pos c3] at H
          have c3b0 : decide (0 ≤ x7_1) = true := decide_eq_true c3
          clear c3
          by_cases c4 : x7_1 < (l0.length : Int)
          · rw [if_pos c4] at H
            have c4b0 : decide (x7_1 < (l0.length : Int)) = true := decide_eq_true c4
            clear c4
            replace H := Option.bind_eq_some_iff.mp H
            obtain ⟨t187, A50, H⟩ := H
            replace H : (if t187 = true then ((impl_within.f ((rd_T54 l0 x7_1).f1) (-12) 24).bind fun t188 => (if t188 = true then (impl_StopsOk.l0 k1 l0 l0 (l0.length : Int) (wrap64 (x7_1 + 1))) else (some false))) else (some false)) = some r := H
            have A5 := Aside0.mk A50
            clear A50
            by_cases c6 : t187 = true
            · subst c6
              have H1 : ((impl_within.f ((rd_T54 l0 x7_1).f1) (-12) 24).bind fun t188 => (if t188 = true then (impl_StopsOk.l0 k1 l0 l0 (l0.length : Int) (wrap64 (x7_1 + 1))) else (some false))) = some r := by rw [if_pos rfl] at H; exact H
              clear H
              have H := H1
              clear H1
              replace H := Option.bind_eq_some_iff.mp H
              obtain ⟨t188, A70, H⟩ := H
              replace H : (if t188 = true then (impl_StopsOk.l0 k1 l0 l0 (l0.length : Int) (wrap64 (x7_1 + 1))) else (some false)) = some r := H
              have A7 := Aside0.mk A70
              clear A70
              by_cases c8 : t188 = true
              · subst c8
                have H1 : (impl_StopsOk.l0 k1 l0 l0 (l0.length : Int) (wrap64 (x7_1 + 1))) = some r := by rw [if_pos rfl] at H; exact H
                clear H
                have H := H1
                clear H1
                have H' := Aside0.mk H
                clear H
                have p185 : 0 ≤ (x7_1 : Int) := of_decide_eq_true (by first | (with_reducible assumption) | assumption)
                have q185 : x7_1 < (l0.length : Int) := of_decide_eq_true (by first | (with_reducible assumption) | assumption)
                obtain ⟨ad185, e185, hx185_0, hx185_1⟩ := at_T54 HR0.out x7_1 p185 q185
                cases e185
                replace hx185_0 := (HB.out.cell (World.block_lt_of_cell? w _ hx185_0)).trans hx185_0
                replace hx185_1 := (HB.out.cell (World.block_lt_of_cell? w _ hx185_1)).trans hx185_1
                replace p185 := eq_true p185
                replace q185 := eq_true q185
                go_wp2_with (first | ((with_reducible refine gate_dst (N := 4) rfl ?_); refine box_event ?hg (N := 4) ?hd (cs := #[.int .i64 0, .int .i64 0]) (t := 54) ?hr ?_; (case hd => rfl); (case hg => rfl); (case hr => first | (go_simp; done) | (go_simp; rfl)); intro gb186 hg w9 hbox hb; have n0_ := Aside0.mk (below_step (by repeat (first | (with_reducible first | exact HB.out | apply below_alloc | apply pw_below_drewN | apply below_drew1) | exact HB.out)) hb); have n1_ := Aside0.mk (hbox); have n2_ := Aside0.mk ((by rw [hg]; exact (below_size (by repeat (first | (with_reducible first | exact HB.out | apply below_alloc | apply pw_below_drewN | apply below_drew1) | exact HB.out))) : w.heap.size ≤ gb186)); have n3_ := Aside0.mk ((by rw [hg]; exact (below_size (by repeat (first | (with_reducible first | exact HB.out | apply below_alloc | apply pw_below_drewN | apply below_drew1) | exact HB.out))) : w.heap.size ≤ gb186)); clear HB; have HB := n0_; have BK186 := n1_; have GW186 := n2_; have GE186 := n3_; clear n0_ n1_ n2_ n3_; clear hb hbox hg; have hcz10_0 : w9.cell? ⟨gb186, 0, none⟩ = some (.int .i64 0) := (blk_cell BK186.out 0).trans rfl; have hcz10_1 : w9.cell? ⟨gb186, 1, none⟩ = some (.int .i64 0) := (blk_cell BK186.out 1).trans rfl; have hfz10_0 := blk_frozen BK186.out 0; have hfz10_1 := blk_frozen BK186.out 1) | ((with_reducible refine gate_callee (f := 32) rfl ?_); refine goesL_ (some 13) rfl rfl Try.func32 (by kernel_rfl) rfl #[.int .i64 ((rd_T54 l0 x7_1).f0), .int .i64 0, .int .i64 3] rfl (by (try simp only [List.map_toArray, List.map_cons, List.map_nil]); first | done | rfl | (simp only [List.length_drop, List.length_take]; rfl)) ?_; (with_reducible refine (impl_within.calls ((rd_T54 l0 x7_1).f0) 0 3 true _ A5.out).mono ?_); rintro e w' ⟨rfl, ⟨nd, rfl⟩⟩; refine ⟨_, rfl, ?_⟩) | (go_at_call 32; (with_reducible refine (impl_within.calls ((rd_T54 l0 x7_1).f1) (-12) 24 true _ A7.out).mono ?_); rintro e w' ⟨rfl, ⟨nd, rfl⟩⟩))
                go_roundg k1
                case measure => have := HK1.out; omega
                case rel => exact ⟨(wrap64 (x7_1 + 1)), (by first | rfl | (simp; done) | (simp [*]; done)), H', ⟨by have := HK1.out; omega⟩, ⟨by repeat (first | (with_reducible first | exact HB.out | apply below_alloc | apply pw_below_drewN | apply below_drew1 | refine below_set ?_ GE186.out) | exact HB.out)⟩⟩
              · replace c8 := Bool.eq_false_iff.mpr c8
                subst c8
                have H1 : (some false) = some r := by rw [if_neg (show ¬ (false = true) by decide)] at H; exact H
                clear H
                have H := H1
                clear H1
                obtain rfl := Option.some.inj H
                have p185 : 0 ≤ (x7_1 : Int) := of_decide_eq_true (by first | (with_reducible assumption) | assumption)
                have q185 : x7_1 < (l0.length : Int) := of_decide_eq_true (by first | (with_reducible assumption) | assumption)
                obtain ⟨ad185, e185, hx185_0, hx185_1⟩ := at_T54 HR0.out x7_1 p185 q185
                cases e185
                replace hx185_0 := (HB.out.cell (World.block_lt_of_cell? w _ hx185_0)).trans hx185_0
                replace hx185_1 := (HB.out.cell (World.block_lt_of_cell? w _ hx185_1)).trans hx185_1
                replace p185 := eq_true p185
                replace q185 := eq_true q185
                go_wp2_with (first | ((with_reducible refine gate_dst (N := 4) rfl ?_); refine box_event ?hg (N := 4) ?hd (cs := #[.int .i64 0, .int .i64 0]) (t := 54) ?hr ?_; (case hd => rfl); (case hg => rfl); (case hr => first | (go_simp; done) | (go_simp; rfl)); intro gb186 hg w11 hbox hb; have n0_ := Aside0.mk (below_step (by repeat (first | (with_reducible first | exact HB.out | apply below_alloc | apply pw_below_drewN | apply below_drew1) | exact HB.out)) hb); have n1_ := Aside0.mk (hbox); have n2_ := Aside0.mk ((by rw [hg]; exact (below_size (by repeat (first | (with_reducible first | exact HB.out | apply below_alloc | apply pw_below_drewN | apply below_drew1) | exact HB.out))) : w.heap.size ≤ gb186)); have n3_ := Aside0.mk ((by rw [hg]; exact (below_size (by repeat (first | (with_reducible first | exact HB.out | apply below_alloc | apply pw_below_drewN | apply below_drew1) | exact HB.out))) : w.heap.size ≤ gb186)); clear HB; have HB := n0_; have BK186 := n1_; have GW186 := n2_; have GE186 := n3_; clear n0_ n1_ n2_ n3_; clear hb hbox hg; have hcz12_0 : w11.cell? ⟨gb186, 0, none⟩ = some (.int .i64 0) := (blk_cell BK186.out 0).trans rfl; have hcz12_1 : w11.cell? ⟨gb186, 1, none⟩ = some (.int .i64 0) := (blk_cell BK186.out 1).trans rfl; have hfz12_0 := blk_frozen BK186.out 0; have hfz12_1 := blk_frozen BK186.out 1) | ((with_reducible refine gate_callee (f := 32) rfl ?_); refine goesL_ (some 13) rfl rfl Try.func32 (by kernel_rfl) rfl #[.int .i64 ((rd_T54 l0 x7_1).f0), .int .i64 0, .int .i64 3] rfl (by (try simp only [List.map_toArray, List.map_cons, List.map_nil]); first | done | rfl | (simp only [List.length_drop, List.length_take]; rfl)) ?_; (with_reducible refine (impl_within.calls ((rd_T54 l0 x7_1).f0) 0 3 true _ A5.out).mono ?_); rintro e w' ⟨rfl, ⟨nd, rfl⟩⟩; refine ⟨_, rfl, ?_⟩) | (go_at_call 32; (with_reducible refine (impl_within.calls ((rd_T54 l0 x7_1).f1) (-12) 24 false _ A7.out).mono ?_); rintro e w' ⟨rfl, ⟨nd, rfl⟩⟩))
                go_ret
                exact ⟨by first | rfl | (simp [errW_none, errW_some] <;> rfl) | (simp [*, errW_none, errW_some] <;> rfl), by repeat (first | (with_reducible first | exact HB.out | apply below_alloc | apply pw_below_drewN | apply below_drew1 | refine below_set ?_ GE186.out) | exact HB.out)⟩
            · replace c6 := Bool.eq_false_iff.mpr c6
              subst c6
              have H1 : (some false) = some r := by rw [if_neg (show ¬ (false = true) by decide)] at H; exact H
              clear H
              have H := H1
              clear H1
              obtain rfl := Option.some.inj H
              have p185 : 0 ≤ (x7_1 : Int) := of_decide_eq_true (by first | (with_reducible assumption) | assumption)
              have q185 : x7_1 < (l0.length : Int) := of_decide_eq_true (by first | (with_reducible assumption) | assumption)
              obtain ⟨ad185, e185, hx185_0, hx185_1⟩ := at_T54 HR0.out x7_1 p185 q185
              cases e185
              replace hx185_0 := (HB.out.cell (World.block_lt_of_cell? w _ hx185_0)).trans hx185_0
              replace hx185_1 := (HB.out.cell (World.block_lt_of_cell? w _ hx185_1)).trans hx185_1
              replace p185 := eq_true p185
              replace q185 := eq_true q185
              go_wp2_with (first | ((with_reducible refine gate_dst (N := 4) rfl ?_); refine box_event ?hg (N := 4) ?hd (cs := #[.int .i64 0, .int .i64 0]) (t := 54) ?hr ?_; (case hd => rfl); (case hg => rfl); (case hr => first | (go_simp; done) | (go_simp; rfl)); intro gb186 hg w13 hbox hb; have n0_ := Aside0.mk (below_step (by repeat (first | (with_reducible first | exact HB.out | apply below_alloc | apply pw_below_drewN | apply below_drew1) | exact HB.out)) hb); have n1_ := Aside0.mk (hbox); have n2_ := Aside0.mk ((by rw [hg]; exact (below_size (by repeat (first | (with_reducible first | exact HB.out | apply below_alloc | apply pw_below_drewN | apply below_drew1) | exact HB.out))) : w.heap.size ≤ gb186)); have n3_ := Aside0.mk ((by rw [hg]; exact (below_size (by repeat (first | (with_reducible first | exact HB.out | apply below_alloc | apply pw_below_drewN | apply below_drew1) | exact HB.out))) : w.heap.size ≤ gb186)); clear HB; have HB := n0_; have BK186 := n1_; have GW186 := n2_; have GE186 := n3_; clear n0_ n1_ n2_ n3_; clear hb hbox hg; have hcz14_0 : w13.cell? ⟨gb186, 0, none⟩ = some (.int .i64 0) := (blk_cell BK186.out 0).trans rfl; have hcz14_1 : w13.cell? ⟨gb186, 1, none⟩ = some (.int .i64 0) := (blk_cell BK186.out 1).trans rfl; have hfz14_0 := blk_frozen BK186.out 0; have hfz14_1 := blk_frozen BK186.out 1) | ((with_reducible refine gate_callee (f := 32) rfl ?_); refine goesL_ (some 13) rfl rfl Try.func32 (by kernel_rfl) rfl #[.int .i64 ((rd_T54 l0 x7_1).f0), .int .i64 0, .int .i64 3] rfl (by (try simp only [List.map_toArray, List.map_cons, List.map_nil]); first | done | rfl | (simp only [List.length_drop, List.length_take]; rfl)) ?_; (with_reducible refine (impl_within.calls ((rd_T54 l0 x7_1).f0) 0 3 false _ A5.out).mono ?_); rintro e w' ⟨rfl, ⟨nd, rfl⟩⟩; refine ⟨_, rfl, ?_⟩))
              go_ret
              exact ⟨by first | rfl | (simp [errW_none, errW_some] <;> rfl) | (simp [*, errW_none, errW_some] <;> rfl), by repeat (first | (with_reducible first | exact HB.out | apply below_alloc | apply pw_below_drewN | apply below_drew1 | refine below_set ?_ GE186.out) | exact HB.out)⟩
          · rw [if_neg c4] at H
            exact absurd H (by simp)
        · rw [if_neg c3] at H
          exact absurd H (by simp)
      · rw [if_neg c2] at H
        have c2b0 : decide (x7_1 < (l0.length : Int)) = false := decide_eq_false c2
        clear c2
        obtain rfl := Option.some.inj H
        go_wp2
        go_ret
        exact ⟨by first | rfl | (simp [errW_none, errW_some] <;> rfl) | (simp [*, errW_none, errW_some] <;> rfl), by repeat (first | (with_reducible first | exact HB.out | apply below_alloc | apply pw_below_drewN | apply below_drew1) | exact HB.out)⟩

/-! ### impl_pipesOf: function 33 -/
def impl_pipesOf.ren : Go.Shelf.Ren := ⟨fun | 6 => 43 | 10 => 46 | 11 => 47 | 12 => 48 | 13 => 49 | 14 => 50 | 24 => 60 | 25 => 61 | 26 => 62 | 27 => 63 | 28 => 64 | 29 => 65 | 30 => 66 | 31 => 67 | 32 => 68 | 33 => 69 | 34 => 70 | 35 => 71 | 36 => 72 | 37 => 73 | 38 => 74 | 39 => 75 | n => n, fun | 20 => 20 | 26 => 68 | 35 => 73 | 0 => 0 | 37 => 75 | 3 => 3 | 41 => 79 | 44 => 82 | 49 => 87 | 51 => 89 | 4 => 4 | 54 => 92 | 53 => 91 | 58 => 96 | 5 => 5 | 9 => 9 | 60 => 98 | 64 => 102 | 66 => 104 | 67 => 105 | 17 => 17 | 32 => 70 | 33 => 71 | 82 => 120 | 12 => 12 | 75 => 113 | 76 => 114 | 77 => 115 | 78 => 116 | 79 => 117 | 80 => 118 | n => n, fun | n => n⟩
theorem impl_pipesOf.laid : Go.Proofs.LaysGg.n6 Try.prog impl_pipesOf.ren := { mixed := by kernel_rfl, f6 := Try.func43.trans (congrArg some (by kernel_rfl)), f10 := Try.func46.trans (congrArg some (by kernel_rfl)), f11 := Try.func47.trans (congrArg some (by kernel_rfl)), f12 := Try.func48.trans (congrArg some (by kernel_rfl)), f13 := Try.func49.trans (congrArg some (by kernel_rfl)), f14 := Try.func50.trans (congrArg some (by kernel_rfl)), f24 := Try.func60.trans (congrArg some (by kernel_rfl)), f25 := Try.func61.trans (congrArg some (by kernel_rfl)), f26 := Try.func62.trans (congrArg some (by kernel_rfl)), f27 := Try.func63.trans (congrArg some (by kernel_rfl)), f28 := Try.func64.trans (congrArg some (by kernel_rfl)), f29 := Try.func65.trans (congrArg some (by kernel_rfl)), f30 := Try.func66.trans (congrArg some (by kernel_rfl)), f31 := Try.func67.trans (congrArg some (by kernel_rfl)), f32 := Try.func68.trans (congrArg some (by kernel_rfl)), f33 := Try.func69.trans (congrArg some (by kernel_rfl)), f34 := Try.func70.trans (congrArg some (by kernel_rfl)), f35 := Try.func71.trans (congrArg some (by kernel_rfl)), f36 := Try.func72.trans (congrArg some (by kernel_rfl)), f37 := Try.func73.trans (congrArg some (by kernel_rfl)), f38 := Try.func74.trans (congrArg some (by kernel_rfl)), f39 := Try.func75.trans (congrArg some (by kernel_rfl)), t0 := Try.underlying0, a0 := Try.isAgg0, z0 := Try.sizeOf0, v0 := Try.zeroValue0, i0 := by kernel_rfl, t3 := Try.underlying3, a3 := Try.isAgg3, z3 := Try.sizeOf3, v3 := Try.zeroValue3, i3 := by kernel_rfl, t4 := Try.underlying4, a4 := Try.isAgg4, z4 := Try.sizeOf4, v4 := Try.zeroValue4, i4 := by kernel_rfl, t5 := Try.underlying5, a5 := Try.isAgg5, z5 := Try.sizeOf5, v5 := Try.zeroValue5, i5 := by kernel_rfl, t9 := Try.underlying9, a9 := Try.isAgg9, z9 := Try.sizeOf9, v9 := Try.zeroValue9, i9 := by kernel_rfl, t12 := Try.underlying12, a12 := Try.isAgg12, z12 := Try.sizeOf12, v12 := Try.zeroValue12, i12 := by kernel_rfl, t17 := Try.underlying17, a17 := Try.isAgg17, z17 := Try.sizeOf17, v17 := Try.zeroValue17, i17 := by kernel_rfl, t20 := Try.underlying20, a20 := Try.isAgg20, z20 := Try.sizeOf20, v20 := Try.zeroValue20, i20 := by kernel_rfl, t26 := Try.underlying68, a26 := Try.isAgg68, z26 := Try.sizeOf68, v26 := Try.zeroValue68, i26 := by kernel_rfl, t32 := Try.underlying70, a32 := Try.isAgg70, z32 := Try.sizeOf70, v32 := Try.zeroValue70, i32 := by kernel_rfl, t33 := Try.underlying71, a33 := Try.isAgg71, z33 := Try.sizeOf71, v33 := Try.zeroValue71, i33 := by kernel_rfl, t35 := Try.underlying73, a35 := Try.isAgg73, z35 := Try.sizeOf73, v35 := Try.zeroValue73, i35 := by kernel_rfl, t37 := Try.underlying75, a37 := Try.isAgg75, z37 := Try.sizeOf75, v37 := Try.zeroValue75, i37 := by kernel_rfl, t41 := Try.underlying79, a41 := Try.isAgg79, z41 := Try.sizeOf79, v41 := Try.zeroValue79, i41 := by kernel_rfl, t44 := Try.underlying82, a44 := Try.isAgg82, z44 := Try.sizeOf82, v44 := Try.zeroValue82, i44 := by kernel_rfl, t49 := Try.underlying87, a49 := Try.isAgg87, z49 := Try.sizeOf87, v49 := Try.zeroValue87, i49 := by kernel_rfl, t51 := Try.underlying89, a51 := Try.isAgg89, z51 := Try.sizeOf89, v51 := Try.zeroValue89, i51 := by kernel_rfl, t53 := Try.underlying91, a53 := Try.isAgg91, z53 := Try.sizeOf91, v53 := Try.zeroValue91, i53 := by kernel_rfl, t54 := Try.underlying92, a54 := Try.isAgg92, z54 := Try.sizeOf92, v54 := Try.zeroValue92, i54 := by kernel_rfl, t58 := Try.underlying96, a58 := Try.isAgg96, z58 := Try.sizeOf96, v58 := Try.zeroValue96, i58 := by kernel_rfl, t60 := Try.underlying98, a60 := Try.isAgg98, z60 := Try.sizeOf98, v60 := Try.zeroValue98, i60 := by kernel_rfl, t64 := Try.underlying102, a64 := Try.isAgg102, z64 := Try.sizeOf102, v64 := Try.zeroValue102, i64 := by kernel_rfl, t66 := Try.underlying104, a66 := Try.isAgg104, z66 := Try.sizeOf104, v66 := Try.zeroValue104, i66 := by kernel_rfl, t67 := Try.underlying105, a67 := Try.isAgg105, z67 := Try.sizeOf105, v67 := Try.zeroValue105, i67 := by kernel_rfl, t75 := Try.underlying113, a75 := Try.isAgg113, z75 := Try.sizeOf113, v75 := Try.zeroValue113, i75 := by kernel_rfl, t76 := Try.underlying114, a76 := Try.isAgg114, z76 := Try.sizeOf114, v76 := Try.zeroValue114, i76 := by kernel_rfl, t77 := Try.underlying115, a77 := Try.isAgg115, z77 := Try.sizeOf115, v77 := Try.zeroValue115, i77 := by kernel_rfl, t78 := Try.underlying116, a78 := Try.isAgg116, z78 := Try.sizeOf116, v78 := Try.zeroValue116, i78 := by kernel_rfl, t79 := Try.underlying117, a79 := Try.isAgg117, z79 := Try.sizeOf117, v79 := Try.zeroValue117, i79 := by kernel_rfl, t80 := Try.underlying118, a80 := Try.isAgg118, z80 := Try.sizeOf118, v80 := Try.zeroValue118, i80 := by kernel_rfl, t82 := Try.underlying120, a82 := Try.isAgg120, z82 := Try.sizeOf120, v82 := Try.zeroValue120, i82 := by kernel_rfl }
instance impl_pipesOf.inh : Inhabited S31 := ⟨z31⟩
def impl_pipesOf.enc (p : S31) : List Value := [.int .i64 p.f0, .int .i64 p.f1]
def impl_pipesOf.lt (p q : S31) : Bool := decide (p.f0 < q.f0) || (p.f0 == q.f0 && decide (p.f1 < q.f1))
theorem impl_pipesOf.swo : Go.Sort.SWO impl_pipesOf.lt where
  irrefl := fun x => by simp [impl_pipesOf.lt]
  trans := fun x y z h1 h2 => by simp [impl_pipesOf.lt] at *; omega
  ntrans := fun x y z h1 h2 => by simp [impl_pipesOf.lt] at *; omega
noncomputable def impl_pipesOf.ti : TypeInfo := (Try.prog.info? 28).get (by kernel_rfl)
noncomputable def impl_pipesOf.te : TypeInfo := (Try.prog.info? 31).get (by kernel_rfl)
theorem impl_pipesOf.swK (n : Nat) (h2 : 2 ≤ n) : Lib.swapperK n impl_pipesOf.te 25 = 9 := by
  have a : impl_pipesOf.te.hasPointers = false := by kernel_rfl
  have b : impl_pipesOf.te.bytes = 16 := by kernel_rfl
  have c : (n == 0) = false := by simp; omega
  have d : (n == 1) = false := by simp; omega
  simp [Lib.swapperK, a, b, c, d]
set_option maxHeartbeats 4000000 in
set_option maxRecDepth 100000 in
theorem impl_pipesOf.less (blk off c Bs size : Nat) (W : World) (G : Nat → S31) (hs : W.cell? ⟨Bs, 0, none⟩ = some (.slice (some ⟨blk, off, none⟩) size c))
    (hc : ∀ t, t < size → W.cell? ⟨blk, off + t * 2, none⟩ = some (.int .i64 (G t).f0)) (hd : ∀ t, t < size → W.cell? ⟨blk, off + t * 2 + 1, none⟩ = some (.int .i64 (G t).f1)) (i j : Nat) (hi : i < size) (hj : j < size) :
    Calls Try.prog 44 #[.int .i64 i, .int .i64 j, .pointer (some ⟨Bs, 0, none⟩)] W fun e w' => e = .returned (.bool (impl_pipesOf.lt (G i) (G j))) ∧ ∃ q, w' = W.drewN q := by
  have ci := hc i hi
  have cj := hc j hj
  have di := hd i hi
  have dj := hd j hj
  clear hc hd
  obtain ⟨b, E⟩ : ∃ b, impl_pipesOf.lt (G i) (G j) = b := ⟨_, rfl⟩
  rw [E]
  unfold impl_pipesOf.lt at E
  generalize (G i).f0 = a0 at *
  generalize (G j).f0 = b0 at *
  generalize (G i).f1 = a1 at *
  generalize (G j).f1 = b1 at *
  by_cases h1 : a0 < b0
  · have h1b : decide (a0 < b0) = true := decide_eq_true h1
    obtain rfl : b = true := by rw [← E, h1b]; rfl
    clear E
    go_enter Try.func44, Try.ntmps44
    go_wp2
    go_quiet (fail)
    go_wp2
    go_ret
    exact ⟨rfl, nq, rfl⟩
  · have h1b : decide (a0 < b0) = false := decide_eq_false h1
    by_cases h2 : a0 = b0
    · have h2b : (a0 == b0) = true := by simp [h2]
      by_cases h3 : a1 < b1
      · have h3b : decide (a1 < b1) = true := decide_eq_true h3
        obtain rfl : b = true := by rw [← E, h1b, h2b, h3b]; rfl
        clear E h2 h1 h3
        go_enter Try.func44, Try.ntmps44
        go_wp2
        go_quiet (fail)
        go_wp2
        go_ret
        exact ⟨rfl, nq, rfl⟩
      · have h3b : decide (a1 < b1) = false := decide_eq_false h3
        obtain rfl : b = false := by rw [← E, h1b, h2b, h3b]; rfl
        clear E h2 h1 h3
        go_enter Try.func44, Try.ntmps44
        go_wp2
        go_quiet (fail)
        go_wp2
        go_ret
        exact ⟨rfl, nq, rfl⟩
    · have h2b : (a0 == b0) = false := by simp [h2]
      obtain rfl : b = false := by rw [← E, h1b, h2b]; rfl
      clear E h2 h1
      go_enter Try.func44, Try.ntmps44
      go_wp2
      go_quiet (fail)
      go_wp2
      go_ret
      exact ⟨rfl, nq, rfl⟩
/-- What is known of the cells of a row of pipes. -/
def impl_pipesOf.Cells (cur : Array Value) (ys : List S31) : Prop := ∀ t, t < ys.length → cur[t * 2]? = some (.int .i64 (ys.getD t z31).f0) ∧ cur[t * 2 + 1]? = some (.int .i64 (ys.getD t z31).f1)
theorem impl_pipesOf.row_cells {W : World} {base : Nat} {ok : Nat → Prop} {v : Value} {ys : List S31} (h : Kd.R k31 31 W base ok v ys) (hn : 0 < ys.length) :
    ∃ g cap cur, v = .slice (some ⟨g, 0, none⟩) ys.length cap ∧ base ≤ g ∧ ok g ∧ W.heap[g]? = some (.cells cur 31 (0, 0)) ∧ ys.length ≤ cap ∧ cap ≤ maxLen ∧ cur.size = cap * 2 ∧ impl_pipesOf.Cells cur ys := by
  obtain ⟨h0, inner, ho, hr⟩ := h
  obtain ⟨hl, ho⟩ := ho
  rcases ho with ⟨rfl, h1⟩ | ⟨g, cap, cur, rfl, hb, hh, h1, h2, h3, h4⟩
  · omega
  · refine ⟨g, cap, cur, rfl, hb, h0 g (by simp [Value.ownBlock]), hh, h1, h2, h3, fun t ht => ?_⟩
    have hl' : inner.length = ys.length * 2 := hl
    have h4' : cur.toList.take (ys.length * 2) = inner := h4
    have hg : ys[t]? = some (ys.getD t z31) := by rw [List.getD_eq_getElem?_getD, List.getElem?_eq_getElem ht]; rfl
    have hM := k31_openM (hr.2 t _ hg)
    have e : ∀ j, j < 2 → inner[t * 2 + j]? = ([.int .i64 (ys.getD t z31).f0, .int .i64 (ys.getD t z31).f1] : List Value)[j]? := fun j hj => by
      rw [← hM, List.getElem?_take_of_lt (by exact hj), List.getElem?_drop]
      rfl
    have c : ∀ j, j < ys.length * 2 → cur[j]? = inner[j]? := fun j hj => by
      rw [← h4', List.getElem?_take_of_lt hj, Array.getElem?_toList]
    exact ⟨(c _ (by omega)).trans (e 0 (by omega)), (c _ (by omega)).trans (e 1 (by omega))⟩
theorem impl_pipesOf.row_of {W : World} {base : Nat} {ok : Nat → Prop} {g cap : Nat} {cur : Array Value} {ys : List S31} (hb : base ≤ g) (hok : ok g) (hh : W.heap[g]? = some (.cells cur 31 (0, 0))) (h1 : ys.length ≤ cap) (h2 : cap ≤ maxLen) (h3 : cur.size = cap * 2)
    (hc : impl_pipesOf.Cells cur ys) : Kd.R k31 31 W base ok (.slice (some ⟨g, 0, none⟩) ys.length cap) ys := by
  refine ⟨fun k hk => by simp [Value.ownBlock] at hk; subst hk; exact hok, cur.toList.take (ys.length * 2), ⟨?_, .inr ⟨g, cap, cur, rfl, hb, hh, h1, h2, h3, rfl⟩⟩, ?_, ?_⟩
  · show (cur.toList.take (ys.length * 2)).length = ys.length * 2
    have e_ : cur.toList.length = cur.size := Array.length_toList
    rw [List.length_take]
    omega
  · show (cur.toList.take (ys.length * 2)).length = ys.length * 2
    have e_ : cur.toList.length = cur.size := Array.length_toList
    rw [List.length_take]
    omega
  · intro j p hj
    have hlt := (List.getElem?_eq_some_iff.1 hj).1
    have hp : ys.getD j z31 = p := by rw [List.getD_eq_getElem?_getD, hj]; rfl
    obtain ⟨c0, c1⟩ := hc j hlt
    rw [hp] at c0 c1
    have e : ((cur.toList.take (ys.length * 2)).drop (j * 2)).take 2 = [.int .i64 p.f0, .int .i64 p.f1] := by
      apply List.ext_getElem?
      intro i
      rcases Nat.lt_or_ge i 2 with hi | hi
      · rw [List.getElem?_take_of_lt hi, List.getElem?_drop, List.getElem?_take_of_lt (by omega), Array.getElem?_toList]
        rcases i with _ | _ | i
        · exact c0
        · exact c1
        · omega
      · rw [List.getElem?_eq_none (by simp; omega), List.getElem?_eq_none (by simpa using hi)]
    show k31.M W base _ p (((cur.toList.take (ys.length * 2)).drop (j * 2)).take 2)
    rw [e]
    exact k31_mkM _ _ _ p
theorem impl_pipesOf.flat (ys : List S31) (t : Nat) (ht : t < ys.length) : (Go.Sort.flatK impl_pipesOf.enc 2 ys.toArray)[t * 2]! = .int .i64 (ys.getD t z31).f0 ∧ (Go.Sort.flatK impl_pipesOf.enc 2 ys.toArray)[t * 2 + 1]! = .int .i64 (ys.getD t z31).f1 := by
  have hg : ys.toArray[t]! = ys.getD t z31 := by simp [ht]
  constructor
  · rw [Go.Sort.get_flatK _ _ _ _ (by simp; omega), show t * 2 / 2 = t by omega, show t * 2 % 2 = 0 by omega, hg]; rfl
  · rw [Go.Sort.get_flatK _ _ _ _ (by simp; omega), show (t * 2 + 1) / 2 = t by omega, show (t * 2 + 1) % 2 = 1 by omega, hg]; rfl
theorem impl_pipesOf.holds {W : World} {g : Nat} {cur : Array Value} {ys : List S31} (hh : W.heap[g]? = some (.cells cur 31 (0, 0))) (hc : impl_pipesOf.Cells cur ys) : Go.Sort.HoldsK impl_pipesOf.enc 2 W g 0 ys.toArray := by
  intro j hj
  simp at hj
  refine ⟨?_, blk_frozen hh _⟩
  rw [Nat.zero_add, blk_cell hh]
  obtain ⟨t, e⟩ : ∃ t, j = t * 2 ∨ j = t * 2 + 1 := ⟨j / 2, by omega⟩
  rcases e with rfl | rfl
  · rw [(hc t (by omega)).1, (impl_pipesOf.flat ys t (by omega)).1]; rfl
  · rw [(hc t (by omega)).2, (impl_pipesOf.flat ys t (by omega)).2]; rfl
/-- The world behind the sort: the row holds zs, all else is as it was, and there are new blocks. -/
theorem impl_pipesOf.put {W : World} {g n : Nat} {os : Array Obj} {cur : Array Value} {ys zs : List S31} {w : World} (hl : zs.length = ys.length) (hh : W.heap[g]? = some (.cells cur 31 (0, 0))) (hs : ys.length * 2 ≤ cur.size) (HB : Below w.heap.size w W) (hg : w.heap.size ≤ g) :
    ∃ cur', cur'.size = cur.size ∧ impl_pipesOf.Cells cur' zs ∧ (Go.Sort.grow (Go.Sort.putRowK impl_pipesOf.enc 2 (Go.Sort.ahead W n) g 0 zs.toArray) os).heap[g]? = some (.cells cur' 31 (0, 0)) ∧
      (∀ k, k < W.heap.size → k ≠ g → (Go.Sort.grow (Go.Sort.putRowK impl_pipesOf.enc 2 (Go.Sort.ahead W n) g 0 zs.toArray) os).heap[k]? = W.heap[k]?) ∧
      Below w.heap.size w (Go.Sort.grow (Go.Sort.putRowK impl_pipesOf.enc 2 (Go.Sort.ahead W n) g 0 zs.toArray) os) := by
  have hgl := blk_lt hh
  have e1 : ∀ k, k < W.heap.size → (Go.Sort.grow (Go.Sort.putRowK impl_pipesOf.enc 2 (Go.Sort.ahead W n) g 0 zs.toArray) os).heap[k]? = (W.heap.modify g (Go.Sort.onCells (Go.Sort.putCells id 0 (Go.Sort.flatK impl_pipesOf.enc 2 zs.toArray))))[k]? := fun k hk => by
    rw [Go.Sort.heap_grow_old _ _ (by simpa [Go.Sort.putRowK, Go.Sort.putRow, Go.Sort.mapBlock, Go.Sort.ahead] using hk)]
    rfl
  have hcell : ∀ k, k < zs.length * 2 → (Go.Sort.putCells id 0 (Go.Sort.flatK impl_pipesOf.enc 2 zs.toArray) cur)[k]? = some (Go.Sort.flatK impl_pipesOf.enc 2 zs.toArray)[k]! := fun k hk => by
    have hk2 : k < cur.size := by omega
    simp only [Go.Sort.putCells, Array.getElem?_mapIdx, Array.getElem?_eq_getElem hk2, Option.map_some, Go.Sort.size_flatK, List.size_toArray, Nat.sub_zero, id]
    rw [if_pos ⟨by omega, by omega⟩]
  have hother : ∀ k, k < W.heap.size → k ≠ g → (Go.Sort.grow (Go.Sort.putRowK impl_pipesOf.enc 2 (Go.Sort.ahead W n) g 0 zs.toArray) os).heap[k]? = W.heap[k]? := fun k hk hne => by
    rw [e1 k hk, Array.getElem?_modify, if_neg (fun e => hne e.symm)]
  refine ⟨Go.Sort.putCells id 0 (Go.Sort.flatK impl_pipesOf.enc 2 zs.toArray) cur, by simp [Go.Sort.putCells], fun t ht => ?_, ?_, hother, ?_⟩
  · rw [hcell _ (by omega), hcell _ (by omega), (impl_pipesOf.flat zs t ht).1, (impl_pipesOf.flat zs t ht).2]
    exact ⟨rfl, rfl⟩
  · rw [e1 g hgl, Array.getElem?_modify, if_pos rfl, hh]
    rfl
  · refine ⟨HB.os, HB.tape, HB.output, ?_, fun i hi => ?_⟩
    · have := HB.size
      simp [Go.Sort.putRowK, Go.Sort.putRow, Go.Sort.mapBlock, Go.Sort.ahead]
      omega
    · have := HB.size
      exact (hother i (by omega) (by omega)).trans (HB.block i hi)
theorem impl_pipesOf.R_grow {W : World} {base : Nat} {ok : Nat → Prop} {v : Value} {ys : List S31} (h : Kd.R k31 31 W base ok v ys) (os : Array Obj) : Kd.R k31 31 (Go.Sort.grow W os) base ok v ys :=
  Kd.R_step h (fun k _ hk => Go.Sort.heap_grow_old W os hk)
theorem impl_pipesOf.below_grow {w W : World} (h : Below w.heap.size w W) (os : Array Obj) : Below w.heap.size w (Go.Sort.grow W os) :=
  ⟨h.os, h.tape, h.output, by rw [Go.Sort.size_grow]; exact Nat.le_trans h.size (Nat.le_add_right _ _), fun i hi => (Go.Sort.heap_grow_old W os (Nat.lt_of_lt_of_le hi h.size)).trans (h.block i hi)⟩
theorem impl_pipesOf.find9 : Try.prog.funcs.findIdx? (·.name == "internal/reflectlite" ++ ".Swapper$" ++ toString 9) = some 59 := by kernel_rfl
/-- sort.Slice at the pipes. -/
theorem impl_pipesOf.sort {w W : World} {ok : Nat → Prop} {v : Value} {ys : List S31} {Bs : Nat} (HO : Kd.R k31 31 W w.heap.size ok v ys) (HB : Below w.heap.size w W) (hbs : W.heap[Bs]? = some (.cells #[v] 28 (0, 0))) (hne : ∀ k, ok k → k ≠ Bs) (hsz : ys.length < 4611686018427387904) :
    Calls Try.prog 43 #[.iface 28 v, .func (.func 44) #[] #[.pointer (some ⟨Bs, 0, none⟩)]] W fun e w' => e = .returned (.tuple #[]) ∧ ∃ zs : List S31, zs.Perm ys ∧ zs.Pairwise (fun a b => impl_pipesOf.lt b a = false) ∧ Kd.R k31 31 w' w.heap.size ok v zs ∧ w'.heap[Bs]? = some (.cells #[v] 28 (0, 0)) ∧ Below w.heap.size w w' := by
  rcases Nat.lt_or_ge 1 ys.length with h2 | h1
  · obtain ⟨g, cap, cur, rfl, hbg, hokg, hh, hn, hcap, hcs, hC⟩ := impl_pipesOf.row_cells HO (by omega)
    have hH := impl_pipesOf.holds hh hC
    have hgl := blk_lt hh
    have hneg := hne g hokg
    have hbl := blk_lt hbs
    have hsize : ys.toArray.size = ys.length := by simp
    have hless : LessReadsK Try.prog 44 #[.pointer (some ⟨Bs, 0, none⟩)] impl_pipesOf.enc 2 impl_pipesOf.lt g 0 ys.toArray.size W := by
      intro m os dk hs i j hi hj
      have e : sortWorldK impl_pipesOf.enc 2 W g 0 m dk os = Go.Sort.putRowK impl_pipesOf.enc 2 (Go.Sort.grow (Go.Sort.ahead W m) os) g 0 dk := by
        unfold sortWorldK; rw [Go.Sort.putRowK_grow _ _ (Go.Sort.ahead W m) _ g 0 _ hgl]
      have hHg : Go.Sort.HoldsK impl_pipesOf.enc 2 (Go.Sort.grow (Go.Sort.ahead W m) os) g 0 ys.toArray := Go.Sort.holdsK_grow _ _ _ _ g 0 ys.toArray hgl (Go.Sort.holdsK_ahead _ _ _ _ _ _ _ hH)
      refine impl_pipesOf.less g 0 cap Bs ys.toArray.size _ (fun t => dk[t]!) ?_ (fun t ht => ?_) (fun t ht => ?_) i j hi hj
      · rw [e, Go.Sort.cell?_putRowK_other _ _ _ g 0 dk _ (by exact hneg.symm), Go.Sort.cell?_grow _ _ _ (by exact hbl)]
        rw [hsize]
        exact (blk_cell hbs 0).trans rfl
      · rw [e]; exact ((Go.Sort.holdsK_putRowK _ _ _ g 0 ys.toArray dk hHg hs).cell (i := t) (c := 0) (by omega) (by omega)).1
      · rw [e]; exact ((Go.Sort.holdsK_putRowK _ _ _ g 0 ys.toArray dk hHg hs).cell (i := t) (c := 1) (by omega) (by omega)).1
    have hS := Any.sort_Slice_cells_sorted impl_pipesOf.laid 28 31 impl_pipesOf.ti impl_pipesOf.te (by kernel_rfl) (by kernel_rfl) (by kernel_rfl) (by kernel_rfl) 25 (fun _ => by kernel_rfl) impl_pipesOf.enc 2 (fun _ => rfl) (by kernel_rfl) (fun _ => by kernel_rfl)
      (fun x v hv => by simp [impl_pipesOf.enc] at hv; rcases hv with rfl | rfl <;> rfl) impl_pipesOf.lt impl_pipesOf.swo 44 _
      (enters_of Try.func44 (by kernel_rfl) rfl) g 0 cap ys.toArray (by omega) (by omega) 59 (by rw [impl_pipesOf.swK _ (by omega)]; exact impl_pipesOf.find9) false
      (fun args W => run_callFunc_extern Try.func59 (by kernel_rfl) (by kernel_rfl) (by kernel_rfl) (e := Extern.ReflectliteSwapper.swap false) (by kernel_rfl) args W) W hless hH hgl
    change Calls Try.prog 43 _ _ _ at hS
    refine hS.mono ?_
    rintro e w' ⟨rfl, d', n, os, hP, hSo, rfl⟩
    obtain ⟨zs, rfl⟩ : ∃ zs : List S31, d' = zs.toArray := ⟨d'.toList, by simp⟩
    obtain ⟨hp1, _, hp3⟩ := hP
    have hl : zs.length = ys.length := by simpa using hp1
    obtain ⟨cur', hs', hC', hg', ho', hb'⟩ := impl_pipesOf.put (n := n) (os := os) hl hh (by omega) HB hbg
    have R := impl_pipesOf.row_of (ok := ok) hbg hokg hg' (by omega) hcap (by omega) hC'
    refine ⟨rfl, zs, ?_, ?_, ?_, ?_, hb'⟩
    · have h3 := hp3
      simp at h3
      rw [List.take_of_length_le (by omega)] at h3
      exact h3
    · rw [List.pairwise_iff_getElem]
      intro i j hi hj hij
      have := hSo i j (Nat.zero_le _) hij (by simpa [hl] using hj)
      simpa [hi, hj] using this
    · rw [hl] at R; exact R
    · exact (ho' Bs hbl hneg.symm).trans hbs
  · obtain ⟨A, c, rfl⟩ := Kd.R_slice HO
    have hw : ys.Pairwise (fun a b => impl_pipesOf.lt b a = false) := by
      match ys, h1 with
      | [], _ => exact List.Pairwise.nil
      | [x], _ => exact List.pairwise_singleton _ _
    have fin : ∀ e w', e = Ending.returned (.tuple #[]) ∧ (∃ os, w' = Go.Sort.grow W os) → e = .returned (.tuple #[]) ∧ ∃ zs : List S31, zs.Perm ys ∧ zs.Pairwise (fun a b => impl_pipesOf.lt b a = false) ∧ Kd.R k31 31 w' w.heap.size ok (.slice A ys.length c) zs ∧ w'.heap[Bs]? = some (.cells #[.slice A ys.length c] 28 (0, 0)) ∧ Below w.heap.size w w' := by
      rintro e w' ⟨rfl, os, rfl⟩
      exact ⟨rfl, ys, List.Perm.refl _, hw, impl_pipesOf.R_grow HO os, (Go.Sort.heap_grow_old W os (blk_lt hbs)).trans hbs, impl_pipesOf.below_grow HB os⟩
    rcases Nat.eq_zero_or_pos ys.length with h0 | h0
    · have hT := Any.sort_Slice_tiny impl_pipesOf.laid 28 31 impl_pipesOf.ti impl_pipesOf.te (by kernel_rfl) (by kernel_rfl) (by kernel_rfl) (by kernel_rfl) 25 (fun _ => by kernel_rfl) A ys.length c h1 51
        (by rw [h0]; kernel_rfl) (.func 44) #[] #[.pointer (some ⟨Bs, 0, none⟩)] W
      change Calls Try.prog 43 _ _ _ at hT
      exact hT.mono fin
    · have hT := Any.sort_Slice_tiny impl_pipesOf.laid 28 31 impl_pipesOf.ti impl_pipesOf.te (by kernel_rfl) (by kernel_rfl) (by kernel_rfl) (by kernel_rfl) 25 (fun _ => by kernel_rfl) A ys.length c h1 52
        (by rw [show ys.length = 1 by omega]; kernel_rfl) (.func 44) #[] #[.pointer (some ⟨Bs, 0, none⟩)] W
      change Calls Try.prog 43 _ _ _ at hT
      exact hT.mono fin
def impl_pipesOf.key (p : S31) : Value := .agg #[.int .i64 p.f0, .int .i64 p.f1]
def impl_pipesOf.same (p q : S31) : Bool := p.f0 == q.f0 && p.f1 == q.f1
theorem impl_pipesOf.eq31 (p q : S31) (w : World) : (Op.equal 31 (impl_pipesOf.key p) (impl_pipesOf.key q)).run Try.prog w = .ok (impl_pipesOf.same p q) w := by
  show (Op.equalIn (9999 + 1) 31 _ _).run Try.prog w = _
  refine eqA_of Try.underlying31 (by kernel_rfl) ?_
  refine eqf_cons (by rfl) (a := .int .i64 p.f0) (b := .int .i64 q.f0) (by kernel_rfl) (by kernel_rfl) (by kernel_rfl) ?_
  exact eqf_last (by rfl) (a := .int .i64 p.f1) (b := .int .i64 q.f1) (by kernel_rfl) (by kernel_rfl) (by kernel_rfl)
theorem impl_pipesOf.check31 (p : S31) (b : Bool) (w : World) : (Instr.checkKey b 10000 31 (impl_pipesOf.key p)).run Try.prog w = .ok () w := by
  cases b <;> kernel_rfl
theorem impl_pipesOf.same_iff (p q : S31) : impl_pipesOf.same p q = true ↔ p = q := by
  obtain ⟨a, b⟩ := p
  obtain ⟨c, d⟩ := q
  simp [impl_pipesOf.same]
def impl_pipesOf.known (ks : List S31) (p : S31) : Bool := ks.any (impl_pipesOf.same p)
/-- Block b is a map whose keys are ks, each with 'true'. -/
def impl_pipesOf.Map (w : World) (b : Nat) (ks : List S31) : Prop := ∃ es clock, w.heap[b]? = some (.map es clock) ∧ es.toList.map (fun e => (e.key, e.val)) = ks.map (fun p => (impl_pipesOf.key p, Value.bool true))
theorem impl_pipesOf.find31 (p : S31) (w : World) : ∀ (ks : List S31) (es : List MapEntry) (i : Nat), es.map (fun e => (e.key, e.val)) = ks.map (fun p => (impl_pipesOf.key p, Value.bool true)) →
    (impl_pipesOf.known ks p = false ∧ (Instr.findAsking 31 (impl_pipesOf.key p) es i).run Try.prog w = .ok none w) ∨ (impl_pipesOf.known ks p = true ∧ ∃ j, (Instr.findAsking 31 (impl_pipesOf.key p) es i).run Try.prog w = .ok (some (j, .bool true)) w)
  | [], [], i, _ => .inl ⟨rfl, by simp [Instr.findAsking]⟩
  | [], _ :: _, _, h => by simp at h
  | _ :: _, [], _, h => by simp at h
  | q :: ks, e :: es, i, h => by
    simp only [List.map_cons, List.cons.injEq, Prod.mk.injEq] at h
    obtain ⟨⟨hk, hv⟩, h⟩ := h
    have he := impl_pipesOf.eq31 p q w
    rw [← hk] at he
    cases hs : impl_pipesOf.same p q
    · rw [hs] at he
      rcases impl_pipesOf.find31 p w ks es (i + 1) h with ⟨h1, h2⟩ | ⟨h1, j, h2⟩
      · exact .inl ⟨by simp only [impl_pipesOf.known, List.any_cons, hs, Bool.false_or]; exact h1, by simp [Instr.findAsking, he, h2]⟩
      · exact .inr ⟨by simp only [impl_pipesOf.known, List.any_cons, hs, Bool.false_or]; exact h1, j, by simp [Instr.findAsking, he, h2]⟩
    · rw [hs] at he
      exact .inr ⟨by simp [impl_pipesOf.known, hs], i, by simp [Instr.findAsking, he, hv]⟩
theorem impl_pipesOf.findKey31 (p : S31) (w : World) (ks : List S31) (es : List MapEntry) (h : es.map (fun e => (e.key, e.val)) = ks.map (fun p => (impl_pipesOf.key p, Value.bool true))) :
    (impl_pipesOf.known ks p = false ∧ (Instr.findKey 31 (impl_pipesOf.key p) es).run Try.prog w = .ok none w) ∨ (impl_pipesOf.known ks p = true ∧ ∃ j, (Instr.findKey 31 (impl_pipesOf.key p) es).run Try.prog w = .ok (some (j, .bool true)) w) := by
  have hu : Try.prog.underlying 31 = some (.struct (Try.prog.fieldsOf 31)) := by kernel_rfl
  unfold Instr.findKey
  rw [Sem.run_bind, run_underlying hu w]
  simp only [Result.andThen_ok]
  cases es with
  | nil =>
    cases ks with
    | nil => exact .inl ⟨rfl, by simp [Instr.findNow]⟩
    | cons q ks => simp at h
  | cons e es =>
    have hn : Instr.findNow (.struct (Try.prog.fieldsOf 31)) (impl_pipesOf.key p) (e :: es) 0 = none := by simp [Instr.findNow, Instr.sameNow]
    rw [hn]
    exact impl_pipesOf.find31 p w ks (e :: es) 0 h
theorem impl_pipesOf.lookup {w : World} {b : Nat} {ks : List S31} (h : impl_pipesOf.Map w b ks) (p : S31) : (Instr.lookup 66 (.map (some b)) (impl_pipesOf.key p) false).run Try.prog w = .ok (.bool (impl_pipesOf.known ks p)) w := by
  obtain ⟨es, clock, hb, he⟩ := h
  have hu : Try.prog.underlying 66 = some (.map 31 4) := by kernel_rfl
  have hz : (zeroValue 4).run Try.prog w = .ok (.bool false) w := by kernel_rfl
  have hc := impl_pipesOf.check31 p es.isEmpty w
  have hg := MapKept.run_getObj_map (P := Try.prog) hb
  rcases impl_pipesOf.findKey31 p w ks es.toList he with ⟨h1, h2⟩ | ⟨h1, j, h2⟩
  · simp [Instr.lookup, Sem.run_bind, run_underlying hu, hg, hc, h2, hz, h1, Result.andThen]
  · simp [Instr.lookup, Sem.run_bind, run_underlying hu, hg, hc, h2, h1, Result.andThen]
theorem impl_pipesOf.update {w : World} {b : Nat} {ks : List S31} (h : impl_pipesOf.Map w b ks) (p : S31) (hk : impl_pipesOf.known ks p = false) :
    ∃ w', (Instr.mapUpdate 66 (.map (some b)) (impl_pipesOf.key p) (.bool true)).run Try.prog w = .ok () w' ∧ impl_pipesOf.Map w' b (ks ++ [p]) ∧ w.grownBy w' (some b) := by
  obtain ⟨es, clock, hb, he⟩ := h
  have hu : Try.prog.underlying 66 = some (.map 31 4) := by kernel_rfl
  have hc := impl_pipesOf.check31 p false w
  have hg := MapKept.run_getObj_map (P := Try.prog) hb
  rcases impl_pipesOf.findKey31 p w ks es.toList he with ⟨h1, h2⟩ | ⟨h1, j, h2⟩
  · refine ⟨{ w with heap := w.heap.setIfInBounds b (.map (es.push { key := impl_pipesOf.key p, val := .bool true, born := clock }) (clock + 1)) }, by simp [Instr.mapUpdate, run_underlying hu, hg, hc, h2, MapKept.run_setObj_map _ hb, Result.andThen], ?_, ?_⟩
    · exact ⟨_, _, Go.ChangeMaps.heap_setBlock_same hb _, by simp [he]⟩
    · exact ⟨rfl, rfl, rfl, by simp, fun i _ hi => Go.ChangeMaps.heap_setBlock_other hb _ (fun e => hi (by rw [e]))⟩
  · rw [h1] at hk
    cases hk
theorem impl_pipesOf.wp_lookup {ops : Array Oper} {rest : List Oper} {o : Oper} {a : Act} {Q : Exit → Act → World → Prop} {w : World} (hg : o.guard = none) {m x : Operand} (hop : o.op = Op.lookup 66 m x false) {b : Nat} {ks : List S31}
    (hm : a.eval m = .map (some b)) (h : impl_pipesOf.Map w b ks) (p : S31) (hx : a.eval x = impl_pipesOf.key p) (hK : wpList Try.prog ops Q rest (a.put o.dst (.bool (impl_pipesOf.known ks p))) w) : wpList Try.prog ops Q (o :: rest) a w := by
  refine wpList_plain hg fun K' hK' => ?_
  have hrun := impl_pipesOf.lookup h p
  unfold Oper.wp
  simp [execOp, hop, hm, hx, hrun, Result.andThen]
  exact hK' _ _ hK
theorem impl_pipesOf.wp_update {ops : Array Oper} {rest : List Oper} {o : Oper} {a : Act} {Q : Exit → Act → World → Prop} {w : World} (hg : o.guard = none) {m x v : Operand} (hop : o.op = Op.mapUpdate 66 m x v) {b : Nat} {ks : List S31}
    (hm : a.eval m = .map (some b)) (h : impl_pipesOf.Map w b ks) (p : S31) (hx : a.eval x = impl_pipesOf.key p) (hv : a.eval v = .bool true) (hk : impl_pipesOf.known ks p = false)
    (hd : o.dst = none) (hK : ∀ w', impl_pipesOf.Map w' b (ks ++ [p]) → w.grownBy w' (some b) → wpList Try.prog ops Q rest a w') : wpList Try.prog ops Q (o :: rest) a w := by
  refine wpList_plain hg fun K' hK' => ?_
  obtain ⟨w', hrun, h1, h2⟩ := impl_pipesOf.update h p hk
  have hh := hK w' h1 h2
  unfold Oper.wp
  simp [execOp, hop, hm, hx, hv, hrun, Result.andThen]
  show K' (a.put o.dst undef) w'
  rw [hd]
  exact hK' _ _ hh
def impl_pipesOf.add (acc : List S31) (p : S31) : List S31 := if impl_pipesOf.known acc p then acc else acc ++ [p]
def impl_pipesOf.dd (l : List S31) : List S31 := l.foldl impl_pipesOf.add []
def impl_pipesOf.le (a b : S31) : Bool := !impl_pipesOf.lt b a
def impl_pipesOf.f (l0 : List S31) : Option (List S31) := if l0.length ≤ 4398046511104 then some ((impl_pipesOf.dd l0).mergeSort impl_pipesOf.le) else none
theorem impl_pipesOf.dd_length (l : List S31) : (impl_pipesOf.dd l).length ≤ l.length := by
  suffices h : ∀ (l acc : List S31), (l.foldl impl_pipesOf.add acc).length ≤ acc.length + l.length by have := h l []; simpa [impl_pipesOf.dd] using this
  intro l
  induction l with
  | nil => intro acc; simp
  | cons p l ih =>
    intro acc
    have := ih (impl_pipesOf.add acc p)
    have h2 : (impl_pipesOf.add acc p).length ≤ acc.length + 1 := by unfold impl_pipesOf.add; split <;> simp
    simp only [List.foldl_cons, List.length_cons]
    omega
theorem impl_pipesOf.take_snoc (l : List S31) (i : Int) (h0 : 0 ≤ i) (h1 : i < (l.length : Int)) : impl_pipesOf.dd (l.take (i + 1).toNat) = impl_pipesOf.add (impl_pipesOf.dd (l.take i.toNat)) (rd_T31 l i) := by
  have e : (i + 1).toNat = i.toNat + 1 := by omega
  have h : i.toNat < l.length := by omega
  have hg : rd_T31 l i = l[i.toNat] := by simp [rd_T31, List.getD_eq_getElem?_getD, h]
  rw [e, List.take_succ_eq_append_getElem h, hg]
  unfold impl_pipesOf.dd
  rw [List.foldl_append]
  rfl
theorem impl_pipesOf.lt_antisymm {a b : S31} (h1 : impl_pipesOf.lt a b = false) (h2 : impl_pipesOf.lt b a = false) : a = b := by
  obtain ⟨x, y⟩ := a
  obtain ⟨u, v⟩ := b
  simp [impl_pipesOf.lt] at h1 h2
  have e : x = u := by omega
  subst e
  have e : y = v := by omega
  rw [e]
theorem impl_pipesOf.unique {ys zs : List S31} (hp : zs.Perm ys) (hs : zs.Pairwise (fun a b => impl_pipesOf.lt b a = false)) : zs = ys.mergeSort impl_pipesOf.le := by
  have h1 : zs.Perm (ys.mergeSort impl_pipesOf.le) := hp.trans (List.mergeSort_perm ys impl_pipesOf.le).symm
  have h2 : (ys.mergeSort impl_pipesOf.le).Pairwise (fun a b => impl_pipesOf.le a b = true) := List.pairwise_mergeSort (fun a b c hab hbc => by simp [impl_pipesOf.le, impl_pipesOf.lt] at *; omega) (fun a b => by simp [impl_pipesOf.le, impl_pipesOf.lt]; omega) ys
  have h3 : (ys.mergeSort impl_pipesOf.le).Pairwise (fun a b => impl_pipesOf.lt b a = false) := h2.imp (fun h => by simpa [impl_pipesOf.le] using h)
  exact h1.eq_of_pairwise (fun a b _ _ hab hba => impl_pipesOf.lt_antisymm hba hab) hs h3
/-- What the loop keeps: the cell of 'out', the map, the row, and that nothing elder was turned. -/
structure impl_pipesOf.Inv (w : World) (gm go : Nat) (v : Value) (ys : List S31) (W : World) : Prop where
  cell : W.heap[go]? = some (.cells #[v] 28 (0, 0))
  map : impl_pipesOf.Map W gm ys
  row : Kd.R k31 31 W w.heap.size (fun k => k ≠ gm ∧ k ≠ go) v ys
  below : Below w.heap.size w W
  go_ : w.heap.size ≤ go
  gm_ : w.heap.size ≤ gm
  ne : gm ≠ go
theorem impl_pipesOf.Map.lt {w : World} {b : Nat} {ks : List S31} (h : impl_pipesOf.Map w b ks) : b < w.heap.size := by
  obtain ⟨es, clock, hb, _⟩ := h
  exact (Array.getElem?_eq_some_iff.1 hb).1
theorem impl_pipesOf.Map.kept {w w' : World} {b : Nat} {ks : List S31} (h : impl_pipesOf.Map w b ks) (e : w'.heap[b]? = w.heap[b]?) : impl_pipesOf.Map w' b ks := by
  obtain ⟨es, clock, hb, he⟩ := h
  exact ⟨es, clock, e.trans hb, he⟩
theorem impl_pipesOf.Inv.step {w : World} {gm go : Nat} {v : Value} {ys : List S31} {W W' : World} (h : impl_pipesOf.Inv w gm go v ys W) (hb : Below W.heap.size W W') : impl_pipesOf.Inv w gm go v ys W' :=
  ⟨blk_below h.cell hb, h.map.kept (hb.block _ h.map.lt), Kd.R_below h.row hb, below_step h.below hb, h.go_, h.gm_, h.ne⟩
theorem impl_pipesOf.below_row {w W : World} {g : Nat} (h : Below w.heap.size w W) (hg : w.heap.size ≤ g) (cs : Array Value) : Below w.heap.size w (W.setRow g cs) :=
  ⟨h.os, h.tape, h.output, by rw [size_setRow]; exact h.size, fun i hi => (setRow_other W g i cs (by omega)).trans (h.block i hi)⟩
theorem impl_pipesOf.wp_make {ops : Array Oper} {rest : List Oper} {o : Oper} {a : Act} {Q : Exit → Act → World → Prop} {w : World} (hg : o.guard = none) (hop : o.op = Op.makeMap 66 none)
    (hK : ∀ gm w', gm = w.heap.size → impl_pipesOf.Map w' gm [] → Below w.heap.size w w' → wpList Try.prog ops Q rest (a.put o.dst (.map (some gm))) w') : wpList Try.prog ops Q (o :: rest) a w := by
  refine wpList_plain hg fun K' hK' => ?_
  have hrun := @run_makeMap Try.prog 66 w
  unfold Oper.wp
  simp [execOp, hop, hrun, Result.andThen]
  exact hK' _ _ (hK _ _ rfl ⟨#[], 0, heap_alloc_new w _, by simp⟩ (below_alloc (Below.refl _ _) _))
theorem impl_pipesOf.one (p : S31) : (#[.int .i64 p.f0, .int .i64 p.f1] : Array Value).all (·.oneCell') = true := by
  rw [Array.all_eq_true_iff_forall_mem]
  intro x hx
  simp at hx
  rcases hx with rfl | rfl <;> rfl
theorem impl_pipesOf.two (p : S31) : (Try.prog.info? 31).map (·.size) = some (#[.int .i64 p.f0, .int .i64 p.f1] : Array Value).size := by kernel_rfl
set_option maxHeartbeats 8000000 in
set_option maxRecDepth 100000 in
theorem impl_pipesOf.calls (A0 : Option Addr) (c0 : Nat) (l0 : List S31) (r : List S31) (w : World) (hr0 : Kd.C k31 w A0 l0.length l0) (hc0 : l0.length ≤ c0) (h : impl_pipesOf.f l0 = some r) :
    Calls Try.prog 33 #[.slice A0 l0.length c0] w fun e w' => ∃ v0_ : Value, e = .returned (v0_) ∧ Kd.R k31 31 w' w.heap.size (fun _ => True) v0_ r ∧ Below w.heap.size w w' := by
  have HR0 := Aside0.mk hr0
  have HC0 := Aside0.mk hc0
  have HL : l0.length ≤ 4398046511104 := by unfold impl_pipesOf.f at h; split at h; assumption; cases h
  have H := Aside0.mk (show r = (impl_pipesOf.dd l0).mergeSort impl_pipesOf.le by unfold impl_pipesOf.f at h; rw [if_pos HL] at h; exact (Option.some.inj h).symm)
  have hlen : (l0.length : Int) ≤ 4398046511104 := by omega
  have HLL := Aside0.mk HL
  clear hr0 hc0 h HL
  have HB := Aside0.mk (Below.refl w.heap.size w)
  go_enter Try.func33, Try.ntmps33
  go_wp2_with (first
    | ((with_reducible refine gate_dst (N := 7) rfl ?_); refine impl_pipesOf.wp_make rfl rfl ?_; intro gm w2 hgm hmap hb; have HM := Aside0.mk hmap; have GM := Aside0.mk (show w.heap.size ≤ gm by rw [hgm]; exact Nat.le_refl _); have n1_ := Aside0.mk (below_step HB.out hb); clear HB; have HB := n1_; clear n1_ hb hmap hgm)
    | ((with_reducible refine gate_dst (N := 8) rfl ?_); refine Kd.R_lit k31 _ 31 ?hg (N := 8) ?hd (xs := ([] : List S31)) (inner := []) (ok := fun _ => True) (okp := fun _ => True) ?hr ?hp (fun _ hk => hk) trivial (Below.refl _ _) (Nat.le_refl _) (by simp) ?_; (case hd => rfl); (case hg => rfl); (case hr => first | (go_simp; done) | (go_simp; rfl)); (case hp => exact (Reps.none _ _)); intro v8 w3 ho4 hb hg_ hnew_; clear hg_ hnew_; have n0_ := Aside0.mk (Kd.R_lower (Kd.R_mono (Kd.R_bound ho4) (fun k hk => (show k ≠ gm from fun e => by have := hk.2.1; have := HM.out.lt; omega))) (below_size HB.out)); have n1_ := Aside0.mk (below_step HB.out hb); have n2_ := Aside0.mk (HM.out.kept (hb.block _ HM.out.lt)); clear HB HM; have HO := n0_; have HB := n1_; have HM := n2_; clear n0_ n1_ n2_; clear hb ho4)
    | ((with_reducible refine gate_dst (N := 4) rfl ?_); refine box_event ?hg (N := 4) ?hd (cs := #[.slice none 0 0]) (t := 28) ?hr ?_; (case hd => rfl); (case hg => rfl); (case hr => first | (go_simp; done) | (go_simp; rfl)); intro go hgo w4 hbox hb; have BK := Aside0.mk hbox; have GO := Aside0.mk (show w.heap.size ≤ go by rw [hgo]; exact HB.out.size); have NE := Aside0.mk (show gm ≠ go by have := HM.out.lt; omega); have n0_ := Aside0.mk (Kd.R_below (Kd.R_mono (Kd.R_bound HO.out) (ok' := fun k => k ≠ gm ∧ k ≠ go) (fun k hk => ⟨hk.1, by have := hk.2.2.1; omega⟩)) hb); have n1_ := Aside0.mk (below_step HB.out hb); have n2_ := Aside0.mk (HM.out.kept (hb.block _ HM.out.lt)); clear HB HM HO; have HO := n0_; have HB := n1_; have HM := n2_; clear n0_ n1_ n2_; clear hb hbox hgo)
    | ((with_reducible refine gate_store (t := 28) (p := 4) rfl ?_); refine store_event (t := 28) (p := 4) (v := .tmp 8) (w1 := w4.setCell ⟨go, 0, none⟩ v8) rfl rfl rfl ?hr ?_; (case hr => have hc := (blk_cell BK.out 0).trans rfl; have hf := blk_frozen BK.out 0; obtain ⟨A8, c8, hv⟩ := Kd.R_slice HO.out; subst hv; first | (go_simp; done) | (go_simp; rfl)); rintro w5 hw5; have HI := Aside0.mk (show impl_pipesOf.Inv w gm go v8 [] w5 by subst hw5; exact ⟨blk_put BK.out 0 _ rfl, HM.out.kept (Below.heap_setCell _ _ _ _ NE.out), Kd.R_far HO.out (fun k hk => hk.2) _, below_set HB.out GO.out, GO.out, GM.out, NE.out⟩); clear hw5 BK HB HM HO GM GO NE))
  go_loopw [11] (fun v11 w' => ∃ (i : Int) (v : Value), v11 = .int .i64 i ∧ 0 ≤ i ∧ i ≤ (l0.length : Int) ∧ Aside0 (impl_pipesOf.Inv w gm go v (impl_pipesOf.dd (l0.take i.toNat)) w')) (fun v11 _ => ((l0.length : Int) - intOf v11).toNat)
  case atStart => exact ⟨0, v8, rfl, by omega, by omega, by simpa [impl_pipesOf.dd] using HI⟩
  case round =>
    clear HI
    obtain ⟨i, v, rfl, hi0, hi1, HI⟩ := hrel
    by_cases c3 : i < (l0.length : Int)
    · have c3b0 : decide (i < (l0.length : Int)) = true := decide_eq_true c3
      have HS := Aside0.mk (impl_pipesOf.take_snoc l0 i hi0 c3)
      have HD := Aside0.mk (show (impl_pipesOf.dd (l0.take i.toNat)).length ≤ 4398046511104 by have := impl_pipesOf.dd_length (l0.take i.toNat); have := HLL.out; have e2 : (l0.take i.toNat).length ≤ l0.length := List.length_take_le' _ _; omega)
      obtain ⟨ad113, e113, hx0, hx1⟩ := at_T31 HR0.out i hi0 c3
      cases e113
      replace hx0 := (HI.out.below.cell (World.block_lt_of_cell? w _ hx0)).trans hx0
      replace hx1 := (HI.out.below.cell (World.block_lt_of_cell? w _ hx1)).trans hx1
      have p113 := eq_true hi0
      have q113 := eq_true c3
      obtain ⟨p, hp⟩ : ∃ p, rd_T31 l0 i = p := ⟨_, rfl⟩
      rw [hp] at hx0 hx1
      have HP := Aside0.mk hp
      clear hp
      obtain ⟨ys, hys⟩ : ∃ ys, impl_pipesOf.dd (l0.take i.toNat) = ys := ⟨_, rfl⟩
      rw [hys] at HI HS HD
      rw [HP.out] at HS
      clear hys HP
      have HW := Aside0.mk (Below.refl wr.heap.size wr)
      have hw : wrap64 (i + 1) = i + 1 := by unfold wrap64; omega
      by_cases c4 : impl_pipesOf.known ys p = true
      · have C4 := Aside0.mk c4
        clear c4
        go_wp2_with (first
          | ((with_reducible refine gate_dst (N := 6) rfl ?_); refine box_event ?hg (N := 6) ?hd (cs := #[.int .i64 0, .int .i64 0]) (t := 31) ?hr ?_; (case hd => rfl); (case hg => rfl); (case hr => first | (go_simp; done) | (go_simp; rfl)); intro gp hgp w4 hbox hb; have BK := Aside0.mk hbox; have GP := Aside0.mk (show wr.heap.size ≤ gp by rw [hgp]; exact HW.out.size); have n1_ := Aside0.mk (below_step HW.out hb); clear HW; have HW := n1_; clear n1_ hb hbox hgp)
          | ((with_reducible refine gate_store (t := 31) (p := 6) rfl ?_); refine wpList_store_row rfl 31 (.tmp 6) (.tmp 14) rfl gp #[.int .i64 p.f0, .int .i64 p.f1] rfl rfl 31 _ BK.out (impl_pipesOf.two p) rfl (impl_pipesOf.one p) ?_; have n1_ := Aside0.mk (setRow_heap w4 gp _ #[.int .i64 p.f0, .int .i64 p.f1] 31 (0, 0) BK.out); have n2_ := Aside0.mk (impl_pipesOf.below_row HW.out GP.out #[.int .i64 p.f0, .int .i64 p.f1]); clear BK HW; have BK := n1_; have HW := n2_; clear n1_ n2_)
          | ((with_reducible refine gate_dst (N := 16) rfl ?_); refine wpList_load_row rfl 31 (.tmp 6) rfl gp rfl 31 #[.int .i64 p.f0, .int .i64 p.f1] (0, 0) _ BK.out Try.underlying31 rfl (impl_pipesOf.two p) ?_)
          | ((with_reducible refine gate_dst (N := 17) rfl ?_); refine impl_pipesOf.wp_lookup rfl rfl rfl (HI.out.step HW.out).map p rfl ?_; rw [C4.out]))
        go_roundw
        case rel => exact ⟨i + 1, v, (by first | rfl | (simp; done) | (simp [*]; done)), by omega, by omega, ⟨by rw [HS.out]; unfold impl_pipesOf.add; rw [if_pos C4.out]; exact HI.out.step HW.out⟩⟩
        case measure => simp [intOf]; omega
      · have C4 := Aside0.mk (Bool.eq_false_iff.mpr c4)
        clear c4
        go_wp2_with (first
          | ((with_reducible refine gate_dst (N := 6) rfl ?_); refine box_event ?hg (N := 6) ?hd (cs := #[.int .i64 0, .int .i64 0]) (t := 31) ?hr ?_; (case hd => rfl); (case hg => rfl); (case hr => first | (go_simp; done) | (go_simp; rfl)); intro gp hgp w4 hbox hb; have BK := Aside0.mk hbox; have GP := Aside0.mk (show wr.heap.size ≤ gp by rw [hgp]; exact HW.out.size); have n1_ := Aside0.mk (below_step HW.out hb); clear HW; have HW := n1_; clear n1_ hb hbox hgp)
          | ((with_reducible refine gate_store (t := 31) (p := 6) rfl ?_); refine wpList_store_row rfl 31 (.tmp 6) (.tmp 14) rfl gp #[.int .i64 p.f0, .int .i64 p.f1] rfl rfl 31 _ BK.out (impl_pipesOf.two p) rfl (impl_pipesOf.one p) ?_; have n1_ := Aside0.mk (setRow_heap w4 gp _ #[.int .i64 p.f0, .int .i64 p.f1] 31 (0, 0) BK.out); have n2_ := Aside0.mk (impl_pipesOf.below_row HW.out GP.out #[.int .i64 p.f0, .int .i64 p.f1]); clear BK HW; have BK := n1_; have HW := n2_; clear n1_ n2_)
          | ((with_reducible refine gate_dst (N := 16) rfl ?_); refine wpList_load_row rfl 31 (.tmp 6) rfl gp rfl 31 #[.int .i64 p.f0, .int .i64 p.f1] (0, 0) _ BK.out Try.underlying31 rfl (impl_pipesOf.two p) ?_)
          | ((with_reducible refine gate_dst (N := 17) rfl ?_); refine impl_pipesOf.wp_lookup rfl rfl rfl (HI.out.step HW.out).map p rfl ?_; rw [C4.out])
          | ((with_reducible refine gate_dst (N := 20) rfl ?_); refine wpList_load_row rfl 31 (.tmp 6) rfl gp rfl 31 #[.int .i64 p.f0, .int .i64 p.f1] (0, 0) _ BK.out Try.underlying31 rfl (impl_pipesOf.two p) ?_)
          | ((with_reducible refine gate_ (.mapUpdate 66 (.tmp 19) (.tmp 20) (.const (.bool true))) rfl ?_); refine impl_pipesOf.wp_update rfl rfl rfl (HI.out.step HW.out).map p rfl rfl C4.out rfl ?_; intro w6 hm6 hg6; have HB := Aside0.mk (pw_below_grown (HI.out.step HW.out).below (some gm) (HI.out.step HW.out).below.size hg6 (fun k hk => by cases hk; exact HI.out.gm_)); have n1_ := Aside0.mk (blk_grown BK.out hg6 (fun e => by have := HI.out.map.lt; have := GP.out; injection e with e; omega)); have CE := Aside0.mk (blk_grown (HI.out.step HW.out).cell hg6 (fun e => by injection e with e; exact HI.out.ne e.symm)); have RO := Aside0.mk (Kd.R_grown (HI.out.step HW.out).row hg6 (fun k hk e => by injection e with e; exact hk.1 e)); have HM := Aside0.mk hm6; have HF := Aside0.mk (show gm < w6.heap.size ∧ go < w6.heap.size from ⟨hm6.lt, blk_lt CE.out⟩); clear BK hm6 hg6; have BK := n1_; clear n1_; have hcg := (blk_cell CE.out 0).trans (show _ = some v from rfl))
          | ((with_reducible refine gate_dst (N := 22) rfl ?_); refine wpList_load_row rfl 31 (.tmp 6) rfl gp rfl 31 #[.int .i64 p.f0, .int .i64 p.f1] (0, 0) _ BK.out Try.underlying31 rfl (impl_pipesOf.two p) ?_)
          | ((with_reducible refine gate_builtin (b := .append) (xs := #[.tmp 21, .tmp 23]) rfl ?_); at_builtin; refine Kd.R_append k31 (w0 := w) w.heap.size rfl (.tmp 21) (.tmp 23) 28 31 (.agg #[.int .i64 0, .int .i64 0]) 16 rfl Try.underlying28 info31 rfl (by decide) (by omega) v ys p [.int .i64 p.f0, .int .i64 p.f1] (fun k => k ≠ gm ∧ k ≠ go) (fun _ => False) rfl rfl ?aP (fun _ hk => hk.elim) ?aF ?aO ?aB ?aS ?aL ?_; (case aP => exact k31_mkM _ _ _ p); (case aB => exact HB.out); (case aF => exact (fun k hk => by have := HF.out; constructor <;> omega)); (case aO => exact RO.out); (case aS => exact HB.out.size); (case aL => have := HD.out; omega); intro v1 w7 ho hb hg hat; have n0_ := Aside0.mk (blk_grown CE.out hg (fun e => (RO.out.1 go e.symm).2 rfl)); have n1_ := Aside0.mk (HM.out.kept (hg.block _ HM.out.lt (fun e => (RO.out.1 gm e.symm).1 rfl))); clear hcg HB CE RO HM HF BK; have BK := n0_; have HM := n1_; have HO := Aside0.mk ho; have HB := Aside0.mk hb; clear n0_ n1_ ho hb hg hat)
          | ((with_reducible refine gate_store (t := 28) (p := 4) rfl ?_); refine store_event (t := 28) (p := 4) (v := .tmp 24) (w1 := w7.setCell ⟨go, 0, none⟩ v1) rfl rfl rfl ?hr ?_; (case hr => have hc := (blk_cell BK.out 0).trans rfl; have hf := blk_frozen BK.out 0; obtain ⟨A8, c8, hv⟩ := Kd.R_slice HO.out; subst hv; first | (go_simp; done) | (go_simp; rfl)); rintro w8 hw8; have HJ := Aside0.mk (show impl_pipesOf.Inv w gm go v1 (ys ++ [p]) w8 by subst hw8; exact ⟨blk_put BK.out 0 _ rfl, HM.out.kept (Below.heap_setCell _ _ _ _ HI.out.ne), Kd.R_far HO.out (fun k hk => hk.2) _, below_set HB.out HI.out.go_, HI.out.go_, HI.out.gm_, HI.out.ne⟩); clear hw8 BK HB HM HO))
        go_roundw
        case rel => exact ⟨i + 1, v1, (by first | rfl | (simp; done) | (simp [*]; done)), by omega, by omega, ⟨by rw [HS.out]; unfold impl_pipesOf.add; rw [if_neg (by rw [C4.out]; exact Bool.false_ne_true)]; exact HJ.out⟩⟩
        case measure => simp [intOf]; omega
    · have c3b0 : decide (i < (l0.length : Int)) = false := decide_eq_false c3
      have HI2 := Aside0.mk (show impl_pipesOf.Inv w gm go v (impl_pipesOf.dd l0) wr by have := HI.out; rw [show i.toNat = l0.length by omega, List.take_length] at this; exact this)
      have hcg := (blk_cell HI2.out.cell 0).trans (show _ = some v from rfl)
      have HZ := Aside0.mk (show (impl_pipesOf.dd l0).length < 4611686018427387904 by have := impl_pipesOf.dd_length l0; have := HLL.out; omega)
      clear HI c3 hi0 hi1
      go_wp2_with (first
        | (go_at_call 43; refine (impl_pipesOf.sort HI2.out.row HI2.out.below HI2.out.cell (fun k hk => hk.2) HZ.out).mono ?_; rintro e w' ⟨rfl, zs, hp, hs, hr, hc, hb⟩; have P := Aside0.mk hp; have S := Aside0.mk hs; have R := Aside0.mk hr; have HB := Aside0.mk hb; have hcg2 := (blk_cell hc 0).trans (show _ = some v from rfl); clear hp hs hr hc hb hcg))
      go_ret
      exact ⟨v, rfl, by rw [H.out, ← impl_pipesOf.unique P.out S.out]; exact Kd.R_mono R.out (fun _ _ => trivial), HB.out⟩

end Go.Proofs.Ytookbccmhflhlaa.PFnStops
