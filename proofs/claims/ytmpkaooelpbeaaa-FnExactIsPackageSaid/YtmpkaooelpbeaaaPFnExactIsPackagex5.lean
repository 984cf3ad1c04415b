-- Laid by this session's own program (wip/gen/myprint.py) over the kit's print; turned to this claim.
import Derived.Test.YtmpkaooelpbeaaaPFnExactIsPackagex0
import Derived.Test.YtmpkaooelpbeaaaPFnExactIsPackagex1
import Derived.Test.YtmpkaooelpbeaaaPFnExactIsPackagex4
namespace Go.Proofs.Ytmpkaooelpbeaaa.PFnExactIsPackage
open Go.RowKit Go.Proofs.Ytmpkaooelpbeaaa.Short Go.Proofs.YtmpkaooelpbeaaaW.PrintWords Go.Proofs.YtmpkaooelpbeaaaW.PrintLast Go.Proofs.YtmpkaooelpbeaaaW.PrintMore
attribute [local go_sem] max2_int min2_int max_two min_two max_three min_three max_four min_four
set_option linter.unusedVariables false
set_option linter.unusedSimpArgs false
section
attribute [local go_sem high] eqA137
/-! ### spec_IsFlow: function 116 -/
def spec_IsFlow.f (a0_0 : Int) (a0_1 : Int) (a0_2 : Int) : Option (Bool) := (spec_l1In.f a0_0 1 5).bind fun t237 => (if t237 = true then ((spec_l1In.f a0_1 1 9).bind fun t238 => (if t238 = true then ((spec_l1In.f a0_2 1 9).bind fun t239 => (some t239)) else (some false))) else (some false))
set_option maxHeartbeats 8000000 in
set_option maxRecDepth 100000 in
theorem spec_IsFlow.calls (a0_0 : Int) (a0_1 : Int) (a0_2 : Int) (r : Bool) (w : World) (h : spec_IsFlow.f a0_0 a0_1 a0_2 = some r) :
    Calls Try.prog 116 #[.agg #[.int .i64 a0_0, .int .i64 a0_1, .int .i64 a0_2]] w fun e w' => e = .returned (.bool r) ∧ Below w.heap.size w w' := by
  have hu120 := Try.underlying120
  have HB := Aside0.mk (Below.refl w.heap.size w)
  have H : ((spec_l1In.f a0_0 1 5).bind fun t237 => (if t237 = true then ((spec_l1In.f a0_1 1 9).bind fun t238 => (if t238 = true then ((spec_l1In.f a0_2 1 9).bind fun t239 => (some t239)) else (some false))) else (some false))) = some r := h
  clear h
  replace H := Option.bind_eq_some_iff.mp H
  obtain ⟨t237, A20, H⟩ := H
  replace H : (if t237 = true then ((spec_l1In.f a0_1 1 9).bind fun t238 => (if t238 = true then ((spec_l1In.f a0_2 1 9).bind fun t239 => (some t239)) else (some false))) else (some false)) = some r := H
  have A2 := Aside0.mk A20
  clear A20
  refine Or.elim (Classical.em (t237 = true)) (fun c3 => ?pc3) (fun c3 => ?nc3)
  case' pc3 =>
    subst c3
    have H1 : ((spec_l1In.f a0_1 1 9).bind fun t238 => (if t238 = true then ((spec_l1In.f a0_2 1 9).bind fun t239 => (some t239)) else (some false))) = some r := by rw [if_pos rfl] at H; exact H
    clear H
    have H := H1
    clear H1
    replace H := Option.bind_eq_some_iff.mp H
    obtain ⟨t238, A40, H⟩ := H
    replace H : (if t238 = true then ((spec_l1In.f a0_2 1 9).bind fun t239 => (some t239)) else (some false)) = some r := H
    have A4 := Aside0.mk A40
    clear A40
    refine Or.elim (Classical.em (t238 = true)) (fun c5 => ?pc5) (fun c5 => ?nc5)
    case' pc5 =>
      subst c5
      have H1 : ((spec_l1In.f a0_2 1 9).bind fun t239 => (some t239)) = some r := by rw [if_pos rfl] at H; exact H
      clear H
      have H := H1
      clear H1
      replace H := Option.bind_eq_some_iff.mp H
      obtain ⟨t239, A60, H⟩ := H
      replace H : (some t239) = some r := H
      have A6 := Aside0.mk A60
      clear A60
      obtain rfl := Option.some.inj H
    case' nc5 =>
      replace c5 := Bool.eq_false_iff.mpr c5
      subst c5
      have H1 : (some false) = some r := by rw [if_neg (show ¬ (false = true) by decide)] at H; exact H
      clear H
      have H := H1
      clear H1
      obtain rfl := Option.some.inj H
  case' nc3 =>
    replace c3 := Bool.eq_false_iff.mpr c3
    subst c3
    have H1 : (some false) = some r := by rw [if_neg (show ¬ (false = true) by decide)] at H; exact H
    clear H
    have H := H1
    clear H1
    obtain rfl := Option.some.inj H
  all_goals go_enter Try.func116, Try.ntmps116
  all_goals (go_wp2_with (first | ((with_reducible refine gate_dst (N := 1) rfl ?_); refine box_event ?hg (N := 1) ?hd (cs := #[.int .i64 a0_0, .int .i64 a0_1, .int .i64 a0_2]) (t := 120) ?hr ?_; (case hd => rfl); (case hg => rfl); (case hr => first | (go_simp; done) | (go_simp; rfl)); intro gb236 hg w_1 hbox hb; have n0_ := Aside0.mk (below_step hb_ hb); have n1_ := Aside0.mk (hbox); have n2_ := Aside0.mk ((by rw [hg]; exact (below_size hb_) : w.heap.size ≤ gb236)); have n3_ := Aside0.mk ((by rw [hg]; exact (below_size hb_) : w.heap.size ≤ gb236)); clear HB; have HB := n0_; have BK236 := n1_; have GW236 := n2_; have GE236 := n3_; clear n0_ n1_ n2_ n3_; clear hb hbox hg; have hcz1_0 : w_1.cell? ⟨gb236, 0, none⟩ = some (.int .i64 a0_0) := (blk_cell BK236.out 0).trans rfl; have hcz1_1 : w_1.cell? ⟨gb236, 1, none⟩ = some (.int .i64 a0_1) := (blk_cell BK236.out 1).trans rfl; have hcz1_2 : w_1.cell? ⟨gb236, 2, none⟩ = some (.int .i64 a0_2) := (blk_cell BK236.out 2).trans rfl; have hfz1_0 := blk_frozen BK236.out 0; have hfz1_1 := blk_frozen BK236.out 1; have hfz1_2 := blk_frozen BK236.out 2) | ((with_reducible refine gate_callee (f := 114) rfl ?_); refine goesL_ (some 5) rfl rfl Try.func114 (by kernel_rfl) rfl #[.int .i64 a0_0, .int .i64 1, .int .i64 5] rfl la_ ?_; (with_reducible refine (spec_l1In.calls _ _ _ _ _ A2.out).mono ?_); rintro e w' ⟨rfl, ⟨nd, rfl⟩⟩; refine ⟨_, rfl, ?_⟩) | (go_at_call 114; (with_reducible refine (spec_l1In.calls _ _ _ _ _ A4.out).mono ?_); rintro e w' ⟨rfl, ⟨nd, rfl⟩⟩) | (go_at_call 114; (with_reducible refine (spec_l1In.calls _ _ _ _ _ A6.out).mono ?_); rintro e w' ⟨rfl, ⟨nd, rfl⟩⟩)))
  all_goals go_ret
  all_goals (exact ⟨by first | rfl | (simp [errW_none, errW_some] <;> rfl) | (simp [*, errW_none, errW_some] <;> rfl), hb_⟩)
end

section
attribute [local go_sem high] eqA137
/-! ### spec_IsSite: function 155 -/
def spec_IsSite.f (a0_0 : Int) (a0_1 : Int) : Option (Bool) := (spec_l1In.f a0_0 1 9).bind fun t241 => (if t241 = true then ((spec_l1In.f a0_1 0 9).bind fun t242 => (some t242)) else (some false))
set_option maxHeartbeats 8000000 in
set_option maxRecDepth 100000 in
theorem spec_IsSite.calls (a0_0 : Int) (a0_1 : Int) (r : Bool) (w : World) (h : spec_IsSite.f a0_0 a0_1 = some r) :
    Calls Try.prog 155 #[.agg #[.int .i64 a0_0, .int .i64 a0_1]] w fun e w' => e = .returned (.bool r) ∧ Below w.heap.size w w' := by
  have hu137 := Try.underlying137
  have HB := Aside0.mk (Below.refl w.heap.size w)
  have H : ((spec_l1In.f a0_0 1 9).bind fun t241 => (if t241 = true then ((spec_l1In.f a0_1 0 9).bind fun t242 => (some t242)) else (some false))) = some r := h
  clear h
  replace H := Option.bind_eq_some_iff.mp H
  obtain ⟨t241, A20, H⟩ := H
  replace H : (if t241 = true then ((spec_l1In.f a0_1 0 9).bind fun t242 => (some t242)) else (some false)) = some r := H
  have A2 := Aside0.mk A20
  clear A20
  refine Or.elim (Classical.em (t241 = true)) (fun c3 => ?pc3) (fun c3 => ?nc3)
  case' pc3 =>
    subst c3
    have H1 : ((spec_l1In.f a0_1 0 9).bind fun t242 => (some t242)) = some r := by rw [if_pos rfl] at H; exact H
    clear H
    have H := H1
    clear H1
    replace H := Option.bind_eq_some_iff.mp H
    obtain ⟨t242, A40, H⟩ := H
    replace H : (some t242) = some r := H
    have A4 := Aside0.mk A40
    clear A40
    obtain rfl := Option.some.inj H
  case' nc3 =>
    replace c3 := Bool.eq_false_iff.mpr c3
    subst c3
    have H1 : (some false) = some r := by rw [if_neg (show ¬ (false = true) by decide)] at H; exact H
    clear H
    have H := H1
    clear H1
    obtain rfl := Option.some.inj H
  all_goals go_enter Try.func155, Try.ntmps155
  all_goals (go_wp2_with (first | ((with_reducible refine gate_dst (N := 1) rfl ?_); refine box_event ?hg (N := 1) ?hd (cs := #[.int .i64 a0_0, .int .i64 a0_1]) (t := 137) ?hr ?_; (case hd => rfl); (case hg => rfl); (case hr => first | (go_simp; done) | (go_simp; rfl)); intro gb240 hg w_1 hbox hb; have n0_ := Aside0.mk (below_step hb_ hb); have n1_ := Aside0.mk (hbox); have n2_ := Aside0.mk ((by rw [hg]; exact (below_size hb_) : w.heap.size ≤ gb240)); have n3_ := Aside0.mk ((by rw [hg]; exact (below_size hb_) : w.heap.size ≤ gb240)); clear HB; have HB := n0_; have BK240 := n1_; have GW240 := n2_; have GE240 := n3_; clear n0_ n1_ n2_ n3_; clear hb hbox hg; have hcz1_0 : w_1.cell? ⟨gb240, 0, none⟩ = some (.int .i64 a0_0) := (blk_cell BK240.out 0).trans rfl; have hcz1_1 : w_1.cell? ⟨gb240, 1, none⟩ = some (.int .i64 a0_1) := (blk_cell BK240.out 1).trans rfl; have hfz1_0 := blk_frozen BK240.out 0; have hfz1_1 := blk_frozen BK240.out 1) | ((with_reducible refine gate_callee (f := 114) rfl ?_); refine goesL_ (some 5) rfl rfl Try.func114 (by kernel_rfl) rfl #[.int .i64 a0_0, .int .i64 1, .int .i64 9] rfl la_ ?_; (with_reducible refine (spec_l1In.calls _ _ _ _ _ A2.out).mono ?_); rintro e w' ⟨rfl, ⟨nd, rfl⟩⟩; refine ⟨_, rfl, ?_⟩) | (go_at_call 114; (with_reducible refine (spec_l1In.calls _ _ _ _ _ A4.out).mono ?_); rintro e w' ⟨rfl, ⟨nd, rfl⟩⟩)))
  all_goals go_ret
  all_goals (exact ⟨by first | rfl | (simp [errW_none, errW_some] <;> rfl) | (simp [*, errW_none, errW_some] <;> rfl), hb_⟩)
end

section
attribute [local go_sem high] eqA137
/-! ### spec_IsRule: function 117 -/
def spec_IsRule.f (a0_0 : Int) (a0_1 : Int) (a0_2 : Int) (a0_3 : Int) (a0_4 : Int) (a0_5 : Int) (a0_6 : Int) (a0_7 : Int) : Option (Bool) := (spec_l1In.f a0_0 1 5).bind fun t244 => (if t244 = true then ((spec_l1In.f a0_1 1 9).bind fun t245 => (if t245 = true then ((spec_IsPattern.f a0_2 a0_3).bind fun t246 => (if t246 = true then ((spec_l1In.f a0_4 0 4).bind fun t247 => (if t247 = true then ((spec_l1In.f a0_5 1 3).bind fun t248 => (if t248 = true then (if a0_5 = 3 then ((spec_IsSite.f a0_6 a0_7).bind fun t249 => (if t249 = true then (some true) else (some false))) else (some (a0_6 == 0 && (a0_7 == 0)))) else (some false))) else (some false))) else (some false))) else (some false))) else (some false))
set_option maxHeartbeats 8000000 in
set_option maxRecDepth 100000 in
theorem spec_IsRule.calls (a0_0 : Int) (a0_1 : Int) (a0_2 : Int) (a0_3 : Int) (a0_4 : Int) (a0_5 : Int) (a0_6 : Int) (a0_7 : Int) (r : Bool) (w : World) (h : spec_IsRule.f a0_0 a0_1 a0_2 a0_3 a0_4 a0_5 a0_6 a0_7 = some r) :
    Calls Try.prog 117 #[.agg #[.int .i64 a0_0, .int .i64 a0_1, .int .i64 a0_2, .int .i64 a0_3, .int .i64 a0_4, .int .i64 a0_5, .int .i64 a0_6, .int .i64 a0_7]] w fun e w' => e = .returned (.bool r) ∧ Below w.heap.size w w' := by
  have hu139 := Try.underlying139
  have hu130 := Try.underlying130
  have hu137 := Try.underlying137
  have HB := Aside0.mk (Below.refl w.heap.size w)
  have H : ((spec_l1In.f a0_0 1 5).bind fun t244 => (if t244 = true then ((spec_l1In.f a0_1 1 9).bind fun t245 => (if t245 = true then ((spec_IsPattern.f a0_2 a0_3).bind fun t246 => (if t246 = true then ((spec_l1In.f a0_4 0 4).bind fun t247 => (if t247 = true then ((spec_l1In.f a0_5 1 3).bind fun t248 => (if t248 = true then (if a0_5 = 3 then ((spec_IsSite.f a0_6 a0_7).bind fun t249 => (if t249 = true then (some true) else (some false))) else (some (a0_6 == 0 && (a0_7 == 0)))) else (some false))) else (some false))) else (some false))) else (some false))) else (some false))) = some r := h
  clear h
  replace H := Option.bind_eq_some_iff.mp H
  obtain ⟨t244, A20, H⟩ := H
  replace H : (if t244 = true then ((spec_l1In.f a0_1 1 9).bind fun t245 => (if t245 = true then ((spec_IsPattern.f a0_2 a0_3).bind fun t246 => (if t246 = true then ((spec_l1In.f a0_4 0 4).bind fun t247 => (if t247 = true then ((spec_l1In.f a0_5 1 3).bind fun t248 => (if t248 = true then (if a0_5 = 3 then ((spec_IsSite.f a0_6 a0_7).bind fun t249 => (if t249 = true then (some true) else (some false))) else (some (a0_6 == 0 && (a0_7 == 0)))) else (some false))) else (some false))) else (some false))) else (some false))) else (some false)) = some r := H
  have A2 := Aside0.mk A20
  clear A20
  refine Or.elim (Classical.em (t244 = true)) (fun c3 => ?pc3) (fun c3 => ?nc3)
  case' pc3 =>
    subst c3
    have H1 : ((spec_l1In.f a0_1 1 9).bind fun t245 => (if t245 = true then ((spec_IsPattern.f a0_2 a0_3).bind fun t246 => (if t246 = true then ((spec_l1In.f a0_4 0 4).bind fun t247 => (if t247 = true then ((spec_l1In.f a0_5 1 3).bind fun t248 => (if t248 = true then (if a0_5 = 3 then ((spec_IsSite.f a0_6 a0_7).bind fun t249 => (if t249 = true then (some true) else (some false))) else (some (a0_6 == 0 && (a0_7 == 0)))) else (some false))) else (some false))) else (some false))) else (some false))) = some r := by rw [if_pos rfl] at H; exact H
    clear H
    have H := H1
    clear H1
    replace H := Option.bind_eq_some_iff.mp H
    obtain ⟨t245, A40, H⟩ := H
    replace H : (if t245 = true then ((spec_IsPattern.f a0_2 a0_3).bind fun t246 => (if t246 = true then ((spec_l1In.f a0_4 0 4).bind fun t247 => (if t247 = true then ((spec_l1In.f a0_5 1 3).bind fun t248 => (if t248 = true then (if a0_5 = 3 then ((spec_IsSite.f a0_6 a0_7).bind fun t249 => (if t249 = true then (some true) else (some false))) else (some (a0_6 == 0 && (a0_7 == 0)))) else (some false))) else (some false))) else (some false))) else (some false)) = some r := H
    have A4 := Aside0.mk A40
    clear A40
    refine Or.elim (Classical.em (t245 = true)) (fun c5 => ?pc5) (fun c5 => ?nc5)
    case' pc5 =>
      subst c5
      have H1 : ((spec_IsPattern.f a0_2 a0_3).bind fun t246 => (if t246 = true then ((spec_l1In.f a0_4 0 4).bind fun t247 => (if t247 = true then ((spec_l1In.f a0_5 1 3).bind fun t248 => (if t248 = true then (if a0_5 = 3 then ((spec_IsSite.f a0_6 a0_7).bind fun t249 => (if t249 = true then (some true) else (some false))) else (some (a0_6 == 0 && (a0_7 == 0)))) else (some false))) else (some false))) else (some false))) = some r := by rw [if_pos rfl] at H; exact H
      clear H
      have H := H1
      clear H1
      replace H := Option.bind_eq_some_iff.mp H
      obtain ⟨t246, A60, H⟩ := H
      replace H : (if t246 = true then ((spec_l1In.f a0_4 0 4).bind fun t247 => (if t247 = true then ((spec_l1In.f a0_5 1 3).bind fun t248 => (if t248 = true then (if a0_5 = 3 then ((spec_IsSite.f a0_6 a0_7).bind fun t249 => (if t249 = true then (some true) else (some false))) else (some (a0_6 == 0 && (a0_7 == 0)))) else (some false))) else (some false))) else (some false)) = some r := H
      have A6 := Aside0.mk A60
      clear A60
      refine Or.elim (Classical.em (t246 = true)) (fun c7 => ?pc7) (fun c7 => ?nc7)
      case' pc7 =>
        subst c7
        have H1 : ((spec_l1In.f a0_4 0 4).bind fun t247 => (if t247 = true then ((spec_l1In.f a0_5 1 3).bind fun t248 => (if t248 = true then (if a0_5 = 3 then ((spec_IsSite.f a0_6 a0_7).bind fun t249 => (if t249 = true then (some true) else (some false))) else (some (a0_6 == 0 && (a0_7 == 0)))) else (some false))) else (some false))) = some r := by rw [if_pos rfl] at H; exact H
        clear H
        have H := H1
        clear H1
        replace H := Option.bind_eq_some_iff.mp H
        obtain ⟨t247, A80, H⟩ := H
        replace H : (if t247 = true then ((spec_l1In.f a0_5 1 3).bind fun t248 => (if t248 = true then (if a0_5 = 3 then ((spec_IsSite.f a0_6 a0_7).bind fun t249 => (if t249 = true then (some true) else (some false))) else (some (a0_6 == 0 && (a0_7 == 0)))) else (some false))) else (some false)) = some r := H
        have A8 := Aside0.mk A80
        clear A80
        refine Or.elim (Classical.em (t247 = true)) (fun c9 => ?pc9) (fun c9 => ?nc9)
        case' pc9 =>
          subst c9
          have H1 : ((spec_l1In.f a0_5 1 3).bind fun t248 => (if t248 = true then (if a0_5 = 3 then ((spec_IsSite.f a0_6 a0_7).bind fun t249 => (if t249 = true then (some true) else (some false))) else (some (a0_6 == 0 && (a0_7 == 0)))) else (some false))) = some r := by rw [if_pos rfl] at H; exact H
          clear H
          have H := H1
          clear H1
          replace H := Option.bind_eq_some_iff.mp H
          obtain ⟨t248, A100, H⟩ := H
          replace H : (if t248 = true then (if a0_5 = 3 then ((spec_IsSite.f a0_6 a0_7).bind fun t249 => (if t249 = true then (some true) else (some false))) else (some (a0_6 == 0 && (a0_7 == 0)))) else (some false)) = some r := H
          have A10 := Aside0.mk A100
          clear A100
          refine Or.elim (Classical.em (t248 = true)) (fun c11 => ?pc11) (fun c11 => ?nc11)
          case' pc11 =>
            subst c11
            have H1 : (if a0_5 = 3 then ((spec_IsSite.f a0_6 a0_7).bind fun t249 => (if t249 = true then (some true) else (some false))) else (some (a0_6 == 0 && (a0_7 == 0)))) = some r := by rw [if_pos rfl] at H; exact H
            clear H
            have H := H1
            clear H1
            refine Or.elim (Classical.em (a0_5 = 3)) (fun c12 => ?pc12) (fun c12 => ?nc12)
            case' pc12 =>
              rw [if_pos c12] at H
              have c12b0 : (a0_5 == 3) = true := beq_iff_eq.mpr c12
              have c12b1 : (a0_5 != 3) = false := bne_eq_false_iff_eq.mpr c12
              clear c12
              replace H := Option.bind_eq_some_iff.mp H
              obtain ⟨t249, A130, H⟩ := H
              replace H : (if t249 = true then (some true) else (some false)) = some r := H
              have A13 := Aside0.mk A130
              clear A130
              refine Or.elim (Classical.em (t249 = true)) (fun c14 => ?pc14) (fun c14 => ?nc14)
              case' pc14 =>
                subst c14
                have H1 : (some true) = some r := by rw [if_pos rfl] at H; exact H
                clear H
                have H := H1
                clear H1
                obtain rfl := Option.some.inj H
              case' nc14 =>
                replace c14 := Bool.eq_false_iff.mpr c14
                subst c14
                have H1 : (some false) = some r := by rw [if_neg (show ¬ (false = true) by decide)] at H; exact H
                clear H
                have H := H1
                clear H1
                obtain rfl := Option.some.inj H
            case' nc12 =>
              rw [if_neg c12] at H
              have c12b0 : (a0_5 == 3) = false := beq_eq_false_iff_ne.mpr c12
              have c12b1 : (a0_5 != 3) = true := bne_iff_ne.mpr c12
              obtain rfl := Option.some.inj H
          case' nc11 =>
            replace c11 := Bool.eq_false_iff.mpr c11
            subst c11
            have H1 : (some false) = some r := by rw [if_neg (show ¬ (false = true) by decide)] at H; exact H
            clear H
            have H := H1
            clear H1
            obtain rfl := Option.some.inj H
        case' nc9 =>
          replace c9 := Bool.eq_false_iff.mpr c9
          subst c9
          have H1 : (some false) = some r := by rw [if_neg (show ¬ (false = true) by decide)] at H; exact H
          clear H
          have H := H1
          clear H1
          obtain rfl := Option.some.inj H
      case' nc7 =>
        replace c7 := Bool.eq_false_iff.mpr c7
        subst c7
        have H1 : (some false) = some r := by rw [if_neg (show ¬ (false = true) by decide)] at H; exact H
        clear H
        have H := H1
        clear H1
        obtain rfl := Option.some.inj H
    case' nc5 =>
      replace c5 := Bool.eq_false_iff.mpr c5
      subst c5
      have H1 : (some false) = some r := by rw [if_neg (show ¬ (false = true) by decide)] at H; exact H
      clear H
      have H := H1
      clear H1
      obtain rfl := Option.some.inj H
  case' nc3 =>
    replace c3 := Bool.eq_false_iff.mpr c3
    subst c3
    have H1 : (some false) = some r := by rw [if_neg (show ¬ (false = true) by decide)] at H; exact H
    clear H
    have H := H1
    clear H1
    obtain rfl := Option.some.inj H
  all_goals go_enter Try.func117, Try.ntmps117
  all_goals (go_wp2_with (first | ((with_reducible refine gate_dst (N := 1) rfl ?_); refine box_event ?hg (N := 1) ?hd (cs := #[.int .i64 a0_0, .int .i64 a0_1, .int .i64 a0_2, .int .i64 a0_3, .int .i64 a0_4, .int .i64 a0_5, .int .i64 a0_6, .int .i64 a0_7]) (t := 139) ?hr ?_; (case hd => rfl); (case hg => rfl); (case hr => first | (go_simp; done) | (go_simp; rfl)); intro gb243 hg w_1 hbox hb; have n0_ := Aside0.mk (below_step hb_ hb); have n1_ := Aside0.mk (hbox); have n2_ := Aside0.mk ((by rw [hg]; exact (below_size hb_) : w.heap.size ≤ gb243)); have n3_ := Aside0.mk ((by rw [hg]; exact (below_size hb_) : w.heap.size ≤ gb243)); clear HB; have HB := n0_; have BK243 := n1_; have GW243 := n2_; have GE243 := n3_; clear n0_ n1_ n2_ n3_; clear hb hbox hg; have hcz1_0 : w_1.cell? ⟨gb243, 0, none⟩ = some (.int .i64 a0_0) := (blk_cell BK243.out 0).trans rfl; have hcz1_1 : w_1.cell? ⟨gb243, 1, none⟩ = some (.int .i64 a0_1) := (blk_cell BK243.out 1).trans rfl; have hcz1_2 : w_1.cell? ⟨gb243, 2, none⟩ = some (.int .i64 a0_2) := (blk_cell BK243.out 2).trans rfl; have hcz1_3 : w_1.cell? ⟨gb243, 3, none⟩ = some (.int .i64 a0_3) := (blk_cell BK243.out 3).trans rfl; have hcz1_4 : w_1.cell? ⟨gb243, 4, none⟩ = some (.int .i64 a0_4) := (blk_cell BK243.out 4).trans rfl; have hcz1_5 : w_1.cell? ⟨gb243, 5, none⟩ = some (.int .i64 a0_5) := (blk_cell BK243.out 5).trans rfl; have hcz1_6 : w_1.cell? ⟨gb243, 6, none⟩ = some (.int .i64 a0_6) := (blk_cell BK243.out 6).trans rfl; have hcz1_7 : w_1.cell? ⟨gb243, 7, none⟩ = some (.int .i64 a0_7) := (blk_cell BK243.out 7).trans rfl; have hfz1_0 := blk_frozen BK243.out 0; have hfz1_1 := blk_frozen BK243.out 1; have hfz1_2 := blk_frozen BK243.out 2; have hfz1_3 := blk_frozen BK243.out 3; have hfz1_4 := blk_frozen BK243.out 4; have hfz1_5 := blk_frozen BK243.out 5; have hfz1_6 := blk_frozen BK243.out 6; have hfz1_7 := blk_frozen BK243.out 7) | ((with_reducible refine gate_callee (f := 114) rfl ?_); refine goesL_ (some 5) rfl rfl Try.func114 (by kernel_rfl) rfl #[.int .i64 a0_0, .int .i64 1, .int .i64 5] rfl la_ ?_; (with_reducible refine (spec_l1In.calls _ _ _ _ _ A2.out).mono ?_); rintro e w' ⟨rfl, ⟨nd, rfl⟩⟩; refine ⟨_, rfl, ?_⟩) | (go_at_call 114; (with_reducible refine (spec_l1In.calls _ _ _ _ _ A4.out).mono ?_); rintro e w' ⟨rfl, ⟨nd, rfl⟩⟩) | (go_at_call 154; (with_reducible refine (spec_IsPattern.calls _ _ _ _ A6.out).mono ?_); rintro e w_1 ⟨rfl, hb⟩; have n0_ := Aside0.mk (blk_below (g := gb243) bk_ hb); have n1_ := Aside0.mk (below_step hb_ hb); clear BK243; clear HB; have BK243 := n0_; have HB := n1_; clear n0_ n1_; (try clear hb); (try clear hb2); (try clear hk); (try clear hi); (try (have hcz1_0 : w_1.cell? ⟨gb243, 0, none⟩ = some (.int .i64 a0_0) := (blk_cell BK243.out 0).trans rfl)); (try (have hcz1_1 : w_1.cell? ⟨gb243, 1, none⟩ = some (.int .i64 a0_1) := (blk_cell BK243.out 1).trans rfl)); (try (have hcz1_2 : w_1.cell? ⟨gb243, 2, none⟩ = some (.int .i64 a0_2) := (blk_cell BK243.out 2).trans rfl)); (try (have hcz1_3 : w_1.cell? ⟨gb243, 3, none⟩ = some (.int .i64 a0_3) := (blk_cell BK243.out 3).trans rfl)); (try (have hcz1_4 : w_1.cell? ⟨gb243, 4, none⟩ = some (.int .i64 a0_4) := (blk_cell BK243.out 4).trans rfl)); (try (have hcz1_5 : w_1.cell? ⟨gb243, 5, none⟩ = some (.int .i64 a0_5) := (blk_cell BK243.out 5).trans rfl)); (try (have hcz1_6 : w_1.cell? ⟨gb243, 6, none⟩ = some (.int .i64 a0_6) := (blk_cell BK243.out 6).trans rfl)); (try (have hcz1_7 : w_1.cell? ⟨gb243, 7, none⟩ = some (.int .i64 a0_7) := (blk_cell BK243.out 7).trans rfl)); (try (have hfz1_0 := blk_frozen BK243.out 0)); (try (have hfz1_1 := blk_frozen BK243.out 1)); (try (have hfz1_2 := blk_frozen BK243.out 2)); (try (have hfz1_3 := blk_frozen BK243.out 3)); (try (have hfz1_4 := blk_frozen BK243.out 4)); (try (have hfz1_5 := blk_frozen BK243.out 5)); (try (have hfz1_6 := blk_frozen BK243.out 6)); (try (have hfz1_7 := blk_frozen BK243.out 7))) | (go_at_call 114; (with_reducible refine (spec_l1In.calls _ _ _ _ _ A8.out).mono ?_); rintro e w' ⟨rfl, ⟨nd, rfl⟩⟩) | (go_at_call 114; (with_reducible refine (spec_l1In.calls _ _ _ _ _ A10.out).mono ?_); rintro e w' ⟨rfl, ⟨nd, rfl⟩⟩) | (go_at_call 155; (with_reducible refine (spec_IsSite.calls _ _ _ _ A13.out).mono ?_); rintro e w_1 ⟨rfl, hb⟩; have n0_ := Aside0.mk (blk_below (g := gb243) bk_ hb); have n1_ := Aside0.mk (below_step hb_ hb); clear BK243; clear HB; have BK243 := n0_; have HB := n1_; clear n0_ n1_; (try clear hb); (try clear hb2); (try clear hk); (try clear hi); (try (have hcz1_0 : w_1.cell? ⟨gb243, 0, none⟩ = some (.int .i64 a0_0) := (blk_cell BK243.out 0).trans rfl)); (try (have hcz1_1 : w_1.cell? ⟨gb243, 1, none⟩ = some (.int .i64 a0_1) := (blk_cell BK243.out 1).trans rfl)); (try (have hcz1_2 : w_1.cell? ⟨gb243, 2, none⟩ = some (.int .i64 a0_2) := (blk_cell BK243.out 2).trans rfl)); (try (have hcz1_3 : w_1.cell? ⟨gb243, 3, none⟩ = some (.int .i64 a0_3) := (blk_cell BK243.out 3).trans rfl)); (try (have hcz1_4 : w_1.cell? ⟨gb243, 4, none⟩ = some (.int .i64 a0_4) := (blk_cell BK243.out 4).trans rfl)); (try (have hcz1_5 : w_1.cell? ⟨gb243, 5, none⟩ = some (.int .i64 a0_5) := (blk_cell BK243.out 5).trans rfl)); (try (have hcz1_6 : w_1.cell? ⟨gb243, 6, none⟩ = some (.int .i64 a0_6) := (blk_cell BK243.out 6).trans rfl)); (try (have hcz1_7 : w_1.cell? ⟨gb243, 7, none⟩ = some (.int .i64 a0_7) := (blk_cell BK243.out 7).trans rfl)); (try (have hfz1_0 := blk_frozen BK243.out 0)); (try (have hfz1_1 := blk_frozen BK243.out 1)); (try (have hfz1_2 := blk_frozen BK243.out 2)); (try (have hfz1_3 := blk_frozen BK243.out 3)); (try (have hfz1_4 := blk_frozen BK243.out 4)); (try (have hfz1_5 := blk_frozen BK243.out 5)); (try (have hfz1_6 := blk_frozen BK243.out 6)); (try (have hfz1_7 := blk_frozen BK243.out 7)))))
  all_goals go_ret
  all_goals (exact ⟨by first | rfl | (simp [errW_none, errW_some] <;> rfl) | (simp [*, errW_none, errW_some] <;> rfl), hb_⟩)
end

end Go.Proofs.Ytmpkaooelpbeaaa.PFnExactIsPackage
