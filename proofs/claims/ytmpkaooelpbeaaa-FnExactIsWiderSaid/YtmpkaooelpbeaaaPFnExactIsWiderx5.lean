-- Laid by this session's own program (wip/gen/myprint.py) over the kit's print; turned to this claim.
import Derived.Test.YtmpkaooelpbeaaaPFnExactIsWiderx0
import Derived.Test.YtmpkaooelpbeaaaPFnExactIsWiderx1
import Derived.Test.YtmpkaooelpbeaaaPFnExactIsWiderx4
namespace Go.Proofs.Ytmpkaooelpbeaaa.PFnExactIsWider
open Go.RowKit Go.Proofs.Ytmpkaooelpbeaaa.Short Go.Proofs.YtmpkaooelpbeaaaW.PrintWords Go.Proofs.YtmpkaooelpbeaaaW.PrintLast Go.Proofs.YtmpkaooelpbeaaaW.PrintMore
attribute [local go_sem] max2_int min2_int max_two min_two max_three min_three max_four min_four
set_option linter.unusedVariables false
set_option linter.unusedSimpArgs false
section
attribute [local go_sem high] eqA120
/-! ### spec_IsNarrower: function 175 -/
def spec_IsNarrower.f (a0_0 : Int) (a0_1 : Int) (a1_0 : Int) (a1_1 : Int) : Option (Bool) := (spec_IsPattern.f a0_0 a0_1).bind fun t239 => (if t239 = true then ((spec_IsPattern.f a1_0 a1_1).bind fun t240 => (if t240 = true then (if a1_0 = 0 then (if a1_1 = (-1) then (some true) else (some (a0_1 == a1_1))) else (if a0_0 = a1_0 then (if a1_1 = (-1) then (some true) else (some (a0_1 == a1_1))) else (some false))) else (some false))) else (some false))
set_option maxHeartbeats 8000000 in
set_option maxRecDepth 100000 in
theorem spec_IsNarrower.calls (a0_0 : Int) (a0_1 : Int) (a1_0 : Int) (a1_1 : Int) (r : Bool) (w : World) (h : spec_IsNarrower.f a0_0 a0_1 a1_0 a1_1 = some r) :
    Calls Try.prog 175 #[.agg #[.int .i64 a0_0, .int .i64 a0_1], .agg #[.int .i64 a1_0, .int .i64 a1_1]] w fun e w' => e = .returned (.bool r) ∧ Below w.heap.size w w' := by
  have hu130 := Try.underlying130
  have HB := Aside0.mk (Below.refl w.heap.size w)
  have H : ((spec_IsPattern.f a0_0 a0_1).bind fun t239 => (if t239 = true then ((spec_IsPattern.f a1_0 a1_1).bind fun t240 => (if t240 = true then (if a1_0 = 0 then (if a1_1 = (-1) then (some true) else (some (a0_1 == a1_1))) else (if a0_0 = a1_0 then (if a1_1 = (-1) then (some true) else (some (a0_1 == a1_1))) else (some false))) else (some false))) else (some false))) = some r := h
  clear h
  replace H := Option.bind_eq_some_iff.mp H
  obtain ⟨t239, A30, H⟩ := H
  replace H : (if t239 = true then ((spec_IsPattern.f a1_0 a1_1).bind fun t240 => (if t240 = true then (if a1_0 = 0 then (if a1_1 = (-1) then (some true) else (some (a0_1 == a1_1))) else (if a0_0 = a1_0 then (if a1_1 = (-1) then (some true) else (some (a0_1 == a1_1))) else (some false))) else (some false))) else (some false)) = some r := H
  have A3 := Aside0.mk A30
  clear A30
  refine Or.elim (Classical.em (t239 = true)) (fun c4 => ?pc4) (fun c4 => ?nc4)
  case' pc4 =>
    subst c4
    have H1 : ((spec_IsPattern.f a1_0 a1_1).bind fun t240 => (if t240 = true then (if a1_0 = 0 then (if a1_1 = (-1) then (some true) else (some (a0_1 == a1_1))) else (if a0_0 = a1_0 then (if a1_1 = (-1) then (some true) else (some (a0_1 == a1_1))) else (some false))) else (some false))) = some r := by rw [if_pos rfl] at H; exact H
    clear H
    have H := H1
    clear H1
    replace H := Option.bind_eq_some_iff.mp H
    obtain ⟨t240, A50, H⟩ := H
    replace H : (if t240 = true then (if a1_0 = 0 then (if a1_1 = (-1) then (some true) else (some (a0_1 == a1_1))) else (if a0_0 = a1_0 then (if a1_1 = (-1) then (some true) else (some (a0_1 == a1_1))) else (some false))) else (some false)) = some r := H
    have A5 := Aside0.mk A50
    clear A50
    refine Or.elim (Classical.em (t240 = true)) (fun c6 => ?pc6) (fun c6 => ?nc6)
    case' pc6 =>
      subst c6
      have H1 : (if a1_0 = 0 then (if a1_1 = (-1) then (some true) else (some (a0_1 == a1_1))) else (if a0_0 = a1_0 then (if a1_1 = (-1) then (some true) else (some (a0_1 == a1_1))) else (some false))) = some r := by rw [if_pos rfl] at H; exact H
      clear H
      have H := H1
      clear H1
      refine Or.elim (Classical.em (a1_0 = 0)) (fun c7 => ?pc7) (fun c7 => ?nc7)
      case' pc7 =>
        rw [if_pos c7] at H
        have c7b0 : (a1_0 == 0) = true := beq_iff_eq.mpr c7
        have c7b1 : (a1_0 != 0) = false := bne_eq_false_iff_eq.mpr c7
        clear c7
        refine Or.elim (Classical.em (a1_1 = (-1))) (fun c8 => ?pc8) (fun c8 => ?nc8)
        case' pc8 =>
          rw [if_pos c8] at H
          have c8b0 : (a1_1 == (-1)) = true := beq_iff_eq.mpr c8
          have c8b1 : (a1_1 != (-1)) = false := bne_eq_false_iff_eq.mpr c8
          clear c8
          obtain rfl := Option.some.inj H
        case' nc8 =>
          rw [if_neg c8] at H
          have c8b0 : (a1_1 == (-1)) = false := beq_eq_false_iff_ne.mpr c8
          have c8b1 : (a1_1 != (-1)) = true := bne_iff_ne.mpr c8
          obtain rfl := Option.some.inj H
      case' nc7 =>
        rw [if_neg c7] at H
        have c7b0 : (a1_0 == 0) = false := beq_eq_false_iff_ne.mpr c7
        have c7b1 : (a1_0 != 0) = true := bne_iff_ne.mpr c7
        refine Or.elim (Classical.em (a0_0 = a1_0)) (fun c26 => ?pc26) (fun c26 => ?nc26)
        case' pc26 =>
          rw [if_pos c26] at H
          have c26b0 : (a0_0 == a1_0) = true := beq_iff_eq.mpr c26
          have c26b1 : (a0_0 != a1_0) = false := bne_eq_false_iff_eq.mpr c26
          clear c26
          refine Or.elim (Classical.em (a1_1 = (-1))) (fun c27 => ?pc27) (fun c27 => ?nc27)
          case' pc27 =>
            rw [if_pos c27] at H
            have c27b0 : (a1_1 == (-1)) = true := beq_iff_eq.mpr c27
            have c27b1 : (a1_1 != (-1)) = false := bne_eq_false_iff_eq.mpr c27
            clear c27
            obtain rfl := Option.some.inj H
          case' nc27 =>
            rw [if_neg c27] at H
            have c27b0 : (a1_1 == (-1)) = false := beq_eq_false_iff_ne.mpr c27
            have c27b1 : (a1_1 != (-1)) = true := bne_iff_ne.mpr c27
            obtain rfl := Option.some.inj H
        case' nc26 =>
          rw [if_neg c26] at H
          have c26b0 : (a0_0 == a1_0) = false := beq_eq_false_iff_ne.mpr c26
          have c26b1 : (a0_0 != a1_0) = true := bne_iff_ne.mpr c26
          obtain rfl := Option.some.inj H
    case' nc6 =>
      replace c6 := Bool.eq_false_iff.mpr c6
      subst c6
      have H1 : (some false) = some r := by rw [if_neg (show ¬ (false = true) by decide)] at H; exact H
      clear H
      have H := H1
      clear H1
      obtain rfl := Option.some.inj H
  case' nc4 =>
    replace c4 := Bool.eq_false_iff.mpr c4
    subst c4
    have H1 : (some false) = some r := by rw [if_neg (show ¬ (false = true) by decide)] at H; exact H
    clear H
    have H := H1
    clear H1
    obtain rfl := Option.some.inj H
  all_goals go_enter Try.func175, Try.ntmps175
  all_goals (go_wp2_with (first | ((with_reducible refine gate_dst (N := 2) rfl ?_); refine box_event ?hg (N := 2) ?hd (cs := #[.int .i64 a0_0, .int .i64 a0_1]) (t := 130) ?hr ?_; (case hd => rfl); (case hg => rfl); (case hr => first | (go_simp; done) | (go_simp; rfl)); intro gb237 hg w_1 hbox hb; have n0_ := Aside0.mk (below_step hb_ hb); have n1_ := Aside0.mk (hbox); have n2_ := Aside0.mk ((by rw [hg]; exact (below_size hb_) : w.heap.size ≤ gb237)); have n3_ := Aside0.mk ((by rw [hg]; exact (below_size hb_) : w.heap.size ≤ gb237)); clear HB; have HB := n0_; have BK237 := n1_; have GW237 := n2_; have GE237 := n3_; clear n0_ n1_ n2_ n3_; clear hb hbox hg) | ((with_reducible refine gate_dst (N := 3) rfl ?_); refine box_event ?hg (N := 3) ?hd (cs := #[.int .i64 a1_0, .int .i64 a1_1]) (t := 130) ?hr ?_; (case hd => rfl); (case hg => rfl); (case hr => first | (go_simp; done) | (go_simp; rfl)); intro gb238 hg w_1 hbox hb; have n0_ := Aside0.mk (blk_below (g := gb237) bk_ hb); have n1_ := Aside0.mk (below_step hb_ hb); have n2_ := Aside0.mk (hbox); have n3_ := Aside0.mk ((by rw [hg]; exact (below_size hb_) : w.heap.size ≤ gb238)); have n4_ := Aside0.mk ((by rw [hg]; exact (below_size hb_) : w.heap.size ≤ gb238)); have n5_ := Aside0.mk ((by rw [hg]; exact Nat.ne_of_lt (blk_lt (g := gb237) bk_) : gb237 ≠ gb238)); have n6_ := Aside0.mk ((by rw [hg]; exact Nat.ne_of_gt (blk_lt (g := gb237) bk_) : gb238 ≠ gb237)); clear BK237; clear HB; have BK237 := n0_; have HB := n1_; have BK238 := n2_; have GW238 := n3_; have GE238 := n4_; have NB237_238 := n5_; have NB238_237 := n6_; clear n0_ n1_ n2_ n3_ n4_ n5_ n6_; clear hb hbox hg; (try (have hnb11 := NB237_238.out)); (try (have hnc11 := NB238_237.out)); (try (have hcz1_0 : w_1.cell? ⟨gb237, 0, none⟩ = some (.int .i64 a0_0) := (blk_cell BK237.out 0).trans rfl)); (try (have hcz1_1 : w_1.cell? ⟨gb237, 1, none⟩ = some (.int .i64 a0_1) := (blk_cell BK237.out 1).trans rfl)); (try (have hfz1_0 := blk_frozen BK237.out 0)); (try (have hfz1_1 := blk_frozen BK237.out 1))) | ((with_reducible refine gate_callee (f := 154) rfl ?_); refine goesL_ (some 6) rfl rfl Try.func154 (by kernel_rfl) rfl #[.agg #[.int .i64 a0_0, .int .i64 a0_1]] rfl la_ ?_; (with_reducible refine (spec_IsPattern.calls _ _ _ _ A3.out).mono ?_); rintro e w_1 ⟨rfl, hb⟩; refine ⟨_, rfl, ?_⟩; have n0_ := Aside0.mk (blk_below (g := gb237) bk_ hb); have n1_ := Aside0.mk (blk_below (g := gb238) bk_ hb); have n2_ := Aside0.mk (below_step hb_ hb); clear BK237; clear BK238; clear HB; have BK237 := n0_; have BK238 := n1_; have HB := n2_; clear n0_ n1_ n2_; (try clear hb); (try clear hb2); (try clear hk); (try clear hi); (try (have hcz1_0 : w_1.cell? ⟨gb238, 0, none⟩ = some (.int .i64 a1_0) := (blk_cell BK238.out 0).trans rfl)); (try (have hcz1_1 : w_1.cell? ⟨gb238, 1, none⟩ = some (.int .i64 a1_1) := (blk_cell BK238.out 1).trans rfl)); (try (have hfz1_0 := blk_frozen BK238.out 0)); (try (have hfz1_1 := blk_frozen BK238.out 1))) | (go_at_call 154; (with_reducible refine (spec_IsPattern.calls _ _ _ _ A5.out).mono ?_); rintro e w_1 ⟨rfl, hb⟩; have n0_ := Aside0.mk (blk_below (g := gb237) bk_ hb); have n1_ := Aside0.mk (blk_below (g := gb238) bk_ hb); have n2_ := Aside0.mk (below_step hb_ hb); clear BK237; clear BK238; clear HB; have BK237 := n0_; have BK238 := n1_; have HB := n2_; clear n0_ n1_ n2_; (try clear hb); (try clear hb2); (try clear hk); (try clear hi); (try (have hcz1_0 : w_1.cell? ⟨gb238, 0, none⟩ = some (.int .i64 a1_0) := (blk_cell BK238.out 0).trans rfl)); (try (have hcz1_1 : w_1.cell? ⟨gb238, 1, none⟩ = some (.int .i64 a1_1) := (blk_cell BK238.out 1).trans rfl)); (try (have hfz1_0 := blk_frozen BK238.out 0)); (try (have hfz1_1 := blk_frozen BK238.out 1)); (try (have hcz2_0 : w_1.cell? ⟨gb237, 0, none⟩ = some (.int .i64 a0_0) := (blk_cell BK237.out 0).trans rfl)); (try (have hcz2_1 : w_1.cell? ⟨gb237, 1, none⟩ = some (.int .i64 a0_1) := (blk_cell BK237.out 1).trans rfl)); (try (have hfz2_0 := blk_frozen BK237.out 0)); (try (have hfz2_1 := blk_frozen BK237.out 1)))))
  all_goals go_ret
  all_goals (exact ⟨by first | rfl | (simp [errW_none, errW_some] <;> rfl) | (simp [*, errW_none, errW_some] <;> rfl), hb_⟩)
end

section
attribute [local go_sem high] eqA120
/-! ### spec_l11Within: function 146 -/
def spec_l11Within.f (a0_0 : Int) (a0_1 : Int) (a0_2 : Int) (a0_3 : Int) (a0_4 : Int) (a0_5 : Int) (a0_6 : Bool) (a1_0 : Int) (a1_1 : Int) (a1_2 : Int) (a1_3 : Int) (a1_4 : Int) (a1_5 : Int) (a1_6 : Bool) : Option (Bool) := (spec_IsGrant.f a0_0 a0_1 a0_2 a0_3 a0_4 a0_5 a0_6).bind fun t243 => (if t243 = true then ((spec_IsGrant.f a1_0 a1_1 a1_2 a1_3 a1_4 a1_5 a1_6).bind fun t244 => (if t244 = true then (if a0_0 = a1_0 then (if a0_3 = a1_3 then ((spec_IsNarrower.f a0_1 a0_2 a1_1 a1_2).bind fun t245 => (if t245 = true then (if a1_4 ≤ a0_4 then (if a1_5 ≥ a0_5 then (if a0_6 = true then (some true) else (some (!a1_6))) else (some false)) else (some false)) else (some false))) else (some false)) else (some false)) else (some false))) else (some false))
set_option maxHeartbeats 8000000 in
set_option maxRecDepth 100000 in
theorem spec_l11Within.calls (a0_0 : Int) (a0_1 : Int) (a0_2 : Int) (a0_3 : Int) (a0_4 : Int) (a0_5 : Int) (a0_6 : Bool) (a1_0 : Int) (a1_1 : Int) (a1_2 : Int) (a1_3 : Int) (a1_4 : Int) (a1_5 : Int) (a1_6 : Bool) (r : Bool) (w : World) (h : spec_l11Within.f a0_0 a0_1 a0_2 a0_3 a0_4 a0_5 a0_6 a1_0 a1_1 a1_2 a1_3 a1_4 a1_5 a1_6 = some r) :
    Calls Try.prog 146 #[.agg #[.int .i64 a0_0, .int .i64 a0_1, .int .i64 a0_2, .int .i64 a0_3, .int .i64 a0_4, .int .i64 a0_5, .bool a0_6], .agg #[.int .i64 a1_0, .int .i64 a1_1, .int .i64 a1_2, .int .i64 a1_3, .int .i64 a1_4, .int .i64 a1_5, .bool a1_6]] w fun e w' => e = .returned (.bool r) ∧ Below w.heap.size w w' := by
  have hu132 := Try.underlying132
  have hu130 := Try.underlying130
  have HB := Aside0.mk (Below.refl w.heap.size w)
  have H : ((spec_IsGrant.f a0_0 a0_1 a0_2 a0_3 a0_4 a0_5 a0_6).bind fun t243 => (if t243 = true then ((spec_IsGrant.f a1_0 a1_1 a1_2 a1_3 a1_4 a1_5 a1_6).bind fun t244 => (if t244 = true then (if a0_0 = a1_0 then (if a0_3 = a1_3 then ((spec_IsNarrower.f a0_1 a0_2 a1_1 a1_2).bind fun t245 => (if t245 = true then (if a1_4 ≤ a0_4 then (if a1_5 ≥ a0_5 then (if a0_6 = true then (some true) else (some (!a1_6))) else (some false)) else (some false)) else (some false))) else (some false)) else (some false)) else (some false))) else (some false))) = some r := h
  clear h
  replace H := Option.bind_eq_some_iff.mp H
  obtain ⟨t243, A30, H⟩ := H
  replace H : (if t243 = true then ((spec_IsGrant.f a1_0 a1_1 a1_2 a1_3 a1_4 a1_5 a1_6).bind fun t244 => (if t244 = true then (if a0_0 = a1_0 then (if a0_3 = a1_3 then ((spec_IsNarrower.f a0_1 a0_2 a1_1 a1_2).bind fun t245 => (if t245 = true then (if a1_4 ≤ a0_4 then (if a1_5 ≥ a0_5 then (if a0_6 = true then (some true) else (some (!a1_6))) else (some false)) else (some false)) else (some false))) else (some false)) else (some false)) else (some false))) else (some false)) = some r := H
  have A3 := Aside0.mk A30
  clear A30
  refine Or.elim (Classical.em (t243 = true)) (fun c4 => ?pc4) (fun c4 => ?nc4)
  case' pc4 =>
    subst c4
    have H1 : ((spec_IsGrant.f a1_0 a1_1 a1_2 a1_3 a1_4 a1_5 a1_6).bind fun t244 => (if t244 = true then (if a0_0 = a1_0 then (if a0_3 = a1_3 then ((spec_IsNarrower.f a0_1 a0_2 a1_1 a1_2).bind fun t245 => (if t245 = true then (if a1_4 ≤ a0_4 then (if a1_5 ≥ a0_5 then (if a0_6 = true then (some true) else (some (!a1_6))) else (some false)) else (some false)) else (some false))) else (some false)) else (some false)) else (some false))) = some r := by rw [if_pos rfl] at H; exact H
    clear H
    have H := H1
    clear H1
    replace H := Option.bind_eq_some_iff.mp H
    obtain ⟨t244, A50, H⟩ := H
    replace H : (if t244 = true then (if a0_0 = a1_0 then (if a0_3 = a1_3 then ((spec_IsNarrower.f a0_1 a0_2 a1_1 a1_2).bind fun t245 => (if t245 = true then (if a1_4 ≤ a0_4 then (if a1_5 ≥ a0_5 then (if a0_6 = true then (some true) else (some (!a1_6))) else (some false)) else (some false)) else (some false))) else (some false)) else (some false)) else (some false)) = some r := H
    have A5 := Aside0.mk A50
    clear A50
    refine Or.elim (Classical.em (t244 = true)) (fun c6 => ?pc6) (fun c6 => ?nc6)
    case' pc6 =>
      subst c6
      have H1 : (if a0_0 = a1_0 then (if a0_3 = a1_3 then ((spec_IsNarrower.f a0_1 a0_2 a1_1 a1_2).bind fun t245 => (if t245 = true then (if a1_4 ≤ a0_4 then (if a1_5 ≥ a0_5 then (if a0_6 = true then (some true) else (some (!a1_6))) else (some false)) else (some false)) else (some false))) else (some false)) else (some false)) = some r := by rw [if_pos rfl] at H; exact H
      clear H
      have H := H1
      clear H1
      refine Or.elim (Classical.em (a0_0 = a1_0)) (fun c7 => ?pc7) (fun c7 => ?nc7)
      case' pc7 =>
        rw [if_pos c7] at H
        have c7b0 : (a0_0 == a1_0) = true := beq_iff_eq.mpr c7
        have c7b1 : (a0_0 != a1_0) = false := bne_eq_false_iff_eq.mpr c7
        clear c7
        refine Or.elim (Classical.em (a0_3 = a1_3)) (fun c8 => ?pc8) (fun c8 => ?nc8)
        case' pc8 =>
          rw [if_pos c8] at H
          have c8b0 : (a0_3 == a1_3) = true := beq_iff_eq.mpr c8
          have c8b1 : (a0_3 != a1_3) = false := bne_eq_false_iff_eq.mpr c8
          clear c8
          replace H := Option.bind_eq_some_iff.mp H
          obtain ⟨t245, A90, H⟩ := H
          replace H : (if t245 = true then (if a1_4 ≤ a0_4 then (if a1_5 ≥ a0_5 then (if a0_6 = true then (some true) else (some (!a1_6))) else (some false)) else (some false)) else (some false)) = some r := H
          have A9 := Aside0.mk A90
          clear A90
          refine Or.elim (Classical.em (t245 = true)) (fun c10 => ?pc10) (fun c10 => ?nc10)
          case' pc10 =>
            subst c10
            have H1 : (if a1_4 ≤ a0_4 then (if a1_5 ≥ a0_5 then (if a0_6 = true then (some true) else (some (!a1_6))) else (some false)) else (some false)) = some r := by rw [if_pos rfl] at H; exact H
            clear H
            have H := H1
            clear H1
            refine Or.elim (Classical.em (a1_4 ≤ a0_4)) (fun c11 => ?pc11) (fun c11 => ?nc11)
            case' pc11 =>
              rw [if_pos c11] at H
              have c11b0 : decide (a1_4 ≤ a0_4) = true := decide_eq_true c11
              clear c11
              refine Or.elim (Classical.em (a1_5 ≥ a0_5)) (fun c12 => ?pc12) (fun c12 => ?nc12)
              case' pc12 =>
                rw [if_pos c12] at H
                have c12b0 : decide (a0_5 ≤ a1_5) = true := decide_eq_true c12
                clear c12
                refine Or.elim (Classical.em (a0_6 = true)) (fun c13 => ?pc13) (fun c13 => ?nc13)
                case' pc13 =>
                  subst c13
                  have H1 : (some true) = some r := by rw [if_pos rfl] at H; exact H
                  clear H
                  have H := H1
                  clear H1
                  obtain rfl := Option.some.inj H
                case' nc13 =>
                  replace c13 := Bool.eq_false_iff.mpr c13
                  subst c13
                  have H1 : (some (!a1_6)) = some r := by rw [if_neg (show ¬ (false = true) by decide)] at H; exact H
                  clear H
                  have H := H1
                  clear H1
                  obtain rfl := Option.some.inj H
              case' nc12 =>
                rw [if_neg c12] at H
                have c12b0 : decide (a0_5 ≤ a1_5) = false := decide_eq_false c12
                clear c12
                obtain rfl := Option.some.inj H
            case' nc11 =>
              rw [if_neg c11] at H
              have c11b0 : decide (a1_4 ≤ a0_4) = false := decide_eq_false c11
              clear c11
              obtain rfl := Option.some.inj H
          case' nc10 =>
            replace c10 := Bool.eq_false_iff.mpr c10
            subst c10
            have H1 : (some false) = some r := by rw [if_neg (show ¬ (false = true) by decide)] at H; exact H
            clear H
            have H := H1
            clear H1
            obtain rfl := Option.some.inj H
        case' nc8 =>
          rw [if_neg c8] at H
          have c8b0 : (a0_3 == a1_3) = false := beq_eq_false_iff_ne.mpr c8
          have c8b1 : (a0_3 != a1_3) = true := bne_iff_ne.mpr c8
          obtain rfl := Option.some.inj H
      case' nc7 =>
        rw [if_neg c7] at H
        have c7b0 : (a0_0 == a1_0) = false := beq_eq_false_iff_ne.mpr c7
        have c7b1 : (a0_0 != a1_0) = true := bne_iff_ne.mpr c7
        obtain rfl := Option.some.inj H
    case' nc6 =>
      replace c6 := Bool.eq_false_iff.mpr c6
      subst c6
      have H1 : (some false) = some r := by rw [if_neg (show ¬ (false = true) by decide)] at H; exact H
      clear H
      have H := H1
      clear H1
      obtain rfl := Option.some.inj H
  case' nc4 =>
    replace c4 := Bool.eq_false_iff.mpr c4
    subst c4
    have H1 : (some false) = some r := by rw [if_neg (show ¬ (false = true) by decide)] at H; exact H
    clear H
    have H := H1
    clear H1
    obtain rfl := Option.some.inj H
  all_goals go_enter Try.func146, Try.ntmps146
  all_goals (go_wp2_with (first | ((with_reducible refine gate_dst (N := 2) rfl ?_); refine box_event ?hg (N := 2) ?hd (cs := #[.int .i64 a0_0, .int .i64 a0_1, .int .i64 a0_2, .int .i64 a0_3, .int .i64 a0_4, .int .i64 a0_5, .bool true]) (t := 132) ?hr ?_; (case hd => rfl); (case hg => rfl); (case hr => first | (go_simp; done) | (go_simp; rfl)); intro gb241 hg w_1 hbox hb; have n0_ := Aside0.mk (below_step hb_ hb); have n1_ := Aside0.mk (hbox); have n2_ := Aside0.mk ((by rw [hg]; exact (below_size hb_) : w.heap.size ≤ gb241)); have n3_ := Aside0.mk ((by rw [hg]; exact (below_size hb_) : w.heap.size ≤ gb241)); clear HB; have HB := n0_; have BK241 := n1_; have GW241 := n2_; have GE241 := n3_; clear n0_ n1_ n2_ n3_; clear hb hbox hg) | ((with_reducible refine gate_dst (N := 3) rfl ?_); refine box_event ?hg (N := 3) ?hd (cs := #[.int .i64 a1_0, .int .i64 a1_1, .int .i64 a1_2, .int .i64 a1_3, .int .i64 a1_4, .int .i64 a1_5, .bool a1_6]) (t := 132) ?hr ?_; (case hd => rfl); (case hg => rfl); (case hr => first | (go_simp; done) | (go_simp; rfl)); intro gb242 hg w_1 hbox hb; have n0_ := Aside0.mk (blk_below (g := gb241) bk_ hb); have n1_ := Aside0.mk (below_step hb_ hb); have n2_ := Aside0.mk (hbox); have n3_ := Aside0.mk ((by rw [hg]; exact (below_size hb_) : w.heap.size ≤ gb242)); have n4_ := Aside0.mk ((by rw [hg]; exact (below_size hb_) : w.heap.size ≤ gb242)); have n5_ := Aside0.mk ((by rw [hg]; exact Nat.ne_of_lt (blk_lt (g := gb241) bk_) : gb241 ≠ gb242)); have n6_ := Aside0.mk ((by rw [hg]; exact Nat.ne_of_gt (blk_lt (g := gb241) bk_) : gb242 ≠ gb241)); clear BK241; clear HB; have BK241 := n0_; have HB := n1_; have BK242 := n2_; have GW242 := n3_; have GE242 := n4_; have NB241_242 := n5_; have NB242_241 := n6_; clear n0_ n1_ n2_ n3_ n4_ n5_ n6_; clear hb hbox hg; (try (have hnb28 := NB241_242.out)); (try (have hnc28 := NB242_241.out)); (try (have hcz1_0 : w_1.cell? ⟨gb241, 0, none⟩ = some (.int .i64 a0_0) := (blk_cell BK241.out 0).trans rfl)); (try (have hcz1_1 : w_1.cell? ⟨gb241, 1, none⟩ = some (.int .i64 a0_1) := (blk_cell BK241.out 1).trans rfl)); (try (have hcz1_2 : w_1.cell? ⟨gb241, 2, none⟩ = some (.int .i64 a0_2) := (blk_cell BK241.out 2).trans rfl)); (try (have hcz1_3 : w_1.cell? ⟨gb241, 3, none⟩ = some (.int .i64 a0_3) := (blk_cell BK241.out 3).trans rfl)); (try (have hcz1_4 : w_1.cell? ⟨gb241, 4, none⟩ = some (.int .i64 a0_4) := (blk_cell BK241.out 4).trans rfl)); (try (have hcz1_5 : w_1.cell? ⟨gb241, 5, none⟩ = some (.int .i64 a0_5) := (blk_cell BK241.out 5).trans rfl)); (try (have hcz1_6 : w_1.cell? ⟨gb241, 6, none⟩ = some (.bool false) := (blk_cell BK241.out 6).trans rfl)); (try (have hfz1_0 := blk_frozen BK241.out 0)); (try (have hfz1_1 := blk_frozen BK241.out 1)); (try (have hfz1_2 := blk_frozen BK241.out 2)); (try (have hfz1_3 := blk_frozen BK241.out 3)); (try (have hfz1_4 := blk_frozen BK241.out 4)); (try (have hfz1_5 := blk_frozen BK241.out 5)); (try (have hfz1_6 := blk_frozen BK241.out 6)); (try (have hcz1_6 : w_1.cell? ⟨gb241, 6, none⟩ = some (.bool true) := (blk_cell BK241.out 6).trans rfl)); (try (have hcz1_6 : w_1.cell? ⟨gb241, 6, none⟩ = some (.bool a0_6) := (blk_cell BK241.out 6).trans rfl))) | ((with_reducible refine gate_callee (f := 115) rfl ?_); refine goesL_ (some 6) rfl rfl Try.func115 (by kernel_rfl) rfl #[.agg #[.int .i64 a0_0, .int .i64 a0_1, .int .i64 a0_2, .int .i64 a0_3, .int .i64 a0_4, .int .i64 a0_5, .bool true]] rfl la_ ?_; (with_reducible refine (spec_IsGrant.calls _ _ _ _ _ _ _ _ _ A3.out).mono ?_); rintro e w_1 ⟨rfl, hb⟩; refine ⟨_, rfl, ?_⟩; have n0_ := Aside0.mk (blk_below (g := gb241) bk_ hb); have n1_ := Aside0.mk (blk_below (g := gb242) bk_ hb); have n2_ := Aside0.mk (below_step hb_ hb); clear BK241; clear BK242; clear HB; have BK241 := n0_; have BK242 := n1_; have HB := n2_; clear n0_ n1_ n2_; (try clear hb); (try clear hb2); (try clear hk); (try clear hi); have hcz1_0 : w_1.cell? ⟨gb242, 0, none⟩ = some (.int .i64 a1_0) := (blk_cell BK242.out 0).trans rfl; have hcz1_1 : w_1.cell? ⟨gb242, 1, none⟩ = some (.int .i64 a1_1) := (blk_cell BK242.out 1).trans rfl; have hcz1_2 : w_1.cell? ⟨gb242, 2, none⟩ = some (.int .i64 a1_2) := (blk_cell BK242.out 2).trans rfl; have hcz1_3 : w_1.cell? ⟨gb242, 3, none⟩ = some (.int .i64 a1_3) := (blk_cell BK242.out 3).trans rfl; have hcz1_4 : w_1.cell? ⟨gb242, 4, none⟩ = some (.int .i64 a1_4) := (blk_cell BK242.out 4).trans rfl; have hcz1_5 : w_1.cell? ⟨gb242, 5, none⟩ = some (.int .i64 a1_5) := (blk_cell BK242.out 5).trans rfl; have hcz1_6 : w_1.cell? ⟨gb242, 6, none⟩ = some (.bool a1_6) := (blk_cell BK242.out 6).trans rfl; have hfz1_0 := blk_frozen BK242.out 0; have hfz1_1 := blk_frozen BK242.out 1; have hfz1_2 := blk_frozen BK242.out 2; have hfz1_3 := blk_frozen BK242.out 3; have hfz1_4 := blk_frozen BK242.out 4; have hfz1_5 := blk_frozen BK242.out 5; have hfz1_6 := blk_frozen BK242.out 6) | (go_at_call 115; (with_reducible refine (spec_IsGrant.calls _ _ _ _ _ _ _ _ _ A5.out).mono ?_); rintro e w_1 ⟨rfl, hb⟩; have n0_ := Aside0.mk (blk_below (g := gb241) bk_ hb); have n1_ := Aside0.mk (blk_below (g := gb242) bk_ hb); have n2_ := Aside0.mk (below_step hb_ hb); clear BK241; clear BK242; clear HB; have BK241 := n0_; have BK242 := n1_; have HB := n2_; clear n0_ n1_ n2_; (try clear hb); (try clear hb2); (try clear hk); (try clear hi); (try (have hcz1_0 : w_1.cell? ⟨gb241, 0, none⟩ = some (.int .i64 a0_0) := (blk_cell BK241.out 0).trans rfl)); (try (have hcz1_1 : w_1.cell? ⟨gb241, 1, none⟩ = some (.int .i64 a0_1) := (blk_cell BK241.out 1).trans rfl)); (try (have hcz1_2 : w_1.cell? ⟨gb241, 2, none⟩ = some (.int .i64 a0_2) := (blk_cell BK241.out 2).trans rfl)); (try (have hcz1_3 : w_1.cell? ⟨gb241, 3, none⟩ = some (.int .i64 a0_3) := (blk_cell BK241.out 3).trans rfl)); (try (have hcz1_4 : w_1.cell? ⟨gb241, 4, none⟩ = some (.int .i64 a0_4) := (blk_cell BK241.out 4).trans rfl)); (try (have hcz1_5 : w_1.cell? ⟨gb241, 5, none⟩ = some (.int .i64 a0_5) := (blk_cell BK241.out 5).trans rfl)); (try (have hcz1_6 : w_1.cell? ⟨gb241, 6, none⟩ = some (.bool false) := (blk_cell BK241.out 6).trans rfl)); (try (have hfz1_0 := blk_frozen BK241.out 0)); (try (have hfz1_1 := blk_frozen BK241.out 1)); (try (have hfz1_2 := blk_frozen BK241.out 2)); (try (have hfz1_3 := blk_frozen BK241.out 3)); (try (have hfz1_4 := blk_frozen BK241.out 4)); (try (have hfz1_5 := blk_frozen BK241.out 5)); (try (have hfz1_6 := blk_frozen BK241.out 6)); (try (have hcz2_0 : w_1.cell? ⟨gb242, 0, none⟩ = some (.int .i64 a1_0) := (blk_cell BK242.out 0).trans rfl)); (try (have hcz2_1 : w_1.cell? ⟨gb242, 1, none⟩ = some (.int .i64 a1_1) := (blk_cell BK242.out 1).trans rfl)); (try (have hcz2_2 : w_1.cell? ⟨gb242, 2, none⟩ = some (.int .i64 a1_2) := (blk_cell BK242.out 2).trans rfl)); (try (have hcz2_3 : w_1.cell? ⟨gb242, 3, none⟩ = some (.int .i64 a1_3) := (blk_cell BK242.out 3).trans rfl)); (try (have hcz2_4 : w_1.cell? ⟨gb242, 4, none⟩ = some (.int .i64 a1_4) := (blk_cell BK242.out 4).trans rfl)); (try (have hcz2_5 : w_1.cell? ⟨gb242, 5, none⟩ = some (.int .i64 a1_5) := (blk_cell BK242.out 5).trans rfl)); (try (have hcz2_6 : w_1.cell? ⟨gb242, 6, none⟩ = some (.bool a1_6) := (blk_cell BK242.out 6).trans rfl)); (try (have hfz2_0 := blk_frozen BK242.out 0)); (try (have hfz2_1 := blk_frozen BK242.out 1)); (try (have hfz2_2 := blk_frozen BK242.out 2)); (try (have hfz2_3 := blk_frozen BK242.out 3)); (try (have hfz2_4 := blk_frozen BK242.out 4)); (try (have hfz2_5 := blk_frozen BK242.out 5)); (try (have hfz2_6 := blk_frozen BK242.out 6)); (try (have hcz1_6 : w_1.cell? ⟨gb241, 6, none⟩ = some (.bool true) := (blk_cell BK241.out 6).trans rfl)); (try (have hcz1_6 : w_1.cell? ⟨gb241, 6, none⟩ = some (.bool a0_6) := (blk_cell BK241.out 6).trans rfl))) | (go_at_call 175; (with_reducible refine (spec_IsNarrower.calls _ _ _ _ _ _ A9.out).mono ?_); rintro e w_1 ⟨rfl, hb⟩; have n0_ := Aside0.mk (blk_below (g := gb241) bk_ hb); have n1_ := Aside0.mk (blk_below (g := gb242) bk_ hb); have n2_ := Aside0.mk (below_step hb_ hb); clear BK241; clear BK242; clear HB; have BK241 := n0_; have BK242 := n1_; have HB := n2_; clear n0_ n1_ n2_; (try clear hb); (try clear hb2); (try clear hk); (try clear hi); (try (have hcz1_0 : w_1.cell? ⟨gb242, 0, none⟩ = some (.int .i64 a1_0) := (blk_cell BK242.out 0).trans rfl)); (try (have hcz1_1 : w_1.cell? ⟨gb242, 1, none⟩ = some (.int .i64 a1_1) := (blk_cell BK242.out 1).trans rfl)); (try (have hcz1_2 : w_1.cell? ⟨gb242, 2, none⟩ = some (.int .i64 a1_2) := (blk_cell BK242.out 2).trans rfl)); (try (have hcz1_3 : w_1.cell? ⟨gb242, 3, none⟩ = some (.int .i64 a1_3) := (blk_cell BK242.out 3).trans rfl)); (try (have hcz1_4 : w_1.cell? ⟨gb242, 4, none⟩ = some (.int .i64 a1_4) := (blk_cell BK242.out 4).trans rfl)); (try (have hcz1_5 : w_1.cell? ⟨gb242, 5, none⟩ = some (.int .i64 a1_5) := (blk_cell BK242.out 5).trans rfl)); (try (have hcz1_6 : w_1.cell? ⟨gb242, 6, none⟩ = some (.bool a1_6) := (blk_cell BK242.out 6).trans rfl)); (try (have hfz1_0 := blk_frozen BK242.out 0)); (try (have hfz1_1 := blk_frozen BK242.out 1)); (try (have hfz1_2 := blk_frozen BK242.out 2)); (try (have hfz1_3 := blk_frozen BK242.out 3)); (try (have hfz1_4 := blk_frozen BK242.out 4)); (try (have hfz1_5 := blk_frozen BK242.out 5)); (try (have hfz1_6 := blk_frozen BK242.out 6)); (try (have hcz2_0 : w_1.cell? ⟨gb241, 0, none⟩ = some (.int .i64 a0_0) := (blk_cell BK241.out 0).trans rfl)); (try (have hcz2_1 : w_1.cell? ⟨gb241, 1, none⟩ = some (.int .i64 a0_1) := (blk_cell BK241.out 1).trans rfl)); (try (have hcz2_2 : w_1.cell? ⟨gb241, 2, none⟩ = some (.int .i64 a0_2) := (blk_cell BK241.out 2).trans rfl)); (try (have hcz2_3 : w_1.cell? ⟨gb241, 3, none⟩ = some (.int .i64 a0_3) := (blk_cell BK241.out 3).trans rfl)); (try (have hcz2_4 : w_1.cell? ⟨gb241, 4, none⟩ = some (.int .i64 a0_4) := (blk_cell BK241.out 4).trans rfl)); (try (have hcz2_5 : w_1.cell? ⟨gb241, 5, none⟩ = some (.int .i64 a0_5) := (blk_cell BK241.out 5).trans rfl)); (try (have hcz2_6 : w_1.cell? ⟨gb241, 6, none⟩ = some (.bool false) := (blk_cell BK241.out 6).trans rfl)); (try (have hfz2_0 := blk_frozen BK241.out 0)); (try (have hfz2_1 := blk_frozen BK241.out 1)); (try (have hfz2_2 := blk_frozen BK241.out 2)); (try (have hfz2_3 := blk_frozen BK241.out 3)); (try (have hfz2_4 := blk_frozen BK241.out 4)); (try (have hfz2_5 := blk_frozen BK241.out 5)); (try (have hfz2_6 := blk_frozen BK241.out 6)); (try (have hcz2_6 : w_1.cell? ⟨gb241, 6, none⟩ = some (.bool true) := (blk_cell BK241.out 6).trans rfl)); (try (have hcz2_6 : w_1.cell? ⟨gb241, 6, none⟩ = some (.bool a0_6) := (blk_cell BK241.out 6).trans rfl))) | ((with_reducible refine gate_dst (N := 2) rfl ?_); refine box_event ?hg (N := 2) ?hd (cs := #[.int .i64 a0_0, .int .i64 a0_1, .int .i64 a0_2, .int .i64 a0_3, .int .i64 a0_4, .int .i64 a0_5, .bool false]) (t := 132) ?hr ?_; (case hd => rfl); (case hg => rfl); (case hr => first | (go_simp; done) | (go_simp; rfl)); intro gb241 hg w_1 hbox hb; have n0_ := Aside0.mk (below_step hb_ hb); have n1_ := Aside0.mk (hbox); have n2_ := Aside0.mk ((by rw [hg]; exact (below_size hb_) : w.heap.size ≤ gb241)); have n3_ := Aside0.mk ((by rw [hg]; exact (below_size hb_) : w.heap.size ≤ gb241)); clear HB; have HB := n0_; have BK241 := n1_; have GW241 := n2_; have GE241 := n3_; clear n0_ n1_ n2_ n3_; clear hb hbox hg) | ((with_reducible refine gate_callee (f := 115) rfl ?_); refine goesL_ (some 6) rfl rfl Try.func115 (by kernel_rfl) rfl #[.agg #[.int .i64 a0_0, .int .i64 a0_1, .int .i64 a0_2, .int .i64 a0_3, .int .i64 a0_4, .int .i64 a0_5, .bool false]] rfl la_ ?_; (with_reducible refine (spec_IsGrant.calls _ _ _ _ _ _ _ _ _ A3.out).mono ?_); rintro e w_1 ⟨rfl, hb⟩; refine ⟨_, rfl, ?_⟩; have n0_ := Aside0.mk (blk_below (g := gb241) bk_ hb); have n1_ := Aside0.mk (blk_below (g := gb242) bk_ hb); have n2_ := Aside0.mk (below_step hb_ hb); clear BK241; clear BK242; clear HB; have BK241 := n0_; have BK242 := n1_; have HB := n2_; clear n0_ n1_ n2_; (try clear hb); (try clear hb2); (try clear hk); (try clear hi); have hcz1_0 : w_1.cell? ⟨gb242, 0, none⟩ = some (.int .i64 a1_0) := (blk_cell BK242.out 0).trans rfl; have hcz1_1 : w_1.cell? ⟨gb242, 1, none⟩ = some (.int .i64 a1_1) := (blk_cell BK242.out 1).trans rfl; have hcz1_2 : w_1.cell? ⟨gb242, 2, none⟩ = some (.int .i64 a1_2) := (blk_cell BK242.out 2).trans rfl; have hcz1_3 : w_1.cell? ⟨gb242, 3, none⟩ = some (.int .i64 a1_3) := (blk_cell BK242.out 3).trans rfl; have hcz1_4 : w_1.cell? ⟨gb242, 4, none⟩ = some (.int .i64 a1_4) := (blk_cell BK242.out 4).trans rfl; have hcz1_5 : w_1.cell? ⟨gb242, 5, none⟩ = some (.int .i64 a1_5) := (blk_cell BK242.out 5).trans rfl; have hcz1_6 : w_1.cell? ⟨gb242, 6, none⟩ = some (.bool a1_6) := (blk_cell BK242.out 6).trans rfl; have hfz1_0 := blk_frozen BK242.out 0; have hfz1_1 := blk_frozen BK242.out 1; have hfz1_2 := blk_frozen BK242.out 2; have hfz1_3 := blk_frozen BK242.out 3; have hfz1_4 := blk_frozen BK242.out 4; have hfz1_5 := blk_frozen BK242.out 5; have hfz1_6 := blk_frozen BK242.out 6) | ((with_reducible refine gate_dst (N := 2) rfl ?_); refine box_event ?hg (N := 2) ?hd (cs := #[.int .i64 a0_0, .int .i64 a0_1, .int .i64 a0_2, .int .i64 a0_3, .int .i64 a0_4, .int .i64 a0_5, .bool a0_6]) (t := 132) ?hr ?_; (case hd => rfl); (case hg => rfl); (case hr => first | (go_simp; done) | (go_simp; rfl)); intro gb241 hg w_1 hbox hb; have n0_ := Aside0.mk (below_step hb_ hb); have n1_ := Aside0.mk (hbox); have n2_ := Aside0.mk ((by rw [hg]; exact (below_size hb_) : w.heap.size ≤ gb241)); have n3_ := Aside0.mk ((by rw [hg]; exact (below_size hb_) : w.heap.size ≤ gb241)); clear HB; have HB := n0_; have BK241 := n1_; have GW241 := n2_; have GE241 := n3_; clear n0_ n1_ n2_ n3_; clear hb hbox hg) | ((with_reducible refine gate_callee (f := 115) rfl ?_); refine goesL_ (some 6) rfl rfl Try.func115 (by kernel_rfl) rfl #[.agg #[.int .i64 a0_0, .int .i64 a0_1, .int .i64 a0_2, .int .i64 a0_3, .int .i64 a0_4, .int .i64 a0_5, .bool a0_6]] rfl la_ ?_; (with_reducible refine (spec_IsGrant.calls _ _ _ _ _ _ _ _ _ A3.out).mono ?_); rintro e w_1 ⟨rfl, hb⟩; refine ⟨_, rfl, ?_⟩; have n0_ := Aside0.mk (blk_below (g := gb241) bk_ hb); have n1_ := Aside0.mk (blk_below (g := gb242) bk_ hb); have n2_ := Aside0.mk (below_step hb_ hb); clear BK241; clear BK242; clear HB; have BK241 := n0_; have BK242 := n1_; have HB := n2_; clear n0_ n1_ n2_; (try clear hb); (try clear hb2); (try clear hk); (try clear hi); (try (have hcz1_0 : w_1.cell? ⟨gb242, 0, none⟩ = some (.int .i64 a1_0) := (blk_cell BK242.out 0).trans rfl)); (try (have hcz1_1 : w_1.cell? ⟨gb242, 1, none⟩ = some (.int .i64 a1_1) := (blk_cell BK242.out 1).trans rfl)); (try (have hcz1_2 : w_1.cell? ⟨gb242, 2, none⟩ = some (.int .i64 a1_2) := (blk_cell BK242.out 2).trans rfl)); (try (have hcz1_3 : w_1.cell? ⟨gb242, 3, none⟩ = some (.int .i64 a1_3) := (blk_cell BK242.out 3).trans rfl)); (try (have hcz1_4 : w_1.cell? ⟨gb242, 4, none⟩ = some (.int .i64 a1_4) := (blk_cell BK242.out 4).trans rfl)); (try (have hcz1_5 : w_1.cell? ⟨gb242, 5, none⟩ = some (.int .i64 a1_5) := (blk_cell BK242.out 5).trans rfl)); (try (have hcz1_6 : w_1.cell? ⟨gb242, 6, none⟩ = some (.bool a1_6) := (blk_cell BK242.out 6).trans rfl)); (try (have hfz1_0 := blk_frozen BK242.out 0)); (try (have hfz1_1 := blk_frozen BK242.out 1)); (try (have hfz1_2 := blk_frozen BK242.out 2)); (try (have hfz1_3 := blk_frozen BK242.out 3)); (try (have hfz1_4 := blk_frozen BK242.out 4)); (try (have hfz1_5 := blk_frozen BK242.out 5)); (try (have hfz1_6 := blk_frozen BK242.out 6)))))
  all_goals go_ret
  all_goals (exact ⟨by first | rfl | (simp [errW_none, errW_some] <;> rfl) | (simp [*, errW_none, errW_some] <;> rfl), hb_⟩)
end

section
attribute [local go_sem high] eqA120
/-! ### spec_IsWithinGrants: function 103 -/
mutual
def spec_IsWithinGrants.l0 : Nat → List (S132) → List (S132) → Int → Option (Bool)
  | 0, _, _, _ => none
  | k + 1, x0, x1, x5 => if x5 < (x0.length : Int) then (spec_IsWithinGrants.l1 k x0 x1 x5 false 0) else (some true)
def spec_IsWithinGrants.l1 : Nat → List (S132) → List (S132) → Int → Bool → Int → Option (Bool)
  | 0, _, _, _, _, _ => none
  | k + 1, x0, x1, x5, x6, x7 => if x7 < (x1.length : Int) then (if x6 = true then (spec_IsWithinGrants.l1 k x0 x1 x5 true (wrap64 (x7 + 1))) else (if 0 ≤ x5 then (if x5 < (x0.length : Int) then (if 0 ≤ x7 then ((spec_l11Within.f ((rd_T132 x0 x5).f0) ((rd_T132 x0 x5).f1.f0) ((rd_T132 x0 x5).f1.f1) ((rd_T132 x0 x5).f2) ((rd_T132 x0 x5).f3) ((rd_T132 x0 x5).f4) ((rd_T132 x0 x5).f5) ((rd_T132 x1 x7).f0) ((rd_T132 x1 x7).f1.f0) ((rd_T132 x1 x7).f1.f1) ((rd_T132 x1 x7).f2) ((rd_T132 x1 x7).f3) ((rd_T132 x1 x7).f4) ((rd_T132 x1 x7).f5)).bind fun t248 => (spec_IsWithinGrants.l1 k x0 x1 x5 t248 (wrap64 (x7 + 1)))) else (none)) else (none)) else (none))) else (if x6 = true then (spec_IsWithinGrants.l0 k x0 x1 (wrap64 (x5 + 1))) else (some false))
end
def spec_IsWithinGrants.f (k : Nat) (l0 : List (S132)) (l1 : List (S132)) : Option (Bool) := spec_IsWithinGrants.l0 k l0 l1 0
theorem spec_IsWithinGrants.mono_l : ∀ k, (∀ y0 y1 y2, LeO (spec_IsWithinGrants.l0 k y0 y1 y2) (spec_IsWithinGrants.l0 (k + 1) y0 y1 y2)) ∧ (∀ y0 y1 y2 y3 y4, LeO (spec_IsWithinGrants.l1 k y0 y1 y2 y3 y4) (spec_IsWithinGrants.l1 (k + 1) y0 y1 y2 y3 y4))
  | 0 => ⟨fun _ _ _ r h => by simp [spec_IsWithinGrants.l0] at h, fun _ _ _ _ _ r h => by simp [spec_IsWithinGrants.l1] at h⟩
  | k + 1 => by
    obtain ⟨ih0, ih1⟩ := spec_IsWithinGrants.mono_l k
    refine ⟨?_, ?_⟩
    · intro y0 y1 y2
      unfold spec_IsWithinGrants.l0
      repeat' first
      | (with_reducible exact ih0 _ _ _)
      | (with_reducible exact ih1 _ _ _ _ _)
      | (with_reducible exact LeO.refl _)
      | (with_reducible exact LeO.none _)
      | (with_reducible refine LeO.ite ?_ ?_)
      | (with_reducible refine LeO.bind ?_ (fun _ => ?_))
      | exact ih0 _ _ _
      | exact ih1 _ _ _ _ _
      | exact LeO.none _
      | refine LeO.ite ?_ ?_
      | refine LeO.bind ?_ (fun _ => ?_)
    · intro y0 y1 y2 y3 y4
      unfold spec_IsWithinGrants.l1
      repeat' first
      | (with_reducible exact ih0 _ _ _)
      | (with_reducible exact ih1 _ _ _ _ _)
      | (with_reducible exact LeO.refl _)
      | (with_reducible exact LeO.none _)
      | (with_reducible refine LeO.ite ?_ ?_)
      | (with_reducible refine LeO.bind ?_ (fun _ => ?_))
      | exact ih0 _ _ _
      | exact ih1 _ _ _ _ _
      | exact LeO.none _
      | refine LeO.ite ?_ ?_
      | refine LeO.bind ?_ (fun _ => ?_)
theorem spec_IsWithinGrants.mono : ∀ a0 a1 k, LeO (spec_IsWithinGrants.f k a0 a1) (spec_IsWithinGrants.f (k + 1) a0 a1) := by
  intro a0 a1 k
  obtain ⟨ih0, ih1⟩ := spec_IsWithinGrants.mono_l k
  unfold spec_IsWithinGrants.f
  repeat' first
      | (with_reducible exact ih0 _ _ _)
      | (with_reducible exact ih1 _ _ _ _ _)
      | (with_reducible exact LeO.refl _)
      | (with_reducible exact LeO.none _)
      | (with_reducible refine LeO.ite ?_ ?_)
      | (with_reducible refine LeO.bind ?_ (fun _ => ?_))
      | exact ih0 _ _ _
      | exact ih1 _ _ _ _ _
      | exact LeO.none _
      | refine LeO.ite ?_ ?_
      | refine LeO.bind ?_ (fun _ => ?_)
def spec_IsWithinGrants.T8 : Bool × List (List Nat × List Nat) := (true, [([], []), ([0], [0]), ([1], [1]), ([1], [1]), ([2, 3, 1], [1, 2, 3]), ([4, 1], [1, 4]), ([1], [1]), ([1], [1]), ([6, 7, 1], [1, 6, 7]), ([8, 1], [1, 8]), ([5, 9, 1, 1], [1, 5, 9]), ([1, 10], [1, 10]), ([11, 10, 0, 1, 2, 3, 4, 5, 6, 7, 8, 9, 10, 11], [0, 11])])
def spec_IsWithinGrants.B8 : List Nat := [0, 1, 3, 3, 15, 31, 3, 3, 195, 451, 1023, 2047, 4095]
theorem spec_IsWithinGrants.tab8 : rtab .any (opsOf Try.f103 8) = spec_IsWithinGrants.T8 := by kernel_rfl
theorem spec_IsWithinGrants.bits8 : waitsOk spec_IsWithinGrants.T8.2 spec_IsWithinGrants.B8 = true := by kernel_rfl
set_option maxHeartbeats 8000000 in
set_option maxRecDepth 100000 in
theorem spec_IsWithinGrants.calls (k : Nat) (A0 : Option Addr) (c0 : Nat) (l0 : List (S132)) (A1 : Option Addr) (c1 : Nat) (l1 : List (S132)) (r : Bool) (w : World) (hr0 : Kd.C k132 w A0 l0.length l0) (hc0 : l0.length ≤ c0) (hr1 : Kd.C k132 w A1 l1.length l1) (hc1 : l1.length ≤ c1) (h : spec_IsWithinGrants.f k l0 l1 = some r) :
    Calls Try.prog 103 #[.slice A0 l0.length c0, .slice A1 l1.length c1] w fun e w' => e = .returned (.bool r) ∧ Below w.heap.size w w' := by
  have hu132 := Try.underlying132
  have HR0 := Aside0.mk hr0
  have HC0 := Aside0.mk hc0
  clear hr0 hc0
  have HR1 := Aside0.mk hr1
  have HC1 := Aside0.mk hc1
  clear hr1 hc1
  have HB := Aside0.mk (Below.refl w.heap.size w)
  have H : (spec_IsWithinGrants.l0 k l0 l1 0) = some r := h
  clear h
  have H' := Aside0.mk H
  clear H
  go_enter Try.func103, Try.ntmps103
  go_wp2
  go_loopg [5] k (fun kq v5 w' => ∃ (x5_1 : Int), v5 = .int .i64 x5_1 ∧ Aside0 (spec_IsWithinGrants.l0 kq l0 l1 x5_1 = some r) ∧ Aside0 (kq ≤ k) ∧ Aside0 (Below w.heap.size w w'))
  case atStart => exact ⟨(0), (by first | rfl | (simp; done) | (simp [*]; done)), H', ⟨Nat.le_refl _⟩, ⟨hb_⟩⟩
  case round =>
    clear H'
    try clear c1
    try clear p2
    obtain ⟨x5_1, rfl, HA, HK1, HB⟩ := hrel
    cases gk with
    | zero => exact absurd HA.out (by simp [spec_IsWithinGrants.l0])
    | succ k1 =>
      have H := HA.out
      clear HA
      simp only [spec_IsWithinGrants.l0] at H
      by_cases c3 : x5_1 < (l0.length : Int)
      · rw [if_pos c3] at H
        have c3b0 : decide (x5_1 < (l0.length : Int)) = true := decide_eq_true c3
        clear c3
        have H' := Aside0.mk H
        clear H
        go_wp2
        go_loopg [6, 7] k1 (fun kq v6 v7 w' => ∃ (x6_2 : Bool) (x7_2 : Int), v6 = .bool x6_2 ∧ v7 = .int .i64 x7_2 ∧ Aside0 (spec_IsWithinGrants.l1 kq l0 l1 x5_1 x6_2 x7_2 = some r) ∧ Aside0 (kq ≤ k1) ∧ Aside0 (Below w.heap.size w w'))
        case atStart => exact ⟨(false), (0), (by first | rfl | (simp; done) | (simp [*]; done)), (by first | rfl | (simp; done) | (simp [*]; done)), H', ⟨Nat.le_refl _⟩, ⟨hb_⟩⟩
        case round =>
          clear H'
          try clear c1
          try clear p2
          try clear c3
          try clear c3b0
          try clear p2
          obtain ⟨x6_2, x7_2, rfl, rfl, HA, HK2, HB⟩ := hrel
          cases gk with
          | zero => exact absurd HA.out (by simp [spec_IsWithinGrants.l1])
          | succ k2 =>
            have H := HA.out
            clear HA
            simp only [spec_IsWithinGrants.l1] at H
            by_cases c4 : x7_2 < (l1.length : Int)
            · rw [if_pos c4] at H
              have c4b0 : decide (x7_2 < (l1.length : Int)) = true := decide_eq_true c4
              clear c4
              by_cases c5 : x6_2 = true
              · subst c5
                have H1 : (spec_IsWithinGrants.l1 k2 l0 l1 x5_1 true (wrap64 (x7_2 + 1))) = some r := by rw [if_pos rfl] at H; exact H
                clear H
                have H := H1
                clear H1
                have H' := Aside0.mk H
                clear H
                try go_wp2
                have n0_ := Aside0.mk (below_drew1 HB.out)
                clear HB
                have HB := n0_
                clear n0_
                refine start_ (n := 13) (S := fun w' => True) (ds := []) #[false, false, false, false, false, false, false, false, false, false, false, false, false] (by kernel_rfl) rfl rfl trivial (fun hHeld => ?_); refine with_tabW spec_IsWithinGrants.tab8 spec_IsWithinGrants.bits8 (fun HT_ HW_ => ?_)
                generalize wr.drew = w6 at HB hHeld ⊢
                refine pure_ (i := 0) (N := some 20) (v := ?_) (a' := ?_) #[true, false, false, false, false, false, false, false, false, false, false, false, false] rfl rfl (any_of HT_.out (by kernel_rfl)) (fun _ _ _ h => h) (Or.inl ⟨by rfl, ?_⟩) ?_ ?_
                rotate_left
                · intro w'
                  go_simp
                  with_reducible rfl
                rotate_left
                · simp only [Act.put, List.setIfInBounds_toArray, List.set_cons_zero, List.set_cons_succ, i64_w, i32_w]
                  rfl
                refine pure_ (i := 1) (N := some 21) (v := ?_) (a' := ?_) #[true, true, false, false, false, false, false, false, false, false, false, false, false] rfl rfl (any_of HT_.out (by kernel_rfl)) (fun _ _ _ h => h) (Or.inl ⟨by rfl, ?_⟩) ?_ ?_
                rotate_left
                · intro w'
                  go_simp
                  with_reducible rfl
                rotate_left
                · simp only [Act.put, List.setIfInBounds_toArray, List.set_cons_zero, List.set_cons_succ, i64_w, i32_w]
                  rfl
                refine pure_ (i := 2) (N := some 22) (v := undef) (a' := ?_) #[true, true, true, false, false, false, false, false, false, false, false, false, false] rfl rfl (any_of HT_.out (by kernel_rfl)) (fun _ _ _ h => h) (Or.inr ⟨by rfl, rfl⟩) ?_ ?_
                rotate_left
                · simp only [Act.put, List.setIfInBounds_toArray, List.set_cons_zero, List.set_cons_succ, i64_w, i32_w]
                  rfl
                refine pure_ (i := 3) (N := some 23) (v := undef) (a' := ?_) #[true, true, true, true, false, false, false, false, false, false, false, false, false] rfl rfl (any_of HT_.out (by kernel_rfl)) (fun _ _ _ h => h) (Or.inr ⟨by rfl, rfl⟩) ?_ ?_
                rotate_left
                · simp only [Act.put, List.setIfInBounds_toArray, List.set_cons_zero, List.set_cons_succ, i64_w, i32_w]
                  rfl
                refine pure_ (i := 4) (N := some 24) (v := undef) (a' := ?_) #[true, true, true, true, true, false, false, false, false, false, false, false, false] rfl rfl (any_of HT_.out (by kernel_rfl)) (fun _ _ _ h => h) (Or.inr ⟨by rfl, rfl⟩) ?_ ?_
                rotate_left
                · simp only [Act.put, List.setIfInBounds_toArray, List.set_cons_zero, List.set_cons_succ, i64_w, i32_w]
                  rfl
                refine pure_ (i := 5) (N := some 25) (v := undef) (a' := ?_) #[true, true, true, true, true, true, false, false, false, false, false, false, false] rfl rfl (any_of HT_.out (by kernel_rfl)) (fun _ _ _ h => h) (Or.inr ⟨by rfl, rfl⟩) ?_ ?_
                rotate_left
                · simp only [Act.put, List.setIfInBounds_toArray, List.set_cons_zero, List.set_cons_succ, i64_w, i32_w]
                  rfl
                refine pure_ (i := 6) (N := some 26) (v := undef) (a' := ?_) #[true, true, true, true, true, true, true, false, false, false, false, false, false] rfl rfl (any_of HT_.out (by kernel_rfl)) (fun _ _ _ h => h) (Or.inr ⟨by rfl, rfl⟩) ?_ ?_
                rotate_left
                · simp only [Act.put, List.setIfInBounds_toArray, List.set_cons_zero, List.set_cons_succ, i64_w, i32_w]
                  rfl
                refine pure_ (i := 7) (N := some 27) (v := undef) (a' := ?_) #[true, true, true, true, true, true, true, true, false, false, false, false, false] rfl rfl (any_of HT_.out (by kernel_rfl)) (fun _ _ _ h => h) (Or.inr ⟨by rfl, rfl⟩) ?_ ?_
                rotate_left
                · simp only [Act.put, List.setIfInBounds_toArray, List.set_cons_zero, List.set_cons_succ, i64_w, i32_w]
                  rfl
                refine pure_ (i := 8) (N := some 28) (v := undef) (a' := ?_) #[true, true, true, true, true, true, true, true, true, false, false, false, false] rfl rfl (any_of HT_.out (by kernel_rfl)) (fun _ _ _ h => h) (Or.inr ⟨by rfl, rfl⟩) ?_ ?_
                rotate_left
                · simp only [Act.put, List.setIfInBounds_toArray, List.set_cons_zero, List.set_cons_succ, i64_w, i32_w]
                  rfl
                refine pure_ (i := 9) (N := some 29) (v := undef) (a' := ?_) #[true, true, true, true, true, true, true, true, true, true, false, false, false] rfl rfl (any_of HT_.out (by kernel_rfl)) (fun _ _ _ h => h) (Or.inr ⟨by rfl, rfl⟩) ?_ ?_
                rotate_left
                · simp only [Act.put, List.setIfInBounds_toArray, List.set_cons_zero, List.set_cons_succ, i64_w, i32_w]
                  rfl
                refine pure_ (i := 10) (N := some 30) (v := undef) (a' := ?_) #[true, true, true, true, true, true, true, true, true, true, true, false, false] rfl rfl (any_of HT_.out (by kernel_rfl)) (fun _ _ _ h => h) (Or.inr ⟨by rfl, rfl⟩) ?_ ?_
                rotate_left
                · simp only [Act.put, List.setIfInBounds_toArray, List.set_cons_zero, List.set_cons_succ, i64_w, i32_w]
                  rfl
                refine pure_ (i := 11) (N := some 31) (v := ?_) (a' := ?_) #[true, true, true, true, true, true, true, true, true, true, true, true, false] rfl rfl (any_of HT_.out (by kernel_rfl)) (fun _ _ _ h => h) (Or.inl ⟨by rfl, ?_⟩) ?_ ?_
                rotate_left
                · intro w'
                  go_simp
                  with_reducible rfl
                rotate_left
                · simp only [Act.put, List.setIfInBounds_toArray, List.set_cons_zero, List.set_cons_succ, i64_w, i32_w]
                  rfl
                refine pure_ (i := 12) (N := some 6) (v := ?_) (a' := ?_) #[true, true, true, true, true, true, true, true, true, true, true, true, true] rfl rfl (any_of HT_.out (by kernel_rfl)) (fun _ _ _ h => h) (Or.inl ⟨by rfl, ?_⟩) ?_ ?_
                rotate_left
                · intro w'
                  go_simp
                  with_reducible rfl
                rotate_left
                · simp only [Act.put, List.setIfInBounds_toArray, List.set_cons_zero, List.set_cons_succ, i64_w, i32_w]
                  rfl
                refine done_ (done_of HT_.out (by kernel_rfl)) ?_
                try go_wp2
                go_roundg k2
                case measure => have := HK1.out; have := HK2.out; omega
                case rel => exact ⟨(true), (wrap64 (x7_2 + 1)), (by first | rfl | (simp; done) | (simp [*]; done)), (by first | rfl | (simp; done) | (simp [*]; done)), H', ⟨by have := HK1.out; have := HK2.out; omega⟩, ⟨hb_⟩⟩
              · replace c5 := Bool.eq_false_iff.mpr c5
                subst c5
                have H1 : (if 0 ≤ x5_1 then (if x5_1 < (l0.length : Int) then (if 0 ≤ x7_2 then ((spec_l11Within.f ((rd_T132 l0 x5_1).f0) ((rd_T132 l0 x5_1).f1.f0) ((rd_T132 l0 x5_1).f1.f1) ((rd_T132 l0 x5_1).f2) ((rd_T132 l0 x5_1).f3) ((rd_T132 l0 x5_1).f4) ((rd_T132 l0 x5_1).f5) ((rd_T132 l1 x7_2).f0) ((rd_T132 l1 x7_2).f1.f0) ((rd_T132 l1 x7_2).f1.f1) ((rd_T132 l1 x7_2).f2) ((rd_T132 l1 x7_2).f3) ((rd_T132 l1 x7_2).f4) ((rd_T132 l1 x7_2).f5)).bind fun t248 => (spec_IsWithinGrants.l1 k2 l0 l1 x5_1 t248 (wrap64 (x7_2 + 1)))) else (none)) else (none)) else (none)) = some r := by rw [if_neg (show ¬ (false = true) by decide)] at H; exact H
                clear H
                have H := H1
                clear H1
                by_cases c7 : 0 ≤ x5_1
                · rw [if_pos c7] at H
                  have c7b0 : decide (0 ≤ x5_1) = true := decide_eq_true c7
                  clear c7
                  by_cases c8 : x5_1 < (l0.length : Int)
                  · rw [if_pos c8] at H
                    have c8b0 : decide (x5_1 < (l0.length : Int)) = true := decide_eq_true c8
                    clear c8
                    by_cases c9 : 0 ≤ x7_2
                    · rw [if_pos c9] at H
                      have c9b0 : decide (0 ≤ x7_2) = true := decide_eq_true c9
                      clear c9
                      replace H := Option.bind_eq_some_iff.mp H
                      obtain ⟨t248, A100, H⟩ := H
                      replace H : (spec_IsWithinGrants.l1 k2 l0 l1 x5_1 t248 (wrap64 (x7_2 + 1))) = some r := H
                      have A10 := Aside0.mk A100
                      clear A100
                      have H' := Aside0.mk H
                      clear H
                      try go_wp2
                      have n0_ := Aside0.mk (below_drew1 HB.out)
                      clear HB
                      have HB := n0_
                      clear n0_
                      have p246 : 0 ≤ (x5_1 : Int) := of_decide_eq_true (by first | (with_reducible assumption) | assumption)
                      have q246 : x5_1 < (l0.length : Int) := of_decide_eq_true (by first | (with_reducible assumption) | assumption)
                      obtain ⟨ad246, e246, hx246_0, hx246_1, hx246_2, hx246_3, hx246_4, hx246_5, hx246_6⟩ := at_T132 HR0.out x5_1 p246 q246
                      have hw246_6 := hx246_6
                      have hw246_5 := hx246_5
                      have hw246_4 := hx246_4
                      have hw246_3 := hx246_3
                      have hw246_2 := hx246_2
                      have hw246_1 := hx246_1
                      have hw246_0 := hx246_0
                      cases e246
                      replace hx246_0 := (HB.out.cell (World.block_lt_of_cell? w _ hx246_0)).trans hx246_0
                      replace hx246_1 := (HB.out.cell (World.block_lt_of_cell? w _ hx246_1)).trans hx246_1
                      replace hx246_2 := (HB.out.cell (World.block_lt_of_cell? w _ hx246_2)).trans hx246_2
                      replace hx246_3 := (HB.out.cell (World.block_lt_of_cell? w _ hx246_3)).trans hx246_3
                      replace hx246_4 := (HB.out.cell (World.block_lt_of_cell? w _ hx246_4)).trans hx246_4
                      replace hx246_5 := (HB.out.cell (World.block_lt_of_cell? w _ hx246_5)).trans hx246_5
                      replace hx246_6 := (HB.out.cell (World.block_lt_of_cell? w _ hx246_6)).trans hx246_6
                      replace p246 := eq_true p246
                      replace q246 := eq_true q246
                      have p247 : 0 ≤ (x7_2 : Int) := of_decide_eq_true (by first | (with_reducible assumption) | assumption)
                      have q247 : x7_2 < (l1.length : Int) := of_decide_eq_true (by first | (with_reducible assumption) | assumption)
                      obtain ⟨ad247, e247, hx247_0, hx247_1, hx247_2, hx247_3, hx247_4, hx247_5, hx247_6⟩ := at_T132 HR1.out x7_2 p247 q247
                      have hw247_6 := hx247_6
                      have hw247_5 := hx247_5
                      have hw247_4 := hx247_4
                      have hw247_3 := hx247_3
                      have hw247_2 := hx247_2
                      have hw247_1 := hx247_1
                      have hw247_0 := hx247_0
                      cases e247
                      replace hx247_0 := (HB.out.cell (World.block_lt_of_cell? w _ hx247_0)).trans hx247_0
                      replace hx247_1 := (HB.out.cell (World.block_lt_of_cell? w _ hx247_1)).trans hx247_1
                      replace hx247_2 := (HB.out.cell (World.block_lt_of_cell? w _ hx247_2)).trans hx247_2
                      replace hx247_3 := (HB.out.cell (World.block_lt_of_cell? w _ hx247_3)).trans hx247_3
                      replace hx247_4 := (HB.out.cell (World.block_lt_of_cell? w _ hx247_4)).trans hx247_4
                      replace hx247_5 := (HB.out.cell (World.block_lt_of_cell? w _ hx247_5)).trans hx247_5
                      replace hx247_6 := (HB.out.cell (World.block_lt_of_cell? w _ hx247_6)).trans hx247_6
                      replace p247 := eq_true p247
                      replace q247 := eq_true q247
                      refine start_ (n := 13) (S := fun w' => w'.cell? (ad246.add ((x5_1).toNat * 7)) = some (.int .i64 ((rd_T132 l0 x5_1).f0)) ∧ w'.cell? ⟨(ad246.add ((x5_1).toNat * 7)).block, (ad246.add ((x5_1).toNat * 7)).off + 1, none⟩ = some (.int .i64 ((rd_T132 l0 x5_1).f1.f0)) ∧ w'.cell? ⟨(ad246.add ((x5_1).toNat * 7)).block, (ad246.add ((x5_1).toNat * 7)).off + 2, none⟩ = some (.int .i64 ((rd_T132 l0 x5_1).f1.f1)) ∧ w'.cell? ⟨(ad246.add ((x5_1).toNat * 7)).block, (ad246.add ((x5_1).toNat * 7)).off + 3, none⟩ = some (.int .i64 ((rd_T132 l0 x5_1).f2)) ∧ w'.cell? ⟨(ad246.add ((x5_1).toNat * 7)).block, (ad246.add ((x5_1).toNat * 7)).off + 4, none⟩ = some (.int .i64 ((rd_T132 l0 x5_1).f3)) ∧ w'.cell? ⟨(ad246.add ((x5_1).toNat * 7)).block, (ad246.add ((x5_1).toNat * 7)).off + 5, none⟩ = some (.int .i64 ((rd_T132 l0 x5_1).f4)) ∧ w'.cell? ⟨(ad246.add ((x5_1).toNat * 7)).block, (ad246.add ((x5_1).toNat * 7)).off + 6, none⟩ = some (.bool ((rd_T132 l0 x5_1).f5)) ∧ w'.cell? (ad247.add ((x7_2).toNat * 7)) = some (.int .i64 ((rd_T132 l1 x7_2).f0)) ∧ w'.cell? ⟨(ad247.add ((x7_2).toNat * 7)).block, (ad247.add ((x7_2).toNat * 7)).off + 1, none⟩ = some (.int .i64 ((rd_T132 l1 x7_2).f1.f0)) ∧ w'.cell? ⟨(ad247.add ((x7_2).toNat * 7)).block, (ad247.add ((x7_2).toNat * 7)).off + 2, none⟩ = some (.int .i64 ((rd_T132 l1 x7_2).f1.f1)) ∧ w'.cell? ⟨(ad247.add ((x7_2).toNat * 7)).block, (ad247.add ((x7_2).toNat * 7)).off + 3, none⟩ = some (.int .i64 ((rd_T132 l1 x7_2).f2)) ∧ w'.cell? ⟨(ad247.add ((x7_2).toNat * 7)).block, (ad247.add ((x7_2).toNat * 7)).off + 4, none⟩ = some (.int .i64 ((rd_T132 l1 x7_2).f3)) ∧ w'.cell? ⟨(ad247.add ((x7_2).toNat * 7)).block, (ad247.add ((x7_2).toNat * 7)).off + 5, none⟩ = some (.int .i64 ((rd_T132 l1 x7_2).f4)) ∧ w'.cell? ⟨(ad247.add ((x7_2).toNat * 7)).block, (ad247.add ((x7_2).toNat * 7)).off + 6, none⟩ = some (.bool ((rd_T132 l1 x7_2).f5))) (ds := []) #[false, false, false, false, false, false, false, false, false, false, false, false, false] (by kernel_rfl) rfl rfl ⟨((HB.out.cell (World.block_lt_of_cell? w _ hw246_0)).trans hw246_0), ((HB.out.cell (World.block_lt_of_cell? w _ hw246_1)).trans hw246_1), ((HB.out.cell (World.block_lt_of_cell? w _ hw246_2)).trans hw246_2), ((HB.out.cell (World.block_lt_of_cell? w _ hw246_3)).trans hw246_3), ((HB.out.cell (World.block_lt_of_cell? w _ hw246_4)).trans hw246_4), ((HB.out.cell (World.block_lt_of_cell? w _ hw246_5)).trans hw246_5), ((HB.out.cell (World.block_lt_of_cell? w _ hw246_6)).trans hw246_6), ((HB.out.cell (World.block_lt_of_cell? w _ hw247_0)).trans hw247_0), ((HB.out.cell (World.block_lt_of_cell? w _ hw247_1)).trans hw247_1), ((HB.out.cell (World.block_lt_of_cell? w _ hw247_2)).trans hw247_2), ((HB.out.cell (World.block_lt_of_cell? w _ hw247_3)).trans hw247_3), ((HB.out.cell (World.block_lt_of_cell? w _ hw247_4)).trans hw247_4), ((HB.out.cell (World.block_lt_of_cell? w _ hw247_5)).trans hw247_5), ((HB.out.cell (World.block_lt_of_cell? w _ hw247_6)).trans hw247_6)⟩ (fun hHeld => ?_); refine with_tabW spec_IsWithinGrants.tab8 spec_IsWithinGrants.bits8 (fun HT_ HW_ => ?_)
                      generalize wr.drew = w11 at HB hx246_0 hx246_1 hx246_2 hx246_3 hx246_4 hx246_5 hx246_6 hx247_0 hx247_1 hx247_2 hx247_3 hx247_4 hx247_5 hx247_6 hHeld ⊢
                      refine pure_ (i := 0) (N := some 20) (v := ?_) (a' := ?_) #[true, false, false, false, false, false, false, false, false, false, false, false, false] rfl rfl (any_of HT_.out (by kernel_rfl)) (fun _ _ _ h => h) (Or.inl ⟨by rfl, ?_⟩) ?_ ?_
                      rotate_left
                      · intro w'
                        go_simp
                        with_reducible rfl
                      rotate_left
                      · simp only [Act.put, List.setIfInBounds_toArray, List.set_cons_zero, List.set_cons_succ, i64_w, i32_w]
                        rfl
                      refine pure_ (i := 1) (N := some 21) (v := ?_) (a' := ?_) #[true, true, false, false, false, false, false, false, false, false, false, false, false] rfl rfl (any_of HT_.out (by kernel_rfl)) (fun _ _ _ h => h) (Or.inl ⟨by rfl, ?_⟩) ?_ ?_
                      rotate_left
                      · intro w'
                        go_simp
                        with_reducible rfl
                      rotate_left
                      · simp only [Act.put, List.setIfInBounds_toArray, List.set_cons_zero, List.set_cons_succ, i64_w, i32_w]
                        rfl
                      refine pure_ (i := 2) (N := some 22) (v := ?_) (a' := ?_) #[true, true, true, false, false, false, false, false, false, false, false, false, false] rfl rfl (any_of HT_.out (by kernel_rfl)) (fun _ _ _ h => h) (Or.inl ⟨by rfl, ?_⟩) ?_ ?_
                      rotate_left
                      · intro w'
                        go_simp
                        with_reducible rfl
                      rotate_left
                      · simp only [Act.put, List.setIfInBounds_toArray, List.set_cons_zero, List.set_cons_succ, i64_w, i32_w]
                        rfl
                      refine pure_ (i := 3) (N := some 23) (v := ?_) (a' := ?_) #[true, true, true, true, false, false, false, false, false, false, false, false, false] rfl rfl (any_of HT_.out (by kernel_rfl)) (fun _ _ _ h => h) (Or.inl ⟨by rfl, ?_⟩) ?_ ?_
                      rotate_left
                      · intro w'
                        go_simp
                        with_reducible rfl
                      rotate_left
                      · simp only [Act.put, List.setIfInBounds_toArray, List.set_cons_zero, List.set_cons_succ, i64_w, i32_w]
                        rfl
                      refine pure_ (i := 4) (N := some 24) (v := ?_) (a' := ?_) #[true, true, true, true, true, false, false, false, false, false, false, false, false] rfl rfl (any_of HT_.out (by kernel_rfl)) (fun _ _ _ h => h) (Or.inl ⟨by rfl, ?_⟩) ?_ ?_
                      rotate_left
                      · intro w'
                        go_simp
                        with_reducible rfl
                      rotate_left
                      · simp only [Act.put, List.setIfInBounds_toArray, List.set_cons_zero, List.set_cons_succ, i64_w, i32_w]
                        rfl
                      refine pure_ (i := 6) (N := some 26) (v := ?_) (a' := ?_) #[true, true, true, true, true, false, true, false, false, false, false, false, false] rfl rfl (any_of HT_.out (by kernel_rfl)) (fun _ _ _ h => h) (Or.inl ⟨by rfl, ?_⟩) ?_ ?_
                      rotate_left
                      · intro w'
                        go_simp
                        with_reducible rfl
                      rotate_left
                      · simp only [Act.put, List.setIfInBounds_toArray, List.set_cons_zero, List.set_cons_succ, i64_w, i32_w]
                        rfl
                      refine pure_ (i := 7) (N := some 27) (v := ?_) (a' := ?_) #[true, true, true, true, true, false, true, true, false, false, false, false, false] rfl rfl (any_of HT_.out (by kernel_rfl)) (fun _ _ _ h => h) (Or.inl ⟨by rfl, ?_⟩) ?_ ?_
                      rotate_left
                      · intro w'
                        go_simp
                        with_reducible rfl
                      rotate_left
                      · simp only [Act.put, List.setIfInBounds_toArray, List.set_cons_zero, List.set_cons_succ, i64_w, i32_w]
                        rfl
                      refine pure_ (i := 8) (N := some 28) (v := ?_) (a' := ?_) #[true, true, true, true, true, false, true, true, true, false, false, false, false] rfl rfl (any_of HT_.out (by kernel_rfl)) (fun _ _ _ h => h) (Or.inl ⟨by rfl, ?_⟩) ?_ ?_
                      rotate_left
                      · intro w'
                        go_simp
                        with_reducible rfl
                      rotate_left
                      · simp only [Act.put, List.setIfInBounds_toArray, List.set_cons_zero, List.set_cons_succ, i64_w, i32_w]
                        rfl
                      refine take_ (i := 5) (N := some 25) (v := ?_) (a' := ?_) #[true, true, true, true, true, true, true, true, true, false, false, false, false] rfl rfl (take_ofW HT_.out HW_.out (by kernel_rfl)) (fun _ _ _ h => h) (Or.inl ⟨by rfl, ?_⟩) hHeld ?_ ?_
                      rotate_left
                      · rintro w' ⟨s0, s1, s2, s3, s4, s5, s6, s7, s8, s9, s10, s11, s12, s13⟩
                        go_simp
                        with_reducible rfl
                      rotate_left
                      · simp only [Act.put, List.setIfInBounds_toArray, List.set_cons_zero, List.set_cons_succ, i64_w, i32_w]
                        rfl
                      refine take_ (i := 9) (N := some 29) (v := ?_) (a' := ?_) #[true, true, true, true, true, true, true, true, true, true, false, false, false] rfl rfl (take_ofW HT_.out HW_.out (by kernel_rfl)) (fun _ _ _ h => h) (Or.inl ⟨by rfl, ?_⟩) hHeld ?_ ?_
                      rotate_left
                      · rintro w' ⟨s0, s1, s2, s3, s4, s5, s6, s7, s8, s9, s10, s11, s12, s13⟩
                        go_simp
                        with_reducible rfl
                      rotate_left
                      · simp only [Act.put, List.setIfInBounds_toArray, List.set_cons_zero, List.set_cons_succ, i64_w, i32_w]
                        rfl
                      refine one_ (i := 10) (N := some 30) #[true, true, true, true, true, true, true, true, true, true, true, false, false] rfl rfl (one_of HT_.out (by kernel_rfl)) (by decide) (fun K hK => ?_)
                      refine goes_ Try.func146 (by kernel_rfl) rfl #[.agg #[.int .i64 ((rd_T132 l0 x5_1).f0), .int .i64 ((rd_T132 l0 x5_1).f1.f0), .int .i64 ((rd_T132 l0 x5_1).f1.f1), .int .i64 ((rd_T132 l0 x5_1).f2), .int .i64 ((rd_T132 l0 x5_1).f3), .int .i64 ((rd_T132 l0 x5_1).f4), .bool ((rd_T132 l0 x5_1).f5)], .agg #[.int .i64 ((rd_T132 l1 x7_2).f0), .int .i64 ((rd_T132 l1 x7_2).f1.f0), .int .i64 ((rd_T132 l1 x7_2).f1.f1), .int .i64 ((rd_T132 l1 x7_2).f2), .int .i64 ((rd_T132 l1 x7_2).f3), .int .i64 ((rd_T132 l1 x7_2).f4), .bool ((rd_T132 l1 x7_2).f5)]] (by rfl) rfl rfl la_ ?_
                      with_reducible refine (spec_l11Within.calls ((rd_T132 l0 x5_1).f0) ((rd_T132 l0 x5_1).f1.f0) ((rd_T132 l0 x5_1).f1.f1) ((rd_T132 l0 x5_1).f2) ((rd_T132 l0 x5_1).f3) ((rd_T132 l0 x5_1).f4) ((rd_T132 l0 x5_1).f5) ((rd_T132 l1 x7_2).f0) ((rd_T132 l1 x7_2).f1.f0) ((rd_T132 l1 x7_2).f1.f1) ((rd_T132 l1 x7_2).f2) ((rd_T132 l1 x7_2).f3) ((rd_T132 l1 x7_2).f4) ((rd_T132 l1 x7_2).f5) t248 _ A10.out).mono ?_
                      rintro e w12 ⟨rfl, hb⟩
                      refine ⟨_, rfl, ?_⟩
                      have n0_ := Aside0.mk (below_step hb_ hb)
                      clear HB
                      have HB := n0_
                      clear n0_
                      (try clear hb)
                      (try clear hb2)
                      (try clear hk)
                      (try clear hi)
                      refine hK.out _ _ ⟨((HB.out.cell (World.block_lt_of_cell? w _ hw246_0)).trans hw246_0), ((HB.out.cell (World.block_lt_of_cell? w _ hw246_1)).trans hw246_1), ((HB.out.cell (World.block_lt_of_cell? w _ hw246_2)).trans hw246_2), ((HB.out.cell (World.block_lt_of_cell? w _ hw246_3)).trans hw246_3), ((HB.out.cell (World.block_lt_of_cell? w _ hw246_4)).trans hw246_4), ((HB.out.cell (World.block_lt_of_cell? w _ hw246_5)).trans hw246_5), ((HB.out.cell (World.block_lt_of_cell? w _ hw246_6)).trans hw246_6), ((HB.out.cell (World.block_lt_of_cell? w _ hw247_0)).trans hw247_0), ((HB.out.cell (World.block_lt_of_cell? w _ hw247_1)).trans hw247_1), ((HB.out.cell (World.block_lt_of_cell? w _ hw247_2)).trans hw247_2), ((HB.out.cell (World.block_lt_of_cell? w _ hw247_3)).trans hw247_3), ((HB.out.cell (World.block_lt_of_cell? w _ hw247_4)).trans hw247_4), ((HB.out.cell (World.block_lt_of_cell? w _ hw247_5)).trans hw247_5), ((HB.out.cell (World.block_lt_of_cell? w _ hw247_6)).trans hw247_6)⟩ (fun hHeld => ?_)
                      clear hK K
                      refine norm_ (a' := ?_) ?_ ?_
                      rotate_left
                      · show Act.put _ (some 30) _ = _
                        simp only [Act.put, List.setIfInBounds_toArray, List.set_cons_zero, List.set_cons_succ, i64_w, i32_w]
                        rfl
                      refine pure_ (i := 11) (N := some 31) (v := ?_) (a' := ?_) #[true, true, true, true, true, true, true, true, true, true, true, true, false] rfl rfl (any_of HT_.out (by kernel_rfl)) (fun _ _ _ h => h) (Or.inl ⟨by rfl, ?_⟩) ?_ ?_
                      rotate_left
                      · intro w'
                        go_simp
                        with_reducible rfl
                      rotate_left
                      · simp only [Act.put, List.setIfInBounds_toArray, List.set_cons_zero, List.set_cons_succ, i64_w, i32_w]
                        rfl
                      refine pure_ (i := 12) (N := some 6) (v := ?_) (a' := ?_) #[true, true, true, true, true, true, true, true, true, true, true, true, true] rfl rfl (any_of HT_.out (by kernel_rfl)) (fun _ _ _ h => h) (Or.inl ⟨by rfl, ?_⟩) ?_ ?_
                      rotate_left
                      · intro w'
                        go_simp
                        with_reducible rfl
                      rotate_left
                      · simp only [Act.put, List.setIfInBounds_toArray, List.set_cons_zero, List.set_cons_succ, i64_w, i32_w]
                        rfl
                      refine done_ (done_of HT_.out (by kernel_rfl)) ?_
                      try go_wp2
                      go_roundg k2
                      case measure => have := HK1.out; have := HK2.out; omega
                      case rel => exact ⟨(t248), (wrap64 (x7_2 + 1)), (by first | rfl | (simp; done) | (simp [*]; done)), (by first | rfl | (simp; done) | (simp [*]; done)), H', ⟨by have := HK1.out; have := HK2.out; omega⟩, ⟨hb_⟩⟩
                    · rw [if_neg c9] at H
                      exact absurd H (by simp)
                  · rw [if_neg c8] at H
                    exact absurd H (by simp)
                · rw [if_neg c7] at H
                  exact absurd H (by simp)
            · rw [if_neg c4] at H
              have c4b0 : decide (x7_2 < (l1.length : Int)) = false := decide_eq_false c4
              clear c4
              by_cases c13 : x6_2 = true
              · subst c13
                have H1 : (spec_IsWithinGrants.l0 k2 l0 l1 (wrap64 (x5_1 + 1))) = some r := by rw [if_pos rfl] at H; exact H
                clear H
                have H := H1
                clear H1
                have H' := Aside0.mk H
                clear H
                go_wp2
                go_roundg k2
                case measure => have := HK1.out; have := HK2.out; omega
                case rel => exact ⟨(wrap64 (x5_1 + 1)), (by first | rfl | (simp; done) | (simp [*]; done)), H', ⟨by have := HK1.out; have := HK2.out; omega⟩, ⟨hb_⟩⟩
              · replace c13 := Bool.eq_false_iff.mpr c13
                subst c13
                have H1 : (some false) = some r := by rw [if_neg (show ¬ (false = true) by decide)] at H; exact H
                clear H
                have H := H1
                clear H1
                obtain rfl := Option.some.inj H
                go_wp2
                go_ret
                exact ⟨by first | rfl | (simp [errW_none, errW_some] <;> rfl) | (simp [*, errW_none, errW_some] <;> rfl), hb_⟩
      · rw [if_neg c3] at H
        have c3b0 : decide (x5_1 < (l0.length : Int)) = false := decide_eq_false c3
        clear c3
        obtain rfl := Option.some.inj H
        go_wp2
        go_ret
        exact ⟨by first | rfl | (simp [errW_none, errW_some] <;> rfl) | (simp [*, errW_none, errW_some] <;> rfl), hb_⟩
end

section
attribute [local go_sem high] eqA120
/-! ### spec_IsWider: function 44 -/
def spec_IsWider.f (k : Nat) (a0_0 : Int) (a0_1 : Int) (a0_2 : Int) (l0_3 : List (S132)) (l0_4 : List (S120)) (l0_5 : List (S139)) (l0_6 : List (S46)) (a0_7 : Int) (a1_0 : Int) (a1_1 : Int) (a1_2 : Int) (l1_3 : List (S132)) (l1_4 : List (S120)) (l1_5 : List (S139)) (l1_6 : List (S46)) (a1_7 : Int) : Option (Bool) := (spec_IsWithinGrants.f k l1_3 l0_3).bind fun t251 => (if t251 = true then ((spec_FlowsWithin.f k l1_4 l0_4).bind fun t252 => (some (!t252))) else (some true))
theorem spec_IsWider.mono : ∀ a0 a1 a2 a3 a4 a5 a6 a7 a8 a9 a10 a11 a12 a13 a14 a15 k, LeO (spec_IsWider.f k a0 a1 a2 a3 a4 a5 a6 a7 a8 a9 a10 a11 a12 a13 a14 a15) (spec_IsWider.f (k + 1) a0 a1 a2 a3 a4 a5 a6 a7 a8 a9 a10 a11 a12 a13 a14 a15) := by
  intro a0 a1 a2 a3 a4 a5 a6 a7 a8 a9 a10 a11 a12 a13 a14 a15 k
  unfold spec_IsWider.f
  repeat' first
      | (with_reducible exact spec_FlowsWithin.mono _ _ _)
      | (with_reducible exact spec_IsWithinGrants.mono _ _ _)
      | (with_reducible exact LeO.refl _)
      | (with_reducible exact LeO.none _)
      | (with_reducible refine LeO.ite ?_ ?_)
      | (with_reducible refine LeO.bind ?_ (fun _ => ?_))
      | exact spec_FlowsWithin.mono _ _ _
      | exact spec_IsWithinGrants.mono _ _ _
      | exact LeO.none _
      | refine LeO.ite ?_ ?_
      | refine LeO.bind ?_ (fun _ => ?_)
set_option maxHeartbeats 8000000 in
set_option maxRecDepth 100000 in
theorem spec_IsWider.calls (k : Nat) (a0_0 : Int) (a0_1 : Int) (a0_2 : Int) (A0_3 : Option Addr) (c0_3 : Nat) (l0_3 : List (S132)) (A0_4 : Option Addr) (c0_4 : Nat) (l0_4 : List (S120)) (A0_5 : Option Addr) (c0_5 : Nat) (l0_5 : List (S139)) (A0_6 : Option Addr) (c0_6 : Nat) (l0_6 : List (S46)) (a0_7 : Int) (a1_0 : Int) (a1_1 : Int) (a1_2 : Int) (A1_3 : Option Addr) (c1_3 : Nat) (l1_3 : List (S132)) (A1_4 : Option Addr) (c1_4 : Nat) (l1_4 : List (S120)) (A1_5 : Option Addr) (c1_5 : Nat) (l1_5 : List (S139)) (A1_6 : Option Addr) (c1_6 : Nat) (l1_6 : List (S46)) (a1_7 : Int) (r : Bool) (w : World) (hr0_3 : Kd.C k132 w A0_3 l0_3.length l0_3) (hc0_3 : l0_3.length ≤ c0_3) (hr0_4 : Kd.C k120 w A0_4 l0_4.length l0_4) (hc0_4 : l0_4.length ≤ c0_4) (hr0_5 : Kd.C k139 w A0_5 l0_5.length l0_5) (hc0_5 : l0_5.length ≤ c0_5) (hr0_6 : Kd.C k46 w A0_6 l0_6.length l0_6) (hc0_6 : l0_6.length ≤ c0_6) (hr1_3 : Kd.C k132 w A1_3 l1_3.length l1_3) (hc1_3 : l1_3.length ≤ c1_3) (hr1_4 : Kd.C k120 w A1_4 l1_4.length l1_4) (hc1_4 : l1_4.length ≤ c1_4) (hr1_5 : Kd.C k139 w A1_5 l1_5.length l1_5) (hc1_5 : l1_5.length ≤ c1_5) (hr1_6 : Kd.C k46 w A1_6 l1_6.length l1_6) (hc1_6 : l1_6.length ≤ c1_6) (h : spec_IsWider.f k a0_0 a0_1 a0_2 l0_3 l0_4 l0_5 l0_6 a0_7 a1_0 a1_1 a1_2 l1_3 l1_4 l1_5 l1_6 a1_7 = some r) :
    Calls Try.prog 44 #[.agg #[.int .i64 a0_0, .int .i64 a0_1, .int .i64 a0_2, .slice A0_3 l0_3.length c0_3, .slice A0_4 l0_4.length c0_4, .slice A0_5 l0_5.length c0_5, .slice A0_6 l0_6.length c0_6, .int .i64 a0_7], .agg #[.int .i64 a1_0, .int .i64 a1_1, .int .i64 a1_2, .slice A1_3 l1_3.length c1_3, .slice A1_4 l1_4.length c1_4, .slice A1_5 l1_5.length c1_5, .slice A1_6 l1_6.length c1_6, .int .i64 a1_7]] w fun e w' => e = .returned (.bool r) ∧ Below w.heap.size w w' := by
  have hu66 := Try.underlying66
  have HR0_3 := Aside0.mk hr0_3
  have HC0_3 := Aside0.mk hc0_3
  clear hr0_3 hc0_3
  have HR0_4 := Aside0.mk hr0_4
  have HC0_4 := Aside0.mk hc0_4
  clear hr0_4 hc0_4
  have HR0_5 := Aside0.mk hr0_5
  have HC0_5 := Aside0.mk hc0_5
  clear hr0_5 hc0_5
  have HR0_6 := Aside0.mk hr0_6
  have HC0_6 := Aside0.mk hc0_6
  clear hr0_6 hc0_6
  have HR1_3 := Aside0.mk hr1_3
  have HC1_3 := Aside0.mk hc1_3
  clear hr1_3 hc1_3
  have HR1_4 := Aside0.mk hr1_4
  have HC1_4 := Aside0.mk hc1_4
  clear hr1_4 hc1_4
  have HR1_5 := Aside0.mk hr1_5
  have HC1_5 := Aside0.mk hc1_5
  clear hr1_5 hc1_5
  have HR1_6 := Aside0.mk hr1_6
  have HC1_6 := Aside0.mk hc1_6
  clear hr1_6 hc1_6
  have HB := Aside0.mk (Below.refl w.heap.size w)
  have H : ((spec_IsWithinGrants.f k l1_3 l0_3).bind fun t251 => (if t251 = true then ((spec_FlowsWithin.f k l1_4 l0_4).bind fun t252 => (some (!t252))) else (some true))) = some r := h
  clear h
  replace H := Option.bind_eq_some_iff.mp H
  obtain ⟨t251, A30, H⟩ := H
  replace H : (if t251 = true then ((spec_FlowsWithin.f k l1_4 l0_4).bind fun t252 => (some (!t252))) else (some true)) = some r := H
  have A3 := Aside0.mk A30
  clear A30
  refine Or.elim (Classical.em (t251 = true)) (fun c4 => ?pc4) (fun c4 => ?nc4)
  case' pc4 =>
    subst c4
    have H1 : ((spec_FlowsWithin.f k l1_4 l0_4).bind fun t252 => (some (!t252))) = some r := by rw [if_pos rfl] at H; exact H
    clear H
    have H := H1
    clear H1
    replace H := Option.bind_eq_some_iff.mp H
    obtain ⟨t252, A50, H⟩ := H
    replace H : (some (!t252)) = some r := H
    have A5 := Aside0.mk A50
    clear A50
    obtain rfl := Option.some.inj H
  case' nc4 =>
    replace c4 := Bool.eq_false_iff.mpr c4
    subst c4
    have H1 : (some true) = some r := by rw [if_neg (show ¬ (false = true) by decide)] at H; exact H
    clear H
    have H := H1
    clear H1
    obtain rfl := Option.some.inj H
  all_goals go_enter Try.func44, Try.ntmps44
  all_goals (go_wp2_with (first | ((with_reducible refine gate_dst (N := 2) rfl ?_); refine box_event ?hg (N := 2) ?hd (cs := #[.int .i64 a0_0, .int .i64 a0_1, .int .i64 a0_2, .slice A0_3 l0_3.length c0_3, .slice A0_4 l0_4.length c0_4, .slice A0_5 l0_5.length c0_5, .slice A0_6 l0_6.length c0_6, .int .i64 a0_7]) (t := 66) ?hr ?_; (case hd => rfl); (case hg => rfl); (case hr => first | (go_simp; done) | (go_simp; rfl)); intro gb249 hg w_1 hbox hb; have n0_ := Aside0.mk (below_step hb_ hb); have n1_ := Aside0.mk (hbox); have n2_ := Aside0.mk ((by rw [hg]; exact (below_size hb_) : w.heap.size ≤ gb249)); have n3_ := Aside0.mk ((by rw [hg]; exact (below_size hb_) : w.heap.size ≤ gb249)); clear HB; have HB := n0_; have BK249 := n1_; have GW249 := n2_; have GE249 := n3_; clear n0_ n1_ n2_ n3_; clear hb hbox hg) | ((with_reducible refine gate_dst (N := 3) rfl ?_); refine box_event ?hg (N := 3) ?hd (cs := #[.int .i64 a1_0, .int .i64 a1_1, .int .i64 a1_2, .slice A1_3 l1_3.length c1_3, .slice A1_4 l1_4.length c1_4, .slice A1_5 l1_5.length c1_5, .slice A1_6 l1_6.length c1_6, .int .i64 a1_7]) (t := 66) ?hr ?_; (case hd => rfl); (case hg => rfl); (case hr => first | (go_simp; done) | (go_simp; rfl)); intro gb250 hg w_1 hbox hb; have n0_ := Aside0.mk (blk_below (g := gb249) bk_ hb); have n1_ := Aside0.mk (below_step hb_ hb); have n2_ := Aside0.mk (hbox); have n3_ := Aside0.mk ((by rw [hg]; exact (below_size hb_) : w.heap.size ≤ gb250)); have n4_ := Aside0.mk ((by rw [hg]; exact (below_size hb_) : w.heap.size ≤ gb250)); have n5_ := Aside0.mk ((by rw [hg]; exact Nat.ne_of_lt (blk_lt (g := gb249) bk_) : gb249 ≠ gb250)); have n6_ := Aside0.mk ((by rw [hg]; exact Nat.ne_of_gt (blk_lt (g := gb249) bk_) : gb250 ≠ gb249)); clear BK249; clear HB; have BK249 := n0_; have HB := n1_; have BK250 := n2_; have GW250 := n3_; have GE250 := n4_; have NB249_250 := n5_; have NB250_249 := n6_; clear n0_ n1_ n2_ n3_ n4_ n5_ n6_; clear hb hbox hg; (try (have hnb17 := NB250_249.out)); (try (have hnc17 := NB249_250.out)); (try (have hcz1_0 : w_1.cell? ⟨gb250, 0, none⟩ = some (.int .i64 a1_0) := (blk_cell BK250.out 0).trans rfl)); (try (have hcz1_1 : w_1.cell? ⟨gb250, 1, none⟩ = some (.int .i64 a1_1) := (blk_cell BK250.out 1).trans rfl)); (try (have hcz1_2 : w_1.cell? ⟨gb250, 2, none⟩ = some (.int .i64 a1_2) := (blk_cell BK250.out 2).trans rfl)); (try (have hcz1_3 : w_1.cell? ⟨gb250, 3, none⟩ = some (.slice A1_3 l1_3.length c1_3) := (blk_cell BK250.out 3).trans rfl)); (try (have hcz1_4 : w_1.cell? ⟨gb250, 4, none⟩ = some (.slice A1_4 l1_4.length c1_4) := (blk_cell BK250.out 4).trans rfl)); (try (have hcz1_5 : w_1.cell? ⟨gb250, 5, none⟩ = some (.slice A1_5 l1_5.length c1_5) := (blk_cell BK250.out 5).trans rfl)); (try (have hcz1_6 : w_1.cell? ⟨gb250, 6, none⟩ = some (.slice A1_6 l1_6.length c1_6) := (blk_cell BK250.out 6).trans rfl)); (try (have hcz1_7 : w_1.cell? ⟨gb250, 7, none⟩ = some (.int .i64 a1_7) := (blk_cell BK250.out 7).trans rfl)); (try (have hfz1_0 := blk_frozen BK250.out 0)); (try (have hfz1_1 := blk_frozen BK250.out 1)); (try (have hfz1_2 := blk_frozen BK250.out 2)); (try (have hfz1_3 := blk_frozen BK250.out 3)); (try (have hfz1_4 := blk_frozen BK250.out 4)); (try (have hfz1_5 := blk_frozen BK250.out 5)); (try (have hfz1_6 := blk_frozen BK250.out 6)); (try (have hfz1_7 := blk_frozen BK250.out 7)); (try (have hcz2_0 : w_1.cell? ⟨gb249, 0, none⟩ = some (.int .i64 a0_0) := (blk_cell BK249.out 0).trans rfl)); (try (have hcz2_1 : w_1.cell? ⟨gb249, 1, none⟩ = some (.int .i64 a0_1) := (blk_cell BK249.out 1).trans rfl)); (try (have hcz2_2 : w_1.cell? ⟨gb249, 2, none⟩ = some (.int .i64 a0_2) := (blk_cell BK249.out 2).trans rfl)); (try (have hcz2_3 : w_1.cell? ⟨gb249, 3, none⟩ = some (.slice A0_3 l0_3.length c0_3) := (blk_cell BK249.out 3).trans rfl)); (try (have hcz2_4 : w_1.cell? ⟨gb249, 4, none⟩ = some (.slice A0_4 l0_4.length c0_4) := (blk_cell BK249.out 4).trans rfl)); (try (have hcz2_5 : w_1.cell? ⟨gb249, 5, none⟩ = some (.slice A0_5 l0_5.length c0_5) := (blk_cell BK249.out 5).trans rfl)); (try (have hcz2_6 : w_1.cell? ⟨gb249, 6, none⟩ = some (.slice A0_6 l0_6.length c0_6) := (blk_cell BK249.out 6).trans rfl)); (try (have hcz2_7 : w_1.cell? ⟨gb249, 7, none⟩ = some (.int .i64 a0_7) := (blk_cell BK249.out 7).trans rfl)); (try (have hfz2_0 := blk_frozen BK249.out 0)); (try (have hfz2_1 := blk_frozen BK249.out 1)); (try (have hfz2_2 := blk_frozen BK249.out 2)); (try (have hfz2_3 := blk_frozen BK249.out 3)); (try (have hfz2_4 := blk_frozen BK249.out 4)); (try (have hfz2_5 := blk_frozen BK249.out 5)); (try (have hfz2_6 := blk_frozen BK249.out 6)); (try (have hfz2_7 := blk_frozen BK249.out 7))) | ((with_reducible refine gate_callee (f := 103) rfl ?_); refine goesL_ (some 9) rfl rfl Try.func103 (by kernel_rfl) rfl #[.slice A1_3 l1_3.length c1_3, .slice A0_3 l0_3.length c0_3] rfl la_ ?_; (with_reducible refine (spec_IsWithinGrants.calls k _ _ l1_3 _ _ l0_3 true _ ?side1 ?side2 ?side3 ?side4 A3.out).mono ?_); (case side1 => repeat (first | exact (Kd.C_below HR1_3.out HB.out) | (with_reducible refine Kd.C_alloc ?_ _) | (with_reducible refine Kd.C_drewN ?_ _) | (with_reducible refine Kd.C_drew ?_))); (case side2 => exact HC1_3.out); (case side3 => repeat (first | exact (Kd.C_below HR0_3.out HB.out) | (with_reducible refine Kd.C_alloc ?_ _) | (with_reducible refine Kd.C_drewN ?_ _) | (with_reducible refine Kd.C_drew ?_))); (case side4 => exact HC0_3.out); rintro e w_1 ⟨rfl, hb⟩; refine ⟨_, rfl, ?_⟩; have n0_ := Aside0.mk (blk_below (g := gb249) bk_ hb); have n1_ := Aside0.mk (blk_below (g := gb250) bk_ hb); have n2_ := Aside0.mk (below_step hb_ hb); clear BK249; clear BK250; clear HB; have BK249 := n0_; have BK250 := n1_; have HB := n2_; clear n0_ n1_ n2_; (try clear hb); (try clear hb2); (try clear hk); (try clear hi); have hcz1_0 : w_1.cell? ⟨gb250, 0, none⟩ = some (.int .i64 a1_0) := (blk_cell BK250.out 0).trans rfl; have hcz1_1 : w_1.cell? ⟨gb250, 1, none⟩ = some (.int .i64 a1_1) := (blk_cell BK250.out 1).trans rfl; have hcz1_2 : w_1.cell? ⟨gb250, 2, none⟩ = some (.int .i64 a1_2) := (blk_cell BK250.out 2).trans rfl; have hcz1_3 : w_1.cell? ⟨gb250, 3, none⟩ = some (.slice A1_3 l1_3.length c1_3) := (blk_cell BK250.out 3).trans rfl; have hcz1_4 : w_1.cell? ⟨gb250, 4, none⟩ = some (.slice A1_4 l1_4.length c1_4) := (blk_cell BK250.out 4).trans rfl; have hcz1_5 : w_1.cell? ⟨gb250, 5, none⟩ = some (.slice A1_5 l1_5.length c1_5) := (blk_cell BK250.out 5).trans rfl; have hcz1_6 : w_1.cell? ⟨gb250, 6, none⟩ = some (.slice A1_6 l1_6.length c1_6) := (blk_cell BK250.out 6).trans rfl; have hcz1_7 : w_1.cell? ⟨gb250, 7, none⟩ = some (.int .i64 a1_7) := (blk_cell BK250.out 7).trans rfl; have hfz1_0 := blk_frozen BK250.out 0; have hfz1_1 := blk_frozen BK250.out 1; have hfz1_2 := blk_frozen BK250.out 2; have hfz1_3 := blk_frozen BK250.out 3; have hfz1_4 := blk_frozen BK250.out 4; have hfz1_5 := blk_frozen BK250.out 5; have hfz1_6 := blk_frozen BK250.out 6; have hfz1_7 := blk_frozen BK250.out 7; have hcz2_0 : w_1.cell? ⟨gb249, 0, none⟩ = some (.int .i64 a0_0) := (blk_cell BK249.out 0).trans rfl; have hcz2_1 : w_1.cell? ⟨gb249, 1, none⟩ = some (.int .i64 a0_1) := (blk_cell BK249.out 1).trans rfl; have hcz2_2 : w_1.cell? ⟨gb249, 2, none⟩ = some (.int .i64 a0_2) := (blk_cell BK249.out 2).trans rfl; have hcz2_3 : w_1.cell? ⟨gb249, 3, none⟩ = some (.slice A0_3 l0_3.length c0_3) := (blk_cell BK249.out 3).trans rfl; have hcz2_4 : w_1.cell? ⟨gb249, 4, none⟩ = some (.slice A0_4 l0_4.length c0_4) := (blk_cell BK249.out 4).trans rfl; have hcz2_5 : w_1.cell? ⟨gb249, 5, none⟩ = some (.slice A0_5 l0_5.length c0_5) := (blk_cell BK249.out 5).trans rfl; have hcz2_6 : w_1.cell? ⟨gb249, 6, none⟩ = some (.slice A0_6 l0_6.length c0_6) := (blk_cell BK249.out 6).trans rfl; have hcz2_7 : w_1.cell? ⟨gb249, 7, none⟩ = some (.int .i64 a0_7) := (blk_cell BK249.out 7).trans rfl; have hfz2_0 := blk_frozen BK249.out 0; have hfz2_1 := blk_frozen BK249.out 1; have hfz2_2 := blk_frozen BK249.out 2; have hfz2_3 := blk_frozen BK249.out 3; have hfz2_4 := blk_frozen BK249.out 4; have hfz2_5 := blk_frozen BK249.out 5; have hfz2_6 := blk_frozen BK249.out 6; have hfz2_7 := blk_frozen BK249.out 7) | (go_at_call 89; (with_reducible refine (spec_FlowsWithin.calls k _ _ l1_4 _ _ l0_4 t252 _ ?side1 ?side2 ?side3 ?side4 A5.out).mono ?_); (case side1 => repeat (first | exact (Kd.C_below HR1_4.out HB.out) | (with_reducible refine Kd.C_alloc ?_ _) | (with_reducible refine Kd.C_drewN ?_ _) | (with_reducible refine Kd.C_drew ?_))); (case side2 => exact HC1_4.out); (case side3 => repeat (first | exact (Kd.C_below HR0_4.out HB.out) | (with_reducible refine Kd.C_alloc ?_ _) | (with_reducible refine Kd.C_drewN ?_ _) | (with_reducible refine Kd.C_drew ?_))); (case side4 => exact HC0_4.out); rintro e w_1 ⟨rfl, hb⟩; have n0_ := Aside0.mk (blk_below (g := gb249) bk_ hb); have n1_ := Aside0.mk (blk_below (g := gb250) bk_ hb); have n2_ := Aside0.mk (below_step hb_ hb); clear BK249; clear BK250; clear HB; have BK249 := n0_; have BK250 := n1_; have HB := n2_; clear n0_ n1_ n2_; (try clear hb); (try clear hb2); (try clear hk); (try clear hi)) | ((with_reducible refine gate_callee (f := 103) rfl ?_); refine goesL_ (some 9) rfl rfl Try.func103 (by kernel_rfl) rfl #[.slice A1_3 l1_3.length c1_3, .slice A0_3 l0_3.length c0_3] rfl la_ ?_; (with_reducible refine (spec_IsWithinGrants.calls k _ _ l1_3 _ _ l0_3 false _ ?side1 ?side2 ?side3 ?side4 A3.out).mono ?_); (case side1 => repeat (first | exact (Kd.C_below HR1_3.out HB.out) | (with_reducible refine Kd.C_alloc ?_ _) | (with_reducible refine Kd.C_drewN ?_ _) | (with_reducible refine Kd.C_drew ?_))); (case side2 => exact HC1_3.out); (case side3 => repeat (first | exact (Kd.C_below HR0_3.out HB.out) | (with_reducible refine Kd.C_alloc ?_ _) | (with_reducible refine Kd.C_drewN ?_ _) | (with_reducible refine Kd.C_drew ?_))); (case side4 => exact HC0_3.out); rintro e w_1 ⟨rfl, hb⟩; refine ⟨_, rfl, ?_⟩; have n0_ := Aside0.mk (blk_below (g := gb249) bk_ hb); have n1_ := Aside0.mk (blk_below (g := gb250) bk_ hb); have n2_ := Aside0.mk (below_step hb_ hb); clear BK249; clear BK250; clear HB; have BK249 := n0_; have BK250 := n1_; have HB := n2_; clear n0_ n1_ n2_; (try clear hb); (try clear hb2); (try clear hk); (try clear hi))))
  all_goals go_ret
  all_goals (exact ⟨by first | rfl | (simp [errW_none, errW_some] <;> rfl) | (simp [*, errW_none, errW_some] <;> rfl), hb_⟩)
end

section
attribute [local go_sem high] eqA120
/-! ### impl_Flow_139: function 139 -/
def impl_Flow_139.l0 : Nat → List (S120) → Int → Int → Int → Int → Int → Option (Int)
  | 0, _, _, _, _, _, _ => none
  | k + 1, x0, x7, x8, x254000, x254001, x254002 => if x8 < x7 then (if 0 ≤ x8 then (if x8 < (x0.length : Int) then (if (x254000 == ((rd_T120 x0 x8).f0) && (x254001 == ((rd_T120 x0 x8).f1) && (x254002 == ((rd_T120 x0 x8).f2)))) = true then (some x8) else (impl_Flow_139.l0 k x0 x7 (wrap64 (x8 + 1)) x254000 x254001 x254002)) else (none)) else (none)) else (some (-1))
def impl_Flow_139.f (k : Nat) (l0 : List (S120)) (a1_0 : Int) (a1_1 : Int) (a1_2 : Int) : Option (Int) := impl_Flow_139.l0 k l0 (l0.length : Int) 0 a1_0 a1_1 a1_2
theorem impl_Flow_139.mono_l : ∀ k, (∀ y0 y1 y2 y3 y4 y5, LeO (impl_Flow_139.l0 k y0 y1 y2 y3 y4 y5) (impl_Flow_139.l0 (k + 1) y0 y1 y2 y3 y4 y5))
  | 0 => fun _ _ _ _ _ _ r h => by simp [impl_Flow_139.l0] at h
  | k + 1 => by
    have ih0 := impl_Flow_139.mono_l k
    · intro y0 y1 y2 y3 y4 y5
      unfold impl_Flow_139.l0
      repeat' first
      | (with_reducible exact ih0 _ _ _ _ _ _)
      | (with_reducible exact LeO.refl _)
      | (with_reducible exact LeO.none _)
      | (with_reducible refine LeO.ite ?_ ?_)
      | (with_reducible refine LeO.bind ?_ (fun _ => ?_))
      | exact ih0 _ _ _ _ _ _
      | exact LeO.none _
      | refine LeO.ite ?_ ?_
      | refine LeO.bind ?_ (fun _ => ?_)
theorem impl_Flow_139.mono : ∀ a0 a1 a2 a3 k, LeO (impl_Flow_139.f k a0 a1 a2 a3) (impl_Flow_139.f (k + 1) a0 a1 a2 a3) := by
  intro a0 a1 a2 a3 k
  have ih0 := impl_Flow_139.mono_l k
  unfold impl_Flow_139.f
  repeat' first
      | (with_reducible exact ih0 _ _ _ _ _ _)
      | (with_reducible exact LeO.refl _)
      | (with_reducible exact LeO.none _)
      | (with_reducible refine LeO.ite ?_ ?_)
      | (with_reducible refine LeO.bind ?_ (fun _ => ?_))
      | exact ih0 _ _ _ _ _ _
      | exact LeO.none _
      | refine LeO.ite ?_ ?_
      | refine LeO.bind ?_ (fun _ => ?_)
set_option maxHeartbeats 8000000 in
set_option maxRecDepth 100000 in
theorem impl_Flow_139.calls (k : Nat) (A0 : Option Addr) (c0 : Nat) (l0 : List (S120)) (a1_0 : Int) (a1_1 : Int) (a1_2 : Int) (r : Int) (w : World) (hr0 : Kd.C k120 w A0 l0.length l0) (hc0 : l0.length ≤ c0) (h : impl_Flow_139.f k l0 a1_0 a1_1 a1_2 = some r) :
    Calls Try.prog 139 #[.slice A0 l0.length c0, .agg #[.int .i64 a1_0, .int .i64 a1_1, .int .i64 a1_2]] w fun e w' => e = .returned (.int .i64 r) ∧ Below w.heap.size w w' := by
  have hu120 := Try.underlying120
  have HR0 := Aside0.mk hr0
  have HC0 := Aside0.mk hc0
  clear hr0 hc0
  have HB := Aside0.mk (Below.refl w.heap.size w)
  have H : (impl_Flow_139.l0 k l0 (l0.length : Int) 0 a1_0 a1_1 a1_2) = some r := h
  clear h
  have H' := Aside0.mk H
  clear H
  go_enter Try.func139, Try.ntmps139
  go_wp2_with (first | ((with_reducible refine gate_dst (N := 3) rfl ?_); refine box_event ?hg (N := 3) ?hd (cs := #[.int .i64 a1_0, .int .i64 a1_1, .int .i64 a1_2]) (t := 120) ?hr ?_; (case hd => rfl); (case hg => rfl); (case hr => first | (go_simp; done) | (go_simp; rfl)); intro gb253 hg w3 hbox hb; have n0_ := Aside0.mk (below_step hb_ hb); have n1_ := Aside0.mk (hbox); have n2_ := Aside0.mk ((by rw [hg]; exact (below_size hb_) : w.heap.size ≤ gb253)); have n3_ := Aside0.mk ((by rw [hg]; exact (below_size hb_) : w.heap.size ≤ gb253)); clear HB; have HB := n0_; have BK253 := n1_; have GW253 := n2_; have GE253 := n3_; clear n0_ n1_ n2_ n3_; clear hb hbox hg))
  repeat (go_quiet (first | ((with_reducible refine gate_dst (N := 3) rfl ?_); refine box_event ?hg (N := 3) ?hd (cs := #[.int .i64 a1_0, .int .i64 a1_1, .int .i64 a1_2]) (t := 120) ?hr ?_; (case hd => rfl); (case hg => rfl); (case hr => first | (go_simp; done) | (go_simp; rfl)); intro gb253 hg w3 hbox hb; have n0_ := Aside0.mk (below_step hb_ hb); have n1_ := Aside0.mk (hbox); have n2_ := Aside0.mk ((by rw [hg]; exact (below_size hb_) : w.heap.size ≤ gb253)); have n3_ := Aside0.mk ((by rw [hg]; exact (below_size hb_) : w.heap.size ≤ gb253)); clear HB; have HB := n0_; have BK253 := n1_; have GW253 := n2_; have GE253 := n3_; clear n0_ n1_ n2_ n3_; clear hb hbox hg)); try go_wp2_with (first | ((with_reducible refine gate_dst (N := 3) rfl ?_); refine box_event ?hg (N := 3) ?hd (cs := #[.int .i64 a1_0, .int .i64 a1_1, .int .i64 a1_2]) (t := 120) ?hr ?_; (case hd => rfl); (case hg => rfl); (case hr => first | (go_simp; done) | (go_simp; rfl)); intro gb253 hg w3 hbox hb; have n0_ := Aside0.mk (below_step hb_ hb); have n1_ := Aside0.mk (hbox); have n2_ := Aside0.mk ((by rw [hg]; exact (below_size hb_) : w.heap.size ≤ gb253)); have n3_ := Aside0.mk ((by rw [hg]; exact (below_size hb_) : w.heap.size ≤ gb253)); clear HB; have HB := n0_; have BK253 := n1_; have GW253 := n2_; have GE253 := n3_; clear n0_ n1_ n2_ n3_; clear hb hbox hg)))
  go_loopg [8] k (fun kq v8 w' => ∃ (x8_1 : Int), v8 = .int .i64 x8_1 ∧ Aside0 (impl_Flow_139.l0 kq l0 (l0.length : Int) x8_1 a1_0 a1_1 a1_2 = some r) ∧ Aside0 (kq ≤ k) ∧ Aside0 (w'.heap[gb253]? = some (.cells #[.int .i64 a1_0, .int .i64 a1_1, .int .i64 a1_2] 120 (0, 0))) ∧ Aside0 (Below w.heap.size w w'))
  case atStart => exact ⟨(0), (by first | rfl | (simp; done) | (simp [*]; done)), H', ⟨Nat.le_refl _⟩, ⟨by (with_reducible repeat (first | refine blk_drewN ?_ _ | refine blk_drew ?_ | refine blk_alloc ?_ _)); exact BK253.out⟩, ⟨hb_⟩⟩
  case round =>
    clear H'
    try clear c1
    try clear p2
    obtain ⟨x8_1, rfl, HA, HK1, BK253, HB⟩ := hrel
    cases gk with
    | zero => exact absurd HA.out (by simp [impl_Flow_139.l0])
    | succ k1 =>
      have H := HA.out
      clear HA
      simp only [impl_Flow_139.l0] at H
      by_cases c4 : x8_1 < (l0.length : Int)
      · rw [if_pos c4] at H
        have c4b0 : decide (x8_1 < (l0.length : Int)) = true := decide_eq_true c4
        clear c4
        by_cases c5 : 0 ≤ x8_1
        · rw [if_pos c5] at H
          have c5b0 : decide (0 ≤ x8_1) = true := decide_eq_true c5
          clear c5
          by_cases c6 : x8_1 < (l0.length : Int)
          · rw [if_pos c6] at H
            have c6b0 : decide (x8_1 < (l0.length : Int)) = true := decide_eq_true c6
            clear c6
            by_cases c7 : (a1_0 == ((rd_T120 l0 x8_1).f0) && (a1_1 == ((rd_T120 l0 x8_1).f1) && (a1_2 == ((rd_T120 l0 x8_1).f2)))) = true
            · rw [if_pos c7] at H
              have c7b0 : (a1_0 == ((rd_T120 l0 x8_1).f0) && (a1_1 == ((rd_T120 l0 x8_1).f1) && (a1_2 == ((rd_T120 l0 x8_1).f2)))) = true := c7
              (try (have c7b1 : decide (a1_0 = ((rd_T120 l0 x8_1).f0) && (a1_1 == ((rd_T120 l0 x8_1).f1) && (a1_2 == ((rd_T120 l0 x8_1).f2)))) = true := by simpa using c7))
              (try (have c7b2 : (a1_0 == ((rd_T120 l0 x8_1).f0) && (a1_1 == ((rd_T120 l0 x8_1).f1) && (a1_2 == ((rd_T120 l0 x8_1).f2)))) = true := by simpa using c7))
              clear c7
              obtain rfl := Option.some.inj H
              have hcz8_0 : wr.cell? ⟨gb253, 0, none⟩ = some (.int .i64 a1_0) := (blk_cell BK253.out 0).trans rfl
              have hcz8_1 : wr.cell? ⟨gb253, 1, none⟩ = some (.int .i64 a1_1) := (blk_cell BK253.out 1).trans rfl
              have hcz8_2 : wr.cell? ⟨gb253, 2, none⟩ = some (.int .i64 a1_2) := (blk_cell BK253.out 2).trans rfl
              have hfz8_0 := blk_frozen BK253.out 0
              have hfz8_1 := blk_frozen BK253.out 1
              have hfz8_2 := blk_frozen BK253.out 2
              have p254 : 0 ≤ (x8_1 : Int) := of_decide_eq_true (by first | (with_reducible assumption) | assumption)
              have q254 : x8_1 < (l0.length : Int) := of_decide_eq_true (by first | (with_reducible assumption) | assumption)
              obtain ⟨ad254, e254, hx254_0, hx254_1, hx254_2⟩ := at_T120 HR0.out x8_1 p254 q254
              cases e254
              replace hx254_0 := (HB.out.cell (World.block_lt_of_cell? w _ hx254_0)).trans hx254_0
              replace hx254_1 := (HB.out.cell (World.block_lt_of_cell? w _ hx254_1)).trans hx254_1
              replace hx254_2 := (HB.out.cell (World.block_lt_of_cell? w _ hx254_2)).trans hx254_2
              replace p254 := eq_true p254
              replace q254 := eq_true q254
              go_wp2
              repeat (go_quiet (fail); try go_wp2)
              go_ret
              exact ⟨by first | rfl | (simp [errW_none, errW_some] <;> rfl) | (simp [*, errW_none, errW_some] <;> rfl), hb_⟩
            · rw [if_neg c7] at H
              have c7b0 : (a1_0 == ((rd_T120 l0 x8_1).f0) && (a1_1 == ((rd_T120 l0 x8_1).f1) && (a1_2 == ((rd_T120 l0 x8_1).f2)))) = false := by simpa using c7
              (try (have c7b1 : decide (a1_0 = ((rd_T120 l0 x8_1).f0) && (a1_1 == ((rd_T120 l0 x8_1).f1) && (a1_2 == ((rd_T120 l0 x8_1).f2)))) = false := by simpa using c7))
              (try (have c7b2 : (a1_0 == ((rd_T120 l0 x8_1).f0) && (a1_1 == ((rd_T120 l0 x8_1).f1) && (a1_2 == ((rd_T120 l0 x8_1).f2)))) = false := by simpa using c7))
              (try (have c7b3 : ¬ (a1_0 = ((rd_T120 l0 x8_1).f0) && (a1_1 == ((rd_T120 l0 x8_1).f1) && (a1_2 == ((rd_T120 l0 x8_1).f2)))) := by simpa using c7))
              clear c7
              have H' := Aside0.mk H
              clear H
              have hcz9_0 : wr.cell? ⟨gb253, 0, none⟩ = some (.int .i64 a1_0) := (blk_cell BK253.out 0).trans rfl
              have hcz9_1 : wr.cell? ⟨gb253, 1, none⟩ = some (.int .i64 a1_1) := (blk_cell BK253.out 1).trans rfl
              have hcz9_2 : wr.cell? ⟨gb253, 2, none⟩ = some (.int .i64 a1_2) := (blk_cell BK253.out 2).trans rfl
              have hfz9_0 := blk_frozen BK253.out 0
              have hfz9_1 := blk_frozen BK253.out 1
              have hfz9_2 := blk_frozen BK253.out 2
              have p254 : 0 ≤ (x8_1 : Int) := of_decide_eq_true (by first | (with_reducible assumption) | assumption)
              have q254 : x8_1 < (l0.length : Int) := of_decide_eq_true (by first | (with_reducible assumption) | assumption)
              obtain ⟨ad254, e254, hx254_0, hx254_1, hx254_2⟩ := at_T120 HR0.out x8_1 p254 q254
              cases e254
              replace hx254_0 := (HB.out.cell (World.block_lt_of_cell? w _ hx254_0)).trans hx254_0
              replace hx254_1 := (HB.out.cell (World.block_lt_of_cell? w _ hx254_1)).trans hx254_1
              replace hx254_2 := (HB.out.cell (World.block_lt_of_cell? w _ hx254_2)).trans hx254_2
              replace p254 := eq_true p254
              replace q254 := eq_true q254
              go_wp2
              repeat (go_quiet (fail); try go_wp2)
              go_roundg k1
              case measure => have := HK1.out; omega
              case rel => exact ⟨(wrap64 (x8_1 + 1)), (by first | rfl | (simp; done) | (simp [*]; done)), H', ⟨by have := HK1.out; omega⟩, ⟨by (with_reducible repeat (first | refine blk_drewN ?_ _ | refine blk_drew ?_ | refine blk_alloc ?_ _)); exact BK253.out⟩, ⟨hb_⟩⟩
          · rw [if_neg c6] at H
            exact absurd H (by simp)
        · rw [if_neg c5] at H
          exact absurd H (by simp)
      · rw [if_neg c4] at H
        have c4b0 : decide (x8_1 < (l0.length : Int)) = false := decide_eq_false c4
        clear c4
        obtain rfl := Option.some.inj H
        go_wp2
        repeat (go_quiet (fail); try go_wp2)
        go_ret
        exact ⟨by first | rfl | (simp [errW_none, errW_some] <;> rfl) | (simp [*, errW_none, errW_some] <;> rfl), hb_⟩
end

section
attribute [local go_sem high] eqA120
/-! ### impl_Flow_82: function 82 -/
def impl_Flow_82.f (k : Nat) (l0 : List (S120)) (a1_0 : Int) (a1_1 : Int) (a1_2 : Int) : Option (Bool) := (impl_Flow_139.f k l0 a1_0 a1_1 a1_2).bind fun t256 => (some (decide (t256 ≥ 0)))
theorem impl_Flow_82.mono : ∀ a0 a1 a2 a3 k, LeO (impl_Flow_82.f k a0 a1 a2 a3) (impl_Flow_82.f (k + 1) a0 a1 a2 a3) := by
  intro a0 a1 a2 a3 k
  unfold impl_Flow_82.f
  repeat' first
      | (with_reducible exact impl_Flow_139.mono _ _ _ _ _)
      | (with_reducible exact LeO.refl _)
      | (with_reducible exact LeO.none _)
      | (with_reducible refine LeO.ite ?_ ?_)
      | (with_reducible refine LeO.bind ?_ (fun _ => ?_))
      | exact impl_Flow_139.mono _ _ _ _ _
      | exact LeO.none _
      | refine LeO.ite ?_ ?_
      | refine LeO.bind ?_ (fun _ => ?_)
set_option maxHeartbeats 8000000 in
set_option maxRecDepth 100000 in
theorem impl_Flow_82.calls (k : Nat) (A0 : Option Addr) (c0 : Nat) (l0 : List (S120)) (a1_0 : Int) (a1_1 : Int) (a1_2 : Int) (r : Bool) (w : World) (hr0 : Kd.C k120 w A0 l0.length l0) (hc0 : l0.length ≤ c0) (h : impl_Flow_82.f k l0 a1_0 a1_1 a1_2 = some r) :
    Calls Try.prog 82 #[.slice A0 l0.length c0, .agg #[.int .i64 a1_0, .int .i64 a1_1, .int .i64 a1_2]] w fun e w' => e = .returned (.bool r) ∧ Below w.heap.size w w' := by
  have hu120 := Try.underlying120
  have HR0 := Aside0.mk hr0
  have HC0 := Aside0.mk hc0
  clear hr0 hc0
  have HB := Aside0.mk (Below.refl w.heap.size w)
  have H : ((impl_Flow_139.f k l0 a1_0 a1_1 a1_2).bind fun t256 => (some (decide (t256 ≥ 0)))) = some r := h
  clear h
  replace H := Option.bind_eq_some_iff.mp H
  obtain ⟨t256, A30, H⟩ := H
  replace H : (some (decide (t256 ≥ 0))) = some r := H
  have A3 := Aside0.mk A30
  clear A30
  obtain rfl := Option.some.inj H
  go_enter Try.func82, Try.ntmps82
  go_wp2_with (first | ((with_reducible refine gate_dst (N := 3) rfl ?_); refine box_event ?hg (N := 3) ?hd (cs := #[.int .i64 a1_0, .int .i64 a1_1, .int .i64 a1_2]) (t := 120) ?hr ?_; (case hd => rfl); (case hg => rfl); (case hr => first | (go_simp; done) | (go_simp; rfl)); intro gb255 hg w4 hbox hb; have n0_ := Aside0.mk (below_step hb_ hb); have n1_ := Aside0.mk (hbox); have n2_ := Aside0.mk ((by rw [hg]; exact (below_size hb_) : w.heap.size ≤ gb255)); have n3_ := Aside0.mk ((by rw [hg]; exact (below_size hb_) : w.heap.size ≤ gb255)); clear HB; have HB := n0_; have BK255 := n1_; have GW255 := n2_; have GE255 := n3_; clear n0_ n1_ n2_ n3_; clear hb hbox hg; have hcz5_0 : w4.cell? ⟨gb255, 0, none⟩ = some (.int .i64 a1_0) := (blk_cell BK255.out 0).trans rfl; have hcz5_1 : w4.cell? ⟨gb255, 1, none⟩ = some (.int .i64 a1_1) := (blk_cell BK255.out 1).trans rfl; have hcz5_2 : w4.cell? ⟨gb255, 2, none⟩ = some (.int .i64 a1_2) := (blk_cell BK255.out 2).trans rfl; have hfz5_0 := blk_frozen BK255.out 0; have hfz5_1 := blk_frozen BK255.out 1; have hfz5_2 := blk_frozen BK255.out 2) | ((with_reducible refine gate_callee (f := 139) rfl ?_); refine goesL_ (some 7) rfl rfl Try.func139 (by kernel_rfl) rfl #[.slice A0 l0.length c0, .agg #[.int .i64 a1_0, .int .i64 a1_1, .int .i64 a1_2]] rfl la_ ?_; (with_reducible refine (impl_Flow_139.calls k _ _ l0 a1_0 a1_1 a1_2 t256 _ ?side1 ?side2 A3.out).mono ?_); (case side1 => repeat (first | exact (Kd.C_below HR0.out HB.out) | (with_reducible refine Kd.C_alloc ?_ _) | (with_reducible refine Kd.C_drewN ?_ _) | (with_reducible refine Kd.C_drew ?_))); (case side2 => exact HC0.out); rintro e w6 ⟨rfl, hb⟩; refine ⟨_, rfl, ?_⟩; have n0_ := Aside0.mk (blk_below (g := gb255) bk_ hb); have n1_ := Aside0.mk (below_step hb_ hb); clear BK255; clear HB; have BK255 := n0_; have HB := n1_; clear n0_ n1_; (try clear hb); (try clear hb2); (try clear hk); (try clear hi)))
  go_ret
  exact ⟨by first | rfl | (simp [errW_none, errW_some] <;> rfl) | (simp [*, errW_none, errW_some] <;> rfl), hb_⟩
end

section
attribute [local go_sem high] eqA120
/-! ### impl_InRange: function 83 -/
def impl_InRange.f (a0 : Int) (a1 : Int) (a2 : Int) : Option (Bool) := if a1 ≤ a0 then (some (decide (a0 ≤ a2))) else (some false)
set_option maxHeartbeats 8000000 in
set_option maxRecDepth 100000 in
theorem impl_InRange.calls (a0 : Int) (a1 : Int) (a2 : Int) (r : Bool) (w : World) (h : impl_InRange.f a0 a1 a2 = some r) :
    Calls Try.prog 83 #[.int .i64 a0, .int .i64 a1, .int .i64 a2] w fun e w' => e = .returned (.bool r) ∧ Drawn0 w w' := by
  have H : (if a1 ≤ a0 then (some (decide (a0 ≤ a2))) else (some false)) = some r := h
  clear h
  refine Or.elim (Classical.em (a1 ≤ a0)) (fun c4 => ?pc4) (fun c4 => ?nc4)
  case' pc4 =>
    rw [if_pos c4] at H
    have c4b0 : decide (a1 ≤ a0) = true := decide_eq_true c4
    clear c4
    obtain rfl := Option.some.inj H
  case' nc4 =>
    rw [if_neg c4] at H
    have c4b0 : decide (a1 ≤ a0) = false := decide_eq_false c4
    clear c4
    obtain rfl := Option.some.inj H
  all_goals go_enter Try.func83, Try.ntmps83
  all_goals (go_wp2)
  all_goals go_ret
  all_goals (exact ⟨by first | rfl | (simp; done) | (simp [*]; done), by repeat (first | exact Drawn0.refl _ | apply Drawn0.step)⟩)
end

section
attribute [local go_sem high] eqA120
/-! ### impl_IsFlow: function 84 -/
def impl_IsFlow.f (a0_0 : Int) (a0_1 : Int) (a0_2 : Int) : Option (Bool) := (impl_InRange.f a0_0 1 5).bind fun t258 => (if t258 = true then ((impl_InRange.f a0_1 1 9).bind fun t259 => (if t259 = true then ((impl_InRange.f a0_2 1 9).bind fun t260 => (some t260)) else (some false))) else (some false))
set_option maxHeartbeats 8000000 in
set_option maxRecDepth 100000 in
theorem impl_IsFlow.calls (a0_0 : Int) (a0_1 : Int) (a0_2 : Int) (r : Bool) (w : World) (h : impl_IsFlow.f a0_0 a0_1 a0_2 = some r) :
    Calls Try.prog 84 #[.agg #[.int .i64 a0_0, .int .i64 a0_1, .int .i64 a0_2]] w fun e w' => e = .returned (.bool r) ∧ Below w.heap.size w w' := by
  have hu120 := Try.underlying120
  have HB := Aside0.mk (Below.refl w.heap.size w)
  have H : ((impl_InRange.f a0_0 1 5).bind fun t258 => (if t258 = true then ((impl_InRange.f a0_1 1 9).bind fun t259 => (if t259 = true then ((impl_InRange.f a0_2 1 9).bind fun t260 => (some t260)) else (some false))) else (some false))) = some r := h
  clear h
  replace H := Option.bind_eq_some_iff.mp H
  obtain ⟨t258, A20, H⟩ := H
  replace H : (if t258 = true then ((impl_InRange.f a0_1 1 9).bind fun t259 => (if t259 = true then ((impl_InRange.f a0_2 1 9).bind fun t260 => (some t260)) else (some false))) else (some false)) = some r := H
  have A2 := Aside0.mk A20
  clear A20
  refine Or.elim (Classical.em (t258 = true)) (fun c3 => ?pc3) (fun c3 => ?nc3)
  case' pc3 =>
    subst c3
    have H1 : ((impl_InRange.f a0_1 1 9).bind fun t259 => (if t259 = true then ((impl_InRange.f a0_2 1 9).bind fun t260 => (some t260)) else (some false))) = some r := by rw [if_pos rfl] at H; exact H
    clear H
    have H := H1
    clear H1
    replace H := Option.bind_eq_some_iff.mp H
    obtain ⟨t259, A40, H⟩ := H
    replace H : (if t259 = true then ((impl_InRange.f a0_2 1 9).bind fun t260 => (some t260)) else (some false)) = some r := H
    have A4 := Aside0.mk A40
    clear A40
    refine Or.elim (Classical.em (t259 = true)) (fun c5 => ?pc5) (fun c5 => ?nc5)
    case' pc5 =>
      subst c5
      have H1 : ((impl_InRange.f a0_2 1 9).bind fun t260 => (some t260)) = some r := by rw [if_pos rfl] at H; exact H
      clear H
      have H := H1
      clear H1
      replace H := Option.bind_eq_some_iff.mp H
      obtain ⟨t260, A60, H⟩ := H
      replace H : (some t260) = some r := H
      have A6 := Aside0.mk A60
      clear A60
      obtain rfl := Option.some.inj H
    case' nc5 =>
      replace c5 := Bool.eq_false_iff.mpr c5
      subst c5
      have H1 : (some false) = some r := by rw [if_neg (show ¬ (false = true) by decide)] at H; exact H
      clear H
      have H := H1
      clear H1
      obtain rfl := Option.some.inj H
  case' nc3 =>
    replace c3 := Bool.eq_false_iff.mpr c3
    subst c3
    have H1 : (some false) = some r := by rw [if_neg (show ¬ (false = true) by decide)] at H; exact H
    clear H
    have H := H1
    clear H1
    obtain rfl := Option.some.inj H
  all_goals go_enter Try.func84, Try.ntmps84
  all_goals (go_wp2_with (first | ((with_reducible refine gate_dst (N := 1) rfl ?_); refine box_event ?hg (N := 1) ?hd (cs := #[.int .i64 a0_0, .int .i64 a0_1, .int .i64 a0_2]) (t := 120) ?hr ?_; (case hd => rfl); (case hg => rfl); (case hr => first | (go_simp; done) | (go_simp; rfl)); intro gb257 hg w_1 hbox hb; have n0_ := Aside0.mk (below_step hb_ hb); have n1_ := Aside0.mk (hbox); have n2_ := Aside0.mk ((by rw [hg]; exact (below_size hb_) : w.heap.size ≤ gb257)); have n3_ := Aside0.mk ((by rw [hg]; exact (below_size hb_) : w.heap.size ≤ gb257)); clear HB; have HB := n0_; have BK257 := n1_; have GW257 := n2_; have GE257 := n3_; clear n0_ n1_ n2_ n3_; clear hb hbox hg; have hcz1_0 : w_1.cell? ⟨gb257, 0, none⟩ = some (.int .i64 a0_0) := (blk_cell BK257.out 0).trans rfl; have hcz1_1 : w_1.cell? ⟨gb257, 1, none⟩ = some (.int .i64 a0_1) := (blk_cell BK257.out 1).trans rfl; have hcz1_2 : w_1.cell? ⟨gb257, 2, none⟩ = some (.int .i64 a0_2) := (blk_cell BK257.out 2).trans rfl; have hfz1_0 := blk_frozen BK257.out 0; have hfz1_1 := blk_frozen BK257.out 1; have hfz1_2 := blk_frozen BK257.out 2) | ((with_reducible refine gate_callee (f := 83) rfl ?_); refine goesL_ (some 5) rfl rfl Try.func83 (by kernel_rfl) rfl #[.int .i64 a0_0, .int .i64 1, .int .i64 5] rfl la_ ?_; (with_reducible refine (impl_InRange.calls _ _ _ _ _ A2.out).mono ?_); rintro e w' ⟨rfl, ⟨nd, rfl⟩⟩; refine ⟨_, rfl, ?_⟩) | (go_at_call 83; (with_reducible refine (impl_InRange.calls _ _ _ _ _ A4.out).mono ?_); rintro e w' ⟨rfl, ⟨nd, rfl⟩⟩) | (go_at_call 83; (with_reducible refine (impl_InRange.calls _ _ _ _ _ A6.out).mono ?_); rintro e w' ⟨rfl, ⟨nd, rfl⟩⟩)))
  all_goals go_ret
  all_goals (exact ⟨by first | rfl | (simp [errW_none, errW_some] <;> rfl) | (simp [*, errW_none, errW_some] <;> rfl), hb_⟩)
end

end Go.Proofs.Ytmpkaooelpbeaaa.PFnExactIsWider
