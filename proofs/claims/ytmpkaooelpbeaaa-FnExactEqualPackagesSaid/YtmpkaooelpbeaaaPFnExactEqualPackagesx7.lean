-- Laid by this session's own program (wip/gen/myprint.py) over the kit's print; turned to this claim.
import Derived.Test.YtmpkaooelpbeaaaPFnExactEqualPackagesx0
import Derived.Test.YtmpkaooelpbeaaaPFnExactEqualPackagesx1
import Derived.Test.YtmpkaooelpbeaaaPFnExactEqualPackagesx5
import Derived.Test.YtmpkaooelpbeaaaPFnExactEqualPackagesx6
namespace Go.Proofs.Ytmpkaooelpbeaaa.PFnExactEqualPackages
open Go.RowKit Go.Proofs.Ytmpkaooelpbeaaa.Short Go.Proofs.YtmpkaooelpbeaaaW.PrintWords Go.Proofs.YtmpkaooelpbeaaaW.PrintLast Go.Proofs.YtmpkaooelpbeaaaW.PrintMore
attribute [local go_sem] max2_int min2_int max_two min_two max_three min_three max_four min_four
set_option linter.unusedVariables false
set_option linter.unusedSimpArgs false
section
attribute [local go_sem high] eqA46 eqA120 eqA132 eqA139
/-! ### laws_eqPackage: function 43 -/
def laws_eqPackage.f (k : Nat) (a0_0 : Int) (a0_1 : Int) (a0_2 : Int) (l0_3 : List (S132)) (l0_4 : List (S120)) (l0_5 : List (S139)) (l0_6 : List (S46)) (a0_7 : Int) (a1_0 : Int) (a1_1 : Int) (a1_2 : Int) (l1_3 : List (S132)) (l1_4 : List (S120)) (l1_5 : List (S139)) (l1_6 : List (S46)) (a1_7 : Int) : Option (Bool) := if a0_0 = a1_0 then (if a0_1 = a1_1 then (if a0_2 = a1_2 then ((laws_eqGrantS.f k l0_3 l1_3).bind fun t241 => (if t241 = true then ((laws_eqFlowS.f k l0_4 l1_4).bind fun t242 => (if t242 = true then ((laws_eqRuleS.f k l0_5 l1_5).bind fun t243 => (if t243 = true then ((laws_eqOpS.f k l0_6 l1_6).bind fun t244 => (if t244 = true then (if a0_7 = a1_7 then (some true) else (some false)) else (some false))) else (some false))) else (some false))) else (some false))) else (some false)) else (some false)) else (some false)
theorem laws_eqPackage.mono : ∀ a0 a1 a2 a3 a4 a5 a6 a7 a8 a9 a10 a11 a12 a13 a14 a15 k, LeO (laws_eqPackage.f k a0 a1 a2 a3 a4 a5 a6 a7 a8 a9 a10 a11 a12 a13 a14 a15) (laws_eqPackage.f (k + 1) a0 a1 a2 a3 a4 a5 a6 a7 a8 a9 a10 a11 a12 a13 a14 a15) := by
  intro a0 a1 a2 a3 a4 a5 a6 a7 a8 a9 a10 a11 a12 a13 a14 a15 k
  unfold laws_eqPackage.f
  repeat' first
      | (with_reducible exact laws_eqFlowS.mono _ _ _)
      | (with_reducible exact laws_eqGrantS.mono _ _ _)
      | (with_reducible exact laws_eqOpS.mono _ _ _)
      | (with_reducible exact laws_eqRuleS.mono _ _ _)
      | (with_reducible exact LeO.refl _)
      | (with_reducible exact LeO.none _)
      | (with_reducible refine LeO.ite ?_ ?_)
      | (with_reducible refine LeO.bind ?_ (fun _ => ?_))
      | exact laws_eqFlowS.mono _ _ _
      | exact laws_eqGrantS.mono _ _ _
      | exact laws_eqOpS.mono _ _ _
      | exact laws_eqRuleS.mono _ _ _
      | exact LeO.none _
      | refine LeO.ite ?_ ?_
      | refine LeO.bind ?_ (fun _ => ?_)
set_option maxHeartbeats 8000000 in
set_option maxRecDepth 100000 in
theorem laws_eqPackage.calls (k : Nat) (a0_0 : Int) (a0_1 : Int) (a0_2 : Int) (A0_3 : Option Addr) (c0_3 : Nat) (l0_3 : List (S132)) (A0_4 : Option Addr) (c0_4 : Nat) (l0_4 : List (S120)) (A0_5 : Option Addr) (c0_5 : Nat) (l0_5 : List (S139)) (A0_6 : Option Addr) (c0_6 : Nat) (l0_6 : List (S46)) (a0_7 : Int) (a1_0 : Int) (a1_1 : Int) (a1_2 : Int) (A1_3 : Option Addr) (c1_3 : Nat) (l1_3 : List (S132)) (A1_4 : Option Addr) (c1_4 : Nat) (l1_4 : List (S120)) (A1_5 : Option Addr) (c1_5 : Nat) (l1_5 : List (S139)) (A1_6 : Option Addr) (c1_6 : Nat) (l1_6 : List (S46)) (a1_7 : Int) (r : Bool) (w : World) (hr0_3 : Kd.C k132 w A0_3 l0_3.length l0_3) (hc0_3 : l0_3.length ≤ c0_3) (hr0_4 : Kd.C k120 w A0_4 l0_4.length l0_4) (hc0_4 : l0_4.length ≤ c0_4) (hr0_5 : Kd.C k139 w A0_5 l0_5.length l0_5) (hc0_5 : l0_5.length ≤ c0_5) (hr0_6 : Kd.C k46 w A0_6 l0_6.length l0_6) (hc0_6 : l0_6.length ≤ c0_6) (hr1_3 : Kd.C k132 w A1_3 l1_3.length l1_3) (hc1_3 : l1_3.length ≤ c1_3) (hr1_4 : Kd.C k120 w A1_4 l1_4.length l1_4) (hc1_4 : l1_4.length ≤ c1_4) (hr1_5 : Kd.C k139 w A1_5 l1_5.length l1_5) (hc1_5 : l1_5.length ≤ c1_5) (hr1_6 : Kd.C k46 w A1_6 l1_6.length l1_6) (hc1_6 : l1_6.length ≤ c1_6) (h : laws_eqPackage.f k a0_0 a0_1 a0_2 l0_3 l0_4 l0_5 l0_6 a0_7 a1_0 a1_1 a1_2 l1_3 l1_4 l1_5 l1_6 a1_7 = some r) :
    Calls Try.prog 43 #[.agg #[.int .i64 a0_0, .int .i64 a0_1, .int .i64 a0_2, .slice A0_3 l0_3.length c0_3, .slice A0_4 l0_4.length c0_4, .slice A0_5 l0_5.length c0_5, .slice A0_6 l0_6.length c0_6, .int .i64 a0_7], .agg #[.int .i64 a1_0, .int .i64 a1_1, .int .i64 a1_2, .slice A1_3 l1_3.length c1_3, .slice A1_4 l1_4.length c1_4, .slice A1_5 l1_5.length c1_5, .slice A1_6 l1_6.length c1_6, .int .i64 a1_7]] w fun e w' => e = .returned (.bool r) ∧ Below w.heap.size w w' := by
  have hu66 := Try.underlying66
  have HR0_3 := Aside0.mk hr0_3
  have HC0_3 := Aside0.mk hc0_3
  clear hr0_3 hc0_3
  have HR0_4 := Aside0.mk hr0_4
  have HC0_4 := Aside0.mk hc0_4
  clear hr0_4 hc0_4
  have HR0_5 := Aside0.mk hr0_5
  have HC0_5 := Aside0.mk hc0_5
  clear hr0_5 hc0_5
  have HR0_6 := Aside0.mk hr0_6
  have HC0_6 := Aside0.mk hc0_6
  clear hr0_6 hc0_6
  have HR1_3 := Aside0.mk hr1_3
  have HC1_3 := Aside0.mk hc1_3
  clear hr1_3 hc1_3
  have HR1_4 := Aside0.mk hr1_4
  have HC1_4 := Aside0.mk hc1_4
  clear hr1_4 hc1_4
  have HR1_5 := Aside0.mk hr1_5
  have HC1_5 := Aside0.mk hc1_5
  clear hr1_5 hc1_5
  have HR1_6 := Aside0.mk hr1_6
  have HC1_6 := Aside0.mk hc1_6
  clear hr1_6 hc1_6
  have HB := Aside0.mk (Below.refl w.heap.size w)
  have H : (if a0_0 = a1_0 then (if a0_1 = a1_1 then (if a0_2 = a1_2 then ((laws_eqGrantS.f k l0_3 l1_3).bind fun t241 => (if t241 = true then ((laws_eqFlowS.f k l0_4 l1_4).bind fun t242 => (if t242 = true then ((laws_eqRuleS.f k l0_5 l1_5).bind fun t243 => (if t243 = true then ((laws_eqOpS.f k l0_6 l1_6).bind fun t244 => (if t244 = true then (if a0_7 = a1_7 then (some true) else (some false)) else (some false))) else (some false))) else (some false))) else (some false))) else (some false)) else (some false)) else (some false)) = some r := h
  clear h
  refine Or.elim (Classical.em (a0_0 = a1_0)) (fun c3 => ?pc3) (fun c3 => ?nc3)
  case' pc3 =>
    rw [if_pos c3] at H
    have c3b0 : (a0_0 == a1_0) = true := beq_iff_eq.mpr c3
    have c3b1 : (a0_0 != a1_0) = false := bne_eq_false_iff_eq.mpr c3
    clear c3
    refine Or.elim (Classical.em (a0_1 = a1_1)) (fun c4 => ?pc4) (fun c4 => ?nc4)
    case' pc4 =>
      rw [if_pos c4] at H
      have c4b0 : (a0_1 == a1_1) = true := beq_iff_eq.mpr c4
      have c4b1 : (a0_1 != a1_1) = false := bne_eq_false_iff_eq.mpr c4
      clear c4
      refine Or.elim (Classical.em (a0_2 = a1_2)) (fun c5 => ?pc5) (fun c5 => ?nc5)
      case' pc5 =>
        rw [if_pos c5] at H
        have c5b0 : (a0_2 == a1_2) = true := beq_iff_eq.mpr c5
        have c5b1 : (a0_2 != a1_2) = false := bne_eq_false_iff_eq.mpr c5
        clear c5
        replace H := Option.bind_eq_some_iff.mp H
        obtain ⟨t241, A60, H⟩ := H
        replace H : (if t241 = true then ((laws_eqFlowS.f k l0_4 l1_4).bind fun t242 => (if t242 = true then ((laws_eqRuleS.f k l0_5 l1_5).bind fun t243 => (if t243 = true then ((laws_eqOpS.f k l0_6 l1_6).bind fun t244 => (if t244 = true then (if a0_7 = a1_7 then (some true) else (some false)) else (some false))) else (some false))) else (some false))) else (some false)) = some r := H
        have A6 := Aside0.mk A60
        clear A60
        refine Or.elim (Classical.em (t241 = true)) (fun c7 => ?pc7) (fun c7 => ?nc7)
        case' pc7 =>
          subst c7
          have H1 : ((laws_eqFlowS.f k l0_4 l1_4).bind fun t242 => (if t242 = true then ((laws_eqRuleS.f k l0_5 l1_5).bind fun t243 => (if t243 = true then ((laws_eqOpS.f k l0_6 l1_6).bind fun t244 => (if t244 = true then (if a0_7 = a1_7 then (some true) else (some false)) else (some false))) else (some false))) else (some false))) = some r := by rw [if_pos rfl] at H; exact H
          clear H
          have H := H1
          clear H1
          replace H := Option.bind_eq_some_iff.mp H
          obtain ⟨t242, A80, H⟩ := H
          replace H : (if t242 = true then ((laws_eqRuleS.f k l0_5 l1_5).bind fun t243 => (if t243 = true then ((laws_eqOpS.f k l0_6 l1_6).bind fun t244 => (if t244 = true then (if a0_7 = a1_7 then (some true) else (some false)) else (some false))) else (some false))) else (some false)) = some r := H
          have A8 := Aside0.mk A80
          clear A80
          refine Or.elim (Classical.em (t242 = true)) (fun c9 => ?pc9) (fun c9 => ?nc9)
          case' pc9 =>
            subst c9
            have H1 : ((laws_eqRuleS.f k l0_5 l1_5).bind fun t243 => (if t243 = true then ((laws_eqOpS.f k l0_6 l1_6).bind fun t244 => (if t244 = true then (if a0_7 = a1_7 then (some true) else (some false)) else (some false))) else (some false))) = some r := by rw [if_pos rfl] at H; exact H
            clear H
            have H := H1
            clear H1
            replace H := Option.bind_eq_some_iff.mp H
            obtain ⟨t243, A100, H⟩ := H
            replace H : (if t243 = true then ((laws_eqOpS.f k l0_6 l1_6).bind fun t244 => (if t244 = true then (if a0_7 = a1_7 then (some true) else (some false)) else (some false))) else (some false)) = some r := H
            have A10 := Aside0.mk A100
            clear A100
            refine Or.elim (Classical.em (t243 = true)) (fun c11 => ?pc11) (fun c11 => ?nc11)
            case' pc11 =>
              subst c11
              have H1 : ((laws_eqOpS.f k l0_6 l1_6).bind fun t244 => (if t244 = true then (if a0_7 = a1_7 then (some true) else (some false)) else (some false))) = some r := by rw [if_pos rfl] at H; exact H
              clear H
              have H := H1
              clear H1
              replace H := Option.bind_eq_some_iff.mp H
              obtain ⟨t244, A120, H⟩ := H
              replace H : (if t244 = true then (if a0_7 = a1_7 then (some true) else (some false)) else (some false)) = some r := H
              have A12 := Aside0.mk A120
              clear A120
              refine Or.elim (Classical.em (t244 = true)) (fun c13 => ?pc13) (fun c13 => ?nc13)
              case' pc13 =>
                subst c13
                have H1 : (if a0_7 = a1_7 then (some true) else (some false)) = some r := by rw [if_pos rfl] at H; exact H
                clear H
                have H := H1
                clear H1
                refine Or.elim (Classical.em (a0_7 = a1_7)) (fun c14 => ?pc14) (fun c14 => ?nc14)
                case' pc14 =>
                  rw [if_pos c14] at H
                  have c14b0 : (a0_7 == a1_7) = true := beq_iff_eq.mpr c14
                  have c14b1 : (a0_7 != a1_7) = false := bne_eq_false_iff_eq.mpr c14
                  clear c14
                  obtain rfl := Option.some.inj H
                case' nc14 =>
                  rw [if_neg c14] at H
                  have c14b0 : (a0_7 == a1_7) = false := beq_eq_false_iff_ne.mpr c14
                  have c14b1 : (a0_7 != a1_7) = true := bne_iff_ne.mpr c14
                  obtain rfl := Option.some.inj H
              case' nc13 =>
                replace c13 := Bool.eq_false_iff.mpr c13
                subst c13
                have H1 : (some false) = some r := by rw [if_neg (show ¬ (false = true) by decide)] at H; exact H
                clear H
                have H := H1
                clear H1
                obtain rfl := Option.some.inj H
            case' nc11 =>
              replace c11 := Bool.eq_false_iff.mpr c11
              subst c11
              have H1 : (some false) = some r := by rw [if_neg (show ¬ (false = true) by decide)] at H; exact H
              clear H
              have H := H1
              clear H1
              obtain rfl := Option.some.inj H
          case' nc9 =>
            replace c9 := Bool.eq_false_iff.mpr c9
            subst c9
            have H1 : (some false) = some r := by rw [if_neg (show ¬ (false = true) by decide)] at H; exact H
            clear H
            have H := H1
            clear H1
            obtain rfl := Option.some.inj H
        case' nc7 =>
          replace c7 := Bool.eq_false_iff.mpr c7
          subst c7
          have H1 : (some false) = some r := by rw [if_neg (show ¬ (false = true) by decide)] at H; exact H
          clear H
          have H := H1
          clear H1
          obtain rfl := Option.some.inj H
      case' nc5 =>
        rw [if_neg c5] at H
        have c5b0 : (a0_2 == a1_2) = false := beq_eq_false_iff_ne.mpr c5
        have c5b1 : (a0_2 != a1_2) = true := bne_iff_ne.mpr c5
        obtain rfl := Option.some.inj H
    case' nc4 =>
      rw [if_neg c4] at H
      have c4b0 : (a0_1 == a1_1) = false := beq_eq_false_iff_ne.mpr c4
      have c4b1 : (a0_1 != a1_1) = true := bne_iff_ne.mpr c4
      obtain rfl := Option.some.inj H
  case' nc3 =>
    rw [if_neg c3] at H
    have c3b0 : (a0_0 == a1_0) = false := beq_eq_false_iff_ne.mpr c3
    have c3b1 : (a0_0 != a1_0) = true := bne_iff_ne.mpr c3
    obtain rfl := Option.some.inj H
  all_goals go_enter Try.func43, Try.ntmps43
  all_goals (go_wp2_with (first | ((with_reducible refine gate_dst (N := 2) rfl ?_); refine box_event ?hg (N := 2) ?hd (cs := #[.int .i64 a0_0, .int .i64 a0_1, .int .i64 a0_2, .slice A0_3 l0_3.length c0_3, .slice A0_4 l0_4.length c0_4, .slice A0_5 l0_5.length c0_5, .slice A0_6 l0_6.length c0_6, .int .i64 a0_7]) (t := 66) ?hr ?_; (case hd => rfl); (case hg => rfl); (case hr => first | (go_simp; done) | (go_simp; rfl)); intro gb239 hg w_1 hbox hb; have n0_ := Aside0.mk (below_step hb_ hb); have n1_ := Aside0.mk (hbox); have n2_ := Aside0.mk ((by rw [hg]; exact (below_size hb_) : w.heap.size ≤ gb239)); have n3_ := Aside0.mk ((by rw [hg]; exact (below_size hb_) : w.heap.size ≤ gb239)); clear HB; have HB := n0_; have BK239 := n1_; have GW239 := n2_; have GE239 := n3_; clear n0_ n1_ n2_ n3_; clear hb hbox hg) | ((with_reducible refine gate_dst (N := 3) rfl ?_); refine box_event ?hg (N := 3) ?hd (cs := #[.int .i64 a1_0, .int .i64 a1_1, .int .i64 a1_2, .slice A1_3 l1_3.length c1_3, .slice A1_4 l1_4.length c1_4, .slice A1_5 l1_5.length c1_5, .slice A1_6 l1_6.length c1_6, .int .i64 a1_7]) (t := 66) ?hr ?_; (case hd => rfl); (case hg => rfl); (case hr => first | (go_simp; done) | (go_simp; rfl)); intro gb240 hg w_1 hbox hb; have n0_ := Aside0.mk (blk_below (g := gb239) bk_ hb); have n1_ := Aside0.mk (below_step hb_ hb); have n2_ := Aside0.mk (hbox); have n3_ := Aside0.mk ((by rw [hg]; exact (below_size hb_) : w.heap.size ≤ gb240)); have n4_ := Aside0.mk ((by rw [hg]; exact (below_size hb_) : w.heap.size ≤ gb240)); have n5_ := Aside0.mk ((by rw [hg]; exact Nat.ne_of_lt (blk_lt (g := gb239) bk_) : gb239 ≠ gb240)); have n6_ := Aside0.mk ((by rw [hg]; exact Nat.ne_of_gt (blk_lt (g := gb239) bk_) : gb240 ≠ gb239)); clear BK239; clear HB; have BK239 := n0_; have HB := n1_; have BK240 := n2_; have GW240 := n3_; have GE240 := n4_; have NB239_240 := n5_; have NB240_239 := n6_; clear n0_ n1_ n2_ n3_ n4_ n5_ n6_; clear hb hbox hg; (try (have hnb103 := NB239_240.out)); (try (have hnc103 := NB240_239.out)); (try (have hcz1_0 : w_1.cell? ⟨gb239, 0, none⟩ = some (.int .i64 a0_0) := (blk_cell BK239.out 0).trans rfl)); (try (have hcz1_1 : w_1.cell? ⟨gb239, 1, none⟩ = some (.int .i64 a0_1) := (blk_cell BK239.out 1).trans rfl)); (try (have hcz1_2 : w_1.cell? ⟨gb239, 2, none⟩ = some (.int .i64 a0_2) := (blk_cell BK239.out 2).trans rfl)); (try (have hcz1_3 : w_1.cell? ⟨gb239, 3, none⟩ = some (.slice A0_3 l0_3.length c0_3) := (blk_cell BK239.out 3).trans rfl)); (try (have hcz1_4 : w_1.cell? ⟨gb239, 4, none⟩ = some (.slice A0_4 l0_4.length c0_4) := (blk_cell BK239.out 4).trans rfl)); (try (have hcz1_5 : w_1.cell? ⟨gb239, 5, none⟩ = some (.slice A0_5 l0_5.length c0_5) := (blk_cell BK239.out 5).trans rfl)); (try (have hcz1_6 : w_1.cell? ⟨gb239, 6, none⟩ = some (.slice A0_6 l0_6.length c0_6) := (blk_cell BK239.out 6).trans rfl)); (try (have hcz1_7 : w_1.cell? ⟨gb239, 7, none⟩ = some (.int .i64 a0_7) := (blk_cell BK239.out 7).trans rfl)); (try (have hfz1_0 := blk_frozen BK239.out 0)); (try (have hfz1_1 := blk_frozen BK239.out 1)); (try (have hfz1_2 := blk_frozen BK239.out 2)); (try (have hfz1_3 := blk_frozen BK239.out 3)); (try (have hfz1_4 := blk_frozen BK239.out 4)); (try (have hfz1_5 := blk_frozen BK239.out 5)); (try (have hfz1_6 := blk_frozen BK239.out 6)); (try (have hfz1_7 := blk_frozen BK239.out 7)); (try (have hcz2_0 : w_1.cell? ⟨gb240, 0, none⟩ = some (.int .i64 a1_0) := (blk_cell BK240.out 0).trans rfl)); (try (have hcz2_1 : w_1.cell? ⟨gb240, 1, none⟩ = some (.int .i64 a1_1) := (blk_cell BK240.out 1).trans rfl)); (try (have hcz2_2 : w_1.cell? ⟨gb240, 2, none⟩ = some (.int .i64 a1_2) := (blk_cell BK240.out 2).trans rfl)); (try (have hcz2_3 : w_1.cell? ⟨gb240, 3, none⟩ = some (.slice A1_3 l1_3.length c1_3) := (blk_cell BK240.out 3).trans rfl)); (try (have hcz2_4 : w_1.cell? ⟨gb240, 4, none⟩ = some (.slice A1_4 l1_4.length c1_4) := (blk_cell BK240.out 4).trans rfl)); (try (have hcz2_5 : w_1.cell? ⟨gb240, 5, none⟩ = some (.slice A1_5 l1_5.length c1_5) := (blk_cell BK240.out 5).trans rfl)); (try (have hcz2_6 : w_1.cell? ⟨gb240, 6, none⟩ = some (.slice A1_6 l1_6.length c1_6) := (blk_cell BK240.out 6).trans rfl)); (try (have hcz2_7 : w_1.cell? ⟨gb240, 7, none⟩ = some (.int .i64 a1_7) := (blk_cell BK240.out 7).trans rfl)); (try (have hfz2_0 := blk_frozen BK240.out 0)); (try (have hfz2_1 := blk_frozen BK240.out 1)); (try (have hfz2_2 := blk_frozen BK240.out 2)); (try (have hfz2_3 := blk_frozen BK240.out 3)); (try (have hfz2_4 := blk_frozen BK240.out 4)); (try (have hfz2_5 := blk_frozen BK240.out 5)); (try (have hfz2_6 := blk_frozen BK240.out 6)); (try (have hfz2_7 := blk_frozen BK240.out 7))) | ((with_reducible refine gate_callee (f := 101) rfl ?_); refine goesL_ (some 24) rfl rfl Try.func101 (by kernel_rfl) rfl #[.slice A0_3 l0_3.length c0_3, .slice A1_3 l1_3.length c1_3] rfl la_ ?_; (with_reducible refine (laws_eqGrantS.calls k _ _ l0_3 _ _ l1_3 true _ ?side1 ?side2 ?side3 ?side4 A6.out).mono ?_); (case side1 => repeat (first | exact (Kd.C_below HR0_3.out HB.out) | (with_reducible refine Kd.C_alloc ?_ _) | (with_reducible refine Kd.C_drewN ?_ _) | (with_reducible refine Kd.C_drew ?_))); (case side2 => exact HC0_3.out); (case side3 => repeat (first | exact (Kd.C_below HR1_3.out HB.out) | (with_reducible refine Kd.C_alloc ?_ _) | (with_reducible refine Kd.C_drewN ?_ _) | (with_reducible refine Kd.C_drew ?_))); (case side4 => exact HC1_3.out); rintro e w_1 ⟨rfl, hb⟩; refine ⟨_, rfl, ?_⟩; have n0_ := Aside0.mk (blk_below (g := gb239) bk_ hb); have n1_ := Aside0.mk (blk_below (g := gb240) bk_ hb); have n2_ := Aside0.mk (below_step hb_ hb); clear BK239; clear BK240; clear HB; have BK239 := n0_; have BK240 := n1_; have HB := n2_; clear n0_ n1_ n2_; (try clear hb); (try clear hb2); (try clear hk); (try clear hi); have hcz1_0 : w_1.cell? ⟨gb239, 0, none⟩ = some (.int .i64 a0_0) := (blk_cell BK239.out 0).trans rfl; have hcz1_1 : w_1.cell? ⟨gb239, 1, none⟩ = some (.int .i64 a0_1) := (blk_cell BK239.out 1).trans rfl; have hcz1_2 : w_1.cell? ⟨gb239, 2, none⟩ = some (.int .i64 a0_2) := (blk_cell BK239.out 2).trans rfl; have hcz1_3 : w_1.cell? ⟨gb239, 3, none⟩ = some (.slice A0_3 l0_3.length c0_3) := (blk_cell BK239.out 3).trans rfl; have hcz1_4 : w_1.cell? ⟨gb239, 4, none⟩ = some (.slice A0_4 l0_4.length c0_4) := (blk_cell BK239.out 4).trans rfl; have hcz1_5 : w_1.cell? ⟨gb239, 5, none⟩ = some (.slice A0_5 l0_5.length c0_5) := (blk_cell BK239.out 5).trans rfl; have hcz1_6 : w_1.cell? ⟨gb239, 6, none⟩ = some (.slice A0_6 l0_6.length c0_6) := (blk_cell BK239.out 6).trans rfl; have hcz1_7 : w_1.cell? ⟨gb239, 7, none⟩ = some (.int .i64 a0_7) := (blk_cell BK239.out 7).trans rfl; have hfz1_0 := blk_frozen BK239.out 0; have hfz1_1 := blk_frozen BK239.out 1; have hfz1_2 := blk_frozen BK239.out 2; have hfz1_3 := blk_frozen BK239.out 3; have hfz1_4 := blk_frozen BK239.out 4; have hfz1_5 := blk_frozen BK239.out 5; have hfz1_6 := blk_frozen BK239.out 6; have hfz1_7 := blk_frozen BK239.out 7; have hcz2_0 : w_1.cell? ⟨gb240, 0, none⟩ = some (.int .i64 a1_0) := (blk_cell BK240.out 0).trans rfl; have hcz2_1 : w_1.cell? ⟨gb240, 1, none⟩ = some (.int .i64 a1_1) := (blk_cell BK240.out 1).trans rfl; have hcz2_2 : w_1.cell? ⟨gb240, 2, none⟩ = some (.int .i64 a1_2) := (blk_cell BK240.out 2).trans rfl; have hcz2_3 : w_1.cell? ⟨gb240, 3, none⟩ = some (.slice A1_3 l1_3.length c1_3) := (blk_cell BK240.out 3).trans rfl; have hcz2_4 : w_1.cell? ⟨gb240, 4, none⟩ = some (.slice A1_4 l1_4.length c1_4) := (blk_cell BK240.out 4).trans rfl; have hcz2_5 : w_1.cell? ⟨gb240, 5, none⟩ = some (.slice A1_5 l1_5.length c1_5) := (blk_cell BK240.out 5).trans rfl; have hcz2_6 : w_1.cell? ⟨gb240, 6, none⟩ = some (.slice A1_6 l1_6.length c1_6) := (blk_cell BK240.out 6).trans rfl; have hcz2_7 : w_1.cell? ⟨gb240, 7, none⟩ = some (.int .i64 a1_7) := (blk_cell BK240.out 7).trans rfl; have hfz2_0 := blk_frozen BK240.out 0; have hfz2_1 := blk_frozen BK240.out 1; have hfz2_2 := blk_frozen BK240.out 2; have hfz2_3 := blk_frozen BK240.out 3; have hfz2_4 := blk_frozen BK240.out 4; have hfz2_5 := blk_frozen BK240.out 5; have hfz2_6 := blk_frozen BK240.out 6; have hfz2_7 := blk_frozen BK240.out 7) | ((with_reducible refine gate_callee (f := 32) rfl ?_); refine goesL_ (some 30) rfl rfl Try.func32 (by kernel_rfl) rfl #[.slice A0_4 l0_4.length c0_4, .slice A1_4 l1_4.length c1_4] rfl la_ ?_; (with_reducible refine (laws_eqFlowS.calls k _ _ l0_4 _ _ l1_4 true _ ?side1 ?side2 ?side3 ?side4 A8.out).mono ?_); (case side1 => repeat (first | exact (Kd.C_below HR0_4.out HB.out) | (with_reducible refine Kd.C_alloc ?_ _) | (with_reducible refine Kd.C_drewN ?_ _) | (with_reducible refine Kd.C_drew ?_))); (case side2 => exact HC0_4.out); (case side3 => repeat (first | exact (Kd.C_below HR1_4.out HB.out) | (with_reducible refine Kd.C_alloc ?_ _) | (with_reducible refine Kd.C_drewN ?_ _) | (with_reducible refine Kd.C_drew ?_))); (case side4 => exact HC1_4.out); rintro e w_1 ⟨rfl, hb⟩; refine ⟨_, rfl, ?_⟩; have n0_ := Aside0.mk (blk_below (g := gb239) bk_ hb); have n1_ := Aside0.mk (blk_below (g := gb240) bk_ hb); have n2_ := Aside0.mk (below_step hb_ hb); clear BK239; clear BK240; clear HB; have BK239 := n0_; have BK240 := n1_; have HB := n2_; clear n0_ n1_ n2_; (try clear hb); (try clear hb2); (try clear hk); (try clear hi); have hcz1_0 : w_1.cell? ⟨gb239, 0, none⟩ = some (.int .i64 a0_0) := (blk_cell BK239.out 0).trans rfl; have hcz1_1 : w_1.cell? ⟨gb239, 1, none⟩ = some (.int .i64 a0_1) := (blk_cell BK239.out 1).trans rfl; have hcz1_2 : w_1.cell? ⟨gb239, 2, none⟩ = some (.int .i64 a0_2) := (blk_cell BK239.out 2).trans rfl; have hcz1_3 : w_1.cell? ⟨gb239, 3, none⟩ = some (.slice A0_3 l0_3.length c0_3) := (blk_cell BK239.out 3).trans rfl; have hcz1_4 : w_1.cell? ⟨gb239, 4, none⟩ = some (.slice A0_4 l0_4.length c0_4) := (blk_cell BK239.out 4).trans rfl; have hcz1_5 : w_1.cell? ⟨gb239, 5, none⟩ = some (.slice A0_5 l0_5.length c0_5) := (blk_cell BK239.out 5).trans rfl; have hcz1_6 : w_1.cell? ⟨gb239, 6, none⟩ = some (.slice A0_6 l0_6.length c0_6) := (blk_cell BK239.out 6).trans rfl; have hcz1_7 : w_1.cell? ⟨gb239, 7, none⟩ = some (.int .i64 a0_7) := (blk_cell BK239.out 7).trans rfl; have hfz1_0 := blk_frozen BK239.out 0; have hfz1_1 := blk_frozen BK239.out 1; have hfz1_2 := blk_frozen BK239.out 2; have hfz1_3 := blk_frozen BK239.out 3; have hfz1_4 := blk_frozen BK239.out 4; have hfz1_5 := blk_frozen BK239.out 5; have hfz1_6 := blk_frozen BK239.out 6; have hfz1_7 := blk_frozen BK239.out 7; have hcz2_0 : w_1.cell? ⟨gb240, 0, none⟩ = some (.int .i64 a1_0) := (blk_cell BK240.out 0).trans rfl; have hcz2_1 : w_1.cell? ⟨gb240, 1, none⟩ = some (.int .i64 a1_1) := (blk_cell BK240.out 1).trans rfl; have hcz2_2 : w_1.cell? ⟨gb240, 2, none⟩ = some (.int .i64 a1_2) := (blk_cell BK240.out 2).trans rfl; have hcz2_3 : w_1.cell? ⟨gb240, 3, none⟩ = some (.slice A1_3 l1_3.length c1_3) := (blk_cell BK240.out 3).trans rfl; have hcz2_4 : w_1.cell? ⟨gb240, 4, none⟩ = some (.slice A1_4 l1_4.length c1_4) := (blk_cell BK240.out 4).trans rfl; have hcz2_5 : w_1.cell? ⟨gb240, 5, none⟩ = some (.slice A1_5 l1_5.length c1_5) := (blk_cell BK240.out 5).trans rfl; have hcz2_6 : w_1.cell? ⟨gb240, 6, none⟩ = some (.slice A1_6 l1_6.length c1_6) := (blk_cell BK240.out 6).trans rfl; have hcz2_7 : w_1.cell? ⟨gb240, 7, none⟩ = some (.int .i64 a1_7) := (blk_cell BK240.out 7).trans rfl; have hfz2_0 := blk_frozen BK240.out 0; have hfz2_1 := blk_frozen BK240.out 1; have hfz2_2 := blk_frozen BK240.out 2; have hfz2_3 := blk_frozen BK240.out 3; have hfz2_4 := blk_frozen BK240.out 4; have hfz2_5 := blk_frozen BK240.out 5; have hfz2_6 := blk_frozen BK240.out 6; have hfz2_7 := blk_frozen BK240.out 7) | ((with_reducible refine gate_callee (f := 102) rfl ?_); refine goesL_ (some 36) rfl rfl Try.func102 (by kernel_rfl) rfl #[.slice A0_5 l0_5.length c0_5, .slice A1_5 l1_5.length c1_5] rfl la_ ?_; (with_reducible refine (laws_eqRuleS.calls k _ _ l0_5 _ _ l1_5 true _ ?side1 ?side2 ?side3 ?side4 A10.out).mono ?_); (case side1 => repeat (first | exact (Kd.C_below HR0_5.out HB.out) | (with_reducible refine Kd.C_alloc ?_ _) | (with_reducible refine Kd.C_drewN ?_ _) | (with_reducible refine Kd.C_drew ?_))); (case side2 => exact HC0_5.out); (case side3 => repeat (first | exact (Kd.C_below HR1_5.out HB.out) | (with_reducible refine Kd.C_alloc ?_ _) | (with_reducible refine Kd.C_drewN ?_ _) | (with_reducible refine Kd.C_drew ?_))); (case side4 => exact HC1_5.out); rintro e w_1 ⟨rfl, hb⟩; refine ⟨_, rfl, ?_⟩; have n0_ := Aside0.mk (blk_below (g := gb239) bk_ hb); have n1_ := Aside0.mk (blk_below (g := gb240) bk_ hb); have n2_ := Aside0.mk (below_step hb_ hb); clear BK239; clear BK240; clear HB; have BK239 := n0_; have BK240 := n1_; have HB := n2_; clear n0_ n1_ n2_; (try clear hb); (try clear hb2); (try clear hk); (try clear hi); have hcz1_0 : w_1.cell? ⟨gb239, 0, none⟩ = some (.int .i64 a0_0) := (blk_cell BK239.out 0).trans rfl; have hcz1_1 : w_1.cell? ⟨gb239, 1, none⟩ = some (.int .i64 a0_1) := (blk_cell BK239.out 1).trans rfl; have hcz1_2 : w_1.cell? ⟨gb239, 2, none⟩ = some (.int .i64 a0_2) := (blk_cell BK239.out 2).trans rfl; have hcz1_3 : w_1.cell? ⟨gb239, 3, none⟩ = some (.slice A0_3 l0_3.length c0_3) := (blk_cell BK239.out 3).trans rfl; have hcz1_4 : w_1.cell? ⟨gb239, 4, none⟩ = some (.slice A0_4 l0_4.length c0_4) := (blk_cell BK239.out 4).trans rfl; have hcz1_5 : w_1.cell? ⟨gb239, 5, none⟩ = some (.slice A0_5 l0_5.length c0_5) := (blk_cell BK239.out 5).trans rfl; have hcz1_6 : w_1.cell? ⟨gb239, 6, none⟩ = some (.slice A0_6 l0_6.length c0_6) := (blk_cell BK239.out 6).trans rfl; have hcz1_7 : w_1.cell? ⟨gb239, 7, none⟩ = some (.int .i64 a0_7) := (blk_cell BK239.out 7).trans rfl; have hfz1_0 := blk_frozen BK239.out 0; have hfz1_1 := blk_frozen BK239.out 1; have hfz1_2 := blk_frozen BK239.out 2; have hfz1_3 := blk_frozen BK239.out 3; have hfz1_4 := blk_frozen BK239.out 4; have hfz1_5 := blk_frozen BK239.out 5; have hfz1_6 := blk_frozen BK239.out 6; have hfz1_7 := blk_frozen BK239.out 7; have hcz2_0 : w_1.cell? ⟨gb240, 0, none⟩ = some (.int .i64 a1_0) := (blk_cell BK240.out 0).trans rfl; have hcz2_1 : w_1.cell? ⟨gb240, 1, none⟩ = some (.int .i64 a1_1) := (blk_cell BK240.out 1).trans rfl; have hcz2_2 : w_1.cell? ⟨gb240, 2, none⟩ = some (.int .i64 a1_2) := (blk_cell BK240.out 2).trans rfl; have hcz2_3 : w_1.cell? ⟨gb240, 3, none⟩ = some (.slice A1_3 l1_3.length c1_3) := (blk_cell BK240.out 3).trans rfl; have hcz2_4 : w_1.cell? ⟨gb240, 4, none⟩ = some (.slice A1_4 l1_4.length c1_4) := (blk_cell BK240.out 4).trans rfl; have hcz2_5 : w_1.cell? ⟨gb240, 5, none⟩ = some (.slice A1_5 l1_5.length c1_5) := (blk_cell BK240.out 5).trans rfl; have hcz2_6 : w_1.cell? ⟨gb240, 6, none⟩ = some (.slice A1_6 l1_6.length c1_6) := (blk_cell BK240.out 6).trans rfl; have hcz2_7 : w_1.cell? ⟨gb240, 7, none⟩ = some (.int .i64 a1_7) := (blk_cell BK240.out 7).trans rfl; have hfz2_0 := blk_frozen BK240.out 0; have hfz2_1 := blk_frozen BK240.out 1; have hfz2_2 := blk_frozen BK240.out 2; have hfz2_3 := blk_frozen BK240.out 3; have hfz2_4 := blk_frozen BK240.out 4; have hfz2_5 := blk_frozen BK240.out 5; have hfz2_6 := blk_frozen BK240.out 6; have hfz2_7 := blk_frozen BK240.out 7) | ((with_reducible refine gate_callee (f := 18) rfl ?_); refine goesL_ (some 42) rfl rfl Try.func18 (by kernel_rfl) rfl #[.slice A0_6 l0_6.length c0_6, .slice A1_6 l1_6.length c1_6] rfl la_ ?_; (with_reducible refine (laws_eqOpS.calls k _ _ l0_6 _ _ l1_6 true _ ?side1 ?side2 ?side3 ?side4 A12.out).mono ?_); (case side1 => repeat (first | exact (Kd.C_below HR0_6.out HB.out) | (with_reducible refine Kd.C_alloc ?_ _) | (with_reducible refine Kd.C_drewN ?_ _) | (with_reducible refine Kd.C_drew ?_))); (case side2 => exact HC0_6.out); (case side3 => repeat (first | exact (Kd.C_below HR1_6.out HB.out) | (with_reducible refine Kd.C_alloc ?_ _) | (with_reducible refine Kd.C_drewN ?_ _) | (with_reducible refine Kd.C_drew ?_))); (case side4 => exact HC1_6.out); rintro e w_1 ⟨rfl, hb⟩; refine ⟨_, rfl, ?_⟩; have n0_ := Aside0.mk (blk_below (g := gb239) bk_ hb); have n1_ := Aside0.mk (blk_below (g := gb240) bk_ hb); have n2_ := Aside0.mk (below_step hb_ hb); clear BK239; clear BK240; clear HB; have BK239 := n0_; have BK240 := n1_; have HB := n2_; clear n0_ n1_ n2_; (try clear hb); (try clear hb2); (try clear hk); (try clear hi); have hcz1_0 : w_1.cell? ⟨gb239, 0, none⟩ = some (.int .i64 a0_0) := (blk_cell BK239.out 0).trans rfl; have hcz1_1 : w_1.cell? ⟨gb239, 1, none⟩ = some (.int .i64 a0_1) := (blk_cell BK239.out 1).trans rfl; have hcz1_2 : w_1.cell? ⟨gb239, 2, none⟩ = some (.int .i64 a0_2) := (blk_cell BK239.out 2).trans rfl; have hcz1_3 : w_1.cell? ⟨gb239, 3, none⟩ = some (.slice A0_3 l0_3.length c0_3) := (blk_cell BK239.out 3).trans rfl; have hcz1_4 : w_1.cell? ⟨gb239, 4, none⟩ = some (.slice A0_4 l0_4.length c0_4) := (blk_cell BK239.out 4).trans rfl; have hcz1_5 : w_1.cell? ⟨gb239, 5, none⟩ = some (.slice A0_5 l0_5.length c0_5) := (blk_cell BK239.out 5).trans rfl; have hcz1_6 : w_1.cell? ⟨gb239, 6, none⟩ = some (.slice A0_6 l0_6.length c0_6) := (blk_cell BK239.out 6).trans rfl; have hcz1_7 : w_1.cell? ⟨gb239, 7, none⟩ = some (.int .i64 a0_7) := (blk_cell BK239.out 7).trans rfl; have hfz1_0 := blk_frozen BK239.out 0; have hfz1_1 := blk_frozen BK239.out 1; have hfz1_2 := blk_frozen BK239.out 2; have hfz1_3 := blk_frozen BK239.out 3; have hfz1_4 := blk_frozen BK239.out 4; have hfz1_5 := blk_frozen BK239.out 5; have hfz1_6 := blk_frozen BK239.out 6; have hfz1_7 := blk_frozen BK239.out 7; have hcz2_0 : w_1.cell? ⟨gb240, 0, none⟩ = some (.int .i64 a1_0) := (blk_cell BK240.out 0).trans rfl; have hcz2_1 : w_1.cell? ⟨gb240, 1, none⟩ = some (.int .i64 a1_1) := (blk_cell BK240.out 1).trans rfl; have hcz2_2 : w_1.cell? ⟨gb240, 2, none⟩ = some (.int .i64 a1_2) := (blk_cell BK240.out 2).trans rfl; have hcz2_3 : w_1.cell? ⟨gb240, 3, none⟩ = some (.slice A1_3 l1_3.length c1_3) := (blk_cell BK240.out 3).trans rfl; have hcz2_4 : w_1.cell? ⟨gb240, 4, none⟩ = some (.slice A1_4 l1_4.length c1_4) := (blk_cell BK240.out 4).trans rfl; have hcz2_5 : w_1.cell? ⟨gb240, 5, none⟩ = some (.slice A1_5 l1_5.length c1_5) := (blk_cell BK240.out 5).trans rfl; have hcz2_6 : w_1.cell? ⟨gb240, 6, none⟩ = some (.slice A1_6 l1_6.length c1_6) := (blk_cell BK240.out 6).trans rfl; have hcz2_7 : w_1.cell? ⟨gb240, 7, none⟩ = some (.int .i64 a1_7) := (blk_cell BK240.out 7).trans rfl; have hfz2_0 := blk_frozen BK240.out 0; have hfz2_1 := blk_frozen BK240.out 1; have hfz2_2 := blk_frozen BK240.out 2; have hfz2_3 := blk_frozen BK240.out 3; have hfz2_4 := blk_frozen BK240.out 4; have hfz2_5 := blk_frozen BK240.out 5; have hfz2_6 := blk_frozen BK240.out 6; have hfz2_7 := blk_frozen BK240.out 7) | ((with_reducible refine gate_callee (f := 18) rfl ?_); refine goesL_ (some 42) rfl rfl Try.func18 (by kernel_rfl) rfl #[.slice A0_6 l0_6.length c0_6, .slice A1_6 l1_6.length c1_6] rfl la_ ?_; (with_reducible refine (laws_eqOpS.calls k _ _ l0_6 _ _ l1_6 false _ ?side1 ?side2 ?side3 ?side4 A12.out).mono ?_); (case side1 => repeat (first | exact (Kd.C_below HR0_6.out HB.out) | (with_reducible refine Kd.C_alloc ?_ _) | (with_reducible refine Kd.C_drewN ?_ _) | (with_reducible refine Kd.C_drew ?_))); (case side2 => exact HC0_6.out); (case side3 => repeat (first | exact (Kd.C_below HR1_6.out HB.out) | (with_reducible refine Kd.C_alloc ?_ _) | (with_reducible refine Kd.C_drewN ?_ _) | (with_reducible refine Kd.C_drew ?_))); (case side4 => exact HC1_6.out); rintro e w_1 ⟨rfl, hb⟩; refine ⟨_, rfl, ?_⟩; have n0_ := Aside0.mk (blk_below (g := gb239) bk_ hb); have n1_ := Aside0.mk (blk_below (g := gb240) bk_ hb); have n2_ := Aside0.mk (below_step hb_ hb); clear BK239; clear BK240; clear HB; have BK239 := n0_; have BK240 := n1_; have HB := n2_; clear n0_ n1_ n2_; (try clear hb); (try clear hb2); (try clear hk); (try clear hi)) | ((with_reducible refine gate_callee (f := 102) rfl ?_); refine goesL_ (some 36) rfl rfl Try.func102 (by kernel_rfl) rfl #[.slice A0_5 l0_5.length c0_5, .slice A1_5 l1_5.length c1_5] rfl la_ ?_; (with_reducible refine (laws_eqRuleS.calls k _ _ l0_5 _ _ l1_5 false _ ?side1 ?side2 ?side3 ?side4 A10.out).mono ?_); (case side1 => repeat (first | exact (Kd.C_below HR0_5.out HB.out) | (with_reducible refine Kd.C_alloc ?_ _) | (with_reducible refine Kd.C_drewN ?_ _) | (with_reducible refine Kd.C_drew ?_))); (case side2 => exact HC0_5.out); (case side3 => repeat (first | exact (Kd.C_below HR1_5.out HB.out) | (with_reducible refine Kd.C_alloc ?_ _) | (with_reducible refine Kd.C_drewN ?_ _) | (with_reducible refine Kd.C_drew ?_))); (case side4 => exact HC1_5.out); rintro e w_1 ⟨rfl, hb⟩; refine ⟨_, rfl, ?_⟩; have n0_ := Aside0.mk (blk_below (g := gb239) bk_ hb); have n1_ := Aside0.mk (blk_below (g := gb240) bk_ hb); have n2_ := Aside0.mk (below_step hb_ hb); clear BK239; clear BK240; clear HB; have BK239 := n0_; have BK240 := n1_; have HB := n2_; clear n0_ n1_ n2_; (try clear hb); (try clear hb2); (try clear hk); (try clear hi)) | ((with_reducible refine gate_callee (f := 32) rfl ?_); refine goesL_ (some 30) rfl rfl Try.func32 (by kernel_rfl) rfl #[.slice A0_4 l0_4.length c0_4, .slice A1_4 l1_4.length c1_4] rfl la_ ?_; (with_reducible refine (laws_eqFlowS.calls k _ _ l0_4 _ _ l1_4 false _ ?side1 ?side2 ?side3 ?side4 A8.out).mono ?_); (case side1 => repeat (first | exact (Kd.C_below HR0_4.out HB.out) | (with_reducible refine Kd.C_alloc ?_ _) | (with_reducible refine Kd.C_drewN ?_ _) | (with_reducible refine Kd.C_drew ?_))); (case side2 => exact HC0_4.out); (case side3 => repeat (first | exact (Kd.C_below HR1_4.out HB.out) | (with_reducible refine Kd.C_alloc ?_ _) | (with_reducible refine Kd.C_drewN ?_ _) | (with_reducible refine Kd.C_drew ?_))); (case side4 => exact HC1_4.out); rintro e w_1 ⟨rfl, hb⟩; refine ⟨_, rfl, ?_⟩; have n0_ := Aside0.mk (blk_below (g := gb239) bk_ hb); have n1_ := Aside0.mk (blk_below (g := gb240) bk_ hb); have n2_ := Aside0.mk (below_step hb_ hb); clear BK239; clear BK240; clear HB; have BK239 := n0_; have BK240 := n1_; have HB := n2_; clear n0_ n1_ n2_; (try clear hb); (try clear hb2); (try clear hk); (try clear hi)) | ((with_reducible refine gate_callee (f := 101) rfl ?_); refine goesL_ (some 24) rfl rfl Try.func101 (by kernel_rfl) rfl #[.slice A0_3 l0_3.length c0_3, .slice A1_3 l1_3.length c1_3] rfl la_ ?_; (with_reducible refine (laws_eqGrantS.calls k _ _ l0_3 _ _ l1_3 false _ ?side1 ?side2 ?side3 ?side4 A6.out).mono ?_); (case side1 => repeat (first | exact (Kd.C_below HR0_3.out HB.out) | (with_reducible refine Kd.C_alloc ?_ _) | (with_reducible refine Kd.C_drewN ?_ _) | (with_reducible refine Kd.C_drew ?_))); (case side2 => exact HC0_3.out); (case side3 => repeat (first | exact (Kd.C_below HR1_3.out HB.out) | (with_reducible refine Kd.C_alloc ?_ _) | (with_reducible refine Kd.C_drewN ?_ _) | (with_reducible refine Kd.C_drew ?_))); (case side4 => exact HC1_3.out); rintro e w_1 ⟨rfl, hb⟩; refine ⟨_, rfl, ?_⟩; have n0_ := Aside0.mk (blk_below (g := gb239) bk_ hb); have n1_ := Aside0.mk (blk_below (g := gb240) bk_ hb); have n2_ := Aside0.mk (below_step hb_ hb); clear BK239; clear BK240; clear HB; have BK239 := n0_; have BK240 := n1_; have HB := n2_; clear n0_ n1_ n2_; (try clear hb); (try clear hb2); (try clear hk); (try clear hi))))
  all_goals go_ret
  all_goals (exact ⟨by first | rfl | (simp [errW_none, errW_some] <;> rfl) | (simp [*, errW_none, errW_some] <;> rfl), hb_⟩)
end

end Go.Proofs.Ytmpkaooelpbeaaa.PFnExactEqualPackages
