-- Laid by this session's own program (wip/gen/myprint.py) over the kit's print; turned to this claim.
import Derived.Test.YtmpkaooelpbeaaaPFnExactIsWiderx0
import Derived.Test.YtmpkaooelpbeaaaPFnExactIsWiderx1
import Derived.Test.YtmpkaooelpbeaaaPFnExactIsWiderx6
import Derived.Test.YtmpkaooelpbeaaaPFnExactIsWiderx7
namespace Go.Proofs.Ytmpkaooelpbeaaa.PFnExactIsWider
open Go.RowKit Go.Proofs.Ytmpkaooelpbeaaa.Short Go.Proofs.YtmpkaooelpbeaaaW.PrintWords Go.Proofs.YtmpkaooelpbeaaaW.PrintLast Go.Proofs.YtmpkaooelpbeaaaW.PrintMore
attribute [local go_sem] max2_int min2_int max_two min_two max_three min_three max_four min_four
set_option linter.unusedVariables false
set_option linter.unusedSimpArgs false
section
attribute [local go_sem high] eqA120
/-! ### impl_IsWider: function 45 -/
def impl_IsWider.f (k : Nat) (a0_0 : Int) (a0_1 : Int) (a0_2 : Int) (l0_3 : List (S132)) (l0_4 : List (S120)) (l0_5 : List (S139)) (l0_6 : List (S46)) (a0_7 : Int) (a1_0 : Int) (a1_1 : Int) (a1_2 : Int) (l1_3 : List (S132)) (l1_4 : List (S120)) (l1_5 : List (S139)) (l1_6 : List (S46)) (a1_7 : Int) : Option (Bool) := (impl_IsWithinGrants.f k l1_3 l0_3).bind fun t285 => (if t285 = true then ((impl_FlowsWithin.f k l1_4 l0_4).bind fun t286 => (some (!t286))) else (some true))
theorem impl_IsWider.mono : ∀ a0 a1 a2 a3 a4 a5 a6 a7 a8 a9 a10 a11 a12 a13 a14 a15 k, LeO (impl_IsWider.f k a0 a1 a2 a3 a4 a5 a6 a7 a8 a9 a10 a11 a12 a13 a14 a15) (impl_IsWider.f (k + 1) a0 a1 a2 a3 a4 a5 a6 a7 a8 a9 a10 a11 a12 a13 a14 a15) := by
  intro a0 a1 a2 a3 a4 a5 a6 a7 a8 a9 a10 a11 a12 a13 a14 a15 k
  unfold impl_IsWider.f
  repeat' first
      | (with_reducible exact impl_FlowsWithin.mono _ _ _)
      | (with_reducible exact impl_IsWithinGrants.mono _ _ _)
      | (with_reducible exact LeO.refl _)
      | (with_reducible exact LeO.none _)
      | (with_reducible refine LeO.ite ?_ ?_)
      | (with_reducible refine LeO.bind ?_ (fun _ => ?_))
      | exact impl_FlowsWithin.mono _ _ _
      | exact impl_IsWithinGrants.mono _ _ _
      | exact LeO.none _
      | refine LeO.ite ?_ ?_
      | refine LeO.bind ?_ (fun _ => ?_)
set_option maxHeartbeats 8000000 in
set_option maxRecDepth 100000 in
theorem impl_IsWider.calls (k : Nat) (a0_0 : Int) (a0_1 : Int) (a0_2 : Int) (A0_3 : Option Addr) (c0_3 : Nat) (l0_3 : List (S132)) (A0_4 : Option Addr) (c0_4 : Nat) (l0_4 : List (S120)) (A0_5 : Option Addr) (c0_5 : Nat) (l0_5 : List (S139)) (A0_6 : Option Addr) (c0_6 : Nat) (l0_6 : List (S46)) (a0_7 : Int) (a1_0 : Int) (a1_1 : Int) (a1_2 : Int) (A1_3 : Option Addr) (c1_3 : Nat) (l1_3 : List (S132)) (A1_4 : Option Addr) (c1_4 : Nat) (l1_4 : List (S120)) (A1_5 : Option Addr) (c1_5 : Nat) (l1_5 : List (S139)) (A1_6 : Option Addr) (c1_6 : Nat) (l1_6 : List (S46)) (a1_7 : Int) (r : Bool) (w : World) (hr0_3 : Kd.C k132 w A0_3 l0_3.length l0_3) (hc0_3 : l0_3.length ≤ c0_3) (hr0_4 : Kd.C k120 w A0_4 l0_4.length l0_4) (hc0_4 : l0_4.length ≤ c0_4) (hr0_5 : Kd.C k139 w A0_5 l0_5.length l0_5) (hc0_5 : l0_5.length ≤ c0_5) (hr0_6 : Kd.C k46 w A0_6 l0_6.length l0_6) (hc0_6 : l0_6.length ≤ c0_6) (hr1_3 : Kd.C k132 w A1_3 l1_3.length l1_3) (hc1_3 : l1_3.length ≤ c1_3) (hr1_4 : Kd.C k120 w A1_4 l1_4.length l1_4) (hc1_4 : l1_4.length ≤ c1_4) (hr1_5 : Kd.C k139 w A1_5 l1_5.length l1_5) (hc1_5 : l1_5.length ≤ c1_5) (hr1_6 : Kd.C k46 w A1_6 l1_6.length l1_6) (hc1_6 : l1_6.length ≤ c1_6) (h : impl_IsWider.f k a0_0 a0_1 a0_2 l0_3 l0_4 l0_5 l0_6 a0_7 a1_0 a1_1 a1_2 l1_3 l1_4 l1_5 l1_6 a1_7 = some r) :
    Calls Try.prog 45 #[.agg #[.int .i64 a0_0, .int .i64 a0_1, .int .i64 a0_2, .slice A0_3 l0_3.length c0_3, .slice A0_4 l0_4.length c0_4, .slice A0_5 l0_5.length c0_5, .slice A0_6 l0_6.length c0_6, .int .i64 a0_7], .agg #[.int .i64 a1_0, .int .i64 a1_1, .int .i64 a1_2, .slice A1_3 l1_3.length c1_3, .slice A1_4 l1_4.length c1_4, .slice A1_5 l1_5.length c1_5, .slice A1_6 l1_6.length c1_6, .int .i64 a1_7]] w fun e w' => e = .returned (.bool r) ∧ Below w.heap.size w w' := by
  have hu66 := Try.underlying66
  have HR0_3 := Aside0.mk hr0_3
  have HC0_3 := Aside0.mk hc0_3
  clear hr0_3 hc0_3
  have HR0_4 := Aside0.mk hr0_4
  have HC0_4 := Aside0.mk hc0_4
  clear hr0_4 hc0_4
  have HR0_5 := Aside0.mk hr0_5
  have HC0_5 := Aside0.mk hc0_5
  clear hr0_5 hc0_5
  have HR0_6 := Aside0.mk hr0_6
  have HC0_6 := Aside0.mk hc0_6
  clear hr0_6 hc0_6
  have HR1_3 := Aside0.mk hr1_3
  have HC1_3 := Aside0.mk hc1_3
  clear hr1_3 hc1_3
  have HR1_4 := Aside0.mk hr1_4
  have HC1_4 := Aside0.mk hc1_4
  clear hr1_4 hc1_4
  have HR1_5 := Aside0.mk hr1_5
  have HC1_5 := Aside0.mk hc1_5
  clear hr1_5 hc1_5
  have HR1_6 := Aside0.mk hr1_6
  have HC1_6 := Aside0.mk hc1_6
  clear hr1_6 hc1_6
  have HB := Aside0.mk (Below.refl w.heap.size w)
  have H : ((impl_IsWithinGrants.f k l1_3 l0_3).bind fun t285 => (if t285 = true then ((impl_FlowsWithin.f k l1_4 l0_4).bind fun t286 => (some (!t286))) else (some true))) = some r := h
  clear h
  replace H := Option.bind_eq_some_iff.mp H
  obtain ⟨t285, A30, H⟩ := H
  replace H : (if t285 = true then ((impl_FlowsWithin.f k l1_4 l0_4).bind fun t286 => (some (!t286))) else (some true)) = some r := H
  have A3 := Aside0.mk A30
  clear A30
  refine Or.elim (Classical.em (t285 = true)) (fun c4 => ?pc4) (fun c4 => ?nc4)
  case' pc4 =>
    subst c4
    have H1 : ((impl_FlowsWithin.f k l1_4 l0_4).bind fun t286 => (some (!t286))) = some r := by rw [if_pos rfl] at H; exact H
    clear H
    have H := H1
    clear H1
    replace H := Option.bind_eq_some_iff.mp H
    obtain ⟨t286, A50, H⟩ := H
    replace H : (some (!t286)) = some r := H
    have A5 := Aside0.mk A50
    clear A50
    obtain rfl := Option.some.inj H
  case' nc4 =>
    replace c4 := Bool.eq_false_iff.mpr c4
    subst c4
    have H1 : (some true) = some r := by rw [if_neg (show ¬ (false = true) by decide)] at H; exact H
    clear H
    have H := H1
    clear H1
    obtain rfl := Option.some.inj H
  all_goals go_enter Try.func45, Try.ntmps45
  all_goals (go_wp2_with (first | ((with_reducible refine gate_dst (N := 2) rfl ?_); refine box_event ?hg (N := 2) ?hd (cs := #[.int .i64 a0_0, .int .i64 a0_1, .int .i64 a0_2, .slice A0_3 l0_3.length c0_3, .slice A0_4 l0_4.length c0_4, .slice A0_5 l0_5.length c0_5, .slice A0_6 l0_6.length c0_6, .int .i64 a0_7]) (t := 66) ?hr ?_; (case hd => rfl); (case hg => rfl); (case hr => first | (go_simp; done) | (go_simp; rfl)); intro gb283 hg w_1 hbox hb; have n0_ := Aside0.mk (below_step hb_ hb); have n1_ := Aside0.mk (hbox); have n2_ := Aside0.mk ((by rw [hg]; exact (below_size hb_) : w.heap.size ≤ gb283)); have n3_ := Aside0.mk ((by rw [hg]; exact (below_size hb_) : w.heap.size ≤ gb283)); clear HB; have HB := n0_; have BK283 := n1_; have GW283 := n2_; have GE283 := n3_; clear n0_ n1_ n2_ n3_; clear hb hbox hg) | ((with_reducible refine gate_dst (N := 3) rfl ?_); refine box_event ?hg (N := 3) ?hd (cs := #[.int .i64 a1_0, .int .i64 a1_1, .int .i64 a1_2, .slice A1_3 l1_3.length c1_3, .slice A1_4 l1_4.length c1_4, .slice A1_5 l1_5.length c1_5, .slice A1_6 l1_6.length c1_6, .int .i64 a1_7]) (t := 66) ?hr ?_; (case hd => rfl); (case hg => rfl); (case hr => first | (go_simp; done) | (go_simp; rfl)); intro gb284 hg w_1 hbox hb; have n0_ := Aside0.mk (blk_below (g := gb283) bk_ hb); have n1_ := Aside0.mk (below_step hb_ hb); have n2_ := Aside0.mk (hbox); have n3_ := Aside0.mk ((by rw [hg]; exact (below_size hb_) : w.heap.size ≤ gb284)); have n4_ := Aside0.mk ((by rw [hg]; exact (below_size hb_) : w.heap.size ≤ gb284)); have n5_ := Aside0.mk ((by rw [hg]; exact Nat.ne_of_lt (blk_lt (g := gb283) bk_) : gb283 ≠ gb284)); have n6_ := Aside0.mk ((by rw [hg]; exact Nat.ne_of_gt (blk_lt (g := gb283) bk_) : gb284 ≠ gb283)); clear BK283; clear HB; have BK283 := n0_; have HB := n1_; have BK284 := n2_; have GW284 := n3_; have GE284 := n4_; have NB283_284 := n5_; have NB284_283 := n6_; clear n0_ n1_ n2_ n3_ n4_ n5_ n6_; clear hb hbox hg; (try (have hnb17 := NB284_283.out)); (try (have hnc17 := NB283_284.out)); (try (have hcz1_0 : w_1.cell? ⟨gb284, 0, none⟩ = some (.int .i64 a1_0) := (blk_cell BK284.out 0).trans rfl)); (try (have hcz1_1 : w_1.cell? ⟨gb284, 1, none⟩ = some (.int .i64 a1_1) := (blk_cell BK284.out 1).trans rfl)); (try (have hcz1_2 : w_1.cell? ⟨gb284, 2, none⟩ = some (.int .i64 a1_2) := (blk_cell BK284.out 2).trans rfl)); (try (have hcz1_3 : w_1.cell? ⟨gb284, 3, none⟩ = some (.slice A1_3 l1_3.length c1_3) := (blk_cell BK284.out 3).trans rfl)); (try (have hcz1_4 : w_1.cell? ⟨gb284, 4, none⟩ = some (.slice A1_4 l1_4.length c1_4) := (blk_cell BK284.out 4).trans rfl)); (try (have hcz1_5 : w_1.cell? ⟨gb284, 5, none⟩ = some (.slice A1_5 l1_5.length c1_5) := (blk_cell BK284.out 5).trans rfl)); (try (have hcz1_6 : w_1.cell? ⟨gb284, 6, none⟩ = some (.slice A1_6 l1_6.length c1_6) := (blk_cell BK284.out 6).trans rfl)); (try (have hcz1_7 : w_1.cell? ⟨gb284, 7, none⟩ = some (.int .i64 a1_7) := (blk_cell BK284.out 7).trans rfl)); (try (have hfz1_0 := blk_frozen BK284.out 0)); (try (have hfz1_1 := blk_frozen BK284.out 1)); (try (have hfz1_2 := blk_frozen BK284.out 2)); (try (have hfz1_3 := blk_frozen BK284.out 3)); (try (have hfz1_4 := blk_frozen BK284.out 4)); (try (have hfz1_5 := blk_frozen BK284.out 5)); (try (have hfz1_6 := blk_frozen BK284.out 6)); (try (have hfz1_7 := blk_frozen BK284.out 7)); (try (have hcz2_0 : w_1.cell? ⟨gb283, 0, none⟩ = some (.int .i64 a0_0) := (blk_cell BK283.out 0).trans rfl)); (try (have hcz2_1 : w_1.cell? ⟨gb283, 1, none⟩ = some (.int .i64 a0_1) := (blk_cell BK283.out 1).trans rfl)); (try (have hcz2_2 : w_1.cell? ⟨gb283, 2, none⟩ = some (.int .i64 a0_2) := (blk_cell BK283.out 2).trans rfl)); (try (have hcz2_3 : w_1.cell? ⟨gb283, 3, none⟩ = some (.slice A0_3 l0_3.length c0_3) := (blk_cell BK283.out 3).trans rfl)); (try (have hcz2_4 : w_1.cell? ⟨gb283, 4, none⟩ = some (.slice A0_4 l0_4.length c0_4) := (blk_cell BK283.out 4).trans rfl)); (try (have hcz2_5 : w_1.cell? ⟨gb283, 5, none⟩ = some (.slice A0_5 l0_5.length c0_5) := (blk_cell BK283.out 5).trans rfl)); (try (have hcz2_6 : w_1.cell? ⟨gb283, 6, none⟩ = some (.slice A0_6 l0_6.length c0_6) := (blk_cell BK283.out 6).trans rfl)); (try (have hcz2_7 : w_1.cell? ⟨gb283, 7, none⟩ = some (.int .i64 a0_7) := (blk_cell BK283.out 7).trans rfl)); (try (have hfz2_0 := blk_frozen BK283.out 0)); (try (have hfz2_1 := blk_frozen BK283.out 1)); (try (have hfz2_2 := blk_frozen BK283.out 2)); (try (have hfz2_3 := blk_frozen BK283.out 3)); (try (have hfz2_4 := blk_frozen BK283.out 4)); (try (have hfz2_5 := blk_frozen BK283.out 5)); (try (have hfz2_6 := blk_frozen BK283.out 6)); (try (have hfz2_7 := blk_frozen BK283.out 7))) | ((with_reducible refine gate_callee (f := 104) rfl ?_); refine goesL_ (some 9) rfl rfl Try.func104 (by kernel_rfl) rfl #[.slice A1_3 l1_3.length c1_3, .slice A0_3 l0_3.length c0_3] rfl la_ ?_; (with_reducible refine (impl_IsWithinGrants.calls k _ _ l1_3 _ _ l0_3 true _ ?side1 ?side2 ?side3 ?side4 A3.out).mono ?_); (case side1 => repeat (first | exact (Kd.C_below HR1_3.out HB.out) | (with_reducible refine Kd.C_alloc ?_ _) | (with_reducible refine Kd.C_drewN ?_ _) | (with_reducible refine Kd.C_drew ?_))); (case side2 => exact HC1_3.out); (case side3 => repeat (first | exact (Kd.C_below HR0_3.out HB.out) | (with_reducible refine Kd.C_alloc ?_ _) | (with_reducible refine Kd.C_drewN ?_ _) | (with_reducible refine Kd.C_drew ?_))); (case side4 => exact HC0_3.out); rintro e w_1 ⟨rfl, hb⟩; refine ⟨_, rfl, ?_⟩; have n0_ := Aside0.mk (blk_below (g := gb283) bk_ hb); have n1_ := Aside0.mk (blk_below (g := gb284) bk_ hb); have n2_ := Aside0.mk (below_step hb_ hb); clear BK283; clear BK284; clear HB; have BK283 := n0_; have BK284 := n1_; have HB := n2_; clear n0_ n1_ n2_; (try clear hb); (try clear hb2); (try clear hk); (try clear hi); have hcz1_0 : w_1.cell? ⟨gb284, 0, none⟩ = some (.int .i64 a1_0) := (blk_cell BK284.out 0).trans rfl; have hcz1_1 : w_1.cell? ⟨gb284, 1, none⟩ = some (.int .i64 a1_1) := (blk_cell BK284.out 1).trans rfl; have hcz1_2 : w_1.cell? ⟨gb284, 2, none⟩ = some (.int .i64 a1_2) := (blk_cell BK284.out 2).trans rfl; have hcz1_3 : w_1.cell? ⟨gb284, 3, none⟩ = some (.slice A1_3 l1_3.length c1_3) := (blk_cell BK284.out 3).trans rfl; have hcz1_4 : w_1.cell? ⟨gb284, 4, none⟩ = some (.slice A1_4 l1_4.length c1_4) := (blk_cell BK284.out 4).trans rfl; have hcz1_5 : w_1.cell? ⟨gb284, 5, none⟩ = some (.slice A1_5 l1_5.length c1_5) := (blk_cell BK284.out 5).trans rfl; have hcz1_6 : w_1.cell? ⟨gb284, 6, none⟩ = some (.slice A1_6 l1_6.length c1_6) := (blk_cell BK284.out 6).trans rfl; have hcz1_7 : w_1.cell? ⟨gb284, 7, none⟩ = some (.int .i64 a1_7) := (blk_cell BK284.out 7).trans rfl; have hfz1_0 := blk_frozen BK284.out 0; have hfz1_1 := blk_frozen BK284.out 1; have hfz1_2 := blk_frozen BK284.out 2; have hfz1_3 := blk_frozen BK284.out 3; have hfz1_4 := blk_frozen BK284.out 4; have hfz1_5 := blk_frozen BK284.out 5; have hfz1_6 := blk_frozen BK284.out 6; have hfz1_7 := blk_frozen BK284.out 7; have hcz2_0 : w_1.cell? ⟨gb283, 0, none⟩ = some (.int .i64 a0_0) := (blk_cell BK283.out 0).trans rfl; have hcz2_1 : w_1.cell? ⟨gb283, 1, none⟩ = some (.int .i64 a0_1) := (blk_cell BK283.out 1).trans rfl; have hcz2_2 : w_1.cell? ⟨gb283, 2, none⟩ = some (.int .i64 a0_2) := (blk_cell BK283.out 2).trans rfl; have hcz2_3 : w_1.cell? ⟨gb283, 3, none⟩ = some (.slice A0_3 l0_3.length c0_3) := (blk_cell BK283.out 3).trans rfl; have hcz2_4 : w_1.cell? ⟨gb283, 4, none⟩ = some (.slice A0_4 l0_4.length c0_4) := (blk_cell BK283.out 4).trans rfl; have hcz2_5 : w_1.cell? ⟨gb283, 5, none⟩ = some (.slice A0_5 l0_5.length c0_5) := (blk_cell BK283.out 5).trans rfl; have hcz2_6 : w_1.cell? ⟨gb283, 6, none⟩ = some (.slice A0_6 l0_6.length c0_6) := (blk_cell BK283.out 6).trans rfl; have hcz2_7 : w_1.cell? ⟨gb283, 7, none⟩ = some (.int .i64 a0_7) := (blk_cell BK283.out 7).trans rfl; have hfz2_0 := blk_frozen BK283.out 0; have hfz2_1 := blk_frozen BK283.out 1; have hfz2_2 := blk_frozen BK283.out 2; have hfz2_3 := blk_frozen BK283.out 3; have hfz2_4 := blk_frozen BK283.out 4; have hfz2_5 := blk_frozen BK283.out 5; have hfz2_6 := blk_frozen BK283.out 6; have hfz2_7 := blk_frozen BK283.out 7) | (go_at_call 91; (with_reducible refine (impl_FlowsWithin.calls k _ _ l1_4 _ _ l0_4 t286 _ ?side1 ?side2 ?side3 ?side4 A5.out).mono ?_); (case side1 => repeat (first | exact (Kd.C_below HR1_4.out HB.out) | (with_reducible refine Kd.C_alloc ?_ _) | (with_reducible refine Kd.C_drewN ?_ _) | (with_reducible refine Kd.C_drew ?_))); (case side2 => exact HC1_4.out); (case side3 => repeat (first | exact (Kd.C_below HR0_4.out HB.out) | (with_reducible refine Kd.C_alloc ?_ _) | (with_reducible refine Kd.C_drewN ?_ _) | (with_reducible refine Kd.C_drew ?_))); (case side4 => exact HC0_4.out); rintro e w_1 ⟨rfl, hb⟩; have n0_ := Aside0.mk (blk_below (g := gb283) bk_ hb); have n1_ := Aside0.mk (blk_below (g := gb284) bk_ hb); have n2_ := Aside0.mk (below_step hb_ hb); clear BK283; clear BK284; clear HB; have BK283 := n0_; have BK284 := n1_; have HB := n2_; clear n0_ n1_ n2_; (try clear hb); (try clear hb2); (try clear hk); (try clear hi)) | ((with_reducible refine gate_callee (f := 104) rfl ?_); refine goesL_ (some 9) rfl rfl Try.func104 (by kernel_rfl) rfl #[.slice A1_3 l1_3.length c1_3, .slice A0_3 l0_3.length c0_3] rfl la_ ?_; (with_reducible refine (impl_IsWithinGrants.calls k _ _ l1_3 _ _ l0_3 false _ ?side1 ?side2 ?side3 ?side4 A3.out).mono ?_); (case side1 => repeat (first | exact (Kd.C_below HR1_3.out HB.out) | (with_reducible refine Kd.C_alloc ?_ _) | (with_reducible refine Kd.C_drewN ?_ _) | (with_reducible refine Kd.C_drew ?_))); (case side2 => exact HC1_3.out); (case side3 => repeat (first | exact (Kd.C_below HR0_3.out HB.out) | (with_reducible refine Kd.C_alloc ?_ _) | (with_reducible refine Kd.C_drewN ?_ _) | (with_reducible refine Kd.C_drew ?_))); (case side4 => exact HC0_3.out); rintro e w_1 ⟨rfl, hb⟩; refine ⟨_, rfl, ?_⟩; have n0_ := Aside0.mk (blk_below (g := gb283) bk_ hb); have n1_ := Aside0.mk (blk_below (g := gb284) bk_ hb); have n2_ := Aside0.mk (below_step hb_ hb); clear BK283; clear BK284; clear HB; have BK283 := n0_; have BK284 := n1_; have HB := n2_; clear n0_ n1_ n2_; (try clear hb); (try clear hb2); (try clear hk); (try clear hi))))
  all_goals go_ret
  all_goals (exact ⟨by first | rfl | (simp [errW_none, errW_some] <;> rfl) | (simp [*, errW_none, errW_some] <;> rfl), hb_⟩)
end

end Go.Proofs.Ytmpkaooelpbeaaa.PFnExactIsWider
