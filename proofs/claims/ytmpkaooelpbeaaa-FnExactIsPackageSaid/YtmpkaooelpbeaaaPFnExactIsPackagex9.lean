-- Laid by this session's own program (wip/gen/myprint.py) over the kit's print; turned to this claim.
import Derived.Test.YtmpkaooelpbeaaaPFnExactIsPackagex0
import Derived.Test.YtmpkaooelpbeaaaPFnExactIsPackagex1
import Derived.Test.YtmpkaooelpbeaaaPFnExactIsPackagex2
import Derived.Test.YtmpkaooelpbeaaaPFnExactIsPackagex4
import Derived.Test.YtmpkaooelpbeaaaPFnExactIsPackagex6
import Derived.Test.YtmpkaooelpbeaaaPFnExactIsPackagex8
namespace Go.Proofs.Ytmpkaooelpbeaaa.PFnExactIsPackage
open Go.RowKit Go.Proofs.Ytmpkaooelpbeaaa.Short Go.Proofs.YtmpkaooelpbeaaaW.PrintWords Go.Proofs.YtmpkaooelpbeaaaW.PrintLast Go.Proofs.YtmpkaooelpbeaaaW.PrintMore
attribute [local go_sem] max2_int min2_int max_two min_two max_three min_three max_four min_four
set_option linter.unusedVariables false
set_option linter.unusedSimpArgs false
section
attribute [local go_sem high] eqA137
/-! ### laws_FnExactIsPackage: function 10 -/
def laws_FnExactIsPackage.f (k : Nat) (a0_0 : Int) (a0_1 : Int) (a0_2 : Int) (l0_3 : List (S171)) (l0_4 : List (S126)) (l0_5 : List (S175)) (l0_6 : List (S107)) (a0_7 : Int) : Option (Bool) := (laws_szPackage.f a0_0 a0_1 a0_2 l0_3 l0_4 l0_5 l0_6 a0_7 1048576).bind fun t309 => (if t309 < 0 then (some true) else ((laws_toPackage.f k a0_0 a0_1 a0_2 l0_3 l0_4 l0_5 l0_6 a0_7).bind fun bt310 => ((spec_IsPackage.f k bt310.1 bt310.2.1 bt310.2.2.1 bt310.2.2.2.1 bt310.2.2.2.2.1 bt310.2.2.2.2.2.1 bt310.2.2.2.2.2.2.1 bt310.2.2.2.2.2.2.2).bind fun t326 => ((laws_toPackage.f k a0_0 a0_1 a0_2 l0_3 l0_4 l0_5 l0_6 a0_7).bind fun bt327 => ((impl_IsPackage.f k bt327.1 bt327.2.1 bt327.2.2.1 bt327.2.2.2.1 bt327.2.2.2.2.1 bt327.2.2.2.2.2.1 bt327.2.2.2.2.2.2.1 bt327.2.2.2.2.2.2.2).bind fun t344 => (if (t344 != t326) = true then (some false) else ((laws_toPackage.f k a0_0 a0_1 a0_2 l0_3 l0_4 l0_5 l0_6 a0_7).bind fun bt345 => ((laws_eqPackage.f k bt327.1 bt327.2.1 bt327.2.2.1 bt327.2.2.2.1 bt327.2.2.2.2.1 bt327.2.2.2.2.2.1 bt327.2.2.2.2.2.2.1 bt327.2.2.2.2.2.2.2 bt345.1 bt345.2.1 bt345.2.2.1 bt345.2.2.2.1 bt345.2.2.2.2.1 bt345.2.2.2.2.2.1 bt345.2.2.2.2.2.2.1 bt345.2.2.2.2.2.2.2).bind fun t361 => (if t361 = true then (some true) else (some false))))))))))
theorem laws_FnExactIsPackage.mono : ∀ a0 a1 a2 a3 a4 a5 a6 a7 k, LeO (laws_FnExactIsPackage.f k a0 a1 a2 a3 a4 a5 a6 a7) (laws_FnExactIsPackage.f (k + 1) a0 a1 a2 a3 a4 a5 a6 a7) := by
  intro a0 a1 a2 a3 a4 a5 a6 a7 k
  unfold laws_FnExactIsPackage.f
  repeat' first
      | (with_reducible exact impl_IsPackage.mono _ _ _ _ _ _ _ _ _)
      | (with_reducible exact laws_eqPackage.mono _ _ _ _ _ _ _ _ _ _ _ _ _ _ _ _ _)
      | (with_reducible exact laws_toPackage.mono _ _ _ _ _ _ _ _ _)
      | (with_reducible exact spec_IsPackage.mono _ _ _ _ _ _ _ _ _)
      | (with_reducible exact LeO.refl _)
      | (with_reducible exact LeO.none _)
      | (with_reducible refine LeO.ite ?_ ?_)
      | (with_reducible refine LeO.bind ?_ (fun _ => ?_))
      | exact impl_IsPackage.mono _ _ _ _ _ _ _ _ _
      | exact laws_eqPackage.mono _ _ _ _ _ _ _ _ _ _ _ _ _ _ _ _ _
      | exact laws_toPackage.mono _ _ _ _ _ _ _ _ _
      | exact spec_IsPackage.mono _ _ _ _ _ _ _ _ _
      | exact LeO.none _
      | refine LeO.ite ?_ ?_
      | refine LeO.bind ?_ (fun _ => ?_)
set_option maxHeartbeats 8000000 in
set_option maxRecDepth 100000 in
theorem laws_FnExactIsPackage.calls (k : Nat) (a0_0 : Int) (a0_1 : Int) (a0_2 : Int) (A0_3 : Option Addr) (c0_3 : Nat) (l0_3 : List (S171)) (A0_4 : Option Addr) (c0_4 : Nat) (l0_4 : List (S126)) (A0_5 : Option Addr) (c0_5 : Nat) (l0_5 : List (S175)) (A0_6 : Option Addr) (c0_6 : Nat) (l0_6 : List (S107)) (a0_7 : Int) (w : World) (hr0_3 : Kd.C k171 w A0_3 l0_3.length l0_3) (hc0_3 : l0_3.length ≤ c0_3) (hr0_4 : Kd.C k126 w A0_4 l0_4.length l0_4) (hc0_4 : l0_4.length ≤ c0_4) (hr0_5 : Kd.C k175 w A0_5 l0_5.length l0_5) (hc0_5 : l0_5.length ≤ c0_5) (hr0_6 : Kd.C k107 w A0_6 l0_6.length l0_6) (hc0_6 : l0_6.length ≤ c0_6) (h : laws_FnExactIsPackage.f k a0_0 a0_1 a0_2 l0_3 l0_4 l0_5 l0_6 a0_7 = some true) :
    Calls Try.prog 10 #[.agg #[.int .i64 a0_0, .int .i64 a0_1, .int .i64 a0_2, .slice A0_3 l0_3.length c0_3, .slice A0_4 l0_4.length c0_4, .slice A0_5 l0_5.length c0_5, .slice A0_6 l0_6.length c0_6, .int .i64 a0_7]] w fun e w' => e = .returned (.bool true) ∧ Below w.heap.size w w' := by
  have hu60 := Try.underlying60
  have hu66 := Try.underlying66
  have HR0_3 := Aside0.mk hr0_3
  have HC0_3 := Aside0.mk hc0_3
  clear hr0_3 hc0_3
  have HR0_4 := Aside0.mk hr0_4
  have HC0_4 := Aside0.mk hc0_4
  clear hr0_4 hc0_4
  have HR0_5 := Aside0.mk hr0_5
  have HC0_5 := Aside0.mk hc0_5
  clear hr0_5 hc0_5
  have HR0_6 := Aside0.mk hr0_6
  have HC0_6 := Aside0.mk hc0_6
  clear hr0_6 hc0_6
  have HB := Aside0.mk (Below.refl w.heap.size w)
  have H : ((laws_szPackage.f a0_0 a0_1 a0_2 l0_3 l0_4 l0_5 l0_6 a0_7 1048576).bind fun t309 => (if t309 < 0 then (some true) else ((laws_toPackage.f k a0_0 a0_1 a0_2 l0_3 l0_4 l0_5 l0_6 a0_7).bind fun bt310 => ((spec_IsPackage.f k bt310.1 bt310.2.1 bt310.2.2.1 bt310.2.2.2.1 bt310.2.2.2.2.1 bt310.2.2.2.2.2.1 bt310.2.2.2.2.2.2.1 bt310.2.2.2.2.2.2.2).bind fun t326 => ((laws_toPackage.f k a0_0 a0_1 a0_2 l0_3 l0_4 l0_5 l0_6 a0_7).bind fun bt327 => ((impl_IsPackage.f k bt327.1 bt327.2.1 bt327.2.2.1 bt327.2.2.2.1 bt327.2.2.2.2.1 bt327.2.2.2.2.2.1 bt327.2.2.2.2.2.2.1 bt327.2.2.2.2.2.2.2).bind fun t344 => (if (t344 != t326) = true then (some false) else ((laws_toPackage.f k a0_0 a0_1 a0_2 l0_3 l0_4 l0_5 l0_6 a0_7).bind fun bt345 => ((laws_eqPackage.f k bt327.1 bt327.2.1 bt327.2.2.1 bt327.2.2.2.1 bt327.2.2.2.2.1 bt327.2.2.2.2.2.1 bt327.2.2.2.2.2.2.1 bt327.2.2.2.2.2.2.2 bt345.1 bt345.2.1 bt345.2.2.1 bt345.2.2.2.1 bt345.2.2.2.2.1 bt345.2.2.2.2.2.1 bt345.2.2.2.2.2.2.1 bt345.2.2.2.2.2.2.2).bind fun t361 => (if t361 = true then (some true) else (some false))))))))))) = some true := h
  clear h
  replace H := Option.bind_eq_some_iff.mp H
  obtain ⟨t309, A20, H⟩ := H
  replace H : (if t309 < 0 then (some true) else ((laws_toPackage.f k a0_0 a0_1 a0_2 l0_3 l0_4 l0_5 l0_6 a0_7).bind fun bt310 => ((spec_IsPackage.f k bt310.1 bt310.2.1 bt310.2.2.1 bt310.2.2.2.1 bt310.2.2.2.2.1 bt310.2.2.2.2.2.1 bt310.2.2.2.2.2.2.1 bt310.2.2.2.2.2.2.2).bind fun t326 => ((laws_toPackage.f k a0_0 a0_1 a0_2 l0_3 l0_4 l0_5 l0_6 a0_7).bind fun bt327 => ((impl_IsPackage.f k bt327.1 bt327.2.1 bt327.2.2.1 bt327.2.2.2.1 bt327.2.2.2.2.1 bt327.2.2.2.2.2.1 bt327.2.2.2.2.2.2.1 bt327.2.2.2.2.2.2.2).bind fun t344 => (if (t344 != t326) = true then (some false) else ((laws_toPackage.f k a0_0 a0_1 a0_2 l0_3 l0_4 l0_5 l0_6 a0_7).bind fun bt345 => ((laws_eqPackage.f k bt327.1 bt327.2.1 bt327.2.2.1 bt327.2.2.2.1 bt327.2.2.2.2.1 bt327.2.2.2.2.2.1 bt327.2.2.2.2.2.2.1 bt327.2.2.2.2.2.2.2 bt345.1 bt345.2.1 bt345.2.2.1 bt345.2.2.2.1 bt345.2.2.2.2.1 bt345.2.2.2.2.2.1 bt345.2.2.2.2.2.2.1 bt345.2.2.2.2.2.2.2).bind fun t361 => (if t361 = true then (some true) else (some false)))))))))) = some true := H
  have A2 := Aside0.mk A20
  clear A20
  by_cases c3 : t309 < 0
  · rw [if_pos c3] at H
    have c3b0 : decide (t309 < 0) = true := decide_eq_true c3
    clear c3
    clear H
    go_enter Try.func10, Try.ntmps10
    go_wp2_with (first | ((with_reducible refine gate_dst (N := 1) rfl ?_); refine box_event ?hg (N := 1) ?hd (cs := #[.int .i64 a0_0, .int .i64 a0_1, .int .i64 a0_2, .slice A0_3 l0_3.length c0_3, .slice A0_4 l0_4.length c0_4, .slice A0_5 l0_5.length c0_5, .slice A0_6 l0_6.length c0_6, .int .i64 a0_7]) (t := 60) ?hr ?_; (case hd => rfl); (case hg => rfl); (case hr => first | (go_simp; done) | (go_simp; rfl)); intro gb308 hg w4 hbox hb; have n0_ := Aside0.mk (below_step hb_ hb); have n1_ := Aside0.mk (hbox); have n2_ := Aside0.mk ((by rw [hg]; exact (below_size hb_) : w.heap.size ≤ gb308)); have n3_ := Aside0.mk ((by rw [hg]; exact (below_size hb_) : w.heap.size ≤ gb308)); clear HB; have HB := n0_; have BK308 := n1_; have GW308 := n2_; have GE308 := n3_; clear n0_ n1_ n2_ n3_; clear hb hbox hg; have hcz5_0 : w4.cell? ⟨gb308, 0, none⟩ = some (.int .i64 a0_0) := (blk_cell BK308.out 0).trans rfl; have hcz5_1 : w4.cell? ⟨gb308, 1, none⟩ = some (.int .i64 a0_1) := (blk_cell BK308.out 1).trans rfl; have hcz5_2 : w4.cell? ⟨gb308, 2, none⟩ = some (.int .i64 a0_2) := (blk_cell BK308.out 2).trans rfl; have hcz5_3 : w4.cell? ⟨gb308, 3, none⟩ = some (.slice A0_3 l0_3.length c0_3) := (blk_cell BK308.out 3).trans rfl; have hcz5_4 : w4.cell? ⟨gb308, 4, none⟩ = some (.slice A0_4 l0_4.length c0_4) := (blk_cell BK308.out 4).trans rfl; have hcz5_5 : w4.cell? ⟨gb308, 5, none⟩ = some (.slice A0_5 l0_5.length c0_5) := (blk_cell BK308.out 5).trans rfl; have hcz5_6 : w4.cell? ⟨gb308, 6, none⟩ = some (.slice A0_6 l0_6.length c0_6) := (blk_cell BK308.out 6).trans rfl; have hcz5_7 : w4.cell? ⟨gb308, 7, none⟩ = some (.int .i64 a0_7) := (blk_cell BK308.out 7).trans rfl; have hfz5_0 := blk_frozen BK308.out 0; have hfz5_1 := blk_frozen BK308.out 1; have hfz5_2 := blk_frozen BK308.out 2; have hfz5_3 := blk_frozen BK308.out 3; have hfz5_4 := blk_frozen BK308.out 4; have hfz5_5 := blk_frozen BK308.out 5; have hfz5_6 := blk_frozen BK308.out 6; have hfz5_7 := blk_frozen BK308.out 7) | ((with_reducible refine gate_callee (f := 39) rfl ?_); refine goesL_ (some 9) rfl rfl Try.func39 (by kernel_rfl) rfl #[.agg #[.int .i64 a0_0, .int .i64 a0_1, .int .i64 a0_2, .slice A0_3 l0_3.length c0_3, .slice A0_4 l0_4.length c0_4, .slice A0_5 l0_5.length c0_5, .slice A0_6 l0_6.length c0_6, .int .i64 a0_7], .int .i64 1048576] rfl la_ ?_; (with_reducible refine (laws_szPackage.calls a0_0 a0_1 a0_2 _ _ l0_3 _ _ l0_4 _ _ l0_5 _ _ l0_6 a0_7 1048576 t309 _ ?side1 ?side2 ?side3 ?side4 ?side5 ?side6 ?side7 ?side8 A2.out).mono ?_); (case side1 => repeat (first | exact (Kd.C_below HR0_3.out HB.out) | (with_reducible refine Kd.C_alloc ?_ _) | (with_reducible refine Kd.C_drewN ?_ _) | (with_reducible refine Kd.C_drew ?_))); (case side2 => exact HC0_3.out); (case side3 => repeat (first | exact (Kd.C_below HR0_4.out HB.out) | (with_reducible refine Kd.C_alloc ?_ _) | (with_reducible refine Kd.C_drewN ?_ _) | (with_reducible refine Kd.C_drew ?_))); (case side4 => exact HC0_4.out); (case side5 => repeat (first | exact (Kd.C_below HR0_5.out HB.out) | (with_reducible refine Kd.C_alloc ?_ _) | (with_reducible refine Kd.C_drewN ?_ _) | (with_reducible refine Kd.C_drew ?_))); (case side6 => exact HC0_5.out); (case side7 => repeat (first | exact (Kd.C_below HR0_6.out HB.out) | (with_reducible refine Kd.C_alloc ?_ _) | (with_reducible refine Kd.C_drewN ?_ _) | (with_reducible refine Kd.C_drew ?_))); (case side8 => exact HC0_6.out); rintro e w6 ⟨rfl, hb⟩; refine ⟨_, rfl, ?_⟩; have n0_ := Aside0.mk (blk_below (g := gb308) bk_ hb); have n1_ := Aside0.mk (below_step hb_ hb); clear BK308; clear HB; have BK308 := n0_; have HB := n1_; clear n0_ n1_; (try clear hb); (try clear hb2); (try clear hk); (try clear hi)))
    go_ret
    exact ⟨by first | rfl | (simp [errW_none, errW_some] <;> rfl) | (simp [*, errW_none, errW_some] <;> rfl), hb_⟩
  · rw [if_neg c3] at H
    have c3b0 : decide (t309 < 0) = false := decide_eq_false c3
    clear c3
    replace H := Option.bind_eq_some_iff.mp H
    obtain ⟨⟨t310, t311, t312, t313, t316, t319, t322, t325⟩, A70, H⟩ := H
    replace H : ((spec_IsPackage.f k t310 t311 t312 t313 t316 t319 t322 t325).bind fun t326 => ((laws_toPackage.f k a0_0 a0_1 a0_2 l0_3 l0_4 l0_5 l0_6 a0_7).bind fun bt327 => ((impl_IsPackage.f k bt327.1 bt327.2.1 bt327.2.2.1 bt327.2.2.2.1 bt327.2.2.2.2.1 bt327.2.2.2.2.2.1 bt327.2.2.2.2.2.2.1 bt327.2.2.2.2.2.2.2).bind fun t344 => (if (t344 != t326) = true then (some false) else ((laws_toPackage.f k a0_0 a0_1 a0_2 l0_3 l0_4 l0_5 l0_6 a0_7).bind fun bt345 => ((laws_eqPackage.f k bt327.1 bt327.2.1 bt327.2.2.1 bt327.2.2.2.1 bt327.2.2.2.2.1 bt327.2.2.2.2.2.1 bt327.2.2.2.2.2.2.1 bt327.2.2.2.2.2.2.2 bt345.1 bt345.2.1 bt345.2.2.1 bt345.2.2.2.1 bt345.2.2.2.2.1 bt345.2.2.2.2.2.1 bt345.2.2.2.2.2.2.1 bt345.2.2.2.2.2.2.2).bind fun t361 => (if t361 = true then (some true) else (some false)))))))) = some true := H
    have A7 := Aside0.mk A70
    clear A70
    replace H := Option.bind_eq_some_iff.mp H
    obtain ⟨t326, A80, H⟩ := H
    replace H : ((laws_toPackage.f k a0_0 a0_1 a0_2 l0_3 l0_4 l0_5 l0_6 a0_7).bind fun bt327 => ((impl_IsPackage.f k bt327.1 bt327.2.1 bt327.2.2.1 bt327.2.2.2.1 bt327.2.2.2.2.1 bt327.2.2.2.2.2.1 bt327.2.2.2.2.2.2.1 bt327.2.2.2.2.2.2.2).bind fun t344 => (if (t344 != t326) = true then (some false) else ((laws_toPackage.f k a0_0 a0_1 a0_2 l0_3 l0_4 l0_5 l0_6 a0_7).bind fun bt345 => ((laws_eqPackage.f k bt327.1 bt327.2.1 bt327.2.2.1 bt327.2.2.2.1 bt327.2.2.2.2.1 bt327.2.2.2.2.2.1 bt327.2.2.2.2.2.2.1 bt327.2.2.2.2.2.2.2 bt345.1 bt345.2.1 bt345.2.2.1 bt345.2.2.2.1 bt345.2.2.2.2.1 bt345.2.2.2.2.2.1 bt345.2.2.2.2.2.2.1 bt345.2.2.2.2.2.2.2).bind fun t361 => (if t361 = true then (some true) else (some false))))))) = some true := H
    have A8 := Aside0.mk A80
    clear A80
    replace H := Option.bind_eq_some_iff.mp H
    obtain ⟨⟨t327, t328, t329, t330, t333, t336, t339, t342⟩, A90, H⟩ := H
    replace H : ((impl_IsPackage.f k t327 t328 t329 t330 t333 t336 t339 t342).bind fun t344 => (if (t344 != t326) = true then (some false) else ((laws_toPackage.f k a0_0 a0_1 a0_2 l0_3 l0_4 l0_5 l0_6 a0_7).bind fun bt345 => ((laws_eqPackage.f k t327 t328 t329 t330 t333 t336 t339 t342 bt345.1 bt345.2.1 bt345.2.2.1 bt345.2.2.2.1 bt345.2.2.2.2.1 bt345.2.2.2.2.2.1 bt345.2.2.2.2.2.2.1 bt345.2.2.2.2.2.2.2).bind fun t361 => (if t361 = true then (some true) else (some false)))))) = some true := H
    have A9 := Aside0.mk A90
    clear A90
    replace H := Option.bind_eq_some_iff.mp H
    obtain ⟨t344, A100, H⟩ := H
    replace H : (if (t344 != t326) = true then (some false) else ((laws_toPackage.f k a0_0 a0_1 a0_2 l0_3 l0_4 l0_5 l0_6 a0_7).bind fun bt345 => ((laws_eqPackage.f k t327 t328 t329 t330 t333 t336 t339 t342 bt345.1 bt345.2.1 bt345.2.2.1 bt345.2.2.2.1 bt345.2.2.2.2.1 bt345.2.2.2.2.2.1 bt345.2.2.2.2.2.2.1 bt345.2.2.2.2.2.2.2).bind fun t361 => (if t361 = true then (some true) else (some false))))) = some true := H
    have A10 := Aside0.mk A100
    clear A100
    by_cases c11 : (t344 != t326) = true
    · rw [if_pos c11] at H
      have c11b0 : (t344 != t326) = true := c11
      (try (have c11b1 : decide (t344 = t326) = false := by simpa using c11))
      (try (have c11b2 : (t344 == t326) = false := by simpa using c11))
      (try (have c11b3 : ¬ (t344 = t326) := by simpa using c11))
      clear c11
      exact absurd H (by simp)
    · rw [if_neg c11] at H
      have c11b0 : (t344 != t326) = false := by simpa using c11
      (try (have c11b1 : decide (t344 = t326) = true := by simpa using c11))
      (try (have c11b2 : (t344 == t326) = true := by simpa using c11))
      clear c11
      replace H := Option.bind_eq_some_iff.mp H
      obtain ⟨⟨t345, t346, t347, t348, t351, t354, t357, t360⟩, A320, H⟩ := H
      replace H : ((laws_eqPackage.f k t327 t328 t329 t330 t333 t336 t339 t342 t345 t346 t347 t348 t351 t354 t357 t360).bind fun t361 => (if t361 = true then (some true) else (some false))) = some true := H
      have A32 := Aside0.mk A320
      clear A320
      replace H := Option.bind_eq_some_iff.mp H
      obtain ⟨t361, A330, H⟩ := H
      replace H : (if t361 = true then (some true) else (some false)) = some true := H
      have A33 := Aside0.mk A330
      clear A330
      by_cases c34 : t361 = true
      · subst c34
        have H1 : (some true) = some true := rfl
        clear H
        have H := H1
        clear H1
        clear H
        go_enter Try.func10, Try.ntmps10
        try go_wp2_with (first | ((with_reducible refine gate_dst (N := 1) rfl ?_); refine box_event ?hg (N := 1) ?hd (cs := #[.int .i64 a0_0, .int .i64 a0_1, .int .i64 a0_2, .slice A0_3 l0_3.length c0_3, .slice A0_4 l0_4.length c0_4, .slice A0_5 l0_5.length c0_5, .slice A0_6 l0_6.length c0_6, .int .i64 a0_7]) (t := 60) ?hr ?_; (case hd => rfl); (case hg => rfl); (case hr => first | (go_simp; done) | (go_simp; rfl)); intro gb308 hg w35 hbox hb; have n0_ := Aside0.mk (below_step hb_ hb); have n1_ := Aside0.mk (hbox); have n2_ := Aside0.mk ((by rw [hg]; exact (below_size hb_) : w.heap.size ≤ gb308)); have n3_ := Aside0.mk ((by rw [hg]; exact (below_size hb_) : w.heap.size ≤ gb308)); clear HB; have HB := n0_; have BK308 := n1_; have GW308 := n2_; have GE308 := n3_; clear n0_ n1_ n2_ n3_; clear hb hbox hg; have hcz36_0 : w35.cell? ⟨gb308, 0, none⟩ = some (.int .i64 a0_0) := (blk_cell BK308.out 0).trans rfl; have hcz36_1 : w35.cell? ⟨gb308, 1, none⟩ = some (.int .i64 a0_1) := (blk_cell BK308.out 1).trans rfl; have hcz36_2 : w35.cell? ⟨gb308, 2, none⟩ = some (.int .i64 a0_2) := (blk_cell BK308.out 2).trans rfl; have hcz36_3 : w35.cell? ⟨gb308, 3, none⟩ = some (.slice A0_3 l0_3.length c0_3) := (blk_cell BK308.out 3).trans rfl; have hcz36_4 : w35.cell? ⟨gb308, 4, none⟩ = some (.slice A0_4 l0_4.length c0_4) := (blk_cell BK308.out 4).trans rfl; have hcz36_5 : w35.cell? ⟨gb308, 5, none⟩ = some (.slice A0_5 l0_5.length c0_5) := (blk_cell BK308.out 5).trans rfl; have hcz36_6 : w35.cell? ⟨gb308, 6, none⟩ = some (.slice A0_6 l0_6.length c0_6) := (blk_cell BK308.out 6).trans rfl; have hcz36_7 : w35.cell? ⟨gb308, 7, none⟩ = some (.int .i64 a0_7) := (blk_cell BK308.out 7).trans rfl; have hfz36_0 := blk_frozen BK308.out 0; have hfz36_1 := blk_frozen BK308.out 1; have hfz36_2 := blk_frozen BK308.out 2; have hfz36_3 := blk_frozen BK308.out 3; have hfz36_4 := blk_frozen BK308.out 4; have hfz36_5 := blk_frozen BK308.out 5; have hfz36_6 := blk_frozen BK308.out 6; have hfz36_7 := blk_frozen BK308.out 7) | ((with_reducible refine gate_callee (f := 39) rfl ?_); refine goesL_ (some 9) rfl rfl Try.func39 (by kernel_rfl) rfl #[.agg #[.int .i64 a0_0, .int .i64 a0_1, .int .i64 a0_2, .slice A0_3 l0_3.length c0_3, .slice A0_4 l0_4.length c0_4, .slice A0_5 l0_5.length c0_5, .slice A0_6 l0_6.length c0_6, .int .i64 a0_7], .int .i64 1048576] rfl la_ ?_; (with_reducible refine (laws_szPackage.calls a0_0 a0_1 a0_2 _ _ l0_3 _ _ l0_4 _ _ l0_5 _ _ l0_6 a0_7 1048576 t309 _ ?side1 ?side2 ?side3 ?side4 ?side5 ?side6 ?side7 ?side8 A2.out).mono ?_); (case side1 => repeat (first | exact (Kd.C_below HR0_3.out HB.out) | (with_reducible refine Kd.C_alloc ?_ _) | (with_reducible refine Kd.C_drewN ?_ _) | (with_reducible refine Kd.C_drew ?_))); (case side2 => exact HC0_3.out); (case side3 => repeat (first | exact (Kd.C_below HR0_4.out HB.out) | (with_reducible refine Kd.C_alloc ?_ _) | (with_reducible refine Kd.C_drewN ?_ _) | (with_reducible refine Kd.C_drew ?_))); (case side4 => exact HC0_4.out); (case side5 => repeat (first | exact (Kd.C_below HR0_5.out HB.out) | (with_reducible refine Kd.C_alloc ?_ _) | (with_reducible refine Kd.C_drewN ?_ _) | (with_reducible refine Kd.C_drew ?_))); (case side6 => exact HC0_5.out); (case side7 => repeat (first | exact (Kd.C_below HR0_6.out HB.out) | (with_reducible refine Kd.C_alloc ?_ _) | (with_reducible refine Kd.C_drewN ?_ _) | (with_reducible refine Kd.C_drew ?_))); (case side8 => exact HC0_6.out); rintro e w37 ⟨rfl, hb⟩; refine ⟨_, rfl, ?_⟩; have n0_ := Aside0.mk (blk_below (g := gb308) bk_ hb); have n1_ := Aside0.mk (below_step hb_ hb); clear BK308; clear HB; have BK308 := n0_; have HB := n1_; clear n0_ n1_; (try clear hb); (try clear hb2); (try clear hk); (try clear hi); have hcz38_0 : w37.cell? ⟨gb308, 0, none⟩ = some (.int .i64 a0_0) := (blk_cell BK308.out 0).trans rfl; have hcz38_1 : w37.cell? ⟨gb308, 1, none⟩ = some (.int .i64 a0_1) := (blk_cell BK308.out 1).trans rfl; have hcz38_2 : w37.cell? ⟨gb308, 2, none⟩ = some (.int .i64 a0_2) := (blk_cell BK308.out 2).trans rfl; have hcz38_3 : w37.cell? ⟨gb308, 3, none⟩ = some (.slice A0_3 l0_3.length c0_3) := (blk_cell BK308.out 3).trans rfl; have hcz38_4 : w37.cell? ⟨gb308, 4, none⟩ = some (.slice A0_4 l0_4.length c0_4) := (blk_cell BK308.out 4).trans rfl; have hcz38_5 : w37.cell? ⟨gb308, 5, none⟩ = some (.slice A0_5 l0_5.length c0_5) := (blk_cell BK308.out 5).trans rfl; have hcz38_6 : w37.cell? ⟨gb308, 6, none⟩ = some (.slice A0_6 l0_6.length c0_6) := (blk_cell BK308.out 6).trans rfl; have hcz38_7 : w37.cell? ⟨gb308, 7, none⟩ = some (.int .i64 a0_7) := (blk_cell BK308.out 7).trans rfl; have hfz38_0 := blk_frozen BK308.out 0; have hfz38_1 := blk_frozen BK308.out 1; have hfz38_2 := blk_frozen BK308.out 2; have hfz38_3 := blk_frozen BK308.out 3; have hfz38_4 := blk_frozen BK308.out 4; have hfz38_5 := blk_frozen BK308.out 5; have hfz38_6 := blk_frozen BK308.out 6; have hfz38_7 := blk_frozen BK308.out 7) | ((with_reducible refine gate_callee (f := 41) rfl ?_); refine goesL_ (some 13) rfl rfl Try.func41 (by kernel_rfl) rfl #[.agg #[.int .i64 a0_0, .int .i64 a0_1, .int .i64 a0_2, .slice A0_3 l0_3.length c0_3, .slice A0_4 l0_4.length c0_4, .slice A0_5 l0_5.length c0_5, .slice A0_6 l0_6.length c0_6, .int .i64 a0_7]] rfl la_ ?_; (with_reducible refine (laws_toPackage.calls k a0_0 a0_1 a0_2 _ _ l0_3 _ _ l0_4 _ _ l0_5 _ _ l0_6 a0_7 t310 t311 t312 t313 t316 t319 t322 t325 _ ?side1 ?side2 ?side3 ?side4 ?side5 ?side6 ?side7 ?side8 A7.out).mono ?_); (case side1 => repeat (first | exact (Kd.C_below HR0_3.out HB.out) | (with_reducible refine Kd.C_alloc ?_ _) | (with_reducible refine Kd.C_drewN ?_ _) | (with_reducible refine Kd.C_drew ?_))); (case side2 => exact HC0_3.out); (case side3 => repeat (first | exact (Kd.C_below HR0_4.out HB.out) | (with_reducible refine Kd.C_alloc ?_ _) | (with_reducible refine Kd.C_drewN ?_ _) | (with_reducible refine Kd.C_drew ?_))); (case side4 => exact HC0_4.out); (case side5 => repeat (first | exact (Kd.C_below HR0_5.out HB.out) | (with_reducible refine Kd.C_alloc ?_ _) | (with_reducible refine Kd.C_drewN ?_ _) | (with_reducible refine Kd.C_drew ?_))); (case side6 => exact HC0_5.out); (case side7 => repeat (first | exact (Kd.C_below HR0_6.out HB.out) | (with_reducible refine Kd.C_alloc ?_ _) | (with_reducible refine Kd.C_drewN ?_ _) | (with_reducible refine Kd.C_drew ?_))); (case side8 => exact HC0_6.out); rintro e w39 ⟨v314, v317, v320, v323, rfl, ho0, ho1, ho2, ho3, hb⟩; refine ⟨_, rfl, ?_⟩; have n0_ := Aside0.mk (Kd.R_lower ho0 (below_size hb_)); have n1_ := Aside0.mk (Kd.R_lower ho1 (below_size hb_)); have n2_ := Aside0.mk (Kd.R_lower ho2 (below_size hb_)); have n3_ := Aside0.mk (Kd.R_lower ho3 (below_size hb_)); have n4_ := Aside0.mk (blk_below (g := gb308) bk_ hb); have n5_ := Aside0.mk (below_step hb_ hb); clear BK308; clear HB; have HO315 := n0_; have HO318 := n1_; have HO321 := n2_; have HO324 := n3_; have BK308 := n4_; have HB := n5_; clear n0_ n1_ n2_ n3_ n4_ n5_; (try clear hb); (try clear hb2); (try clear hk); (try clear hi); (try clear ho0); (try clear ho1); (try clear ho2); (try clear ho3); obtain ⟨Ao40, co40, eo40⟩ := Kd.R_slice HO315.out; subst eo40; obtain ⟨Ao41, co41, eo41⟩ := Kd.R_slice HO318.out; subst eo41; obtain ⟨Ao42, co42, eo42⟩ := Kd.R_slice HO321.out; subst eo42; obtain ⟨Ao43, co43, eo43⟩ := Kd.R_slice HO324.out; subst eo43) | ((with_reducible refine gate_callee (f := 54) rfl ?_); refine goesL_ (some 14) rfl rfl Try.func54 (by kernel_rfl) rfl #[.agg #[.int .i64 t310, .int .i64 t311, .int .i64 t312, .slice Ao40 t313.length co40, .slice Ao41 t316.length co41, .slice Ao42 t319.length co42, .slice Ao43 t322.length co43, .int .i64 t325]] rfl la_ ?_; (with_reducible refine (spec_IsPackage.calls k t310 t311 t312 _ _ t313 _ _ t316 _ _ t319 _ _ t322 t325 t326 _ ?side1 ?side2 ?side3 ?side4 ?side5 ?side6 ?side7 ?side8 A8.out).mono ?_); (case side1 => repeat (first | exact (Kd.R_reads' HO315.out).2.2 | (with_reducible refine Kd.C_alloc ?_ _) | (with_reducible refine Kd.C_drewN ?_ _) | (with_reducible refine Kd.C_drew ?_))); (case side2 => exact (Kd.R_reads' HO315.out).2.1); (case side3 => repeat (first | exact (Kd.R_reads' HO318.out).2.2 | (with_reducible refine Kd.C_alloc ?_ _) | (with_reducible refine Kd.C_drewN ?_ _) | (with_reducible refine Kd.C_drew ?_))); (case side4 => exact (Kd.R_reads' HO318.out).2.1); (case side5 => repeat (first | exact (Kd.R_reads' HO321.out).2.2 | (with_reducible refine Kd.C_alloc ?_ _) | (with_reducible refine Kd.C_drewN ?_ _) | (with_reducible refine Kd.C_drew ?_))); (case side6 => exact (Kd.R_reads' HO321.out).2.1); (case side7 => repeat (first | exact (Kd.R_reads' HO324.out).2.2 | (with_reducible refine Kd.C_alloc ?_ _) | (with_reducible refine Kd.C_drewN ?_ _) | (with_reducible refine Kd.C_drew ?_))); (case side8 => exact (Kd.R_reads' HO324.out).2.1); rintro e w44 ⟨rfl, hb⟩; refine ⟨_, rfl, ?_⟩; have n0_ := Aside0.mk (Kd.R_below (by (with_reducible repeat (first | apply Kd.R_alloc | apply Kd.R_drewN | apply Kd.R_drew)); exact HO315.out) hb); have n1_ := Aside0.mk (Kd.R_below (by (with_reducible repeat (first | apply Kd.R_alloc | apply Kd.R_drewN | apply Kd.R_drew)); exact HO318.out) hb); have n2_ := Aside0.mk (Kd.R_below (by (with_reducible repeat (first | apply Kd.R_alloc | apply Kd.R_drewN | apply Kd.R_drew)); exact HO321.out) hb); have n3_ := Aside0.mk (Kd.R_below (by (with_reducible repeat (first | apply Kd.R_alloc | apply Kd.R_drewN | apply Kd.R_drew)); exact HO324.out) hb); have n4_ := Aside0.mk (blk_below (g := gb308) bk_ hb); have n5_ := Aside0.mk (below_step hb_ hb); clear HO315; clear HO318; clear HO321; clear HO324; clear BK308; clear HB; have HO315 := n0_; have HO318 := n1_; have HO321 := n2_; have HO324 := n3_; have BK308 := n4_; have HB := n5_; clear n0_ n1_ n2_ n3_ n4_ n5_; (try clear hb); (try clear hb2); (try clear hk); (try clear hi); have hcz45_0 : w44.cell? ⟨gb308, 0, none⟩ = some (.int .i64 a0_0) := (blk_cell BK308.out 0).trans rfl; have hcz45_1 : w44.cell? ⟨gb308, 1, none⟩ = some (.int .i64 a0_1) := (blk_cell BK308.out 1).trans rfl; have hcz45_2 : w44.cell? ⟨gb308, 2, none⟩ = some (.int .i64 a0_2) := (blk_cell BK308.out 2).trans rfl; have hcz45_3 : w44.cell? ⟨gb308, 3, none⟩ = some (.slice A0_3 l0_3.length c0_3) := (blk_cell BK308.out 3).trans rfl; have hcz45_4 : w44.cell? ⟨gb308, 4, none⟩ = some (.slice A0_4 l0_4.length c0_4) := (blk_cell BK308.out 4).trans rfl; have hcz45_5 : w44.cell? ⟨gb308, 5, none⟩ = some (.slice A0_5 l0_5.length c0_5) := (blk_cell BK308.out 5).trans rfl; have hcz45_6 : w44.cell? ⟨gb308, 6, none⟩ = some (.slice A0_6 l0_6.length c0_6) := (blk_cell BK308.out 6).trans rfl; have hcz45_7 : w44.cell? ⟨gb308, 7, none⟩ = some (.int .i64 a0_7) := (blk_cell BK308.out 7).trans rfl; have hfz45_0 := blk_frozen BK308.out 0; have hfz45_1 := blk_frozen BK308.out 1; have hfz45_2 := blk_frozen BK308.out 2; have hfz45_3 := blk_frozen BK308.out 3; have hfz45_4 := blk_frozen BK308.out 4; have hfz45_5 := blk_frozen BK308.out 5; have hfz45_6 := blk_frozen BK308.out 6; have hfz45_7 := blk_frozen BK308.out 7) | ((with_reducible refine gate_callee (f := 41) rfl ?_); refine goesL_ (some 16) rfl rfl Try.func41 (by kernel_rfl) rfl #[.agg #[.int .i64 a0_0, .int .i64 a0_1, .int .i64 a0_2, .slice A0_3 l0_3.length c0_3, .slice A0_4 l0_4.length c0_4, .slice A0_5 l0_5.length c0_5, .slice A0_6 l0_6.length c0_6, .int .i64 a0_7]] rfl la_ ?_; (with_reducible refine (laws_toPackage.calls k a0_0 a0_1 a0_2 _ _ l0_3 _ _ l0_4 _ _ l0_5 _ _ l0_6 a0_7 t327 t328 t329 t330 t333 t336 t339 t342 _ ?side1 ?side2 ?side3 ?side4 ?side5 ?side6 ?side7 ?side8 A9.out).mono ?_); (case side1 => repeat (first | exact (Kd.C_below HR0_3.out HB.out) | (with_reducible refine Kd.C_alloc ?_ _) | (with_reducible refine Kd.C_drewN ?_ _) | (with_reducible refine Kd.C_drew ?_))); (case side2 => exact HC0_3.out); (case side3 => repeat (first | exact (Kd.C_below HR0_4.out HB.out) | (with_reducible refine Kd.C_alloc ?_ _) | (with_reducible refine Kd.C_drewN ?_ _) | (with_reducible refine Kd.C_drew ?_))); (case side4 => exact HC0_4.out); (case side5 => repeat (first | exact (Kd.C_below HR0_5.out HB.out) | (with_reducible refine Kd.C_alloc ?_ _) | (with_reducible refine Kd.C_drewN ?_ _) | (with_reducible refine Kd.C_drew ?_))); (case side6 => exact HC0_5.out); (case side7 => repeat (first | exact (Kd.C_below HR0_6.out HB.out) | (with_reducible refine Kd.C_alloc ?_ _) | (with_reducible refine Kd.C_drewN ?_ _) | (with_reducible refine Kd.C_drew ?_))); (case side8 => exact HC0_6.out); rintro e w46 ⟨v331, v334, v337, v340, rfl, ho0, ho1, ho2, ho3, hb⟩; refine ⟨_, rfl, ?_⟩; have n0_ := Aside0.mk (Kd.R_elder' (by (with_reducible repeat (first | apply Kd.R_alloc | apply Kd.R_drewN | apply Kd.R_drew)); exact HO315.out) (Kd.R_base ho0) hb); have n1_ := Aside0.mk (Kd.R_elder' (by (with_reducible repeat (first | apply Kd.R_alloc | apply Kd.R_drewN | apply Kd.R_drew)); exact HO318.out) (Kd.R_base ho1) hb); have n2_ := Aside0.mk (Kd.R_elder' (by (with_reducible repeat (first | apply Kd.R_alloc | apply Kd.R_drewN | apply Kd.R_drew)); exact HO321.out) (Kd.R_base ho2) hb); have n3_ := Aside0.mk (Kd.R_elder' (by (with_reducible repeat (first | apply Kd.R_alloc | apply Kd.R_drewN | apply Kd.R_drew)); exact HO324.out) (Kd.R_base ho3) hb); have n4_ := Aside0.mk (Kd.R_lower (Kd.R_new' ho0 (Kd.R_lt (by (with_reducible repeat (first | apply Kd.R_alloc | apply Kd.R_drewN | apply Kd.R_drew)); exact HO315.out))) (below_size hb_)); have n5_ := Aside0.mk (Kd.R_lower (Kd.R_new' ho1 (Kd.R_lt (by (with_reducible repeat (first | apply Kd.R_alloc | apply Kd.R_drewN | apply Kd.R_drew)); exact HO318.out))) (below_size hb_)); have n6_ := Aside0.mk (Kd.R_lower (Kd.R_new' ho2 (Kd.R_lt (by (with_reducible repeat (first | apply Kd.R_alloc | apply Kd.R_drewN | apply Kd.R_drew)); exact HO321.out))) (below_size hb_)); have n7_ := Aside0.mk (Kd.R_lower (Kd.R_new' ho3 (Kd.R_lt (by (with_reducible repeat (first | apply Kd.R_alloc | apply Kd.R_drewN | apply Kd.R_drew)); exact HO324.out))) (below_size hb_)); have n8_ := Aside0.mk (blk_below (g := gb308) bk_ hb); have n9_ := Aside0.mk (below_step hb_ hb); clear HO315; clear HO318; clear HO321; clear HO324; clear BK308; clear HB; have HO315 := n0_; have HO318 := n1_; have HO321 := n2_; have HO324 := n3_; have HO332 := n4_; have HO335 := n5_; have HO338 := n6_; have HO341 := n7_; have BK308 := n8_; have HB := n9_; clear n0_ n1_ n2_ n3_ n4_ n5_ n6_ n7_ n8_ n9_; (try clear hb); (try clear hb2); (try clear hk); (try clear hi); (try clear ho0); (try clear ho1); (try clear ho2); (try clear ho3)) | ((with_reducible refine gate_dst (N := 5) rfl ?_); refine box_event ?hg (N := 5) ?hd (cs := #[.int .i64 0, .int .i64 0, .int .i64 0, .slice none 0 0, .slice none 0 0, .slice none 0 0, .slice none 0 0, .int .i64 0]) (t := 66) ?hr ?_; (case hd => rfl); (case hg => rfl); (case hr => first | (go_simp; done) | (go_simp; rfl)); intro gb343 hg w47 hbox hb; have n0_ := Aside0.mk (Kd.R_below (by (with_reducible repeat (first | apply Kd.R_alloc | apply Kd.R_drewN | apply Kd.R_drew)); exact HO315.out) hb); have n1_ := Aside0.mk (Kd.R_below (by (with_reducible repeat (first | apply Kd.R_alloc | apply Kd.R_drewN | apply Kd.R_drew)); exact HO318.out) hb); have n2_ := Aside0.mk (Kd.R_below (by (with_reducible repeat (first | apply Kd.R_alloc | apply Kd.R_drewN | apply Kd.R_drew)); exact HO321.out) hb); have n3_ := Aside0.mk (Kd.R_below (by (with_reducible repeat (first | apply Kd.R_alloc | apply Kd.R_drewN | apply Kd.R_drew)); exact HO324.out) hb); have n4_ := Aside0.mk (Kd.R_below (by (with_reducible repeat (first | apply Kd.R_alloc | apply Kd.R_drewN | apply Kd.R_drew)); exact HO332.out) hb); have n5_ := Aside0.mk (Kd.R_below (by (with_reducible repeat (first | apply Kd.R_alloc | apply Kd.R_drewN | apply Kd.R_drew)); exact HO335.out) hb); have n6_ := Aside0.mk (Kd.R_below (by (with_reducible repeat (first | apply Kd.R_alloc | apply Kd.R_drewN | apply Kd.R_drew)); exact HO338.out) hb); have n7_ := Aside0.mk (Kd.R_below (by (with_reducible repeat (first | apply Kd.R_alloc | apply Kd.R_drewN | apply Kd.R_drew)); exact HO341.out) hb); have n8_ := Aside0.mk (blk_below (g := gb308) bk_ hb); have n9_ := Aside0.mk (below_step hb_ hb); have n10_ := Aside0.mk (hbox); have n11_ := Aside0.mk ((by rw [hg]; exact (below_size hb_) : w.heap.size ≤ gb343)); have n12_ := Aside0.mk ((by rw [hg]; exact (below_size hb_) : w.heap.size ≤ gb343)); have n13_ := Aside0.mk ((by rw [hg]; exact Nat.ne_of_lt (blk_lt (g := gb308) bk_) : gb308 ≠ gb343)); have n14_ := Aside0.mk ((by rw [hg]; exact Nat.ne_of_gt (blk_lt (g := gb308) bk_) : gb343 ≠ gb308)); clear HO315; clear HO318; clear HO321; clear HO324; clear HO332; clear HO335; clear HO338; clear HO341; clear BK308; clear HB; have HO315 := n0_; have HO318 := n1_; have HO321 := n2_; have HO324 := n3_; have HO332 := n4_; have HO335 := n5_; have HO338 := n6_; have HO341 := n7_; have BK308 := n8_; have HB := n9_; have BK343 := n10_; have GW343 := n11_; have GE343 := n12_; have NB308_343 := n13_; have NB343_308 := n14_; clear n0_ n1_ n2_ n3_ n4_ n5_ n6_ n7_ n8_ n9_ n10_ n11_ n12_ n13_ n14_; clear hb hbox hg; have hnb48 := NB343_308.out; have hnc48 := NB308_343.out; have hcz49_0 : w47.cell? ⟨gb343, 0, none⟩ = some (.int .i64 0) := (blk_cell BK343.out 0).trans rfl; have hcz49_1 : w47.cell? ⟨gb343, 1, none⟩ = some (.int .i64 0) := (blk_cell BK343.out 1).trans rfl; have hcz49_2 : w47.cell? ⟨gb343, 2, none⟩ = some (.int .i64 0) := (blk_cell BK343.out 2).trans rfl; have hcz49_3 : w47.cell? ⟨gb343, 3, none⟩ = some (.slice none 0 0) := (blk_cell BK343.out 3).trans rfl; have hcz49_4 : w47.cell? ⟨gb343, 4, none⟩ = some (.slice none 0 0) := (blk_cell BK343.out 4).trans rfl; have hcz49_5 : w47.cell? ⟨gb343, 5, none⟩ = some (.slice none 0 0) := (blk_cell BK343.out 5).trans rfl; have hcz49_6 : w47.cell? ⟨gb343, 6, none⟩ = some (.slice none 0 0) := (blk_cell BK343.out 6).trans rfl; have hcz49_7 : w47.cell? ⟨gb343, 7, none⟩ = some (.int .i64 0) := (blk_cell BK343.out 7).trans rfl; have hfz49_0 := blk_frozen BK343.out 0; have hfz49_1 := blk_frozen BK343.out 1; have hfz49_2 := blk_frozen BK343.out 2; have hfz49_3 := blk_frozen BK343.out 3; have hfz49_4 := blk_frozen BK343.out 4; have hfz49_5 := blk_frozen BK343.out 5; have hfz49_6 := blk_frozen BK343.out 6; have hfz49_7 := blk_frozen BK343.out 7; obtain ⟨Ao50, co50, eo50⟩ := Kd.R_slice HO332.out; subst eo50; obtain ⟨Ao51, co51, eo51⟩ := Kd.R_slice HO335.out; subst eo51; obtain ⟨Ao52, co52, eo52⟩ := Kd.R_slice HO338.out; subst eo52; obtain ⟨Ao53, co53, eo53⟩ := Kd.R_slice HO341.out; subst eo53) | ((with_reducible refine gate_callee (f := 55) rfl ?_); refine goesL_ (some 18) rfl rfl Try.func55 (by kernel_rfl) rfl #[.agg #[.int .i64 t327, .int .i64 t328, .int .i64 t329, .slice Ao50 t330.length co50, .slice Ao51 t333.length co51, .slice Ao52 t336.length co52, .slice Ao53 t339.length co53, .int .i64 t342]] rfl la_ ?_; (with_reducible refine (impl_IsPackage.calls k t327 t328 t329 _ _ t330 _ _ t333 _ _ t336 _ _ t339 t342 t344 _ ?side1 ?side2 ?side3 ?side4 ?side5 ?side6 ?side7 ?side8 A10.out).mono ?_); (case side1 => refine (Kd.R_reads' (e := 132) (base := w.heap.size) (ok := fun k_ => (True ∧ some k_ ≠ (.slice Ao40 t313.length co40 : Value).ownBlock)) (n := t330.length) (c := co50) ?_).2.2; exact (by (with_reducible repeat (first | apply Kd.R_alloc | apply Kd.R_drewN | apply Kd.R_drew)); exact (Kd.R_mono (Kd.R_far (p := ⟨gb343, 7, none⟩) (Kd.R_far (p := ⟨gb343, 6, none⟩) (Kd.R_far (p := ⟨gb343, 5, none⟩) (Kd.R_far (p := ⟨gb343, 4, none⟩) (Kd.R_far (p := ⟨gb343, 3, none⟩) (Kd.R_far (p := ⟨gb343, 2, none⟩) (Kd.R_far (p := ⟨gb343, 1, none⟩) (Kd.R_far (p := ⟨gb343, 0, none⟩) (Kd.R_types HO332.out BK343.out (by decide)) (fun _ hk => hk.2) (.int .i64 t327)) (fun _ hk => hk.2) (.int .i64 t328)) (fun _ hk => hk.2) (.int .i64 t329)) (fun _ hk => hk.2) (.slice Ao50 t330.length co50)) (fun _ hk => hk.2) (.slice Ao51 t333.length co51)) (fun _ hk => hk.2) (.slice Ao52 t336.length co52)) (fun _ hk => hk.2) (.slice Ao53 t339.length co53)) (fun _ hk => hk.2) (.int .i64 t342)) (fun _ h_ => h_.1)))); (case side2 => exact (Kd.R_reads' HO332.out).2.1); (case side3 => refine (Kd.R_reads' (e := 120) (base := w.heap.size) (ok := fun k_ => (True ∧ some k_ ≠ (.slice Ao41 t316.length co41 : Value).ownBlock)) (n := t333.length) (c := co51) ?_).2.2; exact (by (with_reducible repeat (first | apply Kd.R_alloc | apply Kd.R_drewN | apply Kd.R_drew)); exact (Kd.R_mono (Kd.R_far (p := ⟨gb343, 7, none⟩) (Kd.R_far (p := ⟨gb343, 6, none⟩) (Kd.R_far (p := ⟨gb343, 5, none⟩) (Kd.R_far (p := ⟨gb343, 4, none⟩) (Kd.R_far (p := ⟨gb343, 3, none⟩) (Kd.R_far (p := ⟨gb343, 2, none⟩) (Kd.R_far (p := ⟨gb343, 1, none⟩) (Kd.R_far (p := ⟨gb343, 0, none⟩) (Kd.R_types HO335.out BK343.out (by decide)) (fun _ hk => hk.2) (.int .i64 t327)) (fun _ hk => hk.2) (.int .i64 t328)) (fun _ hk => hk.2) (.int .i64 t329)) (fun _ hk => hk.2) (.slice Ao50 t330.length co50)) (fun _ hk => hk.2) (.slice Ao51 t333.length co51)) (fun _ hk => hk.2) (.slice Ao52 t336.length co52)) (fun _ hk => hk.2) (.slice Ao53 t339.length co53)) (fun _ hk => hk.2) (.int .i64 t342)) (fun _ h_ => h_.1)))); (case side4 => exact (Kd.R_reads' HO335.out).2.1); (case side5 => refine (Kd.R_reads' (e := 139) (base := w.heap.size) (ok := fun k_ => (True ∧ some k_ ≠ (.slice Ao42 t319.length co42 : Value).ownBlock)) (n := t336.length) (c := co52) ?_).2.2; exact (by (with_reducible repeat (first | apply Kd.R_alloc | apply Kd.R_drewN | apply Kd.R_drew)); exact (Kd.R_mono (Kd.R_far (p := ⟨gb343, 7, none⟩) (Kd.R_far (p := ⟨gb343, 6, none⟩) (Kd.R_far (p := ⟨gb343, 5, none⟩) (Kd.R_far (p := ⟨gb343, 4, none⟩) (Kd.R_far (p := ⟨gb343, 3, none⟩) (Kd.R_far (p := ⟨gb343, 2, none⟩) (Kd.R_far (p := ⟨gb343, 1, none⟩) (Kd.R_far (p := ⟨gb343, 0, none⟩) (Kd.R_types HO338.out BK343.out (by decide)) (fun _ hk => hk.2) (.int .i64 t327)) (fun _ hk => hk.2) (.int .i64 t328)) (fun _ hk => hk.2) (.int .i64 t329)) (fun _ hk => hk.2) (.slice Ao50 t330.length co50)) (fun _ hk => hk.2) (.slice Ao51 t333.length co51)) (fun _ hk => hk.2) (.slice Ao52 t336.length co52)) (fun _ hk => hk.2) (.slice Ao53 t339.length co53)) (fun _ hk => hk.2) (.int .i64 t342)) (fun _ h_ => h_.1)))); (case side6 => exact (Kd.R_reads' HO338.out).2.1); (case side7 => refine (Kd.R_reads' (e := 46) (base := w.heap.size) (ok := fun k_ => (True ∧ some k_ ≠ (.slice Ao43 t322.length co43 : Value).ownBlock)) (n := t339.length) (c := co53) ?_).2.2; exact (by (with_reducible repeat (first | apply Kd.R_alloc | apply Kd.R_drewN | apply Kd.R_drew)); exact (Kd.R_mono (Kd.R_far (p := ⟨gb343, 7, none⟩) (Kd.R_far (p := ⟨gb343, 6, none⟩) (Kd.R_far (p := ⟨gb343, 5, none⟩) (Kd.R_far (p := ⟨gb343, 4, none⟩) (Kd.R_far (p := ⟨gb343, 3, none⟩) (Kd.R_far (p := ⟨gb343, 2, none⟩) (Kd.R_far (p := ⟨gb343, 1, none⟩) (Kd.R_far (p := ⟨gb343, 0, none⟩) (Kd.R_types HO341.out BK343.out (by decide)) (fun _ hk => hk.2) (.int .i64 t327)) (fun _ hk => hk.2) (.int .i64 t328)) (fun _ hk => hk.2) (.int .i64 t329)) (fun _ hk => hk.2) (.slice Ao50 t330.length co50)) (fun _ hk => hk.2) (.slice Ao51 t333.length co51)) (fun _ hk => hk.2) (.slice Ao52 t336.length co52)) (fun _ hk => hk.2) (.slice Ao53 t339.length co53)) (fun _ hk => hk.2) (.int .i64 t342)) (fun _ h_ => h_.1)))); (case side8 => exact (Kd.R_reads' HO341.out).2.1); rintro e w54 ⟨rfl, hb⟩; refine ⟨_, rfl, ?_⟩; have n0_ := Aside0.mk (Kd.R_below (by (with_reducible repeat (first | apply Kd.R_alloc | apply Kd.R_drewN | apply Kd.R_drew)); exact (Kd.R_mono (Kd.R_far (p := ⟨gb343, 7, none⟩) (Kd.R_far (p := ⟨gb343, 6, none⟩) (Kd.R_far (p := ⟨gb343, 5, none⟩) (Kd.R_far (p := ⟨gb343, 4, none⟩) (Kd.R_far (p := ⟨gb343, 3, none⟩) (Kd.R_far (p := ⟨gb343, 2, none⟩) (Kd.R_far (p := ⟨gb343, 1, none⟩) (Kd.R_far (p := ⟨gb343, 0, none⟩) (Kd.R_types HO315.out BK343.out (by decide)) (fun _ hk => hk.2) (.int .i64 t327)) (fun _ hk => hk.2) (.int .i64 t328)) (fun _ hk => hk.2) (.int .i64 t329)) (fun _ hk => hk.2) (.slice Ao50 t330.length co50)) (fun _ hk => hk.2) (.slice Ao51 t333.length co51)) (fun _ hk => hk.2) (.slice Ao52 t336.length co52)) (fun _ hk => hk.2) (.slice Ao53 t339.length co53)) (fun _ hk => hk.2) (.int .i64 t342)) (fun _ h_ => h_.1))) hb); have n1_ := Aside0.mk (Kd.R_below (by (with_reducible repeat (first | apply Kd.R_alloc | apply Kd.R_drewN | apply Kd.R_drew)); exact (Kd.R_mono (Kd.R_far (p := ⟨gb343, 7, none⟩) (Kd.R_far (p := ⟨gb343, 6, none⟩) (Kd.R_far (p := ⟨gb343, 5, none⟩) (Kd.R_far (p := ⟨gb343, 4, none⟩) (Kd.R_far (p := ⟨gb343, 3, none⟩) (Kd.R_far (p := ⟨gb343, 2, none⟩) (Kd.R_far (p := ⟨gb343, 1, none⟩) (Kd.R_far (p := ⟨gb343, 0, none⟩) (Kd.R_types HO318.out BK343.out (by decide)) (fun _ hk => hk.2) (.int .i64 t327)) (fun _ hk => hk.2) (.int .i64 t328)) (fun _ hk => hk.2) (.int .i64 t329)) (fun _ hk => hk.2) (.slice Ao50 t330.length co50)) (fun _ hk => hk.2) (.slice Ao51 t333.length co51)) (fun _ hk => hk.2) (.slice Ao52 t336.length co52)) (fun _ hk => hk.2) (.slice Ao53 t339.length co53)) (fun _ hk => hk.2) (.int .i64 t342)) (fun _ h_ => h_.1))) hb); have n2_ := Aside0.mk (Kd.R_below (by (with_reducible repeat (first | apply Kd.R_alloc | apply Kd.R_drewN | apply Kd.R_drew)); exact (Kd.R_mono (Kd.R_far (p := ⟨gb343, 7, none⟩) (Kd.R_far (p := ⟨gb343, 6, none⟩) (Kd.R_far (p := ⟨gb343, 5, none⟩) (Kd.R_far (p := ⟨gb343, 4, none⟩) (Kd.R_far (p := ⟨gb343, 3, none⟩) (Kd.R_far (p := ⟨gb343, 2, none⟩) (Kd.R_far (p := ⟨gb343, 1, none⟩) (Kd.R_far (p := ⟨gb343, 0, none⟩) (Kd.R_types HO321.out BK343.out (by decide)) (fun _ hk => hk.2) (.int .i64 t327)) (fun _ hk => hk.2) (.int .i64 t328)) (fun _ hk => hk.2) (.int .i64 t329)) (fun _ hk => hk.2) (.slice Ao50 t330.length co50)) (fun _ hk => hk.2) (.slice Ao51 t333.length co51)) (fun _ hk => hk.2) (.slice Ao52 t336.length co52)) (fun _ hk => hk.2) (.slice Ao53 t339.length co53)) (fun _ hk => hk.2) (.int .i64 t342)) (fun _ h_ => h_.1))) hb); have n3_ := Aside0.mk (Kd.R_below (by (with_reducible repeat (first | apply Kd.R_alloc | apply Kd.R_drewN | apply Kd.R_drew)); exact (Kd.R_mono (Kd.R_far (p := ⟨gb343, 7, none⟩) (Kd.R_far (p := ⟨gb343, 6, none⟩) (Kd.R_far (p := ⟨gb343, 5, none⟩) (Kd.R_far (p := ⟨gb343, 4, none⟩) (Kd.R_far (p := ⟨gb343, 3, none⟩) (Kd.R_far (p := ⟨gb343, 2, none⟩) (Kd.R_far (p := ⟨gb343, 1, none⟩) (Kd.R_far (p := ⟨gb343, 0, none⟩) (Kd.R_types HO324.out BK343.out (by decide)) (fun _ hk => hk.2) (.int .i64 t327)) (fun _ hk => hk.2) (.int .i64 t328)) (fun _ hk => hk.2) (.int .i64 t329)) (fun _ hk => hk.2) (.slice Ao50 t330.length co50)) (fun _ hk => hk.2) (.slice Ao51 t333.length co51)) (fun _ hk => hk.2) (.slice Ao52 t336.length co52)) (fun _ hk => hk.2) (.slice Ao53 t339.length co53)) (fun _ hk => hk.2) (.int .i64 t342)) (fun _ h_ => h_.1))) hb); have n4_ := Aside0.mk (Kd.R_below (by (with_reducible repeat (first | apply Kd.R_alloc | apply Kd.R_drewN | apply Kd.R_drew)); exact (Kd.R_mono (Kd.R_far (p := ⟨gb343, 7, none⟩) (Kd.R_far (p := ⟨gb343, 6, none⟩) (Kd.R_far (p := ⟨gb343, 5, none⟩) (Kd.R_far (p := ⟨gb343, 4, none⟩) (Kd.R_far (p := ⟨gb343, 3, none⟩) (Kd.R_far (p := ⟨gb343, 2, none⟩) (Kd.R_far (p := ⟨gb343, 1, none⟩) (Kd.R_far (p := ⟨gb343, 0, none⟩) (Kd.R_types HO332.out BK343.out (by decide)) (fun _ hk => hk.2) (.int .i64 t327)) (fun _ hk => hk.2) (.int .i64 t328)) (fun _ hk => hk.2) (.int .i64 t329)) (fun _ hk => hk.2) (.slice Ao50 t330.length co50)) (fun _ hk => hk.2) (.slice Ao51 t333.length co51)) (fun _ hk => hk.2) (.slice Ao52 t336.length co52)) (fun _ hk => hk.2) (.slice Ao53 t339.length co53)) (fun _ hk => hk.2) (.int .i64 t342)) (fun _ h_ => h_.1))) hb); have n5_ := Aside0.mk (Kd.R_below (by (with_reducible repeat (first | apply Kd.R_alloc | apply Kd.R_drewN | apply Kd.R_drew)); exact (Kd.R_mono (Kd.R_far (p := ⟨gb343, 7, none⟩) (Kd.R_far (p := ⟨gb343, 6, none⟩) (Kd.R_far (p := ⟨gb343, 5, none⟩) (Kd.R_far (p := ⟨gb343, 4, none⟩) (Kd.R_far (p := ⟨gb343, 3, none⟩) (Kd.R_far (p := ⟨gb343, 2, none⟩) (Kd.R_far (p := ⟨gb343, 1, none⟩) (Kd.R_far (p := ⟨gb343, 0, none⟩) (Kd.R_types HO335.out BK343.out (by decide)) (fun _ hk => hk.2) (.int .i64 t327)) (fun _ hk => hk.2) (.int .i64 t328)) (fun _ hk => hk.2) (.int .i64 t329)) (fun _ hk => hk.2) (.slice Ao50 t330.length co50)) (fun _ hk => hk.2) (.slice Ao51 t333.length co51)) (fun _ hk => hk.2) (.slice Ao52 t336.length co52)) (fun _ hk => hk.2) (.slice Ao53 t339.length co53)) (fun _ hk => hk.2) (.int .i64 t342)) (fun _ h_ => h_.1))) hb); have n6_ := Aside0.mk (Kd.R_below (by (with_reducible repeat (first | apply Kd.R_alloc | apply Kd.R_drewN | apply Kd.R_drew)); exact (Kd.R_mono (Kd.R_far (p := ⟨gb343, 7, none⟩) (Kd.R_far (p := ⟨gb343, 6, none⟩) (Kd.R_far (p := ⟨gb343, 5, none⟩) (Kd.R_far (p := ⟨gb343, 4, none⟩) (Kd.R_far (p := ⟨gb343, 3, none⟩) (Kd.R_far (p := ⟨gb343, 2, none⟩) (Kd.R_far (p := ⟨gb343, 1, none⟩) (Kd.R_far (p := ⟨gb343, 0, none⟩) (Kd.R_types HO338.out BK343.out (by decide)) (fun _ hk => hk.2) (.int .i64 t327)) (fun _ hk => hk.2) (.int .i64 t328)) (fun _ hk => hk.2) (.int .i64 t329)) (fun _ hk => hk.2) (.slice Ao50 t330.length co50)) (fun _ hk => hk.2) (.slice Ao51 t333.length co51)) (fun _ hk => hk.2) (.slice Ao52 t336.length co52)) (fun _ hk => hk.2) (.slice Ao53 t339.length co53)) (fun _ hk => hk.2) (.int .i64 t342)) (fun _ h_ => h_.1))) hb); have n7_ := Aside0.mk (Kd.R_below (by (with_reducible repeat (first | apply Kd.R_alloc | apply Kd.R_drewN | apply Kd.R_drew)); exact (Kd.R_mono (Kd.R_far (p := ⟨gb343, 7, none⟩) (Kd.R_far (p := ⟨gb343, 6, none⟩) (Kd.R_far (p := ⟨gb343, 5, none⟩) (Kd.R_far (p := ⟨gb343, 4, none⟩) (Kd.R_far (p := ⟨gb343, 3, none⟩) (Kd.R_far (p := ⟨gb343, 2, none⟩) (Kd.R_far (p := ⟨gb343, 1, none⟩) (Kd.R_far (p := ⟨gb343, 0, none⟩) (Kd.R_types HO341.out BK343.out (by decide)) (fun _ hk => hk.2) (.int .i64 t327)) (fun _ hk => hk.2) (.int .i64 t328)) (fun _ hk => hk.2) (.int .i64 t329)) (fun _ hk => hk.2) (.slice Ao50 t330.length co50)) (fun _ hk => hk.2) (.slice Ao51 t333.length co51)) (fun _ hk => hk.2) (.slice Ao52 t336.length co52)) (fun _ hk => hk.2) (.slice Ao53 t339.length co53)) (fun _ hk => hk.2) (.int .i64 t342)) (fun _ h_ => h_.1))) hb); have n8_ := Aside0.mk (blk_below (g := gb308) (o := .cells #[.int .i64 a0_0, .int .i64 a0_1, .int .i64 a0_2, .slice A0_3 l0_3.length c0_3, .slice A0_4 l0_4.length c0_4, .slice A0_5 l0_5.length c0_5, .slice A0_6 l0_6.length c0_6, .int .i64 a0_7] 60 (0, 0)) (by (with_reducible repeat (first | refine blk_drewN ?_ _ | refine blk_drew ?_ | refine blk_alloc ?_ _)); refine blk_far ?_ NB308_343.out _; (with_reducible repeat (first | refine blk_drewN ?_ _ | refine blk_drew ?_ | refine blk_alloc ?_ _)); refine blk_far ?_ NB308_343.out _; (with_reducible repeat (first | refine blk_drewN ?_ _ | refine blk_drew ?_ | refine blk_alloc ?_ _)); refine blk_far ?_ NB308_343.out _; (with_reducible repeat (first | refine blk_drewN ?_ _ | refine blk_drew ?_ | refine blk_alloc ?_ _)); refine blk_far ?_ NB308_343.out _; (with_reducible repeat (first | refine blk_drewN ?_ _ | refine blk_drew ?_ | refine blk_alloc ?_ _)); refine blk_far ?_ NB308_343.out _; (with_reducible repeat (first | refine blk_drewN ?_ _ | refine blk_drew ?_ | refine blk_alloc ?_ _)); refine blk_far ?_ NB308_343.out _; (with_reducible repeat (first | refine blk_drewN ?_ _ | refine blk_drew ?_ | refine blk_alloc ?_ _)); refine blk_far ?_ NB308_343.out _; (with_reducible repeat (first | refine blk_drewN ?_ _ | refine blk_drew ?_ | refine blk_alloc ?_ _)); refine blk_far ?_ NB308_343.out _; (with_reducible repeat (first | refine blk_drewN ?_ _ | refine blk_drew ?_ | refine blk_alloc ?_ _)); exact BK308.out) hb); have n9_ := Aside0.mk (blk_below (g := gb343) (o := .cells #[.int .i64 t327, .int .i64 t328, .int .i64 t329, .slice Ao50 t330.length co50, .slice Ao51 t333.length co51, .slice Ao52 t336.length co52, .slice Ao53 t339.length co53, .int .i64 t342] 66 (0, 0)) (by (with_reducible repeat (first | refine blk_drewN ?_ _ | refine blk_drew ?_ | refine blk_alloc ?_ _)); refine blk_put (cs := #[.int .i64 t327, .int .i64 t328, .int .i64 t329, .slice Ao50 t330.length co50, .slice Ao51 t333.length co51, .slice Ao52 t336.length co52, .slice Ao53 t339.length co53, .int .i64 0]) ?_ 7 _ rfl; (with_reducible repeat (first | refine blk_drewN ?_ _ | refine blk_drew ?_ | refine blk_alloc ?_ _)); refine blk_put (cs := #[.int .i64 t327, .int .i64 t328, .int .i64 t329, .slice Ao50 t330.length co50, .slice Ao51 t333.length co51, .slice Ao52 t336.length co52, .slice none 0 0, .int .i64 0]) ?_ 6 _ rfl; (with_reducible repeat (first | refine blk_drewN ?_ _ | refine blk_drew ?_ | refine blk_alloc ?_ _)); refine blk_put (cs := #[.int .i64 t327, .int .i64 t328, .int .i64 t329, .slice Ao50 t330.length co50, .slice Ao51 t333.length co51, .slice none 0 0, .slice none 0 0, .int .i64 0]) ?_ 5 _ rfl; (with_reducible repeat (first | refine blk_drewN ?_ _ | refine blk_drew ?_ | refine blk_alloc ?_ _)); refine blk_put (cs := #[.int .i64 t327, .int .i64 t328, .int .i64 t329, .slice Ao50 t330.length co50, .slice none 0 0, .slice none 0 0, .slice none 0 0, .int .i64 0]) ?_ 4 _ rfl; (with_reducible repeat (first | refine blk_drewN ?_ _ | refine blk_drew ?_ | refine blk_alloc ?_ _)); refine blk_put (cs := #[.int .i64 t327, .int .i64 t328, .int .i64 t329, .slice none 0 0, .slice none 0 0, .slice none 0 0, .slice none 0 0, .int .i64 0]) ?_ 3 _ rfl; (with_reducible repeat (first | refine blk_drewN ?_ _ | refine blk_drew ?_ | refine blk_alloc ?_ _)); refine blk_put (cs := #[.int .i64 t327, .int .i64 t328, .int .i64 0, .slice none 0 0, .slice none 0 0, .slice none 0 0, .slice none 0 0, .int .i64 0]) ?_ 2 _ rfl; (with_reducible repeat (first | refine blk_drewN ?_ _ | refine blk_drew ?_ | refine blk_alloc ?_ _)); refine blk_put (cs := #[.int .i64 t327, .int .i64 0, .int .i64 0, .slice none 0 0, .slice none 0 0, .slice none 0 0, .slice none 0 0, .int .i64 0]) ?_ 1 _ rfl; (with_reducible repeat (first | refine blk_drewN ?_ _ | refine blk_drew ?_ | refine blk_alloc ?_ _)); refine blk_put (cs := #[.int .i64 0, .int .i64 0, .int .i64 0, .slice none 0 0, .slice none 0 0, .slice none 0 0, .slice none 0 0, .int .i64 0]) ?_ 0 _ rfl; (with_reducible repeat (first | refine blk_drewN ?_ _ | refine blk_drew ?_ | refine blk_alloc ?_ _)); exact BK343.out) hb); have n10_ := Aside0.mk (below_step hb_ hb); clear HO315; clear HO318; clear HO321; clear HO324; clear HO332; clear HO335; clear HO338; clear HO341; clear BK308; clear BK343; clear HB; have HO315 := n0_; have HO318 := n1_; have HO321 := n2_; have HO324 := n3_; have HO332 := n4_; have HO335 := n5_; have HO338 := n6_; have HO341 := n7_; have BK308 := n8_; have BK343 := n9_; have HB := n10_; clear n0_ n1_ n2_ n3_ n4_ n5_ n6_ n7_ n8_ n9_ n10_; (try clear hb); (try clear hb2); (try clear hk); (try clear hi)))
        have n0_ := Aside0.mk (Kd.R_drew HO315.out)
        have n1_ := Aside0.mk (Kd.R_drew HO318.out)
        have n2_ := Aside0.mk (Kd.R_drew HO321.out)
        have n3_ := Aside0.mk (Kd.R_drew HO324.out)
        have n4_ := Aside0.mk (Kd.R_drew HO332.out)
        have n5_ := Aside0.mk (Kd.R_drew HO335.out)
        have n6_ := Aside0.mk (Kd.R_drew HO338.out)
        have n7_ := Aside0.mk (Kd.R_drew HO341.out)
        have n8_ := Aside0.mk (blk_drew BK308.out)
        have n9_ := Aside0.mk (blk_drew BK343.out)
        have n10_ := Aside0.mk (below_drew1 HB.out)
        clear HO315
        clear HO318
        clear HO321
        clear HO324
        clear HO332
        clear HO335
        clear HO338
        clear HO341
        clear BK308
        clear BK343
        clear HB
        have HO315 := n0_
        have HO318 := n1_
        have HO321 := n2_
        have HO324 := n3_
        have HO332 := n4_
        have HO335 := n5_
        have HO338 := n6_
        have HO341 := n7_
        have BK308 := n8_
        have BK343 := n9_
        have HB := n10_
        clear n0_ n1_ n2_ n3_ n4_ n5_ n6_ n7_ n8_ n9_ n10_
        refine start_ (n := 5) (S := fun w' => w'.cell? ⟨gb343, 0, none⟩ = some (.int .i64 t327) ∧ w'.cell? ⟨gb343, 1, none⟩ = some (.int .i64 t328) ∧ w'.cell? ⟨gb343, 2, none⟩ = some (.int .i64 t329) ∧ w'.cell? ⟨gb343, 3, none⟩ = some (.slice Ao50 t330.length co50) ∧ w'.cell? ⟨gb343, 4, none⟩ = some (.slice Ao51 t333.length co51) ∧ w'.cell? ⟨gb343, 5, none⟩ = some (.slice Ao52 t336.length co52) ∧ w'.cell? ⟨gb343, 6, none⟩ = some (.slice Ao53 t339.length co53) ∧ w'.cell? ⟨gb343, 7, none⟩ = some (.int .i64 t342) ∧ w'.cell? ⟨gb308, 0, none⟩ = some (.int .i64 a0_0) ∧ w'.cell? ⟨gb308, 1, none⟩ = some (.int .i64 a0_1) ∧ w'.cell? ⟨gb308, 2, none⟩ = some (.int .i64 a0_2) ∧ w'.cell? ⟨gb308, 3, none⟩ = some (.slice A0_3 l0_3.length c0_3) ∧ w'.cell? ⟨gb308, 4, none⟩ = some (.slice A0_4 l0_4.length c0_4) ∧ w'.cell? ⟨gb308, 5, none⟩ = some (.slice A0_5 l0_5.length c0_5) ∧ w'.cell? ⟨gb308, 6, none⟩ = some (.slice A0_6 l0_6.length c0_6) ∧ w'.cell? ⟨gb308, 7, none⟩ = some (.int .i64 a0_7)) (ds := []) #[false, false, false, false, false] (by kernel_rfl) rfl rfl ⟨(blk_cell BK343.out 0).trans rfl, (blk_cell BK343.out 1).trans rfl, (blk_cell BK343.out 2).trans rfl, (blk_cell BK343.out 3).trans rfl, (blk_cell BK343.out 4).trans rfl, (blk_cell BK343.out 5).trans rfl, (blk_cell BK343.out 6).trans rfl, (blk_cell BK343.out 7).trans rfl, (blk_cell BK308.out 0).trans rfl, (blk_cell BK308.out 1).trans rfl, (blk_cell BK308.out 2).trans rfl, (blk_cell BK308.out 3).trans rfl, (blk_cell BK308.out 4).trans rfl, (blk_cell BK308.out 5).trans rfl, (blk_cell BK308.out 6).trans rfl, (blk_cell BK308.out 7).trans rfl⟩ (fun hHeld => ?_)
        generalize w54.drew = w55 at HO315 HO318 HO321 HO324 HO332 HO335 HO338 HO341 BK308 BK343 HB hHeld ⊢
        refine take_ (i := 0) (N := some 22) (v := ?_) (a' := ?_) #[true, false, false, false, false] rfl rfl (by kernel_rfl) (fun _ _ _ h => h) (Or.inl ⟨by rfl, ?_⟩) hHeld ?_ ?_
        rotate_left
        · rintro w' ⟨s0, s1, s2, s3, s4, s5, s6, s7, s8, s9, s10, s11, s12, s13, s14, s15⟩
          go_simp
          with_reducible rfl
        rotate_left
        · simp only [Act.put, List.setIfInBounds_toArray, List.set_cons_zero, List.set_cons_succ, i64_w, i32_w]
          rfl
        refine take_ (i := 1) (N := some 23) (v := ?_) (a' := ?_) #[true, true, false, false, false] rfl rfl (by kernel_rfl) (fun _ _ _ h => h) (Or.inl ⟨by rfl, ?_⟩) hHeld ?_ ?_
        rotate_left
        · rintro w' ⟨s0, s1, s2, s3, s4, s5, s6, s7, s8, s9, s10, s11, s12, s13, s14, s15⟩
          go_simp
          with_reducible rfl
        rotate_left
        · simp only [Act.put, List.setIfInBounds_toArray, List.set_cons_zero, List.set_cons_succ, i64_w, i32_w]
          rfl
        refine one_ (i := 2) (N := some 24) #[true, true, true, false, false] rfl rfl (by kernel_rfl) (by decide) (fun K hK => ?_)
        refine goes_ Try.func41 (by kernel_rfl) rfl #[.agg #[.int .i64 a0_0, .int .i64 a0_1, .int .i64 a0_2, .slice A0_3 l0_3.length c0_3, .slice A0_4 l0_4.length c0_4, .slice A0_5 l0_5.length c0_5, .slice A0_6 l0_6.length c0_6, .int .i64 a0_7]] (by rfl) rfl rfl la_ ?_
        with_reducible refine (laws_toPackage.calls k a0_0 a0_1 a0_2 _ _ l0_3 _ _ l0_4 _ _ l0_5 _ _ l0_6 a0_7 t345 t346 t347 t348 t351 t354 t357 t360 _ ?side1 ?side2 ?side3 ?side4 ?side5 ?side6 ?side7 ?side8 A32.out).mono ?_
        (case side1 => repeat (first | exact (Kd.C_below HR0_3.out HB.out) | (with_reducible refine Kd.C_alloc ?_ _) | (with_reducible refine Kd.C_drewN ?_ _) | (with_reducible refine Kd.C_drew ?_)))
        (case side2 => exact HC0_3.out)
        (case side3 => repeat (first | exact (Kd.C_below HR0_4.out HB.out) | (with_reducible refine Kd.C_alloc ?_ _) | (with_reducible refine Kd.C_drewN ?_ _) | (with_reducible refine Kd.C_drew ?_)))
        (case side4 => exact HC0_4.out)
        (case side5 => repeat (first | exact (Kd.C_below HR0_5.out HB.out) | (with_reducible refine Kd.C_alloc ?_ _) | (with_reducible refine Kd.C_drewN ?_ _) | (with_reducible refine Kd.C_drew ?_)))
        (case side6 => exact HC0_5.out)
        (case side7 => repeat (first | exact (Kd.C_below HR0_6.out HB.out) | (with_reducible refine Kd.C_alloc ?_ _) | (with_reducible refine Kd.C_drewN ?_ _) | (with_reducible refine Kd.C_drew ?_)))
        (case side8 => exact HC0_6.out)
        rintro e w56 ⟨v349, v352, v355, v358, rfl, ho0, ho1, ho2, ho3, hb⟩
        refine ⟨_, rfl, ?_⟩
        have n0_ := Aside0.mk (Kd.R_elder' (by (with_reducible repeat (first | apply Kd.R_alloc | apply Kd.R_drewN | apply Kd.R_drew)); exact HO315.out) (Kd.R_base ho0) hb)
        have n1_ := Aside0.mk (Kd.R_elder' (by (with_reducible repeat (first | apply Kd.R_alloc | apply Kd.R_drewN | apply Kd.R_drew)); exact HO318.out) (Kd.R_base ho1) hb)
        have n2_ := Aside0.mk (Kd.R_elder' (by (with_reducible repeat (first | apply Kd.R_alloc | apply Kd.R_drewN | apply Kd.R_drew)); exact HO321.out) (Kd.R_base ho2) hb)
        have n3_ := Aside0.mk (Kd.R_elder' (by (with_reducible repeat (first | apply Kd.R_alloc | apply Kd.R_drewN | apply Kd.R_drew)); exact HO324.out) (Kd.R_base ho3) hb)
        have n4_ := Aside0.mk (Kd.R_elder' (by (with_reducible repeat (first | apply Kd.R_alloc | apply Kd.R_drewN | apply Kd.R_drew)); exact HO332.out) (Kd.R_base ho0) hb)
        have n5_ := Aside0.mk (Kd.R_elder' (by (with_reducible repeat (first | apply Kd.R_alloc | apply Kd.R_drewN | apply Kd.R_drew)); exact HO335.out) (Kd.R_base ho1) hb)
        have n6_ := Aside0.mk (Kd.R_elder' (by (with_reducible repeat (first | apply Kd.R_alloc | apply Kd.R_drewN | apply Kd.R_drew)); exact HO338.out) (Kd.R_base ho2) hb)
        have n7_ := Aside0.mk (Kd.R_elder' (by (with_reducible repeat (first | apply Kd.R_alloc | apply Kd.R_drewN | apply Kd.R_drew)); exact HO341.out) (Kd.R_base ho3) hb)
        have n8_ := Aside0.mk (Kd.R_lower (Kd.R_new' (Kd.R_new' ho0 (Kd.R_lt (by (with_reducible repeat (first | apply Kd.R_alloc | apply Kd.R_drewN | apply Kd.R_drew)); exact HO315.out))) (Kd.R_lt (by (with_reducible repeat (first | apply Kd.R_alloc | apply Kd.R_drewN | apply Kd.R_drew)); exact HO332.out))) (below_size hb_))
        have n9_ := Aside0.mk (Kd.R_lower (Kd.R_new' (Kd.R_new' ho1 (Kd.R_lt (by (with_reducible repeat (first | apply Kd.R_alloc | apply Kd.R_drewN | apply Kd.R_drew)); exact HO318.out))) (Kd.R_lt (by (with_reducible repeat (first | apply Kd.R_alloc | apply Kd.R_drewN | apply Kd.R_drew)); exact HO335.out))) (below_size hb_))
        have n10_ := Aside0.mk (Kd.R_lower (Kd.R_new' (Kd.R_new' ho2 (Kd.R_lt (by (with_reducible repeat (first | apply Kd.R_alloc | apply Kd.R_drewN | apply Kd.R_drew)); exact HO321.out))) (Kd.R_lt (by (with_reducible repeat (first | apply Kd.R_alloc | apply Kd.R_drewN | apply Kd.R_drew)); exact HO338.out))) (below_size hb_))
        have n11_ := Aside0.mk (Kd.R_lower (Kd.R_new' (Kd.R_new' ho3 (Kd.R_lt (by (with_reducible repeat (first | apply Kd.R_alloc | apply Kd.R_drewN | apply Kd.R_drew)); exact HO324.out))) (Kd.R_lt (by (with_reducible repeat (first | apply Kd.R_alloc | apply Kd.R_drewN | apply Kd.R_drew)); exact HO341.out))) (below_size hb_))
        have n12_ := Aside0.mk (blk_below (g := gb308) bk_ hb)
        have n13_ := Aside0.mk (blk_below (g := gb343) bk_ hb)
        have n14_ := Aside0.mk (below_step hb_ hb)
        clear HO315
        clear HO318
        clear HO321
        clear HO324
        clear HO332
        clear HO335
        clear HO338
        clear HO341
        clear BK308
        clear BK343
        clear HB
        have HO315 := n0_
        have HO318 := n1_
        have HO321 := n2_
        have HO324 := n3_
        have HO332 := n4_
        have HO335 := n5_
        have HO338 := n6_
        have HO341 := n7_
        have HO350 := n8_
        have HO353 := n9_
        have HO356 := n10_
        have HO359 := n11_
        have BK308 := n12_
        have BK343 := n13_
        have HB := n14_
        clear n0_ n1_ n2_ n3_ n4_ n5_ n6_ n7_ n8_ n9_ n10_ n11_ n12_ n13_ n14_
        (try clear hb)
        (try clear hb2)
        (try clear hk)
        (try clear hi)
        (try clear ho0)
        (try clear ho1)
        (try clear ho2)
        (try clear ho3)
        obtain ⟨Ao57, co57, eo57⟩ := Kd.R_slice HO350.out
        (first | subst eo57 | (injection eo57 with f1_ f2_ f3_; have f4_ := f1_.symm; have f5_ := f3_.symm; clear f1_ f2_ f3_; subst f4_; subst f5_))
        obtain ⟨Ao58, co58, eo58⟩ := Kd.R_slice HO353.out
        (first | subst eo58 | (injection eo58 with f1_ f2_ f3_; have f4_ := f1_.symm; have f5_ := f3_.symm; clear f1_ f2_ f3_; subst f4_; subst f5_))
        obtain ⟨Ao59, co59, eo59⟩ := Kd.R_slice HO356.out
        (first | subst eo59 | (injection eo59 with f1_ f2_ f3_; have f4_ := f1_.symm; have f5_ := f3_.symm; clear f1_ f2_ f3_; subst f4_; subst f5_))
        obtain ⟨Ao60, co60, eo60⟩ := Kd.R_slice HO359.out
        (first | subst eo60 | (injection eo60 with f1_ f2_ f3_; have f4_ := f1_.symm; have f5_ := f3_.symm; clear f1_ f2_ f3_; subst f4_; subst f5_))
        refine hK.out _ _ ⟨(blk_cell BK343.out 0).trans rfl, (blk_cell BK343.out 1).trans rfl, (blk_cell BK343.out 2).trans rfl, (blk_cell BK343.out 3).trans rfl, (blk_cell BK343.out 4).trans rfl, (blk_cell BK343.out 5).trans rfl, (blk_cell BK343.out 6).trans rfl, (blk_cell BK343.out 7).trans rfl, (blk_cell BK308.out 0).trans rfl, (blk_cell BK308.out 1).trans rfl, (blk_cell BK308.out 2).trans rfl, (blk_cell BK308.out 3).trans rfl, (blk_cell BK308.out 4).trans rfl, (blk_cell BK308.out 5).trans rfl, (blk_cell BK308.out 6).trans rfl, (blk_cell BK308.out 7).trans rfl⟩ (fun hHeld => ?_)
        clear hK K
        refine norm_ (a' := ?_) ?_ ?_
        rotate_left
        · show Act.put _ (some 24) _ = _
          simp only [Act.put, List.setIfInBounds_toArray, List.set_cons_zero, List.set_cons_succ, i64_w, i32_w]
          rfl
        refine one_ (i := 3) (N := some 25) #[true, true, true, true, false] rfl rfl (by kernel_rfl) (by decide) (fun K hK => ?_)
        refine goes_ Try.func43 (by kernel_rfl) rfl #[.agg #[.int .i64 t327, .int .i64 t328, .int .i64 t329, .slice Ao50 t330.length co50, .slice Ao51 t333.length co51, .slice Ao52 t336.length co52, .slice Ao53 t339.length co53, .int .i64 t342], .agg #[.int .i64 t345, .int .i64 t346, .int .i64 t347, .slice Ao57 t348.length co57, .slice Ao58 t351.length co58, .slice Ao59 t354.length co59, .slice Ao60 t357.length co60, .int .i64 t360]] (by rfl) rfl rfl la_ ?_
        with_reducible refine (laws_eqPackage.calls k t327 t328 t329 _ _ t330 _ _ t333 _ _ t336 _ _ t339 t342 t345 t346 t347 _ _ t348 _ _ t351 _ _ t354 _ _ t357 t360 true _ ?side1 ?side2 ?side3 ?side4 ?side5 ?side6 ?side7 ?side8 ?side9 ?side10 ?side11 ?side12 ?side13 ?side14 ?side15 ?side16 A33.out).mono ?_
        (case side1 => repeat (first | exact (Kd.R_reads' HO332.out).2.2 | (with_reducible refine Kd.C_alloc ?_ _) | (with_reducible refine Kd.C_drewN ?_ _) | (with_reducible refine Kd.C_drew ?_)))
        (case side2 => exact (Kd.R_reads' HO332.out).2.1)
        (case side3 => repeat (first | exact (Kd.R_reads' HO335.out).2.2 | (with_reducible refine Kd.C_alloc ?_ _) | (with_reducible refine Kd.C_drewN ?_ _) | (with_reducible refine Kd.C_drew ?_)))
        (case side4 => exact (Kd.R_reads' HO335.out).2.1)
        (case side5 => repeat (first | exact (Kd.R_reads' HO338.out).2.2 | (with_reducible refine Kd.C_alloc ?_ _) | (with_reducible refine Kd.C_drewN ?_ _) | (with_reducible refine Kd.C_drew ?_)))
        (case side6 => exact (Kd.R_reads' HO338.out).2.1)
        (case side7 => repeat (first | exact (Kd.R_reads' HO341.out).2.2 | (with_reducible refine Kd.C_alloc ?_ _) | (with_reducible refine Kd.C_drewN ?_ _) | (with_reducible refine Kd.C_drew ?_)))
        (case side8 => exact (Kd.R_reads' HO341.out).2.1)
        (case side9 => repeat (first | exact (Kd.R_reads' HO350.out).2.2 | (with_reducible refine Kd.C_alloc ?_ _) | (with_reducible refine Kd.C_drewN ?_ _) | (with_reducible refine Kd.C_drew ?_)))
        (case side10 => exact (Kd.R_reads' HO350.out).2.1)
        (case side11 => repeat (first | exact (Kd.R_reads' HO353.out).2.2 | (with_reducible refine Kd.C_alloc ?_ _) | (with_reducible refine Kd.C_drewN ?_ _) | (with_reducible refine Kd.C_drew ?_)))
        (case side12 => exact (Kd.R_reads' HO353.out).2.1)
        (case side13 => repeat (first | exact (Kd.R_reads' HO356.out).2.2 | (with_reducible refine Kd.C_alloc ?_ _) | (with_reducible refine Kd.C_drewN ?_ _) | (with_reducible refine Kd.C_drew ?_)))
        (case side14 => exact (Kd.R_reads' HO356.out).2.1)
        (case side15 => repeat (first | exact (Kd.R_reads' HO359.out).2.2 | (with_reducible refine Kd.C_alloc ?_ _) | (with_reducible refine Kd.C_drewN ?_ _) | (with_reducible refine Kd.C_drew ?_)))
        (case side16 => exact (Kd.R_reads' HO359.out).2.1)
        rintro e w61 ⟨rfl, hb⟩
        refine ⟨_, rfl, ?_⟩
        have n0_ := Aside0.mk (Kd.R_below (by (with_reducible repeat (first | apply Kd.R_alloc | apply Kd.R_drewN | apply Kd.R_drew)); exact HO315.out) hb)
        have n1_ := Aside0.mk (Kd.R_below (by (with_reducible repeat (first | apply Kd.R_alloc | apply Kd.R_drewN | apply Kd.R_drew)); exact HO318.out) hb)
        have n2_ := Aside0.mk (Kd.R_below (by (with_reducible repeat (first | apply Kd.R_alloc | apply Kd.R_drewN | apply Kd.R_drew)); exact HO321.out) hb)
        have n3_ := Aside0.mk (Kd.R_below (by (with_reducible repeat (first | apply Kd.R_alloc | apply Kd.R_drewN | apply Kd.R_drew)); exact HO324.out) hb)
        have n4_ := Aside0.mk (Kd.R_below (by (with_reducible repeat (first | apply Kd.R_alloc | apply Kd.R_drewN | apply Kd.R_drew)); exact HO332.out) hb)
        have n5_ := Aside0.mk (Kd.R_below (by (with_reducible repeat (first | apply Kd.R_alloc | apply Kd.R_drewN | apply Kd.R_drew)); exact HO335.out) hb)
        have n6_ := Aside0.mk (Kd.R_below (by (with_reducible repeat (first | apply Kd.R_alloc | apply Kd.R_drewN | apply Kd.R_drew)); exact HO338.out) hb)
        have n7_ := Aside0.mk (Kd.R_below (by (with_reducible repeat (first | apply Kd.R_alloc | apply Kd.R_drewN | apply Kd.R_drew)); exact HO341.out) hb)
        have n8_ := Aside0.mk (Kd.R_below (by (with_reducible repeat (first | apply Kd.R_alloc | apply Kd.R_drewN | apply Kd.R_drew)); exact HO350.out) hb)
        have n9_ := Aside0.mk (Kd.R_below (by (with_reducible repeat (first | apply Kd.R_alloc | apply Kd.R_drewN | apply Kd.R_drew)); exact HO353.out) hb)
        have n10_ := Aside0.mk (Kd.R_below (by (with_reducible repeat (first | apply Kd.R_alloc | apply Kd.R_drewN | apply Kd.R_drew)); exact HO356.out) hb)
        have n11_ := Aside0.mk (Kd.R_below (by (with_reducible repeat (first | apply Kd.R_alloc | apply Kd.R_drewN | apply Kd.R_drew)); exact HO359.out) hb)
        have n12_ := Aside0.mk (blk_below (g := gb308) bk_ hb)
        have n13_ := Aside0.mk (blk_below (g := gb343) bk_ hb)
        have n14_ := Aside0.mk (below_step hb_ hb)
        clear HO315
        clear HO318
        clear HO321
        clear HO324
        clear HO332
        clear HO335
        clear HO338
        clear HO341
        clear HO350
        clear HO353
        clear HO356
        clear HO359
        clear BK308
        clear BK343
        clear HB
        have HO315 := n0_
        have HO318 := n1_
        have HO321 := n2_
        have HO324 := n3_
        have HO332 := n4_
        have HO335 := n5_
        have HO338 := n6_
        have HO341 := n7_
        have HO350 := n8_
        have HO353 := n9_
        have HO356 := n10_
        have HO359 := n11_
        have BK308 := n12_
        have BK343 := n13_
        have HB := n14_
        clear n0_ n1_ n2_ n3_ n4_ n5_ n6_ n7_ n8_ n9_ n10_ n11_ n12_ n13_ n14_
        (try clear hb)
        (try clear hb2)
        (try clear hk)
        (try clear hi)
        refine hK.out _ _ ⟨(blk_cell BK343.out 0).trans rfl, (blk_cell BK343.out 1).trans rfl, (blk_cell BK343.out 2).trans rfl, (blk_cell BK343.out 3).trans rfl, (blk_cell BK343.out 4).trans rfl, (blk_cell BK343.out 5).trans rfl, (blk_cell BK343.out 6).trans rfl, (blk_cell BK343.out 7).trans rfl, (blk_cell BK308.out 0).trans rfl, (blk_cell BK308.out 1).trans rfl, (blk_cell BK308.out 2).trans rfl, (blk_cell BK308.out 3).trans rfl, (blk_cell BK308.out 4).trans rfl, (blk_cell BK308.out 5).trans rfl, (blk_cell BK308.out 6).trans rfl, (blk_cell BK308.out 7).trans rfl⟩ (fun hHeld => ?_)
        clear hK K
        refine norm_ (a' := ?_) ?_ ?_
        rotate_left
        · show Act.put _ (some 25) _ = _
          simp only [Act.put, List.setIfInBounds_toArray, List.set_cons_zero, List.set_cons_succ, i64_w, i32_w]
          rfl
        refine pure_ (i := 4) (N := some 26) (v := ?_) (a' := ?_) #[true, true, true, true, true] rfl rfl (by kernel_rfl) (fun _ _ _ h => h) (Or.inl ⟨by rfl, ?_⟩) ?_ ?_
        rotate_left
        · intro w'
          go_simp
          with_reducible rfl
        rotate_left
        · simp only [Act.put, List.setIfInBounds_toArray, List.set_cons_zero, List.set_cons_succ, i64_w, i32_w]
          rfl
        refine done_ (by kernel_rfl) ?_
        try go_wp2
        go_ret
        exact ⟨by first | rfl | (simp [errW_none, errW_some] <;> rfl) | (simp [*, errW_none, errW_some] <;> rfl), hb_⟩
      · replace c34 := Bool.eq_false_iff.mpr c34
        subst c34
        have H1 : (some false) = some true := by rw [if_neg (show ¬ (false = true) by decide)] at H; exact H
        clear H
        have H := H1
        clear H1
        exact absurd H (by simp)
end

end Go.Proofs.Ytmpkaooelpbeaaa.PFnExactIsPackage
