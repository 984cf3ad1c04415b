-- Laid by this session's own program (wip/gen/myprint.py) over the kit's print; turned to this claim.
import Derived.Test.YtmpkaooelpbeaaaPFnExactIsPackagex0
import Derived.Test.YtmpkaooelpbeaaaPFnExactIsPackagex1
import Derived.Test.YtmpkaooelpbeaaaPFnExactIsPackagex7
namespace Go.Proofs.Ytmpkaooelpbeaaa.PFnExactIsPackage
open Go.RowKit Go.Proofs.Ytmpkaooelpbeaaa.Short Go.Proofs.YtmpkaooelpbeaaaW.PrintWords Go.Proofs.YtmpkaooelpbeaaaW.PrintLast Go.Proofs.YtmpkaooelpbeaaaW.PrintMore
attribute [local go_sem] max2_int min2_int max_two min_two max_three min_three max_four min_four
set_option linter.unusedVariables false
set_option linter.unusedSimpArgs false
section
attribute [local go_sem high] eqA137
/-! ### impl_IsPackage: function 55 -/
mutual
def impl_IsPackage.j0 : Nat → Bool → Int → Int → Int → List (S132) → List (S120) → List (S139) → List (S46) → Int → Option (Bool)
  | 0, _, _, _, _, _, _, _, _, _ => none
  | k + 1, x42, x295000, x295001, x295002, x295003, x295004, x295005, x295006, x295007 => if x42 = true then (some false) else (impl_IsPackage.l0 k x295003 (x295003.length : Int) 0 x295000 x295001 x295002 x295003 x295004 x295005 x295006 x295007)
def impl_IsPackage.l0 : Nat → List (S132) → Int → Int → Int → Int → Int → List (S132) → List (S120) → List (S139) → List (S46) → Int → Option (Bool)
  | 0, _, _, _, _, _, _, _, _, _, _, _ => none
  | k + 1, x44, x45, x46, x295000, x295001, x295002, x295003, x295004, x295005, x295006, x295007 => if x46 < x45 then (if 0 ≤ x46 then (if x46 < (x44.length : Int) then ((impl_IsGrant.f ((rd_T132 x44 x46).f0) ((rd_T132 x44 x46).f1.f0) ((rd_T132 x44 x46).f1.f1) ((rd_T132 x44 x46).f2) ((rd_T132 x44 x46).f3) ((rd_T132 x44 x46).f4) ((rd_T132 x44 x46).f5)).bind fun t300 => (if t300 = true then (if ((rd_T132 x44 x46).f0) = x295000 then (impl_IsPackage.l0 k x44 x45 (wrap64 (x46 + 1)) x295000 x295001 x295002 x295003 x295004 x295005 x295006 x295007) else (some false)) else (some false))) else (none)) else (none)) else (impl_IsPackage.l1 k x295004 (x295004.length : Int) 0 x295000 x295001 x295002 x295003 x295004 x295005 x295006 x295007)
def impl_IsPackage.l1 : Nat → List (S120) → Int → Int → Int → Int → Int → List (S132) → List (S120) → List (S139) → List (S46) → Int → Option (Bool)
  | 0, _, _, _, _, _, _, _, _, _, _, _ => none
  | k + 1, x62, x63, x64, x295000, x295001, x295002, x295003, x295004, x295005, x295006, x295007 => if x64 < x63 then (if 0 ≤ x64 then (if x64 < (x62.length : Int) then ((impl_IsFlow.f ((rd_T120 x62 x64).f0) ((rd_T120 x62 x64).f1) ((rd_T120 x62 x64).f2)).bind fun t303 => (if t303 = true then (if ((rd_T120 x62 x64).f0) = x295000 then (impl_IsPackage.l1 k x62 x63 (wrap64 (x64 + 1)) x295000 x295001 x295002 x295003 x295004 x295005 x295006 x295007) else (some false)) else (some false))) else (none)) else (none)) else (impl_IsPackage.l2 k x295005 (x295005.length : Int) 0 x295000 x295001 x295002 x295003 x295004 x295005 x295006 x295007)
def impl_IsPackage.l2 : Nat → List (S139) → Int → Int → Int → Int → Int → List (S132) → List (S120) → List (S139) → List (S46) → Int → Option (Bool)
  | 0, _, _, _, _, _, _, _, _, _, _, _ => none
  | k + 1, x80, x81, x82, x295000, x295001, x295002, x295003, x295004, x295005, x295006, x295007 => if x82 < x81 then (if 0 ≤ x82 then (if x82 < (x80.length : Int) then ((impl_IsRule.f k ((rd_T139 x80 x82).f0) ((rd_T139 x80 x82).f1) ((rd_T139 x80 x82).f2.f0) ((rd_T139 x80 x82).f2.f1) ((rd_T139 x80 x82).f3) ((rd_T139 x80 x82).f4) ((rd_T139 x80 x82).f5.f0) ((rd_T139 x80 x82).f5.f1)).bind fun t306 => (if t306 = true then (if ((rd_T139 x80 x82).f0) = x295000 then (impl_IsPackage.l2 k x80 x81 (wrap64 (x82 + 1)) x295000 x295001 x295002 x295003 x295004 x295005 x295006 x295007) else (some false)) else (some false))) else (none)) else (none)) else ((impl_AreOps.f k x295006).bind fun t307 => (some t307))
end
def impl_IsPackage.f (k : Nat) (a0_0 : Int) (a0_1 : Int) (a0_2 : Int) (l0_3 : List (S132)) (l0_4 : List (S120)) (l0_5 : List (S139)) (l0_6 : List (S46)) (a0_7 : Int) : Option (Bool) := (impl_InRange.f a0_0 1 5).bind fun t295 => (if t295 = true then ((impl_InRange.f a0_1 1 9).bind fun t296 => (if t296 = true then ((impl_InRange.f a0_2 1 999).bind fun t297 => (if t297 = true then (if (l0_3.length : Int) > 6 then (impl_IsPackage.j0 k true a0_0 a0_1 a0_2 l0_3 l0_4 l0_5 l0_6 a0_7) else (if (l0_4.length : Int) > 6 then (impl_IsPackage.j0 k true a0_0 a0_1 a0_2 l0_3 l0_4 l0_5 l0_6 a0_7) else (impl_IsPackage.j0 k (decide ((l0_5.length : Int) > 6)) a0_0 a0_1 a0_2 l0_3 l0_4 l0_5 l0_6 a0_7))) else (impl_IsPackage.j0 k true a0_0 a0_1 a0_2 l0_3 l0_4 l0_5 l0_6 a0_7))) else (impl_IsPackage.j0 k true a0_0 a0_1 a0_2 l0_3 l0_4 l0_5 l0_6 a0_7))) else (impl_IsPackage.j0 k true a0_0 a0_1 a0_2 l0_3 l0_4 l0_5 l0_6 a0_7))
theorem impl_IsPackage.mono_l : ∀ k, (∀ y0 y1 y2 y3 y4 y5 y6 y7 y8, LeO (impl_IsPackage.j0 k y0 y1 y2 y3 y4 y5 y6 y7 y8) (impl_IsPackage.j0 (k + 1) y0 y1 y2 y3 y4 y5 y6 y7 y8)) ∧ (∀ y0 y1 y2 y3 y4 y5 y6 y7 y8 y9 y10, LeO (impl_IsPackage.l0 k y0 y1 y2 y3 y4 y5 y6 y7 y8 y9 y10) (impl_IsPackage.l0 (k + 1) y0 y1 y2 y3 y4 y5 y6 y7 y8 y9 y10)) ∧ (∀ y0 y1 y2 y3 y4 y5 y6 y7 y8 y9 y10, LeO (impl_IsPackage.l1 k y0 y1 y2 y3 y4 y5 y6 y7 y8 y9 y10) (impl_IsPackage.l1 (k + 1) y0 y1 y2 y3 y4 y5 y6 y7 y8 y9 y10)) ∧ (∀ y0 y1 y2 y3 y4 y5 y6 y7 y8 y9 y10, LeO (impl_IsPackage.l2 k y0 y1 y2 y3 y4 y5 y6 y7 y8 y9 y10) (impl_IsPackage.l2 (k + 1) y0 y1 y2 y3 y4 y5 y6 y7 y8 y9 y10))
  | 0 => ⟨fun _ _ _ _ _ _ _ _ _ r h => by simp [impl_IsPackage.j0] at h, fun _ _ _ _ _ _ _ _ _ _ _ r h => by simp [impl_IsPackage.l0] at h, fun _ _ _ _ _ _ _ _ _ _ _ r h => by simp [impl_IsPackage.l1] at h, fun _ _ _ _ _ _ _ _ _ _ _ r h => by simp [impl_IsPackage.l2] at h⟩
  | k + 1 => by
    obtain ⟨ih0, ih1, ih2, ih3⟩ := impl_IsPackage.mono_l k
    refine ⟨?_, ?_, ?_, ?_⟩
    · intro y0 y1 y2 y3 y4 y5 y6 y7 y8
      unfold impl_IsPackage.j0
      repeat' first
      | (with_reducible exact ih0 _ _ _ _ _ _ _ _ _)
      | (with_reducible exact ih1 _ _ _ _ _ _ _ _ _ _ _)
      | (with_reducible exact ih2 _ _ _ _ _ _ _ _ _ _ _)
      | (with_reducible exact ih3 _ _ _ _ _ _ _ _ _ _ _)
      | (with_reducible exact impl_AreOps.mono _ _)
      | (with_reducible exact impl_IsRule.mono _ _ _ _ _ _ _ _ _)
      | (with_reducible exact LeO.refl _)
      | (with_reducible exact LeO.none _)
      | (with_reducible refine LeO.ite ?_ ?_)
      | (with_reducible refine LeO.bind ?_ (fun _ => ?_))
      | exact ih0 _ _ _ _ _ _ _ _ _
      | exact ih1 _ _ _ _ _ _ _ _ _ _ _
      | exact ih2 _ _ _ _ _ _ _ _ _ _ _
      | exact ih3 _ _ _ _ _ _ _ _ _ _ _
      | exact impl_AreOps.mono _ _
      | exact impl_IsRule.mono _ _ _ _ _ _ _ _ _
      | exact LeO.none _
      | refine LeO.ite ?_ ?_
      | refine LeO.bind ?_ (fun _ => ?_)
    · intro y0 y1 y2 y3 y4 y5 y6 y7 y8 y9 y10
      unfold impl_IsPackage.l0
      repeat' first
      | (with_reducible exact ih0 _ _ _ _ _ _ _ _ _)
      | (with_reducible exact ih1 _ _ _ _ _ _ _ _ _ _ _)
      | (with_reducible exact ih2 _ _ _ _ _ _ _ _ _ _ _)
      | (with_reducible exact ih3 _ _ _ _ _ _ _ _ _ _ _)
      | (with_reducible exact impl_AreOps.mono _ _)
      | (with_reducible exact impl_IsRule.mono _ _ _ _ _ _ _ _ _)
      | (with_reducible exact LeO.refl _)
      | (with_reducible exact LeO.none _)
      | (with_reducible refine LeO.ite ?_ ?_)
      | (with_reducible refine LeO.bind ?_ (fun _ => ?_))
      | exact ih0 _ _ _ _ _ _ _ _ _
      | exact ih1 _ _ _ _ _ _ _ _ _ _ _
      | exact ih2 _ _ _ _ _ _ _ _ _ _ _
      | exact ih3 _ _ _ _ _ _ _ _ _ _ _
      | exact impl_AreOps.mono _ _
      | exact impl_IsRule.mono _ _ _ _ _ _ _ _ _
      | exact LeO.none _
      | refine LeO.ite ?_ ?_
      | refine LeO.bind ?_ (fun _ => ?_)
    · intro y0 y1 y2 y3 y4 y5 y6 y7 y8 y9 y10
      unfold impl_IsPackage.l1
      repeat' first
      | (with_reducible exact ih0 _ _ _ _ _ _ _ _ _)
      | (with_reducible exact ih1 _ _ _ _ _ _ _ _ _ _ _)
      | (with_reducible exact ih2 _ _ _ _ _ _ _ _ _ _ _)
      | (with_reducible exact ih3 _ _ _ _ _ _ _ _ _ _ _)
      | (with_reducible exact impl_AreOps.mono _ _)
      | (with_reducible exact impl_IsRule.mono _ _ _ _ _ _ _ _ _)
      | (with_reducible exact LeO.refl _)
      | (with_reducible exact LeO.none _)
      | (with_reducible refine LeO.ite ?_ ?_)
      | (with_reducible refine LeO.bind ?_ (fun _ => ?_))
      | exact ih0 _ _ _ _ _ _ _ _ _
      | exact ih1 _ _ _ _ _ _ _ _ _ _ _
      | exact ih2 _ _ _ _ _ _ _ _ _ _ _
      | exact ih3 _ _ _ _ _ _ _ _ _ _ _
      | exact impl_AreOps.mono _ _
      | exact impl_IsRule.mono _ _ _ _ _ _ _ _ _
      | exact LeO.none _
      | refine LeO.ite ?_ ?_
      | refine LeO.bind ?_ (fun _ => ?_)
    · intro y0 y1 y2 y3 y4 y5 y6 y7 y8 y9 y10
      unfold impl_IsPackage.l2
      repeat' first
      | (with_reducible exact ih0 _ _ _ _ _ _ _ _ _)
      | (with_reducible exact ih1 _ _ _ _ _ _ _ _ _ _ _)
      | (with_reducible exact ih2 _ _ _ _ _ _ _ _ _ _ _)
      | (with_reducible exact ih3 _ _ _ _ _ _ _ _ _ _ _)
      | (with_reducible exact impl_AreOps.mono _ _)
      | (with_reducible exact impl_IsRule.mono _ _ _ _ _ _ _ _ _)
      | (with_reducible exact LeO.refl _)
      | (with_reducible exact LeO.none _)
      | (with_reducible refine LeO.ite ?_ ?_)
      | (with_reducible refine LeO.bind ?_ (fun _ => ?_))
      | exact ih0 _ _ _ _ _ _ _ _ _
      | exact ih1 _ _ _ _ _ _ _ _ _ _ _
      | exact ih2 _ _ _ _ _ _ _ _ _ _ _
      | exact ih3 _ _ _ _ _ _ _ _ _ _ _
      | exact impl_AreOps.mono _ _
      | exact impl_IsRule.mono _ _ _ _ _ _ _ _ _
      | exact LeO.none _
      | refine LeO.ite ?_ ?_
      | refine LeO.bind ?_ (fun _ => ?_)
theorem impl_IsPackage.mono : ∀ a0 a1 a2 a3 a4 a5 a6 a7 k, LeO (impl_IsPackage.f k a0 a1 a2 a3 a4 a5 a6 a7) (impl_IsPackage.f (k + 1) a0 a1 a2 a3 a4 a5 a6 a7) := by
  intro a0 a1 a2 a3 a4 a5 a6 a7 k
  obtain ⟨ih0, ih1, ih2, ih3⟩ := impl_IsPackage.mono_l k
  unfold impl_IsPackage.f
  repeat' first
      | (with_reducible exact ih0 _ _ _ _ _ _ _ _ _)
      | (with_reducible exact ih1 _ _ _ _ _ _ _ _ _ _ _)
      | (with_reducible exact ih2 _ _ _ _ _ _ _ _ _ _ _)
      | (with_reducible exact ih3 _ _ _ _ _ _ _ _ _ _ _)
      | (with_reducible exact impl_AreOps.mono _ _)
      | (with_reducible exact impl_IsRule.mono _ _ _ _ _ _ _ _ _)
      | (with_reducible exact LeO.refl _)
      | (with_reducible exact LeO.none _)
      | (with_reducible refine LeO.ite ?_ ?_)
      | (with_reducible refine LeO.bind ?_ (fun _ => ?_))
      | exact ih0 _ _ _ _ _ _ _ _ _
      | exact ih1 _ _ _ _ _ _ _ _ _ _ _
      | exact ih2 _ _ _ _ _ _ _ _ _ _ _
      | exact ih3 _ _ _ _ _ _ _ _ _ _ _
      | exact impl_AreOps.mono _ _
      | exact impl_IsRule.mono _ _ _ _ _ _ _ _ _
      | exact LeO.none _
      | refine LeO.ite ?_ ?_
      | refine LeO.bind ?_ (fun _ => ?_)
set_option maxHeartbeats 8000000 in
set_option maxRecDepth 100000 in
theorem impl_IsPackage.calls (k : Nat) (a0_0 : Int) (a0_1 : Int) (a0_2 : Int) (A0_3 : Option Addr) (c0_3 : Nat) (l0_3 : List (S132)) (A0_4 : Option Addr) (c0_4 : Nat) (l0_4 : List (S120)) (A0_5 : Option Addr) (c0_5 : Nat) (l0_5 : List (S139)) (A0_6 : Option Addr) (c0_6 : Nat) (l0_6 : List (S46)) (a0_7 : Int) (r : Bool) (w : World) (hr0_3 : Kd.C k132 w A0_3 l0_3.length l0_3) (hc0_3 : l0_3.length ≤ c0_3) (hr0_4 : Kd.C k120 w A0_4 l0_4.length l0_4) (hc0_4 : l0_4.length ≤ c0_4) (hr0_5 : Kd.C k139 w A0_5 l0_5.length l0_5) (hc0_5 : l0_5.length ≤ c0_5) (hr0_6 : Kd.C k46 w A0_6 l0_6.length l0_6) (hc0_6 : l0_6.length ≤ c0_6) (h : impl_IsPackage.f k a0_0 a0_1 a0_2 l0_3 l0_4 l0_5 l0_6 a0_7 = some r) :
    Calls Try.prog 55 #[.agg #[.int .i64 a0_0, .int .i64 a0_1, .int .i64 a0_2, .slice A0_3 l0_3.length c0_3, .slice A0_4 l0_4.length c0_4, .slice A0_5 l0_5.length c0_5, .slice A0_6 l0_6.length c0_6, .int .i64 a0_7]] w fun e w' => e = .returned (.bool r) ∧ Below w.heap.size w w' := by
  have hu66 := Try.underlying66
  have hu132 := Try.underlying132
  have hu120 := Try.underlying120
  have hu139 := Try.underlying139
  have HR0_3 := Aside0.mk hr0_3
  have HC0_3 := Aside0.mk hc0_3
  clear hr0_3 hc0_3
  have HR0_4 := Aside0.mk hr0_4
  have HC0_4 := Aside0.mk hc0_4
  clear hr0_4 hc0_4
  have HR0_5 := Aside0.mk hr0_5
  have HC0_5 := Aside0.mk hc0_5
  clear hr0_5 hc0_5
  have HR0_6 := Aside0.mk hr0_6
  have HC0_6 := Aside0.mk hc0_6
  clear hr0_6 hc0_6
  have HB := Aside0.mk (Below.refl w.heap.size w)
  have H : ((impl_InRange.f a0_0 1 5).bind fun t295 => (if t295 = true then ((impl_InRange.f a0_1 1 9).bind fun t296 => (if t296 = true then ((impl_InRange.f a0_2 1 999).bind fun t297 => (if t297 = true then (if (l0_3.length : Int) > 6 then (impl_IsPackage.j0 k true a0_0 a0_1 a0_2 l0_3 l0_4 l0_5 l0_6 a0_7) else (if (l0_4.length : Int) > 6 then (impl_IsPackage.j0 k true a0_0 a0_1 a0_2 l0_3 l0_4 l0_5 l0_6 a0_7) else (impl_IsPackage.j0 k (decide ((l0_5.length : Int) > 6)) a0_0 a0_1 a0_2 l0_3 l0_4 l0_5 l0_6 a0_7))) else (impl_IsPackage.j0 k true a0_0 a0_1 a0_2 l0_3 l0_4 l0_5 l0_6 a0_7))) else (impl_IsPackage.j0 k true a0_0 a0_1 a0_2 l0_3 l0_4 l0_5 l0_6 a0_7))) else (impl_IsPackage.j0 k true a0_0 a0_1 a0_2 l0_3 l0_4 l0_5 l0_6 a0_7))) = some r := h
  clear h
  have HC2 := Aside0.mk H
  clear H
  go_enter Try.func55, Try.ntmps55
  go_upto_region 1 with (first | ((with_reducible refine gate_dst (N := 1) rfl ?_); (try (refine gate_guard (by rfl) ?_; dsimp only)); refine box_event ?hg (N := 1) ?hd (cs := #[.int .i64 a0_0, .int .i64 a0_1, .int .i64 a0_2, .slice A0_3 l0_3.length c0_3, .slice A0_4 l0_4.length c0_4, .slice A0_5 l0_5.length c0_5, .slice A0_6 l0_6.length c0_6, .int .i64 a0_7]) (t := 66) ?hr ?_; (case hd => rfl); (case hg => rfl); (case hr => first | (go_simp; done) | (go_simp; rfl)); intro gb294 hg w3 hbox hb; have n0_ := Aside0.mk (below_step hb_ hb); have n1_ := Aside0.mk (hbox); have n2_ := Aside0.mk ((by rw [hg]; exact (below_size hb_) : w.heap.size ≤ gb294)); have n3_ := Aside0.mk ((by rw [hg]; exact (below_size hb_) : w.heap.size ≤ gb294)); clear HB; have HB := n0_; have BK294 := n1_; have GW294 := n2_; have GE294 := n3_; clear n0_ n1_ n2_ n3_; clear hb hbox hg))
  (try simp only [Act.put, List.setIfInBounds_toArray, List.set_cons_zero, List.set_cons_succ])
  go_cut [42] (fun v42 wc => ∃ (kq : Nat) (x42_1 : Bool), v42 = .bool x42_1 ∧ Aside0 (impl_IsPackage.j0 kq x42_1 a0_0 a0_1 a0_2 l0_3 l0_4 l0_5 l0_6 a0_7 = some r) ∧ Aside0 (kq ≤ k) ∧ Aside0 (wc.heap[gb294]? = some (.cells #[.int .i64 a0_0, .int .i64 a0_1, .int .i64 a0_2, (.slice A0_3 l0_3.length c0_3), (.slice A0_4 l0_4.length c0_4), (.slice A0_5 l0_5.length c0_5), (.slice A0_6 l0_6.length c0_6), .int .i64 a0_7] 66 (0, 0))) ∧ Aside0 (Below w.heap.size w wc))
  case first =>
    have H := HC2.out
    clear HC2
    replace H := Option.bind_eq_some_iff.mp H
    obtain ⟨t295, A40, H⟩ := H
    replace H : (if t295 = true then ((impl_InRange.f a0_1 1 9).bind fun t296 => (if t296 = true then ((impl_InRange.f a0_2 1 999).bind fun t297 => (if t297 = true then (if (l0_3.length : Int) > 6 then (impl_IsPackage.j0 k true a0_0 a0_1 a0_2 l0_3 l0_4 l0_5 l0_6 a0_7) else (if (l0_4.length : Int) > 6 then (impl_IsPackage.j0 k true a0_0 a0_1 a0_2 l0_3 l0_4 l0_5 l0_6 a0_7) else (impl_IsPackage.j0 k (decide ((l0_5.length : Int) > 6)) a0_0 a0_1 a0_2 l0_3 l0_4 l0_5 l0_6 a0_7))) else (impl_IsPackage.j0 k true a0_0 a0_1 a0_2 l0_3 l0_4 l0_5 l0_6 a0_7))) else (impl_IsPackage.j0 k true a0_0 a0_1 a0_2 l0_3 l0_4 l0_5 l0_6 a0_7))) else (impl_IsPackage.j0 k true a0_0 a0_1 a0_2 l0_3 l0_4 l0_5 l0_6 a0_7)) = some r := H
    have A4 := Aside0.mk A40
    clear A40
    by_cases c5 : t295 = true
    · subst c5
      have H1 : ((impl_InRange.f a0_1 1 9).bind fun t296 => (if t296 = true then ((impl_InRange.f a0_2 1 999).bind fun t297 => (if t297 = true then (if (l0_3.length : Int) > 6 then (impl_IsPackage.j0 k true a0_0 a0_1 a0_2 l0_3 l0_4 l0_5 l0_6 a0_7) else (if (l0_4.length : Int) > 6 then (impl_IsPackage.j0 k true a0_0 a0_1 a0_2 l0_3 l0_4 l0_5 l0_6 a0_7) else (impl_IsPackage.j0 k (decide ((l0_5.length : Int) > 6)) a0_0 a0_1 a0_2 l0_3 l0_4 l0_5 l0_6 a0_7))) else (impl_IsPackage.j0 k true a0_0 a0_1 a0_2 l0_3 l0_4 l0_5 l0_6 a0_7))) else (impl_IsPackage.j0 k true a0_0 a0_1 a0_2 l0_3 l0_4 l0_5 l0_6 a0_7))) = some r := by rw [if_pos rfl] at H; exact H
      clear H
      have H := H1
      clear H1
      replace H := Option.bind_eq_some_iff.mp H
      obtain ⟨t296, A60, H⟩ := H
      replace H : (if t296 = true then ((impl_InRange.f a0_2 1 999).bind fun t297 => (if t297 = true then (if (l0_3.length : Int) > 6 then (impl_IsPackage.j0 k true a0_0 a0_1 a0_2 l0_3 l0_4 l0_5 l0_6 a0_7) else (if (l0_4.length : Int) > 6 then (impl_IsPackage.j0 k true a0_0 a0_1 a0_2 l0_3 l0_4 l0_5 l0_6 a0_7) else (impl_IsPackage.j0 k (decide ((l0_5.length : Int) > 6)) a0_0 a0_1 a0_2 l0_3 l0_4 l0_5 l0_6 a0_7))) else (impl_IsPackage.j0 k true a0_0 a0_1 a0_2 l0_3 l0_4 l0_5 l0_6 a0_7))) else (impl_IsPackage.j0 k true a0_0 a0_1 a0_2 l0_3 l0_4 l0_5 l0_6 a0_7)) = some r := H
      have A6 := Aside0.mk A60
      clear A60
      by_cases c7 : t296 = true
      · subst c7
        have H1 : ((impl_InRange.f a0_2 1 999).bind fun t297 => (if t297 = true then (if (l0_3.length : Int) > 6 then (impl_IsPackage.j0 k true a0_0 a0_1 a0_2 l0_3 l0_4 l0_5 l0_6 a0_7) else (if (l0_4.length : Int) > 6 then (impl_IsPackage.j0 k true a0_0 a0_1 a0_2 l0_3 l0_4 l0_5 l0_6 a0_7) else (impl_IsPackage.j0 k (decide ((l0_5.length : Int) > 6)) a0_0 a0_1 a0_2 l0_3 l0_4 l0_5 l0_6 a0_7))) else (impl_IsPackage.j0 k true a0_0 a0_1 a0_2 l0_3 l0_4 l0_5 l0_6 a0_7))) = some r := by rw [if_pos rfl] at H; exact H
        clear H
        have H := H1
        clear H1
        replace H := Option.bind_eq_some_iff.mp H
        obtain ⟨t297, A80, H⟩ := H
        replace H : (if t297 = true then (if (l0_3.length : Int) > 6 then (impl_IsPackage.j0 k true a0_0 a0_1 a0_2 l0_3 l0_4 l0_5 l0_6 a0_7) else (if (l0_4.length : Int) > 6 then (impl_IsPackage.j0 k true a0_0 a0_1 a0_2 l0_3 l0_4 l0_5 l0_6 a0_7) else (impl_IsPackage.j0 k (decide ((l0_5.length : Int) > 6)) a0_0 a0_1 a0_2 l0_3 l0_4 l0_5 l0_6 a0_7))) else (impl_IsPackage.j0 k true a0_0 a0_1 a0_2 l0_3 l0_4 l0_5 l0_6 a0_7)) = some r := H
        have A8 := Aside0.mk A80
        clear A80
        by_cases c9 : t297 = true
        · subst c9
          have H1 : (if (l0_3.length : Int) > 6 then (impl_IsPackage.j0 k true a0_0 a0_1 a0_2 l0_3 l0_4 l0_5 l0_6 a0_7) else (if (l0_4.length : Int) > 6 then (impl_IsPackage.j0 k true a0_0 a0_1 a0_2 l0_3 l0_4 l0_5 l0_6 a0_7) else (impl_IsPackage.j0 k (decide ((l0_5.length : Int) > 6)) a0_0 a0_1 a0_2 l0_3 l0_4 l0_5 l0_6 a0_7))) = some r := by rw [if_pos rfl] at H; exact H
          clear H
          have H := H1
          clear H1
          by_cases c10 : (l0_3.length : Int) > 6
          · rw [if_pos c10] at H
            have c10b0 : decide (6 < (l0_3.length : Int)) = true := decide_eq_true c10
            have c10b1 : decide (6 < l0_3.length) = true := decide_eq_true (by omega)
            clear c10
            (first | rw [c10b0] | (simp only [i64_w, i32_w]; rw [c10b0]) | skip)
            have H' := Aside0.mk H
            clear H
            have hcz11_0 : w3.cell? ⟨gb294, 0, none⟩ = some (.int .i64 a0_0) := (blk_cell BK294.out 0).trans rfl
            have hcz11_1 : w3.cell? ⟨gb294, 1, none⟩ = some (.int .i64 a0_1) := (blk_cell BK294.out 1).trans rfl
            have hcz11_2 : w3.cell? ⟨gb294, 2, none⟩ = some (.int .i64 a0_2) := (blk_cell BK294.out 2).trans rfl
            have hcz11_3 : w3.cell? ⟨gb294, 3, none⟩ = some (.slice A0_3 l0_3.length c0_3) := (blk_cell BK294.out 3).trans rfl
            have hcz11_4 : w3.cell? ⟨gb294, 4, none⟩ = some (.slice A0_4 l0_4.length c0_4) := (blk_cell BK294.out 4).trans rfl
            have hcz11_5 : w3.cell? ⟨gb294, 5, none⟩ = some (.slice A0_5 l0_5.length c0_5) := (blk_cell BK294.out 5).trans rfl
            have hcz11_6 : w3.cell? ⟨gb294, 6, none⟩ = some (.slice A0_6 l0_6.length c0_6) := (blk_cell BK294.out 6).trans rfl
            have hcz11_7 : w3.cell? ⟨gb294, 7, none⟩ = some (.int .i64 a0_7) := (blk_cell BK294.out 7).trans rfl
            have hfz11_0 := blk_frozen BK294.out 0
            have hfz11_1 := blk_frozen BK294.out 1
            have hfz11_2 := blk_frozen BK294.out 2
            have hfz11_3 := blk_frozen BK294.out 3
            have hfz11_4 := blk_frozen BK294.out 4
            have hfz11_5 := blk_frozen BK294.out 5
            have hfz11_6 := blk_frozen BK294.out 6
            have hfz11_7 := blk_frozen BK294.out 7
            go_wp2_with (first | ((with_reducible refine gate_callee (f := 83) rfl ?_); refine goesL_ (some 11) rfl rfl Try.func83 (by kernel_rfl) rfl #[.int .i64 a0_0, .int .i64 1, .int .i64 5] rfl la_ ?_; (with_reducible refine (impl_InRange.calls a0_0 1 5 true _ A4.out).mono ?_); rintro e w' ⟨rfl, ⟨nd, rfl⟩⟩; refine ⟨_, rfl, ?_⟩) | (go_at_call 83; (with_reducible refine (impl_InRange.calls a0_1 1 9 true _ A6.out).mono ?_); rintro e w' ⟨rfl, ⟨nd, rfl⟩⟩) | (go_at_call 83; (with_reducible refine (impl_InRange.calls a0_2 1 999 true _ A8.out).mono ?_); rintro e w' ⟨rfl, ⟨nd, rfl⟩⟩))
            go_meet
            case rel => exact ⟨_, (true), (by first | rfl | (simp; done) | (simp [*]; done)), H', ⟨by first | omega | exact Nat.le_refl _⟩, ⟨by (with_reducible repeat (first | refine blk_drewN ?_ _ | refine blk_drew ?_ | refine blk_alloc ?_ _)); exact BK294.out⟩, ⟨hb_⟩⟩
          · rw [if_neg c10] at H
            have c10b0 : decide (6 < (l0_3.length : Int)) = false := decide_eq_false c10
            have c10b1 : decide (6 < l0_3.length) = false := decide_eq_false (by omega)
            clear c10
            (first | rw [c10b0] | (simp only [i64_w, i32_w]; rw [c10b0]) | skip)
            by_cases c12 : (l0_4.length : Int) > 6
            · rw [if_pos c12] at H
              have c12b0 : decide (6 < (l0_4.length : Int)) = true := decide_eq_true c12
              have c12b1 : decide (6 < l0_4.length) = true := decide_eq_true (by omega)
              clear c12
              have H' := Aside0.mk H
              clear H
              have hcz13_0 : w3.cell? ⟨gb294, 0, none⟩ = some (.int .i64 a0_0) := (blk_cell BK294.out 0).trans rfl
              have hcz13_1 : w3.cell? ⟨gb294, 1, none⟩ = some (.int .i64 a0_1) := (blk_cell BK294.out 1).trans rfl
              have hcz13_2 : w3.cell? ⟨gb294, 2, none⟩ = some (.int .i64 a0_2) := (blk_cell BK294.out 2).trans rfl
              have hcz13_3 : w3.cell? ⟨gb294, 3, none⟩ = some (.slice A0_3 l0_3.length c0_3) := (blk_cell BK294.out 3).trans rfl
              have hcz13_4 : w3.cell? ⟨gb294, 4, none⟩ = some (.slice A0_4 l0_4.length c0_4) := (blk_cell BK294.out 4).trans rfl
              have hcz13_5 : w3.cell? ⟨gb294, 5, none⟩ = some (.slice A0_5 l0_5.length c0_5) := (blk_cell BK294.out 5).trans rfl
              have hcz13_6 : w3.cell? ⟨gb294, 6, none⟩ = some (.slice A0_6 l0_6.length c0_6) := (blk_cell BK294.out 6).trans rfl
              have hcz13_7 : w3.cell? ⟨gb294, 7, none⟩ = some (.int .i64 a0_7) := (blk_cell BK294.out 7).trans rfl
              have hfz13_0 := blk_frozen BK294.out 0
              have hfz13_1 := blk_frozen BK294.out 1
              have hfz13_2 := blk_frozen BK294.out 2
              have hfz13_3 := blk_frozen BK294.out 3
              have hfz13_4 := blk_frozen BK294.out 4
              have hfz13_5 := blk_frozen BK294.out 5
              have hfz13_6 := blk_frozen BK294.out 6
              have hfz13_7 := blk_frozen BK294.out 7
              go_wp2_with (first | ((with_reducible refine gate_callee (f := 83) rfl ?_); refine goesL_ (some 11) rfl rfl Try.func83 (by kernel_rfl) rfl #[.int .i64 a0_0, .int .i64 1, .int .i64 5] rfl la_ ?_; (with_reducible refine (impl_InRange.calls a0_0 1 5 true _ A4.out).mono ?_); rintro e w' ⟨rfl, ⟨nd, rfl⟩⟩; refine ⟨_, rfl, ?_⟩) | (go_at_call 83; (with_reducible refine (impl_InRange.calls a0_1 1 9 true _ A6.out).mono ?_); rintro e w' ⟨rfl, ⟨nd, rfl⟩⟩) | (go_at_call 83; (with_reducible refine (impl_InRange.calls a0_2 1 999 true _ A8.out).mono ?_); rintro e w' ⟨rfl, ⟨nd, rfl⟩⟩))
              go_meet
              case rel => exact ⟨_, (true), (by first | rfl | (simp; done) | (simp [*]; done)), H', ⟨by first | omega | exact Nat.le_refl _⟩, ⟨by (with_reducible repeat (first | refine blk_drewN ?_ _ | refine blk_drew ?_ | refine blk_alloc ?_ _)); exact BK294.out⟩, ⟨hb_⟩⟩
            · rw [if_neg c12] at H
              have c12b0 : decide (6 < (l0_4.length : Int)) = false := decide_eq_false c12
              have c12b1 : decide (6 < l0_4.length) = false := decide_eq_false (by omega)
              clear c12
              have H' := Aside0.mk H
              clear H
              have hcz14_0 : w3.cell? ⟨gb294, 0, none⟩ = some (.int .i64 a0_0) := (blk_cell BK294.out 0).trans rfl
              have hcz14_1 : w3.cell? ⟨gb294, 1, none⟩ = some (.int .i64 a0_1) := (blk_cell BK294.out 1).trans rfl
              have hcz14_2 : w3.cell? ⟨gb294, 2, none⟩ = some (.int .i64 a0_2) := (blk_cell BK294.out 2).trans rfl
              have hcz14_3 : w3.cell? ⟨gb294, 3, none⟩ = some (.slice A0_3 l0_3.length c0_3) := (blk_cell BK294.out 3).trans rfl
              have hcz14_4 : w3.cell? ⟨gb294, 4, none⟩ = some (.slice A0_4 l0_4.length c0_4) := (blk_cell BK294.out 4).trans rfl
              have hcz14_5 : w3.cell? ⟨gb294, 5, none⟩ = some (.slice A0_5 l0_5.length c0_5) := (blk_cell BK294.out 5).trans rfl
              have hcz14_6 : w3.cell? ⟨gb294, 6, none⟩ = some (.slice A0_6 l0_6.length c0_6) := (blk_cell BK294.out 6).trans rfl
              have hcz14_7 : w3.cell? ⟨gb294, 7, none⟩ = some (.int .i64 a0_7) := (blk_cell BK294.out 7).trans rfl
              have hfz14_0 := blk_frozen BK294.out 0
              have hfz14_1 := blk_frozen BK294.out 1
              have hfz14_2 := blk_frozen BK294.out 2
              have hfz14_3 := blk_frozen BK294.out 3
              have hfz14_4 := blk_frozen BK294.out 4
              have hfz14_5 := blk_frozen BK294.out 5
              have hfz14_6 := blk_frozen BK294.out 6
              have hfz14_7 := blk_frozen BK294.out 7
              go_wp2_with (first | ((with_reducible refine gate_callee (f := 83) rfl ?_); refine goesL_ (some 11) rfl rfl Try.func83 (by kernel_rfl) rfl #[.int .i64 a0_0, .int .i64 1, .int .i64 5] rfl la_ ?_; (with_reducible refine (impl_InRange.calls a0_0 1 5 true _ A4.out).mono ?_); rintro e w' ⟨rfl, ⟨nd, rfl⟩⟩; refine ⟨_, rfl, ?_⟩) | (go_at_call 83; (with_reducible refine (impl_InRange.calls a0_1 1 9 true _ A6.out).mono ?_); rintro e w' ⟨rfl, ⟨nd, rfl⟩⟩) | (go_at_call 83; (with_reducible refine (impl_InRange.calls a0_2 1 999 true _ A8.out).mono ?_); rintro e w' ⟨rfl, ⟨nd, rfl⟩⟩))
              go_meet
              case rel => exact ⟨_, (decide ((l0_5.length : Int) > 6)), (by first | rfl | (simp; done) | (simp [*]; done)), H', ⟨by first | omega | exact Nat.le_refl _⟩, ⟨by (with_reducible repeat (first | refine blk_drewN ?_ _ | refine blk_drew ?_ | refine blk_alloc ?_ _)); exact BK294.out⟩, ⟨hb_⟩⟩
        · replace c9 := Bool.eq_false_iff.mpr c9
          subst c9
          have H1 : (impl_IsPackage.j0 k true a0_0 a0_1 a0_2 l0_3 l0_4 l0_5 l0_6 a0_7) = some r := by rw [if_neg (show ¬ (false = true) by decide)] at H; exact H
          clear H
          have H := H1
          clear H1
          have H' := Aside0.mk H
          clear H
          have hcz15_0 : w3.cell? ⟨gb294, 0, none⟩ = some (.int .i64 a0_0) := (blk_cell BK294.out 0).trans rfl
          have hcz15_1 : w3.cell? ⟨gb294, 1, none⟩ = some (.int .i64 a0_1) := (blk_cell BK294.out 1).trans rfl
          have hcz15_2 : w3.cell? ⟨gb294, 2, none⟩ = some (.int .i64 a0_2) := (blk_cell BK294.out 2).trans rfl
          have hcz15_3 : w3.cell? ⟨gb294, 3, none⟩ = some (.slice A0_3 l0_3.length c0_3) := (blk_cell BK294.out 3).trans rfl
          have hcz15_4 : w3.cell? ⟨gb294, 4, none⟩ = some (.slice A0_4 l0_4.length c0_4) := (blk_cell BK294.out 4).trans rfl
          have hcz15_5 : w3.cell? ⟨gb294, 5, none⟩ = some (.slice A0_5 l0_5.length c0_5) := (blk_cell BK294.out 5).trans rfl
          have hcz15_6 : w3.cell? ⟨gb294, 6, none⟩ = some (.slice A0_6 l0_6.length c0_6) := (blk_cell BK294.out 6).trans rfl
          have hcz15_7 : w3.cell? ⟨gb294, 7, none⟩ = some (.int .i64 a0_7) := (blk_cell BK294.out 7).trans rfl
          have hfz15_0 := blk_frozen BK294.out 0
          have hfz15_1 := blk_frozen BK294.out 1
          have hfz15_2 := blk_frozen BK294.out 2
          have hfz15_3 := blk_frozen BK294.out 3
          have hfz15_4 := blk_frozen BK294.out 4
          have hfz15_5 := blk_frozen BK294.out 5
          have hfz15_6 := blk_frozen BK294.out 6
          have hfz15_7 := blk_frozen BK294.out 7
          go_wp2_with (first | ((with_reducible refine gate_callee (f := 83) rfl ?_); refine goesL_ (some 11) rfl rfl Try.func83 (by kernel_rfl) rfl #[.int .i64 a0_0, .int .i64 1, .int .i64 5] rfl la_ ?_; (with_reducible refine (impl_InRange.calls a0_0 1 5 true _ A4.out).mono ?_); rintro e w' ⟨rfl, ⟨nd, rfl⟩⟩; refine ⟨_, rfl, ?_⟩) | (go_at_call 83; (with_reducible refine (impl_InRange.calls a0_1 1 9 true _ A6.out).mono ?_); rintro e w' ⟨rfl, ⟨nd, rfl⟩⟩) | (go_at_call 83; (with_reducible refine (impl_InRange.calls a0_2 1 999 false _ A8.out).mono ?_); rintro e w' ⟨rfl, ⟨nd, rfl⟩⟩))
          go_meet
          case rel => exact ⟨_, (true), (by first | rfl | (simp; done) | (simp [*]; done)), H', ⟨by first | omega | exact Nat.le_refl _⟩, ⟨by (with_reducible repeat (first | refine blk_drewN ?_ _ | refine blk_drew ?_ | refine blk_alloc ?_ _)); exact BK294.out⟩, ⟨hb_⟩⟩
      · replace c7 := Bool.eq_false_iff.mpr c7
        subst c7
        have H1 : (impl_IsPackage.j0 k true a0_0 a0_1 a0_2 l0_3 l0_4 l0_5 l0_6 a0_7) = some r := by rw [if_neg (show ¬ (false = true) by decide)] at H; exact H
        clear H
        have H := H1
        clear H1
        have H' := Aside0.mk H
        clear H
        have hcz16_0 : w3.cell? ⟨gb294, 0, none⟩ = some (.int .i64 a0_0) := (blk_cell BK294.out 0).trans rfl
        have hcz16_1 : w3.cell? ⟨gb294, 1, none⟩ = some (.int .i64 a0_1) := (blk_cell BK294.out 1).trans rfl
        have hcz16_2 : w3.cell? ⟨gb294, 2, none⟩ = some (.int .i64 a0_2) := (blk_cell BK294.out 2).trans rfl
        have hcz16_3 : w3.cell? ⟨gb294, 3, none⟩ = some (.slice A0_3 l0_3.length c0_3) := (blk_cell BK294.out 3).trans rfl
        have hcz16_4 : w3.cell? ⟨gb294, 4, none⟩ = some (.slice A0_4 l0_4.length c0_4) := (blk_cell BK294.out 4).trans rfl
        have hcz16_5 : w3.cell? ⟨gb294, 5, none⟩ = some (.slice A0_5 l0_5.length c0_5) := (blk_cell BK294.out 5).trans rfl
        have hcz16_6 : w3.cell? ⟨gb294, 6, none⟩ = some (.slice A0_6 l0_6.length c0_6) := (blk_cell BK294.out 6).trans rfl
        have hcz16_7 : w3.cell? ⟨gb294, 7, none⟩ = some (.int .i64 a0_7) := (blk_cell BK294.out 7).trans rfl
        have hfz16_0 := blk_frozen BK294.out 0
        have hfz16_1 := blk_frozen BK294.out 1
        have hfz16_2 := blk_frozen BK294.out 2
        have hfz16_3 := blk_frozen BK294.out 3
        have hfz16_4 := blk_frozen BK294.out 4
        have hfz16_5 := blk_frozen BK294.out 5
        have hfz16_6 := blk_frozen BK294.out 6
        have hfz16_7 := blk_frozen BK294.out 7
        go_wp2_with (first | ((with_reducible refine gate_callee (f := 83) rfl ?_); refine goesL_ (some 11) rfl rfl Try.func83 (by kernel_rfl) rfl #[.int .i64 a0_0, .int .i64 1, .int .i64 5] rfl la_ ?_; (with_reducible refine (impl_InRange.calls a0_0 1 5 true _ A4.out).mono ?_); rintro e w' ⟨rfl, ⟨nd, rfl⟩⟩; refine ⟨_, rfl, ?_⟩) | (go_at_call 83; (with_reducible refine (impl_InRange.calls a0_1 1 9 false _ A6.out).mono ?_); rintro e w' ⟨rfl, ⟨nd, rfl⟩⟩))
        go_meet
        case rel => exact ⟨_, (true), (by first | rfl | (simp; done) | (simp [*]; done)), H', ⟨by first | omega | exact Nat.le_refl _⟩, ⟨by (with_reducible repeat (first | refine blk_drewN ?_ _ | refine blk_drew ?_ | refine blk_alloc ?_ _)); exact BK294.out⟩, ⟨hb_⟩⟩
    · replace c5 := Bool.eq_false_iff.mpr c5
      subst c5
      have H1 : (impl_IsPackage.j0 k true a0_0 a0_1 a0_2 l0_3 l0_4 l0_5 l0_6 a0_7) = some r := by rw [if_neg (show ¬ (false = true) by decide)] at H; exact H
      clear H
      have H := H1
      clear H1
      have H' := Aside0.mk H
      clear H
      have hcz17_0 : w3.cell? ⟨gb294, 0, none⟩ = some (.int .i64 a0_0) := (blk_cell BK294.out 0).trans rfl
      have hcz17_1 : w3.cell? ⟨gb294, 1, none⟩ = some (.int .i64 a0_1) := (blk_cell BK294.out 1).trans rfl
      have hcz17_2 : w3.cell? ⟨gb294, 2, none⟩ = some (.int .i64 a0_2) := (blk_cell BK294.out 2).trans rfl
      have hcz17_3 : w3.cell? ⟨gb294, 3, none⟩ = some (.slice A0_3 l0_3.length c0_3) := (blk_cell BK294.out 3).trans rfl
      have hcz17_4 : w3.cell? ⟨gb294, 4, none⟩ = some (.slice A0_4 l0_4.length c0_4) := (blk_cell BK294.out 4).trans rfl
      have hcz17_5 : w3.cell? ⟨gb294, 5, none⟩ = some (.slice A0_5 l0_5.length c0_5) := (blk_cell BK294.out 5).trans rfl
      have hcz17_6 : w3.cell? ⟨gb294, 6, none⟩ = some (.slice A0_6 l0_6.length c0_6) := (blk_cell BK294.out 6).trans rfl
      have hcz17_7 : w3.cell? ⟨gb294, 7, none⟩ = some (.int .i64 a0_7) := (blk_cell BK294.out 7).trans rfl
      have hfz17_0 := blk_frozen BK294.out 0
      have hfz17_1 := blk_frozen BK294.out 1
      have hfz17_2 := blk_frozen BK294.out 2
      have hfz17_3 := blk_frozen BK294.out 3
      have hfz17_4 := blk_frozen BK294.out 4
      have hfz17_5 := blk_frozen BK294.out 5
      have hfz17_6 := blk_frozen BK294.out 6
      have hfz17_7 := blk_frozen BK294.out 7
      go_wp2_with (first | ((with_reducible refine gate_callee (f := 83) rfl ?_); refine goesL_ (some 11) rfl rfl Try.func83 (by kernel_rfl) rfl #[.int .i64 a0_0, .int .i64 1, .int .i64 5] rfl la_ ?_; (with_reducible refine (impl_InRange.calls a0_0 1 5 false _ A4.out).mono ?_); rintro e w' ⟨rfl, ⟨nd, rfl⟩⟩; refine ⟨_, rfl, ?_⟩))
      go_meet
      case rel => exact ⟨_, (true), (by first | rfl | (simp; done) | (simp [*]; done)), H', ⟨by first | omega | exact Nat.le_refl _⟩, ⟨by (with_reducible repeat (first | refine blk_drewN ?_ _ | refine blk_drew ?_ | refine blk_alloc ?_ _)); exact BK294.out⟩, ⟨hb_⟩⟩
  case rest =>
    clear HC2
    try clear c1
    try clear p2
    try clear c5
    try clear c7
    try clear c8
    try clear c9
    try clear c10
    try clear c10b0
    try clear c10b1
    try clear c12
    try clear c12b0
    try clear c12b1
    try clear hcz11_0
    try clear hcz11_1
    try clear hcz11_2
    try clear hcz11_3
    try clear hcz11_4
    try clear hcz11_5
    try clear hcz11_6
    try clear hcz11_7
    try clear hcz13_0
    try clear hcz13_1
    try clear hcz13_2
    try clear hcz13_3
    try clear hcz13_4
    try clear hcz13_5
    try clear hcz13_6
    try clear hcz13_7
    try clear hcz14_0
    try clear hcz14_1
    try clear hcz14_2
    try clear hcz14_3
    try clear hcz14_4
    try clear hcz14_5
    try clear hcz14_6
    try clear hcz14_7
    try clear hcz15_0
    try clear hcz15_1
    try clear hcz15_2
    try clear hcz15_3
    try clear hcz15_4
    try clear hcz15_5
    try clear hcz15_6
    try clear hcz15_7
    try clear hcz16_0
    try clear hcz16_1
    try clear hcz16_2
    try clear hcz16_3
    try clear hcz16_4
    try clear hcz16_5
    try clear hcz16_6
    try clear hcz16_7
    try clear hcz17_0
    try clear hcz17_1
    try clear hcz17_2
    try clear hcz17_3
    try clear hcz17_4
    try clear hcz17_5
    try clear hcz17_6
    try clear hcz17_7
    try clear hfz11_0
    try clear hfz11_1
    try clear hfz11_2
    try clear hfz11_3
    try clear hfz11_4
    try clear hfz11_5
    try clear hfz11_6
    try clear hfz11_7
    try clear hfz13_0
    try clear hfz13_1
    try clear hfz13_2
    try clear hfz13_3
    try clear hfz13_4
    try clear hfz13_5
    try clear hfz13_6
    try clear hfz13_7
    try clear hfz14_0
    try clear hfz14_1
    try clear hfz14_2
    try clear hfz14_3
    try clear hfz14_4
    try clear hfz14_5
    try clear hfz14_6
    try clear hfz14_7
    try clear hfz15_0
    try clear hfz15_1
    try clear hfz15_2
    try clear hfz15_3
    try clear hfz15_4
    try clear hfz15_5
    try clear hfz15_6
    try clear hfz15_7
    try clear hfz16_0
    try clear hfz16_1
    try clear hfz16_2
    try clear hfz16_3
    try clear hfz16_4
    try clear hfz16_5
    try clear hfz16_6
    try clear hfz16_7
    try clear hfz17_0
    try clear hfz17_1
    try clear hfz17_2
    try clear hfz17_3
    try clear hfz17_4
    try clear hfz17_5
    try clear hfz17_6
    try clear hfz17_7
    obtain ⟨kq, x42_1, rfl, HA, HJ1, BK294, HB⟩ := hcut
    cases kq with
    | zero => exact absurd HA.out (by simp [impl_IsPackage.j0])
    | succ kj1 =>
      have H := HA.out
      clear HA
      simp only [impl_IsPackage.j0] at H
      by_cases c18 : x42_1 = true
      · subst c18
        have H1 : (some false) = some r := by rw [if_pos rfl] at H; exact H
        clear H
        have H := H1
        clear H1
        obtain rfl := Option.some.inj H
        go_wp2
        go_ret
        exact ⟨by first | rfl | (simp [errW_none, errW_some] <;> rfl) | (simp [*, errW_none, errW_some] <;> rfl), hb_⟩
      · replace c18 := Bool.eq_false_iff.mpr c18
        subst c18
        have H1 : (impl_IsPackage.l0 kj1 l0_3 (l0_3.length : Int) 0 a0_0 a0_1 a0_2 l0_3 l0_4 l0_5 l0_6 a0_7) = some r := by rw [if_neg (show ¬ (false = true) by decide)] at H; exact H
        clear H
        have H := H1
        clear H1
        have H' := Aside0.mk H
        clear H
        have hcz19_0 : wc.cell? ⟨gb294, 0, none⟩ = some (.int .i64 a0_0) := (blk_cell BK294.out 0).trans rfl
        have hcz19_1 : wc.cell? ⟨gb294, 1, none⟩ = some (.int .i64 a0_1) := (blk_cell BK294.out 1).trans rfl
        have hcz19_2 : wc.cell? ⟨gb294, 2, none⟩ = some (.int .i64 a0_2) := (blk_cell BK294.out 2).trans rfl
        have hcz19_3 : wc.cell? ⟨gb294, 3, none⟩ = some (.slice A0_3 l0_3.length c0_3) := (blk_cell BK294.out 3).trans rfl
        have hcz19_4 : wc.cell? ⟨gb294, 4, none⟩ = some (.slice A0_4 l0_4.length c0_4) := (blk_cell BK294.out 4).trans rfl
        have hcz19_5 : wc.cell? ⟨gb294, 5, none⟩ = some (.slice A0_5 l0_5.length c0_5) := (blk_cell BK294.out 5).trans rfl
        have hcz19_6 : wc.cell? ⟨gb294, 6, none⟩ = some (.slice A0_6 l0_6.length c0_6) := (blk_cell BK294.out 6).trans rfl
        have hcz19_7 : wc.cell? ⟨gb294, 7, none⟩ = some (.int .i64 a0_7) := (blk_cell BK294.out 7).trans rfl
        have hfz19_0 := blk_frozen BK294.out 0
        have hfz19_1 := blk_frozen BK294.out 1
        have hfz19_2 := blk_frozen BK294.out 2
        have hfz19_3 := blk_frozen BK294.out 3
        have hfz19_4 := blk_frozen BK294.out 4
        have hfz19_5 := blk_frozen BK294.out 5
        have hfz19_6 := blk_frozen BK294.out 6
        have hfz19_7 := blk_frozen BK294.out 7
        go_wp2
        go_loopg [46] kj1 (fun kq v46 w' => ∃ (x46_2 : Int), v46 = .int .i64 x46_2 ∧ Aside0 (impl_IsPackage.l0 kq l0_3 (l0_3.length : Int) x46_2 a0_0 a0_1 a0_2 l0_3 l0_4 l0_5 l0_6 a0_7 = some r) ∧ Aside0 (kq ≤ kj1) ∧ Aside0 (w'.heap[gb294]? = some (.cells #[.int .i64 a0_0, .int .i64 a0_1, .int .i64 a0_2, (.slice A0_3 l0_3.length c0_3), (.slice A0_4 l0_4.length c0_4), (.slice A0_5 l0_5.length c0_5), (.slice A0_6 l0_6.length c0_6), .int .i64 a0_7] 66 (0, 0))) ∧ Aside0 (Below w.heap.size w w'))
        case atStart => exact ⟨(0), (by first | rfl | (simp; done) | (simp [*]; done)), H', ⟨Nat.le_refl _⟩, ⟨by (with_reducible repeat (first | refine blk_drewN ?_ _ | refine blk_drew ?_ | refine blk_alloc ?_ _)); exact BK294.out⟩, ⟨hb_⟩⟩
        case round =>
          clear H'
          try clear c1
          try clear p2
          try clear c5
          try clear c7
          try clear c8
          try clear c9
          try clear c10
          try clear c10b0
          try clear c10b1
          try clear c12
          try clear c12b0
          try clear c12b1
          try clear c18
          try clear hcz11_0
          try clear hcz11_1
          try clear hcz11_2
          try clear hcz11_3
          try clear hcz11_4
          try clear hcz11_5
          try clear hcz11_6
          try clear hcz11_7
          try clear hcz13_0
          try clear hcz13_1
          try clear hcz13_2
          try clear hcz13_3
          try clear hcz13_4
          try clear hcz13_5
          try clear hcz13_6
          try clear hcz13_7
          try clear hcz14_0
          try clear hcz14_1
          try clear hcz14_2
          try clear hcz14_3
          try clear hcz14_4
          try clear hcz14_5
          try clear hcz14_6
          try clear hcz14_7
          try clear hcz15_0
          try clear hcz15_1
          try clear hcz15_2
          try clear hcz15_3
          try clear hcz15_4
          try clear hcz15_5
          try clear hcz15_6
          try clear hcz15_7
          try clear hcz16_0
          try clear hcz16_1
          try clear hcz16_2
          try clear hcz16_3
          try clear hcz16_4
          try clear hcz16_5
          try clear hcz16_6
          try clear hcz16_7
          try clear hcz17_0
          try clear hcz17_1
          try clear hcz17_2
          try clear hcz17_3
          try clear hcz17_4
          try clear hcz17_5
          try clear hcz17_6
          try clear hcz17_7
          try clear hcz19_0
          try clear hcz19_1
          try clear hcz19_2
          try clear hcz19_3
          try clear hcz19_4
          try clear hcz19_5
          try clear hcz19_6
          try clear hcz19_7
          try clear hfz11_0
          try clear hfz11_1
          try clear hfz11_2
          try clear hfz11_3
          try clear hfz11_4
          try clear hfz11_5
          try clear hfz11_6
          try clear hfz11_7
          try clear hfz13_0
          try clear hfz13_1
          try clear hfz13_2
          try clear hfz13_3
          try clear hfz13_4
          try clear hfz13_5
          try clear hfz13_6
          try clear hfz13_7
          try clear hfz14_0
          try clear hfz14_1
          try clear hfz14_2
          try clear hfz14_3
          try clear hfz14_4
          try clear hfz14_5
          try clear hfz14_6
          try clear hfz14_7
          try clear hfz15_0
          try clear hfz15_1
          try clear hfz15_2
          try clear hfz15_3
          try clear hfz15_4
          try clear hfz15_5
          try clear hfz15_6
          try clear hfz15_7
          try clear hfz16_0
          try clear hfz16_1
          try clear hfz16_2
          try clear hfz16_3
          try clear hfz16_4
          try clear hfz16_5
          try clear hfz16_6
          try clear hfz16_7
          try clear hfz17_0
          try clear hfz17_1
          try clear hfz17_2
          try clear hfz17_3
          try clear hfz17_4
          try clear hfz17_5
          try clear hfz17_6
          try clear hfz17_7
          try clear hfz19_0
          try clear hfz19_1
          try clear hfz19_2
          try clear hfz19_3
          try clear hfz19_4
          try clear hfz19_5
          try clear hfz19_6
          try clear hfz19_7
          try clear p2
          obtain ⟨x46_2, rfl, HA, HK2, BK294, HB⟩ := hrel
          cases gk with
          | zero => exact absurd HA.out (by simp [impl_IsPackage.l0])
          | succ k2 =>
            have H := HA.out
            clear HA
            simp only [impl_IsPackage.l0] at H
            by_cases c20 : x46_2 < (l0_3.length : Int)
            · rw [if_pos c20] at H
              have c20b0 : decide (x46_2 < (l0_3.length : Int)) = true := decide_eq_true c20
              clear c20
              by_cases c21 : 0 ≤ x46_2
              · rw [if_pos c21] at H
                have c21b0 : decide (0 ≤ x46_2) = true := decide_eq_true c21
                clear c21
                by_cases c22 : x46_2 < (l0_3.length : Int)
                · rw [if_pos c22] at H
                  have c22b0 : decide (x46_2 < (l0_3.length : Int)) = true := decide_eq_true c22
                  clear c22
                  replace H := Option.bind_eq_some_iff.mp H
                  obtain ⟨t300, A230, H⟩ := H
                  replace H : (if t300 = true then (if ((rd_T132 l0_3 x46_2).f0) = a0_0 then (impl_IsPackage.l0 k2 l0_3 (l0_3.length : Int) (wrap64 (x46_2 + 1)) a0_0 a0_1 a0_2 l0_3 l0_4 l0_5 l0_6 a0_7) else (some false)) else (some false)) = some r := H
                  have A23 := Aside0.mk A230
                  clear A230
                  by_cases c24 : t300 = true
                  · subst c24
                    have H1 : (if ((rd_T132 l0_3 x46_2).f0) = a0_0 then (impl_IsPackage.l0 k2 l0_3 (l0_3.length : Int) (wrap64 (x46_2 + 1)) a0_0 a0_1 a0_2 l0_3 l0_4 l0_5 l0_6 a0_7) else (some false)) = some r := by rw [if_pos rfl] at H; exact H
                    clear H
                    have H := H1
                    clear H1
                    by_cases c25 : ((rd_T132 l0_3 x46_2).f0) = a0_0
                    · rw [if_pos c25] at H
                      have c25b0 : (((rd_T132 l0_3 x46_2).f0) == a0_0) = true := beq_iff_eq.mpr c25
                      have c25b1 : (((rd_T132 l0_3 x46_2).f0) != a0_0) = false := bne_eq_false_iff_eq.mpr c25
                      clear c25
                      have H' := Aside0.mk H
                      clear H
                      have p298 : 0 ≤ (x46_2 : Int) := of_decide_eq_true (by first | (with_reducible assumption) | assumption)
                      have q298 : x46_2 < (l0_3.length : Int) := of_decide_eq_true (by first | (with_reducible assumption) | assumption)
                      obtain ⟨ad298, e298, hx298_0, hx298_1, hx298_2, hx298_3, hx298_4, hx298_5, hx298_6⟩ := at_T132 HR0_3.out x46_2 p298 q298
                      cases e298
                      replace hx298_0 := (HB.out.cell (World.block_lt_of_cell? w _ hx298_0)).trans hx298_0
                      replace hx298_1 := (HB.out.cell (World.block_lt_of_cell? w _ hx298_1)).trans hx298_1
                      replace hx298_2 := (HB.out.cell (World.block_lt_of_cell? w _ hx298_2)).trans hx298_2
                      replace hx298_3 := (HB.out.cell (World.block_lt_of_cell? w _ hx298_3)).trans hx298_3
                      replace hx298_4 := (HB.out.cell (World.block_lt_of_cell? w _ hx298_4)).trans hx298_4
                      replace hx298_5 := (HB.out.cell (World.block_lt_of_cell? w _ hx298_5)).trans hx298_5
                      replace hx298_6 := (HB.out.cell (World.block_lt_of_cell? w _ hx298_6)).trans hx298_6
                      replace p298 := eq_true p298
                      replace q298 := eq_true q298
                      go_wp2_with (first | ((with_reducible refine gate_dst (N := 4) rfl ?_); (try (refine gate_guard (by rfl) ?_; dsimp only)); refine box_event ?hg (N := 4) ?hd (cs := #[.int .i64 0, .int .i64 0, .int .i64 0, .int .i64 0, .int .i64 0, .int .i64 0, .bool false]) (t := 132) ?hr ?_; (case hd => rfl); (case hg => rfl); (case hr => first | (go_simp; done) | (go_simp; rfl)); intro gb299 hg w26 hbox hb; have n0_ := Aside0.mk (blk_below (g := gb294) bk_ hb); have n1_ := Aside0.mk (below_step hb_ hb); have n2_ := Aside0.mk (hbox); have n3_ := Aside0.mk ((by rw [hg]; exact (below_size hb_) : w.heap.size ≤ gb299)); have n4_ := Aside0.mk ((by rw [hg]; exact (below_size hb_) : w.heap.size ≤ gb299)); have n5_ := Aside0.mk ((by rw [hg]; exact Nat.ne_of_lt (blk_lt (g := gb294) bk_) : gb294 ≠ gb299)); have n6_ := Aside0.mk ((by rw [hg]; exact Nat.ne_of_gt (blk_lt (g := gb294) bk_) : gb299 ≠ gb294)); clear BK294; clear HB; have BK294 := n0_; have HB := n1_; have BK299 := n2_; have GW299 := n3_; have GE299 := n4_; have NB294_299 := n5_; have NB299_294 := n6_; clear n0_ n1_ n2_ n3_ n4_ n5_ n6_; clear hb hbox hg; have hnb27 := NB299_294.out; have hnc27 := NB294_299.out; have hcz28_0 : w26.cell? ⟨gb299, 0, none⟩ = some (.int .i64 0) := (blk_cell BK299.out 0).trans rfl; have hcz28_1 : w26.cell? ⟨gb299, 1, none⟩ = some (.int .i64 0) := (blk_cell BK299.out 1).trans rfl; have hcz28_2 : w26.cell? ⟨gb299, 2, none⟩ = some (.int .i64 0) := (blk_cell BK299.out 2).trans rfl; have hcz28_3 : w26.cell? ⟨gb299, 3, none⟩ = some (.int .i64 0) := (blk_cell BK299.out 3).trans rfl; have hcz28_4 : w26.cell? ⟨gb299, 4, none⟩ = some (.int .i64 0) := (blk_cell BK299.out 4).trans rfl; have hcz28_5 : w26.cell? ⟨gb299, 5, none⟩ = some (.int .i64 0) := (blk_cell BK299.out 5).trans rfl; have hcz28_6 : w26.cell? ⟨gb299, 6, none⟩ = some (.bool false) := (blk_cell BK299.out 6).trans rfl; have hfz28_0 := blk_frozen BK299.out 0; have hfz28_1 := blk_frozen BK299.out 1; have hfz28_2 := blk_frozen BK299.out 2; have hfz28_3 := blk_frozen BK299.out 3; have hfz28_4 := blk_frozen BK299.out 4; have hfz28_5 := blk_frozen BK299.out 5; have hfz28_6 := blk_frozen BK299.out 6) | ((with_reducible refine gate_callee (f := 118) rfl ?_); refine goesL_ (some 51) rfl rfl Try.func118 (by kernel_rfl) rfl #[.agg #[.int .i64 ((rd_T132 l0_3 x46_2).f0), .int .i64 ((rd_T132 l0_3 x46_2).f1.f0), .int .i64 ((rd_T132 l0_3 x46_2).f1.f1), .int .i64 ((rd_T132 l0_3 x46_2).f2), .int .i64 ((rd_T132 l0_3 x46_2).f3), .int .i64 ((rd_T132 l0_3 x46_2).f4), .bool ((rd_T132 l0_3 x46_2).f5)]] rfl la_ ?_; (with_reducible refine (impl_IsGrant.calls ((rd_T132 l0_3 x46_2).f0) ((rd_T132 l0_3 x46_2).f1.f0) ((rd_T132 l0_3 x46_2).f1.f1) ((rd_T132 l0_3 x46_2).f2) ((rd_T132 l0_3 x46_2).f3) ((rd_T132 l0_3 x46_2).f4) ((rd_T132 l0_3 x46_2).f5) true _ A23.out).mono ?_); rintro e w29 ⟨rfl, hb⟩; refine ⟨_, rfl, ?_⟩; have n0_ := Aside0.mk (blk_below (g := gb294) (o := .cells #[.int .i64 a0_0, .int .i64 a0_1, .int .i64 a0_2, .slice (some ad298) l0_3.length c0_3, .slice A0_4 l0_4.length c0_4, .slice A0_5 l0_5.length c0_5, .slice A0_6 l0_6.length c0_6, .int .i64 a0_7] 66 (0, 0)) (by (with_reducible repeat (first | refine blk_drewN ?_ _ | refine blk_drew ?_ | refine blk_alloc ?_ _)); refine blk_far ?_ NB294_299.out _; (with_reducible repeat (first | refine blk_drewN ?_ _ | refine blk_drew ?_ | refine blk_alloc ?_ _)); refine blk_far ?_ NB294_299.out _; (with_reducible repeat (first | refine blk_drewN ?_ _ | refine blk_drew ?_ | refine blk_alloc ?_ _)); refine blk_far ?_ NB294_299.out _; (with_reducible repeat (first | refine blk_drewN ?_ _ | refine blk_drew ?_ | refine blk_alloc ?_ _)); refine blk_far ?_ NB294_299.out _; (with_reducible repeat (first | refine blk_drewN ?_ _ | refine blk_drew ?_ | refine blk_alloc ?_ _)); refine blk_far ?_ NB294_299.out _; (with_reducible repeat (first | refine blk_drewN ?_ _ | refine blk_drew ?_ | refine blk_alloc ?_ _)); refine blk_far ?_ NB294_299.out _; (with_reducible repeat (first | refine blk_drewN ?_ _ | refine blk_drew ?_ | refine blk_alloc ?_ _)); refine blk_far ?_ NB294_299.out _; (with_reducible repeat (first | refine blk_drewN ?_ _ | refine blk_drew ?_ | refine blk_alloc ?_ _)); exact BK294.out) hb); have n1_ := Aside0.mk (blk_below (g := gb299) (o := .cells #[.int .i64 ((rd_T132 l0_3 x46_2).f0), .int .i64 ((rd_T132 l0_3 x46_2).f1.f0), .int .i64 ((rd_T132 l0_3 x46_2).f1.f1), .int .i64 ((rd_T132 l0_3 x46_2).f2), .int .i64 ((rd_T132 l0_3 x46_2).f3), .int .i64 ((rd_T132 l0_3 x46_2).f4), .bool ((rd_T132 l0_3 x46_2).f5)] 132 (0, 0)) (by (with_reducible repeat (first | refine blk_drewN ?_ _ | refine blk_drew ?_ | refine blk_alloc ?_ _)); refine blk_put (cs := #[.int .i64 ((rd_T132 l0_3 x46_2).f0), .int .i64 ((rd_T132 l0_3 x46_2).f1.f0), .int .i64 ((rd_T132 l0_3 x46_2).f1.f1), .int .i64 ((rd_T132 l0_3 x46_2).f2), .int .i64 ((rd_T132 l0_3 x46_2).f3), .int .i64 ((rd_T132 l0_3 x46_2).f4), .bool false]) ?_ 6 _ rfl; (with_reducible repeat (first | refine blk_drewN ?_ _ | refine blk_drew ?_ | refine blk_alloc ?_ _)); refine blk_put (cs := #[.int .i64 ((rd_T132 l0_3 x46_2).f0), .int .i64 ((rd_T132 l0_3 x46_2).f1.f0), .int .i64 ((rd_T132 l0_3 x46_2).f1.f1), .int .i64 ((rd_T132 l0_3 x46_2).f2), .int .i64 ((rd_T132 l0_3 x46_2).f3), .int .i64 0, .bool false]) ?_ 5 _ rfl; (with_reducible repeat (first | refine blk_drewN ?_ _ | refine blk_drew ?_ | refine blk_alloc ?_ _)); refine blk_put (cs := #[.int .i64 ((rd_T132 l0_3 x46_2).f0), .int .i64 ((rd_T132 l0_3 x46_2).f1.f0), .int .i64 ((rd_T132 l0_3 x46_2).f1.f1), .int .i64 ((rd_T132 l0_3 x46_2).f2), .int .i64 0, .int .i64 0, .bool false]) ?_ 4 _ rfl; (with_reducible repeat (first | refine blk_drewN ?_ _ | refine blk_drew ?_ | refine blk_alloc ?_ _)); refine blk_put (cs := #[.int .i64 ((rd_T132 l0_3 x46_2).f0), .int .i64 ((rd_T132 l0_3 x46_2).f1.f0), .int .i64 ((rd_T132 l0_3 x46_2).f1.f1), .int .i64 0, .int .i64 0, .int .i64 0, .bool false]) ?_ 3 _ rfl; (with_reducible repeat (first | refine blk_drewN ?_ _ | refine blk_drew ?_ | refine blk_alloc ?_ _)); refine blk_put (cs := #[.int .i64 ((rd_T132 l0_3 x46_2).f0), .int .i64 ((rd_T132 l0_3 x46_2).f1.f0), .int .i64 0, .int .i64 0, .int .i64 0, .int .i64 0, .bool false]) ?_ 2 _ rfl; (with_reducible repeat (first | refine blk_drewN ?_ _ | refine blk_drew ?_ | refine blk_alloc ?_ _)); refine blk_put (cs := #[.int .i64 ((rd_T132 l0_3 x46_2).f0), .int .i64 0, .int .i64 0, .int .i64 0, .int .i64 0, .int .i64 0, .bool false]) ?_ 1 _ rfl; (with_reducible repeat (first | refine blk_drewN ?_ _ | refine blk_drew ?_ | refine blk_alloc ?_ _)); refine blk_put (cs := #[.int .i64 0, .int .i64 0, .int .i64 0, .int .i64 0, .int .i64 0, .int .i64 0, .bool false]) ?_ 0 _ rfl; (with_reducible repeat (first | refine blk_drewN ?_ _ | refine blk_drew ?_ | refine blk_alloc ?_ _)); exact BK299.out) hb); have n2_ := Aside0.mk (below_step hb_ hb); clear BK294; clear BK299; clear HB; have BK294 := n0_; have BK299 := n1_; have HB := n2_; clear n0_ n1_ n2_; (try clear hb); (try clear hb2); (try clear hk); (try clear hi); have hcz30_0 : w29.cell? ⟨gb299, 0, none⟩ = some (.int .i64 ((rd_T132 l0_3 x46_2).f0)) := (blk_cell BK299.out 0).trans rfl; have hcz30_1 : w29.cell? ⟨gb299, 1, none⟩ = some (.int .i64 ((rd_T132 l0_3 x46_2).f1.f0)) := (blk_cell BK299.out 1).trans rfl; have hcz30_2 : w29.cell? ⟨gb299, 2, none⟩ = some (.int .i64 ((rd_T132 l0_3 x46_2).f1.f1)) := (blk_cell BK299.out 2).trans rfl; have hcz30_3 : w29.cell? ⟨gb299, 3, none⟩ = some (.int .i64 ((rd_T132 l0_3 x46_2).f2)) := (blk_cell BK299.out 3).trans rfl; have hcz30_4 : w29.cell? ⟨gb299, 4, none⟩ = some (.int .i64 ((rd_T132 l0_3 x46_2).f3)) := (blk_cell BK299.out 4).trans rfl; have hcz30_5 : w29.cell? ⟨gb299, 5, none⟩ = some (.int .i64 ((rd_T132 l0_3 x46_2).f4)) := (blk_cell BK299.out 5).trans rfl; have hcz30_6 : w29.cell? ⟨gb299, 6, none⟩ = some (.bool ((rd_T132 l0_3 x46_2).f5)) := (blk_cell BK299.out 6).trans rfl; have hfz30_0 := blk_frozen BK299.out 0; have hfz30_1 := blk_frozen BK299.out 1; have hfz30_2 := blk_frozen BK299.out 2; have hfz30_3 := blk_frozen BK299.out 3; have hfz30_4 := blk_frozen BK299.out 4; have hfz30_5 := blk_frozen BK299.out 5; have hfz30_6 := blk_frozen BK299.out 6; have hcz31_0 : w29.cell? ⟨gb294, 0, none⟩ = some (.int .i64 a0_0) := (blk_cell BK294.out 0).trans rfl; have hcz31_1 : w29.cell? ⟨gb294, 1, none⟩ = some (.int .i64 a0_1) := (blk_cell BK294.out 1).trans rfl; have hcz31_2 : w29.cell? ⟨gb294, 2, none⟩ = some (.int .i64 a0_2) := (blk_cell BK294.out 2).trans rfl; have hcz31_3 : w29.cell? ⟨gb294, 3, none⟩ = some (.slice (some ad298) l0_3.length c0_3) := (blk_cell BK294.out 3).trans rfl; have hcz31_4 : w29.cell? ⟨gb294, 4, none⟩ = some (.slice A0_4 l0_4.length c0_4) := (blk_cell BK294.out 4).trans rfl; have hcz31_5 : w29.cell? ⟨gb294, 5, none⟩ = some (.slice A0_5 l0_5.length c0_5) := (blk_cell BK294.out 5).trans rfl; have hcz31_6 : w29.cell? ⟨gb294, 6, none⟩ = some (.slice A0_6 l0_6.length c0_6) := (blk_cell BK294.out 6).trans rfl; have hcz31_7 : w29.cell? ⟨gb294, 7, none⟩ = some (.int .i64 a0_7) := (blk_cell BK294.out 7).trans rfl; have hfz31_0 := blk_frozen BK294.out 0; have hfz31_1 := blk_frozen BK294.out 1; have hfz31_2 := blk_frozen BK294.out 2; have hfz31_3 := blk_frozen BK294.out 3; have hfz31_4 := blk_frozen BK294.out 4; have hfz31_5 := blk_frozen BK294.out 5; have hfz31_6 := blk_frozen BK294.out 6; have hfz31_7 := blk_frozen BK294.out 7))
                      go_roundg k2
                      case measure => have := HJ1.out; have := HK2.out; omega
                      case rel => exact ⟨(wrap64 (x46_2 + 1)), (by first | rfl | (simp; done) | (simp [*]; done)), H', ⟨by have := HJ1.out; have := HK2.out; omega⟩, ⟨by (with_reducible repeat (first | refine blk_drewN ?_ _ | refine blk_drew ?_ | refine blk_alloc ?_ _)); exact BK294.out⟩, ⟨hb_⟩⟩
                    · rw [if_neg c25] at H
                      have c25b0 : (((rd_T132 l0_3 x46_2).f0) == a0_0) = false := beq_eq_false_iff_ne.mpr c25
                      have c25b1 : (((rd_T132 l0_3 x46_2).f0) != a0_0) = true := bne_iff_ne.mpr c25
                      obtain rfl := Option.some.inj H
                      have p298 : 0 ≤ (x46_2 : Int) := of_decide_eq_true (by first | (with_reducible assumption) | assumption)
                      have q298 : x46_2 < (l0_3.length : Int) := of_decide_eq_true (by first | (with_reducible assumption) | assumption)
                      obtain ⟨ad298, e298, hx298_0, hx298_1, hx298_2, hx298_3, hx298_4, hx298_5, hx298_6⟩ := at_T132 HR0_3.out x46_2 p298 q298
                      cases e298
                      replace hx298_0 := (HB.out.cell (World.block_lt_of_cell? w _ hx298_0)).trans hx298_0
                      replace hx298_1 := (HB.out.cell (World.block_lt_of_cell? w _ hx298_1)).trans hx298_1
                      replace hx298_2 := (HB.out.cell (World.block_lt_of_cell? w _ hx298_2)).trans hx298_2
                      replace hx298_3 := (HB.out.cell (World.block_lt_of_cell? w _ hx298_3)).trans hx298_3
                      replace hx298_4 := (HB.out.cell (World.block_lt_of_cell? w _ hx298_4)).trans hx298_4
                      replace hx298_5 := (HB.out.cell (World.block_lt_of_cell? w _ hx298_5)).trans hx298_5
                      replace hx298_6 := (HB.out.cell (World.block_lt_of_cell? w _ hx298_6)).trans hx298_6
                      replace p298 := eq_true p298
                      replace q298 := eq_true q298
                      go_wp2_with (first | ((with_reducible refine gate_dst (N := 4) rfl ?_); (try (refine gate_guard (by rfl) ?_; dsimp only)); refine box_event ?hg (N := 4) ?hd (cs := #[.int .i64 0, .int .i64 0, .int .i64 0, .int .i64 0, .int .i64 0, .int .i64 0, .bool false]) (t := 132) ?hr ?_; (case hd => rfl); (case hg => rfl); (case hr => first | (go_simp; done) | (go_simp; rfl)); intro gb299 hg w32 hbox hb; have n0_ := Aside0.mk (blk_below (g := gb294) bk_ hb); have n1_ := Aside0.mk (below_step hb_ hb); have n2_ := Aside0.mk (hbox); have n3_ := Aside0.mk ((by rw [hg]; exact (below_size hb_) : w.heap.size ≤ gb299)); have n4_ := Aside0.mk ((by rw [hg]; exact (below_size hb_) : w.heap.size ≤ gb299)); have n5_ := Aside0.mk ((by rw [hg]; exact Nat.ne_of_lt (blk_lt (g := gb294) bk_) : gb294 ≠ gb299)); have n6_ := Aside0.mk ((by rw [hg]; exact Nat.ne_of_gt (blk_lt (g := gb294) bk_) : gb299 ≠ gb294)); clear BK294; clear HB; have BK294 := n0_; have HB := n1_; have BK299 := n2_; have GW299 := n3_; have GE299 := n4_; have NB294_299 := n5_; have NB299_294 := n6_; clear n0_ n1_ n2_ n3_ n4_ n5_ n6_; clear hb hbox hg; have hnb33 := NB299_294.out; have hnc33 := NB294_299.out; have hcz34_0 : w32.cell? ⟨gb299, 0, none⟩ = some (.int .i64 0) := (blk_cell BK299.out 0).trans rfl; have hcz34_1 : w32.cell? ⟨gb299, 1, none⟩ = some (.int .i64 0) := (blk_cell BK299.out 1).trans rfl; have hcz34_2 : w32.cell? ⟨gb299, 2, none⟩ = some (.int .i64 0) := (blk_cell BK299.out 2).trans rfl; have hcz34_3 : w32.cell? ⟨gb299, 3, none⟩ = some (.int .i64 0) := (blk_cell BK299.out 3).trans rfl; have hcz34_4 : w32.cell? ⟨gb299, 4, none⟩ = some (.int .i64 0) := (blk_cell BK299.out 4).trans rfl; have hcz34_5 : w32.cell? ⟨gb299, 5, none⟩ = some (.int .i64 0) := (blk_cell BK299.out 5).trans rfl; have hcz34_6 : w32.cell? ⟨gb299, 6, none⟩ = some (.bool false) := (blk_cell BK299.out 6).trans rfl; have hfz34_0 := blk_frozen BK299.out 0; have hfz34_1 := blk_frozen BK299.out 1; have hfz34_2 := blk_frozen BK299.out 2; have hfz34_3 := blk_frozen BK299.out 3; have hfz34_4 := blk_frozen BK299.out 4; have hfz34_5 := blk_frozen BK299.out 5; have hfz34_6 := blk_frozen BK299.out 6) | ((with_reducible refine gate_callee (f := 118) rfl ?_); refine goesL_ (some 51) rfl rfl Try.func118 (by kernel_rfl) rfl #[.agg #[.int .i64 ((rd_T132 l0_3 x46_2).f0), .int .i64 ((rd_T132 l0_3 x46_2).f1.f0), .int .i64 ((rd_T132 l0_3 x46_2).f1.f1), .int .i64 ((rd_T132 l0_3 x46_2).f2), .int .i64 ((rd_T132 l0_3 x46_2).f3), .int .i64 ((rd_T132 l0_3 x46_2).f4), .bool ((rd_T132 l0_3 x46_2).f5)]] rfl la_ ?_; (with_reducible refine (impl_IsGrant.calls ((rd_T132 l0_3 x46_2).f0) ((rd_T132 l0_3 x46_2).f1.f0) ((rd_T132 l0_3 x46_2).f1.f1) ((rd_T132 l0_3 x46_2).f2) ((rd_T132 l0_3 x46_2).f3) ((rd_T132 l0_3 x46_2).f4) ((rd_T132 l0_3 x46_2).f5) true _ A23.out).mono ?_); rintro e w35 ⟨rfl, hb⟩; refine ⟨_, rfl, ?_⟩; have n0_ := Aside0.mk (blk_below (g := gb294) (o := .cells #[.int .i64 a0_0, .int .i64 a0_1, .int .i64 a0_2, .slice (some ad298) l0_3.length c0_3, .slice A0_4 l0_4.length c0_4, .slice A0_5 l0_5.length c0_5, .slice A0_6 l0_6.length c0_6, .int .i64 a0_7] 66 (0, 0)) (by (with_reducible repeat (first | refine blk_drewN ?_ _ | refine blk_drew ?_ | refine blk_alloc ?_ _)); refine blk_far ?_ NB294_299.out _; (with_reducible repeat (first | refine blk_drewN ?_ _ | refine blk_drew ?_ | refine blk_alloc ?_ _)); refine blk_far ?_ NB294_299.out _; (with_reducible repeat (first | refine blk_drewN ?_ _ | refine blk_drew ?_ | refine blk_alloc ?_ _)); refine blk_far ?_ NB294_299.out _; (with_reducible repeat (first | refine blk_drewN ?_ _ | refine blk_drew ?_ | refine blk_alloc ?_ _)); refine blk_far ?_ NB294_299.out _; (with_reducible repeat (first | refine blk_drewN ?_ _ | refine blk_drew ?_ | refine blk_alloc ?_ _)); refine blk_far ?_ NB294_299.out _; (with_reducible repeat (first | refine blk_drewN ?_ _ | refine blk_drew ?_ | refine blk_alloc ?_ _)); refine blk_far ?_ NB294_299.out _; (with_reducible repeat (first | refine blk_drewN ?_ _ | refine blk_drew ?_ | refine blk_alloc ?_ _)); refine blk_far ?_ NB294_299.out _; (with_reducible repeat (first | refine blk_drewN ?_ _ | refine blk_drew ?_ | refine blk_alloc ?_ _)); exact BK294.out) hb); have n1_ := Aside0.mk (blk_below (g := gb299) (o := .cells #[.int .i64 ((rd_T132 l0_3 x46_2).f0), .int .i64 ((rd_T132 l0_3 x46_2).f1.f0), .int .i64 ((rd_T132 l0_3 x46_2).f1.f1), .int .i64 ((rd_T132 l0_3 x46_2).f2), .int .i64 ((rd_T132 l0_3 x46_2).f3), .int .i64 ((rd_T132 l0_3 x46_2).f4), .bool ((rd_T132 l0_3 x46_2).f5)] 132 (0, 0)) (by (with_reducible repeat (first | refine blk_drewN ?_ _ | refine blk_drew ?_ | refine blk_alloc ?_ _)); refine blk_put (cs := #[.int .i64 ((rd_T132 l0_3 x46_2).f0), .int .i64 ((rd_T132 l0_3 x46_2).f1.f0), .int .i64 ((rd_T132 l0_3 x46_2).f1.f1), .int .i64 ((rd_T132 l0_3 x46_2).f2), .int .i64 ((rd_T132 l0_3 x46_2).f3), .int .i64 ((rd_T132 l0_3 x46_2).f4), .bool false]) ?_ 6 _ rfl; (with_reducible repeat (first | refine blk_drewN ?_ _ | refine blk_drew ?_ | refine blk_alloc ?_ _)); refine blk_put (cs := #[.int .i64 ((rd_T132 l0_3 x46_2).f0), .int .i64 ((rd_T132 l0_3 x46_2).f1.f0), .int .i64 ((rd_T132 l0_3 x46_2).f1.f1), .int .i64 ((rd_T132 l0_3 x46_2).f2), .int .i64 ((rd_T132 l0_3 x46_2).f3), .int .i64 0, .bool false]) ?_ 5 _ rfl; (with_reducible repeat (first | refine blk_drewN ?_ _ | refine blk_drew ?_ | refine blk_alloc ?_ _)); refine blk_put (cs := #[.int .i64 ((rd_T132 l0_3 x46_2).f0), .int .i64 ((rd_T132 l0_3 x46_2).f1.f0), .int .i64 ((rd_T132 l0_3 x46_2).f1.f1), .int .i64 ((rd_T132 l0_3 x46_2).f2), .int .i64 0, .int .i64 0, .bool false]) ?_ 4 _ rfl; (with_reducible repeat (first | refine blk_drewN ?_ _ | refine blk_drew ?_ | refine blk_alloc ?_ _)); refine blk_put (cs := #[.int .i64 ((rd_T132 l0_3 x46_2).f0), .int .i64 ((rd_T132 l0_3 x46_2).f1.f0), .int .i64 ((rd_T132 l0_3 x46_2).f1.f1), .int .i64 0, .int .i64 0, .int .i64 0, .bool false]) ?_ 3 _ rfl; (with_reducible repeat (first | refine blk_drewN ?_ _ | refine blk_drew ?_ | refine blk_alloc ?_ _)); refine blk_put (cs := #[.int .i64 ((rd_T132 l0_3 x46_2).f0), .int .i64 ((rd_T132 l0_3 x46_2).f1.f0), .int .i64 0, .int .i64 0, .int .i64 0, .int .i64 0, .bool false]) ?_ 2 _ rfl; (with_reducible repeat (first | refine blk_drewN ?_ _ | refine blk_drew ?_ | refine blk_alloc ?_ _)); refine blk_put (cs := #[.int .i64 ((rd_T132 l0_3 x46_2).f0), .int .i64 0, .int .i64 0, .int .i64 0, .int .i64 0, .int .i64 0, .bool false]) ?_ 1 _ rfl; (with_reducible repeat (first | refine blk_drewN ?_ _ | refine blk_drew ?_ | refine blk_alloc ?_ _)); refine blk_put (cs := #[.int .i64 0, .int .i64 0, .int .i64 0, .int .i64 0, .int .i64 0, .int .i64 0, .bool false]) ?_ 0 _ rfl; (with_reducible repeat (first | refine blk_drewN ?_ _ | refine blk_drew ?_ | refine blk_alloc ?_ _)); exact BK299.out) hb); have n2_ := Aside0.mk (below_step hb_ hb); clear BK294; clear BK299; clear HB; have BK294 := n0_; have BK299 := n1_; have HB := n2_; clear n0_ n1_ n2_; (try clear hb); (try clear hb2); (try clear hk); (try clear hi); have hcz36_0 : w35.cell? ⟨gb299, 0, none⟩ = some (.int .i64 ((rd_T132 l0_3 x46_2).f0)) := (blk_cell BK299.out 0).trans rfl; have hcz36_1 : w35.cell? ⟨gb299, 1, none⟩ = some (.int .i64 ((rd_T132 l0_3 x46_2).f1.f0)) := (blk_cell BK299.out 1).trans rfl; have hcz36_2 : w35.cell? ⟨gb299, 2, none⟩ = some (.int .i64 ((rd_T132 l0_3 x46_2).f1.f1)) := (blk_cell BK299.out 2).trans rfl; have hcz36_3 : w35.cell? ⟨gb299, 3, none⟩ = some (.int .i64 ((rd_T132 l0_3 x46_2).f2)) := (blk_cell BK299.out 3).trans rfl; have hcz36_4 : w35.cell? ⟨gb299, 4, none⟩ = some (.int .i64 ((rd_T132 l0_3 x46_2).f3)) := (blk_cell BK299.out 4).trans rfl; have hcz36_5 : w35.cell? ⟨gb299, 5, none⟩ = some (.int .i64 ((rd_T132 l0_3 x46_2).f4)) := (blk_cell BK299.out 5).trans rfl; have hcz36_6 : w35.cell? ⟨gb299, 6, none⟩ = some (.bool ((rd_T132 l0_3 x46_2).f5)) := (blk_cell BK299.out 6).trans rfl; have hfz36_0 := blk_frozen BK299.out 0; have hfz36_1 := blk_frozen BK299.out 1; have hfz36_2 := blk_frozen BK299.out 2; have hfz36_3 := blk_frozen BK299.out 3; have hfz36_4 := blk_frozen BK299.out 4; have hfz36_5 := blk_frozen BK299.out 5; have hfz36_6 := blk_frozen BK299.out 6; have hcz37_0 : w35.cell? ⟨gb294, 0, none⟩ = some (.int .i64 a0_0) := (blk_cell BK294.out 0).trans rfl; have hcz37_1 : w35.cell? ⟨gb294, 1, none⟩ = some (.int .i64 a0_1) := (blk_cell BK294.out 1).trans rfl; have hcz37_2 : w35.cell? ⟨gb294, 2, none⟩ = some (.int .i64 a0_2) := (blk_cell BK294.out 2).trans rfl; have hcz37_3 : w35.cell? ⟨gb294, 3, none⟩ = some (.slice (some ad298) l0_3.length c0_3) := (blk_cell BK294.out 3).trans rfl; have hcz37_4 : w35.cell? ⟨gb294, 4, none⟩ = some (.slice A0_4 l0_4.length c0_4) := (blk_cell BK294.out 4).trans rfl; have hcz37_5 : w35.cell? ⟨gb294, 5, none⟩ = some (.slice A0_5 l0_5.length c0_5) := (blk_cell BK294.out 5).trans rfl; have hcz37_6 : w35.cell? ⟨gb294, 6, none⟩ = some (.slice A0_6 l0_6.length c0_6) := (blk_cell BK294.out 6).trans rfl; have hcz37_7 : w35.cell? ⟨gb294, 7, none⟩ = some (.int .i64 a0_7) := (blk_cell BK294.out 7).trans rfl; have hfz37_0 := blk_frozen BK294.out 0; have hfz37_1 := blk_frozen BK294.out 1; have hfz37_2 := blk_frozen BK294.out 2; have hfz37_3 := blk_frozen BK294.out 3; have hfz37_4 := blk_frozen BK294.out 4; have hfz37_5 := blk_frozen BK294.out 5; have hfz37_6 := blk_frozen BK294.out 6; have hfz37_7 := blk_frozen BK294.out 7))
                      go_ret
                      exact ⟨by first | rfl | (simp [errW_none, errW_some] <;> rfl) | (simp [*, errW_none, errW_some] <;> rfl), hb_⟩
                  · replace c24 := Bool.eq_false_iff.mpr c24
                    subst c24
                    have H1 : (some false) = some r := by rw [if_neg (show ¬ (false = true) by decide)] at H; exact H
                    clear H
                    have H := H1
                    clear H1
                    obtain rfl := Option.some.inj H
                    have p298 : 0 ≤ (x46_2 : Int) := of_decide_eq_true (by first | (with_reducible assumption) | assumption)
                    have q298 : x46_2 < (l0_3.length : Int) := of_decide_eq_true (by first | (with_reducible assumption) | assumption)
                    obtain ⟨ad298, e298, hx298_0, hx298_1, hx298_2, hx298_3, hx298_4, hx298_5, hx298_6⟩ := at_T132 HR0_3.out x46_2 p298 q298
                    cases e298
                    replace hx298_0 := (HB.out.cell (World.block_lt_of_cell? w _ hx298_0)).trans hx298_0
                    replace hx298_1 := (HB.out.cell (World.block_lt_of_cell? w _ hx298_1)).trans hx298_1
                    replace hx298_2 := (HB.out.cell (World.block_lt_of_cell? w _ hx298_2)).trans hx298_2
                    replace hx298_3 := (HB.out.cell (World.block_lt_of_cell? w _ hx298_3)).trans hx298_3
                    replace hx298_4 := (HB.out.cell (World.block_lt_of_cell? w _ hx298_4)).trans hx298_4
                    replace hx298_5 := (HB.out.cell (World.block_lt_of_cell? w _ hx298_5)).trans hx298_5
                    replace hx298_6 := (HB.out.cell (World.block_lt_of_cell? w _ hx298_6)).trans hx298_6
                    replace p298 := eq_true p298
                    replace q298 := eq_true q298
                    go_wp2_with (first | ((with_reducible refine gate_dst (N := 4) rfl ?_); (try (refine gate_guard (by rfl) ?_; dsimp only)); refine box_event ?hg (N := 4) ?hd (cs := #[.int .i64 0, .int .i64 0, .int .i64 0, .int .i64 0, .int .i64 0, .int .i64 0, .bool false]) (t := 132) ?hr ?_; (case hd => rfl); (case hg => rfl); (case hr => first | (go_simp; done) | (go_simp; rfl)); intro gb299 hg w38 hbox hb; have n0_ := Aside0.mk (blk_below (g := gb294) bk_ hb); have n1_ := Aside0.mk (below_step hb_ hb); have n2_ := Aside0.mk (hbox); have n3_ := Aside0.mk ((by rw [hg]; exact (below_size hb_) : w.heap.size ≤ gb299)); have n4_ := Aside0.mk ((by rw [hg]; exact (below_size hb_) : w.heap.size ≤ gb299)); have n5_ := Aside0.mk ((by rw [hg]; exact Nat.ne_of_lt (blk_lt (g := gb294) bk_) : gb294 ≠ gb299)); have n6_ := Aside0.mk ((by rw [hg]; exact Nat.ne_of_gt (blk_lt (g := gb294) bk_) : gb299 ≠ gb294)); clear BK294; clear HB; have BK294 := n0_; have HB := n1_; have BK299 := n2_; have GW299 := n3_; have GE299 := n4_; have NB294_299 := n5_; have NB299_294 := n6_; clear n0_ n1_ n2_ n3_ n4_ n5_ n6_; clear hb hbox hg; have hnb39 := NB299_294.out; have hnc39 := NB294_299.out; have hcz40_0 : w38.cell? ⟨gb299, 0, none⟩ = some (.int .i64 0) := (blk_cell BK299.out 0).trans rfl; have hcz40_1 : w38.cell? ⟨gb299, 1, none⟩ = some (.int .i64 0) := (blk_cell BK299.out 1).trans rfl; have hcz40_2 : w38.cell? ⟨gb299, 2, none⟩ = some (.int .i64 0) := (blk_cell BK299.out 2).trans rfl; have hcz40_3 : w38.cell? ⟨gb299, 3, none⟩ = some (.int .i64 0) := (blk_cell BK299.out 3).trans rfl; have hcz40_4 : w38.cell? ⟨gb299, 4, none⟩ = some (.int .i64 0) := (blk_cell BK299.out 4).trans rfl; have hcz40_5 : w38.cell? ⟨gb299, 5, none⟩ = some (.int .i64 0) := (blk_cell BK299.out 5).trans rfl; have hcz40_6 : w38.cell? ⟨gb299, 6, none⟩ = some (.bool false) := (blk_cell BK299.out 6).trans rfl; have hfz40_0 := blk_frozen BK299.out 0; have hfz40_1 := blk_frozen BK299.out 1; have hfz40_2 := blk_frozen BK299.out 2; have hfz40_3 := blk_frozen BK299.out 3; have hfz40_4 := blk_frozen BK299.out 4; have hfz40_5 := blk_frozen BK299.out 5; have hfz40_6 := blk_frozen BK299.out 6) | ((with_reducible refine gate_callee (f := 118) rfl ?_); refine goesL_ (some 51) rfl rfl Try.func118 (by kernel_rfl) rfl #[.agg #[.int .i64 ((rd_T132 l0_3 x46_2).f0), .int .i64 ((rd_T132 l0_3 x46_2).f1.f0), .int .i64 ((rd_T132 l0_3 x46_2).f1.f1), .int .i64 ((rd_T132 l0_3 x46_2).f2), .int .i64 ((rd_T132 l0_3 x46_2).f3), .int .i64 ((rd_T132 l0_3 x46_2).f4), .bool ((rd_T132 l0_3 x46_2).f5)]] rfl la_ ?_; (with_reducible refine (impl_IsGrant.calls ((rd_T132 l0_3 x46_2).f0) ((rd_T132 l0_3 x46_2).f1.f0) ((rd_T132 l0_3 x46_2).f1.f1) ((rd_T132 l0_3 x46_2).f2) ((rd_T132 l0_3 x46_2).f3) ((rd_T132 l0_3 x46_2).f4) ((rd_T132 l0_3 x46_2).f5) false _ A23.out).mono ?_); rintro e w41 ⟨rfl, hb⟩; refine ⟨_, rfl, ?_⟩; have n0_ := Aside0.mk (blk_below (g := gb294) (o := .cells #[.int .i64 a0_0, .int .i64 a0_1, .int .i64 a0_2, .slice (some ad298) l0_3.length c0_3, .slice A0_4 l0_4.length c0_4, .slice A0_5 l0_5.length c0_5, .slice A0_6 l0_6.length c0_6, .int .i64 a0_7] 66 (0, 0)) (by (with_reducible repeat (first | refine blk_drewN ?_ _ | refine blk_drew ?_ | refine blk_alloc ?_ _)); refine blk_far ?_ NB294_299.out _; (with_reducible repeat (first | refine blk_drewN ?_ _ | refine blk_drew ?_ | refine blk_alloc ?_ _)); refine blk_far ?_ NB294_299.out _; (with_reducible repeat (first | refine blk_drewN ?_ _ | refine blk_drew ?_ | refine blk_alloc ?_ _)); refine blk_far ?_ NB294_299.out _; (with_reducible repeat (first | refine blk_drewN ?_ _ | refine blk_drew ?_ | refine blk_alloc ?_ _)); refine blk_far ?_ NB294_299.out _; (with_reducible repeat (first | refine blk_drewN ?_ _ | refine blk_drew ?_ | refine blk_alloc ?_ _)); refine blk_far ?_ NB294_299.out _; (with_reducible repeat (first | refine blk_drewN ?_ _ | refine blk_drew ?_ | refine blk_alloc ?_ _)); refine blk_far ?_ NB294_299.out _; (with_reducible repeat (first | refine blk_drewN ?_ _ | refine blk_drew ?_ | refine blk_alloc ?_ _)); refine blk_far ?_ NB294_299.out _; (with_reducible repeat (first | refine blk_drewN ?_ _ | refine blk_drew ?_ | refine blk_alloc ?_ _)); exact BK294.out) hb); have n1_ := Aside0.mk (blk_below (g := gb299) (o := .cells #[.int .i64 ((rd_T132 l0_3 x46_2).f0), .int .i64 ((rd_T132 l0_3 x46_2).f1.f0), .int .i64 ((rd_T132 l0_3 x46_2).f1.f1), .int .i64 ((rd_T132 l0_3 x46_2).f2), .int .i64 ((rd_T132 l0_3 x46_2).f3), .int .i64 ((rd_T132 l0_3 x46_2).f4), .bool ((rd_T132 l0_3 x46_2).f5)] 132 (0, 0)) (by (with_reducible repeat (first | refine blk_drewN ?_ _ | refine blk_drew ?_ | refine blk_alloc ?_ _)); refine blk_put (cs := #[.int .i64 ((rd_T132 l0_3 x46_2).f0), .int .i64 ((rd_T132 l0_3 x46_2).f1.f0), .int .i64 ((rd_T132 l0_3 x46_2).f1.f1), .int .i64 ((rd_T132 l0_3 x46_2).f2), .int .i64 ((rd_T132 l0_3 x46_2).f3), .int .i64 ((rd_T132 l0_3 x46_2).f4), .bool false]) ?_ 6 _ rfl; (with_reducible repeat (first | refine blk_drewN ?_ _ | refine blk_drew ?_ | refine blk_alloc ?_ _)); refine blk_put (cs := #[.int .i64 ((rd_T132 l0_3 x46_2).f0), .int .i64 ((rd_T132 l0_3 x46_2).f1.f0), .int .i64 ((rd_T132 l0_3 x46_2).f1.f1), .int .i64 ((rd_T132 l0_3 x46_2).f2), .int .i64 ((rd_T132 l0_3 x46_2).f3), .int .i64 0, .bool false]) ?_ 5 _ rfl; (with_reducible repeat (first | refine blk_drewN ?_ _ | refine blk_drew ?_ | refine blk_alloc ?_ _)); refine blk_put (cs := #[.int .i64 ((rd_T132 l0_3 x46_2).f0), .int .i64 ((rd_T132 l0_3 x46_2).f1.f0), .int .i64 ((rd_T132 l0_3 x46_2).f1.f1), .int .i64 ((rd_T132 l0_3 x46_2).f2), .int .i64 0, .int .i64 0, .bool false]) ?_ 4 _ rfl; (with_reducible repeat (first | refine blk_drewN ?_ _ | refine blk_drew ?_ | refine blk_alloc ?_ _)); refine blk_put (cs := #[.int .i64 ((rd_T132 l0_3 x46_2).f0), .int .i64 ((rd_T132 l0_3 x46_2).f1.f0), .int .i64 ((rd_T132 l0_3 x46_2).f1.f1), .int .i64 0, .int .i64 0, .int .i64 0, .bool false]) ?_ 3 _ rfl; (with_reducible repeat (first | refine blk_drewN ?_ _ | refine blk_drew ?_ | refine blk_alloc ?_ _)); refine blk_put (cs := #[.int .i64 ((rd_T132 l0_3 x46_2).f0), .int .i64 ((rd_T132 l0_3 x46_2).f1.f0), .int .i64 0, .int .i64 0, .int .i64 0, .int .i64 0, .bool false]) ?_ 2 _ rfl; (with_reducible repeat (first | refine blk_drewN ?_ _ | refine blk_drew ?_ | refine blk_alloc ?_ _)); refine blk_put (cs := #[.int .i64 ((rd_T132 l0_3 x46_2).f0), .int .i64 0, .int .i64 0, .int .i64 0, .int .i64 0, .int .i64 0, .bool false]) ?_ 1 _ rfl; (with_reducible repeat (first | refine blk_drewN ?_ _ | refine blk_drew ?_ | refine blk_alloc ?_ _)); refine blk_put (cs := #[.int .i64 0, .int .i64 0, .int .i64 0, .int .i64 0, .int .i64 0, .int .i64 0, .bool false]) ?_ 0 _ rfl; (with_reducible repeat (first | refine blk_drewN ?_ _ | refine blk_drew ?_ | refine blk_alloc ?_ _)); exact BK299.out) hb); have n2_ := Aside0.mk (below_step hb_ hb); clear BK294; clear BK299; clear HB; have BK294 := n0_; have BK299 := n1_; have HB := n2_; clear n0_ n1_ n2_; (try clear hb); (try clear hb2); (try clear hk); (try clear hi)))
                    go_ret
                    exact ⟨by first | rfl | (simp [errW_none, errW_some] <;> rfl) | (simp [*, errW_none, errW_some] <;> rfl), hb_⟩
                · rw [if_neg c22] at H
                  exact absurd H (by simp)
              · rw [if_neg c21] at H
                exact absurd H (by simp)
            · rw [if_neg c20] at H
              have c20b0 : decide (x46_2 < (l0_3.length : Int)) = false := decide_eq_false c20
              clear c20
              have H' := Aside0.mk H
              clear H
              have hcz42_0 : wr.cell? ⟨gb294, 0, none⟩ = some (.int .i64 a0_0) := (blk_cell BK294.out 0).trans rfl
              have hcz42_1 : wr.cell? ⟨gb294, 1, none⟩ = some (.int .i64 a0_1) := (blk_cell BK294.out 1).trans rfl
              have hcz42_2 : wr.cell? ⟨gb294, 2, none⟩ = some (.int .i64 a0_2) := (blk_cell BK294.out 2).trans rfl
              have hcz42_3 : wr.cell? ⟨gb294, 3, none⟩ = some (.slice A0_3 l0_3.length c0_3) := (blk_cell BK294.out 3).trans rfl
              have hcz42_4 : wr.cell? ⟨gb294, 4, none⟩ = some (.slice A0_4 l0_4.length c0_4) := (blk_cell BK294.out 4).trans rfl
              have hcz42_5 : wr.cell? ⟨gb294, 5, none⟩ = some (.slice A0_5 l0_5.length c0_5) := (blk_cell BK294.out 5).trans rfl
              have hcz42_6 : wr.cell? ⟨gb294, 6, none⟩ = some (.slice A0_6 l0_6.length c0_6) := (blk_cell BK294.out 6).trans rfl
              have hcz42_7 : wr.cell? ⟨gb294, 7, none⟩ = some (.int .i64 a0_7) := (blk_cell BK294.out 7).trans rfl
              have hfz42_0 := blk_frozen BK294.out 0
              have hfz42_1 := blk_frozen BK294.out 1
              have hfz42_2 := blk_frozen BK294.out 2
              have hfz42_3 := blk_frozen BK294.out 3
              have hfz42_4 := blk_frozen BK294.out 4
              have hfz42_5 := blk_frozen BK294.out 5
              have hfz42_6 := blk_frozen BK294.out 6
              have hfz42_7 := blk_frozen BK294.out 7
              go_wp2
              go_loopg [64] k2 (fun kq v64 w' => ∃ (x64_3 : Int), v64 = .int .i64 x64_3 ∧ Aside0 (impl_IsPackage.l1 kq l0_4 (l0_4.length : Int) x64_3 a0_0 a0_1 a0_2 l0_3 l0_4 l0_5 l0_6 a0_7 = some r) ∧ Aside0 (kq ≤ k2) ∧ Aside0 (w'.heap[gb294]? = some (.cells #[.int .i64 a0_0, .int .i64 a0_1, .int .i64 a0_2, (.slice A0_3 l0_3.length c0_3), (.slice A0_4 l0_4.length c0_4), (.slice A0_5 l0_5.length c0_5), (.slice A0_6 l0_6.length c0_6), .int .i64 a0_7] 66 (0, 0))) ∧ Aside0 (Below w.heap.size w w'))
              case atStart => exact ⟨(0), (by first | rfl | (simp; done) | (simp [*]; done)), H', ⟨Nat.le_refl _⟩, ⟨by (with_reducible repeat (first | refine blk_drewN ?_ _ | refine blk_drew ?_ | refine blk_alloc ?_ _)); exact BK294.out⟩, ⟨hb_⟩⟩
              case round =>
                clear H'
                try clear c1
                try clear c2
                try clear p2
                try clear q2
                try clear hx2
                try clear c3
                try clear c5
                try clear p6
                try clear c7
                try clear c8
                try clear c9
                try clear c10
                try clear c10b0
                try clear c10b1
                try clear c11
                try clear c12
                try clear c12b0
                try clear c12b1
                try clear c18
                try clear c20
                try clear c20b0
                try clear c21
                try clear c21b0
                try clear c22
                try clear c22b0
                try clear c24
                try clear c25
                try clear c25b0
                try clear c25b1
                try clear c27
                try clear p29
                try clear q29
                try clear hx29
                try clear c33
                try clear c39
                try clear hcz11_0
                try clear hcz11_1
                try clear hcz11_2
                try clear hcz11_3
                try clear hcz11_4
                try clear hcz11_5
                try clear hcz11_6
                try clear hcz11_7
                try clear hcz13_0
                try clear hcz13_1
                try clear hcz13_2
                try clear hcz13_3
                try clear hcz13_4
                try clear hcz13_5
                try clear hcz13_6
                try clear hcz13_7
                try clear hcz14_0
                try clear hcz14_1
                try clear hcz14_2
                try clear hcz14_3
                try clear hcz14_4
                try clear hcz14_5
                try clear hcz14_6
                try clear hcz14_7
                try clear hcz15_0
                try clear hcz15_1
                try clear hcz15_2
                try clear hcz15_3
                try clear hcz15_4
                try clear hcz15_5
                try clear hcz15_6
                try clear hcz15_7
                try clear hcz16_0
                try clear hcz16_1
                try clear hcz16_2
                try clear hcz16_3
                try clear hcz16_4
                try clear hcz16_5
                try clear hcz16_6
                try clear hcz16_7
                try clear hcz17_0
                try clear hcz17_1
                try clear hcz17_2
                try clear hcz17_3
                try clear hcz17_4
                try clear hcz17_5
                try clear hcz17_6
                try clear hcz17_7
                try clear hcz19_0
                try clear hcz19_1
                try clear hcz19_2
                try clear hcz19_3
                try clear hcz19_4
                try clear hcz19_5
                try clear hcz19_6
                try clear hcz19_7
                try clear hcz28_0
                try clear hcz28_1
                try clear hcz28_2
                try clear hcz28_3
                try clear hcz28_4
                try clear hcz28_5
                try clear hcz28_6
                try clear hcz30_0
                try clear hcz30_1
                try clear hcz30_2
                try clear hcz30_3
                try clear hcz30_4
                try clear hcz30_5
                try clear hcz30_6
                try clear hcz31_0
                try clear hcz31_1
                try clear hcz31_2
                try clear hcz31_3
                try clear hcz31_4
                try clear hcz31_5
                try clear hcz31_6
                try clear hcz31_7
                try clear hcz34_0
                try clear hcz34_1
                try clear hcz34_2
                try clear hcz34_3
                try clear hcz34_4
                try clear hcz34_5
                try clear hcz34_6
                try clear hcz36_0
                try clear hcz36_1
                try clear hcz36_2
                try clear hcz36_3
                try clear hcz36_4
                try clear hcz36_5
                try clear hcz36_6
                try clear hcz37_0
                try clear hcz37_1
                try clear hcz37_2
                try clear hcz37_3
                try clear hcz37_4
                try clear hcz37_5
                try clear hcz37_6
                try clear hcz37_7
                try clear hcz40_0
                try clear hcz40_1
                try clear hcz40_2
                try clear hcz40_3
                try clear hcz40_4
                try clear hcz40_5
                try clear hcz40_6
                try clear hcz42_0
                try clear hcz42_1
                try clear hcz42_2
                try clear hcz42_3
                try clear hcz42_4
                try clear hcz42_5
                try clear hcz42_6
                try clear hcz42_7
                try clear hfz11_0
                try clear hfz11_1
                try clear hfz11_2
                try clear hfz11_3
                try clear hfz11_4
                try clear hfz11_5
                try clear hfz11_6
                try clear hfz11_7
                try clear hfz13_0
                try clear hfz13_1
                try clear hfz13_2
                try clear hfz13_3
                try clear hfz13_4
                try clear hfz13_5
                try clear hfz13_6
                try clear hfz13_7
                try clear hfz14_0
                try clear hfz14_1
                try clear hfz14_2
                try clear hfz14_3
                try clear hfz14_4
                try clear hfz14_5
                try clear hfz14_6
                try clear hfz14_7
                try clear hfz15_0
                try clear hfz15_1
                try clear hfz15_2
                try clear hfz15_3
                try clear hfz15_4
                try clear hfz15_5
                try clear hfz15_6
                try clear hfz15_7
                try clear hfz16_0
                try clear hfz16_1
                try clear hfz16_2
                try clear hfz16_3
                try clear hfz16_4
                try clear hfz16_5
                try clear hfz16_6
                try clear hfz16_7
                try clear hfz17_0
                try clear hfz17_1
                try clear hfz17_2
                try clear hfz17_3
                try clear hfz17_4
                try clear hfz17_5
                try clear hfz17_6
                try clear hfz17_7
                try clear hfz19_0
                try clear hfz19_1
                try clear hfz19_2
                try clear hfz19_3
                try clear hfz19_4
                try clear hfz19_5
                try clear hfz19_6
                try clear hfz19_7
                try clear hfz28_0
                try clear hfz28_1
                try clear hfz28_2
                try clear hfz28_3
                try clear hfz28_4
                try clear hfz28_5
                try clear hfz28_6
                try clear hfz30_0
                try clear hfz30_1
                try clear hfz30_2
                try clear hfz30_3
                try clear hfz30_4
                try clear hfz30_5
                try clear hfz30_6
                try clear hfz31_0
                try clear hfz31_1
                try clear hfz31_2
                try clear hfz31_3
                try clear hfz31_4
                try clear hfz31_5
                try clear hfz31_6
                try clear hfz31_7
                try clear hfz34_0
                try clear hfz34_1
                try clear hfz34_2
                try clear hfz34_3
                try clear hfz34_4
                try clear hfz34_5
                try clear hfz34_6
                try clear hfz36_0
                try clear hfz36_1
                try clear hfz36_2
                try clear hfz36_3
                try clear hfz36_4
                try clear hfz36_5
                try clear hfz36_6
                try clear hfz37_0
                try clear hfz37_1
                try clear hfz37_2
                try clear hfz37_3
                try clear hfz37_4
                try clear hfz37_5
                try clear hfz37_6
                try clear hfz37_7
                try clear hfz40_0
                try clear hfz40_1
                try clear hfz40_2
                try clear hfz40_3
                try clear hfz40_4
                try clear hfz40_5
                try clear hfz40_6
                try clear hfz42_0
                try clear hfz42_1
                try clear hfz42_2
                try clear hfz42_3
                try clear hfz42_4
                try clear hfz42_5
                try clear hfz42_6
                try clear hfz42_7
                try clear hx298_0
                try clear hx298_1
                try clear hx298_2
                try clear hx298_3
                try clear hx298_4
                try clear hx298_5
                try clear hx298_6
                try clear p2
                try clear p298
                try clear q298
                obtain ⟨x64_3, rfl, HA, HK3, BK294, HB⟩ := hrel
                cases gk with
                | zero => exact absurd HA.out (by simp [impl_IsPackage.l1])
                | succ k3 =>
                  have H := HA.out
                  clear HA
                  simp only [impl_IsPackage.l1] at H
                  by_cases c43 : x64_3 < (l0_4.length : Int)
                  · rw [if_pos c43] at H
                    have c43b0 : decide (x64_3 < (l0_4.length : Int)) = true := decide_eq_true c43
                    clear c43
                    by_cases c44 : 0 ≤ x64_3
                    · rw [if_pos c44] at H
                      have c44b0 : decide (0 ≤ x64_3) = true := decide_eq_true c44
                      clear c44
                      by_cases c45 : x64_3 < (l0_4.length : Int)
                      · rw [if_pos c45] at H
                        have c45b0 : decide (x64_3 < (l0_4.length : Int)) = true := decide_eq_true c45
                        clear c45
                        replace H := Option.bind_eq_some_iff.mp H
                        obtain ⟨t303, A460, H⟩ := H
                        replace H : (if t303 = true then (if ((rd_T120 l0_4 x64_3).f0) = a0_0 then (impl_IsPackage.l1 k3 l0_4 (l0_4.length : Int) (wrap64 (x64_3 + 1)) a0_0 a0_1 a0_2 l0_3 l0_4 l0_5 l0_6 a0_7) else (some false)) else (some false)) = some r := H
                        have A46 := Aside0.mk A460
                        clear A460
                        by_cases c47 : t303 = true
                        · subst c47
                          have H1 : (if ((rd_T120 l0_4 x64_3).f0) = a0_0 then (impl_IsPackage.l1 k3 l0_4 (l0_4.length : Int) (wrap64 (x64_3 + 1)) a0_0 a0_1 a0_2 l0_3 l0_4 l0_5 l0_6 a0_7) else (some false)) = some r := by rw [if_pos rfl] at H; exact H
                          clear H
                          have H := H1
                          clear H1
                          by_cases c48 : ((rd_T120 l0_4 x64_3).f0) = a0_0
                          · rw [if_pos c48] at H
                            have c48b0 : (((rd_T120 l0_4 x64_3).f0) == a0_0) = true := beq_iff_eq.mpr c48
                            have c48b1 : (((rd_T120 l0_4 x64_3).f0) != a0_0) = false := bne_eq_false_iff_eq.mpr c48
                            clear c48
                            have H' := Aside0.mk H
                            clear H
                            have p301 : 0 ≤ (x64_3 : Int) := of_decide_eq_true (by first | (with_reducible assumption) | assumption)
                            have q301 : x64_3 < (l0_4.length : Int) := of_decide_eq_true (by first | (with_reducible assumption) | assumption)
                            obtain ⟨ad301, e301, hx301_0, hx301_1, hx301_2⟩ := at_T120 HR0_4.out x64_3 p301 q301
                            cases e301
                            replace hx301_0 := (HB.out.cell (World.block_lt_of_cell? w _ hx301_0)).trans hx301_0
                            replace hx301_1 := (HB.out.cell (World.block_lt_of_cell? w _ hx301_1)).trans hx301_1
                            replace hx301_2 := (HB.out.cell (World.block_lt_of_cell? w _ hx301_2)).trans hx301_2
                            replace p301 := eq_true p301
                            replace q301 := eq_true q301
                            go_wp2_with (first | ((with_reducible refine gate_dst (N := 6) rfl ?_); (try (refine gate_guard (by rfl) ?_; dsimp only)); refine box_event ?hg (N := 6) ?hd (cs := #[.int .i64 0, .int .i64 0, .int .i64 0]) (t := 120) ?hr ?_; (case hd => rfl); (case hg => rfl); (case hr => first | (go_simp; done) | (go_simp; rfl)); intro gb302 hg w49 hbox hb; have n0_ := Aside0.mk (blk_below (g := gb294) bk_ hb); have n1_ := Aside0.mk (below_step hb_ hb); have n2_ := Aside0.mk (hbox); have n3_ := Aside0.mk ((by rw [hg]; exact (below_size hb_) : w.heap.size ≤ gb302)); have n4_ := Aside0.mk ((by rw [hg]; exact (below_size hb_) : w.heap.size ≤ gb302)); have n5_ := Aside0.mk ((by rw [hg]; exact Nat.ne_of_lt (blk_lt (g := gb294) bk_) : gb294 ≠ gb302)); have n6_ := Aside0.mk ((by rw [hg]; exact Nat.ne_of_gt (blk_lt (g := gb294) bk_) : gb302 ≠ gb294)); clear BK294; clear HB; have BK294 := n0_; have HB := n1_; have BK302 := n2_; have GW302 := n3_; have GE302 := n4_; have NB294_302 := n5_; have NB302_294 := n6_; clear n0_ n1_ n2_ n3_ n4_ n5_ n6_; clear hb hbox hg; have hnb50 := NB302_294.out; have hnc50 := NB294_302.out; have hcz51_0 : w49.cell? ⟨gb302, 0, none⟩ = some (.int .i64 0) := (blk_cell BK302.out 0).trans rfl; have hcz51_1 : w49.cell? ⟨gb302, 1, none⟩ = some (.int .i64 0) := (blk_cell BK302.out 1).trans rfl; have hcz51_2 : w49.cell? ⟨gb302, 2, none⟩ = some (.int .i64 0) := (blk_cell BK302.out 2).trans rfl; have hfz51_0 := blk_frozen BK302.out 0; have hfz51_1 := blk_frozen BK302.out 1; have hfz51_2 := blk_frozen BK302.out 2) | ((with_reducible refine gate_callee (f := 84) rfl ?_); refine goesL_ (some 69) rfl rfl Try.func84 (by kernel_rfl) rfl #[.agg #[.int .i64 ((rd_T120 l0_4 x64_3).f0), .int .i64 ((rd_T120 l0_4 x64_3).f1), .int .i64 ((rd_T120 l0_4 x64_3).f2)]] rfl la_ ?_; (with_reducible refine (impl_IsFlow.calls ((rd_T120 l0_4 x64_3).f0) ((rd_T120 l0_4 x64_3).f1) ((rd_T120 l0_4 x64_3).f2) true _ A46.out).mono ?_); rintro e w52 ⟨rfl, hb⟩; refine ⟨_, rfl, ?_⟩; have n0_ := Aside0.mk (blk_below (g := gb294) (o := .cells #[.int .i64 a0_0, .int .i64 a0_1, .int .i64 a0_2, .slice A0_3 l0_3.length c0_3, .slice (some ad301) l0_4.length c0_4, .slice A0_5 l0_5.length c0_5, .slice A0_6 l0_6.length c0_6, .int .i64 a0_7] 66 (0, 0)) (by (with_reducible repeat (first | refine blk_drewN ?_ _ | refine blk_drew ?_ | refine blk_alloc ?_ _)); refine blk_far ?_ NB294_302.out _; (with_reducible repeat (first | refine blk_drewN ?_ _ | refine blk_drew ?_ | refine blk_alloc ?_ _)); refine blk_far ?_ NB294_302.out _; (with_reducible repeat (first | refine blk_drewN ?_ _ | refine blk_drew ?_ | refine blk_alloc ?_ _)); refine blk_far ?_ NB294_302.out _; (with_reducible repeat (first | refine blk_drewN ?_ _ | refine blk_drew ?_ | refine blk_alloc ?_ _)); exact BK294.out) hb); have n1_ := Aside0.mk (blk_below (g := gb302) (o := .cells #[.int .i64 ((rd_T120 l0_4 x64_3).f0), .int .i64 ((rd_T120 l0_4 x64_3).f1), .int .i64 ((rd_T120 l0_4 x64_3).f2)] 120 (0, 0)) (by (with_reducible repeat (first | refine blk_drewN ?_ _ | refine blk_drew ?_ | refine blk_alloc ?_ _)); refine blk_put (cs := #[.int .i64 ((rd_T120 l0_4 x64_3).f0), .int .i64 ((rd_T120 l0_4 x64_3).f1), .int .i64 0]) ?_ 2 _ rfl; (with_reducible repeat (first | refine blk_drewN ?_ _ | refine blk_drew ?_ | refine blk_alloc ?_ _)); refine blk_put (cs := #[.int .i64 ((rd_T120 l0_4 x64_3).f0), .int .i64 0, .int .i64 0]) ?_ 1 _ rfl; (with_reducible repeat (first | refine blk_drewN ?_ _ | refine blk_drew ?_ | refine blk_alloc ?_ _)); refine blk_put (cs := #[.int .i64 0, .int .i64 0, .int .i64 0]) ?_ 0 _ rfl; (with_reducible repeat (first | refine blk_drewN ?_ _ | refine blk_drew ?_ | refine blk_alloc ?_ _)); exact BK302.out) hb); have n2_ := Aside0.mk (below_step hb_ hb); clear BK294; clear BK302; clear HB; have BK294 := n0_; have BK302 := n1_; have HB := n2_; clear n0_ n1_ n2_; (try clear hb); (try clear hb2); (try clear hk); (try clear hi); have hcz53_0 : w52.cell? ⟨gb302, 0, none⟩ = some (.int .i64 ((rd_T120 l0_4 x64_3).f0)) := (blk_cell BK302.out 0).trans rfl; have hcz53_1 : w52.cell? ⟨gb302, 1, none⟩ = some (.int .i64 ((rd_T120 l0_4 x64_3).f1)) := (blk_cell BK302.out 1).trans rfl; have hcz53_2 : w52.cell? ⟨gb302, 2, none⟩ = some (.int .i64 ((rd_T120 l0_4 x64_3).f2)) := (blk_cell BK302.out 2).trans rfl; have hfz53_0 := blk_frozen BK302.out 0; have hfz53_1 := blk_frozen BK302.out 1; have hfz53_2 := blk_frozen BK302.out 2; have hcz54_0 : w52.cell? ⟨gb294, 0, none⟩ = some (.int .i64 a0_0) := (blk_cell BK294.out 0).trans rfl; have hcz54_1 : w52.cell? ⟨gb294, 1, none⟩ = some (.int .i64 a0_1) := (blk_cell BK294.out 1).trans rfl; have hcz54_2 : w52.cell? ⟨gb294, 2, none⟩ = some (.int .i64 a0_2) := (blk_cell BK294.out 2).trans rfl; have hcz54_3 : w52.cell? ⟨gb294, 3, none⟩ = some (.slice A0_3 l0_3.length c0_3) := (blk_cell BK294.out 3).trans rfl; have hcz54_4 : w52.cell? ⟨gb294, 4, none⟩ = some (.slice (some ad301) l0_4.length c0_4) := (blk_cell BK294.out 4).trans rfl; have hcz54_5 : w52.cell? ⟨gb294, 5, none⟩ = some (.slice A0_5 l0_5.length c0_5) := (blk_cell BK294.out 5).trans rfl; have hcz54_6 : w52.cell? ⟨gb294, 6, none⟩ = some (.slice A0_6 l0_6.length c0_6) := (blk_cell BK294.out 6).trans rfl; have hcz54_7 : w52.cell? ⟨gb294, 7, none⟩ = some (.int .i64 a0_7) := (blk_cell BK294.out 7).trans rfl; have hfz54_0 := blk_frozen BK294.out 0; have hfz54_1 := blk_frozen BK294.out 1; have hfz54_2 := blk_frozen BK294.out 2; have hfz54_3 := blk_frozen BK294.out 3; have hfz54_4 := blk_frozen BK294.out 4; have hfz54_5 := blk_frozen BK294.out 5; have hfz54_6 := blk_frozen BK294.out 6; have hfz54_7 := blk_frozen BK294.out 7))
                            go_roundg k3
                            case measure => have := HJ1.out; have := HK2.out; have := HK3.out; omega
                            case rel => exact ⟨(wrap64 (x64_3 + 1)), (by first | rfl | (simp; done) | (simp [*]; done)), H', ⟨by have := HJ1.out; have := HK2.out; have := HK3.out; omega⟩, ⟨by (with_reducible repeat (first | refine blk_drewN ?_ _ | refine blk_drew ?_ | refine blk_alloc ?_ _)); exact BK294.out⟩, ⟨hb_⟩⟩
                          · rw [if_neg c48] at H
                            have c48b0 : (((rd_T120 l0_4 x64_3).f0) == a0_0) = false := beq_eq_false_iff_ne.mpr c48
                            have c48b1 : (((rd_T120 l0_4 x64_3).f0) != a0_0) = true := bne_iff_ne.mpr c48
                            obtain rfl := Option.some.inj H
                            have p301 : 0 ≤ (x64_3 : Int) := of_decide_eq_true (by first | (with_reducible assumption) | assumption)
                            have q301 : x64_3 < (l0_4.length : Int) := of_decide_eq_true (by first | (with_reducible assumption) | assumption)
                            obtain ⟨ad301, e301, hx301_0, hx301_1, hx301_2⟩ := at_T120 HR0_4.out x64_3 p301 q301
                            cases e301
                            replace hx301_0 := (HB.out.cell (World.block_lt_of_cell? w _ hx301_0)).trans hx301_0
                            replace hx301_1 := (HB.out.cell (World.block_lt_of_cell? w _ hx301_1)).trans hx301_1
                            replace hx301_2 := (HB.out.cell (World.block_lt_of_cell? w _ hx301_2)).trans hx301_2
                            replace p301 := eq_true p301
                            replace q301 := eq_true q301
                            go_wp2_with (first | ((with_reducible refine gate_dst (N := 6) rfl ?_); (try (refine gate_guard (by rfl) ?_; dsimp only)); refine box_event ?hg (N := 6) ?hd (cs := #[.int .i64 0, .int .i64 0, .int .i64 0]) (t := 120) ?hr ?_; (case hd => rfl); (case hg => rfl); (case hr => first | (go_simp; done) | (go_simp; rfl)); intro gb302 hg w55 hbox hb; have n0_ := Aside0.mk (blk_below (g := gb294) bk_ hb); have n1_ := Aside0.mk (below_step hb_ hb); have n2_ := Aside0.mk (hbox); have n3_ := Aside0.mk ((by rw [hg]; exact (below_size hb_) : w.heap.size ≤ gb302)); have n4_ := Aside0.mk ((by rw [hg]; exact (below_size hb_) : w.heap.size ≤ gb302)); have n5_ := Aside0.mk ((by rw [hg]; exact Nat.ne_of_lt (blk_lt (g := gb294) bk_) : gb294 ≠ gb302)); have n6_ := Aside0.mk ((by rw [hg]; exact Nat.ne_of_gt (blk_lt (g := gb294) bk_) : gb302 ≠ gb294)); clear BK294; clear HB; have BK294 := n0_; have HB := n1_; have BK302 := n2_; have GW302 := n3_; have GE302 := n4_; have NB294_302 := n5_; have NB302_294 := n6_; clear n0_ n1_ n2_ n3_ n4_ n5_ n6_; clear hb hbox hg; have hnb56 := NB302_294.out; have hnc56 := NB294_302.out; have hcz57_0 : w55.cell? ⟨gb302, 0, none⟩ = some (.int .i64 0) := (blk_cell BK302.out 0).trans rfl; have hcz57_1 : w55.cell? ⟨gb302, 1, none⟩ = some (.int .i64 0) := (blk_cell BK302.out 1).trans rfl; have hcz57_2 : w55.cell? ⟨gb302, 2, none⟩ = some (.int .i64 0) := (blk_cell BK302.out 2).trans rfl; have hfz57_0 := blk_frozen BK302.out 0; have hfz57_1 := blk_frozen BK302.out 1; have hfz57_2 := blk_frozen BK302.out 2) | ((with_reducible refine gate_callee (f := 84) rfl ?_); refine goesL_ (some 69) rfl rfl Try.func84 (by kernel_rfl) rfl #[.agg #[.int .i64 ((rd_T120 l0_4 x64_3).f0), .int .i64 ((rd_T120 l0_4 x64_3).f1), .int .i64 ((rd_T120 l0_4 x64_3).f2)]] rfl la_ ?_; (with_reducible refine (impl_IsFlow.calls ((rd_T120 l0_4 x64_3).f0) ((rd_T120 l0_4 x64_3).f1) ((rd_T120 l0_4 x64_3).f2) true _ A46.out).mono ?_); rintro e w58 ⟨rfl, hb⟩; refine ⟨_, rfl, ?_⟩; have n0_ := Aside0.mk (blk_below (g := gb294) (o := .cells #[.int .i64 a0_0, .int .i64 a0_1, .int .i64 a0_2, .slice A0_3 l0_3.length c0_3, .slice (some ad301) l0_4.length c0_4, .slice A0_5 l0_5.length c0_5, .slice A0_6 l0_6.length c0_6, .int .i64 a0_7] 66 (0, 0)) (by (with_reducible repeat (first | refine blk_drewN ?_ _ | refine blk_drew ?_ | refine blk_alloc ?_ _)); refine blk_far ?_ NB294_302.out _; (with_reducible repeat (first | refine blk_drewN ?_ _ | refine blk_drew ?_ | refine blk_alloc ?_ _)); refine blk_far ?_ NB294_302.out _; (with_reducible repeat (first | refine blk_drewN ?_ _ | refine blk_drew ?_ | refine blk_alloc ?_ _)); refine blk_far ?_ NB294_302.out _; (with_reducible repeat (first | refine blk_drewN ?_ _ | refine blk_drew ?_ | refine blk_alloc ?_ _)); exact BK294.out) hb); have n1_ := Aside0.mk (blk_below (g := gb302) (o := .cells #[.int .i64 ((rd_T120 l0_4 x64_3).f0), .int .i64 ((rd_T120 l0_4 x64_3).f1), .int .i64 ((rd_T120 l0_4 x64_3).f2)] 120 (0, 0)) (by (with_reducible repeat (first | refine blk_drewN ?_ _ | refine blk_drew ?_ | refine blk_alloc ?_ _)); refine blk_put (cs := #[.int .i64 ((rd_T120 l0_4 x64_3).f0), .int .i64 ((rd_T120 l0_4 x64_3).f1), .int .i64 0]) ?_ 2 _ rfl; (with_reducible repeat (first | refine blk_drewN ?_ _ | refine blk_drew ?_ | refine blk_alloc ?_ _)); refine blk_put (cs := #[.int .i64 ((rd_T120 l0_4 x64_3).f0), .int .i64 0, .int .i64 0]) ?_ 1 _ rfl; (with_reducible repeat (first | refine blk_drewN ?_ _ | refine blk_drew ?_ | refine blk_alloc ?_ _)); refine blk_put (cs := #[.int .i64 0, .int .i64 0, .int .i64 0]) ?_ 0 _ rfl; (with_reducible repeat (first | refine blk_drewN ?_ _ | refine blk_drew ?_ | refine blk_alloc ?_ _)); exact BK302.out) hb); have n2_ := Aside0.mk (below_step hb_ hb); clear BK294; clear BK302; clear HB; have BK294 := n0_; have BK302 := n1_; have HB := n2_; clear n0_ n1_ n2_; (try clear hb); (try clear hb2); (try clear hk); (try clear hi); have hcz59_0 : w58.cell? ⟨gb302, 0, none⟩ = some (.int .i64 ((rd_T120 l0_4 x64_3).f0)) := (blk_cell BK302.out 0).trans rfl; have hcz59_1 : w58.cell? ⟨gb302, 1, none⟩ = some (.int .i64 ((rd_T120 l0_4 x64_3).f1)) := (blk_cell BK302.out 1).trans rfl; have hcz59_2 : w58.cell? ⟨gb302, 2, none⟩ = some (.int .i64 ((rd_T120 l0_4 x64_3).f2)) := (blk_cell BK302.out 2).trans rfl; have hfz59_0 := blk_frozen BK302.out 0; have hfz59_1 := blk_frozen BK302.out 1; have hfz59_2 := blk_frozen BK302.out 2; have hcz60_0 : w58.cell? ⟨gb294, 0, none⟩ = some (.int .i64 a0_0) := (blk_cell BK294.out 0).trans rfl; have hcz60_1 : w58.cell? ⟨gb294, 1, none⟩ = some (.int .i64 a0_1) := (blk_cell BK294.out 1).trans rfl; have hcz60_2 : w58.cell? ⟨gb294, 2, none⟩ = some (.int .i64 a0_2) := (blk_cell BK294.out 2).trans rfl; have hcz60_3 : w58.cell? ⟨gb294, 3, none⟩ = some (.slice A0_3 l0_3.length c0_3) := (blk_cell BK294.out 3).trans rfl; have hcz60_4 : w58.cell? ⟨gb294, 4, none⟩ = some (.slice (some ad301) l0_4.length c0_4) := (blk_cell BK294.out 4).trans rfl; have hcz60_5 : w58.cell? ⟨gb294, 5, none⟩ = some (.slice A0_5 l0_5.length c0_5) := (blk_cell BK294.out 5).trans rfl; have hcz60_6 : w58.cell? ⟨gb294, 6, none⟩ = some (.slice A0_6 l0_6.length c0_6) := (blk_cell BK294.out 6).trans rfl; have hcz60_7 : w58.cell? ⟨gb294, 7, none⟩ = some (.int .i64 a0_7) := (blk_cell BK294.out 7).trans rfl; have hfz60_0 := blk_frozen BK294.out 0; have hfz60_1 := blk_frozen BK294.out 1; have hfz60_2 := blk_frozen BK294.out 2; have hfz60_3 := blk_frozen BK294.out 3; have hfz60_4 := blk_frozen BK294.out 4; have hfz60_5 := blk_frozen BK294.out 5; have hfz60_6 := blk_frozen BK294.out 6; have hfz60_7 := blk_frozen BK294.out 7))
                            go_ret
                            exact ⟨by first | rfl | (simp [errW_none, errW_some] <;> rfl) | (simp [*, errW_none, errW_some] <;> rfl), hb_⟩
                        · replace c47 := Bool.eq_false_iff.mpr c47
                          subst c47
                          have H1 : (some false) = some r := by rw [if_neg (show ¬ (false = true) by decide)] at H; exact H
                          clear H
                          have H := H1
                          clear H1
                          obtain rfl := Option.some.inj H
                          have p301 : 0 ≤ (x64_3 : Int) := of_decide_eq_true (by first | (with_reducible assumption) | assumption)
                          have q301 : x64_3 < (l0_4.length : Int) := of_decide_eq_true (by first | (with_reducible assumption) | assumption)
                          obtain ⟨ad301, e301, hx301_0, hx301_1, hx301_2⟩ := at_T120 HR0_4.out x64_3 p301 q301
                          cases e301
                          replace hx301_0 := (HB.out.cell (World.block_lt_of_cell? w _ hx301_0)).trans hx301_0
                          replace hx301_1 := (HB.out.cell (World.block_lt_of_cell? w _ hx301_1)).trans hx301_1
                          replace hx301_2 := (HB.out.cell (World.block_lt_of_cell? w _ hx301_2)).trans hx301_2
                          replace p301 := eq_true p301
                          replace q301 := eq_true q301
                          go_wp2_with (first | ((with_reducible refine gate_dst (N := 6) rfl ?_); (try (refine gate_guard (by rfl) ?_; dsimp only)); refine box_event ?hg (N := 6) ?hd (cs := #[.int .i64 0, .int .i64 0, .int .i64 0]) (t := 120) ?hr ?_; (case hd => rfl); (case hg => rfl); (case hr => first | (go_simp; done) | (go_simp; rfl)); intro gb302 hg w61 hbox hb; have n0_ := Aside0.mk (blk_below (g := gb294) bk_ hb); have n1_ := Aside0.mk (below_step hb_ hb); have n2_ := Aside0.mk (hbox); have n3_ := Aside0.mk ((by rw [hg]; exact (below_size hb_) : w.heap.size ≤ gb302)); have n4_ := Aside0.mk ((by rw [hg]; exact (below_size hb_) : w.heap.size ≤ gb302)); have n5_ := Aside0.mk ((by rw [hg]; exact Nat.ne_of_lt (blk_lt (g := gb294) bk_) : gb294 ≠ gb302)); have n6_ := Aside0.mk ((by rw [hg]; exact Nat.ne_of_gt (blk_lt (g := gb294) bk_) : gb302 ≠ gb294)); clear BK294; clear HB; have BK294 := n0_; have HB := n1_; have BK302 := n2_; have GW302 := n3_; have GE302 := n4_; have NB294_302 := n5_; have NB302_294 := n6_; clear n0_ n1_ n2_ n3_ n4_ n5_ n6_; clear hb hbox hg; have hnb62 := NB302_294.out; have hnc62 := NB294_302.out; have hcz63_0 : w61.cell? ⟨gb302, 0, none⟩ = some (.int .i64 0) := (blk_cell BK302.out 0).trans rfl; have hcz63_1 : w61.cell? ⟨gb302, 1, none⟩ = some (.int .i64 0) := (blk_cell BK302.out 1).trans rfl; have hcz63_2 : w61.cell? ⟨gb302, 2, none⟩ = some (.int .i64 0) := (blk_cell BK302.out 2).trans rfl; have hfz63_0 := blk_frozen BK302.out 0; have hfz63_1 := blk_frozen BK302.out 1; have hfz63_2 := blk_frozen BK302.out 2) | ((with_reducible refine gate_callee (f := 84) rfl ?_); refine goesL_ (some 69) rfl rfl Try.func84 (by kernel_rfl) rfl #[.agg #[.int .i64 ((rd_T120 l0_4 x64_3).f0), .int .i64 ((rd_T120 l0_4 x64_3).f1), .int .i64 ((rd_T120 l0_4 x64_3).f2)]] rfl la_ ?_; (with_reducible refine (impl_IsFlow.calls ((rd_T120 l0_4 x64_3).f0) ((rd_T120 l0_4 x64_3).f1) ((rd_T120 l0_4 x64_3).f2) false _ A46.out).mono ?_); rintro e w64 ⟨rfl, hb⟩; refine ⟨_, rfl, ?_⟩; have n0_ := Aside0.mk (blk_below (g := gb294) (o := .cells #[.int .i64 a0_0, .int .i64 a0_1, .int .i64 a0_2, .slice A0_3 l0_3.length c0_3, .slice (some ad301) l0_4.length c0_4, .slice A0_5 l0_5.length c0_5, .slice A0_6 l0_6.length c0_6, .int .i64 a0_7] 66 (0, 0)) (by (with_reducible repeat (first | refine blk_drewN ?_ _ | refine blk_drew ?_ | refine blk_alloc ?_ _)); refine blk_far ?_ NB294_302.out _; (with_reducible repeat (first | refine blk_drewN ?_ _ | refine blk_drew ?_ | refine blk_alloc ?_ _)); refine blk_far ?_ NB294_302.out _; (with_reducible repeat (first | refine blk_drewN ?_ _ | refine blk_drew ?_ | refine blk_alloc ?_ _)); refine blk_far ?_ NB294_302.out _; (with_reducible repeat (first | refine blk_drewN ?_ _ | refine blk_drew ?_ | refine blk_alloc ?_ _)); exact BK294.out) hb); have n1_ := Aside0.mk (blk_below (g := gb302) (o := .cells #[.int .i64 ((rd_T120 l0_4 x64_3).f0), .int .i64 ((rd_T120 l0_4 x64_3).f1), .int .i64 ((rd_T120 l0_4 x64_3).f2)] 120 (0, 0)) (by (with_reducible repeat (first | refine blk_drewN ?_ _ | refine blk_drew ?_ | refine blk_alloc ?_ _)); refine blk_put (cs := #[.int .i64 ((rd_T120 l0_4 x64_3).f0), .int .i64 ((rd_T120 l0_4 x64_3).f1), .int .i64 0]) ?_ 2 _ rfl; (with_reducible repeat (first | refine blk_drewN ?_ _ | refine blk_drew ?_ | refine blk_alloc ?_ _)); refine blk_put (cs := #[.int .i64 ((rd_T120 l0_4 x64_3).f0), .int .i64 0, .int .i64 0]) ?_ 1 _ rfl; (with_reducible repeat (first | refine blk_drewN ?_ _ | refine blk_drew ?_ | refine blk_alloc ?_ _)); refine blk_put (cs := #[.int .i64 0, .int .i64 0, .int .i64 0]) ?_ 0 _ rfl; (with_reducible repeat (first | refine blk_drewN ?_ _ | refine blk_drew ?_ | refine blk_alloc ?_ _)); exact BK302.out) hb); have n2_ := Aside0.mk (below_step hb_ hb); clear BK294; clear BK302; clear HB; have BK294 := n0_; have BK302 := n1_; have HB := n2_; clear n0_ n1_ n2_; (try clear hb); (try clear hb2); (try clear hk); (try clear hi)))
                          go_ret
                          exact ⟨by first | rfl | (simp [errW_none, errW_some] <;> rfl) | (simp [*, errW_none, errW_some] <;> rfl), hb_⟩
                      · rw [if_neg c45] at H
                        exact absurd H (by simp)
                    · rw [if_neg c44] at H
                      exact absurd H (by simp)
                  · rw [if_neg c43] at H
                    have c43b0 : decide (x64_3 < (l0_4.length : Int)) = false := decide_eq_false c43
                    clear c43
                    have H' := Aside0.mk H
                    clear H
                    have hcz65_0 : wr.cell? ⟨gb294, 0, none⟩ = some (.int .i64 a0_0) := (blk_cell BK294.out 0).trans rfl
                    have hcz65_1 : wr.cell? ⟨gb294, 1, none⟩ = some (.int .i64 a0_1) := (blk_cell BK294.out 1).trans rfl
                    have hcz65_2 : wr.cell? ⟨gb294, 2, none⟩ = some (.int .i64 a0_2) := (blk_cell BK294.out 2).trans rfl
                    have hcz65_3 : wr.cell? ⟨gb294, 3, none⟩ = some (.slice A0_3 l0_3.length c0_3) := (blk_cell BK294.out 3).trans rfl
                    have hcz65_4 : wr.cell? ⟨gb294, 4, none⟩ = some (.slice A0_4 l0_4.length c0_4) := (blk_cell BK294.out 4).trans rfl
                    have hcz65_5 : wr.cell? ⟨gb294, 5, none⟩ = some (.slice A0_5 l0_5.length c0_5) := (blk_cell BK294.out 5).trans rfl
                    have hcz65_6 : wr.cell? ⟨gb294, 6, none⟩ = some (.slice A0_6 l0_6.length c0_6) := (blk_cell BK294.out 6).trans rfl
                    have hcz65_7 : wr.cell? ⟨gb294, 7, none⟩ = some (.int .i64 a0_7) := (blk_cell BK294.out 7).trans rfl
                    have hfz65_0 := blk_frozen BK294.out 0
                    have hfz65_1 := blk_frozen BK294.out 1
                    have hfz65_2 := blk_frozen BK294.out 2
                    have hfz65_3 := blk_frozen BK294.out 3
                    have hfz65_4 := blk_frozen BK294.out 4
                    have hfz65_5 := blk_frozen BK294.out 5
                    have hfz65_6 := blk_frozen BK294.out 6
                    have hfz65_7 := blk_frozen BK294.out 7
                    go_wp2
                    go_loopg [82] k3 (fun kq v82 w' => ∃ (x82_4 : Int), v82 = .int .i64 x82_4 ∧ Aside0 (impl_IsPackage.l2 kq l0_5 (l0_5.length : Int) x82_4 a0_0 a0_1 a0_2 l0_3 l0_4 l0_5 l0_6 a0_7 = some r) ∧ Aside0 (kq ≤ k3) ∧ Aside0 (w'.heap[gb294]? = some (.cells #[.int .i64 a0_0, .int .i64 a0_1, .int .i64 a0_2, (.slice A0_3 l0_3.length c0_3), (.slice A0_4 l0_4.length c0_4), (.slice A0_5 l0_5.length c0_5), (.slice A0_6 l0_6.length c0_6), .int .i64 a0_7] 66 (0, 0))) ∧ Aside0 (Below w.heap.size w w'))
                    case atStart => exact ⟨(0), (by first | rfl | (simp; done) | (simp [*]; done)), H', ⟨Nat.le_refl _⟩, ⟨by (with_reducible repeat (first | refine blk_drewN ?_ _ | refine blk_drew ?_ | refine blk_alloc ?_ _)); exact BK294.out⟩, ⟨hb_⟩⟩
                    case round =>
                      clear H'
                      try clear c1
                      try clear c2
                      try clear p2
                      try clear q2
                      try clear hx2
                      try clear c3
                      try clear p3
                      try clear q3
                      try clear hx3
                      try clear c4
                      try clear c5
                      try clear c6
                      try clear p6
                      try clear c7
                      try clear c8
                      try clear c9
                      try clear c10
                      try clear c10b0
                      try clear c10b1
                      try clear c11
                      try clear c12
                      try clear c12b0
                      try clear c12b1
                      try clear c18
                      try clear c20
                      try clear c20b0
                      try clear c21
                      try clear c21b0
                      try clear c22
                      try clear c22b0
                      try clear c24
                      try clear c25
                      try clear c25b0
                      try clear c25b1
                      try clear c27
                      try clear p29
                      try clear q29
                      try clear hx29
                      try clear p30
                      try clear q30
                      try clear hx30
                      try clear c33
                      try clear c39
                      try clear c43
                      try clear c43b0
                      try clear c44
                      try clear c44b0
                      try clear c45
                      try clear c45b0
                      try clear c47
                      try clear c48
                      try clear c48b0
                      try clear c48b1
                      try clear c50
                      try clear c56
                      try clear c62
                      try clear p64
                      try clear hcz11_0
                      try clear hcz11_1
                      try clear hcz11_2
                      try clear hcz11_3
                      try clear hcz11_4
                      try clear hcz11_5
                      try clear hcz11_6
                      try clear hcz11_7
                      try clear hcz13_0
                      try clear hcz13_1
                      try clear hcz13_2
                      try clear hcz13_3
                      try clear hcz13_4
                      try clear hcz13_5
                      try clear hcz13_6
                      try clear hcz13_7
                      try clear hcz14_0
                      try clear hcz14_1
                      try clear hcz14_2
                      try clear hcz14_3
                      try clear hcz14_4
                      try clear hcz14_5
                      try clear hcz14_6
                      try clear hcz14_7
                      try clear hcz15_0
                      try clear hcz15_1
                      try clear hcz15_2
                      try clear hcz15_3
                      try clear hcz15_4
                      try clear hcz15_5
                      try clear hcz15_6
                      try clear hcz15_7
                      try clear hcz16_0
                      try clear hcz16_1
                      try clear hcz16_2
                      try clear hcz16_3
                      try clear hcz16_4
                      try clear hcz16_5
                      try clear hcz16_6
                      try clear hcz16_7
                      try clear hcz17_0
                      try clear hcz17_1
                      try clear hcz17_2
                      try clear hcz17_3
                      try clear hcz17_4
                      try clear hcz17_5
                      try clear hcz17_6
                      try clear hcz17_7
                      try clear hcz19_0
                      try clear hcz19_1
                      try clear hcz19_2
                      try clear hcz19_3
                      try clear hcz19_4
                      try clear hcz19_5
                      try clear hcz19_6
                      try clear hcz19_7
                      try clear hcz28_0
                      try clear hcz28_1
                      try clear hcz28_2
                      try clear hcz28_3
                      try clear hcz28_4
                      try clear hcz28_5
                      try clear hcz28_6
                      try clear hcz30_0
                      try clear hcz30_1
                      try clear hcz30_2
                      try clear hcz30_3
                      try clear hcz30_4
                      try clear hcz30_5
                      try clear hcz30_6
                      try clear hcz31_0
                      try clear hcz31_1
                      try clear hcz31_2
                      try clear hcz31_3
                      try clear hcz31_4
                      try clear hcz31_5
                      try clear hcz31_6
                      try clear hcz31_7
                      try clear hcz34_0
                      try clear hcz34_1
                      try clear hcz34_2
                      try clear hcz34_3
                      try clear hcz34_4
                      try clear hcz34_5
                      try clear hcz34_6
                      try clear hcz36_0
                      try clear hcz36_1
                      try clear hcz36_2
                      try clear hcz36_3
                      try clear hcz36_4
                      try clear hcz36_5
                      try clear hcz36_6
                      try clear hcz37_0
                      try clear hcz37_1
                      try clear hcz37_2
                      try clear hcz37_3
                      try clear hcz37_4
                      try clear hcz37_5
                      try clear hcz37_6
                      try clear hcz37_7
                      try clear hcz40_0
                      try clear hcz40_1
                      try clear hcz40_2
                      try clear hcz40_3
                      try clear hcz40_4
                      try clear hcz40_5
                      try clear hcz40_6
                      try clear hcz42_0
                      try clear hcz42_1
                      try clear hcz42_2
                      try clear hcz42_3
                      try clear hcz42_4
                      try clear hcz42_5
                      try clear hcz42_6
                      try clear hcz42_7
                      try clear hcz51_0
                      try clear hcz51_1
                      try clear hcz51_2
                      try clear hcz53_0
                      try clear hcz53_1
                      try clear hcz53_2
                      try clear hcz54_0
                      try clear hcz54_1
                      try clear hcz54_2
                      try clear hcz54_3
                      try clear hcz54_4
                      try clear hcz54_5
                      try clear hcz54_6
                      try clear hcz54_7
                      try clear hcz57_0
                      try clear hcz57_1
                      try clear hcz57_2
                      try clear hcz59_0
                      try clear hcz59_1
                      try clear hcz59_2
                      try clear hcz60_0
                      try clear hcz60_1
                      try clear hcz60_2
                      try clear hcz60_3
                      try clear hcz60_4
                      try clear hcz60_5
                      try clear hcz60_6
                      try clear hcz60_7
                      try clear hcz63_0
                      try clear hcz63_1
                      try clear hcz63_2
                      try clear hcz65_0
                      try clear hcz65_1
                      try clear hcz65_2
                      try clear hcz65_3
                      try clear hcz65_4
                      try clear hcz65_5
                      try clear hcz65_6
                      try clear hcz65_7
                      try clear hfz11_0
                      try clear hfz11_1
                      try clear hfz11_2
                      try clear hfz11_3
                      try clear hfz11_4
                      try clear hfz11_5
                      try clear hfz11_6
                      try clear hfz11_7
                      try clear hfz13_0
                      try clear hfz13_1
                      try clear hfz13_2
                      try clear hfz13_3
                      try clear hfz13_4
                      try clear hfz13_5
                      try clear hfz13_6
                      try clear hfz13_7
                      try clear hfz14_0
                      try clear hfz14_1
                      try clear hfz14_2
                      try clear hfz14_3
                      try clear hfz14_4
                      try clear hfz14_5
                      try clear hfz14_6
                      try clear hfz14_7
                      try clear hfz15_0
                      try clear hfz15_1
                      try clear hfz15_2
                      try clear hfz15_3
                      try clear hfz15_4
                      try clear hfz15_5
                      try clear hfz15_6
                      try clear hfz15_7
                      try clear hfz16_0
                      try clear hfz16_1
                      try clear hfz16_2
                      try clear hfz16_3
                      try clear hfz16_4
                      try clear hfz16_5
                      try clear hfz16_6
                      try clear hfz16_7
                      try clear hfz17_0
                      try clear hfz17_1
                      try clear hfz17_2
                      try clear hfz17_3
                      try clear hfz17_4
                      try clear hfz17_5
                      try clear hfz17_6
                      try clear hfz17_7
                      try clear hfz19_0
                      try clear hfz19_1
                      try clear hfz19_2
                      try clear hfz19_3
                      try clear hfz19_4
                      try clear hfz19_5
                      try clear hfz19_6
                      try clear hfz19_7
                      try clear hfz28_0
                      try clear hfz28_1
                      try clear hfz28_2
                      try clear hfz28_3
                      try clear hfz28_4
                      try clear hfz28_5
                      try clear hfz28_6
                      try clear hfz30_0
                      try clear hfz30_1
                      try clear hfz30_2
                      try clear hfz30_3
                      try clear hfz30_4
                      try clear hfz30_5
                      try clear hfz30_6
                      try clear hfz31_0
                      try clear hfz31_1
                      try clear hfz31_2
                      try clear hfz31_3
                      try clear hfz31_4
                      try clear hfz31_5
                      try clear hfz31_6
                      try clear hfz31_7
                      try clear hfz34_0
                      try clear hfz34_1
                      try clear hfz34_2
                      try clear hfz34_3
                      try clear hfz34_4
                      try clear hfz34_5
                      try clear hfz34_6
                      try clear hfz36_0
                      try clear hfz36_1
                      try clear hfz36_2
                      try clear hfz36_3
                      try clear hfz36_4
                      try clear hfz36_5
                      try clear hfz36_6
                      try clear hfz37_0
                      try clear hfz37_1
                      try clear hfz37_2
                      try clear hfz37_3
                      try clear hfz37_4
                      try clear hfz37_5
                      try clear hfz37_6
                      try clear hfz37_7
                      try clear hfz40_0
                      try clear hfz40_1
                      try clear hfz40_2
                      try clear hfz40_3
                      try clear hfz40_4
                      try clear hfz40_5
                      try clear hfz40_6
                      try clear hfz42_0
                      try clear hfz42_1
                      try clear hfz42_2
                      try clear hfz42_3
                      try clear hfz42_4
                      try clear hfz42_5
                      try clear hfz42_6
                      try clear hfz42_7
                      try clear hfz51_0
                      try clear hfz51_1
                      try clear hfz51_2
                      try clear hfz53_0
                      try clear hfz53_1
                      try clear hfz53_2
                      try clear hfz54_0
                      try clear hfz54_1
                      try clear hfz54_2
                      try clear hfz54_3
                      try clear hfz54_4
                      try clear hfz54_5
                      try clear hfz54_6
                      try clear hfz54_7
                      try clear hfz57_0
                      try clear hfz57_1
                      try clear hfz57_2
                      try clear hfz59_0
                      try clear hfz59_1
                      try clear hfz59_2
                      try clear hfz60_0
                      try clear hfz60_1
                      try clear hfz60_2
                      try clear hfz60_3
                      try clear hfz60_4
                      try clear hfz60_5
                      try clear hfz60_6
                      try clear hfz60_7
                      try clear hfz63_0
                      try clear hfz63_1
                      try clear hfz63_2
                      try clear hfz65_0
                      try clear hfz65_1
                      try clear hfz65_2
                      try clear hfz65_3
                      try clear hfz65_4
                      try clear hfz65_5
                      try clear hfz65_6
                      try clear hfz65_7
                      try clear hx298_0
                      try clear hx298_1
                      try clear hx298_2
                      try clear hx298_3
                      try clear hx298_4
                      try clear hx298_5
                      try clear hx298_6
                      try clear hx301_0
                      try clear hx301_1
                      try clear hx301_2
                      try clear p2
                      try clear p29
                      try clear p298
                      try clear p301
                      try clear p6
                      try clear q2
                      try clear q29
                      try clear q298
                      try clear q301
                      obtain ⟨x82_4, rfl, HA, HK4, BK294, HB⟩ := hrel
                      cases gk with
                      | zero => exact absurd HA.out (by simp [impl_IsPackage.l2])
                      | succ k4 =>
                        have H := HA.out
                        clear HA
                        simp only [impl_IsPackage.l2] at H
                        by_cases c66 : x82_4 < (l0_5.length : Int)
                        · rw [if_pos c66] at H
                          have c66b0 : decide (x82_4 < (l0_5.length : Int)) = true := decide_eq_true c66
                          clear c66
                          by_cases c67 : 0 ≤ x82_4
                          · rw [if_pos c67] at H
                            have c67b0 : decide (0 ≤ x82_4) = true := decide_eq_true c67
                            clear c67
                            by_cases c68 : x82_4 < (l0_5.length : Int)
                            · rw [if_pos c68] at H
                              have c68b0 : decide (x82_4 < (l0_5.length : Int)) = true := decide_eq_true c68
                              clear c68
                              replace H := Option.bind_eq_some_iff.mp H
                              obtain ⟨t306, A690, H⟩ := H
                              replace H : (if t306 = true then (if ((rd_T139 l0_5 x82_4).f0) = a0_0 then (impl_IsPackage.l2 k4 l0_5 (l0_5.length : Int) (wrap64 (x82_4 + 1)) a0_0 a0_1 a0_2 l0_3 l0_4 l0_5 l0_6 a0_7) else (some false)) else (some false)) = some r := H
                              have A69 := Aside0.mk A690
                              clear A690
                              by_cases c70 : t306 = true
                              · subst c70
                                have H1 : (if ((rd_T139 l0_5 x82_4).f0) = a0_0 then (impl_IsPackage.l2 k4 l0_5 (l0_5.length : Int) (wrap64 (x82_4 + 1)) a0_0 a0_1 a0_2 l0_3 l0_4 l0_5 l0_6 a0_7) else (some false)) = some r := by rw [if_pos rfl] at H; exact H
                                clear H
                                have H := H1
                                clear H1
                                by_cases c71 : ((rd_T139 l0_5 x82_4).f0) = a0_0
                                · rw [if_pos c71] at H
                                  have c71b0 : (((rd_T139 l0_5 x82_4).f0) == a0_0) = true := beq_iff_eq.mpr c71
                                  have c71b1 : (((rd_T139 l0_5 x82_4).f0) != a0_0) = false := bne_eq_false_iff_eq.mpr c71
                                  clear c71
                                  have H' := Aside0.mk H
                                  clear H
                                  have p304 : 0 ≤ (x82_4 : Int) := of_decide_eq_true (by first | (with_reducible assumption) | assumption)
                                  have q304 : x82_4 < (l0_5.length : Int) := of_decide_eq_true (by first | (with_reducible assumption) | assumption)
                                  obtain ⟨ad304, e304, hx304_0, hx304_1, hx304_2, hx304_3, hx304_4, hx304_5, hx304_6, hx304_7⟩ := at_T139 HR0_5.out x82_4 p304 q304
                                  cases e304
                                  replace hx304_0 := (HB.out.cell (World.block_lt_of_cell? w _ hx304_0)).trans hx304_0
                                  replace hx304_1 := (HB.out.cell (World.block_lt_of_cell? w _ hx304_1)).trans hx304_1
                                  replace hx304_2 := (HB.out.cell (World.block_lt_of_cell? w _ hx304_2)).trans hx304_2
                                  replace hx304_3 := (HB.out.cell (World.block_lt_of_cell? w _ hx304_3)).trans hx304_3
                                  replace hx304_4 := (HB.out.cell (World.block_lt_of_cell? w _ hx304_4)).trans hx304_4
                                  replace hx304_5 := (HB.out.cell (World.block_lt_of_cell? w _ hx304_5)).trans hx304_5
                                  replace hx304_6 := (HB.out.cell (World.block_lt_of_cell? w _ hx304_6)).trans hx304_6
                                  replace hx304_7 := (HB.out.cell (World.block_lt_of_cell? w _ hx304_7)).trans hx304_7
                                  replace p304 := eq_true p304
                                  replace q304 := eq_true q304
                                  go_wp2_with (first | ((with_reducible refine gate_dst (N := 8) rfl ?_); (try (refine gate_guard (by rfl) ?_; dsimp only)); refine box_event ?hg (N := 8) ?hd (cs := #[.int .i64 0, .int .i64 0, .int .i64 0, .int .i64 0, .int .i64 0, .int .i64 0, .int .i64 0, .int .i64 0]) (t := 139) ?hr ?_; (case hd => rfl); (case hg => rfl); (case hr => first | (go_simp; done) | (go_simp; rfl)); intro gb305 hg w72 hbox hb; have n0_ := Aside0.mk (blk_below (g := gb294) bk_ hb); have n1_ := Aside0.mk (below_step hb_ hb); have n2_ := Aside0.mk (hbox); have n3_ := Aside0.mk ((by rw [hg]; exact (below_size hb_) : w.heap.size ≤ gb305)); have n4_ := Aside0.mk ((by rw [hg]; exact (below_size hb_) : w.heap.size ≤ gb305)); have n5_ := Aside0.mk ((by rw [hg]; exact Nat.ne_of_lt (blk_lt (g := gb294) bk_) : gb294 ≠ gb305)); have n6_ := Aside0.mk ((by rw [hg]; exact Nat.ne_of_gt (blk_lt (g := gb294) bk_) : gb305 ≠ gb294)); clear BK294; clear HB; have BK294 := n0_; have HB := n1_; have BK305 := n2_; have GW305 := n3_; have GE305 := n4_; have NB294_305 := n5_; have NB305_294 := n6_; clear n0_ n1_ n2_ n3_ n4_ n5_ n6_; clear hb hbox hg; have hnb73 := NB305_294.out; have hnc73 := NB294_305.out; have hcz74_0 : w72.cell? ⟨gb305, 0, none⟩ = some (.int .i64 0) := (blk_cell BK305.out 0).trans rfl; have hcz74_1 : w72.cell? ⟨gb305, 1, none⟩ = some (.int .i64 0) := (blk_cell BK305.out 1).trans rfl; have hcz74_2 : w72.cell? ⟨gb305, 2, none⟩ = some (.int .i64 0) := (blk_cell BK305.out 2).trans rfl; have hcz74_3 : w72.cell? ⟨gb305, 3, none⟩ = some (.int .i64 0) := (blk_cell BK305.out 3).trans rfl; have hcz74_4 : w72.cell? ⟨gb305, 4, none⟩ = some (.int .i64 0) := (blk_cell BK305.out 4).trans rfl; have hcz74_5 : w72.cell? ⟨gb305, 5, none⟩ = some (.int .i64 0) := (blk_cell BK305.out 5).trans rfl; have hcz74_6 : w72.cell? ⟨gb305, 6, none⟩ = some (.int .i64 0) := (blk_cell BK305.out 6).trans rfl; have hcz74_7 : w72.cell? ⟨gb305, 7, none⟩ = some (.int .i64 0) := (blk_cell BK305.out 7).trans rfl; have hfz74_0 := blk_frozen BK305.out 0; have hfz74_1 := blk_frozen BK305.out 1; have hfz74_2 := blk_frozen BK305.out 2; have hfz74_3 := blk_frozen BK305.out 3; have hfz74_4 := blk_frozen BK305.out 4; have hfz74_5 := blk_frozen BK305.out 5; have hfz74_6 := blk_frozen BK305.out 6; have hfz74_7 := blk_frozen BK305.out 7) | ((with_reducible refine gate_callee (f := 119) rfl ?_); refine goesL_ (some 87) rfl rfl Try.func119 (by kernel_rfl) rfl #[.agg #[.int .i64 ((rd_T139 l0_5 x82_4).f0), .int .i64 ((rd_T139 l0_5 x82_4).f1), .int .i64 ((rd_T139 l0_5 x82_4).f2.f0), .int .i64 ((rd_T139 l0_5 x82_4).f2.f1), .int .i64 ((rd_T139 l0_5 x82_4).f3), .int .i64 ((rd_T139 l0_5 x82_4).f4), .int .i64 ((rd_T139 l0_5 x82_4).f5.f0), .int .i64 ((rd_T139 l0_5 x82_4).f5.f1)]] rfl la_ ?_; (with_reducible refine (impl_IsRule.calls k4 ((rd_T139 l0_5 x82_4).f0) ((rd_T139 l0_5 x82_4).f1) ((rd_T139 l0_5 x82_4).f2.f0) ((rd_T139 l0_5 x82_4).f2.f1) ((rd_T139 l0_5 x82_4).f3) ((rd_T139 l0_5 x82_4).f4) ((rd_T139 l0_5 x82_4).f5.f0) ((rd_T139 l0_5 x82_4).f5.f1) true _ A69.out).mono ?_); rintro e w75 ⟨rfl, hb⟩; refine ⟨_, rfl, ?_⟩; have n0_ := Aside0.mk (blk_below (g := gb294) (o := .cells #[.int .i64 a0_0, .int .i64 a0_1, .int .i64 a0_2, .slice A0_3 l0_3.length c0_3, .slice A0_4 l0_4.length c0_4, .slice (some ad304) l0_5.length c0_5, .slice A0_6 l0_6.length c0_6, .int .i64 a0_7] 66 (0, 0)) (by (with_reducible repeat (first | refine blk_drewN ?_ _ | refine blk_drew ?_ | refine blk_alloc ?_ _)); refine blk_far ?_ NB294_305.out _; (with_reducible repeat (first | refine blk_drewN ?_ _ | refine blk_drew ?_ | refine blk_alloc ?_ _)); refine blk_far ?_ NB294_305.out _; (with_reducible repeat (first | refine blk_drewN ?_ _ | refine blk_drew ?_ | refine blk_alloc ?_ _)); refine blk_far ?_ NB294_305.out _; (with_reducible repeat (first | refine blk_drewN ?_ _ | refine blk_drew ?_ | refine blk_alloc ?_ _)); refine blk_far ?_ NB294_305.out _; (with_reducible repeat (first | refine blk_drewN ?_ _ | refine blk_drew ?_ | refine blk_alloc ?_ _)); refine blk_far ?_ NB294_305.out _; (with_reducible repeat (first | refine blk_drewN ?_ _ | refine blk_drew ?_ | refine blk_alloc ?_ _)); refine blk_far ?_ NB294_305.out _; (with_reducible repeat (first | refine blk_drewN ?_ _ | refine blk_drew ?_ | refine blk_alloc ?_ _)); refine blk_far ?_ NB294_305.out _; (with_reducible repeat (first | refine blk_drewN ?_ _ | refine blk_drew ?_ | refine blk_alloc ?_ _)); refine blk_far ?_ NB294_305.out _; (with_reducible repeat (first | refine blk_drewN ?_ _ | refine blk_drew ?_ | refine blk_alloc ?_ _)); exact BK294.out) hb); have n1_ := Aside0.mk (blk_below (g := gb305) (o := .cells #[.int .i64 ((rd_T139 l0_5 x82_4).f0), .int .i64 ((rd_T139 l0_5 x82_4).f1), .int .i64 ((rd_T139 l0_5 x82_4).f2.f0), .int .i64 ((rd_T139 l0_5 x82_4).f2.f1), .int .i64 ((rd_T139 l0_5 x82_4).f3), .int .i64 ((rd_T139 l0_5 x82_4).f4), .int .i64 ((rd_T139 l0_5 x82_4).f5.f0), .int .i64 ((rd_T139 l0_5 x82_4).f5.f1)] 139 (0, 0)) (by (with_reducible repeat (first | refine blk_drewN ?_ _ | refine blk_drew ?_ | refine blk_alloc ?_ _)); refine blk_put (cs := #[.int .i64 ((rd_T139 l0_5 x82_4).f0), .int .i64 ((rd_T139 l0_5 x82_4).f1), .int .i64 ((rd_T139 l0_5 x82_4).f2.f0), .int .i64 ((rd_T139 l0_5 x82_4).f2.f1), .int .i64 ((rd_T139 l0_5 x82_4).f3), .int .i64 ((rd_T139 l0_5 x82_4).f4), .int .i64 ((rd_T139 l0_5 x82_4).f5.f0), .int .i64 0]) ?_ 7 _ rfl; (with_reducible repeat (first | refine blk_drewN ?_ _ | refine blk_drew ?_ | refine blk_alloc ?_ _)); refine blk_put (cs := #[.int .i64 ((rd_T139 l0_5 x82_4).f0), .int .i64 ((rd_T139 l0_5 x82_4).f1), .int .i64 ((rd_T139 l0_5 x82_4).f2.f0), .int .i64 ((rd_T139 l0_5 x82_4).f2.f1), .int .i64 ((rd_T139 l0_5 x82_4).f3), .int .i64 ((rd_T139 l0_5 x82_4).f4), .int .i64 0, .int .i64 0]) ?_ 6 _ rfl; (with_reducible repeat (first | refine blk_drewN ?_ _ | refine blk_drew ?_ | refine blk_alloc ?_ _)); refine blk_put (cs := #[.int .i64 ((rd_T139 l0_5 x82_4).f0), .int .i64 ((rd_T139 l0_5 x82_4).f1), .int .i64 ((rd_T139 l0_5 x82_4).f2.f0), .int .i64 ((rd_T139 l0_5 x82_4).f2.f1), .int .i64 ((rd_T139 l0_5 x82_4).f3), .int .i64 0, .int .i64 0, .int .i64 0]) ?_ 5 _ rfl; (with_reducible repeat (first | refine blk_drewN ?_ _ | refine blk_drew ?_ | refine blk_alloc ?_ _)); refine blk_put (cs := #[.int .i64 ((rd_T139 l0_5 x82_4).f0), .int .i64 ((rd_T139 l0_5 x82_4).f1), .int .i64 ((rd_T139 l0_5 x82_4).f2.f0), .int .i64 ((rd_T139 l0_5 x82_4).f2.f1), .int .i64 0, .int .i64 0, .int .i64 0, .int .i64 0]) ?_ 4 _ rfl; (with_reducible repeat (first | refine blk_drewN ?_ _ | refine blk_drew ?_ | refine blk_alloc ?_ _)); refine blk_put (cs := #[.int .i64 ((rd_T139 l0_5 x82_4).f0), .int .i64 ((rd_T139 l0_5 x82_4).f1), .int .i64 ((rd_T139 l0_5 x82_4).f2.f0), .int .i64 0, .int .i64 0, .int .i64 0, .int .i64 0, .int .i64 0]) ?_ 3 _ rfl; (with_reducible repeat (first | refine blk_drewN ?_ _ | refine blk_drew ?_ | refine blk_alloc ?_ _)); refine blk_put (cs := #[.int .i64 ((rd_T139 l0_5 x82_4).f0), .int .i64 ((rd_T139 l0_5 x82_4).f1), .int .i64 0, .int .i64 0, .int .i64 0, .int .i64 0, .int .i64 0, .int .i64 0]) ?_ 2 _ rfl; (with_reducible repeat (first | refine blk_drewN ?_ _ | refine blk_drew ?_ | refine blk_alloc ?_ _)); refine blk_put (cs := #[.int .i64 ((rd_T139 l0_5 x82_4).f0), .int .i64 0, .int .i64 0, .int .i64 0, .int .i64 0, .int .i64 0, .int .i64 0, .int .i64 0]) ?_ 1 _ rfl; (with_reducible repeat (first | refine blk_drewN ?_ _ | refine blk_drew ?_ | refine blk_alloc ?_ _)); refine blk_put (cs := #[.int .i64 0, .int .i64 0, .int .i64 0, .int .i64 0, .int .i64 0, .int .i64 0, .int .i64 0, .int .i64 0]) ?_ 0 _ rfl; (with_reducible repeat (first | refine blk_drewN ?_ _ | refine blk_drew ?_ | refine blk_alloc ?_ _)); exact BK305.out) hb); have n2_ := Aside0.mk (below_step hb_ hb); clear BK294; clear BK305; clear HB; have BK294 := n0_; have BK305 := n1_; have HB := n2_; clear n0_ n1_ n2_; (try clear hb); (try clear hb2); (try clear hk); (try clear hi); have hcz76_0 : w75.cell? ⟨gb305, 0, none⟩ = some (.int .i64 ((rd_T139 l0_5 x82_4).f0)) := (blk_cell BK305.out 0).trans rfl; have hcz76_1 : w75.cell? ⟨gb305, 1, none⟩ = some (.int .i64 ((rd_T139 l0_5 x82_4).f1)) := (blk_cell BK305.out 1).trans rfl; have hcz76_2 : w75.cell? ⟨gb305, 2, none⟩ = some (.int .i64 ((rd_T139 l0_5 x82_4).f2.f0)) := (blk_cell BK305.out 2).trans rfl; have hcz76_3 : w75.cell? ⟨gb305, 3, none⟩ = some (.int .i64 ((rd_T139 l0_5 x82_4).f2.f1)) := (blk_cell BK305.out 3).trans rfl; have hcz76_4 : w75.cell? ⟨gb305, 4, none⟩ = some (.int .i64 ((rd_T139 l0_5 x82_4).f3)) := (blk_cell BK305.out 4).trans rfl; have hcz76_5 : w75.cell? ⟨gb305, 5, none⟩ = some (.int .i64 ((rd_T139 l0_5 x82_4).f4)) := (blk_cell BK305.out 5).trans rfl; have hcz76_6 : w75.cell? ⟨gb305, 6, none⟩ = some (.int .i64 ((rd_T139 l0_5 x82_4).f5.f0)) := (blk_cell BK305.out 6).trans rfl; have hcz76_7 : w75.cell? ⟨gb305, 7, none⟩ = some (.int .i64 ((rd_T139 l0_5 x82_4).f5.f1)) := (blk_cell BK305.out 7).trans rfl; have hfz76_0 := blk_frozen BK305.out 0; have hfz76_1 := blk_frozen BK305.out 1; have hfz76_2 := blk_frozen BK305.out 2; have hfz76_3 := blk_frozen BK305.out 3; have hfz76_4 := blk_frozen BK305.out 4; have hfz76_5 := blk_frozen BK305.out 5; have hfz76_6 := blk_frozen BK305.out 6; have hfz76_7 := blk_frozen BK305.out 7; have hcz77_0 : w75.cell? ⟨gb294, 0, none⟩ = some (.int .i64 a0_0) := (blk_cell BK294.out 0).trans rfl; have hcz77_1 : w75.cell? ⟨gb294, 1, none⟩ = some (.int .i64 a0_1) := (blk_cell BK294.out 1).trans rfl; have hcz77_2 : w75.cell? ⟨gb294, 2, none⟩ = some (.int .i64 a0_2) := (blk_cell BK294.out 2).trans rfl; have hcz77_3 : w75.cell? ⟨gb294, 3, none⟩ = some (.slice A0_3 l0_3.length c0_3) := (blk_cell BK294.out 3).trans rfl; have hcz77_4 : w75.cell? ⟨gb294, 4, none⟩ = some (.slice A0_4 l0_4.length c0_4) := (blk_cell BK294.out 4).trans rfl; have hcz77_5 : w75.cell? ⟨gb294, 5, none⟩ = some (.slice (some ad304) l0_5.length c0_5) := (blk_cell BK294.out 5).trans rfl; have hcz77_6 : w75.cell? ⟨gb294, 6, none⟩ = some (.slice A0_6 l0_6.length c0_6) := (blk_cell BK294.out 6).trans rfl; have hcz77_7 : w75.cell? ⟨gb294, 7, none⟩ = some (.int .i64 a0_7) := (blk_cell BK294.out 7).trans rfl; have hfz77_0 := blk_frozen BK294.out 0; have hfz77_1 := blk_frozen BK294.out 1; have hfz77_2 := blk_frozen BK294.out 2; have hfz77_3 := blk_frozen BK294.out 3; have hfz77_4 := blk_frozen BK294.out 4; have hfz77_5 := blk_frozen BK294.out 5; have hfz77_6 := blk_frozen BK294.out 6; have hfz77_7 := blk_frozen BK294.out 7))
                                  go_roundg k4
                                  case measure => have := HJ1.out; have := HK2.out; have := HK3.out; have := HK4.out; omega
                                  case rel => exact ⟨(wrap64 (x82_4 + 1)), (by first | rfl | (simp; done) | (simp [*]; done)), H', ⟨by have := HJ1.out; have := HK2.out; have := HK3.out; have := HK4.out; omega⟩, ⟨by (with_reducible repeat (first | refine blk_drewN ?_ _ | refine blk_drew ?_ | refine blk_alloc ?_ _)); exact BK294.out⟩, ⟨hb_⟩⟩
                                · rw [if_neg c71] at H
                                  have c71b0 : (((rd_T139 l0_5 x82_4).f0) == a0_0) = false := beq_eq_false_iff_ne.mpr c71
                                  have c71b1 : (((rd_T139 l0_5 x82_4).f0) != a0_0) = true := bne_iff_ne.mpr c71
                                  obtain rfl := Option.some.inj H
                                  have p304 : 0 ≤ (x82_4 : Int) := of_decide_eq_true (by first | (with_reducible assumption) | assumption)
                                  have q304 : x82_4 < (l0_5.length : Int) := of_decide_eq_true (by first | (with_reducible assumption) | assumption)
                                  obtain ⟨ad304, e304, hx304_0, hx304_1, hx304_2, hx304_3, hx304_4, hx304_5, hx304_6, hx304_7⟩ := at_T139 HR0_5.out x82_4 p304 q304
                                  cases e304
                                  replace hx304_0 := (HB.out.cell (World.block_lt_of_cell? w _ hx304_0)).trans hx304_0
                                  replace hx304_1 := (HB.out.cell (World.block_lt_of_cell? w _ hx304_1)).trans hx304_1
                                  replace hx304_2 := (HB.out.cell (World.block_lt_of_cell? w _ hx304_2)).trans hx304_2
                                  replace hx304_3 := (HB.out.cell (World.block_lt_of_cell? w _ hx304_3)).trans hx304_3
                                  replace hx304_4 := (HB.out.cell (World.block_lt_of_cell? w _ hx304_4)).trans hx304_4
                                  replace hx304_5 := (HB.out.cell (World.block_lt_of_cell? w _ hx304_5)).trans hx304_5
                                  replace hx304_6 := (HB.out.cell (World.block_lt_of_cell? w _ hx304_6)).trans hx304_6
                                  replace hx304_7 := (HB.out.cell (World.block_lt_of_cell? w _ hx304_7)).trans hx304_7
                                  replace p304 := eq_true p304
                                  replace q304 := eq_true q304
                                  go_wp2_with (first | ((with_reducible refine gate_dst (N := 8) rfl ?_); (try (refine gate_guard (by rfl) ?_; dsimp only)); refine box_event ?hg (N := 8) ?hd (cs := #[.int .i64 0, .int .i64 0, .int .i64 0, .int .i64 0, .int .i64 0, .int .i64 0, .int .i64 0, .int .i64 0]) (t := 139) ?hr ?_; (case hd => rfl); (case hg => rfl); (case hr => first | (go_simp; done) | (go_simp; rfl)); intro gb305 hg w78 hbox hb; have n0_ := Aside0.mk (blk_below (g := gb294) bk_ hb); have n1_ := Aside0.mk (below_step hb_ hb); have n2_ := Aside0.mk (hbox); have n3_ := Aside0.mk ((by rw [hg]; exact (below_size hb_) : w.heap.size ≤ gb305)); have n4_ := Aside0.mk ((by rw [hg]; exact (below_size hb_) : w.heap.size ≤ gb305)); have n5_ := Aside0.mk ((by rw [hg]; exact Nat.ne_of_lt (blk_lt (g := gb294) bk_) : gb294 ≠ gb305)); have n6_ := Aside0.mk ((by rw [hg]; exact Nat.ne_of_gt (blk_lt (g := gb294) bk_) : gb305 ≠ gb294)); clear BK294; clear HB; have BK294 := n0_; have HB := n1_; have BK305 := n2_; have GW305 := n3_; have GE305 := n4_; have NB294_305 := n5_; have NB305_294 := n6_; clear n0_ n1_ n2_ n3_ n4_ n5_ n6_; clear hb hbox hg; have hnb79 := NB305_294.out; have hnc79 := NB294_305.out; have hcz80_0 : w78.cell? ⟨gb305, 0, none⟩ = some (.int .i64 0) := (blk_cell BK305.out 0).trans rfl; have hcz80_1 : w78.cell? ⟨gb305, 1, none⟩ = some (.int .i64 0) := (blk_cell BK305.out 1).trans rfl; have hcz80_2 : w78.cell? ⟨gb305, 2, none⟩ = some (.int .i64 0) := (blk_cell BK305.out 2).trans rfl; have hcz80_3 : w78.cell? ⟨gb305, 3, none⟩ = some (.int .i64 0) := (blk_cell BK305.out 3).trans rfl; have hcz80_4 : w78.cell? ⟨gb305, 4, none⟩ = some (.int .i64 0) := (blk_cell BK305.out 4).trans rfl; have hcz80_5 : w78.cell? ⟨gb305, 5, none⟩ = some (.int .i64 0) := (blk_cell BK305.out 5).trans rfl; have hcz80_6 : w78.cell? ⟨gb305, 6, none⟩ = some (.int .i64 0) := (blk_cell BK305.out 6).trans rfl; have hcz80_7 : w78.cell? ⟨gb305, 7, none⟩ = some (.int .i64 0) := (blk_cell BK305.out 7).trans rfl; have hfz80_0 := blk_frozen BK305.out 0; have hfz80_1 := blk_frozen BK305.out 1; have hfz80_2 := blk_frozen BK305.out 2; have hfz80_3 := blk_frozen BK305.out 3; have hfz80_4 := blk_frozen BK305.out 4; have hfz80_5 := blk_frozen BK305.out 5; have hfz80_6 := blk_frozen BK305.out 6; have hfz80_7 := blk_frozen BK305.out 7) | ((with_reducible refine gate_callee (f := 119) rfl ?_); refine goesL_ (some 87) rfl rfl Try.func119 (by kernel_rfl) rfl #[.agg #[.int .i64 ((rd_T139 l0_5 x82_4).f0), .int .i64 ((rd_T139 l0_5 x82_4).f1), .int .i64 ((rd_T139 l0_5 x82_4).f2.f0), .int .i64 ((rd_T139 l0_5 x82_4).f2.f1), .int .i64 ((rd_T139 l0_5 x82_4).f3), .int .i64 ((rd_T139 l0_5 x82_4).f4), .int .i64 ((rd_T139 l0_5 x82_4).f5.f0), .int .i64 ((rd_T139 l0_5 x82_4).f5.f1)]] rfl la_ ?_; (with_reducible refine (impl_IsRule.calls k4 ((rd_T139 l0_5 x82_4).f0) ((rd_T139 l0_5 x82_4).f1) ((rd_T139 l0_5 x82_4).f2.f0) ((rd_T139 l0_5 x82_4).f2.f1) ((rd_T139 l0_5 x82_4).f3) ((rd_T139 l0_5 x82_4).f4) ((rd_T139 l0_5 x82_4).f5.f0) ((rd_T139 l0_5 x82_4).f5.f1) true _ A69.out).mono ?_); rintro e w81 ⟨rfl, hb⟩; refine ⟨_, rfl, ?_⟩; have n0_ := Aside0.mk (blk_below (g := gb294) (o := .cells #[.int .i64 a0_0, .int .i64 a0_1, .int .i64 a0_2, .slice A0_3 l0_3.length c0_3, .slice A0_4 l0_4.length c0_4, .slice (some ad304) l0_5.length c0_5, .slice A0_6 l0_6.length c0_6, .int .i64 a0_7] 66 (0, 0)) (by (with_reducible repeat (first | refine blk_drewN ?_ _ | refine blk_drew ?_ | refine blk_alloc ?_ _)); refine blk_far ?_ NB294_305.out _; (with_reducible repeat (first | refine blk_drewN ?_ _ | refine blk_drew ?_ | refine blk_alloc ?_ _)); refine blk_far ?_ NB294_305.out _; (with_reducible repeat (first | refine blk_drewN ?_ _ | refine blk_drew ?_ | refine blk_alloc ?_ _)); refine blk_far ?_ NB294_305.out _; (with_reducible repeat (first | refine blk_drewN ?_ _ | refine blk_drew ?_ | refine blk_alloc ?_ _)); refine blk_far ?_ NB294_305.out _; (with_reducible repeat (first | refine blk_drewN ?_ _ | refine blk_drew ?_ | refine blk_alloc ?_ _)); refine blk_far ?_ NB294_305.out _; (with_reducible repeat (first | refine blk_drewN ?_ _ | refine blk_drew ?_ | refine blk_alloc ?_ _)); refine blk_far ?_ NB294_305.out _; (with_reducible repeat (first | refine blk_drewN ?_ _ | refine blk_drew ?_ | refine blk_alloc ?_ _)); refine blk_far ?_ NB294_305.out _; (with_reducible repeat (first | refine blk_drewN ?_ _ | refine blk_drew ?_ | refine blk_alloc ?_ _)); refine blk_far ?_ NB294_305.out _; (with_reducible repeat (first | refine blk_drewN ?_ _ | refine blk_drew ?_ | refine blk_alloc ?_ _)); exact BK294.out) hb); have n1_ := Aside0.mk (blk_below (g := gb305) (o := .cells #[.int .i64 ((rd_T139 l0_5 x82_4).f0), .int .i64 ((rd_T139 l0_5 x82_4).f1), .int .i64 ((rd_T139 l0_5 x82_4).f2.f0), .int .i64 ((rd_T139 l0_5 x82_4).f2.f1), .int .i64 ((rd_T139 l0_5 x82_4).f3), .int .i64 ((rd_T139 l0_5 x82_4).f4), .int .i64 ((rd_T139 l0_5 x82_4).f5.f0), .int .i64 ((rd_T139 l0_5 x82_4).f5.f1)] 139 (0, 0)) (by (with_reducible repeat (first | refine blk_drewN ?_ _ | refine blk_drew ?_ | refine blk_alloc ?_ _)); refine blk_put (cs := #[.int .i64 ((rd_T139 l0_5 x82_4).f0), .int .i64 ((rd_T139 l0_5 x82_4).f1), .int .i64 ((rd_T139 l0_5 x82_4).f2.f0), .int .i64 ((rd_T139 l0_5 x82_4).f2.f1), .int .i64 ((rd_T139 l0_5 x82_4).f3), .int .i64 ((rd_T139 l0_5 x82_4).f4), .int .i64 ((rd_T139 l0_5 x82_4).f5.f0), .int .i64 0]) ?_ 7 _ rfl; (with_reducible repeat (first | refine blk_drewN ?_ _ | refine blk_drew ?_ | refine blk_alloc ?_ _)); refine blk_put (cs := #[.int .i64 ((rd_T139 l0_5 x82_4).f0), .int .i64 ((rd_T139 l0_5 x82_4).f1), .int .i64 ((rd_T139 l0_5 x82_4).f2.f0), .int .i64 ((rd_T139 l0_5 x82_4).f2.f1), .int .i64 ((rd_T139 l0_5 x82_4).f3), .int .i64 ((rd_T139 l0_5 x82_4).f4), .int .i64 0, .int .i64 0]) ?_ 6 _ rfl; (with_reducible repeat (first | refine blk_drewN ?_ _ | refine blk_drew ?_ | refine blk_alloc ?_ _)); refine blk_put (cs := #[.int .i64 ((rd_T139 l0_5 x82_4).f0), .int .i64 ((rd_T139 l0_5 x82_4).f1), .int .i64 ((rd_T139 l0_5 x82_4).f2.f0), .int .i64 ((rd_T139 l0_5 x82_4).f2.f1), .int .i64 ((rd_T139 l0_5 x82_4).f3), .int .i64 0, .int .i64 0, .int .i64 0]) ?_ 5 _ rfl; (with_reducible repeat (first | refine blk_drewN ?_ _ | refine blk_drew ?_ | refine blk_alloc ?_ _)); refine blk_put (cs := #[.int .i64 ((rd_T139 l0_5 x82_4).f0), .int .i64 ((rd_T139 l0_5 x82_4).f1), .int .i64 ((rd_T139 l0_5 x82_4).f2.f0), .int .i64 ((rd_T139 l0_5 x82_4).f2.f1), .int .i64 0, .int .i64 0, .int .i64 0, .int .i64 0]) ?_ 4 _ rfl; (with_reducible repeat (first | refine blk_drewN ?_ _ | refine blk_drew ?_ | refine blk_alloc ?_ _)); refine blk_put (cs := #[.int .i64 ((rd_T139 l0_5 x82_4).f0), .int .i64 ((rd_T139 l0_5 x82_4).f1), .int .i64 ((rd_T139 l0_5 x82_4).f2.f0), .int .i64 0, .int .i64 0, .int .i64 0, .int .i64 0, .int .i64 0]) ?_ 3 _ rfl; (with_reducible repeat (first | refine blk_drewN ?_ _ | refine blk_drew ?_ | refine blk_alloc ?_ _)); refine blk_put (cs := #[.int .i64 ((rd_T139 l0_5 x82_4).f0), .int .i64 ((rd_T139 l0_5 x82_4).f1), .int .i64 0, .int .i64 0, .int .i64 0, .int .i64 0, .int .i64 0, .int .i64 0]) ?_ 2 _ rfl; (with_reducible repeat (first | refine blk_drewN ?_ _ | refine blk_drew ?_ | refine blk_alloc ?_ _)); refine blk_put (cs := #[.int .i64 ((rd_T139 l0_5 x82_4).f0), .int .i64 0, .int .i64 0, .int .i64 0, .int .i64 0, .int .i64 0, .int .i64 0, .int .i64 0]) ?_ 1 _ rfl; (with_reducible repeat (first | refine blk_drewN ?_ _ | refine blk_drew ?_ | refine blk_alloc ?_ _)); refine blk_put (cs := #[.int .i64 0, .int .i64 0, .int .i64 0, .int .i64 0, .int .i64 0, .int .i64 0, .int .i64 0, .int .i64 0]) ?_ 0 _ rfl; (with_reducible repeat (first | refine blk_drewN ?_ _ | refine blk_drew ?_ | refine blk_alloc ?_ _)); exact BK305.out) hb); have n2_ := Aside0.mk (below_step hb_ hb); clear BK294; clear BK305; clear HB; have BK294 := n0_; have BK305 := n1_; have HB := n2_; clear n0_ n1_ n2_; (try clear hb); (try clear hb2); (try clear hk); (try clear hi); have hcz82_0 : w81.cell? ⟨gb305, 0, none⟩ = some (.int .i64 ((rd_T139 l0_5 x82_4).f0)) := (blk_cell BK305.out 0).trans rfl; have hcz82_1 : w81.cell? ⟨gb305, 1, none⟩ = some (.int .i64 ((rd_T139 l0_5 x82_4).f1)) := (blk_cell BK305.out 1).trans rfl; have hcz82_2 : w81.cell? ⟨gb305, 2, none⟩ = some (.int .i64 ((rd_T139 l0_5 x82_4).f2.f0)) := (blk_cell BK305.out 2).trans rfl; have hcz82_3 : w81.cell? ⟨gb305, 3, none⟩ = some (.int .i64 ((rd_T139 l0_5 x82_4).f2.f1)) := (blk_cell BK305.out 3).trans rfl; have hcz82_4 : w81.cell? ⟨gb305, 4, none⟩ = some (.int .i64 ((rd_T139 l0_5 x82_4).f3)) := (blk_cell BK305.out 4).trans rfl; have hcz82_5 : w81.cell? ⟨gb305, 5, none⟩ = some (.int .i64 ((rd_T139 l0_5 x82_4).f4)) := (blk_cell BK305.out 5).trans rfl; have hcz82_6 : w81.cell? ⟨gb305, 6, none⟩ = some (.int .i64 ((rd_T139 l0_5 x82_4).f5.f0)) := (blk_cell BK305.out 6).trans rfl; have hcz82_7 : w81.cell? ⟨gb305, 7, none⟩ = some (.int .i64 ((rd_T139 l0_5 x82_4).f5.f1)) := (blk_cell BK305.out 7).trans rfl; have hfz82_0 := blk_frozen BK305.out 0; have hfz82_1 := blk_frozen BK305.out 1; have hfz82_2 := blk_frozen BK305.out 2; have hfz82_3 := blk_frozen BK305.out 3; have hfz82_4 := blk_frozen BK305.out 4; have hfz82_5 := blk_frozen BK305.out 5; have hfz82_6 := blk_frozen BK305.out 6; have hfz82_7 := blk_frozen BK305.out 7; have hcz83_0 : w81.cell? ⟨gb294, 0, none⟩ = some (.int .i64 a0_0) := (blk_cell BK294.out 0).trans rfl; have hcz83_1 : w81.cell? ⟨gb294, 1, none⟩ = some (.int .i64 a0_1) := (blk_cell BK294.out 1).trans rfl; have hcz83_2 : w81.cell? ⟨gb294, 2, none⟩ = some (.int .i64 a0_2) := (blk_cell BK294.out 2).trans rfl; have hcz83_3 : w81.cell? ⟨gb294, 3, none⟩ = some (.slice A0_3 l0_3.length c0_3) := (blk_cell BK294.out 3).trans rfl; have hcz83_4 : w81.cell? ⟨gb294, 4, none⟩ = some (.slice A0_4 l0_4.length c0_4) := (blk_cell BK294.out 4).trans rfl; have hcz83_5 : w81.cell? ⟨gb294, 5, none⟩ = some (.slice (some ad304) l0_5.length c0_5) := (blk_cell BK294.out 5).trans rfl; have hcz83_6 : w81.cell? ⟨gb294, 6, none⟩ = some (.slice A0_6 l0_6.length c0_6) := (blk_cell BK294.out 6).trans rfl; have hcz83_7 : w81.cell? ⟨gb294, 7, none⟩ = some (.int .i64 a0_7) := (blk_cell BK294.out 7).trans rfl; have hfz83_0 := blk_frozen BK294.out 0; have hfz83_1 := blk_frozen BK294.out 1; have hfz83_2 := blk_frozen BK294.out 2; have hfz83_3 := blk_frozen BK294.out 3; have hfz83_4 := blk_frozen BK294.out 4; have hfz83_5 := blk_frozen BK294.out 5; have hfz83_6 := blk_frozen BK294.out 6; have hfz83_7 := blk_frozen BK294.out 7))
                                  go_ret
                                  exact ⟨by first | rfl | (simp [errW_none, errW_some] <;> rfl) | (simp [*, errW_none, errW_some] <;> rfl), hb_⟩
                              · replace c70 := Bool.eq_false_iff.mpr c70
                                subst c70
                                have H1 : (some false) = some r := by rw [if_neg (show ¬ (false = true) by decide)] at H; exact H
                                clear H
                                have H := H1
                                clear H1
                                obtain rfl := Option.some.inj H
                                have p304 : 0 ≤ (x82_4 : Int) := of_decide_eq_true (by first | (with_reducible assumption) | assumption)
                                have q304 : x82_4 < (l0_5.length : Int) := of_decide_eq_true (by first | (with_reducible assumption) | assumption)
                                obtain ⟨ad304, e304, hx304_0, hx304_1, hx304_2, hx304_3, hx304_4, hx304_5, hx304_6, hx304_7⟩ := at_T139 HR0_5.out x82_4 p304 q304
                                cases e304
                                replace hx304_0 := (HB.out.cell (World.block_lt_of_cell? w _ hx304_0)).trans hx304_0
                                replace hx304_1 := (HB.out.cell (World.block_lt_of_cell? w _ hx304_1)).trans hx304_1
                                replace hx304_2 := (HB.out.cell (World.block_lt_of_cell? w _ hx304_2)).trans hx304_2
                                replace hx304_3 := (HB.out.cell (World.block_lt_of_cell? w _ hx304_3)).trans hx304_3
                                replace hx304_4 := (HB.out.cell (World.block_lt_of_cell? w _ hx304_4)).trans hx304_4
                                replace hx304_5 := (HB.out.cell (World.block_lt_of_cell? w _ hx304_5)).trans hx304_5
                                replace hx304_6 := (HB.out.cell (World.block_lt_of_cell? w _ hx304_6)).trans hx304_6
                                replace hx304_7 := (HB.out.cell (World.block_lt_of_cell? w _ hx304_7)).trans hx304_7
                                replace p304 := eq_true p304
                                replace q304 := eq_true q304
                                go_wp2_with (first | ((with_reducible refine gate_dst (N := 8) rfl ?_); (try (refine gate_guard (by rfl) ?_; dsimp only)); refine box_event ?hg (N := 8) ?hd (cs := #[.int .i64 0, .int .i64 0, .int .i64 0, .int .i64 0, .int .i64 0, .int .i64 0, .int .i64 0, .int .i64 0]) (t := 139) ?hr ?_; (case hd => rfl); (case hg => rfl); (case hr => first | (go_simp; done) | (go_simp; rfl)); intro gb305 hg w84 hbox hb; have n0_ := Aside0.mk (blk_below (g := gb294) bk_ hb); have n1_ := Aside0.mk (below_step hb_ hb); have n2_ := Aside0.mk (hbox); have n3_ := Aside0.mk ((by rw [hg]; exact (below_size hb_) : w.heap.size ≤ gb305)); have n4_ := Aside0.mk ((by rw [hg]; exact (below_size hb_) : w.heap.size ≤ gb305)); have n5_ := Aside0.mk ((by rw [hg]; exact Nat.ne_of_lt (blk_lt (g := gb294) bk_) : gb294 ≠ gb305)); have n6_ := Aside0.mk ((by rw [hg]; exact Nat.ne_of_gt (blk_lt (g := gb294) bk_) : gb305 ≠ gb294)); clear BK294; clear HB; have BK294 := n0_; have HB := n1_; have BK305 := n2_; have GW305 := n3_; have GE305 := n4_; have NB294_305 := n5_; have NB305_294 := n6_; clear n0_ n1_ n2_ n3_ n4_ n5_ n6_; clear hb hbox hg; have hnb85 := NB305_294.out; have hnc85 := NB294_305.out; have hcz86_0 : w84.cell? ⟨gb305, 0, none⟩ = some (.int .i64 0) := (blk_cell BK305.out 0).trans rfl; have hcz86_1 : w84.cell? ⟨gb305, 1, none⟩ = some (.int .i64 0) := (blk_cell BK305.out 1).trans rfl; have hcz86_2 : w84.cell? ⟨gb305, 2, none⟩ = some (.int .i64 0) := (blk_cell BK305.out 2).trans rfl; have hcz86_3 : w84.cell? ⟨gb305, 3, none⟩ = some (.int .i64 0) := (blk_cell BK305.out 3).trans rfl; have hcz86_4 : w84.cell? ⟨gb305, 4, none⟩ = some (.int .i64 0) := (blk_cell BK305.out 4).trans rfl; have hcz86_5 : w84.cell? ⟨gb305, 5, none⟩ = some (.int .i64 0) := (blk_cell BK305.out 5).trans rfl; have hcz86_6 : w84.cell? ⟨gb305, 6, none⟩ = some (.int .i64 0) := (blk_cell BK305.out 6).trans rfl; have hcz86_7 : w84.cell? ⟨gb305, 7, none⟩ = some (.int .i64 0) := (blk_cell BK305.out 7).trans rfl; have hfz86_0 := blk_frozen BK305.out 0; have hfz86_1 := blk_frozen BK305.out 1; have hfz86_2 := blk_frozen BK305.out 2; have hfz86_3 := blk_frozen BK305.out 3; have hfz86_4 := blk_frozen BK305.out 4; have hfz86_5 := blk_frozen BK305.out 5; have hfz86_6 := blk_frozen BK305.out 6; have hfz86_7 := blk_frozen BK305.out 7) | ((with_reducible refine gate_callee (f := 119) rfl ?_); refine goesL_ (some 87) rfl rfl Try.func119 (by kernel_rfl) rfl #[.agg #[.int .i64 ((rd_T139 l0_5 x82_4).f0), .int .i64 ((rd_T139 l0_5 x82_4).f1), .int .i64 ((rd_T139 l0_5 x82_4).f2.f0), .int .i64 ((rd_T139 l0_5 x82_4).f2.f1), .int .i64 ((rd_T139 l0_5 x82_4).f3), .int .i64 ((rd_T139 l0_5 x82_4).f4), .int .i64 ((rd_T139 l0_5 x82_4).f5.f0), .int .i64 ((rd_T139 l0_5 x82_4).f5.f1)]] rfl la_ ?_; (with_reducible refine (impl_IsRule.calls k4 ((rd_T139 l0_5 x82_4).f0) ((rd_T139 l0_5 x82_4).f1) ((rd_T139 l0_5 x82_4).f2.f0) ((rd_T139 l0_5 x82_4).f2.f1) ((rd_T139 l0_5 x82_4).f3) ((rd_T139 l0_5 x82_4).f4) ((rd_T139 l0_5 x82_4).f5.f0) ((rd_T139 l0_5 x82_4).f5.f1) false _ A69.out).mono ?_); rintro e w87 ⟨rfl, hb⟩; refine ⟨_, rfl, ?_⟩; have n0_ := Aside0.mk (blk_below (g := gb294) (o := .cells #[.int .i64 a0_0, .int .i64 a0_1, .int .i64 a0_2, .slice A0_3 l0_3.length c0_3, .slice A0_4 l0_4.length c0_4, .slice (some ad304) l0_5.length c0_5, .slice A0_6 l0_6.length c0_6, .int .i64 a0_7] 66 (0, 0)) (by (with_reducible repeat (first | refine blk_drewN ?_ _ | refine blk_drew ?_ | refine blk_alloc ?_ _)); refine blk_far ?_ NB294_305.out _; (with_reducible repeat (first | refine blk_drewN ?_ _ | refine blk_drew ?_ | refine blk_alloc ?_ _)); refine blk_far ?_ NB294_305.out _; (with_reducible repeat (first | refine blk_drewN ?_ _ | refine blk_drew ?_ | refine blk_alloc ?_ _)); refine blk_far ?_ NB294_305.out _; (with_reducible repeat (first | refine blk_drewN ?_ _ | refine blk_drew ?_ | refine blk_alloc ?_ _)); refine blk_far ?_ NB294_305.out _; (with_reducible repeat (first | refine blk_drewN ?_ _ | refine blk_drew ?_ | refine blk_alloc ?_ _)); refine blk_far ?_ NB294_305.out _; (with_reducible repeat (first | refine blk_drewN ?_ _ | refine blk_drew ?_ | refine blk_alloc ?_ _)); refine blk_far ?_ NB294_305.out _; (with_reducible repeat (first | refine blk_drewN ?_ _ | refine blk_drew ?_ | refine blk_alloc ?_ _)); refine blk_far ?_ NB294_305.out _; (with_reducible repeat (first | refine blk_drewN ?_ _ | refine blk_drew ?_ | refine blk_alloc ?_ _)); refine blk_far ?_ NB294_305.out _; (with_reducible repeat (first | refine blk_drewN ?_ _ | refine blk_drew ?_ | refine blk_alloc ?_ _)); exact BK294.out) hb); have n1_ := Aside0.mk (blk_below (g := gb305) (o := .cells #[.int .i64 ((rd_T139 l0_5 x82_4).f0), .int .i64 ((rd_T139 l0_5 x82_4).f1), .int .i64 ((rd_T139 l0_5 x82_4).f2.f0), .int .i64 ((rd_T139 l0_5 x82_4).f2.f1), .int .i64 ((rd_T139 l0_5 x82_4).f3), .int .i64 ((rd_T139 l0_5 x82_4).f4), .int .i64 ((rd_T139 l0_5 x82_4).f5.f0), .int .i64 ((rd_T139 l0_5 x82_4).f5.f1)] 139 (0, 0)) (by (with_reducible repeat (first | refine blk_drewN ?_ _ | refine blk_drew ?_ | refine blk_alloc ?_ _)); refine blk_put (cs := #[.int .i64 ((rd_T139 l0_5 x82_4).f0), .int .i64 ((rd_T139 l0_5 x82_4).f1), .int .i64 ((rd_T139 l0_5 x82_4).f2.f0), .int .i64 ((rd_T139 l0_5 x82_4).f2.f1), .int .i64 ((rd_T139 l0_5 x82_4).f3), .int .i64 ((rd_T139 l0_5 x82_4).f4), .int .i64 ((rd_T139 l0_5 x82_4).f5.f0), .int .i64 0]) ?_ 7 _ rfl; (with_reducible repeat (first | refine blk_drewN ?_ _ | refine blk_drew ?_ | refine blk_alloc ?_ _)); refine blk_put (cs := #[.int .i64 ((rd_T139 l0_5 x82_4).f0), .int .i64 ((rd_T139 l0_5 x82_4).f1), .int .i64 ((rd_T139 l0_5 x82_4).f2.f0), .int .i64 ((rd_T139 l0_5 x82_4).f2.f1), .int .i64 ((rd_T139 l0_5 x82_4).f3), .int .i64 ((rd_T139 l0_5 x82_4).f4), .int .i64 0, .int .i64 0]) ?_ 6 _ rfl; (with_reducible repeat (first | refine blk_drewN ?_ _ | refine blk_drew ?_ | refine blk_alloc ?_ _)); refine blk_put (cs := #[.int .i64 ((rd_T139 l0_5 x82_4).f0), .int .i64 ((rd_T139 l0_5 x82_4).f1), .int .i64 ((rd_T139 l0_5 x82_4).f2.f0), .int .i64 ((rd_T139 l0_5 x82_4).f2.f1), .int .i64 ((rd_T139 l0_5 x82_4).f3), .int .i64 0, .int .i64 0, .int .i64 0]) ?_ 5 _ rfl; (with_reducible repeat (first | refine blk_drewN ?_ _ | refine blk_drew ?_ | refine blk_alloc ?_ _)); refine blk_put (cs := #[.int .i64 ((rd_T139 l0_5 x82_4).f0), .int .i64 ((rd_T139 l0_5 x82_4).f1), .int .i64 ((rd_T139 l0_5 x82_4).f2.f0), .int .i64 ((rd_T139 l0_5 x82_4).f2.f1), .int .i64 0, .int .i64 0, .int .i64 0, .int .i64 0]) ?_ 4 _ rfl; (with_reducible repeat (first | refine blk_drewN ?_ _ | refine blk_drew ?_ | refine blk_alloc ?_ _)); refine blk_put (cs := #[.int .i64 ((rd_T139 l0_5 x82_4).f0), .int .i64 ((rd_T139 l0_5 x82_4).f1), .int .i64 ((rd_T139 l0_5 x82_4).f2.f0), .int .i64 0, .int .i64 0, .int .i64 0, .int .i64 0, .int .i64 0]) ?_ 3 _ rfl; (with_reducible repeat (first | refine blk_drewN ?_ _ | refine blk_drew ?_ | refine blk_alloc ?_ _)); refine blk_put (cs := #[.int .i64 ((rd_T139 l0_5 x82_4).f0), .int .i64 ((rd_T139 l0_5 x82_4).f1), .int .i64 0, .int .i64 0, .int .i64 0, .int .i64 0, .int .i64 0, .int .i64 0]) ?_ 2 _ rfl; (with_reducible repeat (first | refine blk_drewN ?_ _ | refine blk_drew ?_ | refine blk_alloc ?_ _)); refine blk_put (cs := #[.int .i64 ((rd_T139 l0_5 x82_4).f0), .int .i64 0, .int .i64 0, .int .i64 0, .int .i64 0, .int .i64 0, .int .i64 0, .int .i64 0]) ?_ 1 _ rfl; (with_reducible repeat (first | refine blk_drewN ?_ _ | refine blk_drew ?_ | refine blk_alloc ?_ _)); refine blk_put (cs := #[.int .i64 0, .int .i64 0, .int .i64 0, .int .i64 0, .int .i64 0, .int .i64 0, .int .i64 0, .int .i64 0]) ?_ 0 _ rfl; (with_reducible repeat (first | refine blk_drewN ?_ _ | refine blk_drew ?_ | refine blk_alloc ?_ _)); exact BK305.out) hb); have n2_ := Aside0.mk (below_step hb_ hb); clear BK294; clear BK305; clear HB; have BK294 := n0_; have BK305 := n1_; have HB := n2_; clear n0_ n1_ n2_; (try clear hb); (try clear hb2); (try clear hk); (try clear hi)))
                                go_ret
                                exact ⟨by first | rfl | (simp [errW_none, errW_some] <;> rfl) | (simp [*, errW_none, errW_some] <;> rfl), hb_⟩
                            · rw [if_neg c68] at H
                              exact absurd H (by simp)
                          · rw [if_neg c67] at H
                            exact absurd H (by simp)
                        · rw [if_neg c66] at H
                          have c66b0 : decide (x82_4 < (l0_5.length : Int)) = false := decide_eq_false c66
                          clear c66
                          replace H := Option.bind_eq_some_iff.mp H
                          obtain ⟨t307, A880, H⟩ := H
                          replace H : (some t307) = some r := H
                          have A88 := Aside0.mk A880
                          clear A880
                          obtain rfl := Option.some.inj H
                          have hcz89_0 : wr.cell? ⟨gb294, 0, none⟩ = some (.int .i64 a0_0) := (blk_cell BK294.out 0).trans rfl
                          have hcz89_1 : wr.cell? ⟨gb294, 1, none⟩ = some (.int .i64 a0_1) := (blk_cell BK294.out 1).trans rfl
                          have hcz89_2 : wr.cell? ⟨gb294, 2, none⟩ = some (.int .i64 a0_2) := (blk_cell BK294.out 2).trans rfl
                          have hcz89_3 : wr.cell? ⟨gb294, 3, none⟩ = some (.slice A0_3 l0_3.length c0_3) := (blk_cell BK294.out 3).trans rfl
                          have hcz89_4 : wr.cell? ⟨gb294, 4, none⟩ = some (.slice A0_4 l0_4.length c0_4) := (blk_cell BK294.out 4).trans rfl
                          have hcz89_5 : wr.cell? ⟨gb294, 5, none⟩ = some (.slice A0_5 l0_5.length c0_5) := (blk_cell BK294.out 5).trans rfl
                          have hcz89_6 : wr.cell? ⟨gb294, 6, none⟩ = some (.slice A0_6 l0_6.length c0_6) := (blk_cell BK294.out 6).trans rfl
                          have hcz89_7 : wr.cell? ⟨gb294, 7, none⟩ = some (.int .i64 a0_7) := (blk_cell BK294.out 7).trans rfl
                          have hfz89_0 := blk_frozen BK294.out 0
                          have hfz89_1 := blk_frozen BK294.out 1
                          have hfz89_2 := blk_frozen BK294.out 2
                          have hfz89_3 := blk_frozen BK294.out 3
                          have hfz89_4 := blk_frozen BK294.out 4
                          have hfz89_5 := blk_frozen BK294.out 5
                          have hfz89_6 := blk_frozen BK294.out 6
                          have hfz89_7 := blk_frozen BK294.out 7
                          go_wp2_with (first | ((with_reducible refine gate_callee (f := 25) rfl ?_); refine goesL_ (some 99) rfl rfl Try.func25 (by kernel_rfl) rfl #[.slice A0_6 l0_6.length c0_6] rfl la_ ?_; (with_reducible refine (impl_AreOps.calls k4 _ _ l0_6 t307 _ ?side1 ?side2 A88.out).mono ?_); (case side1 => repeat (first | exact (Kd.C_below HR0_6.out HB.out) | (with_reducible refine Kd.C_alloc ?_ _) | (with_reducible refine Kd.C_drewN ?_ _) | (with_reducible refine Kd.C_drew ?_))); (case side2 => exact HC0_6.out); rintro e w90 ⟨rfl, hb⟩; refine ⟨_, rfl, ?_⟩; have n0_ := Aside0.mk (blk_below (g := gb294) bk_ hb); have n1_ := Aside0.mk (below_step hb_ hb); clear BK294; clear HB; have BK294 := n0_; have HB := n1_; clear n0_ n1_; (try clear hb); (try clear hb2); (try clear hk); (try clear hi)))
                          go_ret
                          exact ⟨by first | rfl | (simp [errW_none, errW_some] <;> rfl) | (simp [*, errW_none, errW_some] <;> rfl), hb_⟩
end

end Go.Proofs.Ytmpkaooelpbeaaa.PFnExactIsPackage
