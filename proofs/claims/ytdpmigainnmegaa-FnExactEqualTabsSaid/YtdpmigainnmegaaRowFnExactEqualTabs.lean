/- The row of the law FnExactEqualTabs: for all arguments the law returns true and leaves its arguments as they were; no conditions. -/
import Derived.Test.YtdpmigainnmegaaRows
import Derived.Test.YtdpmigainnmegaaPFnExactEqualTabsx7
import Derived.Test.YtdpmigainnmegaaPureFnExactEqualTabs
import Derived.Test.YtdpmigainnmegaaOpen
import Derived.WalkKit
import Derived.ProofKit
import Derived.OpenShut
import Derived.ShutString
import Derived.ChangeOld
import Derived.Below
import Derived.SizedLaws
namespace Go.Proofs.Ytdpmigainnmegaa.fnExactEqualTabs
open Go.ChangeShapes Go.WideShapes Go.ChangeAt Go.RowKit
open Go.Proofs.Ytdpmigainnmegaa.Open Go.Proofs.Ytdpmigainnmegaa.PFnExactEqualTabs Go.Proofs.YtdpmigainnmegaaW.PrintWords Go.Proofs.YtdpmigainnmegaaW.PrintLast
set_option linter.unusedVariables false
theorem own : ownKnob Try.prog.godebug = none := by kernel_rfl
theorem laidOut : laidOutB Try.prog = true := by kernel_rfl
set_option maxRecDepth 100000 in
theorem open_S169 : Opens Try.prog 169 k169 (fun x => (Lit.int .i64 x.f0).wf = true ∧ (Lit.int .i64 x.f1).wf = true ∧ (Lit.int .i64 x.f2).wf = true ∧ (Lit.int .i64 x.f3).wf = true ∧ (Lit.int .i64 x.f4).wf = true ∧ (Lit.int .i64 x.f5).wf = true) :=
  opens_imp (opens_iso (fun x : S169 => (x.f0, x.f1, x.f2, x.f3, x.f4, x.f5)) (fun p => ⟨p.1, p.2.1, p.2.2.1, p.2.2.2.1, p.2.2.2.2.1, p.2.2.2.2.2⟩) (fun _ => rfl) (opens_struct Try.underlying169 (by kernel_rfl) (from_cons rfl (opens_int Try.underlying3 (by kernel_rfl)) (from_cons rfl (opens_int Try.underlying3 (by kernel_rfl)) (from_cons rfl (opens_int Try.underlying3 (by kernel_rfl)) (from_cons rfl (opens_int Try.underlying3 (by kernel_rfl)) (from_cons rfl (opens_int Try.underlying3 (by kernel_rfl)) (from_last rfl (opens_int Try.underlying3 (by kernel_rfl)))))))))) (fun x h => by simpa [and_assoc] using h)
set_option maxRecDepth 100000 in
theorem open_S167 : Opens Try.prog 167 k167 (fun x => (Lit.int .i64 x.f0).wf = true ∧ (Lit.int .i64 x.f1).wf = true ∧ (Lit.int .i64 x.f2).wf = true ∧ (Lit.int .i64 x.f3).wf = true ∧ (Lit.int .i64 x.f4).wf = true) :=
  opens_imp (opens_iso (fun x : S167 => (x.f0, x.f1, x.f2, x.f3, x.f4)) (fun p => ⟨p.1, p.2.1, p.2.2.1, p.2.2.2.1, p.2.2.2.2⟩) (fun _ => rfl) (opens_struct Try.underlying167 (by kernel_rfl) (from_cons rfl (opens_int Try.underlying3 (by kernel_rfl)) (from_cons rfl (opens_int Try.underlying3 (by kernel_rfl)) (from_cons rfl (opens_int Try.underlying3 (by kernel_rfl)) (from_cons rfl (opens_int Try.underlying3 (by kernel_rfl)) (from_last rfl (opens_int Try.underlying3 (by kernel_rfl))))))))) (fun x h => by simpa [and_assoc] using h)
set_option maxRecDepth 100000 in
theorem flat_14_0 {W : World} {x0} {cs : List Value} (h : (Kd.K (Kd.pair (Kd.pair (Kd.int .i64) (Kd.int .i64)) (Kd.pair (Kd.slice 167 (k167)) (Kd.pair (Kd.slice 169 (k169)) (Kd.pair (Kd.slice 3 (Kd.int .i64)) (Kd.int .i64))))) W x0 cs)) : ∃ (A0_2 : Option Addr) (c0_2 : Nat) (A0_3 : Option Addr) (c0_3 : Nat) (A0_4 : Option Addr) (c0_4 : Nat), cs = [.int .i64 x0.1.1, .int .i64 x0.1.2, .slice A0_2 (x0.2.1).length c0_2, .slice A0_3 (x0.2.2.1).length c0_3, .slice A0_4 (x0.2.2.2.1).length c0_4, .int .i64 x0.2.2.2.2] ∧ ((x0.2.1).length ≤ c0_2 ∧ Kd.C k167 W A0_2 (x0.2.1).length x0.2.1) ∧ ((x0.2.2.1).length ≤ c0_3 ∧ Kd.C k169 W A0_3 (x0.2.2.1).length x0.2.2.1) ∧ ((x0.2.2.2.1).length ≤ c0_4 ∧ Kd.C (Kd.int .i64) W A0_4 (x0.2.2.2.1).length x0.2.2.2.1) := by
  obtain ⟨_, _, rfl, ⟨_, _, rfl, rfl, rfl⟩, ⟨_, _, rfl, ⟨_, _, rfl, hl2, hc2⟩, ⟨_, _, rfl, ⟨_, _, rfl, hl3, hc3⟩, ⟨_, _, rfl, ⟨_, _, rfl, hl4, hc4⟩, rfl⟩⟩⟩⟩ := h
  exact ⟨_, _, _, _, _, _, rfl, ⟨hl2, hc2⟩, ⟨hl3, hc3⟩, ⟨hl4, hc4⟩⟩
set_option maxRecDepth 100000 in
theorem flat_14_1 {W : World} {x1} {cs : List Value} (h : (Kd.K (Kd.pair (Kd.pair (Kd.int .i64) (Kd.int .i64)) (Kd.pair (Kd.slice 167 (k167)) (Kd.pair (Kd.slice 169 (k169)) (Kd.pair (Kd.slice 3 (Kd.int .i64)) (Kd.int .i64))))) W x1 cs)) : ∃ (A1_2 : Option Addr) (c1_2 : Nat) (A1_3 : Option Addr) (c1_3 : Nat) (A1_4 : Option Addr) (c1_4 : Nat), cs = [.int .i64 x1.1.1, .int .i64 x1.1.2, .slice A1_2 (x1.2.1).length c1_2, .slice A1_3 (x1.2.2.1).length c1_3, .slice A1_4 (x1.2.2.2.1).length c1_4, .int .i64 x1.2.2.2.2] ∧ ((x1.2.1).length ≤ c1_2 ∧ Kd.C k167 W A1_2 (x1.2.1).length x1.2.1) ∧ ((x1.2.2.1).length ≤ c1_3 ∧ Kd.C k169 W A1_3 (x1.2.2.1).length x1.2.2.1) ∧ ((x1.2.2.2.1).length ≤ c1_4 ∧ Kd.C (Kd.int .i64) W A1_4 (x1.2.2.2.1).length x1.2.2.2.1) := by
  obtain ⟨_, _, rfl, ⟨_, _, rfl, rfl, rfl⟩, ⟨_, _, rfl, ⟨_, _, rfl, hl2, hc2⟩, ⟨_, _, rfl, ⟨_, _, rfl, hl3, hc3⟩, ⟨_, _, rfl, ⟨_, _, rfl, hl4, hc4⟩, rfl⟩⟩⟩⟩ := h
  exact ⟨_, _, _, _, _, _, rfl, ⟨hl2, hc2⟩, ⟨hl3, hc3⟩, ⟨hl4, hc4⟩⟩
set_option maxRecDepth 100000 in
theorem lifted (os : Os) (started : os.Started) (H : Type) (enc : TypeId × Value → H) :
    ReturnsInHanded {} Try.checked os 14 .any (Rows.fnExactEqualTabsSpec.pre6 enc Try.prog Try.f14 Rows.fnExactEqualTabsRow.domain false) (Rows.fnExactEqualTabsSpec.post enc Try.prog Try.f14 false true false false) := by
  refine returnsInHanded_of_change_sized (C := Try.checked) own started (by kernel_rfl) Try.func14
    (ChangeSpec.witness6 (enc := enc) (C := Try.checked) false ⟨#[], #[.agg #[.int .i64 0, .int .i64 0, .slice none 0 0, .slice none 0 0, .slice none 0 0, .int .i64 0], .agg #[.int .i64 0, .int .i64 0, .slice none 0 0, .slice none 0 0, .slice none 0 0, .int .i64 0]], []⟩ 8 (by kernel_rfl) (by kernel_rfl) (by kernel_rfl) (by kernel_rfl)) ?_
  intro W base args ds gs before hval0 hW hcnd hsz0 _
  have hval : ∀ (j : Nat) t v, Try.f14.params[j]? = some t → args[j]? = some v → Value.okWide Try.prog W .any base t v := hval0
  have hW' := hW
  obtain ⟨p, q, hA0, hV, rfl, hfz, hnd⟩ := hW
  have hA : DataW.TrodAll enc Try.prog W 0 (fun _ => true) true Try.f14.params.toList args.toList ds p := hA0
  rw [Try.params14] at hA hval
  obtain ⟨v0, vs0, d0, ds0, p0, q0, hargs, rfl, rfl, h0, r0⟩ := trodAll_cons hA
  obtain ⟨v1, vs1, d1, ds1, p1, q1, rfl, rfl, rfl, h1, r1⟩ := trodAll_cons r0
  obtain ⟨rfl, rfl, rfl⟩ := trodAll_nil r1
  obtain rfl : args = #[v0, v1] := by cases args; simp_all
  obtain ⟨rfl, rfl⟩ := trodVars_none hV
  have k0 := h0
  have lt0 : ∀ x ∈ p0, x.block < W.heap.size := by obtain ⟨m, hm⟩ := k0; exact DataW.trod_lt m _ _ _ hm
  obtain ⟨x0, cs0, rfl, K0, g0⟩ := top_struct Try.underlying98 (opens_struct Try.underlying98 (by kernel_rfl) (from_cons rfl (opens_struct Try.underlying94 (by kernel_rfl) (from_cons rfl (opens_int Try.underlying3 (by kernel_rfl)) (from_last rfl (opens_int Try.underlying3 (by kernel_rfl))))) (from_cons rfl (opens_slice Try.underlying95 (by kernel_rfl) (open_S167)) (from_cons rfl (opens_slice Try.underlying96 (by kernel_rfl) (open_S169)) (from_cons rfl (opens_slice Try.underlying74 (by kernel_rfl) (opens_int Try.underlying3 (by kernel_rfl))) (from_last rfl (opens_int Try.underlying3 (by kernel_rfl)))))))) (hval 0 98 v0 rfl rfl) h0
  obtain ⟨A0_2, c0_2, A0_3, c0_3, A0_4, c0_4, e0, ⟨hc0_2, hr0_2⟩, ⟨hc0_3, hr0_3⟩, ⟨hc0_4, hr0_4⟩⟩ := flat_14_0 K0
  obtain rfl : cs0 = #[.int .i64 x0.1.1, .int .i64 x0.1.2, .slice A0_2 (x0.2.1).length c0_2, .slice A0_3 (x0.2.2.1).length c0_3, .slice A0_4 (x0.2.2.2.1).length c0_4, .int .i64 x0.2.2.2.2] := by cases cs0; simp_all
  try simp only [and_assoc] at g0
  obtain ⟨GG0_0, GG0_1, GG0_2a, GG0_2b, GG0_3a, GG0_3b, GG0_4a, GG0_4b, GG0_5⟩ := g0
  have k1 := h1
  have lt1 : ∀ x ∈ p1, x.block < W.heap.size := by obtain ⟨m, hm⟩ := k1; exact DataW.trod_lt m _ _ _ hm
  obtain ⟨x1, cs1, rfl, K1, g1⟩ := top_struct Try.underlying98 (opens_struct Try.underlying98 (by kernel_rfl) (from_cons rfl (opens_struct Try.underlying94 (by kernel_rfl) (from_cons rfl (opens_int Try.underlying3 (by kernel_rfl)) (from_last rfl (opens_int Try.underlying3 (by kernel_rfl))))) (from_cons rfl (opens_slice Try.underlying95 (by kernel_rfl) (open_S167)) (from_cons rfl (opens_slice Try.underlying96 (by kernel_rfl) (open_S169)) (from_cons rfl (opens_slice Try.underlying74 (by kernel_rfl) (opens_int Try.underlying3 (by kernel_rfl))) (from_last rfl (opens_int Try.underlying3 (by kernel_rfl)))))))) (hval 1 98 v1 rfl rfl) h1
  obtain ⟨A1_2, c1_2, A1_3, c1_3, A1_4, c1_4, e1, ⟨hc1_2, hr1_2⟩, ⟨hc1_3, hr1_3⟩, ⟨hc1_4, hr1_4⟩⟩ := flat_14_1 K1
  obtain rfl : cs1 = #[.int .i64 x1.1.1, .int .i64 x1.1.2, .slice A1_2 (x1.2.1).length c1_2, .slice A1_3 (x1.2.2.1).length c1_3, .slice A1_4 (x1.2.2.2.1).length c1_4, .int .i64 x1.2.2.2.2] := by cases cs1; simp_all
  try simp only [and_assoc] at g1
  obtain ⟨GG1_0, GG1_1, GG1_2a, GG1_2b, GG1_3a, GG1_3b, GG1_4a, GG1_4b, GG1_5⟩ := g1
  clear hA0 hval0 hsz0
  obtain ⟨k, hp⟩ := Pure.FnExactEqualTabs x0.1.1 x0.1.2 x0.2.1 x0.2.2.1 x0.2.2.2.1 x0.2.2.2.2 x1.1.1 x1.1.2 x1.2.1 x1.2.2.1 x1.2.2.2.1 x1.2.2.2.2 GG0_0 GG0_1 GG0_2a GG0_2b GG0_3a GG0_3b GG0_4a GG0_4b GG0_5 GG1_0 GG1_1 GG1_2a GG1_2b GG1_3a GG1_3b GG1_4a GG1_4b GG1_5
  refine (laws_FnExactEqualTabs.calls k x0.1.1 x0.1.2 A0_2 c0_2 x0.2.1 A0_3 c0_3 x0.2.2.1 A0_4 c0_4 x0.2.2.2.1 x0.2.2.2.2 x1.1.1 x1.1.2 A1_2 c1_2 x1.2.1 A1_3 c1_3 x1.2.2.1 A1_4 c1_4 x1.2.2.2.1 x1.2.2.2.2 W hr0_2 hc0_2 hr0_3 hc0_3 hr0_4 hc0_4 hr1_2 hc1_2 hr1_3 hc1_3 hr1_4 hc1_4 hp).mono fun e W' ⟨he, bel0⟩ => ?_
  have bel : Below W.heap.size W W' := bel0
  subst he
  exact ⟨_, rfl, _, _, _, [], _, [], hW', trodAll_mk1 (shut_bool Try.underlying4 _), (trodAll_cons_mk (Below.trod laidOut (by kernel_rfl) (of_decide_eq_true (by kernel_rfl)) k0 bel lt0) (trodAll_cons_mk (Below.trod laidOut (by kernel_rfl) (of_decide_eq_true (by kernel_rfl)) k1 bel lt1) trodAll_mk0)), rfl, bel.frame _, fun h => by cases h⟩
theorem over : Rows.fnExactEqualTabsRow.holds Try.pinned (OpenSpec.ofChange Rows.fnExactEqualTabsSpec) :=
  OpenClaim.holds_of_wide 14 Try.f14 rfl rfl rfl rfl rfl rfl rfl ⟨rfl, rfl, rfl, rfl, rfl⟩ rfl rfl rfl rfl rfl (by kernel_rfl) Try.func14 (by kernel_rfl)
    (of_decide_eq_true (by kernel_rfl)) (by unfold Func.isWrapper; first | (rw [if_pos (by decide +kernel)]; kernel_rfl) | (rw [if_neg (by decide +kernel)]; exact ⟨rfl, rfl⟩))
    (fun os started H enc _ => lifted os started H enc)
theorem proved : Rows.FnExactEqualTabsSaid := over
#print axioms proved
end Go.Proofs.Ytdpmigainnmegaa.fnExactEqualTabs
namespace Go.Proofs.Ytdpmigainnmegaa
/-- The row, under a short name, for the claim. -/
theorem fnExactEqualTabs_holds : Rows.FnExactEqualTabsSaid := fnExactEqualTabs.proved
end Go.Proofs.Ytdpmigainnmegaa
