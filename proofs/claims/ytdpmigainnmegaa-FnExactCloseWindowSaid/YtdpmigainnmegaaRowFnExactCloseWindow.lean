/- The row of the law FnExactCloseWindow: for all arguments the law returns true and leaves its arguments as they were; no conditions. -/
import Derived.Test.YtdpmigainnmegaaRows
import Derived.Test.YtdpmigainnmegaaPFnExactCloseWindowx4
import Derived.Test.YtdpmigainnmegaaPureFnExactCloseWindow
import Derived.Test.YtdpmigainnmegaaOpen
import Derived.WalkKit
import Derived.ProofKit
import Derived.OpenShut
import Derived.ShutString
import Derived.ChangeOld
import Derived.Below
import Derived.SizedLaws
namespace Go.Proofs.Ytdpmigainnmegaa.fnExactCloseWindow
open Go.ChangeShapes Go.WideShapes Go.ChangeAt Go.RowKit
open Go.Proofs.Ytdpmigainnmegaa.Open Go.Proofs.Ytdpmigainnmegaa.PFnExactCloseWindow Go.Proofs.YtdpmigainnmegaaW.PrintWords Go.Proofs.YtdpmigainnmegaaW.PrintLast
set_option linter.unusedVariables false
theorem own : ownKnob Try.prog.godebug = none := by kernel_rfl
theorem laidOut : laidOutB Try.prog = true := by kernel_rfl
set_option maxRecDepth 100000 in
theorem open_S145 : Opens Try.prog 145 k145 (fun x => (Lit.int .i64 x.f0).wf = true ∧ (Lit.int .i64 x.f1).wf = true ∧ (Lit.int .i64 x.f2).wf = true ∧ (Lit.int .i64 x.f3).wf = true) :=
  opens_imp (opens_iso (fun x : S145 => (x.f0, x.f1, x.f2, x.f3)) (fun p => ⟨p.1, p.2.1, p.2.2.1, p.2.2.2⟩) (fun _ => rfl) (opens_struct Try.underlying145 (by kernel_rfl) (from_cons rfl (opens_int Try.underlying3 (by kernel_rfl)) (from_cons rfl (opens_int Try.underlying3 (by kernel_rfl)) (from_cons rfl (opens_int Try.underlying3 (by kernel_rfl)) (from_last rfl (opens_int Try.underlying3 (by kernel_rfl)))))))) (fun x h => by simpa [and_assoc] using h)
set_option maxRecDepth 100000 in
theorem flat_7_0 {W : World} {x0} {cs : List Value} (h : (Kd.K (Kd.pair (Kd.bool) (Kd.pair (Kd.slice 145 (k145)) (Kd.slice 145 (k145)))) W x0 cs)) : ∃ (A0_1 : Option Addr) (c0_1 : Nat) (A0_2 : Option Addr) (c0_2 : Nat), cs = [.bool x0.1, .slice A0_1 (x0.2.1).length c0_1, .slice A0_2 (x0.2.2).length c0_2] ∧ ((x0.2.1).length ≤ c0_1 ∧ Kd.C k145 W A0_1 (x0.2.1).length x0.2.1) ∧ ((x0.2.2).length ≤ c0_2 ∧ Kd.C k145 W A0_2 (x0.2.2).length x0.2.2) := by
  obtain ⟨_, _, rfl, rfl, ⟨_, _, rfl, ⟨_, _, rfl, hl1, hc1⟩, ⟨_, _, rfl, hl2, hc2⟩⟩⟩ := h
  exact ⟨_, _, _, _, rfl, ⟨hl1, hc1⟩, ⟨hl2, hc2⟩⟩
set_option maxRecDepth 100000 in
theorem lifted (os : Os) (started : os.Started) (H : Type) (enc : TypeId × Value → H) :
    ReturnsInHanded {} Try.checked os 7 .any (Rows.fnExactCloseWindowSpec.pre6 enc Try.prog Try.f7 Rows.fnExactCloseWindowRow.domain false) (Rows.fnExactCloseWindowSpec.post enc Try.prog Try.f7 false true false false) := by
  refine returnsInHanded_of_change_sized (C := Try.checked) own started (by kernel_rfl) Try.func7
    (ChangeSpec.witness6 (enc := enc) (C := Try.checked) false ⟨#[], #[.agg #[.bool false, .slice none 0 0, .slice none 0 0]], []⟩ 8 (by kernel_rfl) (by kernel_rfl) (by kernel_rfl) (by kernel_rfl)) ?_
  intro W base args ds gs before hval0 hW hcnd hsz0 _
  have hval : ∀ (j : Nat) t v, Try.f7.params[j]? = some t → args[j]? = some v → Value.okWide Try.prog W .any base t v := hval0
  have hW' := hW
  obtain ⟨p, q, hA0, hV, rfl, hfz, hnd⟩ := hW
  have hA : DataW.TrodAll enc Try.prog W 0 (fun _ => true) true Try.f7.params.toList args.toList ds p := hA0
  rw [Try.params7] at hA hval
  obtain ⟨v0, vs0, d0, ds0, p0, q0, hargs, rfl, rfl, h0, r0⟩ := trodAll_cons hA
  obtain ⟨rfl, rfl, rfl⟩ := trodAll_nil r0
  obtain rfl : args = #[v0] := by cases args; simp_all
  obtain ⟨rfl, rfl⟩ := trodVars_none hV
  have k0 := h0
  have lt0 : ∀ x ∈ p0, x.block < W.heap.size := by obtain ⟨m, hm⟩ := k0; exact DataW.trod_lt m _ _ _ hm
  obtain ⟨x0, cs0, rfl, K0, g0⟩ := top_struct Try.underlying31 (opens_struct Try.underlying31 (by kernel_rfl) (from_cons rfl (opens_bool Try.underlying4 (by kernel_rfl)) (from_cons rfl (opens_slice Try.underlying29 (by kernel_rfl) (open_S145)) (from_last rfl (opens_slice Try.underlying29 (by kernel_rfl) (open_S145)))))) (hval 0 31 v0 rfl rfl) h0
  obtain ⟨A0_1, c0_1, A0_2, c0_2, e0, ⟨hc0_1, hr0_1⟩, ⟨hc0_2, hr0_2⟩⟩ := flat_7_0 K0
  obtain rfl : cs0 = #[.bool x0.1, .slice A0_1 (x0.2.1).length c0_1, .slice A0_2 (x0.2.2).length c0_2] := by cases cs0; simp_all
  try simp only [and_assoc] at g0
  obtain ⟨_, GG0_1a, GG0_1b, GG0_2a, GG0_2b⟩ := g0
  clear hA0 hval0 hsz0
  obtain ⟨k, hp⟩ := Pure.FnExactCloseWindow x0.1 x0.2.1 x0.2.2 GG0_1a GG0_1b GG0_2a GG0_2b
  refine (laws_FnExactCloseWindow.calls k x0.1 A0_1 c0_1 x0.2.1 A0_2 c0_2 x0.2.2 true W hr0_1 hc0_1 hr0_2 hc0_2 hp).mono fun e W' ⟨he, bel0⟩ => ?_
  have bel : Below W.heap.size W W' := bel0
  subst he
  exact ⟨_, rfl, _, _, _, [], _, [], hW', trodAll_mk1 (shut_bool Try.underlying4 _), (trodAll_cons_mk (Below.trod laidOut (by kernel_rfl) (of_decide_eq_true (by kernel_rfl)) k0 bel lt0) trodAll_mk0), rfl, bel.frame _, fun h => by cases h⟩
theorem over : Rows.fnExactCloseWindowRow.holds Try.pinned (OpenSpec.ofChange Rows.fnExactCloseWindowSpec) :=
  OpenClaim.holds_of_wide 7 Try.f7 rfl rfl rfl rfl rfl rfl rfl ⟨rfl, rfl, rfl, rfl, rfl⟩ rfl rfl rfl rfl rfl (by kernel_rfl) Try.func7 (by kernel_rfl)
    (of_decide_eq_true (by kernel_rfl)) (by unfold Func.isWrapper; first | (rw [if_pos (by decide +kernel)]; kernel_rfl) | (rw [if_neg (by decide +kernel)]; exact ⟨rfl, rfl⟩))
    (fun os started H enc _ => lifted os started H enc)
theorem proved : Rows.FnExactCloseWindowSaid := over
#print axioms proved
end Go.Proofs.Ytdpmigainnmegaa.fnExactCloseWindow
namespace Go.Proofs.Ytdpmigainnmegaa
/-- The row, under a short name, for the claim. -/
theorem fnExactCloseWindow_holds : Rows.FnExactCloseWindowSaid := fnExactCloseWindow.proved
end Go.Proofs.Ytdpmigainnmegaa
