/- The row of the law FnExactReadWindow: for all arguments the law returns true and leaves its arguments as they were; no conditions. -/
import Derived.Test.YtdpmigainnmegaaRows
import Derived.Test.YtdpmigainnmegaaPFnExactReadWindowx3
import Derived.Test.YtdpmigainnmegaaPureFnExactReadWindow
import Derived.Test.YtdpmigainnmegaaOpen
import Derived.WalkKit
import Derived.ProofKit
import Derived.OpenShut
import Derived.ShutString
import Derived.ChangeOld
import Derived.Below
import Derived.SizedLaws
namespace Go.Proofs.Ytdpmigainnmegaa.fnExactReadWindow
open Go.ChangeShapes Go.WideShapes Go.ChangeAt Go.RowKit
open Go.Proofs.Ytdpmigainnmegaa.Open Go.Proofs.Ytdpmigainnmegaa.PFnExactReadWindow Go.Proofs.YtdpmigainnmegaaW.PrintWords Go.Proofs.YtdpmigainnmegaaW.PrintLast
set_option linter.unusedVariables false
theorem own : ownKnob Try.prog.godebug = none := by kernel_rfl
theorem laidOut : laidOutB Try.prog = true := by kernel_rfl
set_option maxRecDepth 100000 in
theorem open_S145 : Opens Try.prog 145 k145 (fun x => (Lit.int .i64 x.f0).wf = true ∧ (Lit.int .i64 x.f1).wf = true ∧ (Lit.int .i64 x.f2).wf = true ∧ (Lit.int .i64 x.f3).wf = true) :=
  opens_imp (opens_iso (fun x : S145 => (x.f0, x.f1, x.f2, x.f3)) (fun p => ⟨p.1, p.2.1, p.2.2.1, p.2.2.2⟩) (fun _ => rfl) (opens_struct Try.underlying145 (by kernel_rfl) (from_cons rfl (opens_int Try.underlying3 (by kernel_rfl)) (from_cons rfl (opens_int Try.underlying3 (by kernel_rfl)) (from_cons rfl (opens_int Try.underlying3 (by kernel_rfl)) (from_last rfl (opens_int Try.underlying3 (by kernel_rfl)))))))) (fun x h => by simpa [and_assoc] using h)
set_option maxRecDepth 100000 in
theorem flat_4_0 {W : World} {x0} {cs : List Value} (h : (Kd.K (Kd.pair (Kd.bool) (Kd.pair (Kd.slice 145 (k145)) (Kd.slice 145 (k145)))) W x0 cs)) : ∃ (A0_1 : Option Addr) (c0_1 : Nat) (A0_2 : Option Addr) (c0_2 : Nat), cs = [.bool x0.1, .slice A0_1 (x0.2.1).length c0_1, .slice A0_2 (x0.2.2).length c0_2] ∧ ((x0.2.1).length ≤ c0_1 ∧ Kd.C k145 W A0_1 (x0.2.1).length x0.2.1) ∧ ((x0.2.2).length ≤ c0_2 ∧ Kd.C k145 W A0_2 (x0.2.2).length x0.2.2) := by
  obtain ⟨_, _, rfl, rfl, ⟨_, _, rfl, ⟨_, _, rfl, hl1, hc1⟩, ⟨_, _, rfl, hl2, hc2⟩⟩⟩ := h
  exact ⟨_, _, _, _, rfl, ⟨hl1, hc1⟩, ⟨hl2, hc2⟩⟩
set_option maxRecDepth 100000 in
theorem lifted (os : Os) (started : os.Started) (H : Type) (enc : TypeId × Value → H) :
    ReturnsInHanded {} Try.checked os 4 .any (Rows.fnExactReadWindowSpec.pre6 enc Try.prog Try.f4 Rows.fnExactReadWindowRow.domain false) (Rows.fnExactReadWindowSpec.post enc Try.prog Try.f4 false true false false) := by
  refine returnsInHanded_of_change_sized (C := Try.checked) own started (by kernel_rfl) Try.func4
    (ChangeSpec.witness6 (enc := enc) (C := Try.checked) false ⟨#[], #[.agg #[.bool false, .slice none 0 0, .slice none 0 0], .int .i64 0, .int .i64 0], []⟩ 8 (by kernel_rfl) (by kernel_rfl) (by kernel_rfl) (by kernel_rfl)) ?_
  intro W base args ds gs before hval0 hW hcnd hsz0 _
  have hval : ∀ (j : Nat) t v, Try.f4.params[j]? = some t → args[j]? = some v → Value.okWide Try.prog W .any base t v := hval0
  have hW' := hW
  obtain ⟨p, q, hA0, hV, rfl, hfz, hnd⟩ := hW
  have hA : DataW.TrodAll enc Try.prog W 0 (fun _ => true) true Try.f4.params.toList args.toList ds p := hA0
  rw [Try.params4] at hA hval
  obtain ⟨v0, vs0, d0, ds0, p0, q0, hargs, rfl, rfl, h0, r0⟩ := trodAll_cons hA
  obtain ⟨v1, vs1, d1, ds1, p1, q1, rfl, rfl, rfl, h1, r1⟩ := trodAll_cons r0
  obtain ⟨v2, vs2, d2, ds2, p2, q2, rfl, rfl, rfl, h2, r2⟩ := trodAll_cons r1
  obtain ⟨rfl, rfl, rfl⟩ := trodAll_nil r2
  obtain rfl : args = #[v0, v1, v2] := by cases args; simp_all
  obtain ⟨rfl, rfl⟩ := trodVars_none hV
  have k0 := h0
  have lt0 : ∀ x ∈ p0, x.block < W.heap.size := by obtain ⟨m, hm⟩ := k0; exact DataW.trod_lt m _ _ _ hm
  obtain ⟨x0, cs0, rfl, K0, g0⟩ := top_struct Try.underlying31 (opens_struct Try.underlying31 (by kernel_rfl) (from_cons rfl (opens_bool Try.underlying4 (by kernel_rfl)) (from_cons rfl (opens_slice Try.underlying29 (by kernel_rfl) (open_S145)) (from_last rfl (opens_slice Try.underlying29 (by kernel_rfl) (open_S145)))))) (hval 0 31 v0 rfl rfl) h0
  obtain ⟨A0_1, c0_1, A0_2, c0_2, e0, ⟨hc0_1, hr0_1⟩, ⟨hc0_2, hr0_2⟩⟩ := flat_4_0 K0
  obtain rfl : cs0 = #[.bool x0.1, .slice A0_1 (x0.2.1).length c0_1, .slice A0_2 (x0.2.2).length c0_2] := by cases cs0; simp_all
  try simp only [and_assoc] at g0
  obtain ⟨_, GG0_1a, GG0_1b, GG0_2a, GG0_2b⟩ := g0
  have k1 := h1
  have lt1 : ∀ x ∈ p1, x.block < W.heap.size := by obtain ⟨m, hm⟩ := k1; exact DataW.trod_lt m _ _ _ hm
  obtain ⟨a1, rfl, _, _, w1⟩ := open_int Try.underlying3 (hval 1 3 v1 rfl rfl) h1
  have k2 := h2
  have lt2 : ∀ x ∈ p2, x.block < W.heap.size := by obtain ⟨m, hm⟩ := k2; exact DataW.trod_lt m _ _ _ hm
  obtain ⟨a2, rfl, _, _, w2⟩ := open_int Try.underlying3 (hval 2 3 v2 rfl rfl) h2
  clear hA0 hval0 hsz0
  obtain ⟨k, hp⟩ := Pure.FnExactReadWindow x0.1 x0.2.1 x0.2.2 a1 a2 GG0_1a GG0_1b GG0_2a GG0_2b w1 w2
  refine (laws_FnExactReadWindow.calls k x0.1 A0_1 c0_1 x0.2.1 A0_2 c0_2 x0.2.2 a1 a2 true W hr0_1 hc0_1 hr0_2 hc0_2 hp).mono fun e W' ⟨he, bel0⟩ => ?_
  have bel : Below W.heap.size W W' := bel0
  subst he
  exact ⟨_, rfl, _, _, _, [], _, [], hW', trodAll_mk1 (shut_bool Try.underlying4 _), (trodAll_cons_mk (Below.trod laidOut (by kernel_rfl) (of_decide_eq_true (by kernel_rfl)) k0 bel lt0) (trodAll_cons_mk (Below.trod laidOut (by kernel_rfl) (of_decide_eq_true (by kernel_rfl)) k1 bel lt1) (trodAll_cons_mk (Below.trod laidOut (by kernel_rfl) (of_decide_eq_true (by kernel_rfl)) k2 bel lt2) trodAll_mk0))), rfl, bel.frame _, fun h => by cases h⟩
theorem over : Rows.fnExactReadWindowRow.holds Try.pinned (OpenSpec.ofChange Rows.fnExactReadWindowSpec) :=
  OpenClaim.holds_of_wide 4 Try.f4 rfl rfl rfl rfl rfl rfl rfl ⟨rfl, rfl, rfl, rfl, rfl⟩ rfl rfl rfl rfl rfl (by kernel_rfl) Try.func4 (by kernel_rfl)
    (of_decide_eq_true (by kernel_rfl)) (by unfold Func.isWrapper; first | (rw [if_pos (by decide +kernel)]; kernel_rfl) | (rw [if_neg (by decide +kernel)]; exact ⟨rfl, rfl⟩))
    (fun os started H enc _ => lifted os started H enc)
theorem proved : Rows.FnExactReadWindowSaid := over
#print axioms proved
end Go.Proofs.Ytdpmigainnmegaa.fnExactReadWindow
namespace Go.Proofs.Ytdpmigainnmegaa
/-- The row, under a short name, for the claim. -/
theorem fnExactReadWindow_holds : Rows.FnExactReadWindowSaid := fnExactReadWindow.proved
end Go.Proofs.Ytdpmigainnmegaa
