/- The row of the law FnExactDeliver: for all arguments the law returns true and leaves its arguments as they were; no conditions. -/
import Derived.Test.YtdpmigainnmegaaRows
import Derived.Test.YtdpmigainnmegaaPFnExactDeliverx6
import Derived.Test.YtdpmigainnmegaaPureFnExactDeliver
import Derived.Test.YtdpmigainnmegaaOpen
import Derived.WalkKit
import Derived.ProofKit
import Derived.OpenShut
import Derived.ShutString
import Derived.ChangeOld
import Derived.Below
import Derived.SizedLaws
namespace Go.Proofs.Ytdpmigainnmegaa.fnExactDeliver
open Go.ChangeShapes Go.WideShapes Go.ChangeAt Go.RowKit
open Go.Proofs.Ytdpmigainnmegaa.Open Go.Proofs.Ytdpmigainnmegaa.PFnExactDeliver Go.Proofs.YtdpmigainnmegaaW.PrintWords Go.Proofs.YtdpmigainnmegaaW.PrintLast
set_option linter.unusedVariables false
theorem own : ownKnob Try.prog.godebug = none := by kernel_rfl
theorem laidOut : laidOutB Try.prog = true := by kernel_rfl
set_option maxRecDepth 100000 in
theorem open_S70 : Opens Try.prog 70 k70 (fun x => (Lit.int .i64 x.f0).wf = true ∧ (Lit.int .i64 x.f1).wf = true ∧ (Lit.int .i64 x.f2).wf = true ∧ (Lit.int .i64 x.f3).wf = true) :=
  opens_imp (opens_iso (fun x : S70 => (x.f0, x.f1, x.f2, x.f3)) (fun p => ⟨p.1, p.2.1, p.2.2.1, p.2.2.2⟩) (fun _ => rfl) (opens_struct Try.underlying70 (by kernel_rfl) (from_cons rfl (opens_int Try.underlying3 (by kernel_rfl)) (from_cons rfl (opens_int Try.underlying3 (by kernel_rfl)) (from_cons rfl (opens_int Try.underlying3 (by kernel_rfl)) (from_last rfl (opens_int Try.underlying3 (by kernel_rfl)))))))) (fun x h => by simpa [and_assoc] using h)
set_option maxRecDepth 100000 in
theorem flat_9_2 {W : World} {x2} {cs : List Value} (h : (Kd.K (Kd.pair (Kd.int .i64) (Kd.pair (Kd.int .i64) (Kd.pair (Kd.int .i64) (Kd.int .i64)))) W x2 cs)) : cs = [.int .i64 x2.1, .int .i64 x2.2.1, .int .i64 x2.2.2.1, .int .i64 x2.2.2.2] := by
  obtain ⟨_, _, rfl, rfl, ⟨_, _, rfl, rfl, ⟨_, _, rfl, rfl, rfl⟩⟩⟩ := h
  exact rfl
set_option maxRecDepth 100000 in
theorem lifted (os : Os) (started : os.Started) (H : Type) (enc : TypeId × Value → H) :
    ReturnsInHanded {} Try.checked os 9 .any (Rows.fnExactDeliverSpec.pre6 enc Try.prog Try.f9 Rows.fnExactDeliverRow.domain false) (Rows.fnExactDeliverSpec.post enc Try.prog Try.f9 false true false false) := by
  refine returnsInHanded_of_change_sized (C := Try.checked) own started (by kernel_rfl) Try.func9
    (ChangeSpec.witness6 (enc := enc) (C := Try.checked) false ⟨#[], #[.int .i64 0, .slice none 0 0, .agg #[.int .i64 0, .int .i64 0, .int .i64 0, .int .i64 0]], []⟩ 8 (by kernel_rfl) (by kernel_rfl) (by kernel_rfl) (by kernel_rfl)) ?_
  intro W base args ds gs before hval0 hW hcnd hsz0 _
  have hval : ∀ (j : Nat) t v, Try.f9.params[j]? = some t → args[j]? = some v → Value.okWide Try.prog W .any base t v := hval0
  have hW' := hW
  obtain ⟨p, q, hA0, hV, rfl, hfz, hnd⟩ := hW
  have hA : DataW.TrodAll enc Try.prog W 0 (fun _ => true) true Try.f9.params.toList args.toList ds p := hA0
  rw [Try.params9] at hA hval
  obtain ⟨v0, vs0, d0, ds0, p0, q0, hargs, rfl, rfl, h0, r0⟩ := trodAll_cons hA
  obtain ⟨v1, vs1, d1, ds1, p1, q1, rfl, rfl, rfl, h1, r1⟩ := trodAll_cons r0
  obtain ⟨v2, vs2, d2, ds2, p2, q2, rfl, rfl, rfl, h2, r2⟩ := trodAll_cons r1
  obtain ⟨rfl, rfl, rfl⟩ := trodAll_nil r2
  obtain rfl : args = #[v0, v1, v2] := by cases args; simp_all
  obtain ⟨rfl, rfl⟩ := trodVars_none hV
  have k0 := h0
  have lt0 : ∀ x ∈ p0, x.block < W.heap.size := by obtain ⟨m, hm⟩ := k0; exact DataW.trod_lt m _ _ _ hm
  obtain ⟨a0, rfl, _, _, w0⟩ := open_int Try.underlying3 (hval 0 3 v0 rfl rfl) h0
  have k1 := h1
  have lt1 : ∀ x ∈ p1, x.block < W.heap.size := by obtain ⟨m, hm⟩ := k1; exact DataW.trod_lt m _ _ _ hm
  obtain ⟨A1, c1, l1, rfl, hc1, hr1, w1⟩ := top_slice (d := k70) Try.underlying41 (opens_slice Try.underlying41 (by kernel_rfl) (open_S70)) (hval 1 41 v1 rfl rfl) h1
  have k2 := h2
  have lt2 : ∀ x ∈ p2, x.block < W.heap.size := by obtain ⟨m, hm⟩ := k2; exact DataW.trod_lt m _ _ _ hm
  obtain ⟨x2, cs2, rfl, K2, g2⟩ := top_struct Try.underlying70 (opens_struct Try.underlying70 (by kernel_rfl) (from_cons rfl (opens_int Try.underlying3 (by kernel_rfl)) (from_cons rfl (opens_int Try.underlying3 (by kernel_rfl)) (from_cons rfl (opens_int Try.underlying3 (by kernel_rfl)) (from_last rfl (opens_int Try.underlying3 (by kernel_rfl))))))) (hval 2 70 v2 rfl rfl) h2
  have e2 := flat_9_2 K2
  obtain rfl : cs2 = #[.int .i64 x2.1, .int .i64 x2.2.1, .int .i64 x2.2.2.1, .int .i64 x2.2.2.2] := by cases cs2; simp_all
  try simp only [and_assoc] at g2
  obtain ⟨GG2_0, GG2_1, GG2_2, GG2_3⟩ := g2
  clear hA0 hval0 hsz0
  obtain ⟨k, hp⟩ := Pure.FnExactDeliver a0 l1 x2.1 x2.2.1 x2.2.2.1 x2.2.2.2 w0 w1.1 w1.2 GG2_0 GG2_1 GG2_2 GG2_3
  refine (laws_FnExactDeliver.calls k a0 A1 c1 l1 x2.1 x2.2.1 x2.2.2.1 x2.2.2.2 true W hr1 hc1 hp).mono fun e W' ⟨he, bel0⟩ => ?_
  have bel : Below W.heap.size W W' := bel0
  subst he
  exact ⟨_, rfl, _, _, _, [], _, [], hW', trodAll_mk1 (shut_bool Try.underlying4 _), (trodAll_cons_mk (Below.trod laidOut (by kernel_rfl) (of_decide_eq_true (by kernel_rfl)) k0 bel lt0) (trodAll_cons_mk (Below.trod laidOut (by kernel_rfl) (of_decide_eq_true (by kernel_rfl)) k1 bel lt1) (trodAll_cons_mk (Below.trod laidOut (by kernel_rfl) (of_decide_eq_true (by kernel_rfl)) k2 bel lt2) trodAll_mk0))), rfl, bel.frame _, fun h => by cases h⟩
theorem over : Rows.fnExactDeliverRow.holds Try.pinned (OpenSpec.ofChange Rows.fnExactDeliverSpec) :=
  OpenClaim.holds_of_wide 9 Try.f9 rfl rfl rfl rfl rfl rfl rfl ⟨rfl, rfl, rfl, rfl, rfl⟩ rfl rfl rfl rfl rfl (by kernel_rfl) Try.func9 (by kernel_rfl)
    (of_decide_eq_true (by kernel_rfl)) (by unfold Func.isWrapper; first | (rw [if_pos (by decide +kernel)]; kernel_rfl) | (rw [if_neg (by decide +kernel)]; exact ⟨rfl, rfl⟩))
    (fun os started H enc _ => lifted os started H enc)
theorem proved : Rows.FnExactDeliverSaid := over
#print axioms proved
end Go.Proofs.Ytdpmigainnmegaa.fnExactDeliver
namespace Go.Proofs.Ytdpmigainnmegaa
/-- The row, under a short name, for the claim. -/
theorem fnExactDeliver_holds : Rows.FnExactDeliverSaid := fnExactDeliver.proved
end Go.Proofs.Ytdpmigainnmegaa
