/- The row of the law FnExactIsPackage: for all arguments the law returns true and leaves its arguments as they were; no conditions. -/
import Derived.Test.YtmpkaooelpbeaaaRows
import Derived.Test.YtmpkaooelpbeaaaPFnExactIsPackagex9
import Derived.Test.YtmpkaooelpbeaaaPureFnExactIsPackage
import Derived.Test.YtmpkaooelpbeaaaOpen
import Derived.WalkKit
import Derived.ProofKit
import Derived.OpenShut
import Derived.ShutString
import Derived.ChangeOld
import Derived.Below
import Derived.SizedLaws
namespace Go.Proofs.Ytmpkaooelpbeaaa.fnExactIsPackage
open Go.ChangeShapes Go.WideShapes Go.ChangeAt Go.RowKit
open Go.Proofs.Ytmpkaooelpbeaaa.Open Go.Proofs.Ytmpkaooelpbeaaa.PFnExactIsPackage Go.Proofs.YtmpkaooelpbeaaaW.PrintWords Go.Proofs.YtmpkaooelpbeaaaW.PrintLast
set_option linter.unusedVariables false
theorem own : ownKnob Try.prog.godebug = none := by kernel_rfl
theorem laidOut : laidOutB Try.prog = true := by kernel_rfl
set_option maxRecDepth 100000 in
theorem open_S107 : Opens Try.prog 107 k107 (fun x => (Lit.int .i64 x.f0).wf = true ∧ (Lit.int .i64 x.f1).wf = true ∧ (Lit.int .i64 x.f2).wf = true ∧ (Lit.int .i64 x.f3).wf = true) :=
  opens_imp (opens_iso (fun x : S107 => (x.f0, x.f1, x.f2, x.f3)) (fun p => ⟨p.1, p.2.1, p.2.2.1, p.2.2.2⟩) (fun _ => rfl) (opens_struct Try.underlying107 (by kernel_rfl) (from_cons rfl (opens_int Try.underlying3 (by kernel_rfl)) (from_cons rfl (opens_int Try.underlying3 (by kernel_rfl)) (from_cons rfl (opens_int Try.underlying3 (by kernel_rfl)) (from_last rfl (opens_int Try.underlying3 (by kernel_rfl)))))))) (fun x h => by simpa [and_assoc] using h)
set_option maxRecDepth 100000 in
theorem open_S173 : Opens Try.prog 173 k173 (fun x => (Lit.int .i64 x.f0).wf = true ∧ (Lit.int .i64 x.f1).wf = true) :=
  opens_imp (opens_iso (fun x : S173 => (x.f0, x.f1)) (fun p => ⟨p.1, p.2⟩) (fun _ => rfl) (opens_struct Try.underlying173 (by kernel_rfl) (from_cons rfl (opens_int Try.underlying3 (by kernel_rfl)) (from_last rfl (opens_int Try.underlying3 (by kernel_rfl)))))) (fun x h => by simpa [and_assoc] using h)
set_option maxRecDepth 100000 in
theorem open_S169 : Opens Try.prog 169 k169 (fun x => (Lit.int .i64 x.f0).wf = true ∧ (Lit.int .i64 x.f1).wf = true) :=
  opens_imp (opens_iso (fun x : S169 => (x.f0, x.f1)) (fun p => ⟨p.1, p.2⟩) (fun _ => rfl) (opens_struct Try.underlying169 (by kernel_rfl) (from_cons rfl (opens_int Try.underlying3 (by kernel_rfl)) (from_last rfl (opens_int Try.underlying3 (by kernel_rfl)))))) (fun x h => by simpa [and_assoc] using h)
set_option maxRecDepth 100000 in
theorem open_S175 : Opens Try.prog 175 k175 (fun x => (Lit.int .i64 x.f0).wf = true ∧ (Lit.int .i64 x.f1).wf = true ∧ (Lit.int .i64 x.f2.f0).wf = true ∧ (Lit.int .i64 x.f2.f1).wf = true ∧ (Lit.int .i64 x.f3).wf = true ∧ (Lit.int .i64 x.f4).wf = true ∧ (Lit.int .i64 x.f5.f0).wf = true ∧ (Lit.int .i64 x.f5.f1).wf = true) :=
  opens_imp (opens_iso (fun x : S175 => (x.f0, x.f1, x.f2, x.f3, x.f4, x.f5)) (fun p => ⟨p.1, p.2.1, p.2.2.1, p.2.2.2.1, p.2.2.2.2.1, p.2.2.2.2.2⟩) (fun _ => rfl) (opens_struct Try.underlying175 (by kernel_rfl) (from_cons rfl (opens_int Try.underlying3 (by kernel_rfl)) (from_cons rfl (opens_int Try.underlying3 (by kernel_rfl)) (from_cons rfl (open_S169) (from_cons rfl (opens_int Try.underlying3 (by kernel_rfl)) (from_cons rfl (opens_int Try.underlying3 (by kernel_rfl)) (from_last rfl (open_S173))))))))) (fun x h => by simpa [and_assoc] using h)
set_option maxRecDepth 100000 in
theorem open_S126 : Opens Try.prog 126 k126 (fun x => (Lit.int .i64 x.f0).wf = true ∧ (Lit.int .i64 x.f1).wf = true ∧ (Lit.int .i64 x.f2).wf = true) :=
  opens_imp (opens_iso (fun x : S126 => (x.f0, x.f1, x.f2)) (fun p => ⟨p.1, p.2.1, p.2.2⟩) (fun _ => rfl) (opens_struct Try.underlying126 (by kernel_rfl) (from_cons rfl (opens_int Try.underlying3 (by kernel_rfl)) (from_cons rfl (opens_int Try.underlying3 (by kernel_rfl)) (from_last rfl (opens_int Try.underlying3 (by kernel_rfl))))))) (fun x h => by simpa [and_assoc] using h)
set_option maxRecDepth 100000 in
theorem open_S171 : Opens Try.prog 171 k171 (fun x => (Lit.int .i64 x.f0).wf = true ∧ (Lit.int .i64 x.f1.f0).wf = true ∧ (Lit.int .i64 x.f1.f1).wf = true ∧ (Lit.int .i64 x.f2).wf = true ∧ (Lit.int .i64 x.f3).wf = true ∧ (Lit.int .i64 x.f4).wf = true) :=
  opens_imp (opens_iso (fun x : S171 => (x.f0, x.f1, x.f2, x.f3, x.f4, x.f5)) (fun p => ⟨p.1, p.2.1, p.2.2.1, p.2.2.2.1, p.2.2.2.2.1, p.2.2.2.2.2⟩) (fun _ => rfl) (opens_struct Try.underlying171 (by kernel_rfl) (from_cons rfl (opens_int Try.underlying3 (by kernel_rfl)) (from_cons rfl (open_S169) (from_cons rfl (opens_int Try.underlying3 (by kernel_rfl)) (from_cons rfl (opens_int Try.underlying3 (by kernel_rfl)) (from_cons rfl (opens_int Try.underlying3 (by kernel_rfl)) (from_last rfl (opens_bool Try.underlying4 (by kernel_rfl)))))))))) (fun x h => by simpa [and_assoc] using h)
set_option maxRecDepth 100000 in
theorem flat_10_0 {W : World} {x0} {cs : List Value} (h : (Kd.K (Kd.pair (Kd.int .i64) (Kd.pair (Kd.int .i64) (Kd.pair (Kd.int .i64) (Kd.pair (Kd.slice 171 (k171)) (Kd.pair (Kd.slice 126 (k126)) (Kd.pair (Kd.slice 175 (k175)) (Kd.pair (Kd.slice 107 (k107)) (Kd.int .i64)))))))) W x0 cs)) : ∃ (A0_3 : Option Addr) (c0_3 : Nat) (A0_4 : Option Addr) (c0_4 : Nat) (A0_5 : Option Addr) (c0_5 : Nat) (A0_6 : Option Addr) (c0_6 : Nat), cs = [.int .i64 x0.1, .int .i64 x0.2.1, .int .i64 x0.2.2.1, .slice A0_3 (x0.2.2.2.1).length c0_3, .slice A0_4 (x0.2.2.2.2.1).length c0_4, .slice A0_5 (x0.2.2.2.2.2.1).length c0_5, .slice A0_6 (x0.2.2.2.2.2.2.1).length c0_6, .int .i64 x0.2.2.2.2.2.2.2] ∧ ((x0.2.2.2.1).length ≤ c0_3 ∧ Kd.C k171 W A0_3 (x0.2.2.2.1).length x0.2.2.2.1) ∧ ((x0.2.2.2.2.1).length ≤ c0_4 ∧ Kd.C k126 W A0_4 (x0.2.2.2.2.1).length x0.2.2.2.2.1) ∧ ((x0.2.2.2.2.2.1).length ≤ c0_5 ∧ Kd.C k175 W A0_5 (x0.2.2.2.2.2.1).length x0.2.2.2.2.2.1) ∧ ((x0.2.2.2.2.2.2.1).length ≤ c0_6 ∧ Kd.C k107 W A0_6 (x0.2.2.2.2.2.2.1).length x0.2.2.2.2.2.2.1) := by
  obtain ⟨_, _, rfl, rfl, ⟨_, _, rfl, rfl, ⟨_, _, rfl, rfl, ⟨_, _, rfl, ⟨_, _, rfl, hl3, hc3⟩, ⟨_, _, rfl, ⟨_, _, rfl, hl4, hc4⟩, ⟨_, _, rfl, ⟨_, _, rfl, hl5, hc5⟩, ⟨_, _, rfl, ⟨_, _, rfl, hl6, hc6⟩, rfl⟩⟩⟩⟩⟩⟩⟩ := h
  exact ⟨_, _, _, _, _, _, _, _, rfl, ⟨hl3, hc3⟩, ⟨hl4, hc4⟩, ⟨hl5, hc5⟩, ⟨hl6, hc6⟩⟩
set_option maxRecDepth 100000 in
theorem lifted (os : Os) (started : os.Started) (H : Type) (enc : TypeId × Value → H) :
    ReturnsInHanded {} Try.checked os 10 .any (Rows.fnExactIsPackageSpec.pre6 enc Try.prog Try.f10 Rows.fnExactIsPackageRow.domain false) (Rows.fnExactIsPackageSpec.post enc Try.prog Try.f10 false true false false) := by
  refine returnsInHanded_of_change_sized (C := Try.checked) own started (by kernel_rfl) Try.func10
    (ChangeSpec.witness6 (enc := enc) (C := Try.checked) false ⟨#[], #[.agg #[.int .i64 0, .int .i64 0, .int .i64 0, .slice none 0 0, .slice none 0 0, .slice none 0 0, .slice none 0 0, .int .i64 0]], []⟩ 8 (by kernel_rfl) (by kernel_rfl) (by kernel_rfl) (by kernel_rfl)) ?_
  intro W base args ds gs before hval0 hW hcnd hsz0 _
  have hval : ∀ (j : Nat) t v, Try.f10.params[j]? = some t → args[j]? = some v → Value.okWide Try.prog W .any base t v := hval0
  have hW' := hW
  obtain ⟨p, q, hA0, hV, rfl, hfz, hnd⟩ := hW
  have hA : DataW.TrodAll enc Try.prog W 0 (fun _ => true) true Try.f10.params.toList args.toList ds p := hA0
  rw [Try.params10] at hA hval
  obtain ⟨v0, vs0, d0, ds0, p0, q0, hargs, rfl, rfl, h0, r0⟩ := trodAll_cons hA
  obtain ⟨rfl, rfl, rfl⟩ := trodAll_nil r0
  obtain rfl : args = #[v0] := by cases args; simp_all
  obtain ⟨rfl, rfl⟩ := trodVars_none hV
  have k0 := h0
  have lt0 : ∀ x ∈ p0, x.block < W.heap.size := by obtain ⟨m, hm⟩ := k0; exact DataW.trod_lt m _ _ _ hm
  obtain ⟨x0, cs0, rfl, K0, g0⟩ := top_struct Try.underlying60 (opens_struct Try.underlying60 (by kernel_rfl) (from_cons rfl (opens_int Try.underlying3 (by kernel_rfl)) (from_cons rfl (opens_int Try.underlying3 (by kernel_rfl)) (from_cons rfl (opens_int Try.underlying3 (by kernel_rfl)) (from_cons rfl (opens_slice Try.underlying57 (by kernel_rfl) (open_S171)) (from_cons rfl (opens_slice Try.underlying52 (by kernel_rfl) (open_S126)) (from_cons rfl (opens_slice Try.underlying58 (by kernel_rfl) (open_S175)) (from_cons rfl (opens_slice Try.underlying22 (by kernel_rfl) (open_S107)) (from_last rfl (opens_int Try.underlying3 (by kernel_rfl))))))))))) (hval 0 60 v0 rfl rfl) h0
  obtain ⟨A0_3, c0_3, A0_4, c0_4, A0_5, c0_5, A0_6, c0_6, e0, ⟨hc0_3, hr0_3⟩, ⟨hc0_4, hr0_4⟩, ⟨hc0_5, hr0_5⟩, ⟨hc0_6, hr0_6⟩⟩ := flat_10_0 K0
  obtain rfl : cs0 = #[.int .i64 x0.1, .int .i64 x0.2.1, .int .i64 x0.2.2.1, .slice A0_3 (x0.2.2.2.1).length c0_3, .slice A0_4 (x0.2.2.2.2.1).length c0_4, .slice A0_5 (x0.2.2.2.2.2.1).length c0_5, .slice A0_6 (x0.2.2.2.2.2.2.1).length c0_6, .int .i64 x0.2.2.2.2.2.2.2] := by cases cs0; simp_all
  try simp only [and_assoc] at g0
  obtain ⟨GG0_0, GG0_1, GG0_2, GG0_3a, GG0_3b, GG0_4a, GG0_4b, GG0_5a, GG0_5b, GG0_6a, GG0_6b, GG0_7⟩ := g0
  clear hA0 hval0 hsz0
  obtain ⟨k, hp⟩ := Pure.FnExactIsPackage x0.1 x0.2.1 x0.2.2.1 x0.2.2.2.1 x0.2.2.2.2.1 x0.2.2.2.2.2.1 x0.2.2.2.2.2.2.1 x0.2.2.2.2.2.2.2 GG0_0 GG0_1 GG0_2 GG0_3a GG0_3b GG0_4a GG0_4b GG0_5a GG0_5b GG0_6a GG0_6b GG0_7
  refine (laws_FnExactIsPackage.calls k x0.1 x0.2.1 x0.2.2.1 A0_3 c0_3 x0.2.2.2.1 A0_4 c0_4 x0.2.2.2.2.1 A0_5 c0_5 x0.2.2.2.2.2.1 A0_6 c0_6 x0.2.2.2.2.2.2.1 x0.2.2.2.2.2.2.2 W hr0_3 hc0_3 hr0_4 hc0_4 hr0_5 hc0_5 hr0_6 hc0_6 hp).mono fun e W' ⟨he, bel0⟩ => ?_
  have bel : Below W.heap.size W W' := bel0
  subst he
  exact ⟨_, rfl, _, _, _, [], _, [], hW', trodAll_mk1 (shut_bool Try.underlying4 _), (trodAll_cons_mk (Below.trod laidOut (by kernel_rfl) (of_decide_eq_true (by kernel_rfl)) k0 bel lt0) trodAll_mk0), rfl, bel.frame _, fun h => by cases h⟩
theorem over : Rows.fnExactIsPackageRow.holds Try.pinned (OpenSpec.ofChange Rows.fnExactIsPackageSpec) :=
  OpenClaim.holds_of_wide 10 Try.f10 rfl rfl rfl rfl rfl rfl rfl ⟨rfl, rfl, rfl, rfl, rfl⟩ rfl rfl rfl rfl rfl (by kernel_rfl) Try.func10 (by kernel_rfl)
    (of_decide_eq_true (by kernel_rfl)) (by unfold Func.isWrapper; first | (rw [if_pos (by decide +kernel)]; kernel_rfl) | (rw [if_neg (by decide +kernel)]; exact ⟨rfl, rfl⟩))
    (fun os started H enc _ => lifted os started H enc)
theorem proved : Rows.FnExactIsPackageSaid := over
#print axioms proved
end Go.Proofs.Ytmpkaooelpbeaaa.fnExactIsPackage
namespace Go.Proofs.Ytmpkaooelpbeaaa
/-- The row, under a short name, for the claim. -/
theorem fnExactIsPackage_holds : Rows.FnExactIsPackageSaid := fnExactIsPackage.proved
end Go.Proofs.Ytmpkaooelpbeaaa
