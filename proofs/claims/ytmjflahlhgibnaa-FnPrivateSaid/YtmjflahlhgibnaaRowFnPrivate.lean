/- The row of the law FnPrivate: for all arguments the law returns true and leaves its arguments as they were; no conditions. -/
import Derived.Test.YtmjflahlhgibnaaRows
import Derived.Test.YtmjflahlhgibnaaPureFnPrivate
namespace Go.Proofs.Ytmjflahlhgibnaa.fnPrivate
open Go Go.Eng Go.ChangeShapes Go.WideShapes Go.ChangeAt Go.RowKit Go.Proofs
open Go.Proofs.Ytmjflahlhgibnaa.PFnPrivate
set_option linter.unusedVariables false
set_option maxRecDepth 100000
theorem own : ownKnob Try.prog.godebug = none := by kernel_rfl
theorem laidOut : laidOutB Try.prog = true := by kernel_rfl
theorem lifted (os : Os) (started : os.Started) (H : Type) (enc : TypeId × Value → H) :
    ReturnsInHanded {} Try.checked os 3 .any (Rows.fnPrivateSpec.pre6 enc Try.prog Try.f3 Rows.fnPrivateRow.domain false) (Rows.fnPrivateSpec.post enc Try.prog Try.f3 false true false false) := by
  refine returnsInHanded_of_change_sized (C := Try.checked) own started (by kernel_rfl) Try.func3
    (ChangeSpec.witness6 (enc := enc) (C := Try.checked) false ⟨#[], #[.slice none 0 0], []⟩ 8 (by kernel_rfl) (by kernel_rfl) (by kernel_rfl) (by kernel_rfl)) ?_
  intro W base args ds gs before hval0 hW hcnd hsz0 _
  have hval : ∀ (j : Nat) t v, Try.f3.params[j]? = some t → args[j]? = some v → Value.okWide Try.prog W .any base t v := hval0
  have hW' := hW
  obtain ⟨p, q, hA0, hV, rfl, hfz, hnd⟩ := hW
  have hA : DataW.TrodAll enc Try.prog W 0 (fun _ => true) true Try.f3.params.toList args.toList ds p := hA0
  rw [Try.params3] at hA hval
  obtain ⟨v0, vs0, d0, ds0, p0, q0, hargs, rfl, rfl, h0, r0⟩ := trodAll_cons hA
  obtain ⟨rfl, rfl, rfl⟩ := trodAll_nil r0
  obtain rfl : args = #[v0] := by cases args; simp_all
  obtain ⟨rfl, rfl⟩ := trodVars_none hV
  have k0 := h0
  have lt0 : ∀ x ∈ p0, x.block < W.heap.size := by obtain ⟨m, hm⟩ := k0; exact DataW.trod_lt m _ _ _ hm
  have L0 := top_one (kO := kO) κ_ok (fun _ k _ => kop k) (ks := [.s 0]) (by kernel_rfl) (by kernel_rfl) (hval 0 22 v0 rfl rfl) h0
  obtain ⟨sa0, us0_0, a0, e0, Ra0, wa0, L0_1⟩ := leafs_sl L0
  obtain rfl := leafs_nil L0_1
  obtain rfl : sa0 = v0 := (List.cons.inj e0).1.symm
  clear hA0 hval0 hsz0
  obtain ⟨k, hp⟩ := Pure.FnPrivate a0 wa0.1 wa0.2
  refine (law_calls κ_ok mixed tok (laws_FnPrivate.hΓ k) Try.func3 rfl (by kernel_rfl) (laws_FnPrivate.lok k) (rw := rwI (flags laws_FnPrivate.sig) 0) rfl (Lr := []) (out := laws_FnPrivate.out) (fun ret y h => by rw [laws_FnPrivate.out_ok ret y h]; rfl) (av := [.v (.sl 0)]) (bs := [.rows 0 false a0]) (ms := [sa0]) (cargs := [sa0]) rfl ⟨Ra0, trivial⟩ rfl ⟨rfl, trivial⟩ ((laws_FnPrivate.den k a0).trans hp)).mono fun e W' ⟨he, bel⟩ => ?_
  subst he
  exact ⟨_, rfl, _, _, _, [], _, [], hW', trodAll_mk1 (shut_bool Try.underlying4 _), (trodAll_cons_mk (Below.trod laidOut (by kernel_rfl) (of_decide_eq_true (by kernel_rfl)) k0 bel lt0) trodAll_mk0), rfl, bel.frame _, fun h => by cases h⟩
theorem over : Rows.fnPrivateRow.holds Try.pinned (OpenSpec.ofChange Rows.fnPrivateSpec) :=
  OpenClaim.holds_of_wide 3 Try.f3 rfl rfl rfl rfl rfl rfl rfl ⟨rfl, rfl, rfl, rfl, rfl⟩ rfl rfl rfl rfl rfl (by kernel_rfl) Try.func3 (by kernel_rfl)
    (of_decide_eq_true (by kernel_rfl)) (by unfold Func.isWrapper; first | (rw [if_pos (by decide +kernel)]; kernel_rfl) | (rw [if_neg (by decide +kernel)]; exact ⟨rfl, rfl⟩))
    (fun os started H enc _ => lifted os started H enc)
theorem proved : Rows.FnPrivateSaid := over
end Go.Proofs.Ytmjflahlhgibnaa.fnPrivate
namespace Go.Proofs.Ytmjflahlhgibnaa
/-- The row, under a short name, for the claim. -/
theorem fnPrivate_holds : Rows.FnPrivateSaid := fnPrivate.proved
end Go.Proofs.Ytmjflahlhgibnaa
