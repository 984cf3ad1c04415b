/- The row of the law FnExactMergeStores: for all arguments the law returns true and leaves its arguments as they were; no conditions. -/
import Derived.Test.YtmjflahlhgibnaaRows
import Derived.Test.YtmjflahlhgibnaaPureFnExactMergeStores
namespace Go.Proofs.Ytmjflahlhgibnaa.fnExactMergeStores
open Go Go.Eng Go.ChangeShapes Go.WideShapes Go.ChangeAt Go.RowKit Go.Proofs
open Go.Proofs.Ytmjflahlhgibnaa.PFnExactMergeStores
set_option linter.unusedVariables false
set_option maxRecDepth 100000
theorem own : ownKnob Try.prog.godebug = none := by kernel_rfl
theorem laidOut : laidOutB Try.prog = true := by kernel_rfl
theorem lifted (os : Os) (started : os.Started) (H : Type) (enc : TypeId × Value → H) :
    ReturnsInHanded {} Try.checked os 4 .any (Rows.fnExactMergeStoresSpec.pre6 enc Try.prog Try.f4 Rows.fnExactMergeStoresRow.domain false) (Rows.fnExactMergeStoresSpec.post enc Try.prog Try.f4 false true false false) := by
  refine returnsInHanded_of_change_sized (C := Try.checked) own started (by kernel_rfl) Try.func4
    (ChangeSpec.witness6 (enc := enc) (C := Try.checked) false ⟨#[], #[.slice none 0 0, .slice none 0 0], []⟩ 8 (by kernel_rfl) (by kernel_rfl) (by kernel_rfl) (by kernel_rfl)) ?_
  intro W base args ds gs before hval0 hW hcnd hsz0 _
  have hval : ∀ (j : Nat) t v, Try.f4.params[j]? = some t → args[j]? = some v → Value.okWide Try.prog W .any base t v := hval0
  have hW' := hW
  obtain ⟨p, q, hA0, hV, rfl, hfz, hnd⟩ := hW
  have hA : DataW.TrodAll enc Try.prog W 0 (fun _ => true) true Try.f4.params.toList args.toList ds p := hA0
  rw [Try.params4] at hA hval
  obtain ⟨v0, vs0, d0, ds0, p0, q0, hargs, rfl, rfl, h0, r0⟩ := trodAll_cons hA
  obtain ⟨v1, vs1, d1, ds1, p1, q1, rfl, rfl, rfl, h1, r1⟩ := trodAll_cons r0
  obtain ⟨rfl, rfl, rfl⟩ := trodAll_nil r1
  obtain rfl : args = #[v0, v1] := by cases args; simp_all
  obtain ⟨rfl, rfl⟩ := trodVars_none hV
  have k0 := h0
  have lt0 : ∀ x ∈ p0, x.block < W.heap.size := by obtain ⟨m, hm⟩ := k0; exact DataW.trod_lt m _ _ _ hm
  have L0 := top_one (kO := kO) κ_ok (fun _ k _ => kop k) (ks := [.s 0]) (by kernel_rfl) (by kernel_rfl) (hval 0 39 v0 rfl rfl) h0
  obtain ⟨sa0, us0_0, a0, e0, Ra0, wa0, L0_1⟩ := leafs_sl L0
  obtain rfl := leafs_nil L0_1
  obtain rfl : sa0 = v0 := (List.cons.inj e0).1.symm
  have k1 := h1
  have lt1 : ∀ x ∈ p1, x.block < W.heap.size := by obtain ⟨m, hm⟩ := k1; exact DataW.trod_lt m _ _ _ hm
  have L1 := top_one (kO := kO) κ_ok (fun _ k _ => kop k) (ks := [.s 0]) (by kernel_rfl) (by kernel_rfl) (hval 1 39 v1 rfl rfl) h1
  obtain ⟨sa1, us1_0, a1, e1, Ra1, wa1, L1_1⟩ := leafs_sl L1
  obtain rfl := leafs_nil L1_1
  obtain rfl : sa1 = v1 := (List.cons.inj e1).1.symm
  clear hA0 hval0 hsz0
  obtain ⟨k, hp⟩ := Pure.FnExactMergeStores a0 a1 wa0.1 wa0.2 wa1.1 wa1.2
  refine (law_calls κ_ok mixed tok (laws_FnExactMergeStores.hΓ k) Try.func4 rfl (by kernel_rfl) (laws_FnExactMergeStores.lok k) (rw := rwI (flags laws_FnExactMergeStores.sig) 0) rfl (Lr := []) (out := laws_FnExactMergeStores.out) (fun ret y h => by rw [laws_FnExactMergeStores.out_ok ret y h]; rfl) (av := [.v (.sl 0), .v (.sl 1)]) (bs := [.rows 0 false a0, .rows 0 false a1]) (ms := [sa0, sa1]) (cargs := [sa0, sa1]) rfl ⟨Ra0, Ra1, trivial⟩ rfl ⟨rfl, rfl, trivial⟩ ((laws_FnExactMergeStores.den k a0 a1).trans hp)).mono fun e W' ⟨he, bel⟩ => ?_
  subst he
  exact ⟨_, rfl, _, _, _, [], _, [], hW', trodAll_mk1 (shut_bool Try.underlying4 _), (trodAll_cons_mk (Below.trod laidOut (by kernel_rfl) (of_decide_eq_true (by kernel_rfl)) k0 bel lt0) (trodAll_cons_mk (Below.trod laidOut (by kernel_rfl) (of_decide_eq_true (by kernel_rfl)) k1 bel lt1) trodAll_mk0)), rfl, bel.frame _, fun h => by cases h⟩
theorem over : Rows.fnExactMergeStoresRow.holds Try.pinned (OpenSpec.ofChange Rows.fnExactMergeStoresSpec) :=
  OpenClaim.holds_of_wide 4 Try.f4 rfl rfl rfl rfl rfl rfl rfl ⟨rfl, rfl, rfl, rfl, rfl⟩ rfl rfl rfl rfl rfl (by kernel_rfl) Try.func4 (by kernel_rfl)
    (of_decide_eq_true (by kernel_rfl)) (by unfold Func.isWrapper; first | (rw [if_pos (by decide +kernel)]; kernel_rfl) | (rw [if_neg (by decide +kernel)]; exact ⟨rfl, rfl⟩))
    (fun os started H enc _ => lifted os started H enc)
theorem proved : Rows.FnExactMergeStoresSaid := over
end Go.Proofs.Ytmjflahlhgibnaa.fnExactMergeStores
namespace Go.Proofs.Ytmjflahlhgibnaa
/-- The row, under a short name, for the claim. -/
theorem fnExactMergeStores_holds : Rows.FnExactMergeStoresSaid := fnExactMergeStores.proved
end Go.Proofs.Ytmjflahlhgibnaa
