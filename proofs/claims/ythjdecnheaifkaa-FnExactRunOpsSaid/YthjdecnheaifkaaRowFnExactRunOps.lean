/- The row of the law FnExactRunOps: for all arguments the law returns true and leaves its arguments as they were; no conditions. -/
import Derived.Test.YthjdecnheaifkaaRows
import Derived.Test.YthjdecnheaifkaaPureFnExactRunOps
namespace Go.Proofs.Ythjdecnheaifkaa.fnExactRunOps
open Go Go.Eng Go.ChangeShapes Go.WideShapes Go.ChangeAt Go.RowKit Go.Proofs
open Go.Proofs.Ythjdecnheaifkaa.PFnExactRunOps
set_option linter.unusedVariables false
set_option maxRecDepth 100000
theorem own : ownKnob Try.prog.godebug = none := by kernel_rfl
theorem laidOut : laidOutB Try.prog = true := by kernel_rfl
theorem lifted (os : Os) (started : os.Started) (H : Type) (enc : TypeId × Value → H) :
    ReturnsInHanded {} Try.checked os 7 .any (Rows.fnExactRunOpsSpec.pre6 enc Try.prog Try.f7 Rows.fnExactRunOpsRow.domain false) (Rows.fnExactRunOpsSpec.post enc Try.prog Try.f7 false true false false) := by
  refine returnsInHanded_of_change_sized (C := Try.checked) own started (by kernel_rfl) Try.func7
    (ChangeSpec.witness6 (enc := enc) (C := Try.checked) false ⟨#[], #[.slice none 0 0, .slice none 0 0, .slice none 0 0, .int .i64 0], []⟩ 8 (by kernel_rfl) (by kernel_rfl) (by kernel_rfl) (by kernel_rfl)) ?_
  intro W base args ds gs before hval0 hW hcnd hsz0 _
  have hval : ∀ (j : Nat) t v, Try.f7.params[j]? = some t → args[j]? = some v → Value.okWide Try.prog W .any base t v := hval0
  have hW' := hW
  obtain ⟨p, q, hA0, hV, rfl, hfz, hnd⟩ := hW
  have hA : DataW.TrodAll enc Try.prog W 0 (fun _ => true) true Try.f7.params.toList args.toList ds p := hA0
  rw [Try.params7] at hA hval
  obtain ⟨v0, vs0, d0, ds0, p0, q0, hargs, rfl, rfl, h0, r0⟩ := trodAll_cons hA
  obtain ⟨v1, vs1, d1, ds1, p1, q1, rfl, rfl, rfl, h1, r1⟩ := trodAll_cons r0
  obtain ⟨v2, vs2, d2, ds2, p2, q2, rfl, rfl, rfl, h2, r2⟩ := trodAll_cons r1
  obtain ⟨v3, vs3, d3, ds3, p3, q3, rfl, rfl, rfl, h3, r3⟩ := trodAll_cons r2
  obtain ⟨rfl, rfl, rfl⟩ := trodAll_nil r3
  obtain rfl : args = #[v0, v1, v2, v3] := by cases args; simp_all
  obtain ⟨rfl, rfl⟩ := trodVars_none hV
  have k0 := h0
  have lt0 : ∀ x ∈ p0, x.block < W.heap.size := by obtain ⟨m, hm⟩ := k0; exact DataW.trod_lt m _ _ _ hm
  have L0 := top_one (kO := kO) κ_ok (fun _ k _ => kop k) (ks := [.s 0]) (by kernel_rfl) (by kernel_rfl) (hval 0 22 v0 rfl rfl) h0
  obtain ⟨sa0, us0_0, a0, e0, Ra0, wa0, L0_1⟩ := leafs_sl L0
  obtain rfl := leafs_nil L0_1
  obtain rfl : sa0 = v0 := (List.cons.inj e0).1.symm
  have k1 := h1
  have lt1 : ∀ x ∈ p1, x.block < W.heap.size := by obtain ⟨m, hm⟩ := k1; exact DataW.trod_lt m _ _ _ hm
  have L1 := top_one (kO := kO) κ_ok (fun _ k _ => kop k) (ks := [.s 1]) (by kernel_rfl) (by kernel_rfl) (hval 1 24 v1 rfl rfl) h1
  obtain ⟨sa1, us1_0, a1, e1, Ra1, wa1, L1_1⟩ := leafs_sl L1
  obtain rfl := leafs_nil L1_1
  obtain rfl : sa1 = v1 := (List.cons.inj e1).1.symm
  have k2 := h2
  have lt2 : ∀ x ∈ p2, x.block < W.heap.size := by obtain ⟨m, hm⟩ := k2; exact DataW.trod_lt m _ _ _ hm
  have L2 := top_one (kO := kO) κ_ok (fun _ k _ => kop k) (ks := [.s 2]) (by kernel_rfl) (by kernel_rfl) (hval 2 52 v2 rfl rfl) h2
  obtain ⟨sa2, us2_0, a2, e2, Ra2, wa2, L2_1⟩ := leafs_sl L2
  obtain rfl := leafs_nil L2_1
  obtain rfl : sa2 = v2 := (List.cons.inj e2).1.symm
  have k3 := h3
  have lt3 : ∀ x ∈ p3, x.block < W.heap.size := by obtain ⟨m, hm⟩ := k3; exact DataW.trod_lt m _ _ _ hm
  have L3 := top_one (kO := kO) κ_ok (fun _ k _ => kop k) (ks := [.c (.int .i64 0)]) (by kernel_rfl) (by kernel_rfl) (hval 3 3 v3 rfl rfl) h3
  obtain ⟨a3, us3_0, e3, wa3, L3_1⟩ := leafs_int L3
  obtain rfl := leafs_nil L3_1
  obtain rfl : v3 = .int .i64 a3 := (List.cons.inj e3).1
  clear hA0 hval0 hsz0
  obtain ⟨k, hp⟩ := Pure.FnExactRunOps a0 a1 a2 a3 wa0.1 wa0.2 wa1.1 wa1.2 wa2.1 wa2.2 wa3
  refine (law_calls κ_ok mixed tok (laws_FnExactRunOps.hΓ k) Try.func7 rfl (by kernel_rfl) (laws_FnExactRunOps.lok k) (rw := rwI (flags laws_FnExactRunOps.sig) 0) rfl (Lr := []) (out := laws_FnExactRunOps.out) (fun ret y h => by rw [laws_FnExactRunOps.out_ok ret y h]; rfl) (av := [.v (.sl 0), .v (.sl 1), .v (.sl 2), .v (.int .i64 a3)]) (bs := [.rows 0 false a0, .rows 1 false a1, .rows 2 false a2]) (ms := [sa0, sa1, sa2]) (cargs := [sa0, sa1, sa2, .int .i64 a3]) rfl ⟨Ra0, Ra1, Ra2, trivial⟩ rfl ⟨rfl, rfl, rfl, rfl, trivial⟩ ((laws_FnExactRunOps.den k a0 a1 a2 a3).trans hp)).mono fun e W' ⟨he, bel⟩ => ?_
  subst he
  exact ⟨_, rfl, _, _, _, [], _, [], hW', trodAll_mk1 (shut_bool Try.underlying4 _), (trodAll_cons_mk (Below.trod laidOut (by kernel_rfl) (of_decide_eq_true (by kernel_rfl)) k0 bel lt0) (trodAll_cons_mk (Below.trod laidOut (by kernel_rfl) (of_decide_eq_true (by kernel_rfl)) k1 bel lt1) (trodAll_cons_mk (Below.trod laidOut (by kernel_rfl) (of_decide_eq_true (by kernel_rfl)) k2 bel lt2) (trodAll_cons_mk (Below.trod laidOut (by kernel_rfl) (of_decide_eq_true (by kernel_rfl)) k3 bel lt3) trodAll_mk0)))), rfl, bel.frame _, fun h => by cases h⟩
theorem over : Rows.fnExactRunOpsRow.holds Try.pinned (OpenSpec.ofChange Rows.fnExactRunOpsSpec) :=
  OpenClaim.holds_of_wide 7 Try.f7 rfl rfl rfl rfl rfl rfl rfl ⟨rfl, rfl, rfl, rfl, rfl⟩ rfl rfl rfl rfl rfl (by kernel_rfl) Try.func7 (by kernel_rfl)
    (of_decide_eq_true (by kernel_rfl)) (by unfold Func.isWrapper; first | (rw [if_pos (by decide +kernel)]; kernel_rfl) | (rw [if_neg (by decide +kernel)]; exact ⟨rfl, rfl⟩))
    (fun os started H enc _ => lifted os started H enc)
theorem proved : Rows.FnExactRunOpsSaid := over
end Go.Proofs.Ythjdecnheaifkaa.fnExactRunOps
namespace Go.Proofs.Ythjdecnheaifkaa
/-- The row, under a short name, for the claim. -/
theorem fnExactRunOps_holds : Rows.FnExactRunOpsSaid := fnExactRunOps.proved
end Go.Proofs.Ythjdecnheaifkaa
