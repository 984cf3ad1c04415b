/- The row of the law FnExactTakeSnapshot: for all arguments the law returns true and leaves its arguments as they were; no conditions. -/
import Derived.Test.YthingkcckjiniaaRows
import Derived.Test.YthingkcckjiniaaPureFnExactTakeSnapshot
namespace Go.Proofs.Ythingkcckjiniaa.fnExactTakeSnapshot
open Go Go.Eng Go.ChangeShapes Go.WideShapes Go.ChangeAt Go.RowKit Go.Proofs
open Go.Proofs.Ythingkcckjiniaa.PFnExactTakeSnapshot
set_option linter.unusedVariables false
set_option maxRecDepth 100000
theorem own : ownKnob Try.prog.godebug = none := by kernel_rfl
theorem laidOut : laidOutB Try.prog = true := by kernel_rfl
theorem lifted (os : Os) (started : os.Started) (H : Type) (enc : TypeId × Value → H) :
    ReturnsInHanded {} Try.checked os 8 .any (Rows.fnExactTakeSnapshotSpec.pre6 enc Try.prog Try.f8 Rows.fnExactTakeSnapshotRow.domain false) (Rows.fnExactTakeSnapshotSpec.post enc Try.prog Try.f8 false true false false) := by
  refine returnsInHanded_of_change_sized (C := Try.checked) own started (by kernel_rfl) Try.func8
    (ChangeSpec.witness6 (enc := enc) (C := Try.checked) false ⟨#[], #[.agg #[.int .i64 0, .int .i64 0, .int .i64 0, .slice none 0 0, .slice none 0 0, .slice none 0 0, .slice none 0 0, .int .i64 0], .slice none 0 0], []⟩ 8 (by kernel_rfl) (by kernel_rfl) (by kernel_rfl) (by kernel_rfl)) ?_
  intro W base args ds gs before hval0 hW hcnd hsz0 _
  have hval : ∀ (j : Nat) t v, Try.f8.params[j]? = some t → args[j]? = some v → Value.okWide Try.prog W .any base t v := hval0
  have hW' := hW
  obtain ⟨p, q, hA0, hV, rfl, hfz, hnd⟩ := hW
  have hA : DataW.TrodAll enc Try.prog W 0 (fun _ => true) true Try.f8.params.toList args.toList ds p := hA0
  rw [Try.params8] at hA hval
  obtain ⟨v0, vs0, d0, ds0, p0, q0, hargs, rfl, rfl, h0, r0⟩ := trodAll_cons hA
  obtain ⟨v1, vs1, d1, ds1, p1, q1, rfl, rfl, rfl, h1, r1⟩ := trodAll_cons r0
  obtain ⟨rfl, rfl, rfl⟩ := trodAll_nil r1
  obtain rfl : args = #[v0, v1] := by cases args; simp_all
  obtain ⟨rfl, rfl⟩ := trodVars_none hV
  have k0 := h0
  have lt0 : ∀ x ∈ p0, x.block < W.heap.size := by obtain ⟨m, hm⟩ := k0; exact DataW.trod_lt m _ _ _ hm
  obtain ⟨us0, rfl, L0⟩ := top_agg (kO := kO) κ_ok (fun _ k _ => kop k) (ks := [.c (.int .i64 0), .c (.int .i64 0), .c (.int .i64 0), .s 0, .s 1, .s 2, .s 3, .c (.int .i64 0)]) Try.underlying50 (by kernel_rfl) (hval 0 50 v0 rfl rfl) h0
  obtain ⟨a0_0, us0_0, e0, wa0_0, L0_1⟩ := leafs_int L0
  obtain ⟨a0_1, us0_1, rfl, wa0_1, L0_2⟩ := leafs_int L0_1
  obtain ⟨a0_2, us0_2, rfl, wa0_2, L0_3⟩ := leafs_int L0_2
  obtain ⟨sa0_3, us0_3, a0_3, rfl, Ra0_3, wa0_3, L0_4⟩ := leafs_sl L0_3
  obtain ⟨sa0_4, us0_4, a0_4, rfl, Ra0_4, wa0_4, L0_5⟩ := leafs_sl L0_4
  obtain ⟨sa0_5, us0_5, a0_5, rfl, Ra0_5, wa0_5, L0_6⟩ := leafs_sl L0_5
  obtain ⟨sa0_6, us0_6, a0_6, rfl, Ra0_6, wa0_6, L0_7⟩ := leafs_sl L0_6
  obtain ⟨a0_7, us0_7, rfl, wa0_7, L0_8⟩ := leafs_int L0_7
  obtain rfl := leafs_nil L0_8
  obtain rfl : us0 = #[.int .i64 a0_0, .int .i64 a0_1, .int .i64 a0_2, sa0_3, sa0_4, sa0_5, sa0_6, .int .i64 a0_7] := Array.toList_inj.1 e0
  have k1 := h1
  have lt1 : ∀ x ∈ p1, x.block < W.heap.size := by obtain ⟨m, hm⟩ := k1; exact DataW.trod_lt m _ _ _ hm
  have L1 := top_one (kO := kO) κ_ok (fun _ k _ => kop k) (ks := [.s 4]) (by kernel_rfl) (by kernel_rfl) (hval 1 71 v1 rfl rfl) h1
  obtain ⟨sa1, us1_0, a1, e1, Ra1, wa1, L1_1⟩ := leafs_sl L1
  obtain rfl := leafs_nil L1_1
  obtain rfl : sa1 = v1 := (List.cons.inj e1).1.symm
  clear hA0 hval0 hsz0
  obtain ⟨k, hp⟩ := Pure.FnExactTakeSnapshot a0_0 a0_1 a0_2 a0_3 a0_4 a0_5 a0_6 a0_7 a1 wa0_0 wa0_1 wa0_2 wa0_3.1 wa0_3.2 wa0_4.1 wa0_4.2 wa0_5.1 wa0_5.2 wa0_6.1 wa0_6.2 wa0_7 wa1.1 wa1.2
  refine (law_calls κ_ok mixed tok (laws_FnExactTakeSnapshot.hΓ k) Try.func8 rfl (by kernel_rfl) (laws_FnExactTakeSnapshot.lok k) (rw := rwI (flags laws_FnExactTakeSnapshot.sig) 0) rfl (Lr := []) (out := laws_FnExactTakeSnapshot.out) (fun ret y h => by rw [laws_FnExactTakeSnapshot.out_ok ret y h]; rfl) (av := [.agg [.int .i64 a0_0, .int .i64 a0_1, .int .i64 a0_2, .sl 0, .sl 1, .sl 2, .sl 3, .int .i64 a0_7], .v (.sl 4)]) (bs := [.rows 0 false a0_3, .rows 1 false a0_4, .rows 2 false a0_5, .rows 3 false a0_6, .rows 4 false a1]) (ms := [sa0_3, sa0_4, sa0_5, sa0_6, sa1]) (cargs := [.agg #[.int .i64 a0_0, .int .i64 a0_1, .int .i64 a0_2, sa0_3, sa0_4, sa0_5, sa0_6, .int .i64 a0_7], sa1]) rfl ⟨Ra0_3, Ra0_4, Ra0_5, Ra0_6, Ra1, trivial⟩ rfl ⟨⟨_, rfl, LvsR_RLs ⟨rfl, rfl, rfl, rfl, rfl, rfl, rfl, rfl, trivial⟩⟩, rfl, trivial⟩ ((laws_FnExactTakeSnapshot.den k a0_0 a0_1 a0_2 a0_3 a0_4 a0_5 a0_6 a0_7 a1).trans hp)).mono fun e W' ⟨he, bel⟩ => ?_
  subst he
  exact ⟨_, rfl, _, _, _, [], _, [], hW', trodAll_mk1 (shut_bool Try.underlying4 _), (trodAll_cons_mk (Below.trod laidOut (by kernel_rfl) (of_decide_eq_true (by kernel_rfl)) k0 bel lt0) (trodAll_cons_mk (Below.trod laidOut (by kernel_rfl) (of_decide_eq_true (by kernel_rfl)) k1 bel lt1) trodAll_mk0)), rfl, bel.frame _, fun h => by cases h⟩
theorem over : Rows.fnExactTakeSnapshotRow.holds Try.pinned (OpenSpec.ofChange Rows.fnExactTakeSnapshotSpec) :=
  OpenClaim.holds_of_wide 8 Try.f8 rfl rfl rfl rfl rfl rfl rfl ⟨rfl, rfl, rfl, rfl, rfl⟩ rfl rfl rfl rfl rfl (by kernel_rfl) Try.func8 (by kernel_rfl)
    (of_decide_eq_true (by kernel_rfl)) (by unfold Func.isWrapper; first | (rw [if_pos (by decide +kernel)]; kernel_rfl) | (rw [if_neg (by decide +kernel)]; exact ⟨rfl, rfl⟩))
    (fun os started H enc _ => lifted os started H enc)
theorem proved : Rows.FnExactTakeSnapshotSaid := over
end Go.Proofs.Ythingkcckjiniaa.fnExactTakeSnapshot
namespace Go.Proofs.Ythingkcckjiniaa
/-- The row, under a short name, for the claim. -/
theorem fnExactTakeSnapshot_holds : Rows.FnExactTakeSnapshotSaid := fnExactTakeSnapshot.proved
end Go.Proofs.Ythingkcckjiniaa
