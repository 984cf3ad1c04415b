/- The row of the law FnExactRestoreStore: for all arguments the law returns true and leaves its arguments as they were; no conditions. -/
import Derived.Test.YtmjflahlhgibnaaRows
import Derived.Test.YtmjflahlhgibnaaPureFnExactRestoreStore
namespace Go.Proofs.Ytmjflahlhgibnaa.fnExactRestoreStore
open Go Go.Eng Go.ChangeShapes Go.WideShapes Go.ChangeAt Go.RowKit Go.Proofs
open Go.Proofs.Ytmjflahlhgibnaa.PFnExactRestoreStore
set_option linter.unusedVariables false
set_option maxRecDepth 100000
theorem own : ownKnob Try.prog.godebug = none := by kernel_rfl
theorem laidOut : laidOutB Try.prog = true := by kernel_rfl
theorem lifted (os : Os) (started : os.Started) (H : Type) (enc : TypeId × Value → H) :
    ReturnsInHanded {} Try.checked os 6 .any (Rows.fnExactRestoreStoreSpec.pre6 enc Try.prog Try.f6 Rows.fnExactRestoreStoreRow.domain false) (Rows.fnExactRestoreStoreSpec.post enc Try.prog Try.f6 false true false false) := by
  refine returnsInHanded_of_change_sized (C := Try.checked) own started (by kernel_rfl) Try.func6
    (ChangeSpec.witness6 (enc := enc) (C := Try.checked) false ⟨#[], #[.slice none 0 0, .agg #[.int .i64 0, .int .i64 0, .int .i64 0, .slice none 0 0, .slice none 0 0, .slice none 0 0, .slice none 0 0, .int .i64 0, .slice none 0 0]], []⟩ 8 (by kernel_rfl) (by kernel_rfl) (by kernel_rfl) (by kernel_rfl)) ?_
  intro W base args ds gs before hval0 hW hcnd hsz0 _
  have hval : ∀ (j : Nat) t v, Try.f6.params[j]? = some t → args[j]? = some v → Value.okWide Try.prog W .any base t v := hval0
  have hW' := hW
  obtain ⟨p, q, hA0, hV, rfl, hfz, hnd⟩ := hW
  have hA : DataW.TrodAll enc Try.prog W 0 (fun _ => true) true Try.f6.params.toList args.toList ds p := hA0
  rw [Try.params6] at hA hval
  obtain ⟨v0, vs0, d0, ds0, p0, q0, hargs, rfl, rfl, h0, r0⟩ := trodAll_cons hA
  obtain ⟨v1, vs1, d1, ds1, p1, q1, rfl, rfl, rfl, h1, r1⟩ := trodAll_cons r0
  obtain ⟨rfl, rfl, rfl⟩ := trodAll_nil r1
  obtain rfl : args = #[v0, v1] := by cases args; simp_all
  obtain ⟨rfl, rfl⟩ := trodVars_none hV
  have k0 := h0
  have lt0 : ∀ x ∈ p0, x.block < W.heap.size := by obtain ⟨m, hm⟩ := k0; exact DataW.trod_lt m _ _ _ hm
  have L0 := top_one (kO := kO) κ_ok (fun _ k _ => kop k) (ks := [.s 0]) (by kernel_rfl) (by kernel_rfl) (hval 0 39 v0 rfl rfl) h0
  obtain ⟨sa0, us0_0, a0, e0, Ra0, wa0, L0_1⟩ := leafs_sl L0
  obtain rfl := leafs_nil L0_1
  obtain rfl : sa0 = v0 := (List.cons.inj e0).1.symm
  have k1 := h1
  have lt1 : ∀ x ∈ p1, x.block < W.heap.size := by obtain ⟨m, hm⟩ := k1; exact DataW.trod_lt m _ _ _ hm
  obtain ⟨us1, rfl, L1⟩ := top_agg (kO := kO) κ_ok (fun _ k _ => kop k) (ks := [.c (.int .i64 0), .c (.int .i64 0), .c (.int .i64 0), .s 1, .s 2, .s 3, .s 4, .c (.int .i64 0), .s 0]) Try.underlying63 (by kernel_rfl) (hval 1 63 v1 rfl rfl) h1
  obtain ⟨a1_0, us1_0, e1, wa1_0, L1_1⟩ := leafs_int L1
  obtain ⟨a1_1, us1_1, rfl, wa1_1, L1_2⟩ := leafs_int L1_1
  obtain ⟨a1_2, us1_2, rfl, wa1_2, L1_3⟩ := leafs_int L1_2
  obtain ⟨sa1_3, us1_3, a1_3, rfl, Ra1_3, wa1_3, L1_4⟩ := leafs_sl L1_3
  obtain ⟨sa1_4, us1_4, a1_4, rfl, Ra1_4, wa1_4, L1_5⟩ := leafs_sl L1_4
  obtain ⟨sa1_5, us1_5, a1_5, rfl, Ra1_5, wa1_5, L1_6⟩ := leafs_sl L1_5
  obtain ⟨sa1_6, us1_6, a1_6, rfl, Ra1_6, wa1_6, L1_7⟩ := leafs_sl L1_6
  obtain ⟨a1_7, us1_7, rfl, wa1_7, L1_8⟩ := leafs_int L1_7
  obtain ⟨sa1_8, us1_8, a1_8, rfl, Ra1_8, wa1_8, L1_9⟩ := leafs_sl L1_8
  obtain rfl := leafs_nil L1_9
  obtain rfl : us1 = #[.int .i64 a1_0, .int .i64 a1_1, .int .i64 a1_2, sa1_3, sa1_4, sa1_5, sa1_6, .int .i64 a1_7, sa1_8] := Array.toList_inj.1 e1
  clear hA0 hval0 hsz0
  obtain ⟨k, hp⟩ := Pure.FnExactRestoreStore a0 a1_0 a1_1 a1_2 a1_3 a1_4 a1_5 a1_6 a1_7 a1_8 wa0.1 wa0.2 wa1_0 wa1_1 wa1_2 wa1_3.1 wa1_3.2 wa1_4.1 wa1_4.2 wa1_5.1 wa1_5.2 wa1_6.1 wa1_6.2 wa1_7 wa1_8.1 wa1_8.2
  refine (law_calls κ_ok mixed tok (laws_FnExactRestoreStore.hΓ k) Try.func6 rfl (by kernel_rfl) (laws_FnExactRestoreStore.lok k) (rw := rwI (flags laws_FnExactRestoreStore.sig) 0) rfl (Lr := []) (out := laws_FnExactRestoreStore.out) (fun ret y h => by rw [laws_FnExactRestoreStore.out_ok ret y h]; rfl) (av := [.v (.sl 0), .agg [.int .i64 a1_0, .int .i64 a1_1, .int .i64 a1_2, .sl 1, .sl 2, .sl 3, .sl 4, .int .i64 a1_7, .sl 5]]) (bs := [.rows 0 false a0, .rows 1 false a1_3, .rows 2 false a1_4, .rows 3 false a1_5, .rows 4 false a1_6, .rows 0 false a1_8]) (ms := [sa0, sa1_3, sa1_4, sa1_5, sa1_6, sa1_8]) (cargs := [sa0, .agg #[.int .i64 a1_0, .int .i64 a1_1, .int .i64 a1_2, sa1_3, sa1_4, sa1_5, sa1_6, .int .i64 a1_7, sa1_8]]) rfl ⟨Ra0, Ra1_3, Ra1_4, Ra1_5, Ra1_6, Ra1_8, trivial⟩ rfl ⟨rfl, ⟨_, rfl, LvsR_RLs ⟨rfl, rfl, rfl, rfl, rfl, rfl, rfl, rfl, rfl, trivial⟩⟩, trivial⟩ ((laws_FnExactRestoreStore.den k a0 a1_0 a1_1 a1_2 a1_3 a1_4 a1_5 a1_6 a1_7 a1_8).trans hp)).mono fun e W' ⟨he, bel⟩ => ?_
  subst he
  exact ⟨_, rfl, _, _, _, [], _, [], hW', trodAll_mk1 (shut_bool Try.underlying4 _), (trodAll_cons_mk (Below.trod laidOut (by kernel_rfl) (of_decide_eq_true (by kernel_rfl)) k0 bel lt0) (trodAll_cons_mk (Below.trod laidOut (by kernel_rfl) (of_decide_eq_true (by kernel_rfl)) k1 bel lt1) trodAll_mk0)), rfl, bel.frame _, fun h => by cases h⟩
theorem over : Rows.fnExactRestoreStoreRow.holds Try.pinned (OpenSpec.ofChange Rows.fnExactRestoreStoreSpec) :=
  OpenClaim.holds_of_wide 6 Try.f6 rfl rfl rfl rfl rfl rfl rfl ⟨rfl, rfl, rfl, rfl, rfl⟩ rfl rfl rfl rfl rfl (by kernel_rfl) Try.func6 (by kernel_rfl)
    (of_decide_eq_true (by kernel_rfl)) (by unfold Func.isWrapper; first | (rw [if_pos (by decide +kernel)]; kernel_rfl) | (rw [if_neg (by decide +kernel)]; exact ⟨rfl, rfl⟩))
    (fun os started H enc _ => lifted os started H enc)
theorem proved : Rows.FnExactRestoreStoreSaid := over
end Go.Proofs.Ytmjflahlhgibnaa.fnExactRestoreStore
namespace Go.Proofs.Ytmjflahlhgibnaa
/-- The row, under a short name, for the claim. -/
theorem fnExactRestoreStore_holds : Rows.FnExactRestoreStoreSaid := fnExactRestoreStore.proved
end Go.Proofs.Ytmjflahlhgibnaa
