/- The row of the law FnExactCanRollBack: for all arguments the law returns true and leaves its arguments as they were; no conditions. -/
import Derived.Test.YtoenilndklbceaaGreatRows
import Derived.Test.YtoenilndklbceaaGreatPureFnExactCanRollBack
namespace Go.Proofs.YtoenilndklbceaaGreat.fnExactCanRollBack
open Go Go.Eng Go.ChangeShapes Go.WideShapes Go.ChangeAt Go.RowKit Go.Proofs
open Go.Proofs.YtoenilndklbceaaGreat.PFnExactCanRollBack
set_option linter.unusedVariables false
set_option maxRecDepth 100000
theorem own : ownKnob Tryz.prog.godebug = none := by kernel_rfl
theorem laidOut : laidOutB Tryz.prog = true := by kernel_rfl
theorem lifted (os : Os) (started : os.Started) (H : Type) (enc : TypeId × Value → H) :
    ReturnsInHanded {} Tryz.checked os 3 .any (Rows.fnExactCanRollBackSpec.pre6 enc Tryz.prog Tryz.f3 Rows.fnExactCanRollBackRow.domain false) (Rows.fnExactCanRollBackSpec.post enc Tryz.prog Tryz.f3 false true false false) := by
  refine returnsInHanded_of_change_sized (C := Tryz.checked) own started (by kernel_rfl) Tryz.func3
    (ChangeSpec.witness6 (enc := enc) (C := Tryz.checked) false ⟨#[], #[.int .i64 0, .agg #[.int .i64 0, .int .i64 0, .int .i64 0, .slice none 0 0, .slice none 0 0, .slice none 0 0, .slice none 0 0, .int .i64 0, .slice none 0 0], .agg #[.int .i64 0, .int .i64 0, .int .i64 0, .slice none 0 0, .slice none 0 0, .slice none 0 0, .slice none 0 0, .int .i64 0]], []⟩ 8 (by kernel_rfl) (by kernel_rfl) (by kernel_rfl) (by kernel_rfl)) ?_
  intro W base args ds gs before hval0 hW hcnd hsz0 _
  have hval : ∀ (j : Nat) t v, Tryz.f3.params[j]? = some t → args[j]? = some v → Value.okWide Tryz.prog W .any base t v := hval0
  have hW' := hW
  obtain ⟨p, q, hA0, hV, rfl, hfz, hnd⟩ := hW
  have hA : DataW.TrodAll enc Tryz.prog W 0 (fun _ => true) true Tryz.f3.params.toList args.toList ds p := hA0
  rw [Tryz.params3] at hA hval
  obtain ⟨v0, vs0, d0, ds0, p0, q0, hargs, rfl, rfl, h0, r0⟩ := trodAll_cons hA
  obtain ⟨v1, vs1, d1, ds1, p1, q1, rfl, rfl, rfl, h1, r1⟩ := trodAll_cons r0
  obtain ⟨v2, vs2, d2, ds2, p2, q2, rfl, rfl, rfl, h2, r2⟩ := trodAll_cons r1
  obtain ⟨rfl, rfl, rfl⟩ := trodAll_nil r2
  obtain rfl : args = #[v0, v1, v2] := by cases args; simp_all
  obtain ⟨rfl, rfl⟩ := trodVars_none hV
  have k0 := h0
  have lt0 : ∀ x ∈ p0, x.block < W.heap.size := by obtain ⟨m, hm⟩ := k0; exact DataW.trod_lt m _ _ _ hm
  have L0 := top_one (kO := kO) κ_ok (fun _ k _ => kop k) (ks := [.c (.int .i64 0)]) (by kernel_rfl) (by kernel_rfl) (hval 0 3 v0 rfl rfl) h0
  obtain ⟨a0, us0_0, e0, wa0, L0_1⟩ := leafs_int L0
  obtain rfl := leafs_nil L0_1
  obtain rfl : v0 = .int .i64 a0 := (List.cons.inj e0).1
  have k1 := h1
  have lt1 : ∀ x ∈ p1, x.block < W.heap.size := by obtain ⟨m, hm⟩ := k1; exact DataW.trod_lt m _ _ _ hm
  obtain ⟨us1, rfl, L1⟩ := top_agg (kO := kO) κ_ok (fun _ k _ => kop k) (ks := [.c (.int .i64 0), .c (.int .i64 0), .c (.int .i64 0), .s 0, .s 1, .s 2, .s 3, .c (.int .i64 0), .s 4]) Tryz.underlying30 (by kernel_rfl) (hval 1 30 v1 rfl rfl) h1
  obtain ⟨a1_0, us1_0, e1, wa1_0, L1_1⟩ := leafs_int L1
  obtain ⟨a1_1, us1_1, rfl, wa1_1, L1_2⟩ := leafs_int L1_1
  obtain ⟨a1_2, us1_2, rfl, wa1_2, L1_3⟩ := leafs_int L1_2
  obtain ⟨sa1_3, us1_3, a1_3, rfl, Ra1_3, wa1_3, L1_4⟩ := leafs_sl L1_3
  obtain ⟨sa1_4, us1_4, a1_4, rfl, Ra1_4, wa1_4, L1_5⟩ := leafs_sl L1_4
  obtain ⟨sa1_5, us1_5, a1_5, rfl, Ra1_5, wa1_5, L1_6⟩ := leafs_sl L1_5
  obtain ⟨sa1_6, us1_6, a1_6, rfl, Ra1_6, wa1_6, L1_7⟩ := leafs_sl L1_6
  obtain ⟨a1_7, us1_7, rfl, wa1_7, L1_8⟩ := leafs_int L1_7
  obtain ⟨sa1_8, us1_8, a1_8, rfl, Ra1_8, wa1_8, L1_9⟩ := leafs_sl L1_8
  obtain rfl := leafs_nil L1_9
  obtain rfl : us1 = #[.int .i64 a1_0, .int .i64 a1_1, .int .i64 a1_2, sa1_3, sa1_4, sa1_5, sa1_6, .int .i64 a1_7, sa1_8] := Array.toList_inj.1 e1
  have k2 := h2
  have lt2 : ∀ x ∈ p2, x.block < W.heap.size := by obtain ⟨m, hm⟩ := k2; exact DataW.trod_lt m _ _ _ hm
  obtain ⟨us2, rfl, L2⟩ := top_agg (kO := kO) κ_ok (fun _ k _ => kop k) (ks := [.c (.int .i64 0), .c (.int .i64 0), .c (.int .i64 0), .s 0, .s 1, .s 2, .s 3, .c (.int .i64 0)]) Tryz.underlying27 (by kernel_rfl) (hval 2 27 v2 rfl rfl) h2
  obtain ⟨a2_0, us2_0, e2, wa2_0, L2_1⟩ := leafs_int L2
  obtain ⟨a2_1, us2_1, rfl, wa2_1, L2_2⟩ := leafs_int L2_1
  obtain ⟨a2_2, us2_2, rfl, wa2_2, L2_3⟩ := leafs_int L2_2
  obtain ⟨sa2_3, us2_3, a2_3, rfl, Ra2_3, wa2_3, L2_4⟩ := leafs_sl L2_3
  obtain ⟨sa2_4, us2_4, a2_4, rfl, Ra2_4, wa2_4, L2_5⟩ := leafs_sl L2_4
  obtain ⟨sa2_5, us2_5, a2_5, rfl, Ra2_5, wa2_5, L2_6⟩ := leafs_sl L2_5
  obtain ⟨sa2_6, us2_6, a2_6, rfl, Ra2_6, wa2_6, L2_7⟩ := leafs_sl L2_6
  obtain ⟨a2_7, us2_7, rfl, wa2_7, L2_8⟩ := leafs_int L2_7
  obtain rfl := leafs_nil L2_8
  obtain rfl : us2 = #[.int .i64 a2_0, .int .i64 a2_1, .int .i64 a2_2, sa2_3, sa2_4, sa2_5, sa2_6, .int .i64 a2_7] := Array.toList_inj.1 e2
  clear hA0 hval0 hsz0
  obtain ⟨k, hp⟩ := Pure.FnExactCanRollBack a0 a1_0 a1_1 a1_2 a1_3 a1_4 a1_5 a1_6 a1_7 a1_8 a2_0 a2_1 a2_2 a2_3 a2_4 a2_5 a2_6 a2_7 wa0 wa1_0 wa1_1 wa1_2 wa1_3.1 wa1_3.2 wa1_4.1 wa1_4.2 wa1_5.1 wa1_5.2 wa1_6.1 wa1_6.2 wa1_7 wa1_8.1 wa1_8.2 wa2_0 wa2_1 wa2_2 wa2_3.1 wa2_3.2 wa2_4.1 wa2_4.2 wa2_5.1 wa2_5.2 wa2_6.1 wa2_6.2 wa2_7
  refine (law_calls κ_ok mixed tok (laws_FnExactCanRollBack.hΓ k) Tryz.func3 rfl (by kernel_rfl) (laws_FnExactCanRollBack.lok k) (rw := rwI (flags laws_FnExactCanRollBack.sig) 0) rfl (Lr := []) (out := laws_FnExactCanRollBack.out) (fun ret y h => by rw [laws_FnExactCanRollBack.out_ok ret y h]; rfl) (av := [.v (.int .i64 a0), .agg [.int .i64 a1_0, .int .i64 a1_1, .int .i64 a1_2, .sl 0, .sl 1, .sl 2, .sl 3, .int .i64 a1_7, .sl 4], .agg [.int .i64 a2_0, .int .i64 a2_1, .int .i64 a2_2, .sl 5, .sl 6, .sl 7, .sl 8, .int .i64 a2_7]]) (bs := [.rows 0 false a1_3, .rows 1 false a1_4, .rows 2 false a1_5, .rows 3 false a1_6, .rows 4 false a1_8, .rows 0 false a2_3, .rows 1 false a2_4, .rows 2 false a2_5, .rows 3 false a2_6]) (ms := [sa1_3, sa1_4, sa1_5, sa1_6, sa1_8, sa2_3, sa2_4, sa2_5, sa2_6]) (cargs := [.int .i64 a0, .agg #[.int .i64 a1_0, .int .i64 a1_1, .int .i64 a1_2, sa1_3, sa1_4, sa1_5, sa1_6, .int .i64 a1_7, sa1_8], .agg #[.int .i64 a2_0, .int .i64 a2_1, .int .i64 a2_2, sa2_3, sa2_4, sa2_5, sa2_6, .int .i64 a2_7]]) rfl ⟨Ra1_3, Ra1_4, Ra1_5, Ra1_6, Ra1_8, Ra2_3, Ra2_4, Ra2_5, Ra2_6, trivial⟩ rfl ⟨rfl, ⟨_, rfl, LvsR_RLs ⟨rfl, rfl, rfl, rfl, rfl, rfl, rfl, rfl, rfl, trivial⟩⟩, ⟨_, rfl, LvsR_RLs ⟨rfl, rfl, rfl, rfl, rfl, rfl, rfl, rfl, trivial⟩⟩, trivial⟩ ((laws_FnExactCanRollBack.den k a0 a1_0 a1_1 a1_2 a1_3 a1_4 a1_5 a1_6 a1_7 a1_8 a2_0 a2_1 a2_2 a2_3 a2_4 a2_5 a2_6 a2_7).trans hp)).mono fun e W' ⟨he, bel⟩ => ?_
  subst he
  exact ⟨_, rfl, _, _, _, [], _, [], hW', trodAll_mk1 (shut_bool Tryz.underlying4 _), (trodAll_cons_mk (Below.trod laidOut (by kernel_rfl) (of_decide_eq_true (by kernel_rfl)) k0 bel lt0) (trodAll_cons_mk (Below.trod laidOut (by kernel_rfl) (of_decide_eq_true (by kernel_rfl)) k1 bel lt1) (trodAll_cons_mk (Below.trod laidOut (by kernel_rfl) (of_decide_eq_true (by kernel_rfl)) k2 bel lt2) trodAll_mk0))), rfl, bel.frame _, fun h => by cases h⟩
theorem over : Rows.fnExactCanRollBackRow.holds Tryz.pinned (OpenSpec.ofChange Rows.fnExactCanRollBackSpec) :=
  OpenClaim.holds_of_wide 3 Tryz.f3 rfl rfl rfl rfl rfl rfl rfl ⟨rfl, rfl, rfl, rfl, rfl⟩ rfl rfl rfl rfl rfl (by kernel_rfl) Tryz.func3 (by kernel_rfl)
    (of_decide_eq_true (by kernel_rfl)) (by unfold Func.isWrapper; first | (rw [if_pos (by decide +kernel)]; kernel_rfl) | (rw [if_neg (by decide +kernel)]; exact ⟨rfl, rfl⟩))
    (fun os started H enc _ => lifted os started H enc)
theorem proved : Rows.FnExactCanRollBackSaid := over
end Go.Proofs.YtoenilndklbceaaGreat.fnExactCanRollBack
namespace Go.Proofs.YtoenilndklbceaaGreat
/-- The row, under a short name, for the claim. -/
theorem fnExactCanRollBack_holds : Rows.FnExactCanRollBackSaid := fnExactCanRollBack.proved
end Go.Proofs.YtoenilndklbceaaGreat
