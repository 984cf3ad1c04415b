/- The row of the law FnExactSnapshotText: for all arguments the law returns true and leaves its arguments as they were; no conditions. -/
import Derived.Test.YthingkcckjiniaaDoorRows
import Derived.Test.YthingkcckjiniaaDoorTie
import Derived.Test.YthingkcckjiniaaDoorCards
import Derived.SevenTiedAt
import Derived.ProofKit
import Derived.LaidMore
import Derived.Stop.Joined
import Derived.Lib.LaidTab
import Derived.Test.YthingkcckjiniaaDoorPureFnExactSnapshotText
namespace Go.Proofs.YthingkcckjiniaaDoor.fnExactSnapshotText
open Go Go.Eng Go.ChangeShapes Go.WideShapes Go.ChangeAt Go.RowKit Go.Proofs
open Go.Proofs.YthingkcckjiniaaDoor.PFnExactSnapshotText
set_option linter.unusedVariables false
set_option maxRecDepth 100000
theorem own : ownKnob Tryd.prog.godebug = none := by kernel_rfl
theorem laidOut : laidOutB Tryd.prog = true := by kernel_rfl
/-- The door's own heap meets the condition. -/
theorem door_met (os : Os) (args : Array Value) : laidMetH Tryd.prog Rows.fnExactSnapshotTextRow.laid ((World.doorLaid Tryd.prog 4000 os).forCall (fun _ _ => 0) ⟨#[], args, []⟩).memory :=
  laidMetH_of_parts3 (fuel := 8) (laidMet_of_run' 8 (by kernel_rfl) (by kernel_rfl)) (by kernel_rfl) (by kernel_rfl)
theorem pinned {W : World} (h : laidMetH Tryd.prog Rows.fnExactSnapshotTextRow.laid W) : ∀ p, (κ 0).pin = some p → ∃ o, W.heap[p.1]? = some o ∧ p.2 o := by
  rw [MakeChecks.laidMetH_plain _ _ _ (by kernel_rfl)] at h
  intro p hp
  obtain rfl : p = tabPin 0 := (Option.some.inj hp).symm
  obtain ⟨ps, ⟨_, _, _, _, _, _, _, _, _, _, ⟨_, _, _, _, _, _, _, _, _, _, ⟨g, t, cs, fuel, p, q, hg, ht, hv, hd, _, _⟩, _⟩, _⟩, _⟩ := h
  obtain rfl : g = 0 := (Option.some.inj ((show Tryd.prog.globalNamed "internal/strconv.uint64pow10" = some 0 by kernel_rfl).symm.trans hg)).symm
  obtain rfl : t = 110 := (Option.some.inj ((show (Tryd.prog.globals[0]?).map (·.type) = some 110 by kernel_rfl).symm.trans ht)).symm
  have hc := Go.Lib.cells_of_tab (zs := Go.Lib.pow10Tab) (k := .u64) Tryd.underlying110 Tryd.underlying103 (by kernel_rfl) (by kernel_rfl) hd
  unfold World.var? at hv
  rw [hg, Option.bind_some] at hv
  split at hv
  · rename_i cs' ty fr he
    obtain rfl := Option.some.inj hv
    refine ⟨_, he, ty, fr, ?_⟩
    congr 1
    apply Array.toList_inj.1
    rw [← hc]
  · cases hv
theorem lifted (os : Os) (started : os.Started) (H : Type) (enc : TypeId × Value → H) :
    ReturnsInHanded {} Tryd.checked os 3 .any (fun w args => (Rows.fnExactSnapshotTextSpec.pre enc Tryd.prog Tryd.f3 [] false w args ∧ laidMetH Tryd.prog Rows.fnExactSnapshotTextRow.laid w) ∧ sizedMet enc Tryd.prog Tryd.f3 (OpenSpec.ofChange Rows.fnExactSnapshotTextSpec) false w args)
      (Rows.fnExactSnapshotTextSpec.post enc Tryd.prog Tryd.f3 false true false false) := by
  refine returnsInHanded_of_change_and (C := Tryd.checked) (X := fun w _ => laidMetH Tryd.prog Rows.fnExactSnapshotTextRow.laid w) (fun _ _ _ hh h => h.of_heap hh) own started (by kernel_rfl) Tryd.func3
    (ChangeSpec.witness_shaped (enc := enc) (C := Tryd.checked) (os := os) (X := fun w _ => laidMetH Tryd.prog Rows.fnExactSnapshotTextRow.laid w) false (World.doorLaid Tryd.prog 4000 os) #[.agg #[.int .i64 0, .int .i64 0, .int .i64 0, .slice none 0 0, .slice none 0 0, .slice none 0 0, .slice none 0 0, .int .i64 0, .slice none 0 0]] 8 rfl (World.shaped_of_RefB (by kernel_rfl) (by kernel_rfl)) (by kernel_rfl) (by kernel_rfl) (by kernel_rfl) (door_met os _)) ?_
  intro W base args ds gs before hval0 hW hcnd hsz0 hL _
  have hval : ∀ (j : Nat) t v, Tryd.f3.params[j]? = some t → args[j]? = some v → Value.okWide Tryd.prog W .any base t v := hval0
  have hW' := hW
  obtain ⟨p, q, hA0, hV, rfl, hfz, hnd⟩ := hW
  have hA : DataW.TrodAll enc Tryd.prog W 0 (fun _ => true) true Tryd.f3.params.toList args.toList ds p := hA0
  rw [Tryd.params3] at hA hval
  obtain ⟨v0, vs0, d0, ds0, p0, q0, hargs, rfl, rfl, h0, r0⟩ := trodAll_cons hA
  obtain ⟨rfl, rfl, rfl⟩ := trodAll_nil r0
  obtain rfl : args = #[v0] := by cases args; simp_all
  obtain ⟨rfl, rfl⟩ := trodVars_none hV
  have k0 := h0
  have lt0 : ∀ x ∈ p0, x.block < W.heap.size := by obtain ⟨m, hm⟩ := k0; exact DataW.trod_lt m _ _ _ hm
  obtain ⟨us0, rfl, L0⟩ := top_agg (kO := kO) κ_ok (fun _ k _ => kop k) (ks := [.c (.int .i64 0), .c (.int .i64 0), .c (.int .i64 0), .s 0, .s 1, .s 2, .s 3, .c (.int .i64 0), .s 4]) Tryd.underlying30 (by kernel_rfl) (hval 0 30 v0 rfl rfl) h0
  obtain ⟨a0_0, us0_0, e0, wa0_0, L0_1⟩ := leafs_int L0
  obtain ⟨a0_1, us0_1, rfl, wa0_1, L0_2⟩ := leafs_int L0_1
  obtain ⟨a0_2, us0_2, rfl, wa0_2, L0_3⟩ := leafs_int L0_2
  obtain ⟨sa0_3, us0_3, a0_3, rfl, Ra0_3, wa0_3, L0_4⟩ := leafs_sl L0_3
  obtain ⟨sa0_4, us0_4, a0_4, rfl, Ra0_4, wa0_4, L0_5⟩ := leafs_sl L0_4
  obtain ⟨sa0_5, us0_5, a0_5, rfl, Ra0_5, wa0_5, L0_6⟩ := leafs_sl L0_5
  obtain ⟨sa0_6, us0_6, a0_6, rfl, Ra0_6, wa0_6, L0_7⟩ := leafs_sl L0_6
  obtain ⟨a0_7, us0_7, rfl, wa0_7, L0_8⟩ := leafs_int L0_7
  obtain ⟨sa0_8, us0_8, a0_8, rfl, Ra0_8, wa0_8, L0_9⟩ := leafs_sl L0_8
  obtain rfl := leafs_nil L0_9
  obtain rfl : us0 = #[.int .i64 a0_0, .int .i64 a0_1, .int .i64 a0_2, sa0_3, sa0_4, sa0_5, sa0_6, .int .i64 a0_7, sa0_8] := Array.toList_inj.1 e0
  clear hA0 hval0 hsz0
  obtain ⟨k, hp⟩ := Pure.FnExactSnapshotText a0_0 a0_1 a0_2 a0_3 a0_4 a0_5 a0_6 a0_7 a0_8 wa0_0 wa0_1 wa0_2 wa0_3.1 wa0_3.2 wa0_4.1 wa0_4.2 wa0_5.1 wa0_5.2 wa0_6.1 wa0_6.2 wa0_7 wa0_8.1 wa0_8.2
  refine (law_calls κ_ok mixed tok (laws_FnExactSnapshotText.hΓ k) Tryd.func3 rfl (by kernel_rfl) (laws_FnExactSnapshotText.lok k) (rw := rwI (flags laws_FnExactSnapshotText.sig) 0) rfl (Lr := []) (out := laws_FnExactSnapshotText.out) (fun ret y h => by rw [laws_FnExactSnapshotText.out_ok ret y h]; rfl) (av := [.agg [.int .i64 a0_0, .int .i64 a0_1, .int .i64 a0_2, .sl 0, .sl 1, .sl 2, .sl 3, .int .i64 a0_7, .sl 4]]) (bs := [.rows 0 false a0_3, .rows 1 false a0_4, .rows 2 false a0_5, .rows 3 false a0_6, .rows 4 false a0_8]) (ms := [sa0_3, sa0_4, sa0_5, sa0_6, sa0_8]) (cargs := [.agg #[.int .i64 a0_0, .int .i64 a0_1, .int .i64 a0_2, sa0_3, sa0_4, sa0_5, sa0_6, .int .i64 a0_7, sa0_8]]) rfl ⟨Ra0_3, Ra0_4, Ra0_5, Ra0_6, Ra0_8, trivial⟩ (pinned hL) rfl ⟨⟨_, rfl, LvsR_RLs ⟨rfl, rfl, rfl, rfl, rfl, rfl, rfl, rfl, rfl, trivial⟩⟩, trivial⟩ ((laws_FnExactSnapshotText.den k a0_0 a0_1 a0_2 a0_3 a0_4 a0_5 a0_6 a0_7 a0_8).trans hp)).mono fun e W' ⟨he, bel⟩ => ?_
  subst he
  exact ⟨_, rfl, _, _, _, [], _, [], hW', trodAll_mk1 (shut_bool Tryd.underlying4 _), (trodAll_cons_mk (Below.trod laidOut (by kernel_rfl) (of_decide_eq_true (by kernel_rfl)) k0 bel lt0) trodAll_mk0), rfl, bel.frame _, fun h => by cases h⟩
theorem over : Rows.fnExactSnapshotTextRow.holds Tryd.pinned (OpenSpec.ofChange Rows.fnExactSnapshotTextSpec) :=
  OpenClaim.holds_of_wide 3 Tryd.f3 rfl rfl rfl rfl rfl rfl rfl ⟨rfl, rfl, rfl, rfl, rfl⟩ rfl rfl rfl rfl rfl (by kernel_rfl) Tryd.func3 (by kernel_rfl)
    (of_decide_eq_true (by kernel_rfl)) (by unfold Func.isWrapper; first | (rw [if_pos (by decide +kernel)]; kernel_rfl) | (rw [if_neg (by decide +kernel)]; exact ⟨rfl, rfl⟩))
    (fun os started H enc _ => lifted os started H enc)
theorem proved : Rows.FnExactSnapshotTextSaid := over
end Go.Proofs.YthingkcckjiniaaDoor.fnExactSnapshotText
namespace Go.Proofs.YthingkcckjiniaaDoor
/-- The row, under a short name, for the claim. -/
theorem fnExactSnapshotText_row : Rows.FnExactSnapshotTextSaid := fnExactSnapshotText.proved
/-- The tied card, under a short name, for the claim. -/
theorem fnExactSnapshotText_holds : Rows.FnExactSnapshotTextCardSaid :=
  Claim7.holds_tied_plain_at .later [] [.data, .data, .data] true (true, "78521fc79e3b1edf9f81da742bb6402e97236344b81bddf64185bb16e492de7c") false
    fnExactSnapshotText_row (fun _ h => by cases h) (by kernel_rfl) (fun _ h => by cases h) fnExactSnapshotText_row_tie rfl ⟨rfl, rfl⟩ (by kernel_rfl) rfl
    (fun f fn hf hfn => by
      obtain rfl : f = 3 := Option.some.inj ((show Tryd.prog.funcNamed "loop.example/g03001/laws.FnExactSnapshotText" = some 3 by kernel_rfl).symm.trans hf) |>.symm
      obtain rfl : fn = Tryd.f3 := (Option.some.inj (Tryd.func3.symm.trans hfn)).symm
      exact ⟨by kernel_rfl, fun j t ht => by
        rw [Tryd.params3] at ht
        have hm : t ∈ [30] := by simpa using Array.mem_of_getElem? ht
        have hall : ([30].all fun u => !Tryd.prog.wantsStandIn u) = true := by kernel_rfl
        exact (show Tryd.prog.wantsStandIn t = false by simpa using List.all_eq_true.1 hall t hm)⟩)
    (by kernel_rfl)
end Go.Proofs.YthingkcckjiniaaDoor
