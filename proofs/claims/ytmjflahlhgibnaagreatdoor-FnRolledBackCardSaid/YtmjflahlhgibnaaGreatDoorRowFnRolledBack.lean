/- The row of the law FnRolledBack: for all arguments the law returns true and leaves its arguments as they were; no conditions. -/
import Derived.Test.YtmjflahlhgibnaaGreatDoorRows
import Derived.Test.YtmjflahlhgibnaaGreatDoorTie
import Derived.Test.YtmjflahlhgibnaaGreatDoorCards
import Derived.SevenTiedAt
import Derived.ProofKit
import Derived.LaidMore
import Derived.Stop.Joined
import Derived.Lib.LaidTab
import Derived.Test.YtmjflahlhgibnaaGreatDoorPureFnRolledBack
namespace Go.Proofs.YtmjflahlhgibnaaGreatDoor.fnRolledBack
open Go Go.Eng Go.ChangeShapes Go.WideShapes Go.ChangeAt Go.RowKit Go.Proofs
open Go.Proofs.YtmjflahlhgibnaaGreatDoor.PFnRolledBack
set_option linter.unusedVariables false
set_option maxRecDepth 100000
theorem own : ownKnob Tryz.prog.godebug = none := by kernel_rfl
theorem laidOut : laidOutB Tryz.prog = true := by kernel_rfl
/-- The door's own heap meets the condition. -/
theorem door_met (os : Os) (args : Array Value) : laidMetH Tryz.prog Rows.fnRolledBackRow.laid ((World.doorLaid Tryz.prog 4000 os).forCall (fun _ _ => 0) ⟨#[], args, []⟩).memory :=
  laidMetH_of_parts3 (fuel := 8) (laidMet_of_run' 8 (by kernel_rfl) (by kernel_rfl)) (by kernel_rfl) (by kernel_rfl)
theorem pinned {W : World} (h : laidMetH Tryz.prog Rows.fnRolledBackRow.laid W) : ∀ p, (κ 0).pin = some p → ∃ o, W.heap[p.1]? = some o ∧ p.2 o := by
  rw [MakeChecks.laidMetH_plain _ _ _ (by kernel_rfl)] at h
  intro p hp
  obtain rfl : p = tabPin 0 := (Option.some.inj hp).symm
  obtain ⟨ps, ⟨_, _, _, _, _, _, _, _, _, _, ⟨_, _, _, _, _, _, _, _, _, _, ⟨g, t, cs, fuel, p, q, hg, ht, hv, hd, _, _⟩, _⟩, _⟩, _⟩ := h
  obtain rfl : g = 0 := (Option.some.inj ((show Tryz.prog.globalNamed "internal/strconv.uint64pow10" = some 0 by kernel_rfl).symm.trans hg)).symm
  obtain rfl : t = 168 := (Option.some.inj ((show (Tryz.prog.globals[0]?).map (·.type) = some 168 by kernel_rfl).symm.trans ht)).symm
  have hc := Go.Lib.cells_of_tab (zs := Go.Lib.pow10Tab) (k := .u64) Tryz.underlying168 Tryz.underlying126 (by kernel_rfl) (by kernel_rfl) hd
  unfold World.var? at hv
  rw [hg, Option.bind_some] at hv
  split at hv
  · rename_i cs' ty fr he
    obtain rfl := Option.some.inj hv
    refine ⟨_, he, ty, fr, ?_⟩
    congr 1
    apply Array.toList_inj.1
    rw [← hc]
  · cases hv
theorem lifted (os : Os) (started : os.Started) (H : Type) (enc : TypeId × Value → H) :
    ReturnsInHanded {} Tryz.checked os 3 .any (fun w args => (Rows.fnRolledBackSpec.pre enc Tryz.prog Tryz.f3 [] false w args ∧ laidMetH Tryz.prog Rows.fnRolledBackRow.laid w) ∧ sizedMet enc Tryz.prog Tryz.f3 (OpenSpec.ofChange Rows.fnRolledBackSpec) false w args)
      (Rows.fnRolledBackSpec.post enc Tryz.prog Tryz.f3 false true false false) := by
  refine returnsInHanded_of_change_and (C := Tryz.checked) (X := fun w _ => laidMetH Tryz.prog Rows.fnRolledBackRow.laid w) (fun _ _ _ hh h => h.of_heap hh) own started (by kernel_rfl) Tryz.func3
    (ChangeSpec.witness_shaped (enc := enc) (C := Tryz.checked) (os := os) (X := fun w _ => laidMetH Tryz.prog Rows.fnRolledBackRow.laid w) false (World.doorLaid Tryz.prog 4000 os) #[.slice none 0 0] 8 rfl (World.shaped_of_RefB (by kernel_rfl) (by kernel_rfl)) (by kernel_rfl) (by kernel_rfl) (by kernel_rfl) (door_met os _)) ?_
  intro W base args ds gs before hval0 hW hcnd hsz0 hL _
  have hval : ∀ (j : Nat) t v, Tryz.f3.params[j]? = some t → args[j]? = some v → Value.okWide Tryz.prog W .any base t v := hval0
  have hW' := hW
  obtain ⟨p, q, hA0, hV, rfl, hfz, hnd⟩ := hW
  have hA : DataW.TrodAll enc Tryz.prog W 0 (fun _ => true) true Tryz.f3.params.toList args.toList ds p := hA0
  rw [Tryz.params3] at hA hval
  obtain ⟨v0, vs0, d0, ds0, p0, q0, hargs, rfl, rfl, h0, r0⟩ := trodAll_cons hA
  obtain ⟨rfl, rfl, rfl⟩ := trodAll_nil r0
  obtain rfl : args = #[v0] := by cases args; simp_all
  obtain ⟨rfl, rfl⟩ := trodVars_none hV
  have k0 := h0
  have lt0 : ∀ x ∈ p0, x.block < W.heap.size := by obtain ⟨m, hm⟩ := k0; exact DataW.trod_lt m _ _ _ hm
  have L0 := top_one (kO := kO) κ_ok (fun _ k _ => kop k) (ks := [.s 0]) (by kernel_rfl) (by kernel_rfl) (hval 0 22 v0 rfl rfl) h0
  obtain ⟨sa0, us0_0, a0, e0, Ra0, wa0, L0_1⟩ := leafs_sl L0
  obtain rfl := leafs_nil L0_1
  obtain rfl : sa0 = v0 := (List.cons.inj e0).1.symm
  clear hA0 hval0 hsz0
  obtain ⟨k, hp⟩ := Pure.FnRolledBack a0 wa0.1 wa0.2
  refine (law_calls κ_ok mixed tok (laws_FnRolledBack.hΓ k) Tryz.func3 rfl (by kernel_rfl) (laws_FnRolledBack.lok k) (rw := rwI (flags laws_FnRolledBack.sig) 0) rfl (Lr := []) (out := laws_FnRolledBack.out) (fun ret y h => by rw [laws_FnRolledBack.out_ok ret y h]; rfl) (av := [.v (.sl 0)]) (bs := [.rows 0 false a0]) (ms := [sa0]) (cargs := [sa0]) rfl ⟨Ra0, trivial⟩ (pinned hL) rfl ⟨rfl, trivial⟩ ((laws_FnRolledBack.den k a0).trans hp)).mono fun e W' ⟨he, bel⟩ => ?_
  subst he
  exact ⟨_, rfl, _, _, _, [], _, [], hW', trodAll_mk1 (shut_bool Tryz.underlying4 _), (trodAll_cons_mk (Below.trod laidOut (by kernel_rfl) (of_decide_eq_true (by kernel_rfl)) k0 bel lt0) trodAll_mk0), rfl, bel.frame _, fun h => by cases h⟩
theorem over : Rows.fnRolledBackRow.holds Tryz.pinned (OpenSpec.ofChange Rows.fnRolledBackSpec) :=
  OpenClaim.holds_of_wide 3 Tryz.f3 rfl rfl rfl rfl rfl rfl rfl ⟨rfl, rfl, rfl, rfl, rfl⟩ rfl rfl rfl rfl rfl (by kernel_rfl) Tryz.func3 (by kernel_rfl)
    (of_decide_eq_true (by kernel_rfl)) (by unfold Func.isWrapper; first | (rw [if_pos (by decide +kernel)]; kernel_rfl) | (rw [if_neg (by decide +kernel)]; exact ⟨rfl, rfl⟩))
    (fun os started H enc _ => lifted os started H enc)
theorem proved : Rows.FnRolledBackSaid := over
end Go.Proofs.YtmjflahlhgibnaaGreatDoor.fnRolledBack
namespace Go.Proofs.YtmjflahlhgibnaaGreatDoor
/-- The row, under a short name, for the claim. -/
theorem fnRolledBack_row : Rows.FnRolledBackSaid := fnRolledBack.proved
/-- The tied card, under a short name, for the claim. -/
theorem fnRolledBack_holds : Rows.FnRolledBackCardSaid :=
  Claim7.holds_tied_plain_at .later [] [.data, .data, .data] true (true, "33183ee53b0897b8af7adc4daa5291eb2423c08293d532767a3873ff6c400c00") false
    fnRolledBack_row (fun _ h => by cases h) (by kernel_rfl) (fun _ h => by cases h) fnRolledBack_row_tie rfl ⟨rfl, rfl⟩ (by kernel_rfl) rfl
    (fun f fn hf hfn => by
      obtain rfl : f = 3 := Option.some.inj ((show Tryz.prog.funcNamed "loop.example/g03001/laws.FnRolledBack" = some 3 by kernel_rfl).symm.trans hf) |>.symm
      obtain rfl : fn = Tryz.f3 := (Option.some.inj (Tryz.func3.symm.trans hfn)).symm
      exact ⟨by kernel_rfl, fun j t ht => by
        rw [Tryz.params3] at ht
        have hm : t ∈ [22] := by simpa using Array.mem_of_getElem? ht
        have hall : ([22].all fun u => !Tryz.prog.wantsStandIn u) = true := by kernel_rfl
        exact (show Tryz.prog.wantsStandIn t = false by simpa using List.all_eq_true.1 hall t hm)⟩)
    (by kernel_rfl)
end Go.Proofs.YtmjflahlhgibnaaGreatDoor
