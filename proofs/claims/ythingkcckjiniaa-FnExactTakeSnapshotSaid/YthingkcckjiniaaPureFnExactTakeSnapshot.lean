/- The law FnExactTakeSnapshot as a statement over numbers and lists, with its proof; no conditions but the bounds of the values' types and of the slices' lengths. -/
import Derived.Test.YthingkcckjiniaaPFnExactTakeSnapshot5
set_option linter.unusedVariables false
set_option linter.unusedSimpArgs false
namespace Go.Proofs.Ythingkcckjiniaa.PFnExactTakeSnapshot.Pure
open Go Go.Eng Go.Proofs
theorem spec_l26Copy_e (k : Nat) (a b c : Int) {g : List T_impl_Grant} {f : List T_impl_Flow} {r : List T_impl_Rule} {o : List T_impl_Op} (d : Int) (hg : Ok g) (hf : Ok f) (hr : Ok r) (ho : Ok o) :
    spec_l26Copy.f k a b c g f r o d = some (a, b, c, d, g, f, r, o) := by
  have := hg.out; have := hf.out; have := hr.out; have := ho.out
  unfold spec_l26Copy.f
  rw [decide_eq_true (by unfold cap48; simp; omega), decide_eq_true (by unfold cap48; simp; omega), decide_eq_true (by unfold cap48; simp; omega), decide_eq_true (by unfold cap48; simp; omega)]
  rfl
def isPattern (a b : Int) : Bool := inR a 0 9 && inR b (-1) 9
def isGrant (e a b kd f u : Int) : Bool := inR e 1 5 && (isPattern a b && (inR kd 1 4 && (decide (0 ≤ f) && (decide (f ≤ u) && decide (u ≤ 10000)))))
def isNarrow (a b c d : Int) : Bool := isPattern a b && (isPattern c d && ((c == 0 || a == c) && (d == -1 || b == d)))
def gOk (x : T_impl_Grant) : Bool := isGrant x.f0 x.f1.f0 x.f1.f1 x.f2 x.f3 x.f4
def wOk (x y : T_impl_Grant) : Bool := gOk x && (gOk y && (x.f0 == y.f0 && (x.f2 == y.f2 && (isNarrow x.f1.f0 x.f1.f1 y.f1.f0 y.f1.f1 && (decide (y.f3 ≤ x.f3) && (decide (x.f4 ≤ y.f4) && (x.f5 || !y.f5)))))))
def within (l m : List T_impl_Grant) : Bool := l.all fun x => m.any (wOk x)
def widened (l m : List T_impl_Grant) : List T_impl_Grant := m.filter fun x => !(l.any (wOk x))
theorem foldl_filter {α : Type} (p : α → Bool) (xs : List α) : ∀ s : List α, xs.foldl (fun s x => bif p x then s ++ [x] else s) s = s ++ xs.filter p := by
  induction xs with
  | nil => intro s; simp
  | cons x xs ih =>
    intro s
    rw [List.foldl_cons, ih, List.filter_cons]
    cases p x <;> simp
theorem take_drop_one {α : Type} {xs : List α} {i : Nat} {x : α} (h : xs[i]? = some x) : ((xs.take (((i + 1 : Nat) : Int)).toNat).drop ((i : Int)).toNat) = [x] := by
  have hi := lt_of h
  have hx : xs[i] = x := by
    rw [List.getElem?_eq_getElem hi] at h
    exact Option.some.inj h
  show (xs.take (i + 1)).drop i = [x]
  rw [List.take_succ_eq_append_getElem hi, List.drop_append_of_le_length (by rw [List.length_take]; omega), List.drop_eq_nil_of_le (by rw [List.length_take]; omega), hx]
  rfl
def entriesOf (e : Int) (l : List T_impl_Stored) : List T_impl_Stored := l.filter fun x => x.f0 == e
theorem spec_l30Entries_e {k : Nat} (hk : Big k) {l : List T_impl_Stored} (hl : Ok l) (e : Int) : spec_l30Entries.f k l e = some (entriesOf e l) := by
  have hl' := hl.out
  unfold spec_l30Entries.f entriesOf
  have := loop_fold (fun q i s => spec_l30Entries.l3 k e l (fun y => some y) q i s) (fun s x => bif (x.f0 == e) then s ++ [x] else s) (fun i s => s.length ≤ i) (fun y => some y) l (fun q i x s hx hs => by
    obtain ⟨h1, h2, h3, h4⟩ := at_ hx (by omega)
    have hi := lt_of hx
    have hs : s.length ≤ i := hs
    have g4 : decide ((s.length + ([x] : List T_impl_Stored).length) * 32 ≤ cap48) = true := decide_eq_true (by unfold cap48; simp; omega)
    simp only [spec_l30Entries.l3, spec_l30Entries.L3, rd_impl_Stored, h1, h2, h3, h4, cond_true]
    rw [g4]
    cases (x.f0 == e) <;> rfl) (fun i x s hx hs => by
    have hs : s.length ≤ i := hs
    show (bif (x.f0 == e) then s ++ [x] else s).length ≤ i + 1
    cases (x.f0 == e) <;> simp <;> omega) (fun q s _ => by simp only [spec_l30Entries.l3, spec_l30Entries.L3, end_, cond_false]) k [] (hk.lt hl) (by simp)
  rw [this, foldl_filter]; rfl
theorem spec_TakeSnapshot_e {k : Nat} (hk : Big k) (a b c : Int) {g : List T_impl_Grant} {f : List T_impl_Flow} {r : List T_impl_Rule} {o : List T_impl_Op} (d : Int) {l : List T_impl_Stored} (hg : Ok g) (hf : Ok f) (hr : Ok r) (ho : Ok o) (hl : Ok l) :
    spec_TakeSnapshot.f k a b c g f r o d l = some (a, b, c, d, g, f, r, o, entriesOf a l) := by
  unfold spec_TakeSnapshot.f
  rw [spec_l26Copy_e k a b c d hg hf hr ho, Option.bind_some, spec_l30Entries_e hk hl, Option.bind_some]
theorem impl_clonePackage_e (k : Nat) (a b c : Int) {g : List T_impl_Grant} {f : List T_impl_Flow} {r : List T_impl_Rule} {o : List T_impl_Op} (d : Int) (hg : Ok g) (hf : Ok f) (hr : Ok r) (ho : Ok o) :
    impl_clonePackage.f k a b c g f r o d = some (a, b, c, d, g, f, r, o) := by
  have := hg.out; have := hf.out; have := hr.out; have := ho.out
  have e1 : slices_Clone_Grant.f k g = some g := by
    show (bif decide ((0 + g.length) * 56 ≤ cap48) then some g else none) = some g
    rw [decide_eq_true (by unfold cap48; omega)]; rfl
  have e2 : slices_Clone_Flow.f k f = some f := by
    show (bif decide ((0 + f.length) * 24 ≤ cap48) then some f else none) = some f
    rw [decide_eq_true (by unfold cap48; omega)]; rfl
  have e3 : slices_Clone_Rule.f k r = some r := by
    show (bif decide ((0 + r.length) * 64 ≤ cap48) then some r else none) = some r
    rw [decide_eq_true (by unfold cap48; omega)]; rfl
  have e4 : slices_Clone_Op.f k o = some o := by
    show (bif decide ((0 + o.length) * 32 ≤ cap48) then some o else none) = some o
    rw [decide_eq_true (by unfold cap48; omega)]; rfl
  unfold impl_clonePackage.f
  rw [e1, Option.bind_some, e2, Option.bind_some, e3, Option.bind_some, e4, Option.bind_some]
theorem impl_TakeSnapshot_e {k : Nat} (hk : Big k) (a b c : Int) {g : List T_impl_Grant} {f : List T_impl_Flow} {r : List T_impl_Rule} {o : List T_impl_Op} (d : Int) {l : List T_impl_Stored} (hg : Ok g) (hf : Ok f) (hr : Ok r) (ho : Ok o) (hl : Ok l) :
    impl_TakeSnapshot.f k a b c g f r o d l = some (a, b, c, d, g, f, r, o, entriesOf a l) := by
  have hl' := hl.out
  unfold impl_TakeSnapshot.f entriesOf
  rw [impl_clonePackage_e k a b c d hg hf hr ho, Option.bind_some]
  refine (loop_fold (fun q i s => impl_TakeSnapshot.l3 k (l.length : Int) g f r o l a b c d 0 0 0 0 a b c d [] [] [] [] [] g f r o (fun y3 => some (a, b, c, d, g, f, r, o, y3)) q i s) (fun s x => bif (x.f0 == a) then s ++ [x] else s) (fun i s => s.length ≤ i) (fun y3 => some (a, b, c, d, g, f, r, o, y3)) l (fun q i x s hx hs => by
    obtain ⟨h1, h2, h3, h4⟩ := at_ hx (by omega)
    have hi := lt_of hx
    have hs : s.length ≤ i := hs
    have g4 : decide ((s.length + ([x] : List T_impl_Stored).length) * 32 ≤ cap48) = true := decide_eq_true (by unfold cap48; simp; omega)
    simp only [impl_TakeSnapshot.l3, impl_TakeSnapshot.L3, rd_impl_Stored, h1, h2, h3, h4, cond_true]
    rw [g4]
    cases (x.f0 == a) <;> rfl) (fun i x s hx hs => by
    have hs : s.length ≤ i := hs
    show (bif (x.f0 == a) then s ++ [x] else s).length ≤ i + 1
    cases (x.f0 == a) <;> simp <;> omega) (fun q s _ => by simp only [impl_TakeSnapshot.l3, impl_TakeSnapshot.L3, end_, cond_false]) k [] (hk.lt hl) (by simp)).trans ?_
  rw [foldl_filter]; rfl
theorem laws_szGrantS_e (k : Nat) {l : List T_laws_Grant} {n : Int} (hl : l.length ≤ maxLen) (hn : 0 ≤ n ∧ n ≤ 1048576) : laws_szGrantS.f k l n = some (bif decide (n - (l.length : Int) < 0) then -1 else n - (l.length : Int)) := by
  have h2 : l.length ≤ 9223372036854775807 := hl
  unfold laws_szGrantS.f
  rw [w64_id (by omega)]
  cases decide (n - (l.length : Int) < 0) <;> rfl
theorem laws_szFlowS_e (k : Nat) {l : List T_laws_Flow} {n : Int} (hl : l.length ≤ maxLen) (hn : 0 ≤ n ∧ n ≤ 1048576) : laws_szFlowS.f k l n = some (bif decide (n - (l.length : Int) < 0) then -1 else n - (l.length : Int)) := by
  have h2 : l.length ≤ 9223372036854775807 := hl
  unfold laws_szFlowS.f
  rw [w64_id (by omega)]
  cases decide (n - (l.length : Int) < 0) <;> rfl
theorem laws_szRuleS_e (k : Nat) {l : List T_laws_Rule} {n : Int} (hl : l.length ≤ maxLen) (hn : 0 ≤ n ∧ n ≤ 1048576) : laws_szRuleS.f k l n = some (bif decide (n - (l.length : Int) < 0) then -1 else n - (l.length : Int)) := by
  have h2 : l.length ≤ 9223372036854775807 := hl
  unfold laws_szRuleS.f
  rw [w64_id (by omega)]
  cases decide (n - (l.length : Int) < 0) <;> rfl
theorem laws_szOpS_e (k : Nat) {l : List T_laws_Op} {n : Int} (hl : l.length ≤ maxLen) (hn : 0 ≤ n ∧ n ≤ 1048576) : laws_szOpS.f k l n = some (bif decide (n - (l.length : Int) < 0) then -1 else n - (l.length : Int)) := by
  have h2 : l.length ≤ 9223372036854775807 := hl
  unfold laws_szOpS.f
  rw [w64_id (by omega)]
  cases decide (n - (l.length : Int) < 0) <;> rfl
theorem laws_szPackage_e (k : Nat) (a b c d : Int) {g : List T_laws_Grant} {f : List T_laws_Flow} {r : List T_laws_Rule} {o : List T_laws_Op} {n : Int} (hg : g.length ≤ maxLen) (hf : f.length ≤ maxLen) (hr : r.length ≤ maxLen) (ho : o.length ≤ maxLen) (hn : 0 ≤ n ∧ n ≤ 1048576) :
    ∃ t, laws_szPackage.f k a b c g f r o d n = some t ∧ t ≤ 1048576 ∧ (0 ≤ t → Ok g ∧ Ok f ∧ Ok r ∧ Ok o) := by
  unfold laws_szPackage.f
  rw [laws_szGrantS_e k hg hn, Option.bind_some]
  by_cases h1 : n - (g.length : Int) < 0
  · rw [decide_eq_true h1]; exact ⟨-1, rfl, by omega, fun h => by omega⟩
  rw [decide_eq_false h1, cond_false, decide_eq_false h1, cond_false, laws_szFlowS_e k hf (by omega), Option.bind_some]
  by_cases h2 : n - (g.length : Int) - (f.length : Int) < 0
  · rw [decide_eq_true h2]; exact ⟨-1, rfl, by omega, fun h => by omega⟩
  rw [decide_eq_false h2, cond_false, decide_eq_false h2, cond_false, laws_szRuleS_e k hr (by omega), Option.bind_some]
  by_cases h3 : n - (g.length : Int) - (f.length : Int) - (r.length : Int) < 0
  · rw [decide_eq_true h3]; exact ⟨-1, rfl, by omega, fun h => by omega⟩
  rw [decide_eq_false h3, cond_false, decide_eq_false h3, cond_false, laws_szOpS_e k ho (by omega), Option.bind_some]
  by_cases h4 : n - (g.length : Int) - (f.length : Int) - (r.length : Int) - (o.length : Int) < 0
  · rw [decide_eq_true h4]; exact ⟨-1, rfl, by omega, fun h => by omega⟩
  rw [decide_eq_false h4, cond_false, decide_eq_false h4, cond_false]
  exact ⟨_, rfl, by omega, fun _ => ⟨by unfold Ok; omega, by unfold Ok; omega, by unfold Ok; omega, by unfold Ok; omega⟩⟩
theorem laws_szStoredS_e (k : Nat) {l : List T_laws_Stored} {n : Int} (hl : l.length ≤ maxLen) (hn : 0 ≤ n ∧ n ≤ 1048576) : laws_szStoredS.f k l n = some (bif decide (n - (l.length : Int) < 0) then -1 else n - (l.length : Int)) := by
  have h2 : l.length ≤ 9223372036854775807 := hl
  unfold laws_szStoredS.f
  rw [w64_id (by omega)]
  cases decide (n - (l.length : Int) < 0) <;> rfl
def toStored (x : T_laws_Stored) : T_impl_Stored := ⟨x.f0, x.f1, x.f2, x.f3⟩
theorem laws_toStoredS_e {k : Nat} (hk : Big k) {l : List T_laws_Stored} (hl : Ok l) : laws_toStoredS.f k l = some (l.map toStored) := by
  have hl' := hl.out
  unfold laws_toStoredS.f
  rw [nn_, cond_true, decide_eq_true (by unfold cap48; simp; omega), cond_true]
  refine loop_map (laws_toStoredS.l3 k l (fun y => some y)) toStored (fun y => some y) l (fun n i x ys hx hy => ?_) (fun n ys hy => ?_) k _ (hk.lt hl) (by simp)
  · obtain ⟨h1, h2, h3, h4⟩ := at_ hx (by omega)
    have h5 : decide ((i : Int) < (ys.length : Int)) = true := by rw [hy]; exact h1
    simp only [laws_toStoredS.l3, laws_toStoredS.L3, rd_laws_Stored, h1, h2, h3, h4, h5, cond_true, laws_toStored.f, Option.bind_some, toStored]
    rfl
  · simp only [laws_toStoredS.l3, laws_toStoredS.L3, end_, cond_false]
def toGrant (x : T_laws_Grant) : T_impl_Grant := ⟨x.f0, ⟨x.f1.f0, x.f1.f1⟩, x.f2, x.f3, x.f4, x.f5⟩
theorem laws_toGrantS_e {k : Nat} (hk : Big k) {l : List T_laws_Grant} (hl : Ok l) : laws_toGrantS.f k l = some (l.map toGrant) := by
  have hl' := hl.out
  unfold laws_toGrantS.f
  rw [nn_, cond_true, decide_eq_true (by unfold cap48; simp; omega), cond_true]
  refine loop_map (laws_toGrantS.l3 k l (fun y => some y)) toGrant (fun y => some y) l (fun n i x ys hx hy => ?_) (fun n ys hy => ?_) k _ (hk.lt hl) (by simp)
  · obtain ⟨h1, h2, h3, h4⟩ := at_ hx (by omega)
    have h5 : decide ((i : Int) < (ys.length : Int)) = true := by rw [hy]; exact h1
    simp only [laws_toGrantS.l3, laws_toGrantS.L3, rd_laws_Grant, h1, h2, h3, h4, h5, cond_true, laws_toGrant.f, laws_toPattern.f, Option.bind_some, toGrant]
    rfl
  · simp only [laws_toGrantS.l3, laws_toGrantS.L3, end_, cond_false]
def toFlow (x : T_laws_Flow) : T_impl_Flow := ⟨x.f0, x.f1, x.f2⟩
theorem laws_toFlowS_e {k : Nat} (hk : Big k) {l : List T_laws_Flow} (hl : Ok l) : laws_toFlowS.f k l = some (l.map toFlow) := by
  have hl' := hl.out
  unfold laws_toFlowS.f
  rw [nn_, cond_true, decide_eq_true (by unfold cap48; simp; omega), cond_true]
  refine loop_map (laws_toFlowS.l3 k l (fun y => some y)) toFlow (fun y => some y) l (fun n i x ys hx hy => ?_) (fun n ys hy => ?_) k _ (hk.lt hl) (by simp)
  · obtain ⟨h1, h2, h3, h4⟩ := at_ hx (by omega)
    have h5 : decide ((i : Int) < (ys.length : Int)) = true := by rw [hy]; exact h1
    simp only [laws_toFlowS.l3, laws_toFlowS.L3, rd_laws_Flow, h1, h2, h3, h4, h5, cond_true, laws_toFlow.f, Option.bind_some, toFlow]
    rfl
  · simp only [laws_toFlowS.l3, laws_toFlowS.L3, end_, cond_false]
def toRule (x : T_laws_Rule) : T_impl_Rule := ⟨x.f0, x.f1, ⟨x.f2.f0, x.f2.f1⟩, x.f3, x.f4, ⟨x.f5.f0, x.f5.f1⟩⟩
theorem laws_toRuleS_e {k : Nat} (hk : Big k) {l : List T_laws_Rule} (hl : Ok l) : laws_toRuleS.f k l = some (l.map toRule) := by
  have hl' := hl.out
  unfold laws_toRuleS.f
  rw [nn_, cond_true, decide_eq_true (by unfold cap48; simp; omega), cond_true]
  refine loop_map (laws_toRuleS.l3 k l (fun y => some y)) toRule (fun y => some y) l (fun n i x ys hx hy => ?_) (fun n ys hy => ?_) k _ (hk.lt hl) (by simp)
  · obtain ⟨h1, h2, h3, h4⟩ := at_ hx (by omega)
    have h5 : decide ((i : Int) < (ys.length : Int)) = true := by rw [hy]; exact h1
    simp only [laws_toRuleS.l3, laws_toRuleS.L3, rd_laws_Rule, h1, h2, h3, h4, h5, cond_true, laws_toRule.f, laws_toPattern.f, laws_toSite.f, Option.bind_some, toRule]
    rfl
  · simp only [laws_toRuleS.l3, laws_toRuleS.L3, end_, cond_false]
def toOp (x : T_laws_Op) : T_impl_Op := ⟨x.f0, x.f1, x.f2, x.f3⟩
theorem laws_toOpS_e {k : Nat} (hk : Big k) {l : List T_laws_Op} (hl : Ok l) : laws_toOpS.f k l = some (l.map toOp) := by
  have hl' := hl.out
  unfold laws_toOpS.f
  rw [nn_, cond_true, decide_eq_true (by unfold cap48; simp; omega), cond_true]
  refine loop_map (laws_toOpS.l3 k l (fun y => some y)) toOp (fun y => some y) l (fun n i x ys hx hy => ?_) (fun n ys hy => ?_) k _ (hk.lt hl) (by simp)
  · obtain ⟨h1, h2, h3, h4⟩ := at_ hx (by omega)
    have h5 : decide ((i : Int) < (ys.length : Int)) = true := by rw [hy]; exact h1
    simp only [laws_toOpS.l3, laws_toOpS.L3, rd_laws_Op, h1, h2, h3, h4, h5, cond_true, laws_toOp.f, Option.bind_some, toOp]
    rfl
  · simp only [laws_toOpS.l3, laws_toOpS.L3, end_, cond_false]
theorem laws_toPackage_e {k : Nat} (hk : Big k) (a b c d : Int) {g : List T_laws_Grant} {f : List T_laws_Flow} {r : List T_laws_Rule} {o : List T_laws_Op} (hg : Ok g) (hf : Ok f) (hr : Ok r) (ho : Ok o) :
    laws_toPackage.f k a b c g f r o d = some (a, b, c, d, g.map toGrant, f.map toFlow, r.map toRule, o.map toOp) := by
  unfold laws_toPackage.f
  rw [laws_toGrantS_e hk hg, Option.bind_some, laws_toFlowS_e hk hf, Option.bind_some, laws_toRuleS_e hk hr, Option.bind_some, laws_toOpS_e hk ho, Option.bind_some]
theorem laws_eqGrant_refl (k : Nat) (x : T_impl_Grant) : laws_eqGrant.f k x.f0 x.f1.f0 x.f1.f1 x.f2 x.f3 x.f4 x.f5 x.f0 x.f1.f0 x.f1.f1 x.f2 x.f3 x.f4 x.f5 = some true := by
  simp [laws_eqGrant.f, laws_eqPattern.f, Option.bind_some]
theorem laws_eqGrantS_refl {k : Nat} (hk : Big k) {l : List T_impl_Grant} (hl : Ok l) : laws_eqGrantS.f k l l = some true := by
  have hl' := hl.out
  unfold laws_eqGrantS.f
  rw [show ((l.length : Int) != (l.length : Int)) = false from by simp, cond_false]
  rw [loop_all (laws_eqGrantS.l4 k l l (fun y => some y) (fun _ => some true)) (fun _ => true) (some true) (some false) l (fun n i x hx => by
    obtain ⟨h1, h2, h3, h4⟩ := at_ hx (by omega)
    simp only [laws_eqGrantS.l4, laws_eqGrantS.L4, rd_impl_Grant, h1, h2, h3, h4, cond_true, laws_eqGrant_refl, Option.bind_some]
    rfl) (fun n => by simp only [laws_eqGrantS.l4, laws_eqGrantS.L4, end_, cond_false]) k (hk.lt hl), List.all_eq_true.2 (fun _ _ => rfl)]
  rfl
theorem laws_eqFlow_refl (k : Nat) (x : T_impl_Flow) : laws_eqFlow.f k x.f0 x.f1 x.f2 x.f0 x.f1 x.f2 = some true := by
  simp [laws_eqFlow.f, Option.bind_some]
theorem laws_eqFlowS_refl {k : Nat} (hk : Big k) {l : List T_impl_Flow} (hl : Ok l) : laws_eqFlowS.f k l l = some true := by
  have hl' := hl.out
  unfold laws_eqFlowS.f
  rw [show ((l.length : Int) != (l.length : Int)) = false from by simp, cond_false]
  rw [loop_all (laws_eqFlowS.l4 k l l (fun y => some y) (fun _ => some true)) (fun _ => true) (some true) (some false) l (fun n i x hx => by
    obtain ⟨h1, h2, h3, h4⟩ := at_ hx (by omega)
    simp only [laws_eqFlowS.l4, laws_eqFlowS.L4, rd_impl_Flow, h1, h2, h3, h4, cond_true, laws_eqFlow_refl, Option.bind_some]
    rfl) (fun n => by simp only [laws_eqFlowS.l4, laws_eqFlowS.L4, end_, cond_false]) k (hk.lt hl), List.all_eq_true.2 (fun _ _ => rfl)]
  rfl
theorem laws_eqRule_refl (k : Nat) (x : T_impl_Rule) : laws_eqRule.f k x.f0 x.f1 x.f2.f0 x.f2.f1 x.f3 x.f4 x.f5.f0 x.f5.f1 x.f0 x.f1 x.f2.f0 x.f2.f1 x.f3 x.f4 x.f5.f0 x.f5.f1 = some true := by
  simp [laws_eqRule.f, laws_eqPattern.f, laws_eqSite.f, Option.bind_some]
theorem laws_eqRuleS_refl {k : Nat} (hk : Big k) {l : List T_impl_Rule} (hl : Ok l) : laws_eqRuleS.f k l l = some true := by
  have hl' := hl.out
  unfold laws_eqRuleS.f
  rw [show ((l.length : Int) != (l.length : Int)) = false from by simp, cond_false]
  rw [loop_all (laws_eqRuleS.l4 k l l (fun y => some y) (fun _ => some true)) (fun _ => true) (some true) (some false) l (fun n i x hx => by
    obtain ⟨h1, h2, h3, h4⟩ := at_ hx (by omega)
    simp only [laws_eqRuleS.l4, laws_eqRuleS.L4, rd_impl_Rule, h1, h2, h3, h4, cond_true, laws_eqRule_refl, Option.bind_some]
    rfl) (fun n => by simp only [laws_eqRuleS.l4, laws_eqRuleS.L4, end_, cond_false]) k (hk.lt hl), List.all_eq_true.2 (fun _ _ => rfl)]
  rfl
theorem laws_eqOp_refl (k : Nat) (x : T_impl_Op) : laws_eqOp.f k x.f0 x.f1 x.f2 x.f3 x.f0 x.f1 x.f2 x.f3 = some true := by
  simp [laws_eqOp.f, Option.bind_some]
theorem laws_eqOpS_refl {k : Nat} (hk : Big k) {l : List T_impl_Op} (hl : Ok l) : laws_eqOpS.f k l l = some true := by
  have hl' := hl.out
  unfold laws_eqOpS.f
  rw [show ((l.length : Int) != (l.length : Int)) = false from by simp, cond_false]
  rw [loop_all (laws_eqOpS.l4 k l l (fun y => some y) (fun _ => some true)) (fun _ => true) (some true) (some false) l (fun n i x hx => by
    obtain ⟨h1, h2, h3, h4⟩ := at_ hx (by omega)
    simp only [laws_eqOpS.l4, laws_eqOpS.L4, rd_impl_Op, h1, h2, h3, h4, cond_true, laws_eqOp_refl, Option.bind_some]
    rfl) (fun n => by simp only [laws_eqOpS.l4, laws_eqOpS.L4, end_, cond_false]) k (hk.lt hl), List.all_eq_true.2 (fun _ _ => rfl)]
  rfl
theorem laws_eqPackage_refl {k : Nat} (hk : Big k) (a b c d : Int) {g : List T_impl_Grant} {f : List T_impl_Flow} {r : List T_impl_Rule} {o : List T_impl_Op} (hg : Ok g) (hf : Ok f) (hr : Ok r) (ho : Ok o) :
    laws_eqPackage.f k a b c g f r o d a b c g f r o d = some true := by
  unfold laws_eqPackage.f
  simp [laws_eqGrantS_refl hk hg, laws_eqFlowS_refl hk hf, laws_eqRuleS_refl hk hr, laws_eqOpS_refl hk ho]
theorem laws_eqStored_refl (k : Nat) (x : T_impl_Stored) : laws_eqStored.f k x.f0 x.f1 x.f2 x.f3 x.f0 x.f1 x.f2 x.f3 = some true := by
  simp [laws_eqStored.f, Option.bind_some]
theorem laws_eqStoredS_refl {k : Nat} (hk : Big k) {l : List T_impl_Stored} (hl : Ok l) : laws_eqStoredS.f k l l = some true := by
  have hl' := hl.out
  unfold laws_eqStoredS.f
  rw [show ((l.length : Int) != (l.length : Int)) = false from by simp, cond_false]
  rw [loop_all (laws_eqStoredS.l4 k l l (fun y => some y) (fun _ => some true)) (fun _ => true) (some true) (some false) l (fun n i x hx => by
    obtain ⟨h1, h2, h3, h4⟩ := at_ hx (by omega)
    simp only [laws_eqStoredS.l4, laws_eqStoredS.L4, rd_impl_Stored, h1, h2, h3, h4, cond_true, laws_eqStored_refl, Option.bind_some]
    rfl) (fun n => by simp only [laws_eqStoredS.l4, laws_eqStoredS.L4, end_, cond_false]) k (hk.lt hl), List.all_eq_true.2 (fun _ _ => rfl)]
  rfl
theorem laws_eqSnapshot_refl {k : Nat} (hk : Big k) (a b c d : Int) {g : List T_impl_Grant} {f : List T_impl_Flow} {r : List T_impl_Rule} {o : List T_impl_Op} {l : List T_impl_Stored} (hg : Ok g) (hf : Ok f) (hr : Ok r) (ho : Ok o) (hl : Ok l) :
    laws_eqSnapshot.f k a b c g f r o d l a b c g f r o d l = some true := by
  unfold laws_eqSnapshot.f
  rw [laws_eqPackage_refl hk a b c d hg hf hr ho, Option.bind_some, laws_eqStoredS_refl hk hl, Option.bind_some]
  rfl
def mGrant (n : Int) : T_impl_Grant := ⟨(n), ⟨(n + 1), (n + 1 + 1)⟩, (n + 1 + 1 + 1), (n + 1 + 1 + 1 + 1), (n + 1 + 1 + 1 + 1 + 1), ((n + 1 + 1 + 1 + 1 + 1 + 1).tmod 3 == 0)⟩
theorem laws_markGrantS_e {k : Nat} (hk : Big k) {l : List T_impl_Grant} (hl : Ok l) {n : Int} (h0 : 0 ≤ n) (hb : n ≤ 900000000000) : laws_markGrantS.f k l n = some (n + 7 * l.length, marks mGrant 7 n l.length) := by
  have hl' := hl.out
  unfold laws_markGrantS.f
  refine loop_mark (laws_markGrantS.l2 k (fun y z => some (y, z))) mGrant 7 (fun y z => some (y, z)) (fun q n i ys h0 hb hi hl => ?_) (fun q n ys => ?_) k n l h0 (by omega) hl' (hk.lt hl)
  · have h1 : decide ((i : Int) < (ys.length : Int)) = true := decide_eq_true (by omega)
    have h2 : decide ((0 : Int) ≤ (i : Int)) = true := decide_eq_true (by omega)
    have h3 : w64 ((i : Int) + 1) = ((i + 1 : Nat) : Int) := by rw [w64_id (by omega)]; omega
    have e0 : w64 (n + 1) = n + 1 := w64_s (by omega) (by omega)
    have e1 : w64 (n + 1 + 1) = n + 1 + 1 := w64_s (by omega) (by omega)
    have e2 : w64 (n + 1 + 1 + 1) = n + 1 + 1 + 1 := w64_s (by omega) (by omega)
    have e3 : w64 (n + 1 + 1 + 1 + 1) = n + 1 + 1 + 1 + 1 := w64_s (by omega) (by omega)
    have e4 : w64 (n + 1 + 1 + 1 + 1 + 1) = n + 1 + 1 + 1 + 1 + 1 := w64_s (by omega) (by omega)
    have e5 : w64 (n + 1 + 1 + 1 + 1 + 1 + 1) = n + 1 + 1 + 1 + 1 + 1 + 1 := w64_s (by omega) (by omega)
    have e6 : w64 (n + 1 + 1 + 1 + 1 + 1 + 1 + 1) = n + 1 + 1 + 1 + 1 + 1 + 1 + 1 := w64_s (by omega) (by omega)
    have ec : n + 1 + 1 + 1 + 1 + 1 + 1 + 1 = n + (7 : Nat) := by omega
    simp only [laws_markGrantS.l2, laws_markGrantS.L2, rd_impl_Grant, h1, h2, h3, e0, e1, e2, e3, e4, e5, e6, cond_true, toNat_c, List.length_set, List.set_set]
    simp only [toNat_c, List.getD_eq_getElem?_getD, List.getElem?_set_self hi, Option.getD_some, ec]
    try rfl
  · simp only [laws_markGrantS.l2, laws_markGrantS.L2, end_, cond_false]
def mFlow (n : Int) : T_impl_Flow := ⟨(n), (n + 1), (n + 1 + 1)⟩
theorem laws_markFlowS_e {k : Nat} (hk : Big k) {l : List T_impl_Flow} (hl : Ok l) {n : Int} (h0 : 0 ≤ n) (hb : n ≤ 900000000000) : laws_markFlowS.f k l n = some (n + 3 * l.length, marks mFlow 3 n l.length) := by
  have hl' := hl.out
  unfold laws_markFlowS.f
  refine loop_mark (laws_markFlowS.l2 k (fun y z => some (y, z))) mFlow 3 (fun y z => some (y, z)) (fun q n i ys h0 hb hi hl => ?_) (fun q n ys => ?_) k n l h0 (by omega) hl' (hk.lt hl)
  · have h1 : decide ((i : Int) < (ys.length : Int)) = true := decide_eq_true (by omega)
    have h2 : decide ((0 : Int) ≤ (i : Int)) = true := decide_eq_true (by omega)
    have h3 : w64 ((i : Int) + 1) = ((i + 1 : Nat) : Int) := by rw [w64_id (by omega)]; omega
    have e0 : w64 (n + 1) = n + 1 := w64_s (by omega) (by omega)
    have e1 : w64 (n + 1 + 1) = n + 1 + 1 := w64_s (by omega) (by omega)
    have e2 : w64 (n + 1 + 1 + 1) = n + 1 + 1 + 1 := w64_s (by omega) (by omega)
    have ec : n + 1 + 1 + 1 = n + (3 : Nat) := by omega
    simp only [laws_markFlowS.l2, laws_markFlowS.L2, rd_impl_Flow, h1, h2, h3, e0, e1, e2, cond_true, toNat_c, List.length_set, List.set_set]
    simp only [toNat_c, List.getD_eq_getElem?_getD, List.getElem?_set_self hi, Option.getD_some, ec]
    try rfl
  · simp only [laws_markFlowS.l2, laws_markFlowS.L2, end_, cond_false]
def mRule (n : Int) : T_impl_Rule := ⟨(n), (n + 1), ⟨(n + 1 + 1), (n + 1 + 1 + 1)⟩, (n + 1 + 1 + 1 + 1), (n + 1 + 1 + 1 + 1 + 1), ⟨(n + 1 + 1 + 1 + 1 + 1 + 1), (n + 1 + 1 + 1 + 1 + 1 + 1 + 1)⟩⟩
theorem laws_markRuleS_e {k : Nat} (hk : Big k) {l : List T_impl_Rule} (hl : Ok l) {n : Int} (h0 : 0 ≤ n) (hb : n ≤ 900000000000) : laws_markRuleS.f k l n = some (n + 8 * l.length, marks mRule 8 n l.length) := by
  have hl' := hl.out
  unfold laws_markRuleS.f
  refine loop_mark (laws_markRuleS.l2 k (fun y z => some (y, z))) mRule 8 (fun y z => some (y, z)) (fun q n i ys h0 hb hi hl => ?_) (fun q n ys => ?_) k n l h0 (by omega) hl' (hk.lt hl)
  · have h1 : decide ((i : Int) < (ys.length : Int)) = true := decide_eq_true (by omega)
    have h2 : decide ((0 : Int) ≤ (i : Int)) = true := decide_eq_true (by omega)
    have h3 : w64 ((i : Int) + 1) = ((i + 1 : Nat) : Int) := by rw [w64_id (by omega)]; omega
    have e0 : w64 (n + 1) = n + 1 := w64_s (by omega) (by omega)
    have e1 : w64 (n + 1 + 1) = n + 1 + 1 := w64_s (by omega) (by omega)
    have e2 : w64 (n + 1 + 1 + 1) = n + 1 + 1 + 1 := w64_s (by omega) (by omega)
    have e3 : w64 (n + 1 + 1 + 1 + 1) = n + 1 + 1 + 1 + 1 := w64_s (by omega) (by omega)
    have e4 : w64 (n + 1 + 1 + 1 + 1 + 1) = n + 1 + 1 + 1 + 1 + 1 := w64_s (by omega) (by omega)
    have e5 : w64 (n + 1 + 1 + 1 + 1 + 1 + 1) = n + 1 + 1 + 1 + 1 + 1 + 1 := w64_s (by omega) (by omega)
    have e6 : w64 (n + 1 + 1 + 1 + 1 + 1 + 1 + 1) = n + 1 + 1 + 1 + 1 + 1 + 1 + 1 := w64_s (by omega) (by omega)
    have e7 : w64 (n + 1 + 1 + 1 + 1 + 1 + 1 + 1 + 1) = n + 1 + 1 + 1 + 1 + 1 + 1 + 1 + 1 := w64_s (by omega) (by omega)
    have ec : n + 1 + 1 + 1 + 1 + 1 + 1 + 1 + 1 = n + (8 : Nat) := by omega
    simp only [laws_markRuleS.l2, laws_markRuleS.L2, rd_impl_Rule, h1, h2, h3, e0, e1, e2, e3, e4, e5, e6, e7, cond_true, toNat_c, List.length_set, List.set_set]
    simp only [toNat_c, List.getD_eq_getElem?_getD, List.getElem?_set_self hi, Option.getD_some, ec]
    try rfl
  · simp only [laws_markRuleS.l2, laws_markRuleS.L2, end_, cond_false]
def mOp (n : Int) : T_impl_Op := ⟨(n), (n + 1), (n + 1 + 1), (n + 1 + 1 + 1)⟩
theorem laws_markOpS_e {k : Nat} (hk : Big k) {l : List T_impl_Op} (hl : Ok l) {n : Int} (h0 : 0 ≤ n) (hb : n ≤ 900000000000) : laws_markOpS.f k l n = some (n + 4 * l.length, marks mOp 4 n l.length) := by
  have hl' := hl.out
  unfold laws_markOpS.f
  refine loop_mark (laws_markOpS.l2 k (fun y z => some (y, z))) mOp 4 (fun y z => some (y, z)) (fun q n i ys h0 hb hi hl => ?_) (fun q n ys => ?_) k n l h0 (by omega) hl' (hk.lt hl)
  · have h1 : decide ((i : Int) < (ys.length : Int)) = true := decide_eq_true (by omega)
    have h2 : decide ((0 : Int) ≤ (i : Int)) = true := decide_eq_true (by omega)
    have h3 : w64 ((i : Int) + 1) = ((i + 1 : Nat) : Int) := by rw [w64_id (by omega)]; omega
    have e0 : w64 (n + 1) = n + 1 := w64_s (by omega) (by omega)
    have e1 : w64 (n + 1 + 1) = n + 1 + 1 := w64_s (by omega) (by omega)
    have e2 : w64 (n + 1 + 1 + 1) = n + 1 + 1 + 1 := w64_s (by omega) (by omega)
    have e3 : w64 (n + 1 + 1 + 1 + 1) = n + 1 + 1 + 1 + 1 := w64_s (by omega) (by omega)
    have ec : n + 1 + 1 + 1 + 1 = n + (4 : Nat) := by omega
    simp only [laws_markOpS.l2, laws_markOpS.L2, rd_impl_Op, h1, h2, h3, e0, e1, e2, e3, cond_true, toNat_c, List.length_set, List.set_set]
    simp only [toNat_c, List.getD_eq_getElem?_getD, List.getElem?_set_self hi, Option.getD_some, ec]
    try rfl
  · simp only [laws_markOpS.l2, laws_markOpS.L2, end_, cond_false]
theorem laws_heldGrantS_e {k : Nat} (hk : Big k) {j : Nat} (hj : j ≤ 1048576) {n : Int} (h0 : 0 ≤ n) (hb : n ≤ 900000000000) : laws_heldGrantS.f k (marks mGrant 7 n j) n = some (n + 7 * j) := by
  unfold laws_heldGrantS.f
  have hkk := hk.out
  refine loop_held (laws_heldGrantS.l2 k (marks mGrant 7 n j) (fun _ y => some y) (fun y => some y)) mGrant 7 (fun y => some y) _ (fun q n i h0 hb hi => ?_) (fun q n => ?_) k n j rfl h0 (by omega) (by omega)
  · obtain ⟨h1, h2, h3, h4⟩ := at_ hi (by rw [marks_len]; omega)
    have e0 : w64 (n + 1) = n + 1 := w64_s (by omega) (by omega)
    have e1 : w64 (n + 1 + 1) = n + 1 + 1 := w64_s (by omega) (by omega)
    have e2 : w64 (n + 1 + 1 + 1) = n + 1 + 1 + 1 := w64_s (by omega) (by omega)
    have e3 : w64 (n + 1 + 1 + 1 + 1) = n + 1 + 1 + 1 + 1 := w64_s (by omega) (by omega)
    have e4 : w64 (n + 1 + 1 + 1 + 1 + 1) = n + 1 + 1 + 1 + 1 + 1 := w64_s (by omega) (by omega)
    have e5 : w64 (n + 1 + 1 + 1 + 1 + 1 + 1) = n + 1 + 1 + 1 + 1 + 1 + 1 := w64_s (by omega) (by omega)
    have e6 : w64 (n + 1 + 1 + 1 + 1 + 1 + 1 + 1) = n + 1 + 1 + 1 + 1 + 1 + 1 + 1 := w64_s (by omega) (by omega)
    have ec : n + 1 + 1 + 1 + 1 + 1 + 1 + 1 = n + (7 : Nat) := by omega
    simp only [laws_heldGrantS.l2, laws_heldGrantS.L2, rd_impl_Grant, h1, h2, h3, h4, e0, e1, e2, e3, e4, e5, e6, cond_true, mGrant, bne_self_eq_false, beq_self_eq_true, Bool.not_true, cond_false]
    try rw [ec]
    try rfl
  · simp only [laws_heldGrantS.l2, laws_heldGrantS.L2, end_, cond_false]
theorem laws_heldFlowS_e {k : Nat} (hk : Big k) {j : Nat} (hj : j ≤ 1048576) {n : Int} (h0 : 0 ≤ n) (hb : n ≤ 900000000000) : laws_heldFlowS.f k (marks mFlow 3 n j) n = some (n + 3 * j) := by
  unfold laws_heldFlowS.f
  have hkk := hk.out
  refine loop_held (laws_heldFlowS.l2 k (marks mFlow 3 n j) (fun _ y => some y) (fun y => some y)) mFlow 3 (fun y => some y) _ (fun q n i h0 hb hi => ?_) (fun q n => ?_) k n j rfl h0 (by omega) (by omega)
  · obtain ⟨h1, h2, h3, h4⟩ := at_ hi (by rw [marks_len]; omega)
    have e0 : w64 (n + 1) = n + 1 := w64_s (by omega) (by omega)
    have e1 : w64 (n + 1 + 1) = n + 1 + 1 := w64_s (by omega) (by omega)
    have e2 : w64 (n + 1 + 1 + 1) = n + 1 + 1 + 1 := w64_s (by omega) (by omega)
    have ec : n + 1 + 1 + 1 = n + (3 : Nat) := by omega
    simp only [laws_heldFlowS.l2, laws_heldFlowS.L2, rd_impl_Flow, h1, h2, h3, h4, e0, e1, e2, cond_true, mFlow, bne_self_eq_false, beq_self_eq_true, Bool.not_true, cond_false]
    try rw [ec]
    try rfl
  · simp only [laws_heldFlowS.l2, laws_heldFlowS.L2, end_, cond_false]
theorem laws_heldRuleS_e {k : Nat} (hk : Big k) {j : Nat} (hj : j ≤ 1048576) {n : Int} (h0 : 0 ≤ n) (hb : n ≤ 900000000000) : laws_heldRuleS.f k (marks mRule 8 n j) n = some (n + 8 * j) := by
  unfold laws_heldRuleS.f
  have hkk := hk.out
  refine loop_held (laws_heldRuleS.l2 k (marks mRule 8 n j) (fun _ y => some y) (fun y => some y)) mRule 8 (fun y => some y) _ (fun q n i h0 hb hi => ?_) (fun q n => ?_) k n j rfl h0 (by omega) (by omega)
  · obtain ⟨h1, h2, h3, h4⟩ := at_ hi (by rw [marks_len]; omega)
    have e0 : w64 (n + 1) = n + 1 := w64_s (by omega) (by omega)
    have e1 : w64 (n + 1 + 1) = n + 1 + 1 := w64_s (by omega) (by omega)
    have e2 : w64 (n + 1 + 1 + 1) = n + 1 + 1 + 1 := w64_s (by omega) (by omega)
    have e3 : w64 (n + 1 + 1 + 1 + 1) = n + 1 + 1 + 1 + 1 := w64_s (by omega) (by omega)
    have e4 : w64 (n + 1 + 1 + 1 + 1 + 1) = n + 1 + 1 + 1 + 1 + 1 := w64_s (by omega) (by omega)
    have e5 : w64 (n + 1 + 1 + 1 + 1 + 1 + 1) = n + 1 + 1 + 1 + 1 + 1 + 1 := w64_s (by omega) (by omega)
    have e6 : w64 (n + 1 + 1 + 1 + 1 + 1 + 1 + 1) = n + 1 + 1 + 1 + 1 + 1 + 1 + 1 := w64_s (by omega) (by omega)
    have e7 : w64 (n + 1 + 1 + 1 + 1 + 1 + 1 + 1 + 1) = n + 1 + 1 + 1 + 1 + 1 + 1 + 1 + 1 := w64_s (by omega) (by omega)
    have ec : n + 1 + 1 + 1 + 1 + 1 + 1 + 1 + 1 = n + (8 : Nat) := by omega
    simp only [laws_heldRuleS.l2, laws_heldRuleS.L2, rd_impl_Rule, h1, h2, h3, h4, e0, e1, e2, e3, e4, e5, e6, e7, cond_true, mRule, bne_self_eq_false, beq_self_eq_true, Bool.not_true, cond_false]
    try rw [ec]
    try rfl
  · simp only [laws_heldRuleS.l2, laws_heldRuleS.L2, end_, cond_false]
theorem laws_heldOpS_e {k : Nat} (hk : Big k) {j : Nat} (hj : j ≤ 1048576) {n : Int} (h0 : 0 ≤ n) (hb : n ≤ 900000000000) : laws_heldOpS.f k (marks mOp 4 n j) n = some (n + 4 * j) := by
  unfold laws_heldOpS.f
  have hkk := hk.out
  refine loop_held (laws_heldOpS.l2 k (marks mOp 4 n j) (fun _ y => some y) (fun y => some y)) mOp 4 (fun y => some y) _ (fun q n i h0 hb hi => ?_) (fun q n => ?_) k n j rfl h0 (by omega) (by omega)
  · obtain ⟨h1, h2, h3, h4⟩ := at_ hi (by rw [marks_len]; omega)
    have e0 : w64 (n + 1) = n + 1 := w64_s (by omega) (by omega)
    have e1 : w64 (n + 1 + 1) = n + 1 + 1 := w64_s (by omega) (by omega)
    have e2 : w64 (n + 1 + 1 + 1) = n + 1 + 1 + 1 := w64_s (by omega) (by omega)
    have e3 : w64 (n + 1 + 1 + 1 + 1) = n + 1 + 1 + 1 + 1 := w64_s (by omega) (by omega)
    have ec : n + 1 + 1 + 1 + 1 = n + (4 : Nat) := by omega
    simp only [laws_heldOpS.l2, laws_heldOpS.L2, rd_impl_Op, h1, h2, h3, h4, e0, e1, e2, e3, cond_true, mOp, bne_self_eq_false, beq_self_eq_true, Bool.not_true, cond_false]
    try rw [ec]
    try rfl
  · simp only [laws_heldOpS.l2, laws_heldOpS.L2, end_, cond_false]
theorem laws_heldPackage_e {k : Nat} (hk : Big k) (a b c d : Int) {g : List T_impl_Grant} {f : List T_impl_Flow} {r : List T_impl_Rule} {o : List T_impl_Op} (hg : Ok g) (hf : Ok f) (hr : Ok r) (ho : Ok o) {n : Int} (h0 : 0 ≤ n) (hb : n ≤ 100000000000) :
    ∃ t, laws_markPackage.f k a b c g f r o d n = some t ∧ 0 ≤ t.1 ∧ t.1 ≤ n + 100000000 ∧ ∀ a' b' c' d', laws_heldPackage.f k a' b' c' t.2.1 t.2.2.1 t.2.2.2.1 t.2.2.2.2 d' n = some t.1 := by
  have := hg.out; have := hf.out; have := hr.out; have := ho.out
  unfold laws_markPackage.f laws_heldPackage.f
  rw [laws_markGrantS_e hk hg h0 (by omega), Option.bind_some, laws_markFlowS_e hk hf (by simp only; omega) (by simp only; omega), Option.bind_some, laws_markRuleS_e hk hr (by simp only; omega) (by simp only; omega), Option.bind_some, laws_markOpS_e hk ho (by simp only; omega) (by simp only; omega), Option.bind_some]
  refine ⟨_, rfl, by simp only; omega, by simp only; omega, fun a' b' c' d' => ?_⟩
  simp only
  rw [laws_heldGrantS_e hk (by omega) h0 (by omega), Option.bind_some, decide_eq_false (by omega), cond_false, laws_heldFlowS_e hk (by omega) (by omega) (by omega), Option.bind_some, decide_eq_false (by omega), cond_false,
    laws_heldRuleS_e hk (by omega) (by omega) (by omega), Option.bind_some, decide_eq_false (by omega), cond_false, laws_heldOpS_e hk (by omega) (by omega) (by omega), Option.bind_some, decide_eq_false (by omega), cond_false]
def mStored (n : Int) : T_impl_Stored := ⟨(n), (n + 1), (n + 1 + 1), (n + 1 + 1 + 1)⟩
theorem laws_markStoredS_e {k : Nat} (hk : Big k) {l : List T_impl_Stored} (hl : Ok l) {n : Int} (h0 : 0 ≤ n) (hb : n ≤ 900000000000) : laws_markStoredS.f k l n = some (n + 4 * l.length, marks mStored 4 n l.length) := by
  have hl' := hl.out
  unfold laws_markStoredS.f
  refine loop_mark (laws_markStoredS.l2 k (fun y z => some (y, z))) mStored 4 (fun y z => some (y, z)) (fun q n i ys h0 hb hi hl => ?_) (fun q n ys => ?_) k n l h0 (by omega) hl' (hk.lt hl)
  · have h1 : decide ((i : Int) < (ys.length : Int)) = true := decide_eq_true (by omega)
    have h2 : decide ((0 : Int) ≤ (i : Int)) = true := decide_eq_true (by omega)
    have h3 : w64 ((i : Int) + 1) = ((i + 1 : Nat) : Int) := by rw [w64_id (by omega)]; omega
    have e0 : w64 (n + 1) = n + 1 := w64_s (by omega) (by omega)
    have e1 : w64 (n + 1 + 1) = n + 1 + 1 := w64_s (by omega) (by omega)
    have e2 : w64 (n + 1 + 1 + 1) = n + 1 + 1 + 1 := w64_s (by omega) (by omega)
    have e3 : w64 (n + 1 + 1 + 1 + 1) = n + 1 + 1 + 1 + 1 := w64_s (by omega) (by omega)
    have ec : n + 1 + 1 + 1 + 1 = n + (4 : Nat) := by omega
    simp only [laws_markStoredS.l2, laws_markStoredS.L2, rd_impl_Stored, h1, h2, h3, e0, e1, e2, e3, cond_true, toNat_c, List.length_set, List.set_set]
    simp only [toNat_c, List.getD_eq_getElem?_getD, List.getElem?_set_self hi, Option.getD_some, ec]
    try rfl
  · simp only [laws_markStoredS.l2, laws_markStoredS.L2, end_, cond_false]
theorem laws_heldStoredS_e {k : Nat} (hk : Big k) {j : Nat} (hj : j ≤ 1048576) {n : Int} (h0 : 0 ≤ n) (hb : n ≤ 900000000000) : laws_heldStoredS.f k (marks mStored 4 n j) n = some (n + 4 * j) := by
  unfold laws_heldStoredS.f
  have hkk := hk.out
  refine loop_held (laws_heldStoredS.l2 k (marks mStored 4 n j) (fun _ y => some y) (fun y => some y)) mStored 4 (fun y => some y) _ (fun q n i h0 hb hi => ?_) (fun q n => ?_) k n j rfl h0 (by omega) (by omega)
  · obtain ⟨h1, h2, h3, h4⟩ := at_ hi (by rw [marks_len]; omega)
    have e0 : w64 (n + 1) = n + 1 := w64_s (by omega) (by omega)
    have e1 : w64 (n + 1 + 1) = n + 1 + 1 := w64_s (by omega) (by omega)
    have e2 : w64 (n + 1 + 1 + 1) = n + 1 + 1 + 1 := w64_s (by omega) (by omega)
    have e3 : w64 (n + 1 + 1 + 1 + 1) = n + 1 + 1 + 1 + 1 := w64_s (by omega) (by omega)
    have ec : n + 1 + 1 + 1 + 1 = n + (4 : Nat) := by omega
    simp only [laws_heldStoredS.l2, laws_heldStoredS.L2, rd_impl_Stored, h1, h2, h3, h4, e0, e1, e2, e3, cond_true, mStored, bne_self_eq_false, beq_self_eq_true, Bool.not_true, cond_false]
    try rw [ec]
    try rfl
  · simp only [laws_heldStoredS.l2, laws_heldStoredS.L2, end_, cond_false]
theorem laws_heldSnapshot_e {k : Nat} (hk : Big k) (a b c d : Int) {g : List T_impl_Grant} {f : List T_impl_Flow} {r : List T_impl_Rule} {o : List T_impl_Op} {l : List T_impl_Stored} (hg : Ok g) (hf : Ok f) (hr : Ok r) (ho : Ok o) (hl : Ok l) {n : Int} (h0 : 0 ≤ n) (hb : n ≤ 10000000000) :
    ∃ t, laws_markSnapshot.f k a b c g f r o d l n = some t ∧ 0 ≤ t.1 ∧ t.1 ≤ n + 200000000 ∧ ∀ a' b' c' d', laws_heldSnapshot.f k a' b' c' t.2.1 t.2.2.1 t.2.2.2.1 t.2.2.2.2.1 d' t.2.2.2.2.2 n = some t.1 := by
  have hl' := hl.out
  obtain ⟨t, h1, h2, h3, h4⟩ := laws_heldPackage_e hk a b c d hg hf hr ho h0 (by omega)
  unfold laws_markSnapshot.f laws_heldSnapshot.f
  rw [h1, Option.bind_some, laws_markStoredS_e hk hl h2 (by omega), Option.bind_some]
  refine ⟨_, rfl, by simp only; omega, by simp only; omega, fun a' b' c' d' => ?_⟩
  simp only
  rw [h4, Option.bind_some, decide_eq_false (by omega), cond_false, laws_heldStoredS_e hk (by omega) h2 (by omega), Option.bind_some, decide_eq_false (by omega), cond_false]
theorem laws_markPackage_e {k : Nat} (hk : Big k) (a b c d : Int) {g : List T_impl_Grant} {f : List T_impl_Flow} {r : List T_impl_Rule} {o : List T_impl_Op} (hg : Ok g) (hf : Ok f) (hr : Ok r) (ho : Ok o) {n : Int} (h0 : 0 ≤ n) (hb : n ≤ 100000000000) :
    ∃ t, laws_markPackage.f k a b c g f r o d n = some t ∧ 0 ≤ t.1 ∧ t.1 ≤ n + 100000000 := by
  have := hg.out; have := hf.out; have := hr.out; have := ho.out
  unfold laws_markPackage.f
  rw [laws_markGrantS_e hk hg h0 (by omega), Option.bind_some, laws_markFlowS_e hk hf (by simp only; omega) (by simp only; omega), Option.bind_some, laws_markRuleS_e hk hr (by simp only; omega) (by simp only; omega), Option.bind_some, laws_markOpS_e hk ho (by simp only; omega) (by simp only; omega), Option.bind_some]
  exact ⟨_, rfl, by simp only; omega, by simp only; omega⟩
theorem FnExactTakeSnapshot : ∀ (a0_0 : Int) (a0_1 : Int) (a0_2 : Int) (a0_3 : List T_laws_Grant) (a0_4 : List T_laws_Flow) (a0_5 : List T_laws_Rule) (a0_6 : List T_laws_Op) (a0_7 : Int) (a1 : List T_laws_Stored), (Lit.int .i64 a0_0).wf = true → (Lit.int .i64 a0_1).wf = true → (Lit.int .i64 a0_2).wf = true → a0_3.length ≤ maxLen → (∀ x ∈ a0_3, likes (k_laws_Grant.enc k_laws_Grant.zero) (k_laws_Grant.enc x)) → a0_4.length ≤ maxLen → (∀ x ∈ a0_4, likes (k_laws_Flow.enc k_laws_Flow.zero) (k_laws_Flow.enc x)) → a0_5.length ≤ maxLen → (∀ x ∈ a0_5, likes (k_laws_Rule.enc k_laws_Rule.zero) (k_laws_Rule.enc x)) → a0_6.length ≤ maxLen → (∀ x ∈ a0_6, likes (k_laws_Op.enc k_laws_Op.zero) (k_laws_Op.enc x)) → (Lit.int .i64 a0_7).wf = true → a1.length ≤ maxLen → (∀ x ∈ a1, likes (k_laws_Stored.enc k_laws_Stored.zero) (k_laws_Stored.enc x)) → ∃ k, laws_FnExactTakeSnapshot.f k a0_0 a0_1 a0_2 a0_3 a0_4 a0_5 a0_6 a0_7 a1 = some true := by
  intro b0 b1 b2 g f r o b7 l v0 v1 v2 hg _ hf _ hr _ ho _ v7 hl _
  obtain ⟨k, hk⟩ := big_some
  refine ⟨k, ?_⟩
  unfold laws_FnExactTakeSnapshot.f
  obtain ⟨t, h1, h2, h3⟩ := laws_szPackage_e k b0 b1 b2 b7 hg hf hr ho (n := 1048576) (by omega)
  rw [h1, Option.bind_some]
  by_cases ht : t < 0
  · rw [decide_eq_true ht]; rfl
  obtain ⟨og, of, or, oo⟩ := h3 (by omega)
  rw [decide_eq_false ht, cond_false, laws_szStoredS_e k hl (by omega), Option.bind_some]
  by_cases hz : t - (l.length : Int) < 0
  · rw [decide_eq_true hz]; rfl
  have ol : Ok l := by unfold Ok; omega
  rw [decide_eq_false hz, cond_false, decide_eq_false hz, cond_false]
  simp only [laws_toPackage_e hk b0 b1 b2 b7 og of or oo, laws_toStoredS_e hk ol, Option.bind_some]
  generalize g.map toGrant = G, f.map toFlow = F, r.map toRule = R, o.map toOp = O, l.map toStored = L, og.map (f := toGrant) = hG, of.map (f := toFlow) = hF, or.map (f := toRule) = hR, oo.map (f := toOp) = hO, ol.map (f := toStored) = hL
  have hE : Ok (entriesOf b0 L) := hL.filter
  have hLo := hL.out
  simp only [spec_TakeSnapshot_e hk b0 b1 b2 b7 hG hF hR hO hL, impl_TakeSnapshot_e hk b0 b1 b2 b7 hG hF hR hO hL, Option.bind_some]
  obtain ⟨t9, m1, m2, m3⟩ := laws_markPackage_e hk b0 b1 b2 b7 hG hF hR hO (n := 1) (by omega) (by omega)
  obtain ⟨t11, q1, q2, q3, q4⟩ := laws_heldSnapshot_e hk b0 b1 b2 b7 hG hF hR hO hE (n := 1) (by omega) (by omega)
  simp only [laws_eqPackage_refl hk b0 b1 b2 b7 hG hF hR hO, laws_eqStoredS_refl hk hL, laws_eqSnapshot_refl hk b0 b1 b2 b7 hG hF hR hO hE, m1, q1, q4, laws_markStoredS_e hk hL m2 (by omega), Option.bind_some, decide_eq_false (show ¬ t9.1 + 4 * (L.length : Int) < 0 by omega), decide_eq_false (show ¬ t11.1 < 0 by omega), bne_self_eq_false]
  rfl
end Go.Proofs.Ythingkcckjiniaa.PFnExactTakeSnapshot.Pure
