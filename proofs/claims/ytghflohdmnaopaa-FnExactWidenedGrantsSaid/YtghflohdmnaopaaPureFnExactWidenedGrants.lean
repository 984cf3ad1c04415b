/- The law FnExactWidenedGrants as a statement over numbers and lists, with its proof; no conditions but the bounds of the values' types and of the slices' lengths. -/
import Derived.Test.YtghflohdmnaopaaPFnExactWidenedGrants4
set_option linter.unusedVariables false
set_option linter.unusedSimpArgs false
namespace Go.Proofs.Ytghflohdmnaopaa.PFnExactWidenedGrants.Pure
open Go Go.Eng Go.Proofs
theorem spec_l1In_e (k : Nat) (n a b : Int) : spec_l1In.f k n a b = some (inR n a b) := by
  unfold spec_l1In.f inR
  by_cases h : a ≤ n <;> simp [h]
def isPattern (a b : Int) : Bool := inR a 0 9 && inR b (-1) 9
theorem spec_IsPattern_e (k : Nat) (a b : Int) : spec_IsPattern.f k a b = some (isPattern a b) := by
  unfold spec_IsPattern.f isPattern
  simp only [spec_l1In_e, Option.bind_some]
  cases inR a 0 9 <;> simp
def isGrant (e a b kd f u : Int) : Bool := inR e 1 5 && (isPattern a b && (inR kd 1 4 && (decide (0 ≤ f) && (decide (f ≤ u) && decide (u ≤ 10000)))))
theorem spec_IsGrant_e (k : Nat) (e a b kd f u : Int) (cl : Bool) : spec_IsGrant.f k e a b kd f u cl = some (isGrant e a b kd f u) := by
  unfold spec_IsGrant.f isGrant
  simp only [spec_l1In_e, spec_IsPattern_e, Option.bind_some, ge_iff_le]
  cases inR e 1 5 <;> cases isPattern a b <;> cases inR kd 1 4 <;> by_cases h1 : 0 ≤ f <;> by_cases h2 : f ≤ u <;> simp [h1, h2]
def isNarrow (a b c d : Int) : Bool := isPattern a b && (isPattern c d && ((c == 0 || a == c) && (d == -1 || b == d)))
theorem spec_IsNarrower_e (k : Nat) (a b c d : Int) : spec_IsNarrower.f k a b c d = some (isNarrow a b c d) := by
  unfold spec_IsNarrower.f isNarrow
  simp only [spec_IsPattern_e, Option.bind_some]
  cases isPattern a b <;> cases isPattern c d <;> cases (c == 0) <;> cases (a == c) <;> cases (d == -1) <;> rfl
def gOk (x : T_impl_Grant) : Bool := isGrant x.f0 x.f1.f0 x.f1.f1 x.f2 x.f3 x.f4
def wOk (x y : T_impl_Grant) : Bool := gOk x && (gOk y && (x.f0 == y.f0 && (x.f2 == y.f2 && (isNarrow x.f1.f0 x.f1.f1 y.f1.f0 y.f1.f1 && (decide (y.f3 ≤ x.f3) && (decide (x.f4 ≤ y.f4) && (x.f5 || !y.f5)))))))
def within (l m : List T_impl_Grant) : Bool := l.all fun x => m.any (wOk x)
theorem spec_l11Within_e (k : Nat) (x y : T_impl_Grant) : spec_l11Within.f k x.f0 x.f1.f0 x.f1.f1 x.f2 x.f3 x.f4 x.f5 y.f0 y.f1.f0 y.f1.f1 y.f2 y.f3 y.f4 y.f5 = some (wOk x y) := by
  unfold spec_l11Within.f wOk gOk
  simp only [spec_IsGrant_e, spec_IsNarrower_e, Option.bind_some, ge_iff_le]
  cases isGrant x.f0 x.f1.f0 x.f1.f1 x.f2 x.f3 x.f4 <;> cases isGrant y.f0 y.f1.f0 y.f1.f1 y.f2 y.f3 y.f4 <;> cases (x.f0 == y.f0) <;> cases (x.f2 == y.f2) <;> cases isNarrow x.f1.f0 x.f1.f1 y.f1.f0 y.f1.f1 <;> cases decide (y.f3 ≤ x.f3) <;> cases decide (x.f4 ≤ y.f4) <;> cases x.f5 <;> rfl
theorem spec_IsWithinGrants_e {k : Nat} (hk : Big k) {l m : List T_impl_Grant} (hl : Ok l) (hm : Ok m) : spec_IsWithinGrants.f k l m = some (within l m) := by
  unfold spec_IsWithinGrants.f within
  have inner : ∀ {R : Type} (X : Bool → Option R) (i : Nat) (x : T_impl_Grant), l[i]? = some x → spec_IsWithinGrants.l6 k (i : Int) l m X k false 0 = X (m.any (wOk x)) := by
    intro R X i x hx
    obtain ⟨h1, h2, h3, h4⟩ := at_ hx (by have := hl.out; omega)
    have := loop_fold (fun q j s => spec_IsWithinGrants.l6 k (i : Int) l m X q s j) (fun s y => s || wOk x y) (fun _ _ => True) X m (fun q j y s hy _ => by
      obtain ⟨g1, g2, g3, g4⟩ := at_ hy (by have := hm.out; omega)
      simp only [spec_IsWithinGrants.l6, spec_IsWithinGrants.L6, rd_impl_Grant, h1, h2, h4, g1, g2, g3, g4, cond_true, spec_l11Within_e, Option.bind_some]
      cases s <;> rfl) (fun _ _ _ _ _ => trivial) (fun q s _ => by simp only [spec_IsWithinGrants.l6, spec_IsWithinGrants.L6, end_, cond_false]) k false (hk.lt hm) trivial
    rw [this]
    have e : ∀ (ys : List T_impl_Grant) s, ys.foldl (fun s y => s || wOk x y) s = (s || ys.any (wOk x)) := by
      intro ys
      induction ys with
      | nil => intro s; simp
      | cons y ys ih => intro s; rw [List.foldl_cons, ih, List.any_cons, Bool.or_assoc]
    rw [e]; rfl
  rw [loop_all (spec_IsWithinGrants.l2 k l m (fun y => some y) (fun _ => some true)) (fun x => m.any (wOk x)) (some true) (some false) l (fun n i x hx => by
    obtain ⟨h1, h2, h3, h4⟩ := at_ hx (by have := hl.out; omega)
    simp only [spec_IsWithinGrants.l2, spec_IsWithinGrants.L2, h1, h3, cond_true, inner _ i x hx]
    cases m.any (wOk x) <;> rfl) (fun n => by simp only [spec_IsWithinGrants.l2, spec_IsWithinGrants.L2, end_, cond_false]) k (hk.lt hl)]
  cases l.all fun x => m.any (wOk x) <;> rfl
def widened (l m : List T_impl_Grant) : List T_impl_Grant := m.filter fun x => !(l.any (wOk x))
theorem foldl_filter {α : Type} (p : α → Bool) (xs : List α) : ∀ s : List α, xs.foldl (fun s x => bif p x then s ++ [x] else s) s = s ++ xs.filter p := by
  induction xs with
  | nil => intro s; simp
  | cons x xs ih =>
    intro s
    rw [List.foldl_cons, ih, List.filter_cons]
    cases p x <;> simp
theorem take_drop_one {α : Type} {xs : List α} {i : Nat} {x : α} (h : xs[i]? = some x) : ((xs.take (((i + 1 : Nat) : Int)).toNat).drop ((i : Int)).toNat) = [x] := by
  have hi := lt_of h
  have hx : xs[i] = x := by
    rw [List.getElem?_eq_getElem hi] at h
    exact Option.some.inj h
  show (xs.take (i + 1)).drop i = [x]
  rw [List.take_succ_eq_append_getElem hi, List.drop_append_of_le_length (by rw [List.length_take]; omega), List.drop_eq_nil_of_le (by rw [List.length_take]; omega), hx]
  rfl
theorem spec_WidenedGrants_e {k : Nat} (hk : Big k) (a b c d a' b' c' d' : Int) {l m : List T_impl_Grant} (f f' : List T_impl_Flow) (r r' : List T_impl_Rule) (o o' : List T_impl_Op) (hl : Ok l) (hm : Ok m) : spec_WidenedGrants.f k a b c l f r o d a' b' c' m f' r' o' d' = some (widened l m) := by
  have hm' := hm.out
  unfold spec_WidenedGrants.f widened
  have := loop_fold (fun q i s => spec_WidenedGrants.l3 k l f r o m f' r' o' a b c d a' b' c' d' (fun y => some y) q i s) (fun s x => bif !(l.any (wOk x)) then s ++ [x] else s) (fun i s => s.length ≤ i) (fun y => some y) m (fun q i x s hx hs => by
    obtain ⟨h1, h2, h3, h4⟩ := at_ hx (by omega)
    have hi := lt_of hx
    have hs : s.length ≤ i := hs
    have g1 : decide ((0 : Int) ≤ ((i + 1 : Nat) : Int)) = true := decide_eq_true (by omega)
    have g2 : decide (((i + 1 : Nat) : Int) ≤ (m.length : Int)) = true := decide_eq_true (by omega)
    have g3 : decide ((i : Int) ≤ ((i + 1 : Nat) : Int)) = true := decide_eq_true (by omega)
    have g4 : decide ((s.length + ([x] : List T_impl_Grant).length) * 56 ≤ cap48) = true := decide_eq_true (by unfold cap48; simp; omega)
    simp only [spec_WidenedGrants.l3, spec_WidenedGrants.L3, rd_impl_Grant, h1, h2, h3, h4, g1, g2, g3, cond_true, take_drop_one hx, spec_IsWithinGrants_e hk (Ok.small (l := [x]) 1 (by simp)) hl, Option.bind_some, within, List.all_cons, List.all_nil, Bool.and_true]
    rw [g4]
    cases l.any (wOk x) <;> rfl) (fun i x s hx hs => by
    have hs : s.length ≤ i := hs
    show (bif !(l.any (wOk x)) then s ++ [x] else s).length ≤ i + 1
    cases l.any (wOk x) <;> simp <;> omega) (fun q s _ => by simp only [spec_WidenedGrants.l3, spec_WidenedGrants.L3, end_, cond_false]) k [] (hk.lt hm) (by simp)
  rw [this, foldl_filter]; rfl
theorem impl_InRange_e (k : Nat) (n a b : Int) : impl_InRange.f k n a b = some (inR n a b) := by
  unfold impl_InRange.f inR
  by_cases h : a ≤ n <;> simp [h]
theorem impl_IsPattern_e (k : Nat) (a b : Int) : impl_IsPattern.f k a b = some (isPattern a b) := by
  unfold impl_IsPattern.f isPattern
  simp only [impl_InRange_e, Option.bind_some]
  cases inR a 0 9 <;> simp
theorem impl_IsGrant_e (k : Nat) (e a b kd f u : Int) (cl : Bool) : impl_IsGrant.f k e a b kd f u cl = some (isGrant e a b kd f u) := by
  unfold impl_IsGrant.f isGrant
  simp only [impl_InRange_e, impl_IsPattern_e, Option.bind_some, ge_iff_le]
  cases inR e 1 5 <;> cases isPattern a b <;> cases inR kd 1 4 <;> by_cases h1 : 0 ≤ f <;> by_cases h2 : f ≤ u <;> simp [h1, h2]
theorem impl_IsNarrower_e (k : Nat) (a b c d : Int) : impl_IsNarrower.f k a b c d = some (isNarrow a b c d) := by
  unfold impl_IsNarrower.f isNarrow
  simp only [impl_IsPattern_e, Option.bind_some]
  cases isPattern a b <;> cases isPattern c d <;> cases (c == 0) <;> cases (a == c) <;> cases (d == -1) <;> rfl
theorem impl_IsWithinGrants_e {k : Nat} (hk : Big k) {l m : List T_impl_Grant} (hl : Ok l) (hm : Ok m) : impl_IsWithinGrants.f k l m = some (within l m) := by
  unfold impl_IsWithinGrants.f within
  have inner : ∀ {R : Type} (X : Bool → Option R) (a b : Int) (x : T_impl_Grant), impl_IsWithinGrants.l6 k false a b (m.length : Int) l m x.f0 x.f1.f0 x.f1.f1 x.f2 x.f3 x.f4 x.f5 X k 0 = bif m.any (wOk x) then X true else X false := by
    intro R X a b x
    exact loop_any _ (wOk x) (X false) (X true) m (fun q j y hy => by
      obtain ⟨g1, g2, g3, g4⟩ := at_ hy (by have := hm.out; omega)
      simp only [impl_IsWithinGrants.l6, impl_IsWithinGrants.L6, rd_impl_Grant, g1, g2, g3, g4, cond_true, impl_IsGrant_e, impl_IsNarrower_e, Option.bind_some, wOk, gOk]
      cases isGrant x.f0 x.f1.f0 x.f1.f1 x.f2 x.f3 x.f4 <;> cases isGrant y.f0 y.f1.f0 y.f1.f1 y.f2 y.f3 y.f4 <;> cases (x.f0 == y.f0) <;> cases (x.f2 == y.f2) <;> cases isNarrow x.f1.f0 x.f1.f1 y.f1.f0 y.f1.f1 <;> cases decide (y.f3 ≤ x.f3) <;> cases decide (x.f4 ≤ y.f4) <;> cases x.f5 <;> cases y.f5 <;> rfl) (fun q => by simp only [impl_IsWithinGrants.l6, impl_IsWithinGrants.L6, end_, cond_false]) k (hk.lt hm)
  rw [loop_all (impl_IsWithinGrants.l2 k (l.length : Int) l m (fun y => some y) (fun _ => some true)) (fun x => m.any (wOk x)) (some true) (some false) l (fun n i x hx => by
    obtain ⟨h1, h2, h3, h4⟩ := at_ hx (by have := hl.out; omega)
    simp only [impl_IsWithinGrants.l2, impl_IsWithinGrants.L2, rd_impl_Grant, h1, h2, h3, h4, cond_true, inner]
    cases m.any (wOk x) <;> rfl) (fun n => by simp only [impl_IsWithinGrants.l2, impl_IsWithinGrants.L2, end_, cond_false]) k (hk.lt hl)]
  cases l.all fun x => m.any (wOk x) <;> rfl
theorem impl_WidenedGrants_e {k : Nat} (hk : Big k) (a b c d a' b' c' d' : Int) {l m : List T_impl_Grant} (f f' : List T_impl_Flow) (r r' : List T_impl_Rule) (o o' : List T_impl_Op) (hl : Ok l) (hm : Ok m) : impl_WidenedGrants.f k a b c l f r o d a' b' c' m f' r' o' d' = some (widened l m) := by
  have hm' := hm.out
  unfold impl_WidenedGrants.f widened
  have := loop_fold (fun q i s => impl_WidenedGrants.l3 k (m.length : Int) l f r o m f' r' o' a b c d (fun y => some y) q i s) (fun s x => bif !(l.any (wOk x)) then s ++ [x] else s) (fun i s => s.length ≤ i) (fun y => some y) m (fun q i x s hx hs => by
    obtain ⟨h1, h2, h3, h4⟩ := at_ hx (by omega)
    have hi := lt_of hx
    have hs : s.length ≤ i := hs
    have g4 : decide ((s.length + ([x] : List T_impl_Grant).length) * 56 ≤ cap48) = true := decide_eq_true (by unfold cap48; simp; omega)
    simp only [impl_WidenedGrants.l3, impl_WidenedGrants.L3, rd_impl_Grant, h1, h2, h3, h4, cond_true, impl_IsWithinGrants_e hk (Ok.small (l := [x]) 1 (by simp)) hl, Option.bind_some, within, List.all_cons, List.all_nil, Bool.and_true]
    rw [g4]
    cases l.any (wOk x) <;> rfl) (fun i x s hx hs => by
    have hs : s.length ≤ i := hs
    show (bif !(l.any (wOk x)) then s ++ [x] else s).length ≤ i + 1
    cases l.any (wOk x) <;> simp <;> omega) (fun q s _ => by simp only [impl_WidenedGrants.l3, impl_WidenedGrants.L3, end_, cond_false]) k [] (hk.lt hm) (by simp)
  rw [this, foldl_filter]; rfl
theorem laws_szGrantS_e (k : Nat) {l : List T_laws_Grant} {n : Int} (hl : l.length ≤ maxLen) (hn : 0 ≤ n ∧ n ≤ 1048576) : laws_szGrantS.f k l n = some (bif decide (n - (l.length : Int) < 0) then -1 else n - (l.length : Int)) := by
  have h2 : l.length ≤ 9223372036854775807 := hl
  unfold laws_szGrantS.f
  rw [w64_id (by omega)]
  cases decide (n - (l.length : Int) < 0) <;> rfl
theorem laws_szFlowS_e (k : Nat) {l : List T_laws_Flow} {n : Int} (hl : l.length ≤ maxLen) (hn : 0 ≤ n ∧ n ≤ 1048576) : laws_szFlowS.f k l n = some (bif decide (n - (l.length : Int) < 0) then -1 else n - (l.length : Int)) := by
  have h2 : l.length ≤ 9223372036854775807 := hl
  unfold laws_szFlowS.f
  rw [w64_id (by omega)]
  cases decide (n - (l.length : Int) < 0) <;> rfl
theorem laws_szRuleS_e (k : Nat) {l : List T_laws_Rule} {n : Int} (hl : l.length ≤ maxLen) (hn : 0 ≤ n ∧ n ≤ 1048576) : laws_szRuleS.f k l n = some (bif decide (n - (l.length : Int) < 0) then -1 else n - (l.length : Int)) := by
  have h2 : l.length ≤ 9223372036854775807 := hl
  unfold laws_szRuleS.f
  rw [w64_id (by omega)]
  cases decide (n - (l.length : Int) < 0) <;> rfl
theorem laws_szOpS_e (k : Nat) {l : List T_laws_Op} {n : Int} (hl : l.length ≤ maxLen) (hn : 0 ≤ n ∧ n ≤ 1048576) : laws_szOpS.f k l n = some (bif decide (n - (l.length : Int) < 0) then -1 else n - (l.length : Int)) := by
  have h2 : l.length ≤ 9223372036854775807 := hl
  unfold laws_szOpS.f
  rw [w64_id (by omega)]
  cases decide (n - (l.length : Int) < 0) <;> rfl
theorem laws_szPackage_e (k : Nat) (a b c d : Int) {g : List T_laws_Grant} {f : List T_laws_Flow} {r : List T_laws_Rule} {o : List T_laws_Op} {n : Int} (hg : g.length ≤ maxLen) (hf : f.length ≤ maxLen) (hr : r.length ≤ maxLen) (ho : o.length ≤ maxLen) (hn : 0 ≤ n ∧ n ≤ 1048576) :
    ∃ t, laws_szPackage.f k a b c g f r o d n = some t ∧ t ≤ 1048576 ∧ (0 ≤ t → Ok g ∧ Ok f ∧ Ok r ∧ Ok o) := by
  unfold laws_szPackage.f
  rw [laws_szGrantS_e k hg hn, Option.bind_some]
  by_cases h1 : n - (g.length : Int) < 0
  · rw [decide_eq_true h1]; exact ⟨-1, rfl, by omega, fun h => by omega⟩
  rw [decide_eq_false h1, cond_false, decide_eq_false h1, cond_false, laws_szFlowS_e k hf (by omega), Option.bind_some]
  by_cases h2 : n - (g.length : Int) - (f.length : Int) < 0
  · rw [decide_eq_true h2]; exact ⟨-1, rfl, by omega, fun h => by omega⟩
  rw [decide_eq_false h2, cond_false, decide_eq_false h2, cond_false, laws_szRuleS_e k hr (by omega), Option.bind_some]
  by_cases h3 : n - (g.length : Int) - (f.length : Int) - (r.length : Int) < 0
  · rw [decide_eq_true h3]; exact ⟨-1, rfl, by omega, fun h => by omega⟩
  rw [decide_eq_false h3, cond_false, decide_eq_false h3, cond_false, laws_szOpS_e k ho (by omega), Option.bind_some]
  by_cases h4 : n - (g.length : Int) - (f.length : Int) - (r.length : Int) - (o.length : Int) < 0
  · rw [decide_eq_true h4]; exact ⟨-1, rfl, by omega, fun h => by omega⟩
  rw [decide_eq_false h4, cond_false, decide_eq_false h4, cond_false]
  exact ⟨_, rfl, by omega, fun _ => ⟨by unfold Ok; omega, by unfold Ok; omega, by unfold Ok; omega, by unfold Ok; omega⟩⟩
def toGrant (x : T_laws_Grant) : T_impl_Grant := ⟨x.f0, ⟨x.f1.f0, x.f1.f1⟩, x.f2, x.f3, x.f4, x.f5⟩
theorem laws_toGrantS_e {k : Nat} (hk : Big k) {l : List T_laws_Grant} (hl : Ok l) : laws_toGrantS.f k l = some (l.map toGrant) := by
  have hl' := hl.out
  unfold laws_toGrantS.f
  rw [nn_, cond_true, decide_eq_true (by unfold cap48; simp; omega), cond_true]
  refine loop_map (laws_toGrantS.l3 k l (fun y => some y)) toGrant (fun y => some y) l (fun n i x ys hx hy => ?_) (fun n ys hy => ?_) k _ (hk.lt hl) (by simp)
  · obtain ⟨h1, h2, h3, h4⟩ := at_ hx (by omega)
    have h5 : decide ((i : Int) < (ys.length : Int)) = true := by rw [hy]; exact h1
    simp only [laws_toGrantS.l3, laws_toGrantS.L3, rd_laws_Grant, h1, h2, h3, h4, h5, cond_true, laws_toGrant.f, laws_toPattern.f, Option.bind_some, toGrant]
    rfl
  · simp only [laws_toGrantS.l3, laws_toGrantS.L3, end_, cond_false]
def toFlow (x : T_laws_Flow) : T_impl_Flow := ⟨x.f0, x.f1, x.f2⟩
theorem laws_toFlowS_e {k : Nat} (hk : Big k) {l : List T_laws_Flow} (hl : Ok l) : laws_toFlowS.f k l = some (l.map toFlow) := by
  have hl' := hl.out
  unfold laws_toFlowS.f
  rw [nn_, cond_true, decide_eq_true (by unfold cap48; simp; omega), cond_true]
  refine loop_map (laws_toFlowS.l3 k l (fun y => some y)) toFlow (fun y => some y) l (fun n i x ys hx hy => ?_) (fun n ys hy => ?_) k _ (hk.lt hl) (by simp)
  · obtain ⟨h1, h2, h3, h4⟩ := at_ hx (by omega)
    have h5 : decide ((i : Int) < (ys.length : Int)) = true := by rw [hy]; exact h1
    simp only [laws_toFlowS.l3, laws_toFlowS.L3, rd_laws_Flow, h1, h2, h3, h4, h5, cond_true, laws_toFlow.f, Option.bind_some, toFlow]
    rfl
  · simp only [laws_toFlowS.l3, laws_toFlowS.L3, end_, cond_false]
def toRule (x : T_laws_Rule) : T_impl_Rule := ⟨x.f0, x.f1, ⟨x.f2.f0, x.f2.f1⟩, x.f3, x.f4, ⟨x.f5.f0, x.f5.f1⟩⟩
theorem laws_toRuleS_e {k : Nat} (hk : Big k) {l : List T_laws_Rule} (hl : Ok l) : laws_toRuleS.f k l = some (l.map toRule) := by
  have hl' := hl.out
  unfold laws_toRuleS.f
  rw [nn_, cond_true, decide_eq_true (by unfold cap48; simp; omega), cond_true]
  refine loop_map (laws_toRuleS.l3 k l (fun y => some y)) toRule (fun y => some y) l (fun n i x ys hx hy => ?_) (fun n ys hy => ?_) k _ (hk.lt hl) (by simp)
  · obtain ⟨h1, h2, h3, h4⟩ := at_ hx (by omega)
    have h5 : decide ((i : Int) < (ys.length : Int)) = true := by rw [hy]; exact h1
    simp only [laws_toRuleS.l3, laws_toRuleS.L3, rd_laws_Rule, h1, h2, h3, h4, h5, cond_true, laws_toRule.f, laws_toPattern.f, laws_toSite.f, Option.bind_some, toRule]
    rfl
  · simp only [laws_toRuleS.l3, laws_toRuleS.L3, end_, cond_false]
def toOp (x : T_laws_Op) : T_impl_Op := ⟨x.f0, x.f1, x.f2, x.f3⟩
theorem laws_toOpS_e {k : Nat} (hk : Big k) {l : List T_laws_Op} (hl : Ok l) : laws_toOpS.f k l = some (l.map toOp) := by
  have hl' := hl.out
  unfold laws_toOpS.f
  rw [nn_, cond_true, decide_eq_true (by unfold cap48; simp; omega), cond_true]
  refine loop_map (laws_toOpS.l3 k l (fun y => some y)) toOp (fun y => some y) l (fun n i x ys hx hy => ?_) (fun n ys hy => ?_) k _ (hk.lt hl) (by simp)
  · obtain ⟨h1, h2, h3, h4⟩ := at_ hx (by omega)
    have h5 : decide ((i : Int) < (ys.length : Int)) = true := by rw [hy]; exact h1
    simp only [laws_toOpS.l3, laws_toOpS.L3, rd_laws_Op, h1, h2, h3, h4, h5, cond_true, laws_toOp.f, Option.bind_some, toOp]
    rfl
  · simp only [laws_toOpS.l3, laws_toOpS.L3, end_, cond_false]
theorem laws_toPackage_e {k : Nat} (hk : Big k) (a b c d : Int) {g : List T_laws_Grant} {f : List T_laws_Flow} {r : List T_laws_Rule} {o : List T_laws_Op} (hg : Ok g) (hf : Ok f) (hr : Ok r) (ho : Ok o) :
    laws_toPackage.f k a b c g f r o d = some (a, b, c, d, g.map toGrant, f.map toFlow, r.map toRule, o.map toOp) := by
  unfold laws_toPackage.f
  rw [laws_toGrantS_e hk hg, Option.bind_some, laws_toFlowS_e hk hf, Option.bind_some, laws_toRuleS_e hk hr, Option.bind_some, laws_toOpS_e hk ho, Option.bind_some]
theorem laws_eqGrant_refl (k : Nat) (x : T_impl_Grant) : laws_eqGrant.f k x.f0 x.f1.f0 x.f1.f1 x.f2 x.f3 x.f4 x.f5 x.f0 x.f1.f0 x.f1.f1 x.f2 x.f3 x.f4 x.f5 = some true := by
  simp [laws_eqGrant.f, laws_eqPattern.f, Option.bind_some]
theorem laws_eqGrantS_refl {k : Nat} (hk : Big k) {l : List T_impl_Grant} (hl : Ok l) : laws_eqGrantS.f k l l = some true := by
  have hl' := hl.out
  unfold laws_eqGrantS.f
  rw [show ((l.length : Int) != (l.length : Int)) = false from by simp, cond_false]
  rw [loop_all (laws_eqGrantS.l4 k l l (fun y => some y) (fun _ => some true)) (fun _ => true) (some true) (some false) l (fun n i x hx => by
    obtain ⟨h1, h2, h3, h4⟩ := at_ hx (by omega)
    simp only [laws_eqGrantS.l4, laws_eqGrantS.L4, rd_impl_Grant, h1, h2, h3, h4, cond_true, laws_eqGrant_refl, Option.bind_some]
    rfl) (fun n => by simp only [laws_eqGrantS.l4, laws_eqGrantS.L4, end_, cond_false]) k (hk.lt hl), List.all_eq_true.2 (fun _ _ => rfl)]
  rfl
theorem laws_eqFlow_refl (k : Nat) (x : T_impl_Flow) : laws_eqFlow.f k x.f0 x.f1 x.f2 x.f0 x.f1 x.f2 = some true := by
  simp [laws_eqFlow.f, Option.bind_some]
theorem laws_eqFlowS_refl {k : Nat} (hk : Big k) {l : List T_impl_Flow} (hl : Ok l) : laws_eqFlowS.f k l l = some true := by
  have hl' := hl.out
  unfold laws_eqFlowS.f
  rw [show ((l.length : Int) != (l.length : Int)) = false from by simp, cond_false]
  rw [loop_all (laws_eqFlowS.l4 k l l (fun y => some y) (fun _ => some true)) (fun _ => true) (some true) (some false) l (fun n i x hx => by
    obtain ⟨h1, h2, h3, h4⟩ := at_ hx (by omega)
    simp only [laws_eqFlowS.l4, laws_eqFlowS.L4, rd_impl_Flow, h1, h2, h3, h4, cond_true, laws_eqFlow_refl, Option.bind_some]
    rfl) (fun n => by simp only [laws_eqFlowS.l4, laws_eqFlowS.L4, end_, cond_false]) k (hk.lt hl), List.all_eq_true.2 (fun _ _ => rfl)]
  rfl
theorem laws_eqRule_refl (k : Nat) (x : T_impl_Rule) : laws_eqRule.f k x.f0 x.f1 x.f2.f0 x.f2.f1 x.f3 x.f4 x.f5.f0 x.f5.f1 x.f0 x.f1 x.f2.f0 x.f2.f1 x.f3 x.f4 x.f5.f0 x.f5.f1 = some true := by
  simp [laws_eqRule.f, laws_eqPattern.f, laws_eqSite.f, Option.bind_some]
theorem laws_eqRuleS_refl {k : Nat} (hk : Big k) {l : List T_impl_Rule} (hl : Ok l) : laws_eqRuleS.f k l l = some true := by
  have hl' := hl.out
  unfold laws_eqRuleS.f
  rw [show ((l.length : Int) != (l.length : Int)) = false from by simp, cond_false]
  rw [loop_all (laws_eqRuleS.l4 k l l (fun y => some y) (fun _ => some true)) (fun _ => true) (some true) (some false) l (fun n i x hx => by
    obtain ⟨h1, h2, h3, h4⟩ := at_ hx (by omega)
    simp only [laws_eqRuleS.l4, laws_eqRuleS.L4, rd_impl_Rule, h1, h2, h3, h4, cond_true, laws_eqRule_refl, Option.bind_some]
    rfl) (fun n => by simp only [laws_eqRuleS.l4, laws_eqRuleS.L4, end_, cond_false]) k (hk.lt hl), List.all_eq_true.2 (fun _ _ => rfl)]
  rfl
theorem laws_eqOp_refl (k : Nat) (x : T_impl_Op) : laws_eqOp.f k x.f0 x.f1 x.f2 x.f3 x.f0 x.f1 x.f2 x.f3 = some true := by
  simp [laws_eqOp.f, Option.bind_some]
theorem laws_eqOpS_refl {k : Nat} (hk : Big k) {l : List T_impl_Op} (hl : Ok l) : laws_eqOpS.f k l l = some true := by
  have hl' := hl.out
  unfold laws_eqOpS.f
  rw [show ((l.length : Int) != (l.length : Int)) = false from by simp, cond_false]
  rw [loop_all (laws_eqOpS.l4 k l l (fun y => some y) (fun _ => some true)) (fun _ => true) (some true) (some false) l (fun n i x hx => by
    obtain ⟨h1, h2, h3, h4⟩ := at_ hx (by omega)
    simp only [laws_eqOpS.l4, laws_eqOpS.L4, rd_impl_Op, h1, h2, h3, h4, cond_true, laws_eqOp_refl, Option.bind_some]
    rfl) (fun n => by simp only [laws_eqOpS.l4, laws_eqOpS.L4, end_, cond_false]) k (hk.lt hl), List.all_eq_true.2 (fun _ _ => rfl)]
  rfl
theorem laws_eqPackage_refl {k : Nat} (hk : Big k) (a b c d : Int) {g : List T_impl_Grant} {f : List T_impl_Flow} {r : List T_impl_Rule} {o : List T_impl_Op} (hg : Ok g) (hf : Ok f) (hr : Ok r) (ho : Ok o) :
    laws_eqPackage.f k a b c g f r o d a b c g f r o d = some true := by
  unfold laws_eqPackage.f
  simp [laws_eqGrantS_refl hk hg, laws_eqFlowS_refl hk hf, laws_eqRuleS_refl hk hr, laws_eqOpS_refl hk ho]
def mGrant (n : Int) : T_impl_Grant := ⟨(n), ⟨(n + 1), (n + 1 + 1)⟩, (n + 1 + 1 + 1), (n + 1 + 1 + 1 + 1), (n + 1 + 1 + 1 + 1 + 1), ((n + 1 + 1 + 1 + 1 + 1 + 1).tmod 3 == 0)⟩
theorem laws_markGrantS_e {k : Nat} (hk : Big k) {l : List T_impl_Grant} (hl : Ok l) {n : Int} (h0 : 0 ≤ n) (hb : n ≤ 900000000000) : laws_markGrantS.f k l n = some (n + 7 * l.length, marks mGrant 7 n l.length) := by
  have hl' := hl.out
  unfold laws_markGrantS.f
  refine loop_mark (laws_markGrantS.l2 k (fun y z => some (y, z))) mGrant 7 (fun y z => some (y, z)) (fun q n i ys h0 hb hi hl => ?_) (fun q n ys => ?_) k n l h0 (by omega) hl' (hk.lt hl)
  · have h1 : decide ((i : Int) < (ys.length : Int)) = true := decide_eq_true (by omega)
    have h2 : decide ((0 : Int) ≤ (i : Int)) = true := decide_eq_true (by omega)
    have h3 : w64 ((i : Int) + 1) = ((i + 1 : Nat) : Int) := by rw [w64_id (by omega)]; omega
    have e0 : w64 (n + 1) = n + 1 := w64_s (by omega) (by omega)
    have e1 : w64 (n + 1 + 1) = n + 1 + 1 := w64_s (by omega) (by omega)
    have e2 : w64 (n + 1 + 1 + 1) = n + 1 + 1 + 1 := w64_s (by omega) (by omega)
    have e3 : w64 (n + 1 + 1 + 1 + 1) = n + 1 + 1 + 1 + 1 := w64_s (by omega) (by omega)
    have e4 : w64 (n + 1 + 1 + 1 + 1 + 1) = n + 1 + 1 + 1 + 1 + 1 := w64_s (by omega) (by omega)
    have e5 : w64 (n + 1 + 1 + 1 + 1 + 1 + 1) = n + 1 + 1 + 1 + 1 + 1 + 1 := w64_s (by omega) (by omega)
    have e6 : w64 (n + 1 + 1 + 1 + 1 + 1 + 1 + 1) = n + 1 + 1 + 1 + 1 + 1 + 1 + 1 := w64_s (by omega) (by omega)
    have ec : n + 1 + 1 + 1 + 1 + 1 + 1 + 1 = n + (7 : Nat) := by omega
    simp only [laws_markGrantS.l2, laws_markGrantS.L2, rd_impl_Grant, h1, h2, h3, e0, e1, e2, e3, e4, e5, e6, cond_true, toNat_c, List.length_set, List.set_set]
    simp only [toNat_c, List.getD_eq_getElem?_getD, List.getElem?_set_self hi, Option.getD_some, ec]
    try rfl
  · simp only [laws_markGrantS.l2, laws_markGrantS.L2, end_, cond_false]
def mFlow (n : Int) : T_impl_Flow := ⟨(n), (n + 1), (n + 1 + 1)⟩
theorem laws_markFlowS_e {k : Nat} (hk : Big k) {l : List T_impl_Flow} (hl : Ok l) {n : Int} (h0 : 0 ≤ n) (hb : n ≤ 900000000000) : laws_markFlowS.f k l n = some (n + 3 * l.length, marks mFlow 3 n l.length) := by
  have hl' := hl.out
  unfold laws_markFlowS.f
  refine loop_mark (laws_markFlowS.l2 k (fun y z => some (y, z))) mFlow 3 (fun y z => some (y, z)) (fun q n i ys h0 hb hi hl => ?_) (fun q n ys => ?_) k n l h0 (by omega) hl' (hk.lt hl)
  · have h1 : decide ((i : Int) < (ys.length : Int)) = true := decide_eq_true (by omega)
    have h2 : decide ((0 : Int) ≤ (i : Int)) = true := decide_eq_true (by omega)
    have h3 : w64 ((i : Int) + 1) = ((i + 1 : Nat) : Int) := by rw [w64_id (by omega)]; omega
    have e0 : w64 (n + 1) = n + 1 := w64_s (by omega) (by omega)
    have e1 : w64 (n + 1 + 1) = n + 1 + 1 := w64_s (by omega) (by omega)
    have e2 : w64 (n + 1 + 1 + 1) = n + 1 + 1 + 1 := w64_s (by omega) (by omega)
    have ec : n + 1 + 1 + 1 = n + (3 : Nat) := by omega
    simp only [laws_markFlowS.l2, laws_markFlowS.L2, rd_impl_Flow, h1, h2, h3, e0, e1, e2, cond_true, toNat_c, List.length_set, List.set_set]
    simp only [toNat_c, List.getD_eq_getElem?_getD, List.getElem?_set_self hi, Option.getD_some, ec]
    try rfl
  · simp only [laws_markFlowS.l2, laws_markFlowS.L2, end_, cond_false]
def mRule (n : Int) : T_impl_Rule := ⟨(n), (n + 1), ⟨(n + 1 + 1), (n + 1 + 1 + 1)⟩, (n + 1 + 1 + 1 + 1), (n + 1 + 1 + 1 + 1 + 1), ⟨(n + 1 + 1 + 1 + 1 + 1 + 1), (n + 1 + 1 + 1 + 1 + 1 + 1 + 1)⟩⟩
theorem laws_markRuleS_e {k : Nat} (hk : Big k) {l : List T_impl_Rule} (hl : Ok l) {n : Int} (h0 : 0 ≤ n) (hb : n ≤ 900000000000) : laws_markRuleS.f k l n = some (n + 8 * l.length, marks mRule 8 n l.length) := by
  have hl' := hl.out
  unfold laws_markRuleS.f
  refine loop_mark (laws_markRuleS.l2 k (fun y z => some (y, z))) mRule 8 (fun y z => some (y, z)) (fun q n i ys h0 hb hi hl => ?_) (fun q n ys => ?_) k n l h0 (by omega) hl' (hk.lt hl)
  · have h1 : decide ((i : Int) < (ys.length : Int)) = true := decide_eq_true (by omega)
    have h2 : decide ((0 : Int) ≤ (i : Int)) = true := decide_eq_true (by omega)
    have h3 : w64 ((i : Int) + 1) = ((i + 1 : Nat) : Int) := by rw [w64_id (by omega)]; omega
    have e0 : w64 (n + 1) = n + 1 := w64_s (by omega) (by omega)
    have e1 : w64 (n + 1 + 1) = n + 1 + 1 := w64_s (by omega) (by omega)
    have e2 : w64 (n + 1 + 1 + 1) = n + 1 + 1 + 1 := w64_s (by omega) (by omega)
    have e3 : w64 (n + 1 + 1 + 1 + 1) = n + 1 + 1 + 1 + 1 := w64_s (by omega) (by omega)
    have e4 : w64 (n + 1 + 1 + 1 + 1 + 1) = n + 1 + 1 + 1 + 1 + 1 := w64_s (by omega) (by omega)
    have e5 : w64 (n + 1 + 1 + 1 + 1 + 1 + 1) = n + 1 + 1 + 1 + 1 + 1 + 1 := w64_s (by omega) (by omega)
    have e6 : w64 (n + 1 + 1 + 1 + 1 + 1 + 1 + 1) = n + 1 + 1 + 1 + 1 + 1 + 1 + 1 := w64_s (by omega) (by omega)
    have e7 : w64 (n + 1 + 1 + 1 + 1 + 1 + 1 + 1 + 1) = n + 1 + 1 + 1 + 1 + 1 + 1 + 1 + 1 := w64_s (by omega) (by omega)
    have ec : n + 1 + 1 + 1 + 1 + 1 + 1 + 1 + 1 = n + (8 : Nat) := by omega
    simp only [laws_markRuleS.l2, laws_markRuleS.L2, rd_impl_Rule, h1, h2, h3, e0, e1, e2, e3, e4, e5, e6, e7, cond_true, toNat_c, List.length_set, List.set_set]
    simp only [toNat_c, List.getD_eq_getElem?_getD, List.getElem?_set_self hi, Option.getD_some, ec]
    try rfl
  · simp only [laws_markRuleS.l2, laws_markRuleS.L2, end_, cond_false]
def mOp (n : Int) : T_impl_Op := ⟨(n), (n + 1), (n + 1 + 1), (n + 1 + 1 + 1)⟩
theorem laws_markOpS_e {k : Nat} (hk : Big k) {l : List T_impl_Op} (hl : Ok l) {n : Int} (h0 : 0 ≤ n) (hb : n ≤ 900000000000) : laws_markOpS.f k l n = some (n + 4 * l.length, marks mOp 4 n l.length) := by
  have hl' := hl.out
  unfold laws_markOpS.f
  refine loop_mark (laws_markOpS.l2 k (fun y z => some (y, z))) mOp 4 (fun y z => some (y, z)) (fun q n i ys h0 hb hi hl => ?_) (fun q n ys => ?_) k n l h0 (by omega) hl' (hk.lt hl)
  · have h1 : decide ((i : Int) < (ys.length : Int)) = true := decide_eq_true (by omega)
    have h2 : decide ((0 : Int) ≤ (i : Int)) = true := decide_eq_true (by omega)
    have h3 : w64 ((i : Int) + 1) = ((i + 1 : Nat) : Int) := by rw [w64_id (by omega)]; omega
    have e0 : w64 (n + 1) = n + 1 := w64_s (by omega) (by omega)
    have e1 : w64 (n + 1 + 1) = n + 1 + 1 := w64_s (by omega) (by omega)
    have e2 : w64 (n + 1 + 1 + 1) = n + 1 + 1 + 1 := w64_s (by omega) (by omega)
    have e3 : w64 (n + 1 + 1 + 1 + 1) = n + 1 + 1 + 1 + 1 := w64_s (by omega) (by omega)
    have ec : n + 1 + 1 + 1 + 1 = n + (4 : Nat) := by omega
    simp only [laws_markOpS.l2, laws_markOpS.L2, rd_impl_Op, h1, h2, h3, e0, e1, e2, e3, cond_true, toNat_c, List.length_set, List.set_set]
    simp only [toNat_c, List.getD_eq_getElem?_getD, List.getElem?_set_self hi, Option.getD_some, ec]
    try rfl
  · simp only [laws_markOpS.l2, laws_markOpS.L2, end_, cond_false]
theorem laws_markPackage_e {k : Nat} (hk : Big k) (a b c d : Int) {g : List T_impl_Grant} {f : List T_impl_Flow} {r : List T_impl_Rule} {o : List T_impl_Op} (hg : Ok g) (hf : Ok f) (hr : Ok r) (ho : Ok o) {n : Int} (h0 : 0 ≤ n) (hb : n ≤ 100000000000) :
    ∃ t, laws_markPackage.f k a b c g f r o d n = some t ∧ 0 ≤ t.1 ∧ t.1 ≤ n + 100000000 := by
  have := hg.out; have := hf.out; have := hr.out; have := ho.out
  unfold laws_markPackage.f
  rw [laws_markGrantS_e hk hg h0 (by omega), Option.bind_some, laws_markFlowS_e hk hf (by simp only; omega) (by simp only; omega), Option.bind_some, laws_markRuleS_e hk hr (by simp only; omega) (by simp only; omega), Option.bind_some, laws_markOpS_e hk ho (by simp only; omega) (by simp only; omega), Option.bind_some]
  exact ⟨_, rfl, by simp only; omega, by simp only; omega⟩
theorem laws_heldGrantS_e {k : Nat} (hk : Big k) {j : Nat} (hj : j ≤ 1048576) {n : Int} (h0 : 0 ≤ n) (hb : n ≤ 900000000000) : laws_heldGrantS.f k (marks mGrant 7 n j) n = some (n + 7 * j) := by
  unfold laws_heldGrantS.f
  have hkk := hk.out
  refine loop_held (laws_heldGrantS.l2 k (marks mGrant 7 n j) (fun _ y => some y) (fun y => some y)) mGrant 7 (fun y => some y) _ (fun q n i h0 hb hi => ?_) (fun q n => ?_) k n j rfl h0 (by omega) (by omega)
  · obtain ⟨h1, h2, h3, h4⟩ := at_ hi (by rw [marks_len]; omega)
    have e0 : w64 (n + 1) = n + 1 := w64_s (by omega) (by omega)
    have e1 : w64 (n + 1 + 1) = n + 1 + 1 := w64_s (by omega) (by omega)
    have e2 : w64 (n + 1 + 1 + 1) = n + 1 + 1 + 1 := w64_s (by omega) (by omega)
    have e3 : w64 (n + 1 + 1 + 1 + 1) = n + 1 + 1 + 1 + 1 := w64_s (by omega) (by omega)
    have e4 : w64 (n + 1 + 1 + 1 + 1 + 1) = n + 1 + 1 + 1 + 1 + 1 := w64_s (by omega) (by omega)
    have e5 : w64 (n + 1 + 1 + 1 + 1 + 1 + 1) = n + 1 + 1 + 1 + 1 + 1 + 1 := w64_s (by omega) (by omega)
    have e6 : w64 (n + 1 + 1 + 1 + 1 + 1 + 1 + 1) = n + 1 + 1 + 1 + 1 + 1 + 1 + 1 := w64_s (by omega) (by omega)
    have ec : n + 1 + 1 + 1 + 1 + 1 + 1 + 1 = n + (7 : Nat) := by omega
    simp only [laws_heldGrantS.l2, laws_heldGrantS.L2, rd_impl_Grant, h1, h2, h3, h4, e0, e1, e2, e3, e4, e5, e6, cond_true, mGrant, bne_self_eq_false, beq_self_eq_true, Bool.not_true, cond_false]
    try rw [ec]
    try rfl
  · simp only [laws_heldGrantS.l2, laws_heldGrantS.L2, end_, cond_false]
theorem FnExactWidenedGrants : ∀ (a0_0 : Int) (a0_1 : Int) (a0_2 : Int) (a0_3 : List T_laws_Grant) (a0_4 : List T_laws_Flow) (a0_5 : List T_laws_Rule) (a0_6 : List T_laws_Op) (a0_7 : Int) (a1_0 : Int) (a1_1 : Int) (a1_2 : Int) (a1_3 : List T_laws_Grant) (a1_4 : List T_laws_Flow) (a1_5 : List T_laws_Rule) (a1_6 : List T_laws_Op) (a1_7 : Int), (Lit.int .i64 a0_0).wf = true → (Lit.int .i64 a0_1).wf = true → (Lit.int .i64 a0_2).wf = true → a0_3.length ≤ maxLen → (∀ x ∈ a0_3, likes (k_laws_Grant.enc k_laws_Grant.zero) (k_laws_Grant.enc x)) → a0_4.length ≤ maxLen → (∀ x ∈ a0_4, likes (k_laws_Flow.enc k_laws_Flow.zero) (k_laws_Flow.enc x)) → a0_5.length ≤ maxLen → (∀ x ∈ a0_5, likes (k_laws_Rule.enc k_laws_Rule.zero) (k_laws_Rule.enc x)) → a0_6.length ≤ maxLen → (∀ x ∈ a0_6, likes (k_laws_Op.enc k_laws_Op.zero) (k_laws_Op.enc x)) → (Lit.int .i64 a0_7).wf = true → (Lit.int .i64 a1_0).wf = true → (Lit.int .i64 a1_1).wf = true → (Lit.int .i64 a1_2).wf = true → a1_3.length ≤ maxLen → (∀ x ∈ a1_3, likes (k_laws_Grant.enc k_laws_Grant.zero) (k_laws_Grant.enc x)) → a1_4.length ≤ maxLen → (∀ x ∈ a1_4, likes (k_laws_Flow.enc k_laws_Flow.zero) (k_laws_Flow.enc x)) → a1_5.length ≤ maxLen → (∀ x ∈ a1_5, likes (k_laws_Rule.enc k_laws_Rule.zero) (k_laws_Rule.enc x)) → a1_6.length ≤ maxLen → (∀ x ∈ a1_6, likes (k_laws_Op.enc k_laws_Op.zero) (k_laws_Op.enc x)) → (Lit.int .i64 a1_7).wf = true → ∃ k, laws_FnExactWidenedGrants.f k a0_0 a0_1 a0_2 a0_3 a0_4 a0_5 a0_6 a0_7 a1_0 a1_1 a1_2 a1_3 a1_4 a1_5 a1_6 a1_7 = some true := by
  intro b0 b1 b2 g f r o b7 c0 c1 c2 g' f' r' o' c7 v0 v1 v2 hg _ hf _ hr _ ho _ v7 u0 u1 u2 hg' _ hf' _ hr' _ ho' _ u7
  obtain ⟨k, hk⟩ := big_some
  refine ⟨k, ?_⟩
  unfold laws_FnExactWidenedGrants.f
  obtain ⟨t, h1, h2, h3⟩ := laws_szPackage_e k b0 b1 b2 b7 hg hf hr ho (n := 1048576) (by omega)
  rw [h1, Option.bind_some]
  by_cases ht : t < 0
  · rw [decide_eq_true ht]; rfl
  obtain ⟨og, of, or, oo⟩ := h3 (by omega)
  rw [decide_eq_false ht, cond_false]
  obtain ⟨t', h1', h2', h3'⟩ := laws_szPackage_e k c0 c1 c2 c7 hg' hf' hr' ho' (n := t) (by omega)
  rw [h1', Option.bind_some]
  by_cases ht' : t' < 0
  · rw [decide_eq_true ht']; rfl
  obtain ⟨og', of', or', oo'⟩ := h3' (by omega)
  rw [decide_eq_false ht', cond_false]
  obtain ⟨t9, m1, m2, m3⟩ := laws_markPackage_e hk b0 b1 b2 b7 (og.map (f := toGrant)) (of.map (f := toFlow)) (or.map (f := toRule)) (oo.map (f := toOp)) (n := 1) (by omega) (by omega)
  obtain ⟨t10, m1', m2', m3'⟩ := laws_markPackage_e hk c0 c1 c2 c7 (og'.map (f := toGrant)) (of'.map (f := toFlow)) (or'.map (f := toRule)) (oo'.map (f := toOp)) (n := t9.1) (by omega) (by omega)
  have hx : Ok (widened (g.map toGrant) (g'.map toGrant)) := og'.map.filter
  simp only [laws_toPackage_e hk b0 b1 b2 b7 og of or oo, laws_toPackage_e hk c0 c1 c2 c7 og' of' or' oo', Option.bind_some, spec_WidenedGrants_e hk _ _ _ _ _ _ _ _ _ _ _ _ _ _ (og.map (f := toGrant)) (og'.map (f := toGrant)), impl_WidenedGrants_e hk _ _ _ _ _ _ _ _ _ _ _ _ _ _ (og.map (f := toGrant)) (og'.map (f := toGrant)),
    laws_eqPackage_refl hk b0 b1 b2 b7 og.map of.map or.map oo.map, laws_eqPackage_refl hk c0 c1 c2 c7 og'.map of'.map or'.map oo'.map, m1, m1', decide_eq_false (show ¬ t10.1 < 0 by omega)]
  generalize widened (g.map toGrant) (g'.map toGrant) = L at hx
  have hL := hx.out
  simp only [laws_eqGrantS_refl hk hx, laws_markGrantS_e hk hx (n := 1) (by omega) (by omega), laws_heldGrantS_e hk hL (n := 1) (by omega) (by omega), Option.bind_some, decide_eq_false (show ¬ ((1 : Int) + 7 * (L.length : Int) < 0) by omega), bne_self_eq_false]
  rfl
end Go.Proofs.Ytghflohdmnaopaa.PFnExactWidenedGrants.Pure
