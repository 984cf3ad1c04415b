/- The law FnExactSnapshotText as a statement over numbers and lists, with its proof; no conditions but the bounds of the values' types and of the slices' lengths. -/
import Derived.Test.YthingkcckjiniaaDoorPFnExactSnapshotText3
set_option linter.unusedVariables false
set_option linter.unusedSimpArgs false
namespace Go.Proofs.YthingkcckjiniaaDoor.PFnExactSnapshotText.Pure
open Go Go.Eng Go.Proofs
def decT (m : Nat) : ByteArray := ⟨(Go.Lib.decDigits m).toArray⟩
def itoaT (n : Int) : ByteArray := ⟨(Go.Lib.itoa n).toArray⟩
theorem mk_append (a b : List UInt8) : (⟨a.toArray⟩ : ByteArray) ++ ⟨b.toArray⟩ = ⟨(a ++ b).toArray⟩ := by
  apply ByteArray.ext
  simp [ByteArray.data_append]
theorem ba_size (a : List UInt8) : (⟨a.toArray⟩ : ByteArray).size = a.length := by simp [ByteArray.size]
theorem nDigits_le : ∀ (j m : Nat), 0 < j → m < 10 ^ j → Go.Lib.nDigits m ≤ j
  | 0, m, h, _ => absurd h (by omega)
  | j + 1, m, _, h => by
    rw [Go.Lib.nDigits]
    split
    · omega
    · rename_i hm
      have hj : 0 < j := by
        rcases Nat.eq_zero_or_pos j with rfl | hj
        · simp at h; omega
        · exact hj
      have := nDigits_le j (m / 10) hj (by rw [Nat.pow_succ] at h; omega)
      omega
theorem itoaT_size {n : Int} (h : -9223372036854775808 ≤ n ∧ n ≤ 9223372036854775807) : (itoaT n).size ≤ 21 := by
  unfold itoaT Go.Lib.itoa
  rw [ba_size]
  split
  · have := nDigits_le 20 n.natAbs (by decide) (by have : (10 : Nat) ^ 20 = 100000000000000000000 := (by decide); omega)
    rw [List.length_cons, Go.Lib.decDigits_length]; omega
  · have := nDigits_le 20 n.toNat (by decide) (by have : (10 : Nat) ^ 20 = 100000000000000000000 := (by decide); omega)
    rw [Go.Lib.decDigits_length]; omega
theorem td_facts (x : Int) : (0 ≤ x ∧ x.tdiv 10 = x / 10 ∧ x.tmod 10 = x % 10) ∨ (x < 0 ∧ x.tdiv 10 = -((-x) / 10) ∧ x.tmod 10 = -((-x) % 10)) := by
  by_cases h : 0 ≤ x
  · exact .inl ⟨h, Int.tdiv_eq_ediv_of_nonneg h, Int.tmod_eq_emod_of_nonneg h⟩
  · refine .inr ⟨by omega, ?_, ?_⟩
    · rw [← Int.tdiv_eq_ediv_of_nonneg (show 0 ≤ -x by omega), Int.neg_tdiv, Int.neg_neg]
    · rw [← Int.tmod_eq_emod_of_nonneg (show 0 ≤ -x by omega), Int.neg_tmod, Int.neg_neg]
theorem dig_b {d : Nat} (h : d < 10) : strB [IntKind.wrap .u8 (w64 (48 + (d : Int)))] = ⟨[UInt8.ofNat (48 + d)].toArray⟩ := by
  rw [w64_id (by omega)]
  have : d = 0 ∨ d = 1 ∨ d = 2 ∨ d = 3 ∨ d = 4 ∨ d = 5 ∨ d = 6 ∨ d = 7 ∨ d = 8 ∨ d = 9 := by omega
  rcases this with rfl | rfl | rfl | rfl | rfl | rfl | rfl | rfl | rfl | rfl <;> rfl
theorem fmt_l (k : Nat) (a : Int) (X : ByteArray → Option ByteArray) : ∀ (j q : Nat) (x : Int) (s : List UInt8), x.natAbs < 10 ^ j → j ≤ 20 → j < q → s.length + j ≤ 40 → x ≠ 0 → -9223372036854775808 ≤ x ∧ x ≤ 9223372036854775807 →
    spec_FormatInt.l5 k a X q ⟨s.toArray⟩ x = X ⟨(Go.Lib.decDigits x.natAbs ++ s).toArray⟩ := by
  intro j
  induction j with
  | zero => intro q x s h _ _ _ h0; simp at h; exact absurd h h0
  | succ j ih =>
    intro q x s h hj hq hs h0 hx
    obtain ⟨q, rfl⟩ : ∃ i, q = i + 1 := ⟨q - 1, by omega⟩
    have hd : x.natAbs % 10 < 10 := Nat.mod_lt _ (by decide)
    have hb := dig_b hd
    have hna : (x.tdiv 10).natAbs = x.natAbs / 10 := by rcases td_facts x with ⟨q1, q2, q3⟩ | ⟨q1, q2, q3⟩ <;> rw [q2] <;> omega
    have hrg : -9223372036854775808 ≤ x.tdiv 10 ∧ x.tdiv 10 ≤ 9223372036854775807 := by rcases td_facts x with ⟨q1, q2, q3⟩ | ⟨q1, q2, q3⟩ <;> rw [q2] <;> omega
    have hstep : ∀ (Y : ByteArray → Int → Option ByteArray), spec_FormatInt.L5 k a X Y ⟨s.toArray⟩ x = Y ⟨(UInt8.ofNat (48 + x.natAbs % 10) :: s).toArray⟩ (x.tdiv 10) := fun Y => by
      have hsz : ∀ c : UInt8, (decide ((((⟨[c].toArray⟩ : ByteArray).size + (⟨s.toArray⟩ : ByteArray).size : Nat) : Int) > IntKind.i64.max)) = false := fun c => by
        rw [ba_size, ba_size]
        exact decide_eq_false (by show ¬ (((([c] : List UInt8).length + s.length : Nat) : Int) > 9223372036854775807); simp; omega)
      have hdiv : w64 (x.tdiv 10) = x.tdiv 10 := w64_id hrg
      unfold spec_FormatInt.L5
      rw [bneT h0, cond_true, hdiv]
      by_cases hn : x.tmod 10 < 0
      · have hm : x.tmod 10 = -((x.natAbs % 10 : Nat) : Int) := by rcases td_facts x with ⟨q1, q2, q3⟩ | ⟨q1, q2, q3⟩ <;> rw [q3] at hn ⊢ <;> omega
        rw [decide_eq_true hn, cond_true, hm, w64_id (n := 0 - -((x.natAbs % 10 : Nat) : Int)) (by omega), show (0 : Int) - -((x.natAbs % 10 : Nat) : Int) = ((x.natAbs % 10 : Nat) : Int) by omega, hb, hsz, cond_false, mk_append]
        rfl
      · have hm : x.tmod 10 = ((x.natAbs % 10 : Nat) : Int) := by rcases td_facts x with ⟨q1, q2, q3⟩ | ⟨q1, q2, q3⟩ <;> rw [q3] at hn ⊢ <;> omega
        rw [decide_eq_false hn, cond_false, hm, hb, hsz, cond_false, mk_append]
        rfl
    show spec_FormatInt.L5 k a X (spec_FormatInt.l5 k a X q) ⟨s.toArray⟩ x = _
    rw [hstep]
    by_cases h10 : x.natAbs < 10
    · have hz : x.tdiv 10 = 0 := by omega
      obtain ⟨q, rfl⟩ : ∃ i, q = i + 1 := ⟨q - 1, by omega⟩
      rw [hz, Go.Lib.decDigits_one h10, Nat.mod_eq_of_lt h10]
      show spec_FormatInt.L5 k a X _ _ 0 = _
      unfold spec_FormatInt.L5
      rfl
    · have hd2 : Go.Lib.decDigits x.natAbs = Go.Lib.decDigits (x.natAbs / 10) ++ [UInt8.ofNat (48 + x.natAbs % 10)] := by rw [Go.Lib.decDigits, dif_neg h10]
      rw [ih q (x.tdiv 10) _ (by rw [hna]; rw [Nat.pow_succ] at h; omega) (by omega) (by omega) (by rw [List.length_cons]; omega) (by omega) (by omega), hna, hd2, List.append_assoc]
      rfl
theorem spec_FormatInt_e {k : Nat} (hk : Big k) {n : Int} (h : -9223372036854775808 ≤ n ∧ n ≤ 9223372036854775807) : spec_FormatInt.f k n = some (itoaT n) := by
  have hk' := hk.out
  unfold spec_FormatInt.f
  by_cases h0 : n = 0
  · subst h0
    unfold itoaT Go.Lib.itoa
    rw [if_neg (by decide), show (0 : Int).toNat = 0 from rfl, Go.Lib.decDigits_one (by decide)]
    rfl
  · rw [beqF h0, cond_false]
    have := fmt_l k n (fun y1 => (bif decide (n < (0 : Int)) then (bif decide ((((ByteArray.mk #[45]).size + y1.size : Nat) : Int) > IntKind.i64.max) then none else some ((ByteArray.mk #[45]) ++ y1)) else some y1)) 20 k n [] (by have : (10 : Nat) ^ 20 = 100000000000000000000 := (by decide); omega) (by decide) (by omega) (by simp) h0 h
    rw [show (ByteArray.mk #[]) = ⟨([] : List UInt8).toArray⟩ from rfl, this, List.append_nil]
    have hsz := nDigits_le 20 n.natAbs (by decide) (by have : (10 : Nat) ^ 20 = 100000000000000000000 := (by decide); omega)
    unfold itoaT Go.Lib.itoa
    by_cases hn : n < 0
    · rw [decide_eq_true hn, if_pos hn, cond_true]
      have h1 : decide ((((ByteArray.mk #[45]).size + (⟨(Go.Lib.decDigits n.natAbs).toArray⟩ : ByteArray).size : Nat) : Int) > IntKind.i64.max) = false := by
        rw [ba_size (Go.Lib.decDigits n.natAbs), Go.Lib.decDigits_length]
        exact decide_eq_false (by show ¬ ((1 + Go.Lib.nDigits n.natAbs : Nat) : Int) > 9223372036854775807; omega)
      rw [h1, cond_false, show (ByteArray.mk #[45]) = ⟨([45] : List UInt8).toArray⟩ from rfl, mk_append]
      rfl
    · rw [decide_eq_false hn, if_neg hn, cond_false, show n.natAbs = n.toNat by omega]
def snapT (a b : Int) (c : Nat) : ByteArray := (((itoaT a ++ (ByteArray.mk #[32])) ++ itoaT b) ++ (ByteArray.mk #[32])) ++ itoaT (c : Int)
theorem ba_size_app (x y : ByteArray) : (x ++ y).size = x.size + y.size := by simp
theorem sz_no (x y : ByteArray) (h : x.size + y.size ≤ 1000) : decide (((x.size + y.size : Nat) : Int) > IntKind.i64.max) = false := decide_eq_false (by show ¬ ((x.size + y.size : Nat) : Int) > 9223372036854775807; omega)
theorem sz_1 : (ByteArray.mk #[32]).size = 1 := rfl
theorem spec_SnapshotText_e {k : Nat} (hk : Big k) {a b c d : Int} {g : List T_impl_Grant} {f : List T_impl_Flow} {r : List T_impl_Rule} {o : List T_impl_Op} {s : List T_impl_Stored} (ha : -9223372036854775808 ≤ a ∧ a ≤ 9223372036854775807) (hc : -9223372036854775808 ≤ c ∧ c ≤ 9223372036854775807) (hs : Ok s) :
    spec_SnapshotText.f k a b c g f r o d s = some (snapT a c s.length) := by
  have hs' := hs.out
  have hl : -9223372036854775808 ≤ (s.length : Int) ∧ (s.length : Int) ≤ 9223372036854775807 := by omega
  have z1 := itoaT_size ha
  have z2 := itoaT_size hc
  have z3 := itoaT_size hl
  unfold spec_SnapshotText.f snapT
  rw [spec_FormatInt_e hk ha, Option.bind_some, sz_no _ _ (by rw [sz_1]; omega), cond_false, spec_FormatInt_e hk hc, Option.bind_some, sz_no _ _ (by rw [ba_size_app, sz_1]; omega), cond_false, sz_no _ _ (by rw [ba_size_app, ba_size_app, sz_1]; omega), cond_false, spec_FormatInt_e hk hl, Option.bind_some, sz_no _ _ (by rw [ba_size_app, ba_size_app, ba_size_app, sz_1]; omega), cond_false]
theorem impl_FormatInt_e (k : Nat) {n : Int} (h : -9223372036854775808 ≤ n ∧ n ≤ 9223372036854775807) : impl_FormatInt.f k n = some (itoaT n) := by
  unfold impl_FormatInt.f strconv_Itoa.f itoaV
  rw [decide_eq_true h]
  rfl
theorem impl_SnapshotText_e (k : Nat) {a b c d : Int} {g : List T_impl_Grant} {f : List T_impl_Flow} {r : List T_impl_Rule} {o : List T_impl_Op} {s : List T_impl_Stored} (ha : -9223372036854775808 ≤ a ∧ a ≤ 9223372036854775807) (hc : -9223372036854775808 ≤ c ∧ c ≤ 9223372036854775807) (hs : Ok s) :
    impl_SnapshotText.f k a b c g f r o d s = some (snapT a c s.length) := by
  have hs' := hs.out
  have hl : -9223372036854775808 ≤ (s.length : Int) ∧ (s.length : Int) ≤ 9223372036854775807 := by omega
  have z1 := itoaT_size ha
  have z2 := itoaT_size hc
  have z3 := itoaT_size hl
  unfold impl_SnapshotText.f snapT
  rw [impl_FormatInt_e k ha, Option.bind_some, sz_no _ _ (by rw [sz_1]; omega), cond_false, impl_FormatInt_e k hc, Option.bind_some, sz_no _ _ (by rw [ba_size_app, sz_1]; omega), cond_false, sz_no _ _ (by rw [ba_size_app, ba_size_app, sz_1]; omega), cond_false, impl_FormatInt_e k hl, Option.bind_some, sz_no _ _ (by rw [ba_size_app, ba_size_app, ba_size_app, sz_1]; omega), cond_false]
theorem laws_szGrantS_e (k : Nat) {l : List T_laws_Grant} {n : Int} (hl : l.length ≤ maxLen) (hn : 0 ≤ n ∧ n ≤ 1048576) : laws_szGrantS.f k l n = some (bif decide (n - (l.length : Int) < 0) then -1 else n - (l.length : Int)) := by
  have h2 : l.length ≤ 9223372036854775807 := hl
  unfold laws_szGrantS.f
  rw [w64_id (by omega)]
  cases decide (n - (l.length : Int) < 0) <;> rfl
theorem laws_szFlowS_e (k : Nat) {l : List T_laws_Flow} {n : Int} (hl : l.length ≤ maxLen) (hn : 0 ≤ n ∧ n ≤ 1048576) : laws_szFlowS.f k l n = some (bif decide (n - (l.length : Int) < 0) then -1 else n - (l.length : Int)) := by
  have h2 : l.length ≤ 9223372036854775807 := hl
  unfold laws_szFlowS.f
  rw [w64_id (by omega)]
  cases decide (n - (l.length : Int) < 0) <;> rfl
theorem laws_szRuleS_e (k : Nat) {l : List T_laws_Rule} {n : Int} (hl : l.length ≤ maxLen) (hn : 0 ≤ n ∧ n ≤ 1048576) : laws_szRuleS.f k l n = some (bif decide (n - (l.length : Int) < 0) then -1 else n - (l.length : Int)) := by
  have h2 : l.length ≤ 9223372036854775807 := hl
  unfold laws_szRuleS.f
  rw [w64_id (by omega)]
  cases decide (n - (l.length : Int) < 0) <;> rfl
theorem laws_szOpS_e (k : Nat) {l : List T_laws_Op} {n : Int} (hl : l.length ≤ maxLen) (hn : 0 ≤ n ∧ n ≤ 1048576) : laws_szOpS.f k l n = some (bif decide (n - (l.length : Int) < 0) then -1 else n - (l.length : Int)) := by
  have h2 : l.length ≤ 9223372036854775807 := hl
  unfold laws_szOpS.f
  rw [w64_id (by omega)]
  cases decide (n - (l.length : Int) < 0) <;> rfl
theorem laws_szPackage_e (k : Nat) (a b c d : Int) {g : List T_laws_Grant} {f : List T_laws_Flow} {r : List T_laws_Rule} {o : List T_laws_Op} {n : Int} (hg : g.length ≤ maxLen) (hf : f.length ≤ maxLen) (hr : r.length ≤ maxLen) (ho : o.length ≤ maxLen) (hn : 0 ≤ n ∧ n ≤ 1048576) :
    ∃ t, laws_szPackage.f k a b c g f r o d n = some t ∧ t ≤ n ∧ (0 ≤ t → Ok g ∧ Ok f ∧ Ok r ∧ Ok o) := by
  unfold laws_szPackage.f
  rw [laws_szGrantS_e k hg hn, Option.bind_some]
  by_cases h1 : n - (g.length : Int) < 0
  · rw [decide_eq_true h1]; exact ⟨-1, rfl, by omega, fun h => by omega⟩
  rw [decide_eq_false h1, cond_false, decide_eq_false h1, cond_false, laws_szFlowS_e k hf (by omega), Option.bind_some]
  by_cases h2 : n - (g.length : Int) - (f.length : Int) < 0
  · rw [decide_eq_true h2]; exact ⟨-1, rfl, by omega, fun h => by omega⟩
  rw [decide_eq_false h2, cond_false, decide_eq_false h2, cond_false, laws_szRuleS_e k hr (by omega), Option.bind_some]
  by_cases h3 : n - (g.length : Int) - (f.length : Int) - (r.length : Int) < 0
  · rw [decide_eq_true h3]; exact ⟨-1, rfl, by omega, fun h => by omega⟩
  rw [decide_eq_false h3, cond_false, decide_eq_false h3, cond_false, laws_szOpS_e k ho (by omega), Option.bind_some]
  by_cases h4 : n - (g.length : Int) - (f.length : Int) - (r.length : Int) - (o.length : Int) < 0
  · rw [decide_eq_true h4]; exact ⟨-1, rfl, by omega, fun h => by omega⟩
  rw [decide_eq_false h4, cond_false, decide_eq_false h4, cond_false]
  exact ⟨_, rfl, by omega, fun _ => ⟨by unfold Ok; omega, by unfold Ok; omega, by unfold Ok; omega, by unfold Ok; omega⟩⟩
theorem laws_szStoredS_e (k : Nat) {l : List T_laws_Stored} {n : Int} (hl : l.length ≤ maxLen) (hn : 0 ≤ n ∧ n ≤ 1048576) : laws_szStoredS.f k l n = some (bif decide (n - (l.length : Int) < 0) then -1 else n - (l.length : Int)) := by
  have h2 : l.length ≤ 9223372036854775807 := hl
  unfold laws_szStoredS.f
  rw [w64_id (by omega)]
  cases decide (n - (l.length : Int) < 0) <;> rfl
def toGrant (x : T_laws_Grant) : T_impl_Grant := ⟨x.f0, ⟨x.f1.f0, x.f1.f1⟩, x.f2, x.f3, x.f4, x.f5⟩
theorem laws_toGrantS_e {k : Nat} (hk : Big k) {l : List T_laws_Grant} (hl : Ok l) : laws_toGrantS.f k l = some (l.map toGrant) := by
  have hl' := hl.out
  unfold laws_toGrantS.f
  rw [nn_, cond_true, decide_eq_true (by unfold cap48; simp; omega), cond_true]
  refine loop_map (laws_toGrantS.l3 k l (fun y => some y)) toGrant (fun y => some y) l (fun n i x ys hx hy => ?_) (fun n ys hy => ?_) k _ (hk.lt hl) (by simp)
  · obtain ⟨h1, h2, h3, h4⟩ := at_ hx (by omega)
    have h5 : decide ((i : Int) < (ys.length : Int)) = true := by rw [hy]; exact h1
    simp only [laws_toGrantS.l3, laws_toGrantS.L3, rd_laws_Grant, h1, h2, h3, h4, h5, cond_true, laws_toGrant.f, laws_toPattern.f, Option.bind_some, toGrant]
    rfl
  · simp only [laws_toGrantS.l3, laws_toGrantS.L3, end_, cond_false]
def toFlow (x : T_laws_Flow) : T_impl_Flow := ⟨x.f0, x.f1, x.f2⟩
theorem laws_toFlowS_e {k : Nat} (hk : Big k) {l : List T_laws_Flow} (hl : Ok l) : laws_toFlowS.f k l = some (l.map toFlow) := by
  have hl' := hl.out
  unfold laws_toFlowS.f
  rw [nn_, cond_true, decide_eq_true (by unfold cap48; simp; omega), cond_true]
  refine loop_map (laws_toFlowS.l3 k l (fun y => some y)) toFlow (fun y => some y) l (fun n i x ys hx hy => ?_) (fun n ys hy => ?_) k _ (hk.lt hl) (by simp)
  · obtain ⟨h1, h2, h3, h4⟩ := at_ hx (by omega)
    have h5 : decide ((i : Int) < (ys.length : Int)) = true := by rw [hy]; exact h1
    simp only [laws_toFlowS.l3, laws_toFlowS.L3, rd_laws_Flow, h1, h2, h3, h4, h5, cond_true, laws_toFlow.f, Option.bind_some, toFlow]
    rfl
  · simp only [laws_toFlowS.l3, laws_toFlowS.L3, end_, cond_false]
def toRule (x : T_laws_Rule) : T_impl_Rule := ⟨x.f0, x.f1, ⟨x.f2.f0, x.f2.f1⟩, x.f3, x.f4, ⟨x.f5.f0, x.f5.f1⟩⟩
theorem laws_toRuleS_e {k : Nat} (hk : Big k) {l : List T_laws_Rule} (hl : Ok l) : laws_toRuleS.f k l = some (l.map toRule) := by
  have hl' := hl.out
  unfold laws_toRuleS.f
  rw [nn_, cond_true, decide_eq_true (by unfold cap48; simp; omega), cond_true]
  refine loop_map (laws_toRuleS.l3 k l (fun y => some y)) toRule (fun y => some y) l (fun n i x ys hx hy => ?_) (fun n ys hy => ?_) k _ (hk.lt hl) (by simp)
  · obtain ⟨h1, h2, h3, h4⟩ := at_ hx (by omega)
    have h5 : decide ((i : Int) < (ys.length : Int)) = true := by rw [hy]; exact h1
    simp only [laws_toRuleS.l3, laws_toRuleS.L3, rd_laws_Rule, h1, h2, h3, h4, h5, cond_true, laws_toRule.f, laws_toPattern.f, laws_toSite.f, Option.bind_some, toRule]
    rfl
  · simp only [laws_toRuleS.l3, laws_toRuleS.L3, end_, cond_false]
def toOp (x : T_laws_Op) : T_impl_Op := ⟨x.f0, x.f1, x.f2, x.f3⟩
theorem laws_toOpS_e {k : Nat} (hk : Big k) {l : List T_laws_Op} (hl : Ok l) : laws_toOpS.f k l = some (l.map toOp) := by
  have hl' := hl.out
  unfold laws_toOpS.f
  rw [nn_, cond_true, decide_eq_true (by unfold cap48; simp; omega), cond_true]
  refine loop_map (laws_toOpS.l3 k l (fun y => some y)) toOp (fun y => some y) l (fun n i x ys hx hy => ?_) (fun n ys hy => ?_) k _ (hk.lt hl) (by simp)
  · obtain ⟨h1, h2, h3, h4⟩ := at_ hx (by omega)
    have h5 : decide ((i : Int) < (ys.length : Int)) = true := by rw [hy]; exact h1
    simp only [laws_toOpS.l3, laws_toOpS.L3, rd_laws_Op, h1, h2, h3, h4, h5, cond_true, laws_toOp.f, Option.bind_some, toOp]
    rfl
  · simp only [laws_toOpS.l3, laws_toOpS.L3, end_, cond_false]
theorem laws_toPackage_e {k : Nat} (hk : Big k) (a b c d : Int) {g : List T_laws_Grant} {f : List T_laws_Flow} {r : List T_laws_Rule} {o : List T_laws_Op} (hg : Ok g) (hf : Ok f) (hr : Ok r) (ho : Ok o) :
    laws_toPackage.f k a b c g f r o d = some (a, b, c, d, g.map toGrant, f.map toFlow, r.map toRule, o.map toOp) := by
  unfold laws_toPackage.f
  rw [laws_toGrantS_e hk hg, Option.bind_some, laws_toFlowS_e hk hf, Option.bind_some, laws_toRuleS_e hk hr, Option.bind_some, laws_toOpS_e hk ho, Option.bind_some]
def toStored (x : T_laws_Stored) : T_impl_Stored := ⟨x.f0, x.f1, x.f2, x.f3⟩
theorem laws_toStoredS_e {k : Nat} (hk : Big k) {l : List T_laws_Stored} (hl : Ok l) : laws_toStoredS.f k l = some (l.map toStored) := by
  have hl' := hl.out
  unfold laws_toStoredS.f
  rw [nn_, cond_true, decide_eq_true (by unfold cap48; simp; omega), cond_true]
  refine loop_map (laws_toStoredS.l3 k l (fun y => some y)) toStored (fun y => some y) l (fun n i x ys hx hy => ?_) (fun n ys hy => ?_) k _ (hk.lt hl) (by simp)
  · obtain ⟨h1, h2, h3, h4⟩ := at_ hx (by omega)
    have h5 : decide ((i : Int) < (ys.length : Int)) = true := by rw [hy]; exact h1
    simp only [laws_toStoredS.l3, laws_toStoredS.L3, rd_laws_Stored, h1, h2, h3, h4, h5, cond_true, laws_toStored.f, Option.bind_some, toStored]
    rfl
  · simp only [laws_toStoredS.l3, laws_toStoredS.L3, end_, cond_false]
theorem laws_eqGrant_refl (k : Nat) (x : T_impl_Grant) : laws_eqGrant.f k x.f0 x.f1.f0 x.f1.f1 x.f2 x.f3 x.f4 x.f5 x.f0 x.f1.f0 x.f1.f1 x.f2 x.f3 x.f4 x.f5 = some true := by
  simp [laws_eqGrant.f, laws_eqPattern.f, Option.bind_some]
theorem laws_eqGrantS_refl {k : Nat} (hk : Big k) {l : List T_impl_Grant} (hl : Ok l) : laws_eqGrantS.f k l l = some true := by
  have hl' := hl.out
  unfold laws_eqGrantS.f
  rw [show ((l.length : Int) != (l.length : Int)) = false from by simp, cond_false]
  rw [loop_all (laws_eqGrantS.l4 k l l (fun y => some y) (fun _ => some true)) (fun _ => true) (some true) (some false) l (fun n i x hx => by
    obtain ⟨h1, h2, h3, h4⟩ := at_ hx (by omega)
    simp only [laws_eqGrantS.l4, laws_eqGrantS.L4, rd_impl_Grant, h1, h2, h3, h4, cond_true, laws_eqGrant_refl, Option.bind_some]
    rfl) (fun n => by simp only [laws_eqGrantS.l4, laws_eqGrantS.L4, end_, cond_false]) k (hk.lt hl), List.all_eq_true.2 (fun _ _ => rfl)]
  rfl
theorem laws_eqFlow_refl (k : Nat) (x : T_impl_Flow) : laws_eqFlow.f k x.f0 x.f1 x.f2 x.f0 x.f1 x.f2 = some true := by
  simp [laws_eqFlow.f, Option.bind_some]
theorem laws_eqFlowS_refl {k : Nat} (hk : Big k) {l : List T_impl_Flow} (hl : Ok l) : laws_eqFlowS.f k l l = some true := by
  have hl' := hl.out
  unfold laws_eqFlowS.f
  rw [show ((l.length : Int) != (l.length : Int)) = false from by simp, cond_false]
  rw [loop_all (laws_eqFlowS.l4 k l l (fun y => some y) (fun _ => some true)) (fun _ => true) (some true) (some false) l (fun n i x hx => by
    obtain ⟨h1, h2, h3, h4⟩ := at_ hx (by omega)
    simp only [laws_eqFlowS.l4, laws_eqFlowS.L4, rd_impl_Flow, h1, h2, h3, h4, cond_true, laws_eqFlow_refl, Option.bind_some]
    rfl) (fun n => by simp only [laws_eqFlowS.l4, laws_eqFlowS.L4, end_, cond_false]) k (hk.lt hl), List.all_eq_true.2 (fun _ _ => rfl)]
  rfl
theorem laws_eqRule_refl (k : Nat) (x : T_impl_Rule) : laws_eqRule.f k x.f0 x.f1 x.f2.f0 x.f2.f1 x.f3 x.f4 x.f5.f0 x.f5.f1 x.f0 x.f1 x.f2.f0 x.f2.f1 x.f3 x.f4 x.f5.f0 x.f5.f1 = some true := by
  simp [laws_eqRule.f, laws_eqPattern.f, laws_eqSite.f, Option.bind_some]
theorem laws_eqRuleS_refl {k : Nat} (hk : Big k) {l : List T_impl_Rule} (hl : Ok l) : laws_eqRuleS.f k l l = some true := by
  have hl' := hl.out
  unfold laws_eqRuleS.f
  rw [show ((l.length : Int) != (l.length : Int)) = false from by simp, cond_false]
  rw [loop_all (laws_eqRuleS.l4 k l l (fun y => some y) (fun _ => some true)) (fun _ => true) (some true) (some false) l (fun n i x hx => by
    obtain ⟨h1, h2, h3, h4⟩ := at_ hx (by omega)
    simp only [laws_eqRuleS.l4, laws_eqRuleS.L4, rd_impl_Rule, h1, h2, h3, h4, cond_true, laws_eqRule_refl, Option.bind_some]
    rfl) (fun n => by simp only [laws_eqRuleS.l4, laws_eqRuleS.L4, end_, cond_false]) k (hk.lt hl), List.all_eq_true.2 (fun _ _ => rfl)]
  rfl
theorem laws_eqOp_refl (k : Nat) (x : T_impl_Op) : laws_eqOp.f k x.f0 x.f1 x.f2 x.f3 x.f0 x.f1 x.f2 x.f3 = some true := by
  simp [laws_eqOp.f, Option.bind_some]
theorem laws_eqOpS_refl {k : Nat} (hk : Big k) {l : List T_impl_Op} (hl : Ok l) : laws_eqOpS.f k l l = some true := by
  have hl' := hl.out
  unfold laws_eqOpS.f
  rw [show ((l.length : Int) != (l.length : Int)) = false from by simp, cond_false]
  rw [loop_all (laws_eqOpS.l4 k l l (fun y => some y) (fun _ => some true)) (fun _ => true) (some true) (some false) l (fun n i x hx => by
    obtain ⟨h1, h2, h3, h4⟩ := at_ hx (by omega)
    simp only [laws_eqOpS.l4, laws_eqOpS.L4, rd_impl_Op, h1, h2, h3, h4, cond_true, laws_eqOp_refl, Option.bind_some]
    rfl) (fun n => by simp only [laws_eqOpS.l4, laws_eqOpS.L4, end_, cond_false]) k (hk.lt hl), List.all_eq_true.2 (fun _ _ => rfl)]
  rfl
theorem laws_eqPackage_refl {k : Nat} (hk : Big k) (a b c d : Int) {g : List T_impl_Grant} {f : List T_impl_Flow} {r : List T_impl_Rule} {o : List T_impl_Op} (hg : Ok g) (hf : Ok f) (hr : Ok r) (ho : Ok o) :
    laws_eqPackage.f k a b c g f r o d a b c g f r o d = some true := by
  unfold laws_eqPackage.f
  simp [laws_eqGrantS_refl hk hg, laws_eqFlowS_refl hk hf, laws_eqRuleS_refl hk hr, laws_eqOpS_refl hk ho]
theorem laws_eqStored_refl (k : Nat) (x : T_impl_Stored) : laws_eqStored.f k x.f0 x.f1 x.f2 x.f3 x.f0 x.f1 x.f2 x.f3 = some true := by
  simp [laws_eqStored.f, Option.bind_some]
theorem laws_eqStoredS_refl {k : Nat} (hk : Big k) {l : List T_impl_Stored} (hl : Ok l) : laws_eqStoredS.f k l l = some true := by
  have hl' := hl.out
  unfold laws_eqStoredS.f
  rw [show ((l.length : Int) != (l.length : Int)) = false from by simp, cond_false]
  rw [loop_all (laws_eqStoredS.l4 k l l (fun y => some y) (fun _ => some true)) (fun _ => true) (some true) (some false) l (fun n i x hx => by
    obtain ⟨h1, h2, h3, h4⟩ := at_ hx (by omega)
    simp only [laws_eqStoredS.l4, laws_eqStoredS.L4, rd_impl_Stored, h1, h2, h3, h4, cond_true, laws_eqStored_refl, Option.bind_some]
    rfl) (fun n => by simp only [laws_eqStoredS.l4, laws_eqStoredS.L4, end_, cond_false]) k (hk.lt hl), List.all_eq_true.2 (fun _ _ => rfl)]
  rfl
theorem laws_eqSnapshot_refl {k : Nat} (hk : Big k) (a b c d : Int) {g : List T_impl_Grant} {f : List T_impl_Flow} {r : List T_impl_Rule} {o : List T_impl_Op} {l : List T_impl_Stored} (hg : Ok g) (hf : Ok f) (hr : Ok r) (ho : Ok o) (hl : Ok l) :
    laws_eqSnapshot.f k a b c g f r o d l a b c g f r o d l = some true := by
  unfold laws_eqSnapshot.f
  rw [laws_eqPackage_refl hk a b c d hg hf hr ho, Option.bind_some, laws_eqStoredS_refl hk hl, Option.bind_some]
  rfl
theorem FnExactSnapshotText : ∀ (a0_0 : Int) (a0_1 : Int) (a0_2 : Int) (a0_3 : List T_laws_Grant) (a0_4 : List T_laws_Flow) (a0_5 : List T_laws_Rule) (a0_6 : List T_laws_Op) (a0_7 : Int) (a0_8 : List T_laws_Stored), (Lit.int .i64 a0_0).wf = true → (Lit.int .i64 a0_1).wf = true → (Lit.int .i64 a0_2).wf = true → a0_3.length ≤ maxLen → (∀ x ∈ a0_3, likes (k_laws_Grant.enc k_laws_Grant.zero) (k_laws_Grant.enc x)) → a0_4.length ≤ maxLen → (∀ x ∈ a0_4, likes (k_laws_Flow.enc k_laws_Flow.zero) (k_laws_Flow.enc x)) → a0_5.length ≤ maxLen → (∀ x ∈ a0_5, likes (k_laws_Rule.enc k_laws_Rule.zero) (k_laws_Rule.enc x)) → a0_6.length ≤ maxLen → (∀ x ∈ a0_6, likes (k_laws_Op.enc k_laws_Op.zero) (k_laws_Op.enc x)) → (Lit.int .i64 a0_7).wf = true → a0_8.length ≤ maxLen → (∀ x ∈ a0_8, likes (k_laws_Stored.enc k_laws_Stored.zero) (k_laws_Stored.enc x)) → ∃ k, laws_FnExactSnapshotText.f k a0_0 a0_1 a0_2 a0_3 a0_4 a0_5 a0_6 a0_7 a0_8 = some true := by
  intro b0 b1 b2 g f r o b7 s v0 v1 v2 hg _ hf _ hr _ ho _ v7 hs _
  obtain ⟨k, hk⟩ := big_some
  refine ⟨k, ?_⟩
  unfold laws_FnExactSnapshotText.f laws_szSnapshot.f
  obtain ⟨t, h1, h2, h3⟩ := laws_szPackage_e k b0 b1 b2 b7 hg hf hr ho (n := 1048576) (by omega)
  rw [h1, Option.bind_some]
  by_cases ht : t < 0
  · rw [decide_eq_true ht]; rfl
  obtain ⟨og, of, or, oo⟩ := h3 (by omega)
  rw [decide_eq_false ht, cond_false, laws_szStoredS_e k hs (by omega), Option.bind_some]
  by_cases hz : t - (s.length : Int) < 0
  · rw [decide_eq_true hz]; rfl
  have os : Ok s := by unfold Ok; omega
  rw [decide_eq_false hz, cond_false, decide_eq_false hz, cond_false, Option.bind_some, decide_eq_false hz, cond_false]
  simp only [laws_toSnapshot.f, laws_toPackage_e hk b0 b1 b2 b7 og of or oo, laws_toStoredS_e hk os, Option.bind_some]
  generalize g.map toGrant = G, f.map toFlow = F, r.map toRule = R, o.map toOp = O, s.map toStored = S, og.map (f := toGrant) = hG, of.map (f := toFlow) = hF, or.map (f := toRule) = hR, oo.map (f := toOp) = hO, os.map (f := toStored) = hS
  simp only [spec_SnapshotText_e hk (wf64 v0) (wf64 v2) hS, impl_SnapshotText_e k (wf64 v0) (wf64 v2) hS, Option.bind_some, beq_self_eq_true, laws_eqSnapshot_refl hk b0 b1 b2 b7 hG hF hR hO hS]
  rfl
end Go.Proofs.YthingkcckjiniaaDoor.PFnExactSnapshotText.Pure
