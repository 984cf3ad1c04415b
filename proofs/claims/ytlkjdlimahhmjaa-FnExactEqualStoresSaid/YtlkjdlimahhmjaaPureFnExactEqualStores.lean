/- The law FnExactEqualStores as a statement over numbers and lists, with its proof; no conditions but the ranges that the values' types and the slices' lengths have. -/
import Derived.Test.YtlkjdlimahhmjaaPFnExactEqualStoresx3
namespace Go.Proofs.Ytlkjdlimahhmjaa.Pure
open Go.RowKit Go.Proofs.Ytlkjdlimahhmjaa.PFnExactEqualStores Go.Proofs.YtlkjdlimahhmjaaW.PrintWords Go.Proofs.YtlkjdlimahhmjaaW.PrintLast Go.Proofs.YtlkjdlimahhmjaaW.PrintMore
set_option linter.unusedVariables false
set_option linter.unusedSimpArgs false
/-! ### numbers, lists, rounds -/
theorem wf64 {n : Int} (h : (Lit.int .i64 n).wf = true) : -9223372036854775808 ≤ n ∧ n ≤ 9223372036854775807 := by
  simp [Lit.wf, IntKind.min, IntKind.max, IntKind.bits, IntKind.signed] at h
  omega
theorem wrap_id {n : Int} (h : -9223372036854775808 ≤ n ∧ n ≤ 9223372036854775807) : wrap64 n = n := by
  unfold wrap64
  omega
theorem wrap_nat {n : Nat} (h : n ≤ 1000000000000) : wrap64 ((n : Int) + 1) = ((n + 1 : Nat) : Int) := by
  unfold wrap64
  omega
theorem succ_of {m k : Nat} (h : m < k) : ∃ q, k = q + 1 := ⟨k - 1, by omega⟩
theorem ite_t {p : Prop} [Decidable p] {α : Type} {a b : α} (h : p) : (if p then a else b) = a := if_pos h
theorem ite_f {p : Prop} [Decidable p] {α : Type} {a b : α} (h : ¬ p) : (if p then a else b) = b := if_neg h
theorem bind_of {α β : Type} {x : Option α} {a : α} {f : α → Option β} {r : Option β} (h : x = some a) (h2 : f a = r) : x.bind f = r := by rw [h]; exact h2
theorem getD_mid {α : Type} (pre : List α) (x : α) (suf : List α) (z : α) : (pre ++ x :: suf).getD ((pre.length : Int)).toNat z = x := by
  simp
theorem rd_mid (pre : List Int) (x : Int) (suf : List Int) : rd (pre ++ x :: suf) (pre.length : Int) = x := by
  simp [rd]
theorem set_mid {α : Type} (pre : List α) (x y : α) (suf : List α) : (pre ++ x :: suf).set ((pre.length : Int)).toNat y = pre ++ y :: suf := by
  simp
theorem mid_lt {α : Type} (pre : List α) (x : α) (suf : List α) : (pre.length : Int) < ((pre ++ x :: suf).length : Int) := by
  simp; omega
theorem mid_lt' {α : Type} (pre : List α) (x : α) (suf : List α) (n : Nat) (h : pre.length = n) : (n : Int) < ((pre ++ x :: suf).length : Int) := by
  simp; omega
theorem nil_nlt {α : Type} (pre : List α) : ¬ ((pre.length : Int) < ((pre ++ []).length : Int)) := by simp
theorem len_nn (n : Nat) : (0 : Int) ≤ (n : Int) := by omega
theorem snoc_eq {α : Type} (pre : List α) (x : α) (suf : List α) : pre ++ x :: suf = (pre ++ [x]) ++ suf := by simp
theorem snoc_len {α : Type} (pre : List α) (x : α) : ((pre.length + 1 : Nat) : Int) = ((pre ++ [x]).length : Int) := by simp
def inR (n a b : Int) : Bool := decide (a ≤ n ∧ n ≤ b)
theorem inR_true {n a b : Int} : inR n a b = true ↔ a ≤ n ∧ n ≤ b := by simp [inR]
theorem inR_false {n a b : Int} : inR n a b = false ↔ ¬ (a ≤ n ∧ n ≤ b) := by simp [inR]
def Big (k : Nat) : Prop := 1100000 ≤ k
theorem big_out {k : Nat} (h : Big k) : 1100000 ≤ k := h
theorem big_succ {k : Nat} (h : Big k) : Big (k + 1) := by unfold Big at *; omega
theorem big_some : ∃ K : Nat, Big K := ⟨1100000, Nat.le_refl _⟩
theorem big_pred {k : Nat} (h : Big k) (n : Nat) (hn : n ≤ 1048577) : n < k := by unfold Big at h; omega
def Ok {α : Type} (l : List α) : Prop := l.length ≤ 1048576
theorem ok_out {α : Type} {l : List α} (h : Ok l) : l.length ≤ 1048576 := h
theorem ok_map {α β : Type} {f : α → β} {l : List α} (h : Ok l) : Ok (l.map f) := by unfold Ok at *; simpa using h
theorem ok_filter {α : Type} {f : α → Bool} {l : List α} (h : Ok l) : Ok (l.filter f) := by unfold Ok at *; exact Nat.le_trans (List.length_filter_le _ _) h
theorem ok_small {α : Type} {l : List α} (n : Nat) (h : l.length ≤ n) (hn : n ≤ 1048576) : Ok l := by unfold Ok; omega
theorem rd83_mid (pre : List S83) (x : S83) (suf : List S83) : rd_T83 (pre ++ x :: suf) (pre.length : Int) = x := getD_mid pre x suf z83
def eq1_Stored (x y : S83) : Bool := (x.f0 == y.f0) && (x.f1 == y.f1) && (x.f2 == y.f2) && (x.f3 == y.f3)
def eqL_Stored : List S83 → List S83 → Bool
  | [], [] => true
  | x :: xs, y :: ys => eq1_Stored x y && eqL_Stored xs ys
  | _, _ => false
theorem ne1_Stored (x y : S83) : (!(x.f0 == y.f0) || (!(x.f1 == y.f1) || (!(x.f2 == y.f2) || (!(x.f3 == y.f3))))) = !(eq1_Stored x y) := by
  unfold eq1_Stored
  cases (x.f0 == y.f0) <;> cases (x.f1 == y.f1) <;> cases (x.f2 == y.f2) <;> cases (x.f3 == y.f3) <;> rfl
theorem eq1_Stored_iff (x y : S83) : eq1_Stored x y = true ↔ x = y := by
  constructor
  · intro h
    obtain ⟨x0, x1, x2, x3⟩ := x
    obtain ⟨y0, y1, y2, y3⟩ := y
    simp_all [eq1_Stored]
  · rintro rfl
    simp [eq1_Stored]
theorem eqL_Stored_iff : ∀ (xs ys : List S83), eqL_Stored xs ys = true ↔ xs = ys
  | [], [] => by simp [eqL_Stored]
  | [], _ :: _ => by simp [eqL_Stored]
  | _ :: _, [] => by simp [eqL_Stored]
  | x :: xs, y :: ys => by simp [eqL_Stored, eqL_Stored_iff xs ys, eq1_Stored_iff x y]
theorem eqL_Stored_refl (xs : List S83) : eqL_Stored xs xs = true := (eqL_Stored_iff xs xs).2 rfl
theorem eqL_Stored_len {xs ys : List S83} (h : xs.length ≠ ys.length) : eqL_Stored xs ys = false := by
  cases hh : eqL_Stored xs ys with
  | false => rfl
  | true => exact absurd (congrArg List.length ((eqL_Stored_iff xs ys).1 hh)) h
theorem spec_EqualStores_l (suf : List S83) : ∀ (pre pre2 suf2 : List S83) (k : Nat), pre2.length = pre.length → suf2.length = suf.length → (pre ++ suf).length ≤ 1048576 → suf.length < k →
    spec_EqualStores.l0 k (pre ++ suf) (pre2 ++ suf2) (pre.length : Int) = some (eqL_Stored suf suf2) := by
  induction suf with
  | nil =>
    intro pre pre2 suf2 k h1 h2 hb hk
    obtain ⟨k, rfl⟩ := succ_of hk
    obtain rfl : suf2 = [] := List.eq_nil_of_length_eq_zero h2
    rw [spec_EqualStores.l0, if_neg (nil_nlt pre)]
    rfl
  | cons x suf ih =>
    intro pre pre2 suf2 k h1 h2 hb hk
    obtain ⟨k, rfl⟩ := succ_of hk
    rcases suf2 with _ | ⟨y, suf2⟩
    · simp at h2
    have hp : pre.length + suf.length < 1048576 := by simp at hb; omega
    have hm : (pre.length : Int) = (pre2.length : Int) := by omega
    have h := ih (pre ++ [x]) (pre2 ++ [y]) suf2 k (by simp [h1]) (by simpa using h2) (by simpa using hb) (by simpa using hk)
    have r2 : rd_T83 (pre2 ++ y :: suf2) (pre.length : Int) = y := by rw [hm]; exact rd83_mid pre2 y suf2
    have l2 : (pre.length : Int) < ((pre2 ++ y :: suf2).length : Int) := by rw [hm]; exact mid_lt _ _ _
    rw [spec_EqualStores.l0, if_pos (mid_lt _ _ _), if_pos (len_nn _), if_pos l2, rd83_mid, r2, wrap_nat (by omega), snoc_len pre x, snoc_eq pre x suf, snoc_eq pre2 y suf2, h, eqL_Stored]
    rw [ne1_Stored x y]
    cases eq1_Stored x y <;> simp
theorem spec_EqualStores_e {k : Nat} {l m : List S83} (hk : Big k) (hl : Ok l) : spec_EqualStores.f k l m = some (eqL_Stored l m) := by
  have hl' := ok_out hl
  unfold spec_EqualStores.f
  by_cases hlen : l.length = m.length
  · rw [if_pos (by omega)]
    simpa using spec_EqualStores_l l [] [] m k rfl hlen.symm (by simpa using hl') (big_pred hk _ (by omega))
  · rw [if_neg (by omega), eqL_Stored_len hlen]
theorem slEq_Stored_l (suf : List S83) : ∀ (pre pre2 suf2 : List S83) (k : Nat), pre2.length = pre.length → suf2.length = suf.length → (pre ++ suf).length ≤ 1048576 → suf.length < k →
    impl_Stored.l0 k (pre ++ suf) (pre2 ++ suf2) ((pre ++ suf).length : Int) (pre.length : Int) = some (eqL_Stored suf suf2) := by
  induction suf with
  | nil =>
    intro pre pre2 suf2 k h1 h2 hb hk
    obtain ⟨k, rfl⟩ := succ_of hk
    obtain rfl : suf2 = [] := List.eq_nil_of_length_eq_zero h2
    rw [impl_Stored.l0, if_neg (nil_nlt pre)]
    rfl
  | cons x suf ih =>
    intro pre pre2 suf2 k h1 h2 hb hk
    obtain ⟨k, rfl⟩ := succ_of hk
    rcases suf2 with _ | ⟨y, suf2⟩
    · simp at h2
    have hp : pre.length + suf.length < 1048576 := by simp at hb; omega
    have hm : (pre.length : Int) = (pre2.length : Int) := by omega
    have h := ih (pre ++ [x]) (pre2 ++ [y]) suf2 k (by simp [h1]) (by simpa using h2) (by simpa using hb) (by simpa using hk)
    have r2 : rd_T83 (pre2 ++ y :: suf2) (pre.length : Int) = y := by rw [hm]; exact rd83_mid pre2 y suf2
    have l2 : (pre.length : Int) < ((pre2 ++ y :: suf2).length : Int) := by rw [hm]; exact mid_lt _ _ _
    rw [impl_Stored.l0, if_pos (mid_lt _ _ _), if_pos (len_nn _), if_pos (mid_lt _ _ _), if_pos l2, rd83_mid, r2, wrap_nat (by omega), snoc_len pre x, snoc_eq pre x suf, snoc_eq pre2 y suf2, h, eqL_Stored]
    rw [ne1_Stored x y]
    cases eq1_Stored x y <;> simp
theorem slEq_Stored_e {k : Nat} {l m : List S83} (hk : Big k) (hl : Ok l) : impl_Stored.f k l m = some (eqL_Stored l m) := by
  have hl' := ok_out hl
  unfold impl_Stored.f
  by_cases hlen : l.length = m.length
  · rw [if_pos (by omega)]
    simpa using slEq_Stored_l l [] [] m k rfl hlen.symm (by simpa using hl') (big_pred hk _ (by omega))
  · rw [if_neg (by omega), eqL_Stored_len hlen]
theorem impl_EqualStores_e {k : Nat} {l m : List S83} (hk : Big k) (hl : Ok l) : impl_EqualStores.f k l m = some (eqL_Stored l m) := by
  unfold impl_EqualStores.f
  rw [slEq_Stored_e hk hl, Option.bind_some]
theorem laws_szStoredS_no {l : List S85} {a : Int} (h0 : 0 ≤ a) (h1 : a ≤ 1048576) (h : l.length ≤ maxLen) (hn : a < l.length) : laws_szStoredS.f l a = some (-1) := by
  unfold maxLen at h
  unfold laws_szStoredS.f
  rw [wrap_id (by omega), if_pos (by omega)]
theorem laws_szStoredS_yes {l : List S85} {a : Int} (h0 : 0 ≤ a) (h1 : a ≤ 1048576) (hn : l.length ≤ a) : laws_szStoredS.f l a = some (a - l.length) := by
  unfold laws_szStoredS.f
  rw [wrap_id (by omega), if_neg (by omega)]
theorem rd85_mid (pre : List S85) (x : S85) (suf : List S85) : rd_T85 (pre ++ x :: suf) (pre.length : Int) = x := getD_mid pre x suf z85
def cv_Stored (x : S85) : S83 := (⟨x.f0, x.f1, x.f2, x.f3⟩ : S83)
theorem laws_toStoredS_l (suf : List S85) : ∀ (pre : List S85) (k : Nat), (pre ++ suf).length ≤ 1048576 → suf.length < k →
    laws_toStoredS.l0 k (pre ++ suf) (pre.map cv_Stored ++ List.replicate suf.length z83) (pre.length : Int) = some ((pre ++ suf).map cv_Stored) := by
  induction suf with
  | nil =>
    intro pre k hb hk
    obtain ⟨k, rfl⟩ := succ_of hk
    rw [laws_toStoredS.l0, if_neg (nil_nlt pre)]
    simp
  | cons x suf ih =>
    intro pre k hb hk
    obtain ⟨k, rfl⟩ := succ_of hk
    have hp : pre.length ≤ 1048576 := by simp at hb; omega
    have hm : (pre.length : Int) = ((pre.map cv_Stored).length : Int) := by simp
    have h := ih (pre ++ [x]) k (by simpa using hb) (by simpa using hk)
    rw [laws_toStoredS.l0, if_pos (mid_lt _ _ _), if_pos (len_nn _), rd85_mid]
    simp only [laws_toStored.f, Option.bind_some]
    rw [if_pos (by simp; omega), List.length_cons, List.replicate_succ, hm, set_mid, wrap_nat (by simpa using Nat.le_trans hp (by omega)), snoc_eq pre x suf]
    rw [snoc_eq (pre.map cv_Stored)]
    simp only [List.map_append, List.map_cons, List.map_nil, List.length_append, List.length_map, List.length_cons, List.length_nil, Nat.zero_add] at h ⊢
    exact h
theorem laws_toStoredS_e {k : Nat} {l : List S85} (hk : Big k) (hl : Ok l) : laws_toStoredS.f k l = some (l.map cv_Stored) := by
  have hl' := ok_out hl
  unfold laws_toStoredS.f
  rw [if_pos (len_nn _), if_pos (by omega)]
  simpa using laws_toStoredS_l l [] k (by simpa using hl') (big_pred hk _ (by omega))
theorem laws_eqStoredS_l (suf : List S83) : ∀ (pre : List S83) (k : Nat), (pre ++ suf).length ≤ 1048576 → suf.length < k →
    laws_eqStoredS.l0 k (pre ++ suf) (pre ++ suf) (pre.length : Int) = some true := by
  induction suf with
  | nil =>
    intro pre k hb hk
    obtain ⟨k, rfl⟩ := succ_of hk
    rw [laws_eqStoredS.l0, if_neg (nil_nlt pre)]
  | cons x suf ih =>
    intro pre k hb hk
    obtain ⟨k, rfl⟩ := succ_of hk
    have hp : pre.length ≤ 1048576 := by simp at hb; omega
    have h := ih (pre ++ [x]) k (by simpa using hb) (by simpa using hk)
    rw [laws_eqStoredS.l0, if_pos (mid_lt _ _ _), if_pos (len_nn _), if_pos (mid_lt _ _ _), rd83_mid, wrap_nat (by omega), snoc_len pre x, snoc_eq pre x suf, h]
    simp [laws_eqStored.f]
theorem laws_eqStoredS_e {k : Nat} {l : List S83} (hk : Big k) (hl : Ok l) : laws_eqStoredS.f k l l = some true := by
  have hl' := ok_out hl
  unfold laws_eqStoredS.f
  rw [if_pos rfl]
  simpa using laws_eqStoredS_l l [] k (by simpa using hl') (big_pred hk _ (by omega))

theorem FnExactEqualStores : ∀ (l0 : List (S85)) (l1 : List (S85)), l0.length ≤ maxLen → (∀ x ∈ l0, (Lit.int .i64 x.f0).wf = true ∧ (Lit.int .i64 x.f1).wf = true ∧ (Lit.int .i64 x.f2).wf = true ∧ (Lit.int .i64 x.f3).wf = true) → l1.length ≤ maxLen → (∀ x ∈ l1, (Lit.int .i64 x.f0).wf = true ∧ (Lit.int .i64 x.f1).wf = true ∧ (Lit.int .i64 x.f2).wf = true ∧ (Lit.int .i64 x.f3).wf = true) → ∃ k, laws_FnExactEqualStores.f k l0 l1 = some true := by
  intro l0 l1 hm0 _ hm1 _
  by_cases hn0 : (1048576 : Int) < l0.length
  · refine ⟨0, ?_⟩
    unfold laws_FnExactEqualStores.f
    rw [laws_szStoredS_no (by omega) (by omega) hm0 hn0]
    rfl
  by_cases hn1 : (1048576 : Int) - l0.length < l1.length
  · refine ⟨0, ?_⟩
    unfold laws_FnExactEqualStores.f
    rw [laws_szStoredS_yes (by omega) (by omega) (by omega), Option.bind_some, if_neg (by omega), laws_szStoredS_no (by omega) (by omega) hm1 hn1]
    rfl
  obtain ⟨k, hk⟩ := big_some
  have hk0 := big_succ hk
  have hl0 : Ok l0 := by unfold Ok; omega
  have hl1 : Ok l1 := by unfold Ok; omega
  have hT0 := laws_toStoredS_e hk0 hl0
  have hE0 := laws_eqStoredS_e hk0 (ok_map (f := cv_Stored) hl0)
  have hT1 := laws_toStoredS_e hk0 hl1
  have hE1 := laws_eqStoredS_e hk0 (ok_map (f := cv_Stored) hl1)
  have hP := spec_EqualStores_e (m := l1.map cv_Stored) hk0 (ok_map (f := cv_Stored) hl0)
  have hI := impl_EqualStores_e (m := l1.map cv_Stored) hk0 (ok_map (f := cv_Stored) hl0)
  have hT0' := laws_toStoredS_e hk hl0
  have hE0' := laws_eqStoredS_e hk (ok_map (f := cv_Stored) hl0)
  have hT1' := laws_toStoredS_e hk hl1
  have hE1' := laws_eqStoredS_e hk (ok_map (f := cv_Stored) hl1)
  have hP' := spec_EqualStores_e (m := l1.map cv_Stored) hk (ok_map (f := cv_Stored) hl0)
  have hI' := impl_EqualStores_e (m := l1.map cv_Stored) hk (ok_map (f := cv_Stored) hl0)
  refine ⟨k + 1, ?_⟩
  unfold laws_FnExactEqualStores.f
  rw [laws_szStoredS_yes (by omega) (by omega) (by omega), Option.bind_some, if_neg (by omega), laws_szStoredS_yes (by omega) (by omega) (by omega), Option.bind_some, if_neg (by omega)]
  simp only [hT0, hE0, hT1, hE1, hP, hI, hT0', hE0', hT1', hE1', hP', hI', Option.bind_some, if_true, bne_self_eq_false, Bool.false_eq_true, if_false, Bool.not_true, Bool.not_false]
end Go.Proofs.Ytlkjdlimahhmjaa.Pure
