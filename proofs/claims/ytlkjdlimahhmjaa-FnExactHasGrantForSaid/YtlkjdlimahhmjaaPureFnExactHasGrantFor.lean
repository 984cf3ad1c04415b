/- The law FnExactHasGrantFor as a statement over numbers and lists, with its proof; no conditions but the ranges that the values' types and the slices' lengths have. -/
import Derived.Test.YtlkjdlimahhmjaaPFnExactHasGrantForx3
namespace Go.Proofs.Ytlkjdlimahhmjaa.Pure
open Go.RowKit Go.Proofs.Ytlkjdlimahhmjaa.PFnExactHasGrantFor Go.Proofs.YtlkjdlimahhmjaaW.PrintWords Go.Proofs.YtlkjdlimahhmjaaW.PrintLast Go.Proofs.YtlkjdlimahhmjaaW.PrintMore
set_option linter.unusedVariables false
set_option linter.unusedSimpArgs false
/-! ### numbers, lists, rounds -/
theorem wf64 {n : Int} (h : (Lit.int .i64 n).wf = true) : -9223372036854775808 ≤ n ∧ n ≤ 9223372036854775807 := by
  simp [Lit.wf, IntKind.min, IntKind.max, IntKind.bits, IntKind.signed] at h
  omega
theorem wrap_id {n : Int} (h : -9223372036854775808 ≤ n ∧ n ≤ 9223372036854775807) : wrap64 n = n := by
  unfold wrap64
  omega
theorem wrap_nat {n : Nat} (h : n ≤ 1000000000000) : wrap64 ((n : Int) + 1) = ((n + 1 : Nat) : Int) := by
  unfold wrap64
  omega
theorem succ_of {m k : Nat} (h : m < k) : ∃ q, k = q + 1 := ⟨k - 1, by omega⟩
theorem ite_t {p : Prop} [Decidable p] {α : Type} {a b : α} (h : p) : (if p then a else b) = a := if_pos h
theorem ite_f {p : Prop} [Decidable p] {α : Type} {a b : α} (h : ¬ p) : (if p then a else b) = b := if_neg h
theorem bind_of {α β : Type} {x : Option α} {a : α} {f : α → Option β} {r : Option β} (h : x = some a) (h2 : f a = r) : x.bind f = r := by rw [h]; exact h2
theorem getD_mid {α : Type} (pre : List α) (x : α) (suf : List α) (z : α) : (pre ++ x :: suf).getD ((pre.length : Int)).toNat z = x := by
  simp
theorem rd_mid (pre : List Int) (x : Int) (suf : List Int) : rd (pre ++ x :: suf) (pre.length : Int) = x := by
  simp [rd]
theorem set_mid {α : Type} (pre : List α) (x y : α) (suf : List α) : (pre ++ x :: suf).set ((pre.length : Int)).toNat y = pre ++ y :: suf := by
  simp
theorem mid_lt {α : Type} (pre : List α) (x : α) (suf : List α) : (pre.length : Int) < ((pre ++ x :: suf).length : Int) := by
  simp; omega
theorem mid_lt' {α : Type} (pre : List α) (x : α) (suf : List α) (n : Nat) (h : pre.length = n) : (n : Int) < ((pre ++ x :: suf).length : Int) := by
  simp; omega
theorem nil_nlt {α : Type} (pre : List α) : ¬ ((pre.length : Int) < ((pre ++ []).length : Int)) := by simp
theorem len_nn (n : Nat) : (0 : Int) ≤ (n : Int) := by omega
theorem snoc_eq {α : Type} (pre : List α) (x : α) (suf : List α) : pre ++ x :: suf = (pre ++ [x]) ++ suf := by simp
theorem snoc_len {α : Type} (pre : List α) (x : α) : ((pre.length + 1 : Nat) : Int) = ((pre ++ [x]).length : Int) := by simp
def inR (n a b : Int) : Bool := decide (a ≤ n ∧ n ≤ b)
theorem inR_true {n a b : Int} : inR n a b = true ↔ a ≤ n ∧ n ≤ b := by simp [inR]
theorem inR_false {n a b : Int} : inR n a b = false ↔ ¬ (a ≤ n ∧ n ≤ b) := by simp [inR]
def Big (k : Nat) : Prop := 9900000 ≤ k
theorem big_out {k : Nat} (h : Big k) : 9900000 ≤ k := h
theorem big_succ {k : Nat} (h : Big k) : Big (k + 1) := by unfold Big at *; omega
theorem big_some : ∃ K : Nat, Big K := ⟨9900000, Nat.le_refl _⟩
theorem big_pred {k : Nat} (h : Big k) (n : Nat) (hn : n ≤ 1048577) : n < k := by unfold Big at h; omega
def Ok {α : Type} (l : List α) : Prop := l.length ≤ 1048576
theorem ok_out {α : Type} {l : List α} (h : Ok l) : l.length ≤ 1048576 := h
theorem ok_map {α β : Type} {f : α → β} {l : List α} (h : Ok l) : Ok (l.map f) := by unfold Ok at *; simpa using h
theorem ok_filter {α : Type} {f : α → Bool} {l : List α} (h : Ok l) : Ok (l.filter f) := by unfold Ok at *; exact Nat.le_trans (List.length_filter_le _ _) h
theorem ok_small {α : Type} {l : List α} (n : Nat) (h : l.length ≤ n) (hn : n ≤ 1048576) : Ok l := by unfold Ok; omega

def Lv (n k : Nat) : Prop := n * 1100000 ≤ k
theorem lv_out {n k : Nat} (h : Lv n k) : n * 1100000 ≤ k := h
theorem lv {n k : Nat} (h : Big k) (hn : n ≤ 9 := by decide) : Lv n k := by unfold Big at h; unfold Lv; omega
theorem lv_succ {n k : Nat} (h : Lv n k) : Lv n (k + 1) := by unfold Lv at *; omega
theorem lv_pred {n k : Nat} (h : Lv (n + 1) k) (m : Nat) (hm : m ≤ 1048580) : m < k := by unfold Lv at h; omega
theorem lv_mono {n m k : Nat} (h : Lv n k) (hm : m ≤ n := by decide) : Lv m k := Nat.le_trans (Nat.mul_le_mul_right _ hm) h
theorem spec_l1In_e (n a b : Int) : spec_l1In.f n a b = some (inR n a b) := by
  unfold spec_l1In.f inR
  by_cases h : n ≥ a
  · rw [if_pos h]; simp [show a ≤ n from h]
  · rw [if_neg h]; simp [show ¬ a ≤ n from h]
def isPattern (a b : Int) : Bool := inR a 0 9 && inR b (-1) 9
def isGrant (e a b kd f u : Int) : Bool := inR e 1 5 && (isPattern a b && (inR kd 1 4 && (decide (0 ≤ f) && (decide (f ≤ u) && decide (u ≤ 10000)))))
theorem spec_IsPattern_e (a b : Int) : spec_IsPattern.f a b = some (isPattern a b) := by
  unfold spec_IsPattern.f isPattern
  simp only [spec_l1In_e, Option.bind_some]
  cases inR a 0 9 <;> simp
theorem spec_IsGrant_e (e a b kd f u : Int) (cl : Bool) : spec_IsGrant.f e a b kd f u cl = some (isGrant e a b kd f u) := by
  unfold spec_IsGrant.f isGrant
  simp only [spec_l1In_e, spec_IsPattern_e, Option.bind_some, ge_iff_le]
  cases inR e 1 5 <;> cases isPattern a b <;> cases inR kd 1 4 <;> by_cases h1 : 0 ≤ f <;> by_cases h2 : f ≤ u <;> simp [h1, h2]
def hasGrant : List S110 → Int → Int → Bool
  | [], _, _ => false
  | x :: xs, a, b => (isGrant x.f0 x.f1.f0 x.f1.f1 x.f2 x.f3 x.f4 && (x.f2 == a && (x.f1.f0 == 0 || x.f1.f0 == b))) || hasGrant xs a b
theorem rd110_mid (pre : List S110) (x : S110) (suf : List S110) : rd_T110 (pre ++ x :: suf) (pre.length : Int) = x := getD_mid pre x suf z110
theorem spec_HasGrantFor_l (a b : Int) (suf : List S110) : ∀ (pre : List S110) (k : Nat) , (pre ++ suf).length ≤ 1048576 → suf.length < k →
    spec_HasGrantFor.l0 k (pre ++ suf) a b (pre.length : Int) = some (hasGrant suf a b) := by
  induction suf with
  | nil =>
    intro pre k  hb hk
    obtain ⟨k, rfl⟩ := succ_of hk
    rw [spec_HasGrantFor.l0, if_neg (nil_nlt pre)]
    rfl
  | cons x suf ih =>
    intro pre k  hb hk
    obtain ⟨k, rfl⟩ := succ_of hk
    have hp : pre.length + suf.length < 1048576 := by simp at hb; omega
    have hk1 : suf.length < k := by simpa using hk
    have hb1 : (pre ++ [x] ++ suf).length ≤ 1048576 := by simpa using hb
    have ih1 := ih (pre ++ [x]) k
    rw [spec_HasGrantFor.l0, if_pos (mid_lt _ _ _), if_pos (len_nn _)]
    try simp only [rd110_mid, Option.bind_some]
    rw [wrap_nat (by omega), snoc_len pre x, snoc_eq pre x suf]
    rw [spec_IsGrant_e, ih1 hb1 hk1, hasGrant]
    cases isGrant x.f0 x.f1.f0 x.f1.f1 x.f2 x.f3 x.f4 <;> by_cases h1 : x.f2 = a <;> by_cases h2 : x.f1.f0 = 0 <;> by_cases h3 : x.f1.f0 = b <;> simp [h1, h2, h3]
theorem spec_HasGrantFor_e {k : Nat} {l : List S110} {a b : Int} (hk : Lv 1 k) (hl : Ok l) : spec_HasGrantFor.f k l a b = some (hasGrant l a b) := by
  have hl' := ok_out hl
  unfold spec_HasGrantFor.f
  simpa using spec_HasGrantFor_l a b l [] k (by simpa using hl') (lv_pred hk _ (by omega))
theorem impl_InRange_e (n a b : Int) : impl_InRange.f n a b = some (inR n a b) := by
  unfold impl_InRange.f inR
  by_cases h : a ≤ n
  · rw [if_pos h]; simp [h]
  · rw [if_neg h]; simp [h]
theorem impl_IsPattern_e (a b : Int) : impl_IsPattern.f a b = some (isPattern a b) := by
  unfold impl_IsPattern.f isPattern
  simp only [impl_InRange_e, Option.bind_some]
  cases inR a 0 9 <;> simp
theorem impl_IsGrant_e (e a b kd f u : Int) (cl : Bool) : impl_IsGrant.f e a b kd f u cl = some (isGrant e a b kd f u) := by
  unfold impl_IsGrant.f isGrant
  simp only [impl_InRange_e, impl_IsPattern_e, Option.bind_some, ge_iff_le]
  cases inR e 1 5 <;> cases isPattern a b <;> cases inR kd 1 4 <;> by_cases h1 : 0 ≤ f <;> by_cases h2 : f ≤ u <;> simp [h1, h2]
theorem impl_HasGrantFor_l (a b : Int) (suf : List S110) : ∀ (pre : List S110) (k : Nat) , (pre ++ suf).length ≤ 1048576 → suf.length < k →
    impl_HasGrantFor.l0 k a b (pre ++ suf) ((pre ++ suf).length : Int) (pre.length : Int) = some (hasGrant suf a b) := by
  induction suf with
  | nil =>
    intro pre k  hb hk
    obtain ⟨k, rfl⟩ := succ_of hk
    rw [impl_HasGrantFor.l0, if_neg (nil_nlt pre)]
    rfl
  | cons x suf ih =>
    intro pre k  hb hk
    obtain ⟨k, rfl⟩ := succ_of hk
    have hp : pre.length + suf.length < 1048576 := by simp at hb; omega
    have hk1 : suf.length < k := by simpa using hk
    have hb1 : (pre ++ [x] ++ suf).length ≤ 1048576 := by simpa using hb
    have ih1 := ih (pre ++ [x]) k
    rw [impl_HasGrantFor.l0, if_pos (mid_lt _ _ _), if_pos (len_nn _), if_pos (mid_lt _ _ _)]
    try simp only [rd110_mid, Option.bind_some]
    rw [wrap_nat (by omega), snoc_len pre x, snoc_eq pre x suf]
    rw [impl_IsGrant_e, ih1 hb1 hk1, hasGrant]
    cases isGrant x.f0 x.f1.f0 x.f1.f1 x.f2 x.f3 x.f4 <;> by_cases h1 : x.f2 = a <;> by_cases h2 : x.f1.f0 = 0 <;> by_cases h3 : x.f1.f0 = b <;> simp [h1, h2, h3]
theorem impl_HasGrantFor_e {k : Nat} {l : List S110} {a b : Int} (hk : Lv 1 k) (hl : Ok l) : impl_HasGrantFor.f k l a b = some (hasGrant l a b) := by
  have hl' := ok_out hl
  unfold impl_HasGrantFor.f
  simpa using impl_HasGrantFor_l a b l [] k (by simpa using hl') (lv_pred hk _ (by omega))
theorem laws_szGrantS_no {l : List S114} {a : Int} (h0 : 0 ≤ a) (h1 : a ≤ 1048576) (h : l.length ≤ maxLen) (hn : a < l.length) : laws_szGrantS.f l a = some (-1) := by
  unfold maxLen at h
  unfold laws_szGrantS.f
  rw [wrap_id (by omega), if_pos (by omega)]
theorem laws_szGrantS_yes {l : List S114} {a : Int} (h0 : 0 ≤ a) (h1 : a ≤ 1048576) (hn : l.length ≤ a) : laws_szGrantS.f l a = some (a - l.length) := by
  unfold laws_szGrantS.f
  rw [wrap_id (by omega), if_neg (by omega)]
theorem rd114_mid (pre : List S114) (x : S114) (suf : List S114) : rd_T114 (pre ++ x :: suf) (pre.length : Int) = x := getD_mid pre x suf z114
def cv_Grant (x : S114) : S110 := (⟨x.f0, (⟨x.f1.f0, x.f1.f1⟩ : S108), x.f2, x.f3, x.f4, x.f5⟩ : S110)
theorem laws_toGrantS_l (suf : List S114) : ∀ (pre : List S114) (k : Nat), (pre ++ suf).length ≤ 1048576 → suf.length < k →
    laws_toGrantS.l0 k (pre ++ suf) (pre.map cv_Grant ++ List.replicate suf.length z110) (pre.length : Int) = some ((pre ++ suf).map cv_Grant) := by
  induction suf with
  | nil =>
    intro pre k hb hk
    obtain ⟨k, rfl⟩ := succ_of hk
    rw [laws_toGrantS.l0, if_neg (nil_nlt pre)]
    simp
  | cons x suf ih =>
    intro pre k hb hk
    obtain ⟨k, rfl⟩ := succ_of hk
    have hp : pre.length ≤ 1048576 := by simp at hb; omega
    have hm : (pre.length : Int) = ((pre.map cv_Grant).length : Int) := by simp
    have h := ih (pre ++ [x]) k (by simpa using hb) (by simpa using hk)
    rw [laws_toGrantS.l0, if_pos (mid_lt _ _ _), if_pos (len_nn _), rd114_mid]
    simp only [laws_toGrant.f, laws_toPattern.f, Option.bind_some]
    rw [if_pos (by simp; omega), List.length_cons, List.replicate_succ, hm, set_mid, wrap_nat (by simpa using Nat.le_trans hp (by omega)), snoc_eq pre x suf]
    rw [snoc_eq (pre.map cv_Grant)]
    simp only [List.map_append, List.map_cons, List.map_nil, List.length_append, List.length_map, List.length_cons, List.length_nil, Nat.zero_add] at h ⊢
    exact h
theorem laws_toGrantS_e {k : Nat} {l : List S114} (hk : Big k) (hl : Ok l) : laws_toGrantS.f k l = some (l.map cv_Grant) := by
  have hl' := ok_out hl
  unfold laws_toGrantS.f
  rw [if_pos (len_nn _), if_pos (by omega)]
  simpa using laws_toGrantS_l l [] k (by simpa using hl') (big_pred hk _ (by omega))
theorem laws_eqGrantS_l (suf : List S110) : ∀ (pre : List S110) (k : Nat), (pre ++ suf).length ≤ 1048576 → suf.length < k →
    laws_eqGrantS.l0 k (pre ++ suf) (pre ++ suf) (pre.length : Int) = some true := by
  induction suf with
  | nil =>
    intro pre k hb hk
    obtain ⟨k, rfl⟩ := succ_of hk
    rw [laws_eqGrantS.l0, if_neg (nil_nlt pre)]
  | cons x suf ih =>
    intro pre k hb hk
    obtain ⟨k, rfl⟩ := succ_of hk
    have hp : pre.length ≤ 1048576 := by simp at hb; omega
    have h := ih (pre ++ [x]) k (by simpa using hb) (by simpa using hk)
    rw [laws_eqGrantS.l0, if_pos (mid_lt _ _ _), if_pos (len_nn _), if_pos (mid_lt _ _ _), rd110_mid, wrap_nat (by omega), snoc_len pre x, snoc_eq pre x suf, h]
    simp [laws_eqPattern.f, laws_eqGrant.f]
theorem laws_eqGrantS_e {k : Nat} {l : List S110} (hk : Big k) (hl : Ok l) : laws_eqGrantS.f k l l = some true := by
  have hl' := ok_out hl
  unfold laws_eqGrantS.f
  rw [if_pos rfl]
  simpa using laws_eqGrantS_l l [] k (by simpa using hl') (big_pred hk _ (by omega))

theorem FnExactHasGrantFor : ∀ (l0 : List (S114)) (a1 : Int) (a2 : Int), l0.length ≤ maxLen → (∀ x ∈ l0, (Lit.int .i64 x.f0).wf = true ∧ (Lit.int .i64 x.f1.f0).wf = true ∧ (Lit.int .i64 x.f1.f1).wf = true ∧ (Lit.int .i64 x.f2).wf = true ∧ (Lit.int .i64 x.f3).wf = true ∧ (Lit.int .i64 x.f4).wf = true) → (Lit.int .i64 a1).wf = true → (Lit.int .i64 a2).wf = true → ∃ k, laws_FnExactHasGrantFor.f k l0 a1 a2 = some true := by
  intro l0 a1 a2 hm0 _ _ _
  by_cases hn0 : (1048576 : Int) < l0.length
  · refine ⟨0, ?_⟩
    unfold laws_FnExactHasGrantFor.f
    rw [laws_szGrantS_no (by omega) (by omega) hm0 hn0]
    rfl
  obtain ⟨k, hk⟩ := big_some
  have hk0 := big_succ hk
  have hl0 : Ok l0 := by unfold Ok; omega
  have hT0 := laws_toGrantS_e hk0 hl0
  have hE0 := laws_eqGrantS_e hk0 (ok_map (f := cv_Grant) hl0)
  have hP := spec_HasGrantFor_e (a := a1) (b := a2) (lv hk0) (ok_map (f := cv_Grant) hl0)
  have hI := impl_HasGrantFor_e (a := a1) (b := a2) (lv hk0) (ok_map (f := cv_Grant) hl0)
  have hT0' := laws_toGrantS_e hk hl0
  have hE0' := laws_eqGrantS_e hk (ok_map (f := cv_Grant) hl0)
  have hP' := spec_HasGrantFor_e (a := a1) (b := a2) (lv hk) (ok_map (f := cv_Grant) hl0)
  have hI' := impl_HasGrantFor_e (a := a1) (b := a2) (lv hk) (ok_map (f := cv_Grant) hl0)
  refine ⟨k + 1, ?_⟩
  unfold laws_FnExactHasGrantFor.f
  rw [laws_szGrantS_yes (by omega) (by omega) (by omega), Option.bind_some, if_neg (by omega)]
  simp only [hT0, hE0, hP, hI, hT0', hE0', hP', hI', Option.bind_some, if_true, bne_self_eq_false, Bool.false_eq_true, if_false, Bool.not_true, Bool.not_false]
end Go.Proofs.Ytlkjdlimahhmjaa.Pure
