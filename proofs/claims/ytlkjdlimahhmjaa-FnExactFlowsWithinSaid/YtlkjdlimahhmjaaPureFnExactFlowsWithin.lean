/- The law FnExactFlowsWithin as a statement over numbers and lists, with its proof; no conditions but the ranges that the values' types and the slices' lengths have. -/
import Derived.Test.YtlkjdlimahhmjaaPFnExactFlowsWithinx3
namespace Go.Proofs.Ytlkjdlimahhmjaa.Pure
open Go.RowKit Go.Proofs.Ytlkjdlimahhmjaa.PFnExactFlowsWithin Go.Proofs.YtlkjdlimahhmjaaW.PrintWords Go.Proofs.YtlkjdlimahhmjaaW.PrintLast Go.Proofs.YtlkjdlimahhmjaaW.PrintMore
set_option linter.unusedVariables false
set_option linter.unusedSimpArgs false
/-! ### numbers, lists, rounds -/
theorem wf64 {n : Int} (h : (Lit.int .i64 n).wf = true) : -9223372036854775808 ≤ n ∧ n ≤ 9223372036854775807 := by
  simp [Lit.wf, IntKind.min, IntKind.max, IntKind.bits, IntKind.signed] at h
  omega
theorem wrap_id {n : Int} (h : -9223372036854775808 ≤ n ∧ n ≤ 9223372036854775807) : wrap64 n = n := by
  unfold wrap64
  omega
theorem wrap_nat {n : Nat} (h : n ≤ 1000000000000) : wrap64 ((n : Int) + 1) = ((n + 1 : Nat) : Int) := by
  unfold wrap64
  omega
theorem succ_of {m k : Nat} (h : m < k) : ∃ q, k = q + 1 := ⟨k - 1, by omega⟩
theorem ite_t {p : Prop} [Decidable p] {α : Type} {a b : α} (h : p) : (if p then a else b) = a := if_pos h
theorem ite_f {p : Prop} [Decidable p] {α : Type} {a b : α} (h : ¬ p) : (if p then a else b) = b := if_neg h
theorem bind_of {α β : Type} {x : Option α} {a : α} {f : α → Option β} {r : Option β} (h : x = some a) (h2 : f a = r) : x.bind f = r := by rw [h]; exact h2
theorem getD_mid {α : Type} (pre : List α) (x : α) (suf : List α) (z : α) : (pre ++ x :: suf).getD ((pre.length : Int)).toNat z = x := by
  simp
theorem rd_mid (pre : List Int) (x : Int) (suf : List Int) : rd (pre ++ x :: suf) (pre.length : Int) = x := by
  simp [rd]
theorem set_mid {α : Type} (pre : List α) (x y : α) (suf : List α) : (pre ++ x :: suf).set ((pre.length : Int)).toNat y = pre ++ y :: suf := by
  simp
theorem mid_lt {α : Type} (pre : List α) (x : α) (suf : List α) : (pre.length : Int) < ((pre ++ x :: suf).length : Int) := by
  simp; omega
theorem mid_lt' {α : Type} (pre : List α) (x : α) (suf : List α) (n : Nat) (h : pre.length = n) : (n : Int) < ((pre ++ x :: suf).length : Int) := by
  simp; omega
theorem nil_nlt {α : Type} (pre : List α) : ¬ ((pre.length : Int) < ((pre ++ []).length : Int)) := by simp
theorem len_nn (n : Nat) : (0 : Int) ≤ (n : Int) := by omega
theorem snoc_eq {α : Type} (pre : List α) (x : α) (suf : List α) : pre ++ x :: suf = (pre ++ [x]) ++ suf := by simp
theorem snoc_len {α : Type} (pre : List α) (x : α) : ((pre.length + 1 : Nat) : Int) = ((pre ++ [x]).length : Int) := by simp
def inR (n a b : Int) : Bool := decide (a ≤ n ∧ n ≤ b)
theorem inR_true {n a b : Int} : inR n a b = true ↔ a ≤ n ∧ n ≤ b := by simp [inR]
theorem inR_false {n a b : Int} : inR n a b = false ↔ ¬ (a ≤ n ∧ n ≤ b) := by simp [inR]
def Big (k : Nat) : Prop := 9900000 ≤ k
theorem big_out {k : Nat} (h : Big k) : 9900000 ≤ k := h
theorem big_succ {k : Nat} (h : Big k) : Big (k + 1) := by unfold Big at *; omega
theorem big_some : ∃ K : Nat, Big K := ⟨9900000, Nat.le_refl _⟩
theorem big_pred {k : Nat} (h : Big k) (n : Nat) (hn : n ≤ 1048577) : n < k := by unfold Big at h; omega
def Ok {α : Type} (l : List α) : Prop := l.length ≤ 1048576
theorem ok_out {α : Type} {l : List α} (h : Ok l) : l.length ≤ 1048576 := h
theorem ok_map {α β : Type} {f : α → β} {l : List α} (h : Ok l) : Ok (l.map f) := by unfold Ok at *; simpa using h
theorem ok_filter {α : Type} {f : α → Bool} {l : List α} (h : Ok l) : Ok (l.filter f) := by unfold Ok at *; exact Nat.le_trans (List.length_filter_le _ _) h
theorem ok_small {α : Type} {l : List α} (n : Nat) (h : l.length ≤ n) (hn : n ≤ 1048576) : Ok l := by unfold Ok; omega

def Lv (n k : Nat) : Prop := n * 1100000 ≤ k
theorem lv_out {n k : Nat} (h : Lv n k) : n * 1100000 ≤ k := h
theorem lv {n k : Nat} (h : Big k) (hn : n ≤ 9 := by decide) : Lv n k := by unfold Big at h; unfold Lv; omega
theorem lv_succ {n k : Nat} (h : Lv n k) : Lv n (k + 1) := by unfold Lv at *; omega
theorem lv_pred {n k : Nat} (h : Lv (n + 1) k) (m : Nat) (hm : m ≤ 1048580) : m < k := by unfold Lv at h; omega
theorem lv_mono {n m k : Nat} (h : Lv n k) (hm : m ≤ n := by decide) : Lv m k := Nat.le_trans (Nat.mul_le_mul_right _ hm) h
def hasFlow (l : List S95) (a b c : Int) : Bool := l.any fun x => x.f0 == a && (x.f1 == b && x.f2 == c)
theorem rd95_mid (pre : List S95) (x : S95) (suf : List S95) : rd_T95 (pre ++ x :: suf) (pre.length : Int) = x := getD_mid pre x suf z95
theorem spec_l20Has_l (a b c : Int) (suf : List S95) : ∀ (pre : List S95) (k : Nat) , (pre ++ suf).length ≤ 1048576 → suf.length < k →
    spec_l20Has.l0 k (pre ++ suf) (pre.length : Int) a b c = some (hasFlow suf a b c) := by
  induction suf with
  | nil =>
    intro pre k  hb hk
    obtain ⟨k, rfl⟩ := succ_of hk
    rw [spec_l20Has.l0, if_neg (nil_nlt pre)]
    simp [hasFlow]
  | cons x suf ih =>
    intro pre k  hb hk
    obtain ⟨k, rfl⟩ := succ_of hk
    have hp : pre.length + suf.length < 1048576 := by simp at hb; omega
    have hk1 : suf.length < k := by simpa using hk
    have hb1 : (pre ++ [x] ++ suf).length ≤ 1048576 := by simpa using hb
    have ih1 := ih (pre ++ [x]) k
    rw [spec_l20Has.l0, if_pos (mid_lt _ _ _), if_pos (len_nn _)]
    try simp only [rd95_mid, Option.bind_some]
    rw [wrap_nat (by omega), snoc_len pre x, snoc_eq pre x suf]
    rw [ih1 hb1 hk1, show hasFlow (x :: suf) a b c = (x.f0 == a && (x.f1 == b && x.f2 == c) || hasFlow suf a b c) from rfl]
    cases (x.f0 == a && (x.f1 == b && x.f2 == c)) <;> simp
theorem spec_l20Has_e {k : Nat} {l : List S95} {a b c : Int} (hk : Lv 1 k) (hl : Ok l) : spec_l20Has.f k l a b c = some (hasFlow l a b c) := by
  have hl' := ok_out hl
  unfold spec_l20Has.f
  simpa using spec_l20Has_l a b c l [] k (by simpa using hl') (lv_pred hk _ (by omega))
theorem spec_l1In_e (n a b : Int) : spec_l1In.f n a b = some (inR n a b) := by
  unfold spec_l1In.f inR
  by_cases h : n ≥ a
  · rw [if_pos h]; simp [show a ≤ n from h]
  · rw [if_neg h]; simp [show ¬ a ≤ n from h]
def isFlow (a b c : Int) : Bool := inR a 1 5 && (inR b 1 9 && inR c 1 9)
theorem spec_IsFlow_e (a b c : Int) : spec_IsFlow.f a b c = some (isFlow a b c) := by
  unfold spec_IsFlow.f isFlow
  simp only [spec_l1In_e, Option.bind_some]
  cases inR a 1 5 <;> cases inR b 1 9 <;> simp
def withinFlow : List S95 → List S95 → Bool
  | [], _ => true
  | x :: xs, m => isFlow x.f0 x.f1 x.f2 && (hasFlow m x.f0 x.f1 x.f2 && withinFlow xs m)
theorem spec_FlowsWithin_l (m : List S95) (hm : Ok m) (suf : List S95) : ∀ (pre : List S95) (k : Nat) , (pre ++ suf).length ≤ 1048576 → suf.length + 1100000 < k →
    spec_FlowsWithin.l0 k (pre ++ suf) m (pre.length : Int) = some (withinFlow suf m) := by
  induction suf with
  | nil =>
    intro pre k  hb hk
    obtain ⟨k, rfl⟩ := succ_of hk
    rw [spec_FlowsWithin.l0, if_neg (nil_nlt pre)]
    rfl
  | cons x suf ih =>
    intro pre k  hb hk
    obtain ⟨k, rfl⟩ := succ_of hk
    have hp : pre.length + suf.length < 1048576 := by simp at hb; omega
    have hk1 : suf.length + 1100000 < k := by simp only [List.length_cons] at hk; omega
    have hb1 : (pre ++ [x] ++ suf).length ≤ 1048576 := by simpa using hb
    have ih1 := ih (pre ++ [x]) k
    rw [spec_FlowsWithin.l0, if_pos (mid_lt _ _ _), if_pos (len_nn _)]
    try simp only [rd95_mid, Option.bind_some]
    rw [wrap_nat (by omega), snoc_len pre x, snoc_eq pre x suf]
    rw [spec_IsFlow_e, spec_l20Has_e (show Lv 1 k by unfold Lv; omega) hm, ih1 hb1 hk1, withinFlow]
    cases isFlow x.f0 x.f1 x.f2 <;> cases hasFlow m x.f0 x.f1 x.f2 <;> simp
theorem spec_FlowsWithin_e {k : Nat} {l m : List S95} (hk : Lv 2 k) (hl : Ok l) (hm : Ok m) : spec_FlowsWithin.f k l m = some (withinFlow l m) := by
  have hl' := ok_out hl
  have hk' := lv_out hk
  unfold spec_FlowsWithin.f
  simpa using spec_FlowsWithin_l m hm l [] k (by simpa using hl') (by omega)
def idxF {α : Type} (p : α → Bool) : Nat → List α → Int
  | _, [] => -1
  | n, x :: xs => if p x = true then (n : Int) else idxF p (n + 1) xs
theorem idxF_any {α : Type} (p : α → Bool) : ∀ (l : List α) (n : Nat), decide (idxF p n l ≥ 0) = l.any p
  | [], n => by simp [idxF]
  | x :: xs, n => by
    rw [idxF, List.any_cons]
    cases hx : p x with
    | true => simp
    | false => simp [idxF_any p xs (n + 1)]
theorem slIdx_Flow_l (a b c : Int) (suf : List S95) : ∀ (pre : List S95) (k : Nat) , (pre ++ suf).length ≤ 1048576 → suf.length < k →
    impl_Flow_94.l0 k (pre ++ suf) ((pre ++ suf).length : Int) (pre.length : Int) a b c = some (idxF (fun x => a == x.f0 && (b == x.f1 && c == x.f2)) pre.length suf) := by
  induction suf with
  | nil =>
    intro pre k  hb hk
    obtain ⟨k, rfl⟩ := succ_of hk
    rw [impl_Flow_94.l0, if_neg (nil_nlt pre)]
    rfl
  | cons x suf ih =>
    intro pre k  hb hk
    obtain ⟨k, rfl⟩ := succ_of hk
    have hp : pre.length + suf.length < 1048576 := by simp at hb; omega
    have hk1 : suf.length < k := by simpa using hk
    have hb1 : (pre ++ [x] ++ suf).length ≤ 1048576 := by simpa using hb
    have ih1 := ih (pre ++ [x]) k
    rw [impl_Flow_94.l0, if_pos (mid_lt _ _ _), if_pos (len_nn _), if_pos (mid_lt _ _ _)]
    try simp only [rd95_mid, Option.bind_some]
    rw [wrap_nat (by omega), snoc_len pre x, snoc_eq pre x suf]
    rw [ih1 hb1 hk1, idxF]
    cases (a == x.f0 && (b == x.f1 && c == x.f2)) <;> simp
theorem slHas_Flow_e {k : Nat} {l : List S95} {a b c : Int} (hk : Lv 1 k) (hl : Ok l) : impl_Flow_80.f k l a b c = some (hasFlow l a b c) := by
  have hl' := ok_out hl
  unfold impl_Flow_80.f impl_Flow_94.f hasFlow
  have h := slIdx_Flow_l a b c l [] k (by simpa using hl') (lv_pred hk _ (by omega))
  simp only [List.nil_append, List.length_nil] at h
  rw [show ((0 : Nat) : Int) = 0 from rfl] at h
  rw [h, Option.bind_some, idxF_any]
  congr 1
  congr 1
  funext x
  rw [Bool.beq_comm (a := a), Bool.beq_comm (a := b), Bool.beq_comm (a := c)]
theorem impl_InRange_e (n a b : Int) : impl_InRange.f n a b = some (inR n a b) := by
  unfold impl_InRange.f inR
  by_cases h : a ≤ n
  · rw [if_pos h]; simp [h]
  · rw [if_neg h]; simp [h]
theorem impl_IsFlow_e (a b c : Int) : impl_IsFlow.f a b c = some (isFlow a b c) := by
  unfold impl_IsFlow.f isFlow
  simp only [impl_InRange_e, Option.bind_some]
  cases inR a 1 5 <;> cases inR b 1 9 <;> simp
theorem impl_FlowsWithin_l (m : List S95) (hm : Ok m) (suf : List S95) : ∀ (pre : List S95) (k : Nat) , (pre ++ suf).length ≤ 1048576 → suf.length + 1100000 < k →
    impl_FlowsWithin.l0 k m (pre ++ suf) ((pre ++ suf).length : Int) (pre.length : Int) = some (withinFlow suf m) := by
  induction suf with
  | nil =>
    intro pre k  hb hk
    obtain ⟨k, rfl⟩ := succ_of hk
    rw [impl_FlowsWithin.l0, if_neg (nil_nlt pre)]
    rfl
  | cons x suf ih =>
    intro pre k  hb hk
    obtain ⟨k, rfl⟩ := succ_of hk
    have hp : pre.length + suf.length < 1048576 := by simp at hb; omega
    have hk1 : suf.length + 1100000 < k := by simp only [List.length_cons] at hk; omega
    have hb1 : (pre ++ [x] ++ suf).length ≤ 1048576 := by simpa using hb
    have ih1 := ih (pre ++ [x]) k
    rw [impl_FlowsWithin.l0, if_pos (mid_lt _ _ _), if_pos (len_nn _), if_pos (mid_lt _ _ _)]
    try simp only [rd95_mid, Option.bind_some]
    rw [wrap_nat (by omega), snoc_len pre x, snoc_eq pre x suf]
    rw [impl_IsFlow_e, slHas_Flow_e (show Lv 1 k by unfold Lv; omega) hm, ih1 hb1 hk1, withinFlow]
    cases isFlow x.f0 x.f1 x.f2 <;> cases hasFlow m x.f0 x.f1 x.f2 <;> simp
theorem impl_FlowsWithin_e {k : Nat} {l m : List S95} (hk : Lv 2 k) (hl : Ok l) (hm : Ok m) : impl_FlowsWithin.f k l m = some (withinFlow l m) := by
  have hl' := ok_out hl
  have hk' := lv_out hk
  unfold impl_FlowsWithin.f
  simpa using impl_FlowsWithin_l m hm l [] k (by simpa using hl') (by omega)
theorem laws_szFlowS_no {l : List S98} {a : Int} (h0 : 0 ≤ a) (h1 : a ≤ 1048576) (h : l.length ≤ maxLen) (hn : a < l.length) : laws_szFlowS.f l a = some (-1) := by
  unfold maxLen at h
  unfold laws_szFlowS.f
  rw [wrap_id (by omega), if_pos (by omega)]
theorem laws_szFlowS_yes {l : List S98} {a : Int} (h0 : 0 ≤ a) (h1 : a ≤ 1048576) (hn : l.length ≤ a) : laws_szFlowS.f l a = some (a - l.length) := by
  unfold laws_szFlowS.f
  rw [wrap_id (by omega), if_neg (by omega)]
theorem rd98_mid (pre : List S98) (x : S98) (suf : List S98) : rd_T98 (pre ++ x :: suf) (pre.length : Int) = x := getD_mid pre x suf z98
def cv_Flow (x : S98) : S95 := (⟨x.f0, x.f1, x.f2⟩ : S95)
theorem laws_toFlowS_l (suf : List S98) : ∀ (pre : List S98) (k : Nat), (pre ++ suf).length ≤ 1048576 → suf.length < k →
    laws_toFlowS.l0 k (pre ++ suf) (pre.map cv_Flow ++ List.replicate suf.length z95) (pre.length : Int) = some ((pre ++ suf).map cv_Flow) := by
  induction suf with
  | nil =>
    intro pre k hb hk
    obtain ⟨k, rfl⟩ := succ_of hk
    rw [laws_toFlowS.l0, if_neg (nil_nlt pre)]
    simp
  | cons x suf ih =>
    intro pre k hb hk
    obtain ⟨k, rfl⟩ := succ_of hk
    have hp : pre.length ≤ 1048576 := by simp at hb; omega
    have hm : (pre.length : Int) = ((pre.map cv_Flow).length : Int) := by simp
    have h := ih (pre ++ [x]) k (by simpa using hb) (by simpa using hk)
    rw [laws_toFlowS.l0, if_pos (mid_lt _ _ _), if_pos (len_nn _), rd98_mid]
    simp only [laws_toFlow.f, Option.bind_some]
    rw [if_pos (by simp; omega), List.length_cons, List.replicate_succ, hm, set_mid, wrap_nat (by simpa using Nat.le_trans hp (by omega)), snoc_eq pre x suf]
    rw [snoc_eq (pre.map cv_Flow)]
    simp only [List.map_append, List.map_cons, List.map_nil, List.length_append, List.length_map, List.length_cons, List.length_nil, Nat.zero_add] at h ⊢
    exact h
theorem laws_toFlowS_e {k : Nat} {l : List S98} (hk : Big k) (hl : Ok l) : laws_toFlowS.f k l = some (l.map cv_Flow) := by
  have hl' := ok_out hl
  unfold laws_toFlowS.f
  rw [if_pos (len_nn _), if_pos (by omega)]
  simpa using laws_toFlowS_l l [] k (by simpa using hl') (big_pred hk _ (by omega))
theorem laws_eqFlowS_l (suf : List S95) : ∀ (pre : List S95) (k : Nat), (pre ++ suf).length ≤ 1048576 → suf.length < k →
    laws_eqFlowS.l0 k (pre ++ suf) (pre ++ suf) (pre.length : Int) = some true := by
  induction suf with
  | nil =>
    intro pre k hb hk
    obtain ⟨k, rfl⟩ := succ_of hk
    rw [laws_eqFlowS.l0, if_neg (nil_nlt pre)]
  | cons x suf ih =>
    intro pre k hb hk
    obtain ⟨k, rfl⟩ := succ_of hk
    have hp : pre.length ≤ 1048576 := by simp at hb; omega
    have h := ih (pre ++ [x]) k (by simpa using hb) (by simpa using hk)
    rw [laws_eqFlowS.l0, if_pos (mid_lt _ _ _), if_pos (len_nn _), if_pos (mid_lt _ _ _), rd95_mid, wrap_nat (by omega), snoc_len pre x, snoc_eq pre x suf, h]
    simp [laws_eqFlow.f]
theorem laws_eqFlowS_e {k : Nat} {l : List S95} (hk : Big k) (hl : Ok l) : laws_eqFlowS.f k l l = some true := by
  have hl' := ok_out hl
  unfold laws_eqFlowS.f
  rw [if_pos rfl]
  simpa using laws_eqFlowS_l l [] k (by simpa using hl') (big_pred hk _ (by omega))

theorem FnExactFlowsWithin : ∀ (l0 : List (S98)) (l1 : List (S98)), l0.length ≤ maxLen → (∀ x ∈ l0, (Lit.int .i64 x.f0).wf = true ∧ (Lit.int .i64 x.f1).wf = true ∧ (Lit.int .i64 x.f2).wf = true) → l1.length ≤ maxLen → (∀ x ∈ l1, (Lit.int .i64 x.f0).wf = true ∧ (Lit.int .i64 x.f1).wf = true ∧ (Lit.int .i64 x.f2).wf = true) → ∃ k, laws_FnExactFlowsWithin.f k l0 l1 = some true := by
  intro l0 l1 hm0 _ hm1 _
  by_cases hn0 : (1048576 : Int) < l0.length
  · refine ⟨0, ?_⟩
    unfold laws_FnExactFlowsWithin.f
    rw [laws_szFlowS_no (by omega) (by omega) hm0 hn0]
    rfl
  by_cases hn1 : (1048576 : Int) - l0.length < l1.length
  · refine ⟨0, ?_⟩
    unfold laws_FnExactFlowsWithin.f
    rw [laws_szFlowS_yes (by omega) (by omega) (by omega), Option.bind_some, if_neg (by omega), laws_szFlowS_no (by omega) (by omega) hm1 hn1]
    rfl
  obtain ⟨k, hk⟩ := big_some
  have hk0 := big_succ hk
  have hl0 : Ok l0 := by unfold Ok; omega
  have hl1 : Ok l1 := by unfold Ok; omega
  have hT0 := laws_toFlowS_e hk0 hl0
  have hE0 := laws_eqFlowS_e hk0 (ok_map (f := cv_Flow) hl0)
  have hT1 := laws_toFlowS_e hk0 hl1
  have hE1 := laws_eqFlowS_e hk0 (ok_map (f := cv_Flow) hl1)
  have hP := spec_FlowsWithin_e (lv hk0) (ok_map (f := cv_Flow) hl0) (ok_map (f := cv_Flow) hl1)
  have hI := impl_FlowsWithin_e (lv hk0) (ok_map (f := cv_Flow) hl0) (ok_map (f := cv_Flow) hl1)
  have hT0' := laws_toFlowS_e hk hl0
  have hE0' := laws_eqFlowS_e hk (ok_map (f := cv_Flow) hl0)
  have hT1' := laws_toFlowS_e hk hl1
  have hE1' := laws_eqFlowS_e hk (ok_map (f := cv_Flow) hl1)
  have hP' := spec_FlowsWithin_e (lv hk) (ok_map (f := cv_Flow) hl0) (ok_map (f := cv_Flow) hl1)
  have hI' := impl_FlowsWithin_e (lv hk) (ok_map (f := cv_Flow) hl0) (ok_map (f := cv_Flow) hl1)
  refine ⟨k + 1, ?_⟩
  unfold laws_FnExactFlowsWithin.f
  rw [laws_szFlowS_yes (by omega) (by omega) (by omega), Option.bind_some, if_neg (by omega), laws_szFlowS_yes (by omega) (by omega) (by omega), Option.bind_some, if_neg (by omega)]
  simp only [hT0, hE0, hT1, hE1, hP, hI, hT0', hE0', hT1', hE1', hP', hI', Option.bind_some, if_true, bne_self_eq_false, Bool.false_eq_true, if_false, Bool.not_true, Bool.not_false]
end Go.Proofs.Ytlkjdlimahhmjaa.Pure
