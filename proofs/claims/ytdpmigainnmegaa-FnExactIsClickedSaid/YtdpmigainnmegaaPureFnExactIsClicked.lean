/- The law FnExactIsClicked as a statement over numbers and lists, with its proof; no conditions but the ranges that the values' types and the slices' lengths have. -/
import Derived.Test.YtdpmigainnmegaaPFnExactIsClickedx4
namespace Go.Proofs.Ytdpmigainnmegaa.Pure
open Go.RowKit Go.Proofs.Ytdpmigainnmegaa.PFnExactIsClicked Go.Proofs.YtdpmigainnmegaaW.PrintWords Go.Proofs.YtdpmigainnmegaaW.PrintLast Go.Proofs.YtdpmigainnmegaaW.PrintMore
set_option linter.unusedVariables false
set_option linter.unusedSimpArgs false
/-! ### numbers, lists, rounds -/
theorem wf64 {n : Int} (h : (Lit.int .i64 n).wf = true) : -9223372036854775808 ≤ n ∧ n ≤ 9223372036854775807 := by
  simp [Lit.wf, IntKind.min, IntKind.max, IntKind.bits, IntKind.signed] at h
  omega
theorem wrap_id {n : Int} (h : -9223372036854775808 ≤ n ∧ n ≤ 9223372036854775807) : wrap64 n = n := by
  unfold wrap64
  omega
theorem wrap_nat {n : Nat} (h : n ≤ 1000000000000) : wrap64 ((n : Int) + 1) = ((n + 1 : Nat) : Int) := by
  unfold wrap64
  omega
theorem succ_of {m k : Nat} (h : m < k) : ∃ q, k = q + 1 := ⟨k - 1, by omega⟩
theorem ite_t {p : Prop} [Decidable p] {α : Type} {a b : α} (h : p) : (if p then a else b) = a := if_pos h
theorem ite_f {p : Prop} [Decidable p] {α : Type} {a b : α} (h : ¬ p) : (if p then a else b) = b := if_neg h
theorem bind_of {α β : Type} {x : Option α} {a : α} {f : α → Option β} {r : Option β} (h : x = some a) (h2 : f a = r) : x.bind f = r := by rw [h]; exact h2
theorem getD_mid {α : Type} (pre : List α) (x : α) (suf : List α) (z : α) : (pre ++ x :: suf).getD ((pre.length : Int)).toNat z = x := by
  simp
theorem rd_mid (pre : List Int) (x : Int) (suf : List Int) : rd (pre ++ x :: suf) (pre.length : Int) = x := by
  simp [rd]
theorem set_mid {α : Type} (pre : List α) (x y : α) (suf : List α) : (pre ++ x :: suf).set ((pre.length : Int)).toNat y = pre ++ y :: suf := by
  simp
theorem mid_lt {α : Type} (pre : List α) (x : α) (suf : List α) : (pre.length : Int) < ((pre ++ x :: suf).length : Int) := by
  simp; omega
theorem mid_lt' {α : Type} (pre : List α) (x : α) (suf : List α) (n : Nat) (h : pre.length = n) : (n : Int) < ((pre ++ x :: suf).length : Int) := by
  simp; omega
theorem nil_nlt {α : Type} (pre : List α) : ¬ ((pre.length : Int) < ((pre ++ []).length : Int)) := by simp
theorem len_nn (n : Nat) : (0 : Int) ≤ (n : Int) := by omega
theorem snoc_eq {α : Type} (pre : List α) (x : α) (suf : List α) : pre ++ x :: suf = (pre ++ [x]) ++ suf := by simp
theorem snoc_len {α : Type} (pre : List α) (x : α) : ((pre.length + 1 : Nat) : Int) = ((pre ++ [x]).length : Int) := by simp
def inR (n a b : Int) : Bool := decide (a ≤ n ∧ n ≤ b)
theorem inR_true {n a b : Int} : inR n a b = true ↔ a ≤ n ∧ n ≤ b := by simp [inR]
theorem inR_false {n a b : Int} : inR n a b = false ↔ ¬ (a ≤ n ∧ n ≤ b) := by simp [inR]
def Big (k : Nat) : Prop := 9900000 ≤ k
theorem big_out {k : Nat} (h : Big k) : 9900000 ≤ k := h
theorem big_succ {k : Nat} (h : Big k) : Big (k + 1) := by unfold Big at *; omega
theorem big_some : ∃ K : Nat, Big K := ⟨9900000, Nat.le_refl _⟩
theorem big_pred {k : Nat} (h : Big k) (n : Nat) (hn : n ≤ 1048577) : n < k := by unfold Big at h; omega
def Ok {α : Type} (l : List α) : Prop := l.length ≤ 1048576
theorem ok_out {α : Type} {l : List α} (h : Ok l) : l.length ≤ 1048576 := h
theorem ok_map {α β : Type} {f : α → β} {l : List α} (h : Ok l) : Ok (l.map f) := by unfold Ok at *; simpa using h
theorem ok_filter {α : Type} {f : α → Bool} {l : List α} (h : Ok l) : Ok (l.filter f) := by unfold Ok at *; exact Nat.le_trans (List.length_filter_le _ _) h
theorem ok_small {α : Type} {l : List α} (n : Nat) (h : l.length ≤ n) (hn : n ≤ 1048576) : Ok l := by unfold Ok; omega

def Lv (n k : Nat) : Prop := n * 1100000 ≤ k
theorem lv_out {n k : Nat} (h : Lv n k) : n * 1100000 ≤ k := h
theorem lv {n k : Nat} (h : Big k) (hn : n ≤ 9 := by decide) : Lv n k := by unfold Big at h; unfold Lv; omega
theorem lv_succ {n k : Nat} (h : Lv n k) : Lv n (k + 1) := by unfold Lv at *; omega
theorem lv_pred {n k : Nat} (h : Lv (n + 1) k) (m : Nat) (hm : m ≤ 1048580) : m < k := by unfold Lv at h; omega
theorem lv_mono {n m k : Nat} (h : Lv n k) (hm : m ≤ n := by decide) : Lv m k := Nat.le_trans (Nat.mul_le_mul_right _ hm) h
theorem spec_l1In_e (n a b : Int) : spec_l1In.f n a b = some (inR n a b) := by
  unfold spec_l1In.f inR
  by_cases h : n ≥ a
  · rw [if_pos h]; simp [show a ≤ n from h]
  · rw [if_neg h]; simp [show ¬ a ≤ n from h]
def clickedV (c t : Int) : Bool := inR c 0 10000 && inR t c (wrap64 (c + 2))
theorem spec_IsClicked_e (s1 s2 : Int) (b : List S156) (e : List S158) (h : List Int) (c t : Int) : spec_IsClicked.f s1 s2 b e h c t = some (clickedV c t) := by
  unfold spec_IsClicked.f clickedV
  simp only [spec_l1In_e, Option.bind_some]
  cases inR c 0 10000 <;> simp
theorem impl_InRange_e (n a b : Int) : impl_InRange.f n a b = some (inR n a b) := by
  unfold impl_InRange.f inR
  by_cases h : a ≤ n
  · rw [if_pos h]; simp [h]
  · rw [if_neg h]; simp [h]
theorem impl_IsClicked_e (s1 s2 : Int) (b : List S156) (e : List S158) (h : List Int) (c t : Int) : impl_IsClicked.f s1 s2 b e h c t = some (clickedV c t) := by
  unfold impl_IsClicked.f clickedV
  simp only [impl_InRange_e, Option.bind_some]
  cases inR c 0 10000 <;> simp
theorem laws_szNodeS_no {l : List S167} {a : Int} (h0 : 0 ≤ a) (h1 : a ≤ 1048576) (h : l.length ≤ maxLen) (hn : a < l.length) : laws_szNodeS.f l a = some (-1) := by
  unfold maxLen at h
  unfold laws_szNodeS.f
  rw [wrap_id (by omega), if_pos (by omega)]
theorem laws_szNodeS_yes {l : List S167} {a : Int} (h0 : 0 ≤ a) (h1 : a ≤ 1048576) (hn : l.length ≤ a) : laws_szNodeS.f l a = some (a - l.length) := by
  unfold laws_szNodeS.f
  rw [wrap_id (by omega), if_neg (by omega)]
theorem rd167_mid (pre : List S167) (x : S167) (suf : List S167) : rd_T167 (pre ++ x :: suf) (pre.length : Int) = x := getD_mid pre x suf z167
def cv_Node (x : S167) : S156 := (⟨x.f0, x.f1, x.f2, x.f3, x.f4⟩ : S156)
theorem laws_toNodeS_l (suf : List S167) : ∀ (pre : List S167) (k : Nat), (pre ++ suf).length ≤ 1048576 → suf.length < k →
    laws_toNodeS.l0 k (pre ++ suf) (pre.map cv_Node ++ List.replicate suf.length z156) (pre.length : Int) = some ((pre ++ suf).map cv_Node) := by
  induction suf with
  | nil =>
    intro pre k hb hk
    obtain ⟨k, rfl⟩ := succ_of hk
    rw [laws_toNodeS.l0, if_neg (nil_nlt pre)]
    simp
  | cons x suf ih =>
    intro pre k hb hk
    obtain ⟨k, rfl⟩ := succ_of hk
    have hp : pre.length ≤ 1048576 := by simp at hb; omega
    have hm : (pre.length : Int) = ((pre.map cv_Node).length : Int) := by simp
    have h := ih (pre ++ [x]) k (by simpa using hb) (by simpa using hk)
    rw [laws_toNodeS.l0, if_pos (mid_lt _ _ _), if_pos (len_nn _), rd167_mid]
    simp only [laws_toNode.f, Option.bind_some]
    rw [if_pos (by simp; omega), List.length_cons, List.replicate_succ, hm, set_mid, wrap_nat (by simpa using Nat.le_trans hp (by omega)), snoc_eq pre x suf]
    rw [snoc_eq (pre.map cv_Node)]
    simp only [List.map_append, List.map_cons, List.map_nil, List.length_append, List.length_map, List.length_cons, List.length_nil, Nat.zero_add] at h ⊢
    exact h
theorem laws_toNodeS_e {k : Nat} {l : List S167} (hk : Big k) (hl : Ok l) : laws_toNodeS.f k l = some (l.map cv_Node) := by
  have hl' := ok_out hl
  unfold laws_toNodeS.f
  rw [if_pos (len_nn _), if_pos (by omega)]
  simpa using laws_toNodeS_l l [] k (by simpa using hl') (big_pred hk _ (by omega))
theorem rd156_mid (pre : List S156) (x : S156) (suf : List S156) : rd_T156 (pre ++ x :: suf) (pre.length : Int) = x := getD_mid pre x suf z156
theorem laws_eqNodeS_l (suf : List S156) : ∀ (pre : List S156) (k : Nat), (pre ++ suf).length ≤ 1048576 → suf.length < k →
    laws_eqNodeS.l0 k (pre ++ suf) (pre ++ suf) (pre.length : Int) = some true := by
  induction suf with
  | nil =>
    intro pre k hb hk
    obtain ⟨k, rfl⟩ := succ_of hk
    rw [laws_eqNodeS.l0, if_neg (nil_nlt pre)]
  | cons x suf ih =>
    intro pre k hb hk
    obtain ⟨k, rfl⟩ := succ_of hk
    have hp : pre.length ≤ 1048576 := by simp at hb; omega
    have h := ih (pre ++ [x]) k (by simpa using hb) (by simpa using hk)
    rw [laws_eqNodeS.l0, if_pos (mid_lt _ _ _), if_pos (len_nn _), if_pos (mid_lt _ _ _), rd156_mid, wrap_nat (by omega), snoc_len pre x, snoc_eq pre x suf, h]
    simp [laws_eqNode.f]
theorem laws_eqNodeS_e {k : Nat} {l : List S156} (hk : Big k) (hl : Ok l) : laws_eqNodeS.f k l l = some true := by
  have hl' := ok_out hl
  unfold laws_eqNodeS.f
  rw [if_pos rfl]
  simpa using laws_eqNodeS_l l [] k (by simpa using hl') (big_pred hk _ (by omega))
theorem laws_szEditS_no {l : List S169} {a : Int} (h0 : 0 ≤ a) (h1 : a ≤ 1048576) (h : l.length ≤ maxLen) (hn : a < l.length) : laws_szEditS.f l a = some (-1) := by
  unfold maxLen at h
  unfold laws_szEditS.f
  rw [wrap_id (by omega), if_pos (by omega)]
theorem laws_szEditS_yes {l : List S169} {a : Int} (h0 : 0 ≤ a) (h1 : a ≤ 1048576) (hn : l.length ≤ a) : laws_szEditS.f l a = some (a - l.length) := by
  unfold laws_szEditS.f
  rw [wrap_id (by omega), if_neg (by omega)]
theorem rd169_mid (pre : List S169) (x : S169) (suf : List S169) : rd_T169 (pre ++ x :: suf) (pre.length : Int) = x := getD_mid pre x suf z169
def cv_Edit (x : S169) : S158 := (⟨x.f0, x.f1, x.f2, x.f3, x.f4, x.f5⟩ : S158)
theorem laws_toEditS_l (suf : List S169) : ∀ (pre : List S169) (k : Nat), (pre ++ suf).length ≤ 1048576 → suf.length < k →
    laws_toEditS.l0 k (pre ++ suf) (pre.map cv_Edit ++ List.replicate suf.length z158) (pre.length : Int) = some ((pre ++ suf).map cv_Edit) := by
  induction suf with
  | nil =>
    intro pre k hb hk
    obtain ⟨k, rfl⟩ := succ_of hk
    rw [laws_toEditS.l0, if_neg (nil_nlt pre)]
    simp
  | cons x suf ih =>
    intro pre k hb hk
    obtain ⟨k, rfl⟩ := succ_of hk
    have hp : pre.length ≤ 1048576 := by simp at hb; omega
    have hm : (pre.length : Int) = ((pre.map cv_Edit).length : Int) := by simp
    have h := ih (pre ++ [x]) k (by simpa using hb) (by simpa using hk)
    rw [laws_toEditS.l0, if_pos (mid_lt _ _ _), if_pos (len_nn _), rd169_mid]
    simp only [laws_toEdit.f, Option.bind_some]
    rw [if_pos (by simp; omega), List.length_cons, List.replicate_succ, hm, set_mid, wrap_nat (by simpa using Nat.le_trans hp (by omega)), snoc_eq pre x suf]
    rw [snoc_eq (pre.map cv_Edit)]
    simp only [List.map_append, List.map_cons, List.map_nil, List.length_append, List.length_map, List.length_cons, List.length_nil, Nat.zero_add] at h ⊢
    exact h
theorem laws_toEditS_e {k : Nat} {l : List S169} (hk : Big k) (hl : Ok l) : laws_toEditS.f k l = some (l.map cv_Edit) := by
  have hl' := ok_out hl
  unfold laws_toEditS.f
  rw [if_pos (len_nn _), if_pos (by omega)]
  simpa using laws_toEditS_l l [] k (by simpa using hl') (big_pred hk _ (by omega))
theorem rd158_mid (pre : List S158) (x : S158) (suf : List S158) : rd_T158 (pre ++ x :: suf) (pre.length : Int) = x := getD_mid pre x suf z158
theorem laws_eqEditS_l (suf : List S158) : ∀ (pre : List S158) (k : Nat), (pre ++ suf).length ≤ 1048576 → suf.length < k →
    laws_eqEditS.l0 k (pre ++ suf) (pre ++ suf) (pre.length : Int) = some true := by
  induction suf with
  | nil =>
    intro pre k hb hk
    obtain ⟨k, rfl⟩ := succ_of hk
    rw [laws_eqEditS.l0, if_neg (nil_nlt pre)]
  | cons x suf ih =>
    intro pre k hb hk
    obtain ⟨k, rfl⟩ := succ_of hk
    have hp : pre.length ≤ 1048576 := by simp at hb; omega
    have h := ih (pre ++ [x]) k (by simpa using hb) (by simpa using hk)
    rw [laws_eqEditS.l0, if_pos (mid_lt _ _ _), if_pos (len_nn _), if_pos (mid_lt _ _ _), rd158_mid, wrap_nat (by omega), snoc_len pre x, snoc_eq pre x suf, h]
    simp [laws_eqEdit.f]
theorem laws_eqEditS_e {k : Nat} {l : List S158} (hk : Big k) (hl : Ok l) : laws_eqEditS.f k l l = some true := by
  have hl' := ok_out hl
  unfold laws_eqEditS.f
  rw [if_pos rfl]
  simpa using laws_eqEditS_l l [] k (by simpa using hl') (big_pred hk _ (by omega))
theorem laws_szIntS_no {l : List Int} {a : Int} (h0 : 0 ≤ a) (h1 : a ≤ 1048576) (h : l.length ≤ maxLen) (hn : a < l.length) : laws_szIntS.f l a = some (-1) := by
  unfold maxLen at h
  unfold laws_szIntS.f
  rw [wrap_id (by omega), if_pos (by omega)]
theorem laws_szIntS_yes {l : List Int} {a : Int} (h0 : 0 ≤ a) (h1 : a ≤ 1048576) (hn : l.length ≤ a) : laws_szIntS.f l a = some (a - l.length) := by
  unfold laws_szIntS.f
  rw [wrap_id (by omega), if_neg (by omega)]
theorem laws_toIntS_l (suf : List Int) : ∀ (pre : List Int) (k : Nat), (pre ++ suf).length ≤ 1048576 → suf.length < k →
    laws_toIntS.l0 k (pre ++ suf) (pre ++ List.replicate suf.length 0) (pre.length : Int) = some (pre ++ suf) := by
  induction suf with
  | nil =>
    intro pre k hb hk
    obtain ⟨k, rfl⟩ := succ_of hk
    rw [laws_toIntS.l0, if_neg (nil_nlt pre)]
    simp
  | cons x suf ih =>
    intro pre k hb hk
    obtain ⟨k, rfl⟩ := succ_of hk
    have hp : pre.length + suf.length < 1048576 := by simp at hb; omega
    have h := ih (pre ++ [x]) k (by simpa using hb) (by simpa using hk)
    rw [laws_toIntS.l0, if_pos (mid_lt _ _ _), if_pos (len_nn _), rd_mid]
    rw [if_pos (by simp; omega), List.length_cons, List.replicate_succ, set_mid, wrap_nat (by omega), snoc_len pre x, snoc_eq pre x suf, snoc_eq pre x (List.replicate suf.length 0)]
    exact h
theorem laws_toIntS_e {k : Nat} {l : List Int} (hk : Big k) (hl : Ok l) : laws_toIntS.f k l = some l := by
  have hl' := ok_out hl
  unfold laws_toIntS.f
  rw [if_pos (len_nn _), if_pos (by omega)]
  simpa using laws_toIntS_l l [] k (by simpa using hl') (big_pred hk _ (by omega))
theorem laws_eqIntS_l (suf : List Int) : ∀ (pre : List Int) (k : Nat), (pre ++ suf).length ≤ 1048576 → suf.length < k →
    laws_eqIntS.l0 k (pre ++ suf) (pre ++ suf) (pre.length : Int) = some true := by
  induction suf with
  | nil =>
    intro pre k hb hk
    obtain ⟨k, rfl⟩ := succ_of hk
    rw [laws_eqIntS.l0, if_neg (nil_nlt pre)]
  | cons x suf ih =>
    intro pre k hb hk
    obtain ⟨k, rfl⟩ := succ_of hk
    have hp : pre.length + suf.length < 1048576 := by simp at hb; omega
    have h := ih (pre ++ [x]) k (by simpa using hb) (by simpa using hk)
    rw [laws_eqIntS.l0, if_pos (mid_lt _ _ _), if_pos (len_nn _), if_pos (mid_lt _ _ _), if_pos rfl, wrap_nat (by omega), snoc_len pre x, snoc_eq pre x suf, h]
theorem laws_eqIntS_e {k : Nat} {l : List Int} (hk : Big k) (hl : Ok l) : laws_eqIntS.f k l l = some true := by
  have hl' := ok_out hl
  unfold laws_eqIntS.f
  rw [if_pos rfl]
  simpa using laws_eqIntS_l l [] k (by simpa using hl') (big_pred hk _ (by omega))

theorem FnExactIsClicked : ∀ (a0_0 : Int) (a0_1 : Int) (l0_2 : List (S167)) (l0_3 : List (S169)) (l0_4 : List Int) (a0_5 : Int) (a1 : Int), (Lit.int .i64 a0_0).wf = true → (Lit.int .i64 a0_1).wf = true → l0_2.length ≤ maxLen → (∀ x ∈ l0_2, (Lit.int .i64 x.f0).wf = true ∧ (Lit.int .i64 x.f1).wf = true ∧ (Lit.int .i64 x.f2).wf = true ∧ (Lit.int .i64 x.f3).wf = true ∧ (Lit.int .i64 x.f4).wf = true) → l0_3.length ≤ maxLen → (∀ x ∈ l0_3, (Lit.int .i64 x.f0).wf = true ∧ (Lit.int .i64 x.f1).wf = true ∧ (Lit.int .i64 x.f2).wf = true ∧ (Lit.int .i64 x.f3).wf = true ∧ (Lit.int .i64 x.f4).wf = true ∧ (Lit.int .i64 x.f5).wf = true) → l0_4.length ≤ maxLen → (∀ x ∈ l0_4, (Lit.int .i64 x).wf = true) → (Lit.int .i64 a0_5).wf = true → (Lit.int .i64 a1).wf = true → ∃ k, laws_FnExactIsClicked.f k a0_0 a0_1 l0_2 l0_3 l0_4 a0_5 a1 = some true := by
  intro a0_0 a0_1 l0_2 l0_3 l0_4 a0_5 a1 _ _ hm0_2 _ hm0_3 _ hm0_4 _ _ _
  by_cases hn0 : (1048576 : Int) < l0_2.length
  · refine ⟨0, ?_⟩
    unfold laws_FnExactIsClicked.f
    simp only [laws_szTab.f]
    rw [laws_szNodeS_no (by omega) (by omega) hm0_2 hn0]
    rfl
  by_cases hn1 : (1048576 : Int) - l0_2.length < l0_3.length
  · refine ⟨0, ?_⟩
    unfold laws_FnExactIsClicked.f
    simp only [laws_szTab.f]
    rw [laws_szNodeS_yes (by omega) (by omega) (by omega), Option.bind_some, if_neg (by omega), laws_szEditS_no (by omega) (by omega) hm0_3 hn1]
    rfl
  by_cases hn2 : (1048576 : Int) - l0_2.length - l0_3.length < l0_4.length
  · refine ⟨0, ?_⟩
    unfold laws_FnExactIsClicked.f
    simp only [laws_szTab.f]
    rw [laws_szNodeS_yes (by omega) (by omega) (by omega), Option.bind_some, if_neg (by omega), laws_szEditS_yes (by omega) (by omega) (by omega), Option.bind_some, if_neg (by omega), laws_szIntS_no (by omega) (by omega) hm0_4 hn2]
    rfl
  obtain ⟨k, hk⟩ := big_some
  have hk0 := big_succ hk
  have hl0_2 : Ok l0_2 := by unfold Ok; omega
  have hl0_3 : Ok l0_3 := by unfold Ok; omega
  have hl0_4 : Ok l0_4 := by unfold Ok; omega
  have hc0_2 : Ok (l0_2.map cv_Node) := ok_map (f := cv_Node) hl0_2
  have hcl0_2 := ok_out hc0_2
  have hc0_3 : Ok (l0_3.map cv_Edit) := ok_map (f := cv_Edit) hl0_3
  have hcl0_3 := ok_out hc0_3
  have hc0_4 := hl0_4
  have hcl0_4 := ok_out hc0_4
  have hT0_2 := laws_toNodeS_e hk0 hl0_2
  have hE0_2 := laws_eqNodeS_e hk0 hc0_2
  have hT0_3 := laws_toEditS_e hk0 hl0_3
  have hE0_3 := laws_eqEditS_e hk0 hc0_3
  have hT0_4 := laws_toIntS_e hk0 hl0_4
  have hE0_4 := laws_eqIntS_e hk0 hc0_4
  have hP := spec_IsClicked_e a0_0 a0_1 (l0_2.map cv_Node) (l0_3.map cv_Edit) l0_4 a0_5 a1
  have hI := impl_IsClicked_e a0_0 a0_1 (l0_2.map cv_Node) (l0_3.map cv_Edit) l0_4 a0_5 a1
  have hT0_2' := laws_toNodeS_e hk hl0_2
  have hE0_2' := laws_eqNodeS_e hk hc0_2
  have hT0_3' := laws_toEditS_e hk hl0_3
  have hE0_3' := laws_eqEditS_e hk hc0_3
  have hT0_4' := laws_toIntS_e hk hl0_4
  have hE0_4' := laws_eqIntS_e hk hc0_4
  have hP' := spec_IsClicked_e a0_0 a0_1 (l0_2.map cv_Node) (l0_3.map cv_Edit) l0_4 a0_5 a1
  have hI' := impl_IsClicked_e a0_0 a0_1 (l0_2.map cv_Node) (l0_3.map cv_Edit) l0_4 a0_5 a1
  refine ⟨k + 1, ?_⟩
  unfold laws_FnExactIsClicked.f
  simp only [laws_szTab.f]
  rw [laws_szNodeS_yes (by omega) (by omega) (by omega), Option.bind_some, if_neg (by omega), laws_szEditS_yes (by omega) (by omega) (by omega), Option.bind_some, if_neg (by omega), laws_szIntS_yes (by omega) (by omega) (by omega), Option.bind_some, if_neg (by omega), Option.bind_some, if_neg (by omega)]
  simp only [hT0_2, hE0_2, hT0_3, hE0_3, hT0_4, hE0_4, hP, hI, hT0_2', hE0_2', hT0_3', hE0_3', hT0_4', hE0_4', hP', hI', laws_toSite.f, laws_eqSite.f, laws_toTab.f, laws_eqTab.f, Option.bind_some, if_true, bne_self_eq_false, Bool.false_eq_true, if_false, Bool.not_true, Bool.not_false]
end Go.Proofs.Ytdpmigainnmegaa.Pure
