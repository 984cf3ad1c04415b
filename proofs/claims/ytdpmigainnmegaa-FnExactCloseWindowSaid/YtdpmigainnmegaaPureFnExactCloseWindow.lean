/- The law FnExactCloseWindow as a statement over numbers and lists, with its proof; no conditions but the ranges that the values' types and the slices' lengths have. -/
import Derived.Test.YtdpmigainnmegaaPFnExactCloseWindowx4
namespace Go.Proofs.Ytdpmigainnmegaa.Pure
open Go.RowKit Go.Proofs.Ytdpmigainnmegaa.PFnExactCloseWindow Go.Proofs.YtdpmigainnmegaaW.PrintWords Go.Proofs.YtdpmigainnmegaaW.PrintLast Go.Proofs.YtdpmigainnmegaaW.PrintMore
set_option linter.unusedVariables false
set_option linter.unusedSimpArgs false
/-! ### numbers, lists, rounds -/
theorem wf64 {n : Int} (h : (Lit.int .i64 n).wf = true) : -9223372036854775808 ≤ n ∧ n ≤ 9223372036854775807 := by
  simp [Lit.wf, IntKind.min, IntKind.max, IntKind.bits, IntKind.signed] at h
  omega
theorem wrap_id {n : Int} (h : -9223372036854775808 ≤ n ∧ n ≤ 9223372036854775807) : wrap64 n = n := by
  unfold wrap64
  omega
theorem wrap_nat {n : Nat} (h : n ≤ 1000000000000) : wrap64 ((n : Int) + 1) = ((n + 1 : Nat) : Int) := by
  unfold wrap64
  omega
theorem succ_of {m k : Nat} (h : m < k) : ∃ q, k = q + 1 := ⟨k - 1, by omega⟩
theorem ite_t {p : Prop} [Decidable p] {α : Type} {a b : α} (h : p) : (if p then a else b) = a := if_pos h
theorem ite_f {p : Prop} [Decidable p] {α : Type} {a b : α} (h : ¬ p) : (if p then a else b) = b := if_neg h
theorem bind_of {α β : Type} {x : Option α} {a : α} {f : α → Option β} {r : Option β} (h : x = some a) (h2 : f a = r) : x.bind f = r := by rw [h]; exact h2
theorem getD_mid {α : Type} (pre : List α) (x : α) (suf : List α) (z : α) : (pre ++ x :: suf).getD ((pre.length : Int)).toNat z = x := by
  simp
theorem rd_mid (pre : List Int) (x : Int) (suf : List Int) : rd (pre ++ x :: suf) (pre.length : Int) = x := by
  simp [rd]
theorem set_mid {α : Type} (pre : List α) (x y : α) (suf : List α) : (pre ++ x :: suf).set ((pre.length : Int)).toNat y = pre ++ y :: suf := by
  simp
theorem mid_lt {α : Type} (pre : List α) (x : α) (suf : List α) : (pre.length : Int) < ((pre ++ x :: suf).length : Int) := by
  simp; omega
theorem mid_lt' {α : Type} (pre : List α) (x : α) (suf : List α) (n : Nat) (h : pre.length = n) : (n : Int) < ((pre ++ x :: suf).length : Int) := by
  simp; omega
theorem nil_nlt {α : Type} (pre : List α) : ¬ ((pre.length : Int) < ((pre ++ []).length : Int)) := by simp
theorem len_nn (n : Nat) : (0 : Int) ≤ (n : Int) := by omega
theorem snoc_eq {α : Type} (pre : List α) (x : α) (suf : List α) : pre ++ x :: suf = (pre ++ [x]) ++ suf := by simp
theorem snoc_len {α : Type} (pre : List α) (x : α) : ((pre.length + 1 : Nat) : Int) = ((pre ++ [x]).length : Int) := by simp
def inR (n a b : Int) : Bool := decide (a ≤ n ∧ n ≤ b)
theorem inR_true {n a b : Int} : inR n a b = true ↔ a ≤ n ∧ n ≤ b := by simp [inR]
theorem inR_false {n a b : Int} : inR n a b = false ↔ ¬ (a ≤ n ∧ n ≤ b) := by simp [inR]
def Big (k : Nat) : Prop := 9900000 ≤ k
theorem big_out {k : Nat} (h : Big k) : 9900000 ≤ k := h
theorem big_succ {k : Nat} (h : Big k) : Big (k + 1) := by unfold Big at *; omega
theorem big_some : ∃ K : Nat, Big K := ⟨9900000, Nat.le_refl _⟩
theorem big_pred {k : Nat} (h : Big k) (n : Nat) (hn : n ≤ 1048577) : n < k := by unfold Big at h; omega
def Ok {α : Type} (l : List α) : Prop := l.length ≤ 1048576
theorem ok_out {α : Type} {l : List α} (h : Ok l) : l.length ≤ 1048576 := h
theorem ok_map {α β : Type} {f : α → β} {l : List α} (h : Ok l) : Ok (l.map f) := by unfold Ok at *; simpa using h
theorem ok_filter {α : Type} {f : α → Bool} {l : List α} (h : Ok l) : Ok (l.filter f) := by unfold Ok at *; exact Nat.le_trans (List.length_filter_le _ _) h
theorem ok_small {α : Type} {l : List α} (n : Nat) (h : l.length ≤ n) (hn : n ≤ 1048576) : Ok l := by unfold Ok; omega

def Lv (n k : Nat) : Prop := n * 1100000 ≤ k
theorem lv_out {n k : Nat} (h : Lv n k) : n * 1100000 ≤ k := h
theorem lv {n k : Nat} (h : Big k) (hn : n ≤ 9 := by decide) : Lv n k := by unfold Big at h; unfold Lv; omega
theorem lv_succ {n k : Nat} (h : Lv n k) : Lv n (k + 1) := by unfold Lv at *; omega
theorem lv_pred {n k : Nat} (h : Lv (n + 1) k) (m : Nat) (hm : m ≤ 1048580) : m < k := by unfold Lv at h; omega
theorem lv_mono {n m k : Nat} (h : Lv n k) (hm : m ≤ n := by decide) : Lv m k := Nat.le_trans (Nat.mul_le_mul_right _ hm) h
theorem spec_CloseWindow_e (p : Bool) {base : List S128} (own : List S128) (hb : Ok base) : spec_CloseWindow.f p base own = some base := by
  have hl' := ok_out hb
  unfold spec_CloseWindow.f
  rw [Option.bind_some, if_pos (by simp only [List.length_nil]; omega), List.nil_append]
theorem slClone_Stored_e {l : List S128} (hl : Ok l) : impl_Stored.f l = some l := by
  have hl' := ok_out hl
  unfold impl_Stored.f
  rw [Option.bind_some, if_pos (by simp only [List.length_nil]; omega), List.nil_append]
theorem impl_CloseWindow_e (p : Bool) {base : List S128} (own : List S128) (hb : Ok base) : impl_CloseWindow.f p base own = some base := by
  unfold impl_CloseWindow.f
  rw [slClone_Stored_e hb, Option.bind_some]
theorem laws_szStoredS_no {l : List S145} {a : Int} (h0 : 0 ≤ a) (h1 : a ≤ 1048576) (h : l.length ≤ maxLen) (hn : a < l.length) : laws_szStoredS.f l a = some (-1) := by
  unfold maxLen at h
  unfold laws_szStoredS.f
  rw [wrap_id (by omega), if_pos (by omega)]
theorem laws_szStoredS_yes {l : List S145} {a : Int} (h0 : 0 ≤ a) (h1 : a ≤ 1048576) (hn : l.length ≤ a) : laws_szStoredS.f l a = some (a - l.length) := by
  unfold laws_szStoredS.f
  rw [wrap_id (by omega), if_neg (by omega)]
theorem rd145_mid (pre : List S145) (x : S145) (suf : List S145) : rd_T145 (pre ++ x :: suf) (pre.length : Int) = x := getD_mid pre x suf z145
def cv_Stored (x : S145) : S128 := (⟨x.f0, x.f1, x.f2, x.f3⟩ : S128)
theorem laws_toStoredS_l (suf : List S145) : ∀ (pre : List S145) (k : Nat), (pre ++ suf).length ≤ 1048576 → suf.length < k →
    laws_toStoredS.l0 k (pre ++ suf) (pre.map cv_Stored ++ List.replicate suf.length z128) (pre.length : Int) = some ((pre ++ suf).map cv_Stored) := by
  induction suf with
  | nil =>
    intro pre k hb hk
    obtain ⟨k, rfl⟩ := succ_of hk
    rw [laws_toStoredS.l0, if_neg (nil_nlt pre)]
    simp
  | cons x suf ih =>
    intro pre k hb hk
    obtain ⟨k, rfl⟩ := succ_of hk
    have hp : pre.length ≤ 1048576 := by simp at hb; omega
    have hm : (pre.length : Int) = ((pre.map cv_Stored).length : Int) := by simp
    have h := ih (pre ++ [x]) k (by simpa using hb) (by simpa using hk)
    rw [laws_toStoredS.l0, if_pos (mid_lt _ _ _), if_pos (len_nn _), rd145_mid]
    simp only [laws_toStored.f, Option.bind_some]
    rw [if_pos (by simp; omega), List.length_cons, List.replicate_succ, hm, set_mid, wrap_nat (by simpa using Nat.le_trans hp (by omega)), snoc_eq pre x suf]
    rw [snoc_eq (pre.map cv_Stored)]
    simp only [List.map_append, List.map_cons, List.map_nil, List.length_append, List.length_map, List.length_cons, List.length_nil, Nat.zero_add] at h ⊢
    exact h
theorem laws_toStoredS_e {k : Nat} {l : List S145} (hk : Big k) (hl : Ok l) : laws_toStoredS.f k l = some (l.map cv_Stored) := by
  have hl' := ok_out hl
  unfold laws_toStoredS.f
  rw [if_pos (len_nn _), if_pos (by omega)]
  simpa using laws_toStoredS_l l [] k (by simpa using hl') (big_pred hk _ (by omega))
theorem rd128_mid (pre : List S128) (x : S128) (suf : List S128) : rd_T128 (pre ++ x :: suf) (pre.length : Int) = x := getD_mid pre x suf z128
theorem laws_eqStoredS_l (suf : List S128) : ∀ (pre : List S128) (k : Nat), (pre ++ suf).length ≤ 1048576 → suf.length < k →
    laws_eqStoredS.l0 k (pre ++ suf) (pre ++ suf) (pre.length : Int) = some true := by
  induction suf with
  | nil =>
    intro pre k hb hk
    obtain ⟨k, rfl⟩ := succ_of hk
    rw [laws_eqStoredS.l0, if_neg (nil_nlt pre)]
  | cons x suf ih =>
    intro pre k hb hk
    obtain ⟨k, rfl⟩ := succ_of hk
    have hp : pre.length ≤ 1048576 := by simp at hb; omega
    have h := ih (pre ++ [x]) k (by simpa using hb) (by simpa using hk)
    rw [laws_eqStoredS.l0, if_pos (mid_lt _ _ _), if_pos (len_nn _), if_pos (mid_lt _ _ _), rd128_mid, wrap_nat (by omega), snoc_len pre x, snoc_eq pre x suf, h]
    simp [laws_eqStored.f]
theorem laws_eqStoredS_e {k : Nat} {l : List S128} (hk : Big k) (hl : Ok l) : laws_eqStoredS.f k l l = some true := by
  have hl' := ok_out hl
  unfold laws_eqStoredS.f
  rw [if_pos rfl]
  simpa using laws_eqStoredS_l l [] k (by simpa using hl') (big_pred hk _ (by omega))
def mk_Stored : Int → List S128 → List S128
  | _, [] => []
  | m, _ :: xs => (⟨m, (m + 1), (m + 1 + 1), (m + 1 + 1 + 1)⟩ : S128) :: mk_Stored (m + 1 + 1 + 1 + 1) xs
theorem mk_Stored_len : ∀ (l : List S128) (m : Int), (mk_Stored m l).length = l.length
  | [], _ => rfl
  | _ :: l, m => by simp [mk_Stored, mk_Stored_len l]
theorem laws_markStoredS_l (suf : List S128) : ∀ (pre : List S128) (k : Nat) (m : Int), 0 ≤ m → m + 4 * (suf.length : Int) ≤ 1000000000000 → (pre ++ suf).length ≤ 1048576 → suf.length < k →
    laws_markStoredS.l0 k (pre ++ suf) m (pre.length : Int) = some (m + 4 * (suf.length : Int), pre ++ mk_Stored m suf) := by
  induction suf with
  | nil =>
    intro pre k m h0 h1 hb hk
    obtain ⟨k, rfl⟩ := succ_of hk
    rw [laws_markStoredS.l0, if_neg (nil_nlt pre)]
    simp [mk_Stored]
  | cons x suf ih =>
    intro pre k m h0 h1 hb hk
    obtain ⟨k, rfl⟩ := succ_of hk
    have hp : pre.length ≤ 1048576 := by simp at hb; omega
    have e1 : ((x :: suf).length : Int) = (suf.length : Int) + 1 := by simp
    rw [e1] at h1 ⊢
    have w0 : wrap64 (m + 1) = (m + 1) := wrap_id (by omega)
    have w1 : wrap64 ((m + 1) + 1) = (m + 1 + 1) := wrap_id (by omega)
    have w2 : wrap64 ((m + 1 + 1) + 1) = (m + 1 + 1 + 1) := wrap_id (by omega)
    have w3 : wrap64 ((m + 1 + 1 + 1) + 1) = (m + 1 + 1 + 1 + 1) := wrap_id (by omega)
    have h := ih (pre ++ [(⟨m, (m + 1), (m + 1 + 1), (m + 1 + 1 + 1)⟩ : S128)]) k (m + 1 + 1 + 1 + 1) (by omega) (by omega) (by simpa using hb) (by simpa using hk)
    rw [laws_markStoredS.l0, if_pos (mid_lt _ _ _), if_pos (len_nn _)]
    simp only [set_mid, rd128_mid, Option.bind_some, w0, w1, w2, w3]
    rw [wrap_nat (by omega), snoc_len pre (⟨m, (m + 1), (m + 1 + 1), (m + 1 + 1 + 1)⟩ : S128), snoc_eq pre (⟨m, (m + 1), (m + 1 + 1), (m + 1 + 1 + 1)⟩ : S128) suf]
    refine (h.trans ?_)
    have e2 : (m + 1 + 1 + 1 + 1) + 4 * (suf.length : Int) = m + 4 * ((suf.length : Int) + 1) := by omega
    rw [e2]
    simp [mk_Stored]
theorem laws_markStoredS_e {k : Nat} {l : List S128} {m : Int} (hk : Big k) (hl : Ok l) (h0 : 0 ≤ m) (h1 : m ≤ 100000000000) : laws_markStoredS.f k l m = some (m + 4 * (l.length : Int), mk_Stored m l) := by
  have hl' := ok_out hl
  unfold laws_markStoredS.f
  simpa using laws_markStoredS_l l [] k m h0 (by omega) (by simpa using hl') (big_pred hk _ (by omega))
theorem laws_heldStoredS_l (suf : List S128) : ∀ (pre : List S128) (k : Nat) (m : Int), 0 ≤ m → m + 4 * (suf.length : Int) ≤ 1000000000000 → (pre ++ suf).length ≤ 1048576 → suf.length < k →
    laws_heldStoredS.l0 k (pre ++ mk_Stored m suf) m (pre.length : Int) = some (m + 4 * (suf.length : Int)) := by
  induction suf with
  | nil =>
    intro pre k m h0 h1 hb hk
    obtain ⟨k, rfl⟩ := succ_of hk
    rw [laws_heldStoredS.l0, mk_Stored, if_neg (nil_nlt pre)]
    simp
  | cons x suf ih =>
    intro pre k m h0 h1 hb hk
    obtain ⟨k, rfl⟩ := succ_of hk
    have hp : pre.length ≤ 1048576 := by simp at hb; omega
    have e1 : ((x :: suf).length : Int) = (suf.length : Int) + 1 := by simp
    rw [e1] at h1 ⊢
    have w0 : wrap64 (m + 1) = (m + 1) := wrap_id (by omega)
    have w1 : wrap64 ((m + 1) + 1) = (m + 1 + 1) := wrap_id (by omega)
    have w2 : wrap64 ((m + 1 + 1) + 1) = (m + 1 + 1 + 1) := wrap_id (by omega)
    have w3 : wrap64 ((m + 1 + 1 + 1) + 1) = (m + 1 + 1 + 1 + 1) := wrap_id (by omega)
    have h := ih (pre ++ [(⟨m, (m + 1), (m + 1 + 1), (m + 1 + 1 + 1)⟩ : S128)]) k (m + 1 + 1 + 1 + 1) (by omega) (by omega) (by simpa using hb) (by simpa using hk)
    rw [laws_heldStoredS.l0, mk_Stored, if_pos (mid_lt _ _ _), if_pos (len_nn _)]
    simp only [rd128_mid, Option.bind_some, w0, w1, w2, w3, if_true, bne_self_eq_false, Bool.false_eq_true, if_false]
    rw [wrap_nat (by omega), snoc_len pre (⟨m, (m + 1), (m + 1 + 1), (m + 1 + 1 + 1)⟩ : S128), snoc_eq pre (⟨m, (m + 1), (m + 1 + 1), (m + 1 + 1 + 1)⟩ : S128) (mk_Stored _ suf)]
    refine (h.trans ?_)
    have e2 : (m + 1 + 1 + 1 + 1) + 4 * (suf.length : Int) = m + 4 * ((suf.length : Int) + 1) := by omega
    rw [e2]
theorem laws_heldStoredS_e {k : Nat} {l : List S128} {m : Int} (hk : Big k) (hl : Ok l) (h0 : 0 ≤ m) (h1 : m ≤ 100000000000) : laws_heldStoredS.f k (mk_Stored m l) m = some (m + 4 * (l.length : Int)) := by
  have hl' := ok_out hl
  unfold laws_heldStoredS.f
  simpa using laws_heldStoredS_l l [] k m h0 (by omega) (by simpa using hl') (big_pred hk _ (by omega))

theorem FnExactCloseWindow : ∀ (a0_0 : Bool) (l0_1 : List (S145)) (l0_2 : List (S145)), l0_1.length ≤ maxLen → (∀ x ∈ l0_1, (Lit.int .i64 x.f0).wf = true ∧ (Lit.int .i64 x.f1).wf = true ∧ (Lit.int .i64 x.f2).wf = true ∧ (Lit.int .i64 x.f3).wf = true) → l0_2.length ≤ maxLen → (∀ x ∈ l0_2, (Lit.int .i64 x.f0).wf = true ∧ (Lit.int .i64 x.f1).wf = true ∧ (Lit.int .i64 x.f2).wf = true ∧ (Lit.int .i64 x.f3).wf = true) → ∃ k, laws_FnExactCloseWindow.f k a0_0 l0_1 l0_2 = some true := by
  intro a0_0 l0_1 l0_2 hm0_1 _ hm0_2 _
  by_cases hn0 : (1048576 : Int) < l0_1.length
  · refine ⟨0, ?_⟩
    unfold laws_FnExactCloseWindow.f
    simp only [laws_szWindow.f]
    rw [laws_szStoredS_no (by omega) (by omega) hm0_1 hn0]
    rfl
  by_cases hn1 : (1048576 : Int) - l0_1.length < l0_2.length
  · refine ⟨0, ?_⟩
    unfold laws_FnExactCloseWindow.f
    simp only [laws_szWindow.f]
    rw [laws_szStoredS_yes (by omega) (by omega) (by omega), Option.bind_some, if_neg (by omega), laws_szStoredS_no (by omega) (by omega) hm0_2 hn1]
    rfl
  obtain ⟨k, hk⟩ := big_some
  have hk0 := big_succ hk
  have hl0_1 : Ok l0_1 := by unfold Ok; omega
  have hl0_2 : Ok l0_2 := by unfold Ok; omega
  have hc0_1 : Ok (l0_1.map cv_Stored) := ok_map (f := cv_Stored) hl0_1
  have hcl0_1 := ok_out hc0_1
  have hc0_2 : Ok (l0_2.map cv_Stored) := ok_map (f := cv_Stored) hl0_2
  have hcl0_2 := ok_out hc0_2
  have hT0_1 := laws_toStoredS_e hk0 hl0_1
  have hE0_1 := laws_eqStoredS_e hk0 hc0_1
  have hM0_1 := laws_markStoredS_e (m := 1) hk0 hc0_1 (by omega) (by omega)
  have hT0_2 := laws_toStoredS_e hk0 hl0_2
  have hE0_2 := laws_eqStoredS_e hk0 hc0_2
  have hM0_2 := laws_markStoredS_e (m := 1 + 4 * ((l0_1.map cv_Stored).length : Int)) hk0 hc0_2 (by omega) (by omega)
  have hP := spec_CloseWindow_e a0_0 (l0_2.map cv_Stored) hc0_1
  have hI := impl_CloseWindow_e a0_0 (l0_2.map cv_Stored) hc0_1
  have hR0 : Ok (l0_1.map cv_Stored) := hc0_1
  have hRl0 := ok_out hR0
  have hMR0 := laws_markStoredS_e (m := 1) hk0 hR0 (by omega) (by omega)
  have hHR0 := laws_heldStoredS_e (m := 1) hk0 hR0 (by omega) (by omega)
  have hER0 := laws_eqStoredS_e hk0 hR0
  have hT0_1' := laws_toStoredS_e hk hl0_1
  have hE0_1' := laws_eqStoredS_e hk hc0_1
  have hM0_1' := laws_markStoredS_e (m := 1) hk hc0_1 (by omega) (by omega)
  have hT0_2' := laws_toStoredS_e hk hl0_2
  have hE0_2' := laws_eqStoredS_e hk hc0_2
  have hM0_2' := laws_markStoredS_e (m := 1 + 4 * ((l0_1.map cv_Stored).length : Int)) hk hc0_2 (by omega) (by omega)
  have hP' := spec_CloseWindow_e a0_0 (l0_2.map cv_Stored) hc0_1
  have hI' := impl_CloseWindow_e a0_0 (l0_2.map cv_Stored) hc0_1
  have hMR0' := laws_markStoredS_e (m := 1) hk hR0 (by omega) (by omega)
  have hHR0' := laws_heldStoredS_e (m := 1) hk hR0 (by omega) (by omega)
  have hER0' := laws_eqStoredS_e hk hR0
  have hNa0_1 : ¬ ((1 : Int) + 4 * ((l0_1.map cv_Stored).length : Int) < 0) := by omega
  have hNa0_2 : ¬ ((1 : Int) + 4 * ((l0_1.map cv_Stored).length : Int) + 4 * ((l0_2.map cv_Stored).length : Int) < 0) := by omega
  have hNr0 : ¬ ((1 : Int) + 4 * ((l0_1.map cv_Stored).length : Int) < 0) := by omega
  refine ⟨k + 1, ?_⟩
  unfold laws_FnExactCloseWindow.f
  simp only [laws_szWindow.f]
  rw [laws_szStoredS_yes (by omega) (by omega) (by omega), Option.bind_some, if_neg (by omega), laws_szStoredS_yes (by omega) (by omega) (by omega), Option.bind_some, if_neg (by omega), Option.bind_some, if_neg (by omega)]
  simp only [laws_FnExactCloseWindow.j0, hT0_1, hE0_1, hM0_1, hT0_2, hE0_2, hM0_2, hP, hI, hMR0, hHR0, hER0, hT0_1', hE0_1', hM0_1', hT0_2', hE0_2', hM0_2', hP', hI', hMR0', hHR0', hER0', hNa0_1, hNa0_2, hNr0, laws_toWindow.f, laws_eqWindow.f, laws_markWindow.f, Option.bind_some, if_true, bne_self_eq_false, Bool.false_eq_true, if_false, Bool.not_true, Bool.not_false]
end Go.Proofs.Ytdpmigainnmegaa.Pure
