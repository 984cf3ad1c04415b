/- The law FnExactReadWindow as a statement over numbers and lists, with its proof; no conditions but the ranges that the values' types and the slices' lengths have. -/
import Derived.Test.YtdpmigainnmegaaPFnExactReadWindowx3
namespace Go.Proofs.Ytdpmigainnmegaa.Pure
open Go.RowKit Go.Proofs.Ytdpmigainnmegaa.PFnExactReadWindow Go.Proofs.YtdpmigainnmegaaW.PrintWords Go.Proofs.YtdpmigainnmegaaW.PrintLast Go.Proofs.YtdpmigainnmegaaW.PrintMore
set_option linter.unusedVariables false
set_option linter.unusedSimpArgs false
/-! ### numbers, lists, rounds -/
theorem wf64 {n : Int} (h : (Lit.int .i64 n).wf = true) : -9223372036854775808 ≤ n ∧ n ≤ 9223372036854775807 := by
  simp [Lit.wf, IntKind.min, IntKind.max, IntKind.bits, IntKind.signed] at h
  omega
theorem wrap_id {n : Int} (h : -9223372036854775808 ≤ n ∧ n ≤ 9223372036854775807) : wrap64 n = n := by
  unfold wrap64
  omega
theorem wrap_nat {n : Nat} (h : n ≤ 1000000000000) : wrap64 ((n : Int) + 1) = ((n + 1 : Nat) : Int) := by
  unfold wrap64
  omega
theorem succ_of {m k : Nat} (h : m < k) : ∃ q, k = q + 1 := ⟨k - 1, by omega⟩
theorem ite_t {p : Prop} [Decidable p] {α : Type} {a b : α} (h : p) : (if p then a else b) = a := if_pos h
theorem ite_f {p : Prop} [Decidable p] {α : Type} {a b : α} (h : ¬ p) : (if p then a else b) = b := if_neg h
theorem bind_of {α β : Type} {x : Option α} {a : α} {f : α → Option β} {r : Option β} (h : x = some a) (h2 : f a = r) : x.bind f = r := by rw [h]; exact h2
theorem getD_mid {α : Type} (pre : List α) (x : α) (suf : List α) (z : α) : (pre ++ x :: suf).getD ((pre.length : Int)).toNat z = x := by
  simp
theorem rd_mid (pre : List Int) (x : Int) (suf : List Int) : rd (pre ++ x :: suf) (pre.length : Int) = x := by
  simp [rd]
theorem set_mid {α : Type} (pre : List α) (x y : α) (suf : List α) : (pre ++ x :: suf).set ((pre.length : Int)).toNat y = pre ++ y :: suf := by
  simp
theorem mid_lt {α : Type} (pre : List α) (x : α) (suf : List α) : (pre.length : Int) < ((pre ++ x :: suf).length : Int) := by
  simp; omega
theorem mid_lt' {α : Type} (pre : List α) (x : α) (suf : List α) (n : Nat) (h : pre.length = n) : (n : Int) < ((pre ++ x :: suf).length : Int) := by
  simp; omega
theorem nil_nlt {α : Type} (pre : List α) : ¬ ((pre.length : Int) < ((pre ++ []).length : Int)) := by simp
theorem len_nn (n : Nat) : (0 : Int) ≤ (n : Int) := by omega
theorem snoc_eq {α : Type} (pre : List α) (x : α) (suf : List α) : pre ++ x :: suf = (pre ++ [x]) ++ suf := by simp
theorem snoc_len {α : Type} (pre : List α) (x : α) : ((pre.length + 1 : Nat) : Int) = ((pre ++ [x]).length : Int) := by simp
def inR (n a b : Int) : Bool := decide (a ≤ n ∧ n ≤ b)
theorem inR_true {n a b : Int} : inR n a b = true ↔ a ≤ n ∧ n ≤ b := by simp [inR]
theorem inR_false {n a b : Int} : inR n a b = false ↔ ¬ (a ≤ n ∧ n ≤ b) := by simp [inR]
def Big (k : Nat) : Prop := 9900000 ≤ k
theorem big_out {k : Nat} (h : Big k) : 9900000 ≤ k := h
theorem big_succ {k : Nat} (h : Big k) : Big (k + 1) := by unfold Big at *; omega
theorem big_some : ∃ K : Nat, Big K := ⟨9900000, Nat.le_refl _⟩
theorem big_pred {k : Nat} (h : Big k) (n : Nat) (hn : n ≤ 1048577) : n < k := by unfold Big at h; omega
def Ok {α : Type} (l : List α) : Prop := l.length ≤ 1048576
theorem ok_out {α : Type} {l : List α} (h : Ok l) : l.length ≤ 1048576 := h
theorem ok_map {α β : Type} {f : α → β} {l : List α} (h : Ok l) : Ok (l.map f) := by unfold Ok at *; simpa using h
theorem ok_filter {α : Type} {f : α → Bool} {l : List α} (h : Ok l) : Ok (l.filter f) := by unfold Ok at *; exact Nat.le_trans (List.length_filter_le _ _) h
theorem ok_small {α : Type} {l : List α} (n : Nat) (h : l.length ≤ n) (hn : n ≤ 1048576) : Ok l := by unfold Ok; omega

def Lv (n k : Nat) : Prop := n * 1100000 ≤ k
theorem lv_out {n k : Nat} (h : Lv n k) : n * 1100000 ≤ k := h
theorem lv {n k : Nat} (h : Big k) (hn : n ≤ 9 := by decide) : Lv n k := by unfold Big at h; unfold Lv; omega
theorem lv_succ {n k : Nat} (h : Lv n k) : Lv n (k + 1) := by unfold Lv at *; omega
theorem lv_pred {n k : Nat} (h : Lv (n + 1) k) (m : Nat) (hm : m ≤ 1048580) : m < k := by unfold Lv at h; omega
theorem lv_mono {n m k : Nat} (h : Lv n k) (hm : m ≤ n := by decide) : Lv m k := Nat.le_trans (Nat.mul_le_mul_right _ hm) h
def idxF {α : Type} (p : α → Bool) : Nat → List α → Int
  | _, [] => -1
  | n, x :: xs => if p x = true then (n : Int) else idxF p (n + 1) xs
theorem idxF_any {α : Type} (p : α → Bool) : ∀ (l : List α) (n : Nat), decide (idxF p n l ≥ 0) = l.any p
  | [], n => by simp [idxF]
  | x :: xs, n => by
    rw [idxF, List.any_cons]
    cases hx : p x with
    | true => simp
    | false => simp [idxF_any p xs (n + 1)]
theorem idxF_find {α : Type} (p : α → Bool) : ∀ (l : List α) (n : Nat), (idxF p n l = -1 ∧ l.find? p = none) ∨ ∃ (i : Nat) (x : α), idxF p n l = ((n + i : Nat) : Int) ∧ l[i]? = some x ∧ l.find? p = some x
  | [], n => Or.inl ⟨rfl, rfl⟩
  | x :: xs, n => by
    cases hx : p x with
    | true => exact Or.inr ⟨0, x, by simp [idxF, hx], rfl, by simp [hx]⟩
    | false =>
      rcases idxF_find p xs (n + 1) with ⟨h1, h2⟩ | ⟨i, y, h1, h2, h3⟩
      · exact Or.inl ⟨by simp [idxF, hx, h1], by simp [hx, h2]⟩
      · exact Or.inr ⟨i + 1, y, by simp only [idxF, hx, Bool.false_eq_true, if_false, h1]; omega, by simpa using h2, by simp [hx, h3]⟩
theorem le24 (n : Nat) : decide ((n : Int) ≤ 24) = decide (n ≤ 24) := by
  rw [decide_eq_decide]; omega
def storedOk (x : S128) : Bool := inR x.f0 1 5 && (inR x.f1 0 9 && (inR x.f2 0 999 && inR x.f3 1 999))
def lessS (a b : S128) : Bool := decide (a.f0 < b.f0) || (decide (a.f0 = b.f0) && decide (a.f1 < b.f1))
def chainS : S128 → List S128 → Bool
  | _, [] => true
  | a, x :: xs => storedOk x && (lessS a x && chainS x xs)
def goodS : List S128 → Bool
  | [] => true
  | x :: xs => storedOk x && chainS x xs
def isStore (l : List S128) : Bool := goodS l && decide (l.length ≤ 24)
def keyS (a b : Int) (x : S128) : Bool := x.f0 == a && x.f1 == b
def getV (l : List S128) (a b : Int) : Int × Bool := match l.find? (keyS a b) with
  | some x => (x.f2, true)
  | none => (0, false)
theorem rd128_mid (pre : List S128) (x : S128) (suf : List S128) : rd_T128 (pre ++ x :: suf) (pre.length : Int) = x := getD_mid pre x suf z128
theorem spec_l24Find_l (a b : Int) (suf : List S128) : ∀ (pre : List S128) (k : Nat) , (pre ++ suf).length ≤ 1048576 → suf.length < k →
    spec_l24Find.l0 k (pre ++ suf) a b (pre.length : Int) = some (idxF (keyS a b) pre.length suf) := by
  induction suf with
  | nil =>
    intro pre k  hb hk
    obtain ⟨k, rfl⟩ := succ_of hk
    rw [spec_l24Find.l0, if_neg (nil_nlt pre)]
    rfl
  | cons x suf ih =>
    intro pre k  hb hk
    obtain ⟨k, rfl⟩ := succ_of hk
    have hp : pre.length + suf.length < 1048576 := by simp at hb; omega
    have hk1 : suf.length < k := by simpa using hk
    have hb1 : (pre ++ [x] ++ suf).length ≤ 1048576 := by simpa using hb
    have ih1 := ih (pre ++ [x]) k
    rw [spec_l24Find.l0, if_pos (mid_lt _ _ _), if_pos (len_nn _)]
    try simp only [rd128_mid, Option.bind_some]
    rw [wrap_nat (by omega), snoc_len pre x, snoc_eq pre x suf]
    rw [ih1 hb1 hk1, idxF, keyS]
    by_cases h1 : x.f0 = a <;> by_cases h2 : x.f1 = b <;> simp [h1, h2]
theorem spec_l24Find_e {k : Nat} {l : List S128} {a b : Int} (hk : Lv 1 k) (hl : Ok l) : spec_l24Find.f k l a b = some (idxF (keyS a b) 0 l) := by
  have hl' := ok_out hl
  unfold spec_l24Find.f
  simpa using spec_l24Find_l a b l [] k (by simpa using hl') (lv_pred hk _ (by omega))
theorem spec_GetStored_e {k : Nat} {l : List S128} {a b : Int} (hk : Lv 1 k) (hl : Ok l) : spec_GetStored.f k l a b = some (getV l a b) := by
  have hl' := ok_out hl
  unfold spec_GetStored.f getV
  rw [spec_l24Find_e hk hl, Option.bind_some]
  rcases idxF_find (keyS a b) l 0 with ⟨h1, h2⟩ | ⟨i, x, h1, h2, h3⟩
  · rw [h1, h2, if_pos (by omega)]
  · have hi := (List.getElem?_eq_some_iff.1 h2).1
    rw [h1, h3, if_neg (by omega), if_pos (by omega), if_pos (by omega)]
    have hr : rd_T128 l ((0 + i : Nat) : Int) = x := by
      unfold rd_T128
      rw [List.getD_eq_getElem?_getD, Int.toNat_natCast, Nat.zero_add, h2]
      rfl
    rw [hr]
def readwV (base own : List S128) (a b : Int) : Int × Bool := if (getV own a b).2 = true then ((getV own a b).1, true) else getV base a b
theorem spec_ReadWindow_e {k : Nat} (p : Bool) (base own : List S128) (a b : Int) (hk : Lv 1 k) (hb : Ok base) (ho : Ok own) : spec_ReadWindow.f k p base own a b = some (readwV base own a b) := by
  unfold spec_ReadWindow.f readwV
  rw [spec_GetStored_e hk ho, Option.bind_some, spec_GetStored_e hk hb, Option.bind_some]
  split <;> rfl
theorem impl_placeOf_l (a b : Int) (suf : List S128) : ∀ (pre : List S128) (k : Nat) , (pre ++ suf).length ≤ 1048576 → suf.length < k →
    impl_placeOf.l0 k a b (pre ++ suf) ((pre ++ suf).length : Int) (pre.length : Int) = some (idxF (keyS a b) pre.length suf) := by
  induction suf with
  | nil =>
    intro pre k  hb hk
    obtain ⟨k, rfl⟩ := succ_of hk
    rw [impl_placeOf.l0, if_neg (nil_nlt pre)]
    rfl
  | cons x suf ih =>
    intro pre k  hb hk
    obtain ⟨k, rfl⟩ := succ_of hk
    have hp : pre.length + suf.length < 1048576 := by simp at hb; omega
    have hk1 : suf.length < k := by simpa using hk
    have hb1 : (pre ++ [x] ++ suf).length ≤ 1048576 := by simpa using hb
    have ih1 := ih (pre ++ [x]) k
    rw [impl_placeOf.l0, if_pos (mid_lt _ _ _), if_pos (len_nn _), if_pos (mid_lt _ _ _)]
    try simp only [rd128_mid, Option.bind_some]
    rw [wrap_nat (by omega), snoc_len pre x, snoc_eq pre x suf]
    rw [ih1 hb1 hk1, idxF, keyS]
    by_cases h1 : x.f0 = a <;> by_cases h2 : x.f1 = b <;> simp [h1, h2]
theorem impl_placeOf_e {k : Nat} {l : List S128} {a b : Int} (hk : Lv 1 k) (hl : Ok l) : impl_placeOf.f k l a b = some (idxF (keyS a b) 0 l) := by
  have hl' := ok_out hl
  unfold impl_placeOf.f
  simpa using impl_placeOf_l a b l [] k (by simpa using hl') (lv_pred hk _ (by omega))
theorem impl_GetStored_e {k : Nat} {l : List S128} {a b : Int} (hk : Lv 1 k) (hl : Ok l) : impl_GetStored.f k l a b = some (getV l a b) := by
  have hl' := ok_out hl
  unfold impl_GetStored.f getV
  rw [impl_placeOf_e hk hl, Option.bind_some]
  rcases idxF_find (keyS a b) l 0 with ⟨h1, h2⟩ | ⟨i, x, h1, h2, h3⟩
  · rw [h1, h2, if_pos (by omega)]
  · have hi := (List.getElem?_eq_some_iff.1 h2).1
    rw [h1, h3, if_neg (by omega), if_pos (by omega), if_pos (by omega)]
    have hr : rd_T128 l ((0 + i : Nat) : Int) = x := by
      unfold rd_T128
      rw [List.getD_eq_getElem?_getD, Int.toNat_natCast, Nat.zero_add, h2]
      rfl
    rw [hr]
theorem impl_ReadWindow_e {k : Nat} (p : Bool) (base own : List S128) (a b : Int) (hk : Lv 1 k) (hb : Ok base) (ho : Ok own) : impl_ReadWindow.f k p base own a b = some (readwV base own a b) := by
  unfold impl_ReadWindow.f readwV
  rw [impl_GetStored_e hk ho, Option.bind_some, impl_GetStored_e hk hb, Option.bind_some]
  split <;> rfl
theorem laws_szStoredS_no {l : List S145} {a : Int} (h0 : 0 ≤ a) (h1 : a ≤ 1048576) (h : l.length ≤ maxLen) (hn : a < l.length) : laws_szStoredS.f l a = some (-1) := by
  unfold maxLen at h
  unfold laws_szStoredS.f
  rw [wrap_id (by omega), if_pos (by omega)]
theorem laws_szStoredS_yes {l : List S145} {a : Int} (h0 : 0 ≤ a) (h1 : a ≤ 1048576) (hn : l.length ≤ a) : laws_szStoredS.f l a = some (a - l.length) := by
  unfold laws_szStoredS.f
  rw [wrap_id (by omega), if_neg (by omega)]
theorem rd145_mid (pre : List S145) (x : S145) (suf : List S145) : rd_T145 (pre ++ x :: suf) (pre.length : Int) = x := getD_mid pre x suf z145
def cv_Stored (x : S145) : S128 := (⟨x.f0, x.f1, x.f2, x.f3⟩ : S128)
theorem laws_toStoredS_l (suf : List S145) : ∀ (pre : List S145) (k : Nat), (pre ++ suf).length ≤ 1048576 → suf.length < k →
    laws_toStoredS.l0 k (pre ++ suf) (pre.map cv_Stored ++ List.replicate suf.length z128) (pre.length : Int) = some ((pre ++ suf).map cv_Stored) := by
  induction suf with
  | nil =>
    intro pre k hb hk
    obtain ⟨k, rfl⟩ := succ_of hk
    rw [laws_toStoredS.l0, if_neg (nil_nlt pre)]
    simp
  | cons x suf ih =>
    intro pre k hb hk
    obtain ⟨k, rfl⟩ := succ_of hk
    have hp : pre.length ≤ 1048576 := by simp at hb; omega
    have hm : (pre.length : Int) = ((pre.map cv_Stored).length : Int) := by simp
    have h := ih (pre ++ [x]) k (by simpa using hb) (by simpa using hk)
    rw [laws_toStoredS.l0, if_pos (mid_lt _ _ _), if_pos (len_nn _), rd145_mid]
    simp only [laws_toStored.f, Option.bind_some]
    rw [if_pos (by simp; omega), List.length_cons, List.replicate_succ, hm, set_mid, wrap_nat (by simpa using Nat.le_trans hp (by omega)), snoc_eq pre x suf]
    rw [snoc_eq (pre.map cv_Stored)]
    simp only [List.map_append, List.map_cons, List.map_nil, List.length_append, List.length_map, List.length_cons, List.length_nil, Nat.zero_add] at h ⊢
    exact h
theorem laws_toStoredS_e {k : Nat} {l : List S145} (hk : Big k) (hl : Ok l) : laws_toStoredS.f k l = some (l.map cv_Stored) := by
  have hl' := ok_out hl
  unfold laws_toStoredS.f
  rw [if_pos (len_nn _), if_pos (by omega)]
  simpa using laws_toStoredS_l l [] k (by simpa using hl') (big_pred hk _ (by omega))
theorem laws_eqStoredS_l (suf : List S128) : ∀ (pre : List S128) (k : Nat), (pre ++ suf).length ≤ 1048576 → suf.length < k →
    laws_eqStoredS.l0 k (pre ++ suf) (pre ++ suf) (pre.length : Int) = some true := by
  induction suf with
  | nil =>
    intro pre k hb hk
    obtain ⟨k, rfl⟩ := succ_of hk
    rw [laws_eqStoredS.l0, if_neg (nil_nlt pre)]
  | cons x suf ih =>
    intro pre k hb hk
    obtain ⟨k, rfl⟩ := succ_of hk
    have hp : pre.length ≤ 1048576 := by simp at hb; omega
    have h := ih (pre ++ [x]) k (by simpa using hb) (by simpa using hk)
    rw [laws_eqStoredS.l0, if_pos (mid_lt _ _ _), if_pos (len_nn _), if_pos (mid_lt _ _ _), rd128_mid, wrap_nat (by omega), snoc_len pre x, snoc_eq pre x suf, h]
    simp [laws_eqStored.f]
theorem laws_eqStoredS_e {k : Nat} {l : List S128} (hk : Big k) (hl : Ok l) : laws_eqStoredS.f k l l = some true := by
  have hl' := ok_out hl
  unfold laws_eqStoredS.f
  rw [if_pos rfl]
  simpa using laws_eqStoredS_l l [] k (by simpa using hl') (big_pred hk _ (by omega))

theorem FnExactReadWindow : ∀ (a0_0 : Bool) (l0_1 : List (S145)) (l0_2 : List (S145)) (a1 : Int) (a2 : Int), l0_1.length ≤ maxLen → (∀ x ∈ l0_1, (Lit.int .i64 x.f0).wf = true ∧ (Lit.int .i64 x.f1).wf = true ∧ (Lit.int .i64 x.f2).wf = true ∧ (Lit.int .i64 x.f3).wf = true) → l0_2.length ≤ maxLen → (∀ x ∈ l0_2, (Lit.int .i64 x.f0).wf = true ∧ (Lit.int .i64 x.f1).wf = true ∧ (Lit.int .i64 x.f2).wf = true ∧ (Lit.int .i64 x.f3).wf = true) → (Lit.int .i64 a1).wf = true → (Lit.int .i64 a2).wf = true → ∃ k, laws_FnExactReadWindow.f k a0_0 l0_1 l0_2 a1 a2 = some true := by
  intro a0_0 l0_1 l0_2 a1 a2 hm0_1 _ hm0_2 _ _ _
  by_cases hn0 : (1048576 : Int) < l0_1.length
  · refine ⟨0, ?_⟩
    unfold laws_FnExactReadWindow.f
    simp only [laws_szWindow.f]
    rw [laws_szStoredS_no (by omega) (by omega) hm0_1 hn0]
    rfl
  by_cases hn1 : (1048576 : Int) - l0_1.length < l0_2.length
  · refine ⟨0, ?_⟩
    unfold laws_FnExactReadWindow.f
    simp only [laws_szWindow.f]
    rw [laws_szStoredS_yes (by omega) (by omega) (by omega), Option.bind_some, if_neg (by omega), laws_szStoredS_no (by omega) (by omega) hm0_2 hn1]
    rfl
  obtain ⟨k, hk⟩ := big_some
  have hk0 := big_succ hk
  have hl0_1 : Ok l0_1 := by unfold Ok; omega
  have hl0_2 : Ok l0_2 := by unfold Ok; omega
  have hc0_1 : Ok (l0_1.map cv_Stored) := ok_map (f := cv_Stored) hl0_1
  have hcl0_1 := ok_out hc0_1
  have hc0_2 : Ok (l0_2.map cv_Stored) := ok_map (f := cv_Stored) hl0_2
  have hcl0_2 := ok_out hc0_2
  have hT0_1 := laws_toStoredS_e hk0 hl0_1
  have hE0_1 := laws_eqStoredS_e hk0 hc0_1
  have hT0_2 := laws_toStoredS_e hk0 hl0_2
  have hE0_2 := laws_eqStoredS_e hk0 hc0_2
  have hP := spec_ReadWindow_e a0_0 (l0_1.map cv_Stored) (l0_2.map cv_Stored) a1 a2 (lv hk0) hc0_1 hc0_2
  have hI := impl_ReadWindow_e a0_0 (l0_1.map cv_Stored) (l0_2.map cv_Stored) a1 a2 (lv hk0) hc0_1 hc0_2
  have hT0_1' := laws_toStoredS_e hk hl0_1
  have hE0_1' := laws_eqStoredS_e hk hc0_1
  have hT0_2' := laws_toStoredS_e hk hl0_2
  have hE0_2' := laws_eqStoredS_e hk hc0_2
  have hP' := spec_ReadWindow_e a0_0 (l0_1.map cv_Stored) (l0_2.map cv_Stored) a1 a2 (lv hk) hc0_1 hc0_2
  have hI' := impl_ReadWindow_e a0_0 (l0_1.map cv_Stored) (l0_2.map cv_Stored) a1 a2 (lv hk) hc0_1 hc0_2
  refine ⟨k + 1, ?_⟩
  unfold laws_FnExactReadWindow.f
  simp only [laws_szWindow.f]
  rw [laws_szStoredS_yes (by omega) (by omega) (by omega), Option.bind_some, if_neg (by omega), laws_szStoredS_yes (by omega) (by omega) (by omega), Option.bind_some, if_neg (by omega), Option.bind_some, if_neg (by omega)]
  simp only [laws_FnExactReadWindow.j0, hT0_1, hE0_1, hT0_2, hE0_2, hP, hI, hT0_1', hE0_1', hT0_2', hE0_2', hP', hI', laws_toWindow.f, laws_eqWindow.f, Option.bind_some, if_true, bne_self_eq_false, Bool.false_eq_true, if_false, Bool.not_true, Bool.not_false]
end Go.Proofs.Ytdpmigainnmegaa.Pure
