/- The law FnExactOpenWindow as a statement over numbers and lists, with its proof; no conditions but the ranges that the values' types and the slices' lengths have. -/
import Derived.Test.YtdpmigainnmegaaPFnExactOpenWindowx7
namespace Go.Proofs.Ytdpmigainnmegaa.Pure
open Go.RowKit Go.Proofs.Ytdpmigainnmegaa.PFnExactOpenWindow Go.Proofs.YtdpmigainnmegaaW.PrintWords Go.Proofs.YtdpmigainnmegaaW.PrintLast Go.Proofs.YtdpmigainnmegaaW.PrintMore
set_option linter.unusedVariables false
set_option linter.unusedSimpArgs false
/-! ### numbers, lists, rounds -/
theorem wf64 {n : Int} (h : (Lit.int .i64 n).wf = true) : -9223372036854775808 ≤ n ∧ n ≤ 9223372036854775807 := by
  simp [Lit.wf, IntKind.min, IntKind.max, IntKind.bits, IntKind.signed] at h
  omega
theorem wrap_id {n : Int} (h : -9223372036854775808 ≤ n ∧ n ≤ 9223372036854775807) : wrap64 n = n := by
  unfold wrap64
  omega
theorem wrap_nat {n : Nat} (h : n ≤ 1000000000000) : wrap64 ((n : Int) + 1) = ((n + 1 : Nat) : Int) := by
  unfold wrap64
  omega
theorem succ_of {m k : Nat} (h : m < k) : ∃ q, k = q + 1 := ⟨k - 1, by omega⟩
theorem ite_t {p : Prop} [Decidable p] {α : Type} {a b : α} (h : p) : (if p then a else b) = a := if_pos h
theorem ite_f {p : Prop} [Decidable p] {α : Type} {a b : α} (h : ¬ p) : (if p then a else b) = b := if_neg h
theorem bind_of {α β : Type} {x : Option α} {a : α} {f : α → Option β} {r : Option β} (h : x = some a) (h2 : f a = r) : x.bind f = r := by rw [h]; exact h2
theorem getD_mid {α : Type} (pre : List α) (x : α) (suf : List α) (z : α) : (pre ++ x :: suf).getD ((pre.length : Int)).toNat z = x := by
  simp
theorem rd_mid (pre : List Int) (x : Int) (suf : List Int) : rd (pre ++ x :: suf) (pre.length : Int) = x := by
  simp [rd]
theorem set_mid {α : Type} (pre : List α) (x y : α) (suf : List α) : (pre ++ x :: suf).set ((pre.length : Int)).toNat y = pre ++ y :: suf := by
  simp
theorem mid_lt {α : Type} (pre : List α) (x : α) (suf : List α) : (pre.length : Int) < ((pre ++ x :: suf).length : Int) := by
  simp; omega
theorem mid_lt' {α : Type} (pre : List α) (x : α) (suf : List α) (n : Nat) (h : pre.length = n) : (n : Int) < ((pre ++ x :: suf).length : Int) := by
  simp; omega
theorem nil_nlt {α : Type} (pre : List α) : ¬ ((pre.length : Int) < ((pre ++ []).length : Int)) := by simp
theorem len_nn (n : Nat) : (0 : Int) ≤ (n : Int) := by omega
theorem snoc_eq {α : Type} (pre : List α) (x : α) (suf : List α) : pre ++ x :: suf = (pre ++ [x]) ++ suf := by simp
theorem snoc_len {α : Type} (pre : List α) (x : α) : ((pre.length + 1 : Nat) : Int) = ((pre ++ [x]).length : Int) := by simp
def inR (n a b : Int) : Bool := decide (a ≤ n ∧ n ≤ b)
theorem inR_true {n a b : Int} : inR n a b = true ↔ a ≤ n ∧ n ≤ b := by simp [inR]
theorem inR_false {n a b : Int} : inR n a b = false ↔ ¬ (a ≤ n ∧ n ≤ b) := by simp [inR]
def Big (k : Nat) : Prop := 9900000 ≤ k
theorem big_out {k : Nat} (h : Big k) : 9900000 ≤ k := h
theorem big_succ {k : Nat} (h : Big k) : Big (k + 1) := by unfold Big at *; omega
theorem big_some : ∃ K : Nat, Big K := ⟨9900000, Nat.le_refl _⟩
theorem big_pred {k : Nat} (h : Big k) (n : Nat) (hn : n ≤ 1048577) : n < k := by unfold Big at h; omega
def Ok {α : Type} (l : List α) : Prop := l.length ≤ 1048576
theorem ok_out {α : Type} {l : List α} (h : Ok l) : l.length ≤ 1048576 := h
theorem ok_map {α β : Type} {f : α → β} {l : List α} (h : Ok l) : Ok (l.map f) := by unfold Ok at *; simpa using h
theorem ok_filter {α : Type} {f : α → Bool} {l : List α} (h : Ok l) : Ok (l.filter f) := by unfold Ok at *; exact Nat.le_trans (List.length_filter_le _ _) h
theorem ok_small {α : Type} {l : List α} (n : Nat) (h : l.length ≤ n) (hn : n ≤ 1048576) : Ok l := by unfold Ok; omega

def Lv (n k : Nat) : Prop := n * 1100000 ≤ k
theorem lv_out {n k : Nat} (h : Lv n k) : n * 1100000 ≤ k := h
theorem lv {n k : Nat} (h : Big k) (hn : n ≤ 9 := by decide) : Lv n k := by unfold Big at h; unfold Lv; omega
theorem lv_succ {n k : Nat} (h : Lv n k) : Lv n (k + 1) := by unfold Lv at *; omega
theorem lv_pred {n k : Nat} (h : Lv (n + 1) k) (m : Nat) (hm : m ≤ 1048580) : m < k := by unfold Lv at h; omega
theorem lv_mono {n m k : Nat} (h : Lv n k) (hm : m ≤ n := by decide) : Lv m k := Nat.le_trans (Nat.mul_le_mul_right _ hm) h
theorem spec_l1In_e (n a b : Int) : spec_l1In.f n a b = some (inR n a b) := by
  unfold spec_l1In.f inR
  by_cases h : n ≥ a
  · rw [if_pos h]; simp [show a ≤ n from h]
  · rw [if_neg h]; simp [show ¬ a ≤ n from h]
theorem le24 (n : Nat) : decide ((n : Int) ≤ 24) = decide (n ≤ 24) := by
  rw [decide_eq_decide]; omega
def storedOk (x : S128) : Bool := inR x.f0 1 5 && (inR x.f1 0 9 && (inR x.f2 0 999 && inR x.f3 1 999))
def lessS (a b : S128) : Bool := decide (a.f0 < b.f0) || (decide (a.f0 = b.f0) && decide (a.f1 < b.f1))
def chainS : S128 → List S128 → Bool
  | _, [] => true
  | a, x :: xs => storedOk x && (lessS a x && chainS x xs)
def goodS : List S128 → Bool
  | [] => true
  | x :: xs => storedOk x && chainS x xs
def isStore (l : List S128) : Bool := goodS l && decide (l.length ≤ 24)
theorem spec_l24Less_e (a b : S128) : spec_l24Less.f a.f0 a.f1 a.f2 a.f3 b.f0 b.f1 b.f2 b.f3 = some (lessS a b) := by
  unfold spec_l24Less.f lessS
  by_cases h1 : a.f0 < b.f0 <;> by_cases h2 : a.f0 = b.f0 <;> simp [h1, h2]
theorem rd128_mid (pre : List S128) (x : S128) (suf : List S128) : rd_T128 (pre ++ x :: suf) (pre.length : Int) = x := getD_mid pre x suf z128
theorem spec_IsStore_l (suf : List S128) : ∀ (pre : List S128) (a : S128) (k : Nat), (pre ++ [a] ++ suf).length ≤ 1048576 → 2 * suf.length < k →
    spec_IsStore.l0 k (pre ++ [a] ++ suf) ((pre ++ [a]).length : Int) = some (chainS a suf && decide ((pre ++ [a] ++ suf).length ≤ 24)) := by
  induction suf with
  | nil =>
    intro pre a k hb hk
    obtain ⟨k, rfl⟩ := succ_of (show 0 < k by omega)
    rw [spec_IsStore.l0, if_neg (nil_nlt (pre ++ [a]))]
    rw [le24]; simp [chainS]
  | cons x suf ih =>
    intro pre a k hb hk
    simp only [List.length_cons] at hk
    obtain ⟨k, rfl⟩ : ∃ q, k = q + 2 := ⟨k - 2, by omega⟩
    have hp : pre.length + suf.length + 1 < 1048576 := by simp at hb; omega
    have h := ih (pre ++ [a]) x k (by simp only [List.length_append, List.length_cons, List.length_nil] at hb ⊢; omega) (by omega)
    have hd : wrap64 (((pre ++ [a]).length : Int) - 1) = (pre.length : Int) := by rw [wrap_id (by simp; omega)]; simp
    have ra : rd_T128 (pre ++ [a] ++ x :: suf) (pre.length : Int) = a := by rw [List.append_assoc]; exact rd128_mid pre a ([] ++ x :: suf)
    have la : (pre.length : Int) < ((pre ++ [a] ++ x :: suf).length : Int) := by simp; omega
    have gt : ((pre ++ [a]).length : Int) > 0 := by simp only [List.length_append, List.length_cons, List.length_nil]; omega
    rw [spec_IsStore.l0, if_pos (mid_lt (pre ++ [a]) x suf), if_pos (len_nn _), rd128_mid (pre ++ [a]) x suf]
    simp only [spec_IsStore.j1]
    simp only [spec_l1In_e, Option.bind_some, hd, ra]
    rw [if_pos gt, if_pos (len_nn pre.length), if_pos la, spec_l24Less_e, Option.bind_some, wrap_nat (by simp; omega), snoc_len (pre ++ [a]) x, snoc_eq (pre ++ [a]) x suf, h, chainS, storedOk]
    skip
    cases inR x.f0 1 5 <;> cases inR x.f1 0 9 <;> cases inR x.f2 0 999 <;> cases inR x.f3 1 999 <;> cases hl : lessS a x <;> (try simp_all) <;> (try (intro hq; omega))
theorem spec_IsStore_e {k : Nat} {l : List S128} (hk : Lv 3 k) (hl : Ok l) : spec_IsStore.f k l = some (isStore l) := by
  have hl' := ok_out hl
  have hk' := lv_out hk
  unfold spec_IsStore.f isStore
  skip
  skip
  skip
  rcases l with _ | ⟨x, l⟩
  · obtain ⟨k, rfl⟩ := succ_of (show 0 < k by omega)
    rw [spec_IsStore.l0, if_neg (by simp)]
    simp [goodS]
  · obtain ⟨k, rfl⟩ : ∃ q, k = q + 2 := ⟨k - 2, by omega⟩
    have h := spec_IsStore_l l [] x k (by simpa using hl') (by simp at hl'; omega)
    have r0 : rd_T128 (x :: l) 0 = x := rfl
    have w1 : wrap64 ((0 : Int) + 1) = 1 := wrap_id (by omega)
    rw [spec_IsStore.l0, if_pos (by simp only [List.length_cons]; omega), if_pos (by omega), r0]
    simp only [spec_IsStore.j1]
    simp only [spec_l1In_e, Option.bind_some, w1]
    rw [if_neg (show ¬ ((0 : Int) > 0) by omega)]
    simp only [List.nil_append, List.singleton_append, List.length_cons, List.length_nil, Nat.zero_add] at h
    skip
    rw [show ((1 : Nat) : Int) = 1 from rfl] at h
    rw [h, goodS, storedOk]
    cases inR x.f0 1 5 <;> cases inR x.f1 0 9 <;> cases inR x.f2 0 999 <;> cases inR x.f3 1 999 <;> simp [Nat.add_comm]
def openV (l : List S128) : List S128 := if isStore l = true then l else []
theorem openV_ok {l : List S128} (h : Ok l) : Ok (openV l) := by
  unfold openV
  split
  · exact h
  · exact ok_small 0 (by simp) (by omega)
theorem spec_OpenWindow_e {k : Nat} {l : List S128} (a : Bool) (hk : Lv 3 k) (hl : Ok l) : spec_OpenWindow.f k l a = some (isStore l && a, openV l, []) := by
  have hl' := ok_out hl
  unfold spec_OpenWindow.f spec_l25Copy.f openV
  rw [spec_IsStore_e hk hl, Option.bind_some]
  simp only [Option.bind_some, List.length_nil, List.nil_append]
  rw [if_pos (show 0 + l.length < 4398046511104 by omega), if_pos (show 0 + 0 < 4398046511104 by omega)]
  cases isStore l <;> simp
theorem impl_InRange_e (n a b : Int) : impl_InRange.f n a b = some (inR n a b) := by
  unfold impl_InRange.f inR
  by_cases h : a ≤ n
  · rw [if_pos h]; simp [h]
  · rw [if_neg h]; simp [h]
def cmpV (a b : Int) : Int := if a < b then -1 else if b < a then 1 else 0
theorem cmp_Compare_e (a b : Int) : cmp_Compare_int.f a b = some (cmpV a b) := by
  unfold cmp_Compare_int.f cmp_isNaN_int.f cmpV
  by_cases h1 : a < b <;> by_cases h2 : b < a <;> simp [h1, h2]
def cmpS (a b : S128) : Int := if cmpV a.f0 b.f0 = 0 then cmpV a.f1 b.f1 else cmpV a.f0 b.f0
theorem cmp_Or2_e {k : Nat} (a b : Int) (hk : Lv 1 k) : cmp_Or_int.f k [a, b] = some (if a = 0 then b else a) := by
  have hk' := lv_out hk
  obtain ⟨k, rfl⟩ : ∃ q, k = q + 3 := ⟨k - 3, by omega⟩
  unfold cmp_Or_int.f
  rw [cmp_Or_int.l0]
  have h1 : wrap64 ((0 : Int) + 1) = 1 := wrap_id (by omega)
  have h2 : wrap64 ((1 : Int) + 1) = 2 := wrap_id (by omega)
  have r0 : rd [a, b] 0 = a := rfl
  have r1 : rd [a, b] 1 = b := rfl
  simp only [h1, r0, List.length_cons, List.length_nil]
  rw [cmp_Or_int.l0]
  simp only [h2, r1, List.length_cons, List.length_nil]
  rw [cmp_Or_int.l0]
  by_cases ha : a = 0
  · by_cases hb : b = 0
    · simp [ha, hb]
    · simp [ha, hb]
  · simp [ha]
theorem impl_compareStored_e {k : Nat} (a b : S128) (hk : Lv 1 k) : impl_compareStored.f k a.f0 a.f1 a.f2 a.f3 b.f0 b.f1 b.f2 b.f3 = some (cmpS a b) := by
  unfold impl_compareStored.f cmpS
  rw [cmp_Compare_e, Option.bind_some, cmp_Compare_e, Option.bind_some, cmp_Or2_e _ _ hk, Option.bind_some]
theorem cmpS_less (a b : S128) : decide (cmpS a b ≥ 0) = !(lessS a b) := by
  unfold cmpS lessS cmpV
  by_cases h1 : a.f0 < b.f0
  · simp [h1]
  · by_cases h2 : b.f0 < a.f0
    · have : ¬ a.f0 = b.f0 := by omega
      simp [h1, h2, this]
    · have : a.f0 = b.f0 := by omega
      by_cases h3 : a.f1 < b.f1
      · simp [this, h3]
      · by_cases h4 : b.f1 < a.f1
        · simp [this, h3, h4]
        · simp [this, h3, h4]
theorem impl_IsStore_l (suf : List S128) : ∀ (pre : List S128) (a : S128) (k : Nat), (pre ++ [a] ++ suf).length ≤ 1048576 → suf.length + 1100000 < k →
    impl_IsStore.l0 k (pre ++ [a] ++ suf) (pre ++ [a] ++ suf) (((pre ++ [a] ++ suf)).length : Int) ((pre ++ [a]).length : Int) = some (chainS a suf) := by
  induction suf with
  | nil =>
    intro pre a k hb hk
    obtain ⟨k, rfl⟩ := succ_of (show 0 < k by omega)
    rw [impl_IsStore.l0, if_neg (nil_nlt (pre ++ [a]))]
    rfl
  | cons x suf ih =>
    intro pre a k hb hk
    simp only [List.length_cons] at hk
    obtain ⟨k, rfl⟩ : ∃ q, k = q + 1 := ⟨k - 1, by omega⟩
    have hp : pre.length + suf.length + 1 < 1048576 := by simp at hb; omega
    have h := ih (pre ++ [a]) x k (by simp only [List.length_append, List.length_cons, List.length_nil] at hb ⊢; omega) (by omega)
    have hd : wrap64 (((pre ++ [a]).length : Int) - 1) = (pre.length : Int) := by rw [wrap_id (by simp; omega)]; simp
    have ra : rd_T128 (pre ++ [a] ++ x :: suf) (pre.length : Int) = a := by rw [List.append_assoc]; exact rd128_mid pre a ([] ++ x :: suf)
    have la : (pre.length : Int) < ((pre ++ [a] ++ x :: suf).length : Int) := by simp; omega
    have gt : ((pre ++ [a]).length : Int) > 0 := by simp only [List.length_append, List.length_cons, List.length_nil]; omega
    rw [impl_IsStore.l0, if_pos (mid_lt (pre ++ [a]) x suf), if_pos (len_nn _), if_pos (mid_lt (pre ++ [a]) x suf), rd128_mid (pre ++ [a]) x suf]
    skip
    simp only [impl_InRange_e, Option.bind_some, hd, ra]
    rw [if_pos gt, if_pos (len_nn pre.length), if_pos la, impl_compareStored_e _ _ (show Lv 1 k by unfold Lv; omega), Option.bind_some, wrap_nat (by simp; omega), snoc_len (pre ++ [a]) x, snoc_eq (pre ++ [a]) x suf, h, chainS, storedOk]
    have hc := cmpS_less a x
    cases inR x.f0 1 5 <;> cases inR x.f1 0 9 <;> cases inR x.f2 0 999 <;> cases inR x.f3 1 999 <;> cases hl : lessS a x <;> (try simp_all) <;> (try (intro hq; omega))
theorem impl_IsStore_e {k : Nat} {l : List S128} (hk : Lv 2 k) (hl : Ok l) : impl_IsStore.f k l = some (isStore l) := by
  have hl' := ok_out hl
  have hk' := lv_out hk
  unfold impl_IsStore.f isStore
  by_cases h24 : (l.length : Int) > 24
  · rw [if_pos h24, decide_eq_false (by omega)]; simp
  rw [if_neg h24, decide_eq_true (show l.length ≤ 24 by omega), Bool.and_true]
  rcases l with _ | ⟨x, l⟩
  · obtain ⟨k, rfl⟩ := succ_of (show 0 < k by omega)
    rw [impl_IsStore.l0, if_neg (by simp)]
    simp [goodS]
  · obtain ⟨k, rfl⟩ : ∃ q, k = q + 1 := ⟨k - 1, by omega⟩
    have h := impl_IsStore_l l [] x k (by simpa using hl') (by simp at hl'; omega)
    have r0 : rd_T128 (x :: l) 0 = x := rfl
    have w1 : wrap64 ((0 : Int) + 1) = 1 := wrap_id (by omega)
    rw [impl_IsStore.l0, if_pos (by simp only [List.length_cons]; omega), if_pos (by omega), if_pos (by simp only [List.length_cons]; omega), r0]
    skip
    simp only [impl_InRange_e, Option.bind_some, w1]
    rw [if_neg (show ¬ ((0 : Int) > 0) by omega)]
    simp only [List.nil_append, List.singleton_append, List.length_cons, List.length_nil, Nat.zero_add] at h
    rw [show ((l.length + 1 : Nat) : Int) = (((x :: l).length : Nat) : Int) from rfl] at h
    rw [show ((1 : Nat) : Int) = 1 from rfl] at h
    rw [h, goodS, storedOk]
    cases inR x.f0 1 5 <;> cases inR x.f1 0 9 <;> cases inR x.f2 0 999 <;> cases inR x.f3 1 999 <;> simp
theorem slClone_Stored_e {l : List S128} (hl : Ok l) : impl_Stored.f l = some l := by
  have hl' := ok_out hl
  unfold impl_Stored.f
  rw [Option.bind_some, if_pos (by simp only [List.length_nil]; omega), List.nil_append]
theorem impl_OpenWindow_e {k : Nat} {l : List S128} (a : Bool) (hk : Lv 2 k) (hl : Ok l) : impl_OpenWindow.f k l a = some (isStore l && a, openV l, []) := by
  unfold impl_OpenWindow.f openV
  rw [impl_IsStore_e hk hl, Option.bind_some, slClone_Stored_e hl, Option.bind_some]
  cases isStore l <;> simp
theorem laws_szStoredS_no {l : List S145} {a : Int} (h0 : 0 ≤ a) (h1 : a ≤ 1048576) (h : l.length ≤ maxLen) (hn : a < l.length) : laws_szStoredS.f l a = some (-1) := by
  unfold maxLen at h
  unfold laws_szStoredS.f
  rw [wrap_id (by omega), if_pos (by omega)]
theorem laws_szStoredS_yes {l : List S145} {a : Int} (h0 : 0 ≤ a) (h1 : a ≤ 1048576) (hn : l.length ≤ a) : laws_szStoredS.f l a = some (a - l.length) := by
  unfold laws_szStoredS.f
  rw [wrap_id (by omega), if_neg (by omega)]
theorem rd145_mid (pre : List S145) (x : S145) (suf : List S145) : rd_T145 (pre ++ x :: suf) (pre.length : Int) = x := getD_mid pre x suf z145
def cv_Stored (x : S145) : S128 := (⟨x.f0, x.f1, x.f2, x.f3⟩ : S128)
theorem laws_toStoredS_l (suf : List S145) : ∀ (pre : List S145) (k : Nat), (pre ++ suf).length ≤ 1048576 → suf.length < k →
    laws_toStoredS.l0 k (pre ++ suf) (pre.map cv_Stored ++ List.replicate suf.length z128) (pre.length : Int) = some ((pre ++ suf).map cv_Stored) := by
  induction suf with
  | nil =>
    intro pre k hb hk
    obtain ⟨k, rfl⟩ := succ_of hk
    rw [laws_toStoredS.l0, if_neg (nil_nlt pre)]
    simp
  | cons x suf ih =>
    intro pre k hb hk
    obtain ⟨k, rfl⟩ := succ_of hk
    have hp : pre.length ≤ 1048576 := by simp at hb; omega
    have hm : (pre.length : Int) = ((pre.map cv_Stored).length : Int) := by simp
    have h := ih (pre ++ [x]) k (by simpa using hb) (by simpa using hk)
    rw [laws_toStoredS.l0, if_pos (mid_lt _ _ _), if_pos (len_nn _), rd145_mid]
    simp only [laws_toStored.f, Option.bind_some]
    rw [if_pos (by simp; omega), List.length_cons, List.replicate_succ, hm, set_mid, wrap_nat (by simpa using Nat.le_trans hp (by omega)), snoc_eq pre x suf]
    rw [snoc_eq (pre.map cv_Stored)]
    simp only [List.map_append, List.map_cons, List.map_nil, List.length_append, List.length_map, List.length_cons, List.length_nil, Nat.zero_add] at h ⊢
    exact h
theorem laws_toStoredS_e {k : Nat} {l : List S145} (hk : Big k) (hl : Ok l) : laws_toStoredS.f k l = some (l.map cv_Stored) := by
  have hl' := ok_out hl
  unfold laws_toStoredS.f
  rw [if_pos (len_nn _), if_pos (by omega)]
  simpa using laws_toStoredS_l l [] k (by simpa using hl') (big_pred hk _ (by omega))
theorem laws_eqStoredS_l (suf : List S128) : ∀ (pre : List S128) (k : Nat), (pre ++ suf).length ≤ 1048576 → suf.length < k →
    laws_eqStoredS.l0 k (pre ++ suf) (pre ++ suf) (pre.length : Int) = some true := by
  induction suf with
  | nil =>
    intro pre k hb hk
    obtain ⟨k, rfl⟩ := succ_of hk
    rw [laws_eqStoredS.l0, if_neg (nil_nlt pre)]
  | cons x suf ih =>
    intro pre k hb hk
    obtain ⟨k, rfl⟩ := succ_of hk
    have hp : pre.length ≤ 1048576 := by simp at hb; omega
    have h := ih (pre ++ [x]) k (by simpa using hb) (by simpa using hk)
    rw [laws_eqStoredS.l0, if_pos (mid_lt _ _ _), if_pos (len_nn _), if_pos (mid_lt _ _ _), rd128_mid, wrap_nat (by omega), snoc_len pre x, snoc_eq pre x suf, h]
    simp [laws_eqStored.f]
theorem laws_eqStoredS_e {k : Nat} {l : List S128} (hk : Big k) (hl : Ok l) : laws_eqStoredS.f k l l = some true := by
  have hl' := ok_out hl
  unfold laws_eqStoredS.f
  rw [if_pos rfl]
  simpa using laws_eqStoredS_l l [] k (by simpa using hl') (big_pred hk _ (by omega))
def mk_Stored : Int → List S128 → List S128
  | _, [] => []
  | m, _ :: xs => (⟨m, (m + 1), (m + 1 + 1), (m + 1 + 1 + 1)⟩ : S128) :: mk_Stored (m + 1 + 1 + 1 + 1) xs
theorem mk_Stored_len : ∀ (l : List S128) (m : Int), (mk_Stored m l).length = l.length
  | [], _ => rfl
  | _ :: l, m => by simp [mk_Stored, mk_Stored_len l]
theorem laws_markStoredS_l (suf : List S128) : ∀ (pre : List S128) (k : Nat) (m : Int), 0 ≤ m → m + 4 * (suf.length : Int) ≤ 1000000000000 → (pre ++ suf).length ≤ 1048576 → suf.length < k →
    laws_markStoredS.l0 k (pre ++ suf) m (pre.length : Int) = some (m + 4 * (suf.length : Int), pre ++ mk_Stored m suf) := by
  induction suf with
  | nil =>
    intro pre k m h0 h1 hb hk
    obtain ⟨k, rfl⟩ := succ_of hk
    rw [laws_markStoredS.l0, if_neg (nil_nlt pre)]
    simp [mk_Stored]
  | cons x suf ih =>
    intro pre k m h0 h1 hb hk
    obtain ⟨k, rfl⟩ := succ_of hk
    have hp : pre.length ≤ 1048576 := by simp at hb; omega
    have e1 : ((x :: suf).length : Int) = (suf.length : Int) + 1 := by simp
    rw [e1] at h1 ⊢
    have w0 : wrap64 (m + 1) = (m + 1) := wrap_id (by omega)
    have w1 : wrap64 ((m + 1) + 1) = (m + 1 + 1) := wrap_id (by omega)
    have w2 : wrap64 ((m + 1 + 1) + 1) = (m + 1 + 1 + 1) := wrap_id (by omega)
    have w3 : wrap64 ((m + 1 + 1 + 1) + 1) = (m + 1 + 1 + 1 + 1) := wrap_id (by omega)
    have h := ih (pre ++ [(⟨m, (m + 1), (m + 1 + 1), (m + 1 + 1 + 1)⟩ : S128)]) k (m + 1 + 1 + 1 + 1) (by omega) (by omega) (by simpa using hb) (by simpa using hk)
    rw [laws_markStoredS.l0, if_pos (mid_lt _ _ _), if_pos (len_nn _)]
    simp only [set_mid, rd128_mid, Option.bind_some, w0, w1, w2, w3]
    rw [wrap_nat (by omega), snoc_len pre (⟨m, (m + 1), (m + 1 + 1), (m + 1 + 1 + 1)⟩ : S128), snoc_eq pre (⟨m, (m + 1), (m + 1 + 1), (m + 1 + 1 + 1)⟩ : S128) suf]
    refine (h.trans ?_)
    have e2 : (m + 1 + 1 + 1 + 1) + 4 * (suf.length : Int) = m + 4 * ((suf.length : Int) + 1) := by omega
    rw [e2]
    simp [mk_Stored]
theorem laws_markStoredS_e {k : Nat} {l : List S128} {m : Int} (hk : Big k) (hl : Ok l) (h0 : 0 ≤ m) (h1 : m ≤ 100000000000) : laws_markStoredS.f k l m = some (m + 4 * (l.length : Int), mk_Stored m l) := by
  have hl' := ok_out hl
  unfold laws_markStoredS.f
  simpa using laws_markStoredS_l l [] k m h0 (by omega) (by simpa using hl') (big_pred hk _ (by omega))
theorem laws_heldStoredS_l (suf : List S128) : ∀ (pre : List S128) (k : Nat) (m : Int), 0 ≤ m → m + 4 * (suf.length : Int) ≤ 1000000000000 → (pre ++ suf).length ≤ 1048576 → suf.length < k →
    laws_heldStoredS.l0 k (pre ++ mk_Stored m suf) m (pre.length : Int) = some (m + 4 * (suf.length : Int)) := by
  induction suf with
  | nil =>
    intro pre k m h0 h1 hb hk
    obtain ⟨k, rfl⟩ := succ_of hk
    rw [laws_heldStoredS.l0, mk_Stored, if_neg (nil_nlt pre)]
    simp
  | cons x suf ih =>
    intro pre k m h0 h1 hb hk
    obtain ⟨k, rfl⟩ := succ_of hk
    have hp : pre.length ≤ 1048576 := by simp at hb; omega
    have e1 : ((x :: suf).length : Int) = (suf.length : Int) + 1 := by simp
    rw [e1] at h1 ⊢
    have w0 : wrap64 (m + 1) = (m + 1) := wrap_id (by omega)
    have w1 : wrap64 ((m + 1) + 1) = (m + 1 + 1) := wrap_id (by omega)
    have w2 : wrap64 ((m + 1 + 1) + 1) = (m + 1 + 1 + 1) := wrap_id (by omega)
    have w3 : wrap64 ((m + 1 + 1 + 1) + 1) = (m + 1 + 1 + 1 + 1) := wrap_id (by omega)
    have h := ih (pre ++ [(⟨m, (m + 1), (m + 1 + 1), (m + 1 + 1 + 1)⟩ : S128)]) k (m + 1 + 1 + 1 + 1) (by omega) (by omega) (by simpa using hb) (by simpa using hk)
    rw [laws_heldStoredS.l0, mk_Stored, if_pos (mid_lt _ _ _), if_pos (len_nn _)]
    simp only [rd128_mid, Option.bind_some, w0, w1, w2, w3, if_true, bne_self_eq_false, Bool.false_eq_true, if_false]
    rw [wrap_nat (by omega), snoc_len pre (⟨m, (m + 1), (m + 1 + 1), (m + 1 + 1 + 1)⟩ : S128), snoc_eq pre (⟨m, (m + 1), (m + 1 + 1), (m + 1 + 1 + 1)⟩ : S128) (mk_Stored _ suf)]
    refine (h.trans ?_)
    have e2 : (m + 1 + 1 + 1 + 1) + 4 * (suf.length : Int) = m + 4 * ((suf.length : Int) + 1) := by omega
    rw [e2]
theorem laws_heldStoredS_e {k : Nat} {l : List S128} {m : Int} (hk : Big k) (hl : Ok l) (h0 : 0 ≤ m) (h1 : m ≤ 100000000000) : laws_heldStoredS.f k (mk_Stored m l) m = some (m + 4 * (l.length : Int)) := by
  have hl' := ok_out hl
  unfold laws_heldStoredS.f
  simpa using laws_heldStoredS_l l [] k m h0 (by omega) (by simpa using hl') (big_pred hk _ (by omega))

theorem FnExactOpenWindow : ∀ (l0 : List (S145)) (a1 : Bool), l0.length ≤ maxLen → (∀ x ∈ l0, (Lit.int .i64 x.f0).wf = true ∧ (Lit.int .i64 x.f1).wf = true ∧ (Lit.int .i64 x.f2).wf = true ∧ (Lit.int .i64 x.f3).wf = true) → ∃ k, laws_FnExactOpenWindow.f k l0 a1 = some true := by
  intro l0 a1 hm0 _
  by_cases hn0 : (1048576 : Int) < l0.length
  · refine ⟨0, ?_⟩
    unfold laws_FnExactOpenWindow.f
    rw [laws_szStoredS_no (by omega) (by omega) hm0 hn0]
    rfl
  obtain ⟨k, hk⟩ := big_some
  have hk0 := big_succ hk
  have hl0 : Ok l0 := by unfold Ok; omega
  have hc0 : Ok (l0.map cv_Stored) := ok_map (f := cv_Stored) hl0
  have hcl0 := ok_out hc0
  have hT0 := laws_toStoredS_e hk0 hl0
  have hE0 := laws_eqStoredS_e hk0 hc0
  have hM0 := laws_markStoredS_e (m := 1) hk0 hc0 (by omega) (by omega)
  have hP := spec_OpenWindow_e a1 (lv hk0) hc0
  have hI := impl_OpenWindow_e a1 (lv hk0) hc0
  have hR0 : Ok (openV (l0.map cv_Stored)) := openV_ok hc0
  have hRl0 := ok_out hR0
  have hMR0 := laws_markStoredS_e (m := 1) hk0 hR0 (by omega) (by omega)
  have hHR0 := laws_heldStoredS_e (m := 1) hk0 hR0 (by omega) (by omega)
  have hER0 := laws_eqStoredS_e hk0 hR0
  have hR1 : Ok ([] : List S128) := ok_small 0 (by simp) (by omega)
  have hRl1 := ok_out hR1
  have hMR1 := laws_markStoredS_e (m := 1 + 4 * ((openV (l0.map cv_Stored)).length : Int)) hk0 hR1 (by omega) (by omega)
  have hHR1 := laws_heldStoredS_e (m := 1 + 4 * ((openV (l0.map cv_Stored)).length : Int)) hk0 hR1 (by omega) (by omega)
  have hER1 := laws_eqStoredS_e hk0 hR1
  have hT0' := laws_toStoredS_e hk hl0
  have hE0' := laws_eqStoredS_e hk hc0
  have hM0' := laws_markStoredS_e (m := 1) hk hc0 (by omega) (by omega)
  have hP' := spec_OpenWindow_e a1 (lv hk) hc0
  have hI' := impl_OpenWindow_e a1 (lv hk) hc0
  have hMR0' := laws_markStoredS_e (m := 1) hk hR0 (by omega) (by omega)
  have hHR0' := laws_heldStoredS_e (m := 1) hk hR0 (by omega) (by omega)
  have hER0' := laws_eqStoredS_e hk hR0
  have hMR1' := laws_markStoredS_e (m := 1 + 4 * ((openV (l0.map cv_Stored)).length : Int)) hk hR1 (by omega) (by omega)
  have hHR1' := laws_heldStoredS_e (m := 1 + 4 * ((openV (l0.map cv_Stored)).length : Int)) hk hR1 (by omega) (by omega)
  have hER1' := laws_eqStoredS_e hk hR1
  have hNa0 : ¬ ((1 : Int) + 4 * ((l0.map cv_Stored).length : Int) < 0) := by omega
  have hNr0 : ¬ ((1 : Int) + 4 * ((openV (l0.map cv_Stored)).length : Int) < 0) := by omega
  have hNr1 : ¬ ((1 : Int) + 4 * ((openV (l0.map cv_Stored)).length : Int) + 4 * (([] : List S128).length : Int) < 0) := by omega
  refine ⟨k + 1, ?_⟩
  unfold laws_FnExactOpenWindow.f
  rw [laws_szStoredS_yes (by omega) (by omega) (by omega), Option.bind_some, if_neg (by omega)]
  simp only [laws_FnExactOpenWindow.j0, hT0, hE0, hM0, hP, hI, hMR0, hHR0, hER0, hMR1, hHR1, hER1, hT0', hE0', hM0', hP', hI', hMR0', hHR0', hER0', hMR1', hHR1', hER1', hNa0, hNr0, hNr1, laws_eqWindow.f, laws_markWindow.f, laws_heldWindow.f, Option.bind_some, if_true, bne_self_eq_false, Bool.false_eq_true, if_false, Bool.not_true, Bool.not_false]
end Go.Proofs.Ytdpmigainnmegaa.Pure
