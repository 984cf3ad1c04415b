/- The law FnExactEqualTabs as a statement over numbers and lists, with its proof; no conditions but the ranges that the values' types and the slices' lengths have. -/
import Derived.Test.YtdpmigainnmegaaPFnExactEqualTabsx7
namespace Go.Proofs.Ytdpmigainnmegaa.Pure
open Go.RowKit Go.Proofs.Ytdpmigainnmegaa.PFnExactEqualTabs Go.Proofs.YtdpmigainnmegaaW.PrintWords Go.Proofs.YtdpmigainnmegaaW.PrintLast Go.Proofs.YtdpmigainnmegaaW.PrintMore
set_option linter.unusedVariables false
set_option linter.unusedSimpArgs false
/-! ### numbers, lists, rounds -/
theorem wf64 {n : Int} (h : (Lit.int .i64 n).wf = true) : -9223372036854775808 ≤ n ∧ n ≤ 9223372036854775807 := by
  simp [Lit.wf, IntKind.min, IntKind.max, IntKind.bits, IntKind.signed] at h
  omega
theorem wrap_id {n : Int} (h : -9223372036854775808 ≤ n ∧ n ≤ 9223372036854775807) : wrap64 n = n := by
  unfold wrap64
  omega
theorem wrap_nat {n : Nat} (h : n ≤ 1000000000000) : wrap64 ((n : Int) + 1) = ((n + 1 : Nat) : Int) := by
  unfold wrap64
  omega
theorem succ_of {m k : Nat} (h : m < k) : ∃ q, k = q + 1 := ⟨k - 1, by omega⟩
theorem ite_t {p : Prop} [Decidable p] {α : Type} {a b : α} (h : p) : (if p then a else b) = a := if_pos h
theorem ite_f {p : Prop} [Decidable p] {α : Type} {a b : α} (h : ¬ p) : (if p then a else b) = b := if_neg h
theorem bind_of {α β : Type} {x : Option α} {a : α} {f : α → Option β} {r : Option β} (h : x = some a) (h2 : f a = r) : x.bind f = r := by rw [h]; exact h2
theorem getD_mid {α : Type} (pre : List α) (x : α) (suf : List α) (z : α) : (pre ++ x :: suf).getD ((pre.length : Int)).toNat z = x := by
  simp
theorem rd_mid (pre : List Int) (x : Int) (suf : List Int) : rd (pre ++ x :: suf) (pre.length : Int) = x := by
  simp [rd]
theorem set_mid {α : Type} (pre : List α) (x y : α) (suf : List α) : (pre ++ x :: suf).set ((pre.length : Int)).toNat y = pre ++ y :: suf := by
  simp
theorem mid_lt {α : Type} (pre : List α) (x : α) (suf : List α) : (pre.length : Int) < ((pre ++ x :: suf).length : Int) := by
  simp; omega
theorem mid_lt' {α : Type} (pre : List α) (x : α) (suf : List α) (n : Nat) (h : pre.length = n) : (n : Int) < ((pre ++ x :: suf).length : Int) := by
  simp; omega
theorem nil_nlt {α : Type} (pre : List α) : ¬ ((pre.length : Int) < ((pre ++ []).length : Int)) := by simp
theorem len_nn (n : Nat) : (0 : Int) ≤ (n : Int) := by omega
theorem snoc_eq {α : Type} (pre : List α) (x : α) (suf : List α) : pre ++ x :: suf = (pre ++ [x]) ++ suf := by simp
theorem snoc_len {α : Type} (pre : List α) (x : α) : ((pre.length + 1 : Nat) : Int) = ((pre ++ [x]).length : Int) := by simp
def inR (n a b : Int) : Bool := decide (a ≤ n ∧ n ≤ b)
theorem inR_true {n a b : Int} : inR n a b = true ↔ a ≤ n ∧ n ≤ b := by simp [inR]
theorem inR_false {n a b : Int} : inR n a b = false ↔ ¬ (a ≤ n ∧ n ≤ b) := by simp [inR]
def Big (k : Nat) : Prop := 9900000 ≤ k
theorem big_out {k : Nat} (h : Big k) : 9900000 ≤ k := h
theorem big_succ {k : Nat} (h : Big k) : Big (k + 1) := by unfold Big at *; omega
theorem big_some : ∃ K : Nat, Big K := ⟨9900000, Nat.le_refl _⟩
theorem big_pred {k : Nat} (h : Big k) (n : Nat) (hn : n ≤ 1048577) : n < k := by unfold Big at h; omega
def Ok {α : Type} (l : List α) : Prop := l.length ≤ 1048576
theorem ok_out {α : Type} {l : List α} (h : Ok l) : l.length ≤ 1048576 := h
theorem ok_map {α β : Type} {f : α → β} {l : List α} (h : Ok l) : Ok (l.map f) := by unfold Ok at *; simpa using h
theorem ok_filter {α : Type} {f : α → Bool} {l : List α} (h : Ok l) : Ok (l.filter f) := by unfold Ok at *; exact Nat.le_trans (List.length_filter_le _ _) h
theorem ok_small {α : Type} {l : List α} (n : Nat) (h : l.length ≤ n) (hn : n ≤ 1048576) : Ok l := by unfold Ok; omega

def Lv (n k : Nat) : Prop := n * 1100000 ≤ k
theorem lv_out {n k : Nat} (h : Lv n k) : n * 1100000 ≤ k := h
theorem lv {n k : Nat} (h : Big k) (hn : n ≤ 9 := by decide) : Lv n k := by unfold Big at h; unfold Lv; omega
theorem lv_succ {n k : Nat} (h : Lv n k) : Lv n (k + 1) := by unfold Lv at *; omega
theorem lv_pred {n k : Nat} (h : Lv (n + 1) k) (m : Nat) (hm : m ≤ 1048580) : m < k := by unfold Lv at h; omega
theorem lv_mono {n m k : Nat} (h : Lv n k) (hm : m ≤ n := by decide) : Lv m k := Nat.le_trans (Nat.mul_le_mul_right _ hm) h
theorem rd156_mid (pre : List S156) (x : S156) (suf : List S156) : rd_T156 (pre ++ x :: suf) (pre.length : Int) = x := getD_mid pre x suf z156
def eq1_Node (x y : S156) : Bool := (x.f0 == y.f0) && (x.f1 == y.f1) && (x.f2 == y.f2) && (x.f3 == y.f3) && (x.f4 == y.f4)
def eqL_Node : List S156 → List S156 → Bool
  | [], [] => true
  | x :: xs, y :: ys => eq1_Node x y && eqL_Node xs ys
  | _, _ => false
theorem ne1_Node (x y : S156) : (!(x.f0 == y.f0) || (!(x.f1 == y.f1) || (!(x.f2 == y.f2) || (!(x.f3 == y.f3) || (!(x.f4 == y.f4)))))) = !(eq1_Node x y) := by
  unfold eq1_Node
  cases (x.f0 == y.f0) <;> cases (x.f1 == y.f1) <;> cases (x.f2 == y.f2) <;> cases (x.f3 == y.f3) <;> cases (x.f4 == y.f4) <;> rfl
theorem eq1_Node_iff (x y : S156) : eq1_Node x y = true ↔ x = y := by
  constructor
  · intro h
    obtain ⟨x0, x1, x2, x3, x4⟩ := x
    obtain ⟨y0, y1, y2, y3, y4⟩ := y
    simp_all [eq1_Node]
  · rintro rfl
    simp [eq1_Node]
theorem eqL_Node_iff : ∀ (xs ys : List S156), eqL_Node xs ys = true ↔ xs = ys
  | [], [] => by simp [eqL_Node]
  | [], _ :: _ => by simp [eqL_Node]
  | _ :: _, [] => by simp [eqL_Node]
  | x :: xs, y :: ys => by simp [eqL_Node, eqL_Node_iff xs ys, eq1_Node_iff x y]
theorem eqL_Node_refl (xs : List S156) : eqL_Node xs xs = true := (eqL_Node_iff xs xs).2 rfl
theorem eqL_Node_len {xs ys : List S156} (h : xs.length ≠ ys.length) : eqL_Node xs ys = false := by
  cases hh : eqL_Node xs ys with
  | false => rfl
  | true => exact absurd (congrArg List.length ((eqL_Node_iff xs ys).1 hh)) h
theorem spec_EqualDocuments_l (suf : List S156) : ∀ (pre pre2 suf2 : List S156) (k : Nat), pre2.length = pre.length → suf2.length = suf.length → (pre ++ suf).length ≤ 1048576 → suf.length < k →
    spec_EqualDocuments.l0 k (pre ++ suf) (pre2 ++ suf2) (pre.length : Int) = some (eqL_Node suf suf2) := by
  induction suf with
  | nil =>
    intro pre pre2 suf2 k h1 h2 hb hk
    obtain ⟨k, rfl⟩ := succ_of hk
    obtain rfl : suf2 = [] := List.eq_nil_of_length_eq_zero h2
    rw [spec_EqualDocuments.l0, if_neg (nil_nlt pre)]
    rfl
  | cons x suf ih =>
    intro pre pre2 suf2 k h1 h2 hb hk
    obtain ⟨k, rfl⟩ := succ_of hk
    rcases suf2 with _ | ⟨y, suf2⟩
    · simp at h2
    have hp : pre.length + suf.length < 1048576 := by simp at hb; omega
    have hm : (pre.length : Int) = (pre2.length : Int) := by omega
    have h := ih (pre ++ [x]) (pre2 ++ [y]) suf2 k (by simp [h1]) (by simpa using h2) (by simpa using hb) (by simpa using hk)
    have r2 : rd_T156 (pre2 ++ y :: suf2) (pre.length : Int) = y := by rw [hm]; exact rd156_mid pre2 y suf2
    have l2 : (pre.length : Int) < ((pre2 ++ y :: suf2).length : Int) := by rw [hm]; exact mid_lt _ _ _
    rw [spec_EqualDocuments.l0, if_pos (mid_lt _ _ _), if_pos (len_nn _), if_pos l2, rd156_mid, r2, wrap_nat (by omega), snoc_len pre x, snoc_eq pre x suf, snoc_eq pre2 y suf2, h, eqL_Node]
    rw [ne1_Node x y]
    cases eq1_Node x y <;> simp
theorem spec_EqualDocuments_e {k : Nat} {l m : List S156} (hk : Lv 1 k) (hl : Ok l) : spec_EqualDocuments.f k l m = some (eqL_Node l m) := by
  have hl' := ok_out hl
  unfold spec_EqualDocuments.f
  by_cases hlen : l.length = m.length
  · rw [if_pos (by omega)]
    simpa using spec_EqualDocuments_l l [] [] m k rfl hlen.symm (by simpa using hl') (lv_pred hk _ (by omega))
  · rw [if_neg (by omega), eqL_Node_len hlen]
theorem rd158_mid (pre : List S158) (x : S158) (suf : List S158) : rd_T158 (pre ++ x :: suf) (pre.length : Int) = x := getD_mid pre x suf z158
def eq1_Edit (x y : S158) : Bool := (x.f0 == y.f0) && (x.f1 == y.f1) && (x.f2 == y.f2) && (x.f3 == y.f3) && (x.f4 == y.f4) && (x.f5 == y.f5)
def eqL_Edit : List S158 → List S158 → Bool
  | [], [] => true
  | x :: xs, y :: ys => eq1_Edit x y && eqL_Edit xs ys
  | _, _ => false
theorem ne1_Edit (x y : S158) : (!(x.f0 == y.f0) || (!(x.f1 == y.f1) || (!(x.f2 == y.f2) || (!(x.f3 == y.f3) || (!(x.f4 == y.f4) || (!(x.f5 == y.f5))))))) = !(eq1_Edit x y) := by
  unfold eq1_Edit
  cases (x.f0 == y.f0) <;> cases (x.f1 == y.f1) <;> cases (x.f2 == y.f2) <;> cases (x.f3 == y.f3) <;> cases (x.f4 == y.f4) <;> cases (x.f5 == y.f5) <;> rfl
theorem eq1_Edit_iff (x y : S158) : eq1_Edit x y = true ↔ x = y := by
  constructor
  · intro h
    obtain ⟨x0, x1, x2, x3, x4, x5⟩ := x
    obtain ⟨y0, y1, y2, y3, y4, y5⟩ := y
    simp_all [eq1_Edit]
  · rintro rfl
    simp [eq1_Edit]
theorem eqL_Edit_iff : ∀ (xs ys : List S158), eqL_Edit xs ys = true ↔ xs = ys
  | [], [] => by simp [eqL_Edit]
  | [], _ :: _ => by simp [eqL_Edit]
  | _ :: _, [] => by simp [eqL_Edit]
  | x :: xs, y :: ys => by simp [eqL_Edit, eqL_Edit_iff xs ys, eq1_Edit_iff x y]
theorem eqL_Edit_refl (xs : List S158) : eqL_Edit xs xs = true := (eqL_Edit_iff xs xs).2 rfl
theorem eqL_Edit_len {xs ys : List S158} (h : xs.length ≠ ys.length) : eqL_Edit xs ys = false := by
  cases hh : eqL_Edit xs ys with
  | false => rfl
  | true => exact absurd (congrArg List.length ((eqL_Edit_iff xs ys).1 hh)) h
theorem spec_l31Edits_l (suf : List S158) : ∀ (pre pre2 suf2 : List S158) (k : Nat), pre2.length = pre.length → suf2.length = suf.length → (pre ++ suf).length ≤ 1048576 → suf.length < k →
    spec_l31Edits.l0 k (pre ++ suf) (pre2 ++ suf2) (pre.length : Int) = some (eqL_Edit suf suf2) := by
  induction suf with
  | nil =>
    intro pre pre2 suf2 k h1 h2 hb hk
    obtain ⟨k, rfl⟩ := succ_of hk
    obtain rfl : suf2 = [] := List.eq_nil_of_length_eq_zero h2
    rw [spec_l31Edits.l0, if_neg (nil_nlt pre)]
    rfl
  | cons x suf ih =>
    intro pre pre2 suf2 k h1 h2 hb hk
    obtain ⟨k, rfl⟩ := succ_of hk
    rcases suf2 with _ | ⟨y, suf2⟩
    · simp at h2
    have hp : pre.length + suf.length < 1048576 := by simp at hb; omega
    have hm : (pre.length : Int) = (pre2.length : Int) := by omega
    have h := ih (pre ++ [x]) (pre2 ++ [y]) suf2 k (by simp [h1]) (by simpa using h2) (by simpa using hb) (by simpa using hk)
    have r2 : rd_T158 (pre2 ++ y :: suf2) (pre.length : Int) = y := by rw [hm]; exact rd158_mid pre2 y suf2
    have l2 : (pre.length : Int) < ((pre2 ++ y :: suf2).length : Int) := by rw [hm]; exact mid_lt _ _ _
    rw [spec_l31Edits.l0, if_pos (mid_lt _ _ _), if_pos (len_nn _), if_pos l2, rd158_mid, r2, wrap_nat (by omega), snoc_len pre x, snoc_eq pre x suf, snoc_eq pre2 y suf2, h, eqL_Edit]
    rw [ne1_Edit x y]
    cases eq1_Edit x y <;> simp
theorem spec_l31Edits_e {k : Nat} {l m : List S158} (hk : Lv 1 k) (hl : Ok l) : spec_l31Edits.f k l m = some (eqL_Edit l m) := by
  have hl' := ok_out hl
  unfold spec_l31Edits.f
  by_cases hlen : l.length = m.length
  · rw [if_pos (by omega)]
    simpa using spec_l31Edits_l l [] [] m k rfl hlen.symm (by simpa using hl') (lv_pred hk _ (by omega))
  · rw [if_neg (by omega), eqL_Edit_len hlen]
def eqI : List Int → List Int → Bool
  | [], [] => true
  | x :: xs, y :: ys => x == y && eqI xs ys
  | _, _ => false
theorem eqI_iff : ∀ (xs ys : List Int), eqI xs ys = true ↔ xs = ys
  | [], [] => by simp [eqI]
  | [], _ :: _ => by simp [eqI]
  | _ :: _, [] => by simp [eqI]
  | x :: xs, y :: ys => by simp [eqI, eqI_iff xs ys]
theorem eqI_len {xs ys : List Int} (h : xs.length ≠ ys.length) : eqI xs ys = false := by
  cases hh : eqI xs ys with
  | false => rfl
  | true => exact absurd (congrArg List.length ((eqI_iff xs ys).1 hh)) h
theorem spec_EqualInts_l (suf : List Int) : ∀ (pre pre2 suf2 : List Int) (k : Nat), pre2.length = pre.length → suf2.length = suf.length → (pre ++ suf).length ≤ 1048576 → suf.length < k →
    spec_EqualInts.l0 k (pre ++ suf) (pre2 ++ suf2) (pre.length : Int) = some (eqI suf suf2) := by
  induction suf with
  | nil =>
    intro pre pre2 suf2 k h1 h2 hb hk
    obtain ⟨k, rfl⟩ := succ_of hk
    obtain rfl : suf2 = [] := List.eq_nil_of_length_eq_zero h2
    rw [spec_EqualInts.l0, if_neg (nil_nlt pre)]
    rfl
  | cons x suf ih =>
    intro pre pre2 suf2 k h1 h2 hb hk
    obtain ⟨k, rfl⟩ := succ_of hk
    rcases suf2 with _ | ⟨y, suf2⟩
    · simp at h2
    have hp : pre.length + suf.length < 1048576 := by simp at hb; omega
    have hm : (pre.length : Int) = (pre2.length : Int) := by omega
    have h := ih (pre ++ [x]) (pre2 ++ [y]) suf2 k (by simp [h1]) (by simpa using h2) (by simpa using hb) (by simpa using hk)
    have r2 : rd (pre2 ++ y :: suf2) (pre.length : Int) = y := by rw [hm]; exact rd_mid pre2 y suf2
    have l2 : (pre.length : Int) < ((pre2 ++ y :: suf2).length : Int) := by rw [hm]; exact mid_lt _ _ _
    rw [spec_EqualInts.l0, if_pos (mid_lt _ _ _), if_pos (len_nn _), if_pos l2, rd_mid, r2, wrap_nat (by omega), snoc_len pre x, snoc_eq pre x suf, snoc_eq pre2 y suf2, h, eqI]
    by_cases e : x = y <;> simp [e]
theorem spec_EqualInts_e {k : Nat} {l m : List Int} (hk : Lv 1 k) (hl : Ok l) : spec_EqualInts.f k l m = some (eqI l m) := by
  have hl' := ok_out hl
  unfold spec_EqualInts.f
  by_cases hlen : l.length = m.length
  · rw [if_pos (by omega)]
    simpa using spec_EqualInts_l l [] [] m k rfl hlen.symm (by simpa using hl') (lv_pred hk _ (by omega))
  · rw [if_neg (by omega), eqI_len hlen]
def eqTabV (s1 s2 : Int) (b : List S156) (e : List S158) (h : List Int) (c : Int) (s1' s2' : Int) (b' : List S156) (e' : List S158) (h' : List Int) (c' : Int) : Bool :=
  s1 == s1' && (s2 == s2' && (c == c' && (eqL_Node b b' && (eqL_Edit e e' && eqI h h'))))
theorem spec_EqualTabs_e {k : Nat} (s1 s2 : Int) {b : List S156} {e : List S158} {h : List Int} (c : Int) (s1' s2' : Int) (b' : List S156) (e' : List S158) (h' : List Int) (c' : Int) (hk : Lv 1 k) (hb : Ok b) (he : Ok e) (hh : Ok h) :
    spec_EqualTabs.f k s1 s2 b e h c s1' s2' b' e' h' c' = some (eqTabV s1 s2 b e h c s1' s2' b' e' h' c') := by
  unfold spec_EqualTabs.f eqTabV
  rw [spec_EqualDocuments_e hk hb, Option.bind_some, spec_l31Edits_e hk he, Option.bind_some, spec_EqualInts_e hk hh, Option.bind_some]
  by_cases g1 : s1 = s1' <;> by_cases g2 : s2 = s2' <;> by_cases g3 : c = c' <;> cases eqL_Node b b' <;> cases eqL_Edit e e' <;> simp [g1, g2, g3]
theorem slEq_Node_l (suf : List S156) : ∀ (pre pre2 suf2 : List S156) (k : Nat), pre2.length = pre.length → suf2.length = suf.length → (pre ++ suf).length ≤ 1048576 → suf.length < k →
    impl_Node.l0 k (pre ++ suf) (pre2 ++ suf2) ((pre ++ suf).length : Int) (pre.length : Int) = some (eqL_Node suf suf2) := by
  induction suf with
  | nil =>
    intro pre pre2 suf2 k h1 h2 hb hk
    obtain ⟨k, rfl⟩ := succ_of hk
    obtain rfl : suf2 = [] := List.eq_nil_of_length_eq_zero h2
    rw [impl_Node.l0, if_neg (nil_nlt pre)]
    rfl
  | cons x suf ih =>
    intro pre pre2 suf2 k h1 h2 hb hk
    obtain ⟨k, rfl⟩ := succ_of hk
    rcases suf2 with _ | ⟨y, suf2⟩
    · simp at h2
    have hp : pre.length + suf.length < 1048576 := by simp at hb; omega
    have hm : (pre.length : Int) = (pre2.length : Int) := by omega
    have h := ih (pre ++ [x]) (pre2 ++ [y]) suf2 k (by simp [h1]) (by simpa using h2) (by simpa using hb) (by simpa using hk)
    have r2 : rd_T156 (pre2 ++ y :: suf2) (pre.length : Int) = y := by rw [hm]; exact rd156_mid pre2 y suf2
    have l2 : (pre.length : Int) < ((pre2 ++ y :: suf2).length : Int) := by rw [hm]; exact mid_lt _ _ _
    rw [impl_Node.l0, if_pos (mid_lt _ _ _), if_pos (len_nn _), if_pos (mid_lt _ _ _), if_pos l2, rd156_mid, r2, wrap_nat (by omega), snoc_len pre x, snoc_eq pre x suf, snoc_eq pre2 y suf2, h, eqL_Node]
    rw [ne1_Node x y]
    cases eq1_Node x y <;> simp
theorem slEq_Node_e {k : Nat} {l m : List S156} (hk : Lv 1 k) (hl : Ok l) : impl_Node.f k l m = some (eqL_Node l m) := by
  have hl' := ok_out hl
  unfold impl_Node.f
  by_cases hlen : l.length = m.length
  · rw [if_pos (by omega)]
    simpa using slEq_Node_l l [] [] m k rfl hlen.symm (by simpa using hl') (lv_pred hk _ (by omega))
  · rw [if_neg (by omega), eqL_Node_len hlen]
theorem slEq_Edit_l (suf : List S158) : ∀ (pre pre2 suf2 : List S158) (k : Nat), pre2.length = pre.length → suf2.length = suf.length → (pre ++ suf).length ≤ 1048576 → suf.length < k →
    impl_Edit.l0 k (pre ++ suf) (pre2 ++ suf2) ((pre ++ suf).length : Int) (pre.length : Int) = some (eqL_Edit suf suf2) := by
  induction suf with
  | nil =>
    intro pre pre2 suf2 k h1 h2 hb hk
    obtain ⟨k, rfl⟩ := succ_of hk
    obtain rfl : suf2 = [] := List.eq_nil_of_length_eq_zero h2
    rw [impl_Edit.l0, if_neg (nil_nlt pre)]
    rfl
  | cons x suf ih =>
    intro pre pre2 suf2 k h1 h2 hb hk
    obtain ⟨k, rfl⟩ := succ_of hk
    rcases suf2 with _ | ⟨y, suf2⟩
    · simp at h2
    have hp : pre.length + suf.length < 1048576 := by simp at hb; omega
    have hm : (pre.length : Int) = (pre2.length : Int) := by omega
    have h := ih (pre ++ [x]) (pre2 ++ [y]) suf2 k (by simp [h1]) (by simpa using h2) (by simpa using hb) (by simpa using hk)
    have r2 : rd_T158 (pre2 ++ y :: suf2) (pre.length : Int) = y := by rw [hm]; exact rd158_mid pre2 y suf2
    have l2 : (pre.length : Int) < ((pre2 ++ y :: suf2).length : Int) := by rw [hm]; exact mid_lt _ _ _
    rw [impl_Edit.l0, if_pos (mid_lt _ _ _), if_pos (len_nn _), if_pos (mid_lt _ _ _), if_pos l2, rd158_mid, r2, wrap_nat (by omega), snoc_len pre x, snoc_eq pre x suf, snoc_eq pre2 y suf2, h, eqL_Edit]
    rw [ne1_Edit x y]
    cases eq1_Edit x y <;> simp
theorem slEq_Edit_e {k : Nat} {l m : List S158} (hk : Lv 1 k) (hl : Ok l) : impl_Edit.f k l m = some (eqL_Edit l m) := by
  have hl' := ok_out hl
  unfold impl_Edit.f
  by_cases hlen : l.length = m.length
  · rw [if_pos (by omega)]
    simpa using slEq_Edit_l l [] [] m k rfl hlen.symm (by simpa using hl') (lv_pred hk _ (by omega))
  · rw [if_neg (by omega), eqL_Edit_len hlen]
theorem slEq_int_l (suf : List Int) : ∀ (pre pre2 suf2 : List Int) (k : Nat), pre2.length = pre.length → suf2.length = suf.length → (pre ++ suf).length ≤ 1048576 → suf.length < k →
    slices_Equal_int_int.l0 k (pre ++ suf) (pre2 ++ suf2) ((pre ++ suf).length : Int) (pre.length : Int) = some (eqI suf suf2) := by
  induction suf with
  | nil =>
    intro pre pre2 suf2 k h1 h2 hb hk
    obtain ⟨k, rfl⟩ := succ_of hk
    obtain rfl : suf2 = [] := List.eq_nil_of_length_eq_zero h2
    rw [slices_Equal_int_int.l0, if_neg (nil_nlt pre)]
    rfl
  | cons x suf ih =>
    intro pre pre2 suf2 k h1 h2 hb hk
    obtain ⟨k, rfl⟩ := succ_of hk
    rcases suf2 with _ | ⟨y, suf2⟩
    · simp at h2
    have hp : pre.length + suf.length < 1048576 := by simp at hb; omega
    have hm : (pre.length : Int) = (pre2.length : Int) := by omega
    have h := ih (pre ++ [x]) (pre2 ++ [y]) suf2 k (by simp [h1]) (by simpa using h2) (by simpa using hb) (by simpa using hk)
    have r2 : rd (pre2 ++ y :: suf2) (pre.length : Int) = y := by rw [hm]; exact rd_mid pre2 y suf2
    have l2 : (pre.length : Int) < ((pre2 ++ y :: suf2).length : Int) := by rw [hm]; exact mid_lt _ _ _
    rw [slices_Equal_int_int.l0, if_pos (mid_lt _ _ _), if_pos (len_nn _), if_pos (mid_lt _ _ _), if_pos l2, rd_mid, r2, wrap_nat (by omega), snoc_len pre x, snoc_eq pre x suf, snoc_eq pre2 y suf2, h, eqI]
    by_cases e : x = y <;> simp [e]
theorem slEq_int_e {k : Nat} {l m : List Int} (hk : Lv 1 k) (hl : Ok l) : slices_Equal_int_int.f k l m = some (eqI l m) := by
  have hl' := ok_out hl
  unfold slices_Equal_int_int.f
  by_cases hlen : l.length = m.length
  · rw [if_pos (by omega)]
    simpa using slEq_int_l l [] [] m k rfl hlen.symm (by simpa using hl') (lv_pred hk _ (by omega))
  · rw [if_neg (by omega), eqI_len hlen]
theorem impl_EqualTabs_e {k : Nat} (s1 s2 : Int) {b : List S156} {e : List S158} {h : List Int} (c : Int) (s1' s2' : Int) (b' : List S156) (e' : List S158) (h' : List Int) (c' : Int) (hk : Lv 1 k) (hb : Ok b) (he : Ok e) (hh : Ok h) :
    impl_EqualTabs.f k s1 s2 b e h c s1' s2' b' e' h' c' = some (eqTabV s1 s2 b e h c s1' s2' b' e' h' c') := by
  unfold impl_EqualTabs.f eqTabV
  rw [slEq_Node_e hk hb, Option.bind_some, slEq_Edit_e hk he, Option.bind_some, slEq_int_e hk hh, Option.bind_some]
  by_cases g1 : s1 = s1' <;> by_cases g2 : s2 = s2' <;> by_cases g3 : c = c' <;> cases eqL_Node b b' <;> cases eqL_Edit e e' <;> simp [g1, g2, g3]
theorem laws_szNodeS_no {l : List S167} {a : Int} (h0 : 0 ≤ a) (h1 : a ≤ 1048576) (h : l.length ≤ maxLen) (hn : a < l.length) : laws_szNodeS.f l a = some (-1) := by
  unfold maxLen at h
  unfold laws_szNodeS.f
  rw [wrap_id (by omega), if_pos (by omega)]
theorem laws_szNodeS_yes {l : List S167} {a : Int} (h0 : 0 ≤ a) (h1 : a ≤ 1048576) (hn : l.length ≤ a) : laws_szNodeS.f l a = some (a - l.length) := by
  unfold laws_szNodeS.f
  rw [wrap_id (by omega), if_neg (by omega)]
theorem rd167_mid (pre : List S167) (x : S167) (suf : List S167) : rd_T167 (pre ++ x :: suf) (pre.length : Int) = x := getD_mid pre x suf z167
def cv_Node (x : S167) : S156 := (⟨x.f0, x.f1, x.f2, x.f3, x.f4⟩ : S156)
theorem laws_toNodeS_l (suf : List S167) : ∀ (pre : List S167) (k : Nat), (pre ++ suf).length ≤ 1048576 → suf.length < k →
    laws_toNodeS.l0 k (pre ++ suf) (pre.map cv_Node ++ List.replicate suf.length z156) (pre.length : Int) = some ((pre ++ suf).map cv_Node) := by
  induction suf with
  | nil =>
    intro pre k hb hk
    obtain ⟨k, rfl⟩ := succ_of hk
    rw [laws_toNodeS.l0, if_neg (nil_nlt pre)]
    simp
  | cons x suf ih =>
    intro pre k hb hk
    obtain ⟨k, rfl⟩ := succ_of hk
    have hp : pre.length ≤ 1048576 := by simp at hb; omega
    have hm : (pre.length : Int) = ((pre.map cv_Node).length : Int) := by simp
    have h := ih (pre ++ [x]) k (by simpa using hb) (by simpa using hk)
    rw [laws_toNodeS.l0, if_pos (mid_lt _ _ _), if_pos (len_nn _), rd167_mid]
    simp only [laws_toNode.f, Option.bind_some]
    rw [if_pos (by simp; omega), List.length_cons, List.replicate_succ, hm, set_mid, wrap_nat (by simpa using Nat.le_trans hp (by omega)), snoc_eq pre x suf]
    rw [snoc_eq (pre.map cv_Node)]
    simp only [List.map_append, List.map_cons, List.map_nil, List.length_append, List.length_map, List.length_cons, List.length_nil, Nat.zero_add] at h ⊢
    exact h
theorem laws_toNodeS_e {k : Nat} {l : List S167} (hk : Big k) (hl : Ok l) : laws_toNodeS.f k l = some (l.map cv_Node) := by
  have hl' := ok_out hl
  unfold laws_toNodeS.f
  rw [if_pos (len_nn _), if_pos (by omega)]
  simpa using laws_toNodeS_l l [] k (by simpa using hl') (big_pred hk _ (by omega))
theorem laws_eqNodeS_l (suf : List S156) : ∀ (pre : List S156) (k : Nat), (pre ++ suf).length ≤ 1048576 → suf.length < k →
    laws_eqNodeS.l0 k (pre ++ suf) (pre ++ suf) (pre.length : Int) = some true := by
  induction suf with
  | nil =>
    intro pre k hb hk
    obtain ⟨k, rfl⟩ := succ_of hk
    rw [laws_eqNodeS.l0, if_neg (nil_nlt pre)]
  | cons x suf ih =>
    intro pre k hb hk
    obtain ⟨k, rfl⟩ := succ_of hk
    have hp : pre.length ≤ 1048576 := by simp at hb; omega
    have h := ih (pre ++ [x]) k (by simpa using hb) (by simpa using hk)
    rw [laws_eqNodeS.l0, if_pos (mid_lt _ _ _), if_pos (len_nn _), if_pos (mid_lt _ _ _), rd156_mid, wrap_nat (by omega), snoc_len pre x, snoc_eq pre x suf, h]
    simp [laws_eqNode.f]
theorem laws_eqNodeS_e {k : Nat} {l : List S156} (hk : Big k) (hl : Ok l) : laws_eqNodeS.f k l l = some true := by
  have hl' := ok_out hl
  unfold laws_eqNodeS.f
  rw [if_pos rfl]
  simpa using laws_eqNodeS_l l [] k (by simpa using hl') (big_pred hk _ (by omega))
theorem laws_szEditS_no {l : List S169} {a : Int} (h0 : 0 ≤ a) (h1 : a ≤ 1048576) (h : l.length ≤ maxLen) (hn : a < l.length) : laws_szEditS.f l a = some (-1) := by
  unfold maxLen at h
  unfold laws_szEditS.f
  rw [wrap_id (by omega), if_pos (by omega)]
theorem laws_szEditS_yes {l : List S169} {a : Int} (h0 : 0 ≤ a) (h1 : a ≤ 1048576) (hn : l.length ≤ a) : laws_szEditS.f l a = some (a - l.length) := by
  unfold laws_szEditS.f
  rw [wrap_id (by omega), if_neg (by omega)]
theorem rd169_mid (pre : List S169) (x : S169) (suf : List S169) : rd_T169 (pre ++ x :: suf) (pre.length : Int) = x := getD_mid pre x suf z169
def cv_Edit (x : S169) : S158 := (⟨x.f0, x.f1, x.f2, x.f3, x.f4, x.f5⟩ : S158)
theorem laws_toEditS_l (suf : List S169) : ∀ (pre : List S169) (k : Nat), (pre ++ suf).length ≤ 1048576 → suf.length < k →
    laws_toEditS.l0 k (pre ++ suf) (pre.map cv_Edit ++ List.replicate suf.length z158) (pre.length : Int) = some ((pre ++ suf).map cv_Edit) := by
  induction suf with
  | nil =>
    intro pre k hb hk
    obtain ⟨k, rfl⟩ := succ_of hk
    rw [laws_toEditS.l0, if_neg (nil_nlt pre)]
    simp
  | cons x suf ih =>
    intro pre k hb hk
    obtain ⟨k, rfl⟩ := succ_of hk
    have hp : pre.length ≤ 1048576 := by simp at hb; omega
    have hm : (pre.length : Int) = ((pre.map cv_Edit).length : Int) := by simp
    have h := ih (pre ++ [x]) k (by simpa using hb) (by simpa using hk)
    rw [laws_toEditS.l0, if_pos (mid_lt _ _ _), if_pos (len_nn _), rd169_mid]
    simp only [laws_toEdit.f, Option.bind_some]
    rw [if_pos (by simp; omega), List.length_cons, List.replicate_succ, hm, set_mid, wrap_nat (by simpa using Nat.le_trans hp (by omega)), snoc_eq pre x suf]
    rw [snoc_eq (pre.map cv_Edit)]
    simp only [List.map_append, List.map_cons, List.map_nil, List.length_append, List.length_map, List.length_cons, List.length_nil, Nat.zero_add] at h ⊢
    exact h
theorem laws_toEditS_e {k : Nat} {l : List S169} (hk : Big k) (hl : Ok l) : laws_toEditS.f k l = some (l.map cv_Edit) := by
  have hl' := ok_out hl
  unfold laws_toEditS.f
  rw [if_pos (len_nn _), if_pos (by omega)]
  simpa using laws_toEditS_l l [] k (by simpa using hl') (big_pred hk _ (by omega))
theorem laws_eqEditS_l (suf : List S158) : ∀ (pre : List S158) (k : Nat), (pre ++ suf).length ≤ 1048576 → suf.length < k →
    laws_eqEditS.l0 k (pre ++ suf) (pre ++ suf) (pre.length : Int) = some true := by
  induction suf with
  | nil =>
    intro pre k hb hk
    obtain ⟨k, rfl⟩ := succ_of hk
    rw [laws_eqEditS.l0, if_neg (nil_nlt pre)]
  | cons x suf ih =>
    intro pre k hb hk
    obtain ⟨k, rfl⟩ := succ_of hk
    have hp : pre.length ≤ 1048576 := by simp at hb; omega
    have h := ih (pre ++ [x]) k (by simpa using hb) (by simpa using hk)
    rw [laws_eqEditS.l0, if_pos (mid_lt _ _ _), if_pos (len_nn _), if_pos (mid_lt _ _ _), rd158_mid, wrap_nat (by omega), snoc_len pre x, snoc_eq pre x suf, h]
    simp [laws_eqEdit.f]
theorem laws_eqEditS_e {k : Nat} {l : List S158} (hk : Big k) (hl : Ok l) : laws_eqEditS.f k l l = some true := by
  have hl' := ok_out hl
  unfold laws_eqEditS.f
  rw [if_pos rfl]
  simpa using laws_eqEditS_l l [] k (by simpa using hl') (big_pred hk _ (by omega))
theorem laws_szIntS_no {l : List Int} {a : Int} (h0 : 0 ≤ a) (h1 : a ≤ 1048576) (h : l.length ≤ maxLen) (hn : a < l.length) : laws_szIntS.f l a = some (-1) := by
  unfold maxLen at h
  unfold laws_szIntS.f
  rw [wrap_id (by omega), if_pos (by omega)]
theorem laws_szIntS_yes {l : List Int} {a : Int} (h0 : 0 ≤ a) (h1 : a ≤ 1048576) (hn : l.length ≤ a) : laws_szIntS.f l a = some (a - l.length) := by
  unfold laws_szIntS.f
  rw [wrap_id (by omega), if_neg (by omega)]
theorem laws_toIntS_l (suf : List Int) : ∀ (pre : List Int) (k : Nat), (pre ++ suf).length ≤ 1048576 → suf.length < k →
    laws_toIntS.l0 k (pre ++ suf) (pre ++ List.replicate suf.length 0) (pre.length : Int) = some (pre ++ suf) := by
  induction suf with
  | nil =>
    intro pre k hb hk
    obtain ⟨k, rfl⟩ := succ_of hk
    rw [laws_toIntS.l0, if_neg (nil_nlt pre)]
    simp
  | cons x suf ih =>
    intro pre k hb hk
    obtain ⟨k, rfl⟩ := succ_of hk
    have hp : pre.length + suf.length < 1048576 := by simp at hb; omega
    have h := ih (pre ++ [x]) k (by simpa using hb) (by simpa using hk)
    rw [laws_toIntS.l0, if_pos (mid_lt _ _ _), if_pos (len_nn _), rd_mid]
    rw [if_pos (by simp; omega), List.length_cons, List.replicate_succ, set_mid, wrap_nat (by omega), snoc_len pre x, snoc_eq pre x suf, snoc_eq pre x (List.replicate suf.length 0)]
    exact h
theorem laws_toIntS_e {k : Nat} {l : List Int} (hk : Big k) (hl : Ok l) : laws_toIntS.f k l = some l := by
  have hl' := ok_out hl
  unfold laws_toIntS.f
  rw [if_pos (len_nn _), if_pos (by omega)]
  simpa using laws_toIntS_l l [] k (by simpa using hl') (big_pred hk _ (by omega))
theorem laws_eqIntS_l (suf : List Int) : ∀ (pre : List Int) (k : Nat), (pre ++ suf).length ≤ 1048576 → suf.length < k →
    laws_eqIntS.l0 k (pre ++ suf) (pre ++ suf) (pre.length : Int) = some true := by
  induction suf with
  | nil =>
    intro pre k hb hk
    obtain ⟨k, rfl⟩ := succ_of hk
    rw [laws_eqIntS.l0, if_neg (nil_nlt pre)]
  | cons x suf ih =>
    intro pre k hb hk
    obtain ⟨k, rfl⟩ := succ_of hk
    have hp : pre.length + suf.length < 1048576 := by simp at hb; omega
    have h := ih (pre ++ [x]) k (by simpa using hb) (by simpa using hk)
    rw [laws_eqIntS.l0, if_pos (mid_lt _ _ _), if_pos (len_nn _), if_pos (mid_lt _ _ _), if_pos rfl, wrap_nat (by omega), snoc_len pre x, snoc_eq pre x suf, h]
theorem laws_eqIntS_e {k : Nat} {l : List Int} (hk : Big k) (hl : Ok l) : laws_eqIntS.f k l l = some true := by
  have hl' := ok_out hl
  unfold laws_eqIntS.f
  rw [if_pos rfl]
  simpa using laws_eqIntS_l l [] k (by simpa using hl') (big_pred hk _ (by omega))

theorem FnExactEqualTabs : ∀ (a0_0 : Int) (a0_1 : Int) (l0_2 : List (S167)) (l0_3 : List (S169)) (l0_4 : List Int) (a0_5 : Int) (a1_0 : Int) (a1_1 : Int) (l1_2 : List (S167)) (l1_3 : List (S169)) (l1_4 : List Int) (a1_5 : Int), (Lit.int .i64 a0_0).wf = true → (Lit.int .i64 a0_1).wf = true → l0_2.length ≤ maxLen → (∀ x ∈ l0_2, (Lit.int .i64 x.f0).wf = true ∧ (Lit.int .i64 x.f1).wf = true ∧ (Lit.int .i64 x.f2).wf = true ∧ (Lit.int .i64 x.f3).wf = true ∧ (Lit.int .i64 x.f4).wf = true) → l0_3.length ≤ maxLen → (∀ x ∈ l0_3, (Lit.int .i64 x.f0).wf = true ∧ (Lit.int .i64 x.f1).wf = true ∧ (Lit.int .i64 x.f2).wf = true ∧ (Lit.int .i64 x.f3).wf = true ∧ (Lit.int .i64 x.f4).wf = true ∧ (Lit.int .i64 x.f5).wf = true) → l0_4.length ≤ maxLen → (∀ x ∈ l0_4, (Lit.int .i64 x).wf = true) → (Lit.int .i64 a0_5).wf = true → (Lit.int .i64 a1_0).wf = true → (Lit.int .i64 a1_1).wf = true → l1_2.length ≤ maxLen → (∀ x ∈ l1_2, (Lit.int .i64 x.f0).wf = true ∧ (Lit.int .i64 x.f1).wf = true ∧ (Lit.int .i64 x.f2).wf = true ∧ (Lit.int .i64 x.f3).wf = true ∧ (Lit.int .i64 x.f4).wf = true) → l1_3.length ≤ maxLen → (∀ x ∈ l1_3, (Lit.int .i64 x.f0).wf = true ∧ (Lit.int .i64 x.f1).wf = true ∧ (Lit.int .i64 x.f2).wf = true ∧ (Lit.int .i64 x.f3).wf = true ∧ (Lit.int .i64 x.f4).wf = true ∧ (Lit.int .i64 x.f5).wf = true) → l1_4.length ≤ maxLen → (∀ x ∈ l1_4, (Lit.int .i64 x).wf = true) → (Lit.int .i64 a1_5).wf = true → ∃ k, laws_FnExactEqualTabs.f k a0_0 a0_1 l0_2 l0_3 l0_4 a0_5 a1_0 a1_1 l1_2 l1_3 l1_4 a1_5 = some true := by
  intro a0_0 a0_1 l0_2 l0_3 l0_4 a0_5 a1_0 a1_1 l1_2 l1_3 l1_4 a1_5 _ _ hm0_2 _ hm0_3 _ hm0_4 _ _ _ _ hm1_2 _ hm1_3 _ hm1_4 _ _
  by_cases hn0 : (1048576 : Int) < l0_2.length
  · refine ⟨0, ?_⟩
    unfold laws_FnExactEqualTabs.f
    simp only [laws_szTab.f]
    rw [laws_szNodeS_no (by omega) (by omega) hm0_2 hn0]
    rfl
  by_cases hn1 : (1048576 : Int) - l0_2.length < l0_3.length
  · refine ⟨0, ?_⟩
    unfold laws_FnExactEqualTabs.f
    simp only [laws_szTab.f]
    rw [laws_szNodeS_yes (by omega) (by omega) (by omega), Option.bind_some, if_neg (by omega), laws_szEditS_no (by omega) (by omega) hm0_3 hn1]
    rfl
  by_cases hn2 : (1048576 : Int) - l0_2.length - l0_3.length < l0_4.length
  · refine ⟨0, ?_⟩
    unfold laws_FnExactEqualTabs.f
    simp only [laws_szTab.f]
    rw [laws_szNodeS_yes (by omega) (by omega) (by omega), Option.bind_some, if_neg (by omega), laws_szEditS_yes (by omega) (by omega) (by omega), Option.bind_some, if_neg (by omega), laws_szIntS_no (by omega) (by omega) hm0_4 hn2]
    rfl
  by_cases hn3 : (1048576 : Int) - l0_2.length - l0_3.length - l0_4.length < l1_2.length
  · refine ⟨0, ?_⟩
    unfold laws_FnExactEqualTabs.f
    simp only [laws_szTab.f]
    rw [laws_szNodeS_yes (by omega) (by omega) (by omega), Option.bind_some, if_neg (by omega), laws_szEditS_yes (by omega) (by omega) (by omega), Option.bind_some, if_neg (by omega), laws_szIntS_yes (by omega) (by omega) (by omega), Option.bind_some, if_neg (by omega), Option.bind_some, if_neg (by omega), laws_szNodeS_no (by omega) (by omega) hm1_2 hn3]
    rfl
  by_cases hn4 : (1048576 : Int) - l0_2.length - l0_3.length - l0_4.length - l1_2.length < l1_3.length
  · refine ⟨0, ?_⟩
    unfold laws_FnExactEqualTabs.f
    simp only [laws_szTab.f]
    rw [laws_szNodeS_yes (by omega) (by omega) (by omega), Option.bind_some, if_neg (by omega), laws_szEditS_yes (by omega) (by omega) (by omega), Option.bind_some, if_neg (by omega), laws_szIntS_yes (by omega) (by omega) (by omega), Option.bind_some, if_neg (by omega), Option.bind_some, if_neg (by omega), laws_szNodeS_yes (by omega) (by omega) (by omega), Option.bind_some, if_neg (by omega), laws_szEditS_no (by omega) (by omega) hm1_3 hn4]
    rfl
  by_cases hn5 : (1048576 : Int) - l0_2.length - l0_3.length - l0_4.length - l1_2.length - l1_3.length < l1_4.length
  · refine ⟨0, ?_⟩
    unfold laws_FnExactEqualTabs.f
    simp only [laws_szTab.f]
    rw [laws_szNodeS_yes (by omega) (by omega) (by omega), Option.bind_some, if_neg (by omega), laws_szEditS_yes (by omega) (by omega) (by omega), Option.bind_some, if_neg (by omega), laws_szIntS_yes (by omega) (by omega) (by omega), Option.bind_some, if_neg (by omega), Option.bind_some, if_neg (by omega), laws_szNodeS_yes (by omega) (by omega) (by omega), Option.bind_some, if_neg (by omega), laws_szEditS_yes (by omega) (by omega) (by omega), Option.bind_some, if_neg (by omega), laws_szIntS_no (by omega) (by omega) hm1_4 hn5]
    rfl
  obtain ⟨k, hk⟩ := big_some
  have hk0 := big_succ hk
  have hl0_2 : Ok l0_2 := by unfold Ok; omega
  have hl0_3 : Ok l0_3 := by unfold Ok; omega
  have hl0_4 : Ok l0_4 := by unfold Ok; omega
  have hl1_2 : Ok l1_2 := by unfold Ok; omega
  have hl1_3 : Ok l1_3 := by unfold Ok; omega
  have hl1_4 : Ok l1_4 := by unfold Ok; omega
  have hc0_2 : Ok (l0_2.map cv_Node) := ok_map (f := cv_Node) hl0_2
  have hcl0_2 := ok_out hc0_2
  have hc0_3 : Ok (l0_3.map cv_Edit) := ok_map (f := cv_Edit) hl0_3
  have hcl0_3 := ok_out hc0_3
  have hc0_4 := hl0_4
  have hcl0_4 := ok_out hc0_4
  have hc1_2 : Ok (l1_2.map cv_Node) := ok_map (f := cv_Node) hl1_2
  have hcl1_2 := ok_out hc1_2
  have hc1_3 : Ok (l1_3.map cv_Edit) := ok_map (f := cv_Edit) hl1_3
  have hcl1_3 := ok_out hc1_3
  have hc1_4 := hl1_4
  have hcl1_4 := ok_out hc1_4
  have hT0_2 := laws_toNodeS_e hk0 hl0_2
  have hE0_2 := laws_eqNodeS_e hk0 hc0_2
  have hT0_3 := laws_toEditS_e hk0 hl0_3
  have hE0_3 := laws_eqEditS_e hk0 hc0_3
  have hT0_4 := laws_toIntS_e hk0 hl0_4
  have hE0_4 := laws_eqIntS_e hk0 hc0_4
  have hT1_2 := laws_toNodeS_e hk0 hl1_2
  have hE1_2 := laws_eqNodeS_e hk0 hc1_2
  have hT1_3 := laws_toEditS_e hk0 hl1_3
  have hE1_3 := laws_eqEditS_e hk0 hc1_3
  have hT1_4 := laws_toIntS_e hk0 hl1_4
  have hE1_4 := laws_eqIntS_e hk0 hc1_4
  have hP := spec_EqualTabs_e a0_0 a0_1 a0_5 a1_0 a1_1 (l1_2.map cv_Node) (l1_3.map cv_Edit) l1_4 a1_5 (lv hk0) hc0_2 hc0_3 hc0_4
  have hI := impl_EqualTabs_e a0_0 a0_1 a0_5 a1_0 a1_1 (l1_2.map cv_Node) (l1_3.map cv_Edit) l1_4 a1_5 (lv hk0) hc0_2 hc0_3 hc0_4
  have hT0_2' := laws_toNodeS_e hk hl0_2
  have hE0_2' := laws_eqNodeS_e hk hc0_2
  have hT0_3' := laws_toEditS_e hk hl0_3
  have hE0_3' := laws_eqEditS_e hk hc0_3
  have hT0_4' := laws_toIntS_e hk hl0_4
  have hE0_4' := laws_eqIntS_e hk hc0_4
  have hT1_2' := laws_toNodeS_e hk hl1_2
  have hE1_2' := laws_eqNodeS_e hk hc1_2
  have hT1_3' := laws_toEditS_e hk hl1_3
  have hE1_3' := laws_eqEditS_e hk hc1_3
  have hT1_4' := laws_toIntS_e hk hl1_4
  have hE1_4' := laws_eqIntS_e hk hc1_4
  have hP' := spec_EqualTabs_e a0_0 a0_1 a0_5 a1_0 a1_1 (l1_2.map cv_Node) (l1_3.map cv_Edit) l1_4 a1_5 (lv hk) hc0_2 hc0_3 hc0_4
  have hI' := impl_EqualTabs_e a0_0 a0_1 a0_5 a1_0 a1_1 (l1_2.map cv_Node) (l1_3.map cv_Edit) l1_4 a1_5 (lv hk) hc0_2 hc0_3 hc0_4
  refine ⟨k + 1, ?_⟩
  unfold laws_FnExactEqualTabs.f
  simp only [laws_szTab.f]
  rw [laws_szNodeS_yes (by omega) (by omega) (by omega), Option.bind_some, if_neg (by omega), laws_szEditS_yes (by omega) (by omega) (by omega), Option.bind_some, if_neg (by omega), laws_szIntS_yes (by omega) (by omega) (by omega), Option.bind_some, if_neg (by omega), Option.bind_some, if_neg (by omega), laws_szNodeS_yes (by omega) (by omega) (by omega), Option.bind_some, if_neg (by omega), laws_szEditS_yes (by omega) (by omega) (by omega), Option.bind_some, if_neg (by omega), laws_szIntS_yes (by omega) (by omega) (by omega), Option.bind_some, if_neg (by omega), Option.bind_some, if_neg (by omega)]
  simp only [hT0_2, hE0_2, hT0_3, hE0_3, hT0_4, hE0_4, hT1_2, hE1_2, hT1_3, hE1_3, hT1_4, hE1_4, hP, hI, hT0_2', hE0_2', hT0_3', hE0_3', hT0_4', hE0_4', hT1_2', hE1_2', hT1_3', hE1_3', hT1_4', hE1_4', hP', hI', laws_toSite.f, laws_eqSite.f, laws_toTab.f, laws_eqTab.f, Option.bind_some, if_true, bne_self_eq_false, Bool.false_eq_true, if_false, Bool.not_true, Bool.not_false]
end Go.Proofs.Ytdpmigainnmegaa.Pure
