/- The law FnExactEqualPackages as a statement over numbers and lists, with its proof; no conditions but the ranges that the values' types and the slices' lengths have. -/
import Derived.Test.YtmpkaooelpbeaaaPFnExactEqualPackagesx8
namespace Go.Proofs.Ytmpkaooelpbeaaa.Pure
open Go.RowKit Go.Proofs.Ytmpkaooelpbeaaa.PFnExactEqualPackages Go.Proofs.YtmpkaooelpbeaaaW.PrintWords Go.Proofs.YtmpkaooelpbeaaaW.PrintLast Go.Proofs.YtmpkaooelpbeaaaW.PrintMore
set_option linter.unusedVariables false
set_option linter.unusedSimpArgs false
/-! ### numbers, lists, rounds -/
theorem wf64 {n : Int} (h : (Lit.int .i64 n).wf = true) : -9223372036854775808 ≤ n ∧ n ≤ 9223372036854775807 := by
  simp [Lit.wf, IntKind.min, IntKind.max, IntKind.bits, IntKind.signed] at h
  omega
theorem wrap_id {n : Int} (h : -9223372036854775808 ≤ n ∧ n ≤ 9223372036854775807) : wrap64 n = n := by
  unfold wrap64
  omega
theorem wrap_nat {n : Nat} (h : n ≤ 1000000000000) : wrap64 ((n : Int) + 1) = ((n + 1 : Nat) : Int) := by
  unfold wrap64
  omega
theorem succ_of {m k : Nat} (h : m < k) : ∃ q, k = q + 1 := ⟨k - 1, by omega⟩
theorem ite_t {p : Prop} [Decidable p] {α : Type} {a b : α} (h : p) : (if p then a else b) = a := if_pos h
theorem ite_f {p : Prop} [Decidable p] {α : Type} {a b : α} (h : ¬ p) : (if p then a else b) = b := if_neg h
theorem bind_of {α β : Type} {x : Option α} {a : α} {f : α → Option β} {r : Option β} (h : x = some a) (h2 : f a = r) : x.bind f = r := by rw [h]; exact h2
theorem getD_mid {α : Type} (pre : List α) (x : α) (suf : List α) (z : α) : (pre ++ x :: suf).getD ((pre.length : Int)).toNat z = x := by
  simp
theorem rd_mid (pre : List Int) (x : Int) (suf : List Int) : rd (pre ++ x :: suf) (pre.length : Int) = x := by
  simp [rd]
theorem set_mid {α : Type} (pre : List α) (x y : α) (suf : List α) : (pre ++ x :: suf).set ((pre.length : Int)).toNat y = pre ++ y :: suf := by
  simp
theorem mid_lt {α : Type} (pre : List α) (x : α) (suf : List α) : (pre.length : Int) < ((pre ++ x :: suf).length : Int) := by
  simp; omega
theorem mid_lt' {α : Type} (pre : List α) (x : α) (suf : List α) (n : Nat) (h : pre.length = n) : (n : Int) < ((pre ++ x :: suf).length : Int) := by
  simp; omega
theorem nil_nlt {α : Type} (pre : List α) : ¬ ((pre.length : Int) < ((pre ++ []).length : Int)) := by simp
theorem len_nn (n : Nat) : (0 : Int) ≤ (n : Int) := by omega
theorem snoc_eq {α : Type} (pre : List α) (x : α) (suf : List α) : pre ++ x :: suf = (pre ++ [x]) ++ suf := by simp
theorem snoc_len {α : Type} (pre : List α) (x : α) : ((pre.length + 1 : Nat) : Int) = ((pre ++ [x]).length : Int) := by simp
def inR (n a b : Int) : Bool := decide (a ≤ n ∧ n ≤ b)
theorem inR_true {n a b : Int} : inR n a b = true ↔ a ≤ n ∧ n ≤ b := by simp [inR]
theorem inR_false {n a b : Int} : inR n a b = false ↔ ¬ (a ≤ n ∧ n ≤ b) := by simp [inR]
def Big (k : Nat) : Prop := 9900000 ≤ k
theorem big_out {k : Nat} (h : Big k) : 9900000 ≤ k := h
theorem big_succ {k : Nat} (h : Big k) : Big (k + 1) := by unfold Big at *; omega
theorem big_some : ∃ K : Nat, Big K := ⟨9900000, Nat.le_refl _⟩
theorem big_pred {k : Nat} (h : Big k) (n : Nat) (hn : n ≤ 1048577) : n < k := by unfold Big at h; omega
def Ok {α : Type} (l : List α) : Prop := l.length ≤ 1048576
theorem ok_out {α : Type} {l : List α} (h : Ok l) : l.length ≤ 1048576 := h
theorem ok_map {α β : Type} {f : α → β} {l : List α} (h : Ok l) : Ok (l.map f) := by unfold Ok at *; simpa using h
theorem ok_filter {α : Type} {f : α → Bool} {l : List α} (h : Ok l) : Ok (l.filter f) := by unfold Ok at *; exact Nat.le_trans (List.length_filter_le _ _) h
theorem ok_small {α : Type} {l : List α} (n : Nat) (h : l.length ≤ n) (hn : n ≤ 1048576) : Ok l := by unfold Ok; omega

def Lv (n k : Nat) : Prop := n * 1100000 ≤ k
theorem lv_out {n k : Nat} (h : Lv n k) : n * 1100000 ≤ k := h
theorem lv {n k : Nat} (h : Big k) (hn : n ≤ 9 := by decide) : Lv n k := by unfold Big at h; unfold Lv; omega
theorem lv_succ {n k : Nat} (h : Lv n k) : Lv n (k + 1) := by unfold Lv at *; omega
theorem lv_pred {n k : Nat} (h : Lv (n + 1) k) (m : Nat) (hm : m ≤ 1048580) : m < k := by unfold Lv at h; omega
theorem lv_mono {n m k : Nat} (h : Lv n k) (hm : m ≤ n := by decide) : Lv m k := Nat.le_trans (Nat.mul_le_mul_right _ hm) h
theorem rd139_mid (pre : List S139) (x : S139) (suf : List S139) : rd_T139 (pre ++ x :: suf) (pre.length : Int) = x := getD_mid pre x suf z139
def eq1_Rule (x y : S139) : Bool := (x.f0 == y.f0) && (x.f1 == y.f1) && (x.f2.f0 == y.f2.f0) && (x.f2.f1 == y.f2.f1) && (x.f3 == y.f3) && (x.f4 == y.f4) && (x.f5.f0 == y.f5.f0) && (x.f5.f1 == y.f5.f1)
def eqL_Rule : List S139 → List S139 → Bool
  | [], [] => true
  | x :: xs, y :: ys => eq1_Rule x y && eqL_Rule xs ys
  | _, _ => false
theorem ne1_Rule (x y : S139) : ((!(x.f0 == y.f0)) || ((!(x.f1 == y.f1)) || (((!(x.f2.f0 == y.f2.f0)) || (!(x.f2.f1 == y.f2.f1))) || ((!(x.f3 == y.f3)) || ((!(x.f4 == y.f4)) || ((!(x.f5.f0 == y.f5.f0)) || (!(x.f5.f1 == y.f5.f1)))))))) = !(eq1_Rule x y) := by
  unfold eq1_Rule
  cases (x.f0 == y.f0) <;> cases (x.f1 == y.f1) <;> cases (x.f2.f0 == y.f2.f0) <;> cases (x.f2.f1 == y.f2.f1) <;> cases (x.f3 == y.f3) <;> cases (x.f4 == y.f4) <;> cases (x.f5.f0 == y.f5.f0) <;> cases (x.f5.f1 == y.f5.f1) <;> rfl
theorem eq1_Rule_iff (x y : S139) : eq1_Rule x y = true ↔ x = y := by
  constructor
  · intro h
    obtain ⟨x0, x1, ⟨x2_0, x2_1⟩, x3, x4, ⟨x5_0, x5_1⟩⟩ := x
    obtain ⟨y0, y1, ⟨y2_0, y2_1⟩, y3, y4, ⟨y5_0, y5_1⟩⟩ := y
    simp_all [eq1_Rule]
  · rintro rfl
    simp [eq1_Rule]
theorem eqL_Rule_iff : ∀ (xs ys : List S139), eqL_Rule xs ys = true ↔ xs = ys
  | [], [] => by simp [eqL_Rule]
  | [], _ :: _ => by simp [eqL_Rule]
  | _ :: _, [] => by simp [eqL_Rule]
  | x :: xs, y :: ys => by simp [eqL_Rule, eqL_Rule_iff xs ys, eq1_Rule_iff x y]
theorem eqL_Rule_refl (xs : List S139) : eqL_Rule xs xs = true := (eqL_Rule_iff xs xs).2 rfl
theorem eqL_Rule_len {xs ys : List S139} (h : xs.length ≠ ys.length) : eqL_Rule xs ys = false := by
  cases hh : eqL_Rule xs ys with
  | false => rfl
  | true => exact absurd (congrArg List.length ((eqL_Rule_iff xs ys).1 hh)) h
theorem spec_EqualRules_l (suf : List S139) : ∀ (pre pre2 suf2 : List S139) (k : Nat), pre2.length = pre.length → suf2.length = suf.length → (pre ++ suf).length ≤ 1048576 → suf.length < k →
    spec_EqualRules.l0 k (pre ++ suf) (pre2 ++ suf2) (pre.length : Int) = some (eqL_Rule suf suf2) := by
  induction suf with
  | nil =>
    intro pre pre2 suf2 k h1 h2 hb hk
    obtain ⟨k, rfl⟩ := succ_of hk
    obtain rfl : suf2 = [] := List.eq_nil_of_length_eq_zero h2
    rw [spec_EqualRules.l0, if_neg (nil_nlt pre)]
    rfl
  | cons x suf ih =>
    intro pre pre2 suf2 k h1 h2 hb hk
    obtain ⟨k, rfl⟩ := succ_of hk
    rcases suf2 with _ | ⟨y, suf2⟩
    · simp at h2
    have hp : pre.length + suf.length < 1048576 := by simp at hb; omega
    have hm : (pre.length : Int) = (pre2.length : Int) := by omega
    have h := ih (pre ++ [x]) (pre2 ++ [y]) suf2 k (by simp [h1]) (by simpa using h2) (by simpa using hb) (by simpa using hk)
    have r2 : rd_T139 (pre2 ++ y :: suf2) (pre.length : Int) = y := by rw [hm]; exact rd139_mid pre2 y suf2
    have l2 : (pre.length : Int) < ((pre2 ++ y :: suf2).length : Int) := by rw [hm]; exact mid_lt _ _ _
    rw [spec_EqualRules.l0, if_pos (mid_lt _ _ _), if_pos (len_nn _), if_pos l2, rd139_mid, r2, wrap_nat (by omega), snoc_len pre x, snoc_eq pre x suf, snoc_eq pre2 y suf2, h, eqL_Rule]
    rw [ne1_Rule x y]
    cases eq1_Rule x y <;> simp
theorem spec_EqualRules_e {k : Nat} {l m : List S139} (hk : Lv 1 k) (hl : Ok l) : spec_EqualRules.f k l m = some (eqL_Rule l m) := by
  have hl' := ok_out hl
  unfold spec_EqualRules.f
  by_cases hlen : l.length = m.length
  · rw [if_pos (by omega)]
    simpa using spec_EqualRules_l l [] [] m k rfl hlen.symm (by simpa using hl') (lv_pred hk _ (by omega))
  · rw [if_neg (by omega), eqL_Rule_len hlen]
theorem rd132_mid (pre : List S132) (x : S132) (suf : List S132) : rd_T132 (pre ++ x :: suf) (pre.length : Int) = x := getD_mid pre x suf z132
def eq1_Grant (x y : S132) : Bool := (x.f0 == y.f0) && (x.f1.f0 == y.f1.f0) && (x.f1.f1 == y.f1.f1) && (x.f2 == y.f2) && (x.f3 == y.f3) && (x.f4 == y.f4) && (x.f5 == y.f5)
def eqL_Grant : List S132 → List S132 → Bool
  | [], [] => true
  | x :: xs, y :: ys => eq1_Grant x y && eqL_Grant xs ys
  | _, _ => false
theorem ne1_Grant (x y : S132) : ((!(x.f0 == y.f0)) || (((!(x.f1.f0 == y.f1.f0)) || (!(x.f1.f1 == y.f1.f1))) || ((!(x.f2 == y.f2)) || ((!(x.f3 == y.f3)) || ((!(x.f4 == y.f4)) || (!(x.f5 == y.f5))))))) = !(eq1_Grant x y) := by
  unfold eq1_Grant
  cases (x.f0 == y.f0) <;> cases (x.f1.f0 == y.f1.f0) <;> cases (x.f1.f1 == y.f1.f1) <;> cases (x.f2 == y.f2) <;> cases (x.f3 == y.f3) <;> cases (x.f4 == y.f4) <;> cases (x.f5 == y.f5) <;> rfl
theorem eq1_Grant_iff (x y : S132) : eq1_Grant x y = true ↔ x = y := by
  constructor
  · intro h
    obtain ⟨x0, ⟨x1_0, x1_1⟩, x2, x3, x4, x5⟩ := x
    obtain ⟨y0, ⟨y1_0, y1_1⟩, y2, y3, y4, y5⟩ := y
    simp_all [eq1_Grant]
  · rintro rfl
    simp [eq1_Grant]
theorem eqL_Grant_iff : ∀ (xs ys : List S132), eqL_Grant xs ys = true ↔ xs = ys
  | [], [] => by simp [eqL_Grant]
  | [], _ :: _ => by simp [eqL_Grant]
  | _ :: _, [] => by simp [eqL_Grant]
  | x :: xs, y :: ys => by simp [eqL_Grant, eqL_Grant_iff xs ys, eq1_Grant_iff x y]
theorem eqL_Grant_refl (xs : List S132) : eqL_Grant xs xs = true := (eqL_Grant_iff xs xs).2 rfl
theorem eqL_Grant_len {xs ys : List S132} (h : xs.length ≠ ys.length) : eqL_Grant xs ys = false := by
  cases hh : eqL_Grant xs ys with
  | false => rfl
  | true => exact absurd (congrArg List.length ((eqL_Grant_iff xs ys).1 hh)) h
theorem spec_EqualPackages_l0 (a b c : Int) (d a' b' c' d' : Int) (f : List S120) (r : List S139) (o : List S46) (f' : List S120) (r' : List S139) (o' : List S46) (suf : List S132) : ∀ (pre pre2 suf2 : List S132) (K k : Nat), pre2.length = pre.length → suf2.length = suf.length → (pre ++ suf).length ≤ 1048576 → k = K + suf.length + 1 →
    spec_EqualPackages.l0 k (pre.length : Int) a b c (pre ++ suf) f r o d a' b' c' (pre2 ++ suf2) f' r' o' d' = if eqL_Grant suf suf2 = true then spec_EqualPackages.l1 K 0 a b c (pre ++ suf) f r o d a' b' c' (pre2 ++ suf2) f' r' o' d' else some false := by
  induction suf with
  | nil =>
    intro pre pre2 suf2 K k h1 h2 hb hk
    subst hk
    obtain rfl : suf2 = [] := List.eq_nil_of_length_eq_zero h2
    rw [List.length_nil, Nat.add_zero, spec_EqualPackages.l0, if_neg (nil_nlt pre)]
    rfl
  | cons x suf ih =>
    intro pre pre2 suf2 K k h1 h2 hb hk
    simp only [List.length_cons] at hk
    obtain ⟨k, rfl⟩ : ∃ q, k = q + 1 := ⟨k - 1, by omega⟩
    rcases suf2 with _ | ⟨y, suf2⟩
    · simp at h2
    have hp : pre.length + suf.length < 1048576 := by simp at hb; omega
    have hm : (pre.length : Int) = (pre2.length : Int) := by omega
    have h := ih (pre ++ [x]) (pre2 ++ [y]) suf2 K k (by simp [h1]) (by simpa using h2) (by simpa using hb) (by omega)
    have r2 : rd_T132 (pre2 ++ y :: suf2) (pre.length : Int) = y := by rw [hm]; exact rd132_mid pre2 y suf2
    have l2 : (pre.length : Int) < ((pre2 ++ y :: suf2).length : Int) := by rw [hm]; exact mid_lt _ _ _
    rw [spec_EqualPackages.l0, if_pos (mid_lt _ _ _), if_pos (len_nn _), if_pos l2, rd132_mid, r2, wrap_nat (by omega), snoc_len pre x, snoc_eq pre x suf, snoc_eq pre2 y suf2, h, eqL_Grant]
    rw [ne1_Grant x y]
    cases eq1_Grant x y <;> simp
theorem rd120_mid (pre : List S120) (x : S120) (suf : List S120) : rd_T120 (pre ++ x :: suf) (pre.length : Int) = x := getD_mid pre x suf z120
def eq1_Flow (x y : S120) : Bool := (x.f0 == y.f0) && (x.f1 == y.f1) && (x.f2 == y.f2)
def eqL_Flow : List S120 → List S120 → Bool
  | [], [] => true
  | x :: xs, y :: ys => eq1_Flow x y && eqL_Flow xs ys
  | _, _ => false
theorem ne1_Flow (x y : S120) : ((!(x.f0 == y.f0)) || ((!(x.f1 == y.f1)) || (!(x.f2 == y.f2)))) = !(eq1_Flow x y) := by
  unfold eq1_Flow
  cases (x.f0 == y.f0) <;> cases (x.f1 == y.f1) <;> cases (x.f2 == y.f2) <;> rfl
theorem eq1_Flow_iff (x y : S120) : eq1_Flow x y = true ↔ x = y := by
  constructor
  · intro h
    obtain ⟨x0, x1, x2⟩ := x
    obtain ⟨y0, y1, y2⟩ := y
    simp_all [eq1_Flow]
  · rintro rfl
    simp [eq1_Flow]
theorem eqL_Flow_iff : ∀ (xs ys : List S120), eqL_Flow xs ys = true ↔ xs = ys
  | [], [] => by simp [eqL_Flow]
  | [], _ :: _ => by simp [eqL_Flow]
  | _ :: _, [] => by simp [eqL_Flow]
  | x :: xs, y :: ys => by simp [eqL_Flow, eqL_Flow_iff xs ys, eq1_Flow_iff x y]
theorem eqL_Flow_refl (xs : List S120) : eqL_Flow xs xs = true := (eqL_Flow_iff xs xs).2 rfl
theorem eqL_Flow_len {xs ys : List S120} (h : xs.length ≠ ys.length) : eqL_Flow xs ys = false := by
  cases hh : eqL_Flow xs ys with
  | false => rfl
  | true => exact absurd (congrArg List.length ((eqL_Flow_iff xs ys).1 hh)) h
theorem spec_EqualPackages_l1 (a b c : Int) (d a' b' c' d' : Int) (g : List S132) (r : List S139) (o : List S46) (g' : List S132) (r' : List S139) (o' : List S46) (suf : List S120) : ∀ (pre pre2 suf2 : List S120) (K k : Nat), pre2.length = pre.length → suf2.length = suf.length → (pre ++ suf).length ≤ 1048576 → k = K + suf.length + 1 →
    spec_EqualPackages.l1 k (pre.length : Int) a b c g (pre ++ suf) r o d a' b' c' g' (pre2 ++ suf2) r' o' d' = if eqL_Flow suf suf2 = true then spec_EqualPackages.l2 K 0 a b c g (pre ++ suf) r o d a' b' c' g' (pre2 ++ suf2) r' o' d' else some false := by
  induction suf with
  | nil =>
    intro pre pre2 suf2 K k h1 h2 hb hk
    subst hk
    obtain rfl : suf2 = [] := List.eq_nil_of_length_eq_zero h2
    rw [List.length_nil, Nat.add_zero, spec_EqualPackages.l1, if_neg (nil_nlt pre)]
    rfl
  | cons x suf ih =>
    intro pre pre2 suf2 K k h1 h2 hb hk
    simp only [List.length_cons] at hk
    obtain ⟨k, rfl⟩ : ∃ q, k = q + 1 := ⟨k - 1, by omega⟩
    rcases suf2 with _ | ⟨y, suf2⟩
    · simp at h2
    have hp : pre.length + suf.length < 1048576 := by simp at hb; omega
    have hm : (pre.length : Int) = (pre2.length : Int) := by omega
    have h := ih (pre ++ [x]) (pre2 ++ [y]) suf2 K k (by simp [h1]) (by simpa using h2) (by simpa using hb) (by omega)
    have r2 : rd_T120 (pre2 ++ y :: suf2) (pre.length : Int) = y := by rw [hm]; exact rd120_mid pre2 y suf2
    have l2 : (pre.length : Int) < ((pre2 ++ y :: suf2).length : Int) := by rw [hm]; exact mid_lt _ _ _
    rw [spec_EqualPackages.l1, if_pos (mid_lt _ _ _), if_pos (len_nn _), if_pos l2, rd120_mid, r2, wrap_nat (by omega), snoc_len pre x, snoc_eq pre x suf, snoc_eq pre2 y suf2, h, eqL_Flow]
    rw [ne1_Flow x y]
    cases eq1_Flow x y <;> simp
theorem rd46_mid (pre : List S46) (x : S46) (suf : List S46) : rd_T46 (pre ++ x :: suf) (pre.length : Int) = x := getD_mid pre x suf z46
def eq1_Op (x y : S46) : Bool := (x.f0 == y.f0) && (x.f1 == y.f1) && (x.f2 == y.f2) && (x.f3 == y.f3)
def eqL_Op : List S46 → List S46 → Bool
  | [], [] => true
  | x :: xs, y :: ys => eq1_Op x y && eqL_Op xs ys
  | _, _ => false
theorem ne1_Op (x y : S46) : ((!(x.f0 == y.f0)) || ((!(x.f1 == y.f1)) || ((!(x.f2 == y.f2)) || (!(x.f3 == y.f3))))) = !(eq1_Op x y) := by
  unfold eq1_Op
  cases (x.f0 == y.f0) <;> cases (x.f1 == y.f1) <;> cases (x.f2 == y.f2) <;> cases (x.f3 == y.f3) <;> rfl
theorem eq1_Op_iff (x y : S46) : eq1_Op x y = true ↔ x = y := by
  constructor
  · intro h
    obtain ⟨x0, x1, x2, x3⟩ := x
    obtain ⟨y0, y1, y2, y3⟩ := y
    simp_all [eq1_Op]
  · rintro rfl
    simp [eq1_Op]
theorem eqL_Op_iff : ∀ (xs ys : List S46), eqL_Op xs ys = true ↔ xs = ys
  | [], [] => by simp [eqL_Op]
  | [], _ :: _ => by simp [eqL_Op]
  | _ :: _, [] => by simp [eqL_Op]
  | x :: xs, y :: ys => by simp [eqL_Op, eqL_Op_iff xs ys, eq1_Op_iff x y]
theorem eqL_Op_refl (xs : List S46) : eqL_Op xs xs = true := (eqL_Op_iff xs xs).2 rfl
theorem eqL_Op_len {xs ys : List S46} (h : xs.length ≠ ys.length) : eqL_Op xs ys = false := by
  cases hh : eqL_Op xs ys with
  | false => rfl
  | true => exact absurd (congrArg List.length ((eqL_Op_iff xs ys).1 hh)) h
theorem spec_EqualPackages_l2 (a b c : Int) (d a' b' c' d' : Int) (g : List S132) (f : List S120) (r : List S139) (g' : List S132) (f' : List S120) (r' : List S139) (suf : List S46) : ∀ (pre pre2 suf2 : List S46) (K k : Nat), pre2.length = pre.length → suf2.length = suf.length → (pre ++ suf).length ≤ 1048576 → k = K + suf.length + 1 →
    spec_EqualPackages.l2 k (pre.length : Int) a b c g f r (pre ++ suf) d a' b' c' g' f' r' (pre2 ++ suf2) d' = if eqL_Op suf suf2 = true then ((spec_EqualRules.f K r r').bind fun t => (some t)) else some false := by
  induction suf with
  | nil =>
    intro pre pre2 suf2 K k h1 h2 hb hk
    subst hk
    obtain rfl : suf2 = [] := List.eq_nil_of_length_eq_zero h2
    rw [List.length_nil, Nat.add_zero, spec_EqualPackages.l2, if_neg (nil_nlt pre)]
    rfl
  | cons x suf ih =>
    intro pre pre2 suf2 K k h1 h2 hb hk
    simp only [List.length_cons] at hk
    obtain ⟨k, rfl⟩ : ∃ q, k = q + 1 := ⟨k - 1, by omega⟩
    rcases suf2 with _ | ⟨y, suf2⟩
    · simp at h2
    have hp : pre.length + suf.length < 1048576 := by simp at hb; omega
    have hm : (pre.length : Int) = (pre2.length : Int) := by omega
    have h := ih (pre ++ [x]) (pre2 ++ [y]) suf2 K k (by simp [h1]) (by simpa using h2) (by simpa using hb) (by omega)
    have r2 : rd_T46 (pre2 ++ y :: suf2) (pre.length : Int) = y := by rw [hm]; exact rd46_mid pre2 y suf2
    have l2 : (pre.length : Int) < ((pre2 ++ y :: suf2).length : Int) := by rw [hm]; exact mid_lt _ _ _
    rw [spec_EqualPackages.l2, if_pos (mid_lt _ _ _), if_pos (len_nn _), if_pos l2, rd46_mid, r2, wrap_nat (by omega), snoc_len pre x, snoc_eq pre x suf, snoc_eq pre2 y suf2, h, eqL_Op]
    rw [ne1_Op x y]
    cases eq1_Op x y <;> simp
def eqPkV (a b c : Int) (g : List S132) (f : List S120) (r : List S139) (o : List S46) (d a' b' c' : Int) (g' : List S132) (f' : List S120) (r' : List S139) (o' : List S46) (d' : Int) : Bool :=
  a == a' && (b == b' && (c == c' && (d == d' && (eqL_Grant g g' && (eqL_Flow f f' && (eqL_Rule r r' && eqL_Op o o'))))))
theorem spec_EqualPackages_e {k : Nat} (a b c : Int) {g : List S132} {f : List S120} {r : List S139} {o : List S46} (d a' b' c' : Int) (g' : List S132) (f' : List S120) (r' : List S139) (o' : List S46) (d' : Int) (hk : Lv 6 k) (hg : Ok g) (hf : Ok f) (hr : Ok r) (ho : Ok o) :
    spec_EqualPackages.f k a b c g f r o d a' b' c' g' f' r' o' d' = some (eqPkV a b c g f r o d a' b' c' g' f' r' o' d') := by
  have hk' := lv_out hk
  have hg' := ok_out hg
  have hf' := ok_out hf
  have hr' := ok_out hr
  have ho' := ok_out ho
  obtain ⟨k, rfl⟩ : ∃ q, k = q + 1 := ⟨k - 1, by omega⟩
  unfold spec_EqualPackages.f eqPkV
  simp only [spec_EqualPackages.j0, if_true]
  by_cases h1 : a = a'
  · by_cases h2 : b = b'
    · by_cases h3 : c = c'
      · by_cases h4 : d = d'
        · by_cases e1 : g.length = g'.length
          · by_cases e2 : f.length = f'.length
            · by_cases e3 : o.length = o'.length
              · have t1 := spec_EqualPackages_l0 a b c d a' b' c' d' f r o f' r' o' g [] [] g' (k - g.length - 1) k rfl e1.symm (by simpa using hg') (by omega)
                have t2 := spec_EqualPackages_l1 a b c d a' b' c' d' g r o g' r' o' f [] [] f' (k - g.length - 1 - f.length - 1) (k - g.length - 1) rfl e2.symm (by simpa using hf') (by omega)
                have t3 := spec_EqualPackages_l2 a b c d a' b' c' d' g f r g' f' r' o [] [] o' (k - g.length - 1 - f.length - 1 - o.length - 1) (k - g.length - 1 - f.length - 1) rfl e3.symm (by simpa using ho') (by omega)
                simp only [List.nil_append, List.length_nil] at t1 t2 t3
                rw [show ((0 : Nat) : Int) = 0 from rfl] at t1 t2 t3
                have t4 := spec_EqualRules_e (k := k - g.length - 1 - f.length - 1 - o.length - 1) (m := r') (show Lv 1 _ by unfold Lv; omega) hr
                rw [if_pos h1, if_pos h2, if_pos h3, if_pos h4, if_pos (by omega), if_pos (by omega), if_neg (by simp [e3]), t1, t2, t3, t4, Option.bind_some]
                simp only [h1, h2, h3, h4, beq_self_eq_true, Bool.true_and]
                cases eqL_Grant g g' <;> cases eqL_Flow f f' <;> cases eqL_Op o o' <;> simp
              · rw [eqL_Op_len e3, if_pos h1, if_pos h2, if_pos h3, if_pos h4, if_pos (by omega), if_pos (by omega), if_pos (by simp; omega)]; simp
            · rw [eqL_Flow_len e2, if_pos h1, if_pos h2, if_pos h3, if_pos h4, if_pos (by omega), if_neg (by omega)]; simp
          · rw [eqL_Grant_len e1, if_pos h1, if_pos h2, if_pos h3, if_pos h4, if_neg (by omega)]; simp
        · rw [if_pos h1, if_pos h2, if_pos h3, if_neg h4]; simp [h4]
      · rw [if_pos h1, if_pos h2, if_neg h3]; simp [h3]
    · rw [if_pos h1, if_neg h2]; simp [h2]
  · rw [if_neg h1]; simp [h1]
theorem slEq_Grant_l (suf : List S132) : ∀ (pre pre2 suf2 : List S132) (k : Nat), pre2.length = pre.length → suf2.length = suf.length → (pre ++ suf).length ≤ 1048576 → suf.length < k →
    impl_Grant.l0 k (pre ++ suf) (pre2 ++ suf2) ((pre ++ suf).length : Int) (pre.length : Int) = some (eqL_Grant suf suf2) := by
  induction suf with
  | nil =>
    intro pre pre2 suf2 k h1 h2 hb hk
    obtain ⟨k, rfl⟩ := succ_of hk
    obtain rfl : suf2 = [] := List.eq_nil_of_length_eq_zero h2
    rw [impl_Grant.l0, if_neg (nil_nlt pre)]
    rfl
  | cons x suf ih =>
    intro pre pre2 suf2 k h1 h2 hb hk
    obtain ⟨k, rfl⟩ := succ_of hk
    rcases suf2 with _ | ⟨y, suf2⟩
    · simp at h2
    have hp : pre.length + suf.length < 1048576 := by simp at hb; omega
    have hm : (pre.length : Int) = (pre2.length : Int) := by omega
    have h := ih (pre ++ [x]) (pre2 ++ [y]) suf2 k (by simp [h1]) (by simpa using h2) (by simpa using hb) (by simpa using hk)
    have r2 : rd_T132 (pre2 ++ y :: suf2) (pre.length : Int) = y := by rw [hm]; exact rd132_mid pre2 y suf2
    have l2 : (pre.length : Int) < ((pre2 ++ y :: suf2).length : Int) := by rw [hm]; exact mid_lt _ _ _
    rw [impl_Grant.l0, if_pos (mid_lt _ _ _), if_pos (len_nn _), if_pos (mid_lt _ _ _), if_pos l2, rd132_mid, r2, wrap_nat (by omega), snoc_len pre x, snoc_eq pre x suf, snoc_eq pre2 y suf2, h, eqL_Grant]
    rw [ne1_Grant x y]
    cases eq1_Grant x y <;> simp
theorem slEq_Grant_e {k : Nat} {l m : List S132} (hk : Lv 1 k) (hl : Ok l) : impl_Grant.f k l m = some (eqL_Grant l m) := by
  have hl' := ok_out hl
  unfold impl_Grant.f
  by_cases hlen : l.length = m.length
  · rw [if_pos (by omega)]
    simpa using slEq_Grant_l l [] [] m k rfl hlen.symm (by simpa using hl') (lv_pred hk _ (by omega))
  · rw [if_neg (by omega), eqL_Grant_len hlen]
theorem slEq_Flow_l (suf : List S120) : ∀ (pre pre2 suf2 : List S120) (k : Nat), pre2.length = pre.length → suf2.length = suf.length → (pre ++ suf).length ≤ 1048576 → suf.length < k →
    impl_Flow.l0 k (pre ++ suf) (pre2 ++ suf2) ((pre ++ suf).length : Int) (pre.length : Int) = some (eqL_Flow suf suf2) := by
  induction suf with
  | nil =>
    intro pre pre2 suf2 k h1 h2 hb hk
    obtain ⟨k, rfl⟩ := succ_of hk
    obtain rfl : suf2 = [] := List.eq_nil_of_length_eq_zero h2
    rw [impl_Flow.l0, if_neg (nil_nlt pre)]
    rfl
  | cons x suf ih =>
    intro pre pre2 suf2 k h1 h2 hb hk
    obtain ⟨k, rfl⟩ := succ_of hk
    rcases suf2 with _ | ⟨y, suf2⟩
    · simp at h2
    have hp : pre.length + suf.length < 1048576 := by simp at hb; omega
    have hm : (pre.length : Int) = (pre2.length : Int) := by omega
    have h := ih (pre ++ [x]) (pre2 ++ [y]) suf2 k (by simp [h1]) (by simpa using h2) (by simpa using hb) (by simpa using hk)
    have r2 : rd_T120 (pre2 ++ y :: suf2) (pre.length : Int) = y := by rw [hm]; exact rd120_mid pre2 y suf2
    have l2 : (pre.length : Int) < ((pre2 ++ y :: suf2).length : Int) := by rw [hm]; exact mid_lt _ _ _
    rw [impl_Flow.l0, if_pos (mid_lt _ _ _), if_pos (len_nn _), if_pos (mid_lt _ _ _), if_pos l2, rd120_mid, r2, wrap_nat (by omega), snoc_len pre x, snoc_eq pre x suf, snoc_eq pre2 y suf2, h, eqL_Flow]
    rw [ne1_Flow x y]
    cases eq1_Flow x y <;> simp
theorem slEq_Flow_e {k : Nat} {l m : List S120} (hk : Lv 1 k) (hl : Ok l) : impl_Flow.f k l m = some (eqL_Flow l m) := by
  have hl' := ok_out hl
  unfold impl_Flow.f
  by_cases hlen : l.length = m.length
  · rw [if_pos (by omega)]
    simpa using slEq_Flow_l l [] [] m k rfl hlen.symm (by simpa using hl') (lv_pred hk _ (by omega))
  · rw [if_neg (by omega), eqL_Flow_len hlen]
theorem slEq_Rule_l (suf : List S139) : ∀ (pre pre2 suf2 : List S139) (k : Nat), pre2.length = pre.length → suf2.length = suf.length → (pre ++ suf).length ≤ 1048576 → suf.length < k →
    impl_Rule.l0 k (pre ++ suf) (pre2 ++ suf2) ((pre ++ suf).length : Int) (pre.length : Int) = some (eqL_Rule suf suf2) := by
  induction suf with
  | nil =>
    intro pre pre2 suf2 k h1 h2 hb hk
    obtain ⟨k, rfl⟩ := succ_of hk
    obtain rfl : suf2 = [] := List.eq_nil_of_length_eq_zero h2
    rw [impl_Rule.l0, if_neg (nil_nlt pre)]
    rfl
  | cons x suf ih =>
    intro pre pre2 suf2 k h1 h2 hb hk
    obtain ⟨k, rfl⟩ := succ_of hk
    rcases suf2 with _ | ⟨y, suf2⟩
    · simp at h2
    have hp : pre.length + suf.length < 1048576 := by simp at hb; omega
    have hm : (pre.length : Int) = (pre2.length : Int) := by omega
    have h := ih (pre ++ [x]) (pre2 ++ [y]) suf2 k (by simp [h1]) (by simpa using h2) (by simpa using hb) (by simpa using hk)
    have r2 : rd_T139 (pre2 ++ y :: suf2) (pre.length : Int) = y := by rw [hm]; exact rd139_mid pre2 y suf2
    have l2 : (pre.length : Int) < ((pre2 ++ y :: suf2).length : Int) := by rw [hm]; exact mid_lt _ _ _
    rw [impl_Rule.l0, if_pos (mid_lt _ _ _), if_pos (len_nn _), if_pos (mid_lt _ _ _), if_pos l2, rd139_mid, r2, wrap_nat (by omega), snoc_len pre x, snoc_eq pre x suf, snoc_eq pre2 y suf2, h, eqL_Rule]
    rw [ne1_Rule x y]
    cases eq1_Rule x y <;> simp
theorem slEq_Rule_e {k : Nat} {l m : List S139} (hk : Lv 1 k) (hl : Ok l) : impl_Rule.f k l m = some (eqL_Rule l m) := by
  have hl' := ok_out hl
  unfold impl_Rule.f
  by_cases hlen : l.length = m.length
  · rw [if_pos (by omega)]
    simpa using slEq_Rule_l l [] [] m k rfl hlen.symm (by simpa using hl') (lv_pred hk _ (by omega))
  · rw [if_neg (by omega), eqL_Rule_len hlen]
theorem slEq_Op_l (suf : List S46) : ∀ (pre pre2 suf2 : List S46) (k : Nat), pre2.length = pre.length → suf2.length = suf.length → (pre ++ suf).length ≤ 1048576 → suf.length < k →
    impl_Op.l0 k (pre ++ suf) (pre2 ++ suf2) ((pre ++ suf).length : Int) (pre.length : Int) = some (eqL_Op suf suf2) := by
  induction suf with
  | nil =>
    intro pre pre2 suf2 k h1 h2 hb hk
    obtain ⟨k, rfl⟩ := succ_of hk
    obtain rfl : suf2 = [] := List.eq_nil_of_length_eq_zero h2
    rw [impl_Op.l0, if_neg (nil_nlt pre)]
    rfl
  | cons x suf ih =>
    intro pre pre2 suf2 k h1 h2 hb hk
    obtain ⟨k, rfl⟩ := succ_of hk
    rcases suf2 with _ | ⟨y, suf2⟩
    · simp at h2
    have hp : pre.length + suf.length < 1048576 := by simp at hb; omega
    have hm : (pre.length : Int) = (pre2.length : Int) := by omega
    have h := ih (pre ++ [x]) (pre2 ++ [y]) suf2 k (by simp [h1]) (by simpa using h2) (by simpa using hb) (by simpa using hk)
    have r2 : rd_T46 (pre2 ++ y :: suf2) (pre.length : Int) = y := by rw [hm]; exact rd46_mid pre2 y suf2
    have l2 : (pre.length : Int) < ((pre2 ++ y :: suf2).length : Int) := by rw [hm]; exact mid_lt _ _ _
    rw [impl_Op.l0, if_pos (mid_lt _ _ _), if_pos (len_nn _), if_pos (mid_lt _ _ _), if_pos l2, rd46_mid, r2, wrap_nat (by omega), snoc_len pre x, snoc_eq pre x suf, snoc_eq pre2 y suf2, h, eqL_Op]
    rw [ne1_Op x y]
    cases eq1_Op x y <;> simp
theorem slEq_Op_e {k : Nat} {l m : List S46} (hk : Lv 1 k) (hl : Ok l) : impl_Op.f k l m = some (eqL_Op l m) := by
  have hl' := ok_out hl
  unfold impl_Op.f
  by_cases hlen : l.length = m.length
  · rw [if_pos (by omega)]
    simpa using slEq_Op_l l [] [] m k rfl hlen.symm (by simpa using hl') (lv_pred hk _ (by omega))
  · rw [if_neg (by omega), eqL_Op_len hlen]
theorem impl_EqualPackages_e {k : Nat} (a b c : Int) {g : List S132} {f : List S120} {r : List S139} {o : List S46} (d a' b' c' : Int) (g' : List S132) (f' : List S120) (r' : List S139) (o' : List S46) (d' : Int) (hk : Lv 6 k) (hg : Ok g) (hf : Ok f) (hr : Ok r) (ho : Ok o) :
    impl_EqualPackages.f k a b c g f r o d a' b' c' g' f' r' o' d' = some (eqPkV a b c g f r o d a' b' c' g' f' r' o' d') := by
  unfold impl_EqualPackages.f eqPkV
  have hk1 : Lv 1 k := lv_mono hk
  rw [slEq_Grant_e hk1 hg, slEq_Flow_e hk1 hf, slEq_Rule_e hk1 hr, slEq_Op_e hk1 ho]
  simp only [Option.bind_some]
  by_cases h1 : a = a' <;> by_cases h2 : b = b' <;> by_cases h3 : c = c' <;> by_cases h4 : d = d' <;> simp [h1, h2, h3, h4]
  cases eqL_Grant g g' <;> cases eqL_Flow f f' <;> cases eqL_Rule r r' <;> simp
theorem laws_szGrantS_no {l : List S171} {a : Int} (h0 : 0 ≤ a) (h1 : a ≤ 1048576) (h : l.length ≤ maxLen) (hn : a < l.length) : laws_szGrantS.f l a = some (-1) := by
  unfold maxLen at h
  unfold laws_szGrantS.f
  rw [wrap_id (by omega), if_pos (by omega)]
theorem laws_szGrantS_yes {l : List S171} {a : Int} (h0 : 0 ≤ a) (h1 : a ≤ 1048576) (hn : l.length ≤ a) : laws_szGrantS.f l a = some (a - l.length) := by
  unfold laws_szGrantS.f
  rw [wrap_id (by omega), if_neg (by omega)]
theorem rd171_mid (pre : List S171) (x : S171) (suf : List S171) : rd_T171 (pre ++ x :: suf) (pre.length : Int) = x := getD_mid pre x suf z171
def cv_Grant (x : S171) : S132 := (⟨x.f0, (⟨x.f1.f0, x.f1.f1⟩ : S130), x.f2, x.f3, x.f4, x.f5⟩ : S132)
theorem laws_toGrantS_l (suf : List S171) : ∀ (pre : List S171) (k : Nat), (pre ++ suf).length ≤ 1048576 → suf.length < k →
    laws_toGrantS.l0 k (pre ++ suf) (pre.map cv_Grant ++ List.replicate suf.length z132) (pre.length : Int) = some ((pre ++ suf).map cv_Grant) := by
  induction suf with
  | nil =>
    intro pre k hb hk
    obtain ⟨k, rfl⟩ := succ_of hk
    rw [laws_toGrantS.l0, if_neg (nil_nlt pre)]
    simp
  | cons x suf ih =>
    intro pre k hb hk
    obtain ⟨k, rfl⟩ := succ_of hk
    have hp : pre.length ≤ 1048576 := by simp at hb; omega
    have hm : (pre.length : Int) = ((pre.map cv_Grant).length : Int) := by simp
    have h := ih (pre ++ [x]) k (by simpa using hb) (by simpa using hk)
    rw [laws_toGrantS.l0, if_pos (mid_lt _ _ _), if_pos (len_nn _), rd171_mid]
    simp only [laws_toGrant.f, laws_toPattern.f, Option.bind_some]
    rw [if_pos (by simp; omega), List.length_cons, List.replicate_succ, hm, set_mid, wrap_nat (by simpa using Nat.le_trans hp (by omega)), snoc_eq pre x suf]
    rw [snoc_eq (pre.map cv_Grant)]
    simp only [List.map_append, List.map_cons, List.map_nil, List.length_append, List.length_map, List.length_cons, List.length_nil, Nat.zero_add] at h ⊢
    exact h
theorem laws_toGrantS_e {k : Nat} {l : List S171} (hk : Big k) (hl : Ok l) : laws_toGrantS.f k l = some (l.map cv_Grant) := by
  have hl' := ok_out hl
  unfold laws_toGrantS.f
  rw [if_pos (len_nn _), if_pos (by omega)]
  simpa using laws_toGrantS_l l [] k (by simpa using hl') (big_pred hk _ (by omega))
theorem laws_eqGrantS_l (suf : List S132) : ∀ (pre : List S132) (k : Nat), (pre ++ suf).length ≤ 1048576 → suf.length < k →
    laws_eqGrantS.l0 k (pre ++ suf) (pre ++ suf) (pre.length : Int) = some true := by
  induction suf with
  | nil =>
    intro pre k hb hk
    obtain ⟨k, rfl⟩ := succ_of hk
    rw [laws_eqGrantS.l0, if_neg (nil_nlt pre)]
  | cons x suf ih =>
    intro pre k hb hk
    obtain ⟨k, rfl⟩ := succ_of hk
    have hp : pre.length ≤ 1048576 := by simp at hb; omega
    have h := ih (pre ++ [x]) k (by simpa using hb) (by simpa using hk)
    rw [laws_eqGrantS.l0, if_pos (mid_lt _ _ _), if_pos (len_nn _), if_pos (mid_lt _ _ _), rd132_mid, wrap_nat (by omega), snoc_len pre x, snoc_eq pre x suf, h]
    simp [laws_eqPattern.f, laws_eqGrant.f]
theorem laws_eqGrantS_e {k : Nat} {l : List S132} (hk : Big k) (hl : Ok l) : laws_eqGrantS.f k l l = some true := by
  have hl' := ok_out hl
  unfold laws_eqGrantS.f
  rw [if_pos rfl]
  simpa using laws_eqGrantS_l l [] k (by simpa using hl') (big_pred hk _ (by omega))
theorem laws_szFlowS_no {l : List S126} {a : Int} (h0 : 0 ≤ a) (h1 : a ≤ 1048576) (h : l.length ≤ maxLen) (hn : a < l.length) : laws_szFlowS.f l a = some (-1) := by
  unfold maxLen at h
  unfold laws_szFlowS.f
  rw [wrap_id (by omega), if_pos (by omega)]
theorem laws_szFlowS_yes {l : List S126} {a : Int} (h0 : 0 ≤ a) (h1 : a ≤ 1048576) (hn : l.length ≤ a) : laws_szFlowS.f l a = some (a - l.length) := by
  unfold laws_szFlowS.f
  rw [wrap_id (by omega), if_neg (by omega)]
theorem rd126_mid (pre : List S126) (x : S126) (suf : List S126) : rd_T126 (pre ++ x :: suf) (pre.length : Int) = x := getD_mid pre x suf z126
def cv_Flow (x : S126) : S120 := (⟨x.f0, x.f1, x.f2⟩ : S120)
theorem laws_toFlowS_l (suf : List S126) : ∀ (pre : List S126) (k : Nat), (pre ++ suf).length ≤ 1048576 → suf.length < k →
    laws_toFlowS.l0 k (pre ++ suf) (pre.map cv_Flow ++ List.replicate suf.length z120) (pre.length : Int) = some ((pre ++ suf).map cv_Flow) := by
  induction suf with
  | nil =>
    intro pre k hb hk
    obtain ⟨k, rfl⟩ := succ_of hk
    rw [laws_toFlowS.l0, if_neg (nil_nlt pre)]
    simp
  | cons x suf ih =>
    intro pre k hb hk
    obtain ⟨k, rfl⟩ := succ_of hk
    have hp : pre.length ≤ 1048576 := by simp at hb; omega
    have hm : (pre.length : Int) = ((pre.map cv_Flow).length : Int) := by simp
    have h := ih (pre ++ [x]) k (by simpa using hb) (by simpa using hk)
    rw [laws_toFlowS.l0, if_pos (mid_lt _ _ _), if_pos (len_nn _), rd126_mid]
    simp only [laws_toFlow.f, Option.bind_some]
    rw [if_pos (by simp; omega), List.length_cons, List.replicate_succ, hm, set_mid, wrap_nat (by simpa using Nat.le_trans hp (by omega)), snoc_eq pre x suf]
    rw [snoc_eq (pre.map cv_Flow)]
    simp only [List.map_append, List.map_cons, List.map_nil, List.length_append, List.length_map, List.length_cons, List.length_nil, Nat.zero_add] at h ⊢
    exact h
theorem laws_toFlowS_e {k : Nat} {l : List S126} (hk : Big k) (hl : Ok l) : laws_toFlowS.f k l = some (l.map cv_Flow) := by
  have hl' := ok_out hl
  unfold laws_toFlowS.f
  rw [if_pos (len_nn _), if_pos (by omega)]
  simpa using laws_toFlowS_l l [] k (by simpa using hl') (big_pred hk _ (by omega))
theorem laws_eqFlowS_l (suf : List S120) : ∀ (pre : List S120) (k : Nat), (pre ++ suf).length ≤ 1048576 → suf.length < k →
    laws_eqFlowS.l0 k (pre ++ suf) (pre ++ suf) (pre.length : Int) = some true := by
  induction suf with
  | nil =>
    intro pre k hb hk
    obtain ⟨k, rfl⟩ := succ_of hk
    rw [laws_eqFlowS.l0, if_neg (nil_nlt pre)]
  | cons x suf ih =>
    intro pre k hb hk
    obtain ⟨k, rfl⟩ := succ_of hk
    have hp : pre.length ≤ 1048576 := by simp at hb; omega
    have h := ih (pre ++ [x]) k (by simpa using hb) (by simpa using hk)
    rw [laws_eqFlowS.l0, if_pos (mid_lt _ _ _), if_pos (len_nn _), if_pos (mid_lt _ _ _), rd120_mid, wrap_nat (by omega), snoc_len pre x, snoc_eq pre x suf, h]
    simp [laws_eqFlow.f]
theorem laws_eqFlowS_e {k : Nat} {l : List S120} (hk : Big k) (hl : Ok l) : laws_eqFlowS.f k l l = some true := by
  have hl' := ok_out hl
  unfold laws_eqFlowS.f
  rw [if_pos rfl]
  simpa using laws_eqFlowS_l l [] k (by simpa using hl') (big_pred hk _ (by omega))
theorem laws_szRuleS_no {l : List S175} {a : Int} (h0 : 0 ≤ a) (h1 : a ≤ 1048576) (h : l.length ≤ maxLen) (hn : a < l.length) : laws_szRuleS.f l a = some (-1) := by
  unfold maxLen at h
  unfold laws_szRuleS.f
  rw [wrap_id (by omega), if_pos (by omega)]
theorem laws_szRuleS_yes {l : List S175} {a : Int} (h0 : 0 ≤ a) (h1 : a ≤ 1048576) (hn : l.length ≤ a) : laws_szRuleS.f l a = some (a - l.length) := by
  unfold laws_szRuleS.f
  rw [wrap_id (by omega), if_neg (by omega)]
theorem rd175_mid (pre : List S175) (x : S175) (suf : List S175) : rd_T175 (pre ++ x :: suf) (pre.length : Int) = x := getD_mid pre x suf z175
def cv_Rule (x : S175) : S139 := (⟨x.f0, x.f1, (⟨x.f2.f0, x.f2.f1⟩ : S130), x.f3, x.f4, (⟨x.f5.f0, x.f5.f1⟩ : S137)⟩ : S139)
theorem laws_toRuleS_l (suf : List S175) : ∀ (pre : List S175) (k : Nat), (pre ++ suf).length ≤ 1048576 → suf.length < k →
    laws_toRuleS.l0 k (pre ++ suf) (pre.map cv_Rule ++ List.replicate suf.length z139) (pre.length : Int) = some ((pre ++ suf).map cv_Rule) := by
  induction suf with
  | nil =>
    intro pre k hb hk
    obtain ⟨k, rfl⟩ := succ_of hk
    rw [laws_toRuleS.l0, if_neg (nil_nlt pre)]
    simp
  | cons x suf ih =>
    intro pre k hb hk
    obtain ⟨k, rfl⟩ := succ_of hk
    have hp : pre.length ≤ 1048576 := by simp at hb; omega
    have hm : (pre.length : Int) = ((pre.map cv_Rule).length : Int) := by simp
    have h := ih (pre ++ [x]) k (by simpa using hb) (by simpa using hk)
    rw [laws_toRuleS.l0, if_pos (mid_lt _ _ _), if_pos (len_nn _), rd175_mid]
    simp only [laws_toRule.f, laws_toPattern.f, laws_toSite.f, Option.bind_some]
    rw [if_pos (by simp; omega), List.length_cons, List.replicate_succ, hm, set_mid, wrap_nat (by simpa using Nat.le_trans hp (by omega)), snoc_eq pre x suf]
    rw [snoc_eq (pre.map cv_Rule)]
    simp only [List.map_append, List.map_cons, List.map_nil, List.length_append, List.length_map, List.length_cons, List.length_nil, Nat.zero_add] at h ⊢
    exact h
theorem laws_toRuleS_e {k : Nat} {l : List S175} (hk : Big k) (hl : Ok l) : laws_toRuleS.f k l = some (l.map cv_Rule) := by
  have hl' := ok_out hl
  unfold laws_toRuleS.f
  rw [if_pos (len_nn _), if_pos (by omega)]
  simpa using laws_toRuleS_l l [] k (by simpa using hl') (big_pred hk _ (by omega))
theorem laws_eqRuleS_l (suf : List S139) : ∀ (pre : List S139) (k : Nat), (pre ++ suf).length ≤ 1048576 → suf.length < k →
    laws_eqRuleS.l0 k (pre ++ suf) (pre ++ suf) (pre.length : Int) = some true := by
  induction suf with
  | nil =>
    intro pre k hb hk
    obtain ⟨k, rfl⟩ := succ_of hk
    rw [laws_eqRuleS.l0, if_neg (nil_nlt pre)]
  | cons x suf ih =>
    intro pre k hb hk
    obtain ⟨k, rfl⟩ := succ_of hk
    have hp : pre.length ≤ 1048576 := by simp at hb; omega
    have h := ih (pre ++ [x]) k (by simpa using hb) (by simpa using hk)
    rw [laws_eqRuleS.l0, if_pos (mid_lt _ _ _), if_pos (len_nn _), if_pos (mid_lt _ _ _), rd139_mid, wrap_nat (by omega), snoc_len pre x, snoc_eq pre x suf, h]
    simp [laws_eqPattern.f, laws_eqSite.f, laws_eqRule.f]
theorem laws_eqRuleS_e {k : Nat} {l : List S139} (hk : Big k) (hl : Ok l) : laws_eqRuleS.f k l l = some true := by
  have hl' := ok_out hl
  unfold laws_eqRuleS.f
  rw [if_pos rfl]
  simpa using laws_eqRuleS_l l [] k (by simpa using hl') (big_pred hk _ (by omega))
theorem laws_szOpS_no {l : List S107} {a : Int} (h0 : 0 ≤ a) (h1 : a ≤ 1048576) (h : l.length ≤ maxLen) (hn : a < l.length) : laws_szOpS.f l a = some (-1) := by
  unfold maxLen at h
  unfold laws_szOpS.f
  rw [wrap_id (by omega), if_pos (by omega)]
theorem laws_szOpS_yes {l : List S107} {a : Int} (h0 : 0 ≤ a) (h1 : a ≤ 1048576) (hn : l.length ≤ a) : laws_szOpS.f l a = some (a - l.length) := by
  unfold laws_szOpS.f
  rw [wrap_id (by omega), if_neg (by omega)]
theorem rd107_mid (pre : List S107) (x : S107) (suf : List S107) : rd_T107 (pre ++ x :: suf) (pre.length : Int) = x := getD_mid pre x suf z107
def cv_Op (x : S107) : S46 := (⟨x.f0, x.f1, x.f2, x.f3⟩ : S46)
theorem laws_toOpS_l (suf : List S107) : ∀ (pre : List S107) (k : Nat), (pre ++ suf).length ≤ 1048576 → suf.length < k →
    laws_toOpS.l0 k (pre ++ suf) (pre.map cv_Op ++ List.replicate suf.length z46) (pre.length : Int) = some ((pre ++ suf).map cv_Op) := by
  induction suf with
  | nil =>
    intro pre k hb hk
    obtain ⟨k, rfl⟩ := succ_of hk
    rw [laws_toOpS.l0, if_neg (nil_nlt pre)]
    simp
  | cons x suf ih =>
    intro pre k hb hk
    obtain ⟨k, rfl⟩ := succ_of hk
    have hp : pre.length ≤ 1048576 := by simp at hb; omega
    have hm : (pre.length : Int) = ((pre.map cv_Op).length : Int) := by simp
    have h := ih (pre ++ [x]) k (by simpa using hb) (by simpa using hk)
    rw [laws_toOpS.l0, if_pos (mid_lt _ _ _), if_pos (len_nn _), rd107_mid]
    simp only [laws_toOp.f, Option.bind_some]
    rw [if_pos (by simp; omega), List.length_cons, List.replicate_succ, hm, set_mid, wrap_nat (by simpa using Nat.le_trans hp (by omega)), snoc_eq pre x suf]
    rw [snoc_eq (pre.map cv_Op)]
    simp only [List.map_append, List.map_cons, List.map_nil, List.length_append, List.length_map, List.length_cons, List.length_nil, Nat.zero_add] at h ⊢
    exact h
theorem laws_toOpS_e {k : Nat} {l : List S107} (hk : Big k) (hl : Ok l) : laws_toOpS.f k l = some (l.map cv_Op) := by
  have hl' := ok_out hl
  unfold laws_toOpS.f
  rw [if_pos (len_nn _), if_pos (by omega)]
  simpa using laws_toOpS_l l [] k (by simpa using hl') (big_pred hk _ (by omega))
theorem laws_eqOpS_l (suf : List S46) : ∀ (pre : List S46) (k : Nat), (pre ++ suf).length ≤ 1048576 → suf.length < k →
    laws_eqOpS.l0 k (pre ++ suf) (pre ++ suf) (pre.length : Int) = some true := by
  induction suf with
  | nil =>
    intro pre k hb hk
    obtain ⟨k, rfl⟩ := succ_of hk
    rw [laws_eqOpS.l0, if_neg (nil_nlt pre)]
  | cons x suf ih =>
    intro pre k hb hk
    obtain ⟨k, rfl⟩ := succ_of hk
    have hp : pre.length ≤ 1048576 := by simp at hb; omega
    have h := ih (pre ++ [x]) k (by simpa using hb) (by simpa using hk)
    rw [laws_eqOpS.l0, if_pos (mid_lt _ _ _), if_pos (len_nn _), if_pos (mid_lt _ _ _), rd46_mid, wrap_nat (by omega), snoc_len pre x, snoc_eq pre x suf, h]
    simp [laws_eqOp.f]
theorem laws_eqOpS_e {k : Nat} {l : List S46} (hk : Big k) (hl : Ok l) : laws_eqOpS.f k l l = some true := by
  have hl' := ok_out hl
  unfold laws_eqOpS.f
  rw [if_pos rfl]
  simpa using laws_eqOpS_l l [] k (by simpa using hl') (big_pred hk _ (by omega))

theorem FnExactEqualPackages : ∀ (a0_0 : Int) (a0_1 : Int) (a0_2 : Int) (l0_3 : List (S171)) (l0_4 : List (S126)) (l0_5 : List (S175)) (l0_6 : List (S107)) (a0_7 : Int) (a1_0 : Int) (a1_1 : Int) (a1_2 : Int) (l1_3 : List (S171)) (l1_4 : List (S126)) (l1_5 : List (S175)) (l1_6 : List (S107)) (a1_7 : Int), (Lit.int .i64 a0_0).wf = true → (Lit.int .i64 a0_1).wf = true → (Lit.int .i64 a0_2).wf = true → l0_3.length ≤ maxLen → (∀ x ∈ l0_3, (Lit.int .i64 x.f0).wf = true ∧ (Lit.int .i64 x.f1.f0).wf = true ∧ (Lit.int .i64 x.f1.f1).wf = true ∧ (Lit.int .i64 x.f2).wf = true ∧ (Lit.int .i64 x.f3).wf = true ∧ (Lit.int .i64 x.f4).wf = true) → l0_4.length ≤ maxLen → (∀ x ∈ l0_4, (Lit.int .i64 x.f0).wf = true ∧ (Lit.int .i64 x.f1).wf = true ∧ (Lit.int .i64 x.f2).wf = true) → l0_5.length ≤ maxLen → (∀ x ∈ l0_5, (Lit.int .i64 x.f0).wf = true ∧ (Lit.int .i64 x.f1).wf = true ∧ (Lit.int .i64 x.f2.f0).wf = true ∧ (Lit.int .i64 x.f2.f1).wf = true ∧ (Lit.int .i64 x.f3).wf = true ∧ (Lit.int .i64 x.f4).wf = true ∧ (Lit.int .i64 x.f5.f0).wf = true ∧ (Lit.int .i64 x.f5.f1).wf = true) → l0_6.length ≤ maxLen → (∀ x ∈ l0_6, (Lit.int .i64 x.f0).wf = true ∧ (Lit.int .i64 x.f1).wf = true ∧ (Lit.int .i64 x.f2).wf = true ∧ (Lit.int .i64 x.f3).wf = true) → (Lit.int .i64 a0_7).wf = true → (Lit.int .i64 a1_0).wf = true → (Lit.int .i64 a1_1).wf = true → (Lit.int .i64 a1_2).wf = true → l1_3.length ≤ maxLen → (∀ x ∈ l1_3, (Lit.int .i64 x.f0).wf = true ∧ (Lit.int .i64 x.f1.f0).wf = true ∧ (Lit.int .i64 x.f1.f1).wf = true ∧ (Lit.int .i64 x.f2).wf = true ∧ (Lit.int .i64 x.f3).wf = true ∧ (Lit.int .i64 x.f4).wf = true) → l1_4.length ≤ maxLen → (∀ x ∈ l1_4, (Lit.int .i64 x.f0).wf = true ∧ (Lit.int .i64 x.f1).wf = true ∧ (Lit.int .i64 x.f2).wf = true) → l1_5.length ≤ maxLen → (∀ x ∈ l1_5, (Lit.int .i64 x.f0).wf = true ∧ (Lit.int .i64 x.f1).wf = true ∧ (Lit.int .i64 x.f2.f0).wf = true ∧ (Lit.int .i64 x.f2.f1).wf = true ∧ (Lit.int .i64 x.f3).wf = true ∧ (Lit.int .i64 x.f4).wf = true ∧ (Lit.int .i64 x.f5.f0).wf = true ∧ (Lit.int .i64 x.f5.f1).wf = true) → l1_6.length ≤ maxLen → (∀ x ∈ l1_6, (Lit.int .i64 x.f0).wf = true ∧ (Lit.int .i64 x.f1).wf = true ∧ (Lit.int .i64 x.f2).wf = true ∧ (Lit.int .i64 x.f3).wf = true) → (Lit.int .i64 a1_7).wf = true → ∃ k, laws_FnExactEqualPackages.f k a0_0 a0_1 a0_2 l0_3 l0_4 l0_5 l0_6 a0_7 a1_0 a1_1 a1_2 l1_3 l1_4 l1_5 l1_6 a1_7 = some true := by
  intro a0_0 a0_1 a0_2 l0_3 l0_4 l0_5 l0_6 a0_7 a1_0 a1_1 a1_2 l1_3 l1_4 l1_5 l1_6 a1_7 _ _ _ hm0_3 _ hm0_4 _ hm0_5 _ hm0_6 _ _ _ _ _ hm1_3 _ hm1_4 _ hm1_5 _ hm1_6 _ _
  by_cases hn0 : (1048576 : Int) < l0_3.length
  · refine ⟨0, ?_⟩
    unfold laws_FnExactEqualPackages.f
    simp only [laws_szPackage.f]
    rw [laws_szGrantS_no (by omega) (by omega) hm0_3 hn0]
    rfl
  by_cases hn1 : (1048576 : Int) - l0_3.length < l0_4.length
  · refine ⟨0, ?_⟩
    unfold laws_FnExactEqualPackages.f
    simp only [laws_szPackage.f]
    rw [laws_szGrantS_yes (by omega) (by omega) (by omega), Option.bind_some, if_neg (by omega), laws_szFlowS_no (by omega) (by omega) hm0_4 hn1]
    rfl
  by_cases hn2 : (1048576 : Int) - l0_3.length - l0_4.length < l0_5.length
  · refine ⟨0, ?_⟩
    unfold laws_FnExactEqualPackages.f
    simp only [laws_szPackage.f]
    rw [laws_szGrantS_yes (by omega) (by omega) (by omega), Option.bind_some, if_neg (by omega), laws_szFlowS_yes (by omega) (by omega) (by omega), Option.bind_some, if_neg (by omega), laws_szRuleS_no (by omega) (by omega) hm0_5 hn2]
    rfl
  by_cases hn3 : (1048576 : Int) - l0_3.length - l0_4.length - l0_5.length < l0_6.length
  · refine ⟨0, ?_⟩
    unfold laws_FnExactEqualPackages.f
    simp only [laws_szPackage.f]
    rw [laws_szGrantS_yes (by omega) (by omega) (by omega), Option.bind_some, if_neg (by omega), laws_szFlowS_yes (by omega) (by omega) (by omega), Option.bind_some, if_neg (by omega), laws_szRuleS_yes (by omega) (by omega) (by omega), Option.bind_some, if_neg (by omega), laws_szOpS_no (by omega) (by omega) hm0_6 hn3]
    rfl
  by_cases hn4 : (1048576 : Int) - l0_3.length - l0_4.length - l0_5.length - l0_6.length < l1_3.length
  · refine ⟨0, ?_⟩
    unfold laws_FnExactEqualPackages.f
    simp only [laws_szPackage.f]
    rw [laws_szGrantS_yes (by omega) (by omega) (by omega), Option.bind_some, if_neg (by omega), laws_szFlowS_yes (by omega) (by omega) (by omega), Option.bind_some, if_neg (by omega), laws_szRuleS_yes (by omega) (by omega) (by omega), Option.bind_some, if_neg (by omega), laws_szOpS_yes (by omega) (by omega) (by omega), Option.bind_some, if_neg (by omega), Option.bind_some, if_neg (by omega), laws_szGrantS_no (by omega) (by omega) hm1_3 hn4]
    rfl
  by_cases hn5 : (1048576 : Int) - l0_3.length - l0_4.length - l0_5.length - l0_6.length - l1_3.length < l1_4.length
  · refine ⟨0, ?_⟩
    unfold laws_FnExactEqualPackages.f
    simp only [laws_szPackage.f]
    rw [laws_szGrantS_yes (by omega) (by omega) (by omega), Option.bind_some, if_neg (by omega), laws_szFlowS_yes (by omega) (by omega) (by omega), Option.bind_some, if_neg (by omega), laws_szRuleS_yes (by omega) (by omega) (by omega), Option.bind_some, if_neg (by omega), laws_szOpS_yes (by omega) (by omega) (by omega), Option.bind_some, if_neg (by omega), Option.bind_some, if_neg (by omega), laws_szGrantS_yes (by omega) (by omega) (by omega), Option.bind_some, if_neg (by omega), laws_szFlowS_no (by omega) (by omega) hm1_4 hn5]
    rfl
  by_cases hn6 : (1048576 : Int) - l0_3.length - l0_4.length - l0_5.length - l0_6.length - l1_3.length - l1_4.length < l1_5.length
  · refine ⟨0, ?_⟩
    unfold laws_FnExactEqualPackages.f
    simp only [laws_szPackage.f]
    rw [laws_szGrantS_yes (by omega) (by omega) (by omega), Option.bind_some, if_neg (by omega), laws_szFlowS_yes (by omega) (by omega) (by omega), Option.bind_some, if_neg (by omega), laws_szRuleS_yes (by omega) (by omega) (by omega), Option.bind_some, if_neg (by omega), laws_szOpS_yes (by omega) (by omega) (by omega), Option.bind_some, if_neg (by omega), Option.bind_some, if_neg (by omega), laws_szGrantS_yes (by omega) (by omega) (by omega), Option.bind_some, if_neg (by omega), laws_szFlowS_yes (by omega) (by omega) (by omega), Option.bind_some, if_neg (by omega), laws_szRuleS_no (by omega) (by omega) hm1_5 hn6]
    rfl
  by_cases hn7 : (1048576 : Int) - l0_3.length - l0_4.length - l0_5.length - l0_6.length - l1_3.length - l1_4.length - l1_5.length < l1_6.length
  · refine ⟨0, ?_⟩
    unfold laws_FnExactEqualPackages.f
    simp only [laws_szPackage.f]
    rw [laws_szGrantS_yes (by omega) (by omega) (by omega), Option.bind_some, if_neg (by omega), laws_szFlowS_yes (by omega) (by omega) (by omega), Option.bind_some, if_neg (by omega), laws_szRuleS_yes (by omega) (by omega) (by omega), Option.bind_some, if_neg (by omega), laws_szOpS_yes (by omega) (by omega) (by omega), Option.bind_some, if_neg (by omega), Option.bind_some, if_neg (by omega), laws_szGrantS_yes (by omega) (by omega) (by omega), Option.bind_some, if_neg (by omega), laws_szFlowS_yes (by omega) (by omega) (by omega), Option.bind_some, if_neg (by omega), laws_szRuleS_yes (by omega) (by omega) (by omega), Option.bind_some, if_neg (by omega), laws_szOpS_no (by omega) (by omega) hm1_6 hn7]
    rfl
  obtain ⟨k, hk⟩ := big_some
  have hk0 := big_succ hk
  have hl0_3 : Ok l0_3 := by unfold Ok; omega
  have hl0_4 : Ok l0_4 := by unfold Ok; omega
  have hl0_5 : Ok l0_5 := by unfold Ok; omega
  have hl0_6 : Ok l0_6 := by unfold Ok; omega
  have hl1_3 : Ok l1_3 := by unfold Ok; omega
  have hl1_4 : Ok l1_4 := by unfold Ok; omega
  have hl1_5 : Ok l1_5 := by unfold Ok; omega
  have hl1_6 : Ok l1_6 := by unfold Ok; omega
  have hc0_3 : Ok (l0_3.map cv_Grant) := ok_map (f := cv_Grant) hl0_3
  have hcl0_3 := ok_out hc0_3
  have hc0_4 : Ok (l0_4.map cv_Flow) := ok_map (f := cv_Flow) hl0_4
  have hcl0_4 := ok_out hc0_4
  have hc0_5 : Ok (l0_5.map cv_Rule) := ok_map (f := cv_Rule) hl0_5
  have hcl0_5 := ok_out hc0_5
  have hc0_6 : Ok (l0_6.map cv_Op) := ok_map (f := cv_Op) hl0_6
  have hcl0_6 := ok_out hc0_6
  have hc1_3 : Ok (l1_3.map cv_Grant) := ok_map (f := cv_Grant) hl1_3
  have hcl1_3 := ok_out hc1_3
  have hc1_4 : Ok (l1_4.map cv_Flow) := ok_map (f := cv_Flow) hl1_4
  have hcl1_4 := ok_out hc1_4
  have hc1_5 : Ok (l1_5.map cv_Rule) := ok_map (f := cv_Rule) hl1_5
  have hcl1_5 := ok_out hc1_5
  have hc1_6 : Ok (l1_6.map cv_Op) := ok_map (f := cv_Op) hl1_6
  have hcl1_6 := ok_out hc1_6
  have hT0_3 := laws_toGrantS_e hk0 hl0_3
  have hE0_3 := laws_eqGrantS_e hk0 hc0_3
  have hT0_4 := laws_toFlowS_e hk0 hl0_4
  have hE0_4 := laws_eqFlowS_e hk0 hc0_4
  have hT0_5 := laws_toRuleS_e hk0 hl0_5
  have hE0_5 := laws_eqRuleS_e hk0 hc0_5
  have hT0_6 := laws_toOpS_e hk0 hl0_6
  have hE0_6 := laws_eqOpS_e hk0 hc0_6
  have hT1_3 := laws_toGrantS_e hk0 hl1_3
  have hE1_3 := laws_eqGrantS_e hk0 hc1_3
  have hT1_4 := laws_toFlowS_e hk0 hl1_4
  have hE1_4 := laws_eqFlowS_e hk0 hc1_4
  have hT1_5 := laws_toRuleS_e hk0 hl1_5
  have hE1_5 := laws_eqRuleS_e hk0 hc1_5
  have hT1_6 := laws_toOpS_e hk0 hl1_6
  have hE1_6 := laws_eqOpS_e hk0 hc1_6
  have hP := spec_EqualPackages_e a0_0 a0_1 a0_2 a0_7 a1_0 a1_1 a1_2 (l1_3.map cv_Grant) (l1_4.map cv_Flow) (l1_5.map cv_Rule) (l1_6.map cv_Op) a1_7 (lv hk0) hc0_3 hc0_4 hc0_5 hc0_6
  have hI := impl_EqualPackages_e a0_0 a0_1 a0_2 a0_7 a1_0 a1_1 a1_2 (l1_3.map cv_Grant) (l1_4.map cv_Flow) (l1_5.map cv_Rule) (l1_6.map cv_Op) a1_7 (lv hk0) hc0_3 hc0_4 hc0_5 hc0_6
  have hT0_3' := laws_toGrantS_e hk hl0_3
  have hE0_3' := laws_eqGrantS_e hk hc0_3
  have hT0_4' := laws_toFlowS_e hk hl0_4
  have hE0_4' := laws_eqFlowS_e hk hc0_4
  have hT0_5' := laws_toRuleS_e hk hl0_5
  have hE0_5' := laws_eqRuleS_e hk hc0_5
  have hT0_6' := laws_toOpS_e hk hl0_6
  have hE0_6' := laws_eqOpS_e hk hc0_6
  have hT1_3' := laws_toGrantS_e hk hl1_3
  have hE1_3' := laws_eqGrantS_e hk hc1_3
  have hT1_4' := laws_toFlowS_e hk hl1_4
  have hE1_4' := laws_eqFlowS_e hk hc1_4
  have hT1_5' := laws_toRuleS_e hk hl1_5
  have hE1_5' := laws_eqRuleS_e hk hc1_5
  have hT1_6' := laws_toOpS_e hk hl1_6
  have hE1_6' := laws_eqOpS_e hk hc1_6
  have hP' := spec_EqualPackages_e a0_0 a0_1 a0_2 a0_7 a1_0 a1_1 a1_2 (l1_3.map cv_Grant) (l1_4.map cv_Flow) (l1_5.map cv_Rule) (l1_6.map cv_Op) a1_7 (lv hk) hc0_3 hc0_4 hc0_5 hc0_6
  have hI' := impl_EqualPackages_e a0_0 a0_1 a0_2 a0_7 a1_0 a1_1 a1_2 (l1_3.map cv_Grant) (l1_4.map cv_Flow) (l1_5.map cv_Rule) (l1_6.map cv_Op) a1_7 (lv hk) hc0_3 hc0_4 hc0_5 hc0_6
  refine ⟨k + 1, ?_⟩
  unfold laws_FnExactEqualPackages.f
  simp only [laws_szPackage.f]
  rw [laws_szGrantS_yes (by omega) (by omega) (by omega), Option.bind_some, if_neg (by omega), laws_szFlowS_yes (by omega) (by omega) (by omega), Option.bind_some, if_neg (by omega), laws_szRuleS_yes (by omega) (by omega) (by omega), Option.bind_some, if_neg (by omega), laws_szOpS_yes (by omega) (by omega) (by omega), Option.bind_some, if_neg (by omega), Option.bind_some, if_neg (by omega), laws_szGrantS_yes (by omega) (by omega) (by omega), Option.bind_some, if_neg (by omega), laws_szFlowS_yes (by omega) (by omega) (by omega), Option.bind_some, if_neg (by omega), laws_szRuleS_yes (by omega) (by omega) (by omega), Option.bind_some, if_neg (by omega), laws_szOpS_yes (by omega) (by omega) (by omega), Option.bind_some, if_neg (by omega), Option.bind_some, if_neg (by omega)]
  simp only [hT0_3, hE0_3, hT0_4, hE0_4, hT0_5, hE0_5, hT0_6, hE0_6, hT1_3, hE1_3, hT1_4, hE1_4, hT1_5, hE1_5, hT1_6, hE1_6, hP, hI, hT0_3', hE0_3', hT0_4', hE0_4', hT0_5', hE0_5', hT0_6', hE0_6', hT1_3', hE1_3', hT1_4', hE1_4', hT1_5', hE1_5', hT1_6', hE1_6', hP', hI', laws_toSite.f, laws_eqSite.f, laws_toPattern.f, laws_eqPattern.f, laws_toPackage.f, laws_eqPackage.f, Option.bind_some, if_true, bne_self_eq_false, Bool.false_eq_true, if_false, Bool.not_true, Bool.not_false]
end Go.Proofs.Ytmpkaooelpbeaaa.Pure
