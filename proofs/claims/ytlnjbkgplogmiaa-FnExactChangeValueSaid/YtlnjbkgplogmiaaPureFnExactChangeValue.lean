/- The law FnExactChangeValue as a statement over numbers and lists, with its proof; no conditions but the ranges that the values' types and the slices' lengths have. -/
import Derived.Test.YtlnjbkgplogmiaaPFnExactChangeValuex2
namespace Go.Proofs.Ytlnjbkgplogmiaa.Pure
open Go.RowKit Go.Proofs.Ytlnjbkgplogmiaa.PFnExactChangeValue Go.Proofs.YtlnjbkgplogmiaaW.PrintWords Go.Proofs.YtlnjbkgplogmiaaW.PrintLast Go.Proofs.YtlnjbkgplogmiaaW.PrintMore
set_option linter.unusedVariables false
set_option linter.unusedSimpArgs false
/-! ### numbers, lists, rounds -/
theorem wf64 {n : Int} (h : (Lit.int .i64 n).wf = true) : -9223372036854775808 ≤ n ∧ n ≤ 9223372036854775807 := by
  simp [Lit.wf, IntKind.min, IntKind.max, IntKind.bits, IntKind.signed] at h
  omega
theorem wrap_id {n : Int} (h : -9223372036854775808 ≤ n ∧ n ≤ 9223372036854775807) : wrap64 n = n := by
  unfold wrap64
  omega
theorem wrap_nat {n : Nat} (h : n ≤ 1000000000000) : wrap64 ((n : Int) + 1) = ((n + 1 : Nat) : Int) := by
  unfold wrap64
  omega
theorem succ_of {m k : Nat} (h : m < k) : ∃ q, k = q + 1 := ⟨k - 1, by omega⟩
theorem ite_t {p : Prop} [Decidable p] {α : Type} {a b : α} (h : p) : (if p then a else b) = a := if_pos h
theorem ite_f {p : Prop} [Decidable p] {α : Type} {a b : α} (h : ¬ p) : (if p then a else b) = b := if_neg h
theorem bind_of {α β : Type} {x : Option α} {a : α} {f : α → Option β} {r : Option β} (h : x = some a) (h2 : f a = r) : x.bind f = r := by rw [h]; exact h2
theorem getD_mid {α : Type} (pre : List α) (x : α) (suf : List α) (z : α) : (pre ++ x :: suf).getD ((pre.length : Int)).toNat z = x := by
  simp
theorem rd_mid (pre : List Int) (x : Int) (suf : List Int) : rd (pre ++ x :: suf) (pre.length : Int) = x := by
  simp [rd]
theorem set_mid {α : Type} (pre : List α) (x y : α) (suf : List α) : (pre ++ x :: suf).set ((pre.length : Int)).toNat y = pre ++ y :: suf := by
  simp
theorem mid_lt {α : Type} (pre : List α) (x : α) (suf : List α) : (pre.length : Int) < ((pre ++ x :: suf).length : Int) := by
  simp; omega
theorem mid_lt' {α : Type} (pre : List α) (x : α) (suf : List α) (n : Nat) (h : pre.length = n) : (n : Int) < ((pre ++ x :: suf).length : Int) := by
  simp; omega
theorem nil_nlt {α : Type} (pre : List α) : ¬ ((pre.length : Int) < ((pre ++ []).length : Int)) := by simp
theorem len_nn (n : Nat) : (0 : Int) ≤ (n : Int) := by omega
theorem snoc_eq {α : Type} (pre : List α) (x : α) (suf : List α) : pre ++ x :: suf = (pre ++ [x]) ++ suf := by simp
theorem snoc_len {α : Type} (pre : List α) (x : α) : ((pre.length + 1 : Nat) : Int) = ((pre ++ [x]).length : Int) := by simp
def inR (n a b : Int) : Bool := decide (a ≤ n ∧ n ≤ b)
theorem inR_true {n a b : Int} : inR n a b = true ↔ a ≤ n ∧ n ≤ b := by simp [inR]
theorem inR_false {n a b : Int} : inR n a b = false ↔ ¬ (a ≤ n ∧ n ≤ b) := by simp [inR]
def Big (k : Nat) : Prop := 9900000 ≤ k
theorem big_out {k : Nat} (h : Big k) : 9900000 ≤ k := h
theorem big_succ {k : Nat} (h : Big k) : Big (k + 1) := by unfold Big at *; omega
theorem big_some : ∃ K : Nat, Big K := ⟨9900000, Nat.le_refl _⟩
theorem big_pred {k : Nat} (h : Big k) (n : Nat) (hn : n ≤ 1048577) : n < k := by unfold Big at h; omega
def Ok {α : Type} (l : List α) : Prop := l.length ≤ 1048576
theorem ok_out {α : Type} {l : List α} (h : Ok l) : l.length ≤ 1048576 := h
theorem ok_map {α β : Type} {f : α → β} {l : List α} (h : Ok l) : Ok (l.map f) := by unfold Ok at *; simpa using h
theorem ok_filter {α : Type} {f : α → Bool} {l : List α} (h : Ok l) : Ok (l.filter f) := by unfold Ok at *; exact Nat.le_trans (List.length_filter_le _ _) h
theorem ok_small {α : Type} {l : List α} (n : Nat) (h : l.length ≤ n) (hn : n ≤ 1048576) : Ok l := by unfold Ok; omega

def Lv (n k : Nat) : Prop := n * 1100000 ≤ k
theorem lv_out {n k : Nat} (h : Lv n k) : n * 1100000 ≤ k := h
theorem lv {n k : Nat} (h : Big k) (hn : n ≤ 9 := by decide) : Lv n k := by unfold Big at h; unfold Lv; omega
theorem lv_succ {n k : Nat} (h : Lv n k) : Lv n (k + 1) := by unfold Lv at *; omega
theorem lv_pred {n k : Nat} (h : Lv (n + 1) k) (m : Nat) (hm : m ≤ 1048580) : m < k := by unfold Lv at h; omega
theorem lv_mono {n m k : Nat} (h : Lv n k) (hm : m ≤ n := by decide) : Lv m k := Nat.le_trans (Nat.mul_le_mul_right _ hm) h
theorem laws_toIntS_l (suf : List Int) : ∀ (pre : List Int) (k : Nat), (pre ++ suf).length ≤ 1048576 → suf.length < k →
    laws_toIntS.l0 k (pre ++ suf) (pre ++ List.replicate suf.length 0) (pre.length : Int) = some (pre ++ suf) := by
  induction suf with
  | nil =>
    intro pre k hb hk
    obtain ⟨k, rfl⟩ := succ_of hk
    rw [laws_toIntS.l0, if_neg (nil_nlt pre)]
    simp
  | cons x suf ih =>
    intro pre k hb hk
    obtain ⟨k, rfl⟩ := succ_of hk
    have hp : pre.length + suf.length < 1048576 := by simp at hb; omega
    have h := ih (pre ++ [x]) k (by simpa using hb) (by simpa using hk)
    rw [laws_toIntS.l0, if_pos (mid_lt _ _ _), if_pos (len_nn _), rd_mid]
    rw [if_pos (by simp; omega), List.length_cons, List.replicate_succ, set_mid, wrap_nat (by omega), snoc_len pre x, snoc_eq pre x suf, snoc_eq pre x (List.replicate suf.length 0)]
    exact h
theorem laws_toIntS_e {k : Nat} {l : List Int} (hk : Big k) (hl : Ok l) : laws_toIntS.f k l = some l := by
  have hl' := ok_out hl
  unfold laws_toIntS.f
  rw [if_pos (len_nn _), if_pos (by omega)]
  simpa using laws_toIntS_l l [] k (by simpa using hl') (big_pred hk _ (by omega))
theorem laws_eqIntS_l (suf : List Int) : ∀ (pre : List Int) (k : Nat), (pre ++ suf).length ≤ 1048576 → suf.length < k →
    laws_eqIntS.l0 k (pre ++ suf) (pre ++ suf) (pre.length : Int) = some true := by
  induction suf with
  | nil =>
    intro pre k hb hk
    obtain ⟨k, rfl⟩ := succ_of hk
    rw [laws_eqIntS.l0, if_neg (nil_nlt pre)]
  | cons x suf ih =>
    intro pre k hb hk
    obtain ⟨k, rfl⟩ := succ_of hk
    have hp : pre.length + suf.length < 1048576 := by simp at hb; omega
    have h := ih (pre ++ [x]) k (by simpa using hb) (by simpa using hk)
    rw [laws_eqIntS.l0, if_pos (mid_lt _ _ _), if_pos (len_nn _), if_pos (mid_lt _ _ _), if_pos rfl, wrap_nat (by omega), snoc_len pre x, snoc_eq pre x suf, h]
theorem laws_eqIntS_e {k : Nat} {l : List Int} (hk : Big k) (hl : Ok l) : laws_eqIntS.f k l l = some true := by
  have hl' := ok_out hl
  unfold laws_eqIntS.f
  rw [if_pos rfl]
  simpa using laws_eqIntS_l l [] k (by simpa using hl') (big_pred hk _ (by omega))
def mk_Int : Int → List Int → List Int
  | _, [] => []
  | m, _ :: xs => m :: mk_Int (m + 1) xs
theorem laws_markIntS_l (suf : List Int) : ∀ (pre : List Int) (k : Nat) (m : Int), 0 ≤ m → m + 1 * (suf.length : Int) ≤ 1000000000000 → (pre ++ suf).length ≤ 1048576 → suf.length < k →
    laws_markIntS.l0 k (pre ++ suf) m (pre.length : Int) = some (m + 1 * (suf.length : Int), pre ++ mk_Int m suf) := by
  induction suf with
  | nil =>
    intro pre k m h0 h1 hb hk
    obtain ⟨k, rfl⟩ := succ_of hk
    rw [laws_markIntS.l0, if_neg (nil_nlt pre)]
    simp [mk_Int]
  | cons x suf ih =>
    intro pre k m h0 h1 hb hk
    obtain ⟨k, rfl⟩ := succ_of hk
    have hp : pre.length + suf.length < 1048576 := by simp at hb; omega
    have e1 : ((x :: suf).length : Int) = (suf.length : Int) + 1 := by simp
    rw [e1] at h1 ⊢
    have h := ih (pre ++ [m]) k (m + 1) (by omega) (by omega) (by simpa using hb) (by simpa using hk)
    rw [laws_markIntS.l0, if_pos (mid_lt _ _ _), if_pos (len_nn _), set_mid, wrap_nat (by omega), wrap_id (by omega), snoc_len pre m, snoc_eq pre m suf]
    refine h.trans ?_
    have e2 : m + 1 + 1 * (suf.length : Int) = m + 1 * ((suf.length : Int) + 1) := by omega
    rw [e2]
    simp [mk_Int]
theorem laws_markIntS_e {k : Nat} {l : List Int} {m : Int} (hk : Big k) (hl : Ok l) (h0 : 0 ≤ m) (h1 : m ≤ 100000000000) : laws_markIntS.f k l m = some (m + 1 * (l.length : Int), mk_Int m l) := by
  have hl' := ok_out hl
  unfold laws_markIntS.f
  exact laws_markIntS_l l [] k m h0 (by omega) (by simpa using hl') (big_pred hk _ (by omega))
theorem laws_heldIntS_l (suf : List Int) : ∀ (pre : List Int) (k : Nat) (m : Int), 0 ≤ m → m + 1 * (suf.length : Int) ≤ 1000000000000 → (pre ++ suf).length ≤ 1048576 → suf.length < k →
    laws_heldIntS.l0 k (pre ++ mk_Int m suf) m (pre.length : Int) = some (m + 1 * (suf.length : Int)) := by
  induction suf with
  | nil =>
    intro pre k m h0 h1 hb hk
    obtain ⟨k, rfl⟩ := succ_of hk
    rw [laws_heldIntS.l0, mk_Int, if_neg (nil_nlt pre)]
    simp
  | cons x suf ih =>
    intro pre k m h0 h1 hb hk
    obtain ⟨k, rfl⟩ := succ_of hk
    have hp : pre.length + suf.length < 1048576 := by simp at hb; omega
    have e1 : ((x :: suf).length : Int) = (suf.length : Int) + 1 := by simp
    rw [e1] at h1 ⊢
    have h := ih (pre ++ [m]) k (m + 1) (by omega) (by omega) (by simpa using hb) (by simpa using hk)
    rw [laws_heldIntS.l0, mk_Int, if_pos (mid_lt _ _ _), if_pos (len_nn _), rd_mid, if_pos rfl, wrap_nat (by omega), wrap_id (by omega), snoc_len pre m, snoc_eq pre m (mk_Int (m + 1) suf)]
    refine h.trans ?_
    have e2 : m + 1 + 1 * (suf.length : Int) = m + 1 * ((suf.length : Int) + 1) := by omega
    rw [e2]
theorem laws_heldIntS_e {k : Nat} {l : List Int} {m : Int} (hk : Big k) (hl : Ok l) (h0 : 0 ≤ m) (h1 : m ≤ 100000000000) : laws_heldIntS.f k (mk_Int m l) m = some (m + 1 * (l.length : Int)) := by
  have hl' := ok_out hl
  unfold laws_heldIntS.f
  exact laws_heldIntS_l l [] k m h0 (by omega) (by simpa using hl') (big_pred hk _ (by omega))
theorem spec_l1In_e (n a b : Int) : spec_l1In.f n a b = some (inR n a b) := by
  unfold spec_l1In.f inR
  by_cases h : n ≥ a
  · rw [if_pos h]; simp [show a ≤ n from h]
  · rw [if_neg h]; simp [show ¬ a ≤ n from h]
def valueV (l : List Int) (o : Int) : Int := if 1 ≤ o ∧ o ≤ l.length then (if inR (rd l (o - 1)) 0 999 = true then rd l (o - 1) else 0) else 0
theorem spec_l21Value_e {l : List Int} (o : Int) (h1 : 1 ≤ o) (hl : l.length ≤ 1048576) : spec_l21Value.f l o = some (valueV l o) := by
  unfold spec_l21Value.f valueV
  by_cases h2 : o > (l.length : Int)
  · rw [if_pos h2, if_neg (by omega)]
  · rw [if_neg h2, wrap_id (by omega), if_pos (by omega), if_pos (by omega), if_pos (by omega), spec_l1In_e, Option.bind_some]
    cases inR (rd l (o - 1)) 0 999 <;> simp
def eltV (l : List Int) (a v o : Int) : Int := if o = a ∧ inR v 0 999 = true then v else valueV l o
def changeV (l : List Int) (a v : Int) : List Int := [eltV l a v 1, eltV l a v 2, eltV l a v 3, eltV l a v 4, eltV l a v 5, eltV l a v 6, eltV l a v 7, eltV l a v 8, eltV l a v 9]
theorem spec_ChangeValue_step {l : List Int} (a v : Int) (hl : l.length ≤ 1048576) (k : Nat) (out : List Int) (o : Int) (h1 : 1 ≤ o) (h9 : o ≤ 9) (ho : out.length ≤ 9) :
    spec_ChangeValue.l0 (k + 1) l a v out o = spec_ChangeValue.l0 k l a v (out ++ [eltV l a v o]) (o + 1) := by
  rw [spec_ChangeValue.l0, if_pos h9, spec_l21Value_e o h1 hl, Option.bind_some, spec_l1In_e, Option.bind_some, wrap_id (by omega), if_pos (show out.length < 17592186044416 by omega), if_pos (show out.length < 17592186044416 by omega)]
  unfold eltV
  by_cases h : o = a <;> cases inR v 0 999 <;> simp [h]
theorem spec_ChangeValue_e {k : Nat} {l : List Int} (a v : Int) (hk : Lv 1 k) (hl : Ok l) : spec_ChangeValue.f k l a v = some (changeV l a v) := by
  have hl' := ok_out hl
  have hk' := lv_out hk
  obtain ⟨k, rfl⟩ : ∃ q, k = q + 10 := ⟨k - 10, by omega⟩
  unfold spec_ChangeValue.f
  rw [spec_ChangeValue_step a v hl' _ _ _ (by omega) (by omega) (by simp), spec_ChangeValue_step a v hl' _ _ _ (by omega) (by omega) (by simp), spec_ChangeValue_step a v hl' _ _ _ (by omega) (by omega) (by simp),
    spec_ChangeValue_step a v hl' _ _ _ (by omega) (by omega) (by simp), spec_ChangeValue_step a v hl' _ _ _ (by omega) (by omega) (by simp), spec_ChangeValue_step a v hl' _ _ _ (by omega) (by omega) (by simp),
    spec_ChangeValue_step a v hl' _ _ _ (by omega) (by omega) (by simp), spec_ChangeValue_step a v hl' _ _ _ (by omega) (by omega) (by simp), spec_ChangeValue_step a v hl' _ _ _ (by omega) (by omega) (by simp), spec_ChangeValue.l0, if_neg (by omega)]
  rfl
theorem impl_InRange_e (n a b : Int) : impl_InRange.f n a b = some (inR n a b) := by
  unfold impl_InRange.f inR
  by_cases h : a ≤ n
  · rw [if_pos h]; simp [h]
  · rw [if_neg h]; simp [h]
theorem impl_valueOf_e {l : List Int} (o : Int) (hl : l.length ≤ 1048576) : impl_valueOf.f l o = some (valueV l o) := by
  unfold impl_valueOf.f valueV
  by_cases h1 : o < 1
  · rw [if_pos h1, if_neg (by omega)]
  · by_cases h2 : o > (l.length : Int)
    · rw [if_neg h1, if_pos h2, if_neg (by omega)]
    · rw [if_neg h1, if_neg h2, wrap_id (by omega), if_pos (by omega), if_pos (by omega), if_pos (by omega), impl_InRange_e, Option.bind_some]
      cases inR (rd l (o - 1)) 0 999 <;> simp
theorem impl_ChangeValue_step {l : List Int} (a v : Int) (hl : l.length ≤ 1048576) (k : Nat) (xs : List Int) (i : Int) (h0 : 0 ≤ i) (h9 : i < 9) (hx : xs.length = 9) :
    impl_ChangeValue.l0 (k + 1) l a v xs 9 i = impl_ChangeValue.l0 k l a v (xs.set i.toNat (valueV l (i + 1))) 9 (i + 1) := by
  rw [impl_ChangeValue.l0, if_pos h9, wrap_id (by omega), impl_valueOf_e _ hl, Option.bind_some, if_pos h0, if_pos (by omega)]
theorem impl_ChangeValue_e {k : Nat} {l : List Int} (a v : Int) (hk : Lv 1 k) (hl : Ok l) : impl_ChangeValue.f k l a v = some (changeV l a v) := by
  have hl' := ok_out hl
  have hk' := lv_out hk
  obtain ⟨k, rfl⟩ : ∃ q, k = q + 10 := ⟨k - 10, by omega⟩
  unfold impl_ChangeValue.f
  rw [if_pos (by omega), Option.bind_some]
  rw [show ((List.replicate 9 (0 : Int)).length : Int) = 9 from rfl]
  rw [impl_ChangeValue_step a v hl' _ _ _ (by omega) (by omega) (by simp), impl_ChangeValue_step a v hl' _ _ _ (by omega) (by omega) (by simp), impl_ChangeValue_step a v hl' _ _ _ (by omega) (by omega) (by simp),
    impl_ChangeValue_step a v hl' _ _ _ (by omega) (by omega) (by simp), impl_ChangeValue_step a v hl' _ _ _ (by omega) (by omega) (by simp), impl_ChangeValue_step a v hl' _ _ _ (by omega) (by omega) (by simp),
    impl_ChangeValue_step a v hl' _ _ _ (by omega) (by omega) (by simp), impl_ChangeValue_step a v hl' _ _ _ (by omega) (by omega) (by simp), impl_ChangeValue_step a v hl' _ _ _ (by omega) (by omega) (by simp), impl_ChangeValue.l0, if_neg (by omega)]
  rw [impl_InRange_e, Option.bind_some, impl_InRange_e, Option.bind_some]
  have e : ((((((((((List.replicate 9 (0 : Int)).set (Int.toNat 0) (valueV l (0 + 1))).set (Int.toNat (0 + 1)) (valueV l (0 + 1 + 1))).set (Int.toNat (0 + 1 + 1)) (valueV l (0 + 1 + 1 + 1))).set (Int.toNat (0 + 1 + 1 + 1)) (valueV l (0 + 1 + 1 + 1 + 1))).set (Int.toNat (0 + 1 + 1 + 1 + 1)) (valueV l (0 + 1 + 1 + 1 + 1 + 1))).set (Int.toNat (0 + 1 + 1 + 1 + 1 + 1)) (valueV l (0 + 1 + 1 + 1 + 1 + 1 + 1))).set (Int.toNat (0 + 1 + 1 + 1 + 1 + 1 + 1)) (valueV l (0 + 1 + 1 + 1 + 1 + 1 + 1 + 1))).set (Int.toNat (0 + 1 + 1 + 1 + 1 + 1 + 1 + 1)) (valueV l (0 + 1 + 1 + 1 + 1 + 1 + 1 + 1 + 1))).set (Int.toNat (0 + 1 + 1 + 1 + 1 + 1 + 1 + 1 + 1)) (valueV l (0 + 1 + 1 + 1 + 1 + 1 + 1 + 1 + 1 + 1))) = [valueV l 1, valueV l 2, valueV l 3, valueV l 4, valueV l 5, valueV l 6, valueV l 7, valueV l 8, valueV l 9] := rfl
  rw [e]
  by_cases ha : 1 ≤ a ∧ a ≤ 9
  · rw [inR_true.2 ha, if_pos rfl, wrap_id (by omega)]
    cases hv : inR v 0 999 with
    | false =>
      simp [changeV, eltV, hv]
    | true =>
      rw [if_pos rfl, if_pos (by omega), if_pos (by simp only [List.length_cons, List.length_nil]; omega)]
      have : a = 1 ∨ a = 2 ∨ a = 3 ∨ a = 4 ∨ a = 5 ∨ a = 6 ∨ a = 7 ∨ a = 8 ∨ a = 9 := by omega
      rcases this with rfl | rfl | rfl | rfl | rfl | rfl | rfl | rfl | rfl <;> simp [changeV, eltV, hv]
  · rw [inR_false.2 ha]
    have g1 : ¬ (1 = a) := by omega
    have g2 : ¬ (2 = a) := by omega
    have g3 : ¬ (3 = a) := by omega
    have g4 : ¬ (4 = a) := by omega
    have g5 : ¬ (5 = a) := by omega
    have g6 : ¬ (6 = a) := by omega
    have g7 : ¬ (7 = a) := by omega
    have g8 : ¬ (8 = a) := by omega
    have g9 : ¬ (9 = a) := by omega
    simp [changeV, eltV, g1, g2, g3, g4, g5, g6, g7, g8, g9]

theorem FnExactChangeValue : ∀ (l0 : List Int) (a1 : Int) (a2 : Int), l0.length ≤ maxLen → (∀ x ∈ l0, (Lit.int .i64 x).wf = true) → (Lit.int .i64 a1).wf = true → (Lit.int .i64 a2).wf = true → ∃ k, laws_FnExactChangeValue.f k l0 a1 a2 = some true := by
  intro l0 a1 a2 hm0 _ _ _
  by_cases hn : (l0.length : Int) > 1048576
  · refine ⟨0, ?_⟩
    unfold laws_FnExactChangeValue.f
    rw [if_pos hn]
  obtain ⟨k, hk⟩ := big_some
  have hk0 := big_succ hk
  have hl0 : Ok l0 := by unfold Ok; omega
  have hR : Ok (changeV l0 a1 a2) := ok_small 9 (by simp [changeV]) (by omega)
  have hN : ∀ n : Nat, ¬ ((1 : Int) + 1 * (n : Int) < 0) := fun n => by omega
  refine ⟨k + 1, ?_⟩
  unfold laws_FnExactChangeValue.f
  rw [if_neg hn]
  simp only [laws_FnExactChangeValue.j0, laws_toIntS_e hk hl0, laws_toIntS_e hk0 hl0, laws_eqIntS_e hk hl0, laws_eqIntS_e hk0 hl0, laws_markIntS_e (m := 1) hk0 hl0 (by omega) (by omega), spec_ChangeValue_e a1 a2 (lv hk0) hl0, impl_ChangeValue_e a1 a2 (lv hk0) hl0, impl_ChangeValue_e a1 a2 (lv hk) hl0,
    laws_eqIntS_e hk hR, laws_eqIntS_e hk0 hR, laws_markIntS_e (m := 1) hk hR (by omega) (by omega), laws_heldIntS_e (m := 1) hk hR (by omega) (by omega), hN, Option.bind_some, if_true, if_false, Bool.not_true, Bool.false_eq_true]
end Go.Proofs.Ytlnjbkgplogmiaa.Pure
