/- The law FnExactAreOps as a statement over numbers and lists, with its proof; no conditions but the ranges that the values' types and the slices' lengths have. -/
import Derived.Test.YtlkjdlimahhmjaaPFnExactAreOpsx3
namespace Go.Proofs.Ytlkjdlimahhmjaa.Pure
open Go.RowKit Go.Proofs.Ytlkjdlimahhmjaa.PFnExactAreOps Go.Proofs.YtlkjdlimahhmjaaW.PrintWords Go.Proofs.YtlkjdlimahhmjaaW.PrintLast Go.Proofs.YtlkjdlimahhmjaaW.PrintMore
set_option linter.unusedVariables false
set_option linter.unusedSimpArgs false
/-! ### numbers, lists, rounds -/
theorem wf64 {n : Int} (h : (Lit.int .i64 n).wf = true) : -9223372036854775808 ≤ n ∧ n ≤ 9223372036854775807 := by
  simp [Lit.wf, IntKind.min, IntKind.max, IntKind.bits, IntKind.signed] at h
  omega
theorem wrap_id {n : Int} (h : -9223372036854775808 ≤ n ∧ n ≤ 9223372036854775807) : wrap64 n = n := by
  unfold wrap64
  omega
theorem wrap_nat {n : Nat} (h : n ≤ 1000000000000) : wrap64 ((n : Int) + 1) = ((n + 1 : Nat) : Int) := by
  unfold wrap64
  omega
theorem succ_of {m k : Nat} (h : m < k) : ∃ q, k = q + 1 := ⟨k - 1, by omega⟩
theorem ite_t {p : Prop} [Decidable p] {α : Type} {a b : α} (h : p) : (if p then a else b) = a := if_pos h
theorem ite_f {p : Prop} [Decidable p] {α : Type} {a b : α} (h : ¬ p) : (if p then a else b) = b := if_neg h
theorem bind_of {α β : Type} {x : Option α} {a : α} {f : α → Option β} {r : Option β} (h : x = some a) (h2 : f a = r) : x.bind f = r := by rw [h]; exact h2
theorem getD_mid {α : Type} (pre : List α) (x : α) (suf : List α) (z : α) : (pre ++ x :: suf).getD ((pre.length : Int)).toNat z = x := by
  simp
theorem rd_mid (pre : List Int) (x : Int) (suf : List Int) : rd (pre ++ x :: suf) (pre.length : Int) = x := by
  simp [rd]
theorem set_mid {α : Type} (pre : List α) (x y : α) (suf : List α) : (pre ++ x :: suf).set ((pre.length : Int)).toNat y = pre ++ y :: suf := by
  simp
theorem mid_lt {α : Type} (pre : List α) (x : α) (suf : List α) : (pre.length : Int) < ((pre ++ x :: suf).length : Int) := by
  simp; omega
theorem mid_lt' {α : Type} (pre : List α) (x : α) (suf : List α) (n : Nat) (h : pre.length = n) : (n : Int) < ((pre ++ x :: suf).length : Int) := by
  simp; omega
theorem nil_nlt {α : Type} (pre : List α) : ¬ ((pre.length : Int) < ((pre ++ []).length : Int)) := by simp
theorem len_nn (n : Nat) : (0 : Int) ≤ (n : Int) := by omega
theorem snoc_eq {α : Type} (pre : List α) (x : α) (suf : List α) : pre ++ x :: suf = (pre ++ [x]) ++ suf := by simp
theorem snoc_len {α : Type} (pre : List α) (x : α) : ((pre.length + 1 : Nat) : Int) = ((pre ++ [x]).length : Int) := by simp
def inR (n a b : Int) : Bool := decide (a ≤ n ∧ n ≤ b)
theorem inR_true {n a b : Int} : inR n a b = true ↔ a ≤ n ∧ n ≤ b := by simp [inR]
theorem inR_false {n a b : Int} : inR n a b = false ↔ ¬ (a ≤ n ∧ n ≤ b) := by simp [inR]
def Big (k : Nat) : Prop := 9900000 ≤ k
theorem big_out {k : Nat} (h : Big k) : 9900000 ≤ k := h
theorem big_succ {k : Nat} (h : Big k) : Big (k + 1) := by unfold Big at *; omega
theorem big_some : ∃ K : Nat, Big K := ⟨9900000, Nat.le_refl _⟩
theorem big_pred {k : Nat} (h : Big k) (n : Nat) (hn : n ≤ 1048577) : n < k := by unfold Big at h; omega
def Ok {α : Type} (l : List α) : Prop := l.length ≤ 1048576
theorem ok_out {α : Type} {l : List α} (h : Ok l) : l.length ≤ 1048576 := h
theorem ok_map {α β : Type} {f : α → β} {l : List α} (h : Ok l) : Ok (l.map f) := by unfold Ok at *; simpa using h
theorem ok_filter {α : Type} {f : α → Bool} {l : List α} (h : Ok l) : Ok (l.filter f) := by unfold Ok at *; exact Nat.le_trans (List.length_filter_le _ _) h
theorem ok_small {α : Type} {l : List α} (n : Nat) (h : l.length ≤ n) (hn : n ≤ 1048576) : Ok l := by unfold Ok; omega

def Lv (n k : Nat) : Prop := n * 1100000 ≤ k
theorem lv_out {n k : Nat} (h : Lv n k) : n * 1100000 ≤ k := h
theorem lv {n k : Nat} (h : Big k) (hn : n ≤ 9 := by decide) : Lv n k := by unfold Big at h; unfold Lv; omega
theorem lv_succ {n k : Nat} (h : Lv n k) : Lv n (k + 1) := by unfold Lv at *; omega
theorem lv_pred {n k : Nat} (h : Lv (n + 1) k) (m : Nat) (hm : m ≤ 1048580) : m < k := by unfold Lv at h; omega
theorem lv_mono {n m k : Nat} (h : Lv n k) (hm : m ≤ n := by decide) : Lv m k := Nat.le_trans (Nat.mul_le_mul_right _ hm) h
theorem spec_l1In_e (n a b : Int) : spec_l1In.f n a b = some (inR n a b) := by
  unfold spec_l1In.f inR
  by_cases h : n ≥ a
  · rw [if_pos h]; simp [show a ≤ n from h]
  · rw [if_neg h]; simp [show ¬ a ≤ n from h]
def isOpV (kd a b c : Int) : Bool := inR a 0 5 && (if kd = 1 ∨ kd = 5 then inR b 1 9 && c == 0 else if kd = 2 then inR b 0 999 && c == 0 else if kd = 3 ∨ kd = 4 then inR b 0 5 && inR c 0 5 else false)
theorem le16 (n : Nat) : decide ((n : Int) ≤ 16) = decide (n ≤ 16) := by
  rw [decide_eq_decide]; omega
def allOps (l : List S102) : Bool := l.all fun x => isOpV x.f0 x.f1 x.f2 x.f3
theorem allOps_cons (x : S102) (l : List S102) : allOps (x :: l) = (isOpV x.f0 x.f1 x.f2 x.f3 && allOps l) := rfl
def areOps (l : List S102) : Bool := allOps l && decide (l.length ≤ 16)
theorem spec_l21Ok_e {k : Nat} (kd a b c : Int) (hk : 2 ≤ k) : spec_l21Ok.f k kd a b c = some (isOpV kd a b c) := by
  obtain ⟨k, rfl⟩ : ∃ q, k = q + 2 := ⟨k - 2, by omega⟩
  unfold spec_l21Ok.f isOpV
  simp only [spec_l1In_e, Option.bind_some, spec_l21Ok.j0]
  cases inR a 0 5 <;>
  · by_cases h1 : kd = 1
    · subst h1; cases inR b 1 9 <;> simp
    · by_cases h5 : kd = 5
      · subst h5; cases inR b 1 9 <;> simp
      · by_cases h2 : kd = 2
        · subst h2; cases inR b 0 999 <;> simp
        · by_cases h3 : kd = 3
          · subst h3; cases inR b 0 5 <;> simp
          · by_cases h4 : kd = 4
            · subst h4; cases inR b 0 5 <;> simp
            · simp [h1, h2, h3, h4, h5]
theorem rd102_mid (pre : List S102) (x : S102) (suf : List S102) : rd_T102 (pre ++ x :: suf) (pre.length : Int) = x := getD_mid pre x suf z102
theorem spec_AreOps_l  (suf : List S102) : ∀ (pre : List S102) (k : Nat) , (pre ++ suf).length ≤ 1048576 → suf.length + 2 < k →
    spec_AreOps.l0 k (pre ++ suf) (pre.length : Int) = some (allOps suf && decide ((pre ++ suf).length ≤ 16)) := by
  induction suf with
  | nil =>
    intro pre k  hb hk
    obtain ⟨k, rfl⟩ := succ_of hk
    rw [spec_AreOps.l0, if_neg (nil_nlt pre)]
    rw [le16]; simp [allOps]
  | cons x suf ih =>
    intro pre k  hb hk
    obtain ⟨k, rfl⟩ := succ_of hk
    have hp : pre.length + suf.length < 1048576 := by simp at hb; omega
    have hk1 : suf.length + 2 < k := by simp only [List.length_cons] at hk; omega
    have hb1 : (pre ++ [x] ++ suf).length ≤ 1048576 := by simpa using hb
    have ih1 := ih (pre ++ [x]) k
    rw [spec_AreOps.l0, if_pos (mid_lt _ _ _), if_pos (len_nn _)]
    try simp only [rd102_mid, Option.bind_some]
    rw [wrap_nat (by omega), snoc_len pre x, snoc_eq pre x suf]
    rw [spec_l21Ok_e _ _ _ _ (by omega), ih1 hb1 hk1, allOps_cons]
    cases isOpV x.f0 x.f1 x.f2 x.f3 <;> simp
theorem spec_AreOps_e {k : Nat} {l : List S102} (hk : Lv 1 k) (hl : Ok l) : spec_AreOps.f k l = some (areOps l) := by
  have hl' := ok_out hl
  have hk' := lv_out hk
  unfold spec_AreOps.f areOps
  simpa using spec_AreOps_l l [] k (by simpa using hl') (by omega)
theorem impl_InRange_e (n a b : Int) : impl_InRange.f n a b = some (inR n a b) := by
  unfold impl_InRange.f inR
  by_cases h : a ≤ n
  · rw [if_pos h]; simp [h]
  · rw [if_neg h]; simp [h]
theorem impl_isRegister_e (n : Int) : impl_isRegister.f n = some (inR n 0 5) := by
  unfold impl_isRegister.f
  rw [impl_InRange_e, Option.bind_some]
theorem impl_isOp_e {k : Nat} (kd a b c : Int) (hk : 2 ≤ k) : impl_isOp.f k kd a b c = some (isOpV kd a b c) := by
  obtain ⟨k, rfl⟩ : ∃ q, k = q + 2 := ⟨k - 2, by omega⟩
  unfold impl_isOp.f isOpV
  simp only [impl_isRegister_e, Option.bind_some, impl_isOp.j0, impl_isOp.j1, impl_InRange_e]
  cases inR a 0 5
  · simp
  · by_cases h1 : kd = 1
    · subst h1; cases inR b 1 9 <;> simp
    · by_cases h5 : kd = 5
      · subst h5; cases inR b 1 9 <;> simp
      · by_cases h2 : kd = 2
        · subst h2; cases inR b 0 999 <;> simp
        · by_cases h3 : kd = 3
          · subst h3; cases inR b 0 5 <;> simp
          · by_cases h4 : kd = 4
            · subst h4; cases inR b 0 5 <;> simp
            · simp [h1, h2, h3, h4, h5]
theorem impl_AreOps_l  (suf : List S102) : ∀ (pre : List S102) (k : Nat) , (pre ++ suf).length ≤ 1048576 → suf.length + 2 < k →
    impl_AreOps.l0 k (pre ++ suf) ((pre ++ suf).length : Int) (pre.length : Int) = some (allOps suf) := by
  induction suf with
  | nil =>
    intro pre k  hb hk
    obtain ⟨k, rfl⟩ := succ_of hk
    rw [impl_AreOps.l0, if_neg (nil_nlt pre)]
    rfl
  | cons x suf ih =>
    intro pre k  hb hk
    obtain ⟨k, rfl⟩ := succ_of hk
    have hp : pre.length + suf.length < 1048576 := by simp at hb; omega
    have hk1 : suf.length + 2 < k := by simp only [List.length_cons] at hk; omega
    have hb1 : (pre ++ [x] ++ suf).length ≤ 1048576 := by simpa using hb
    have ih1 := ih (pre ++ [x]) k
    rw [impl_AreOps.l0, if_pos (mid_lt _ _ _), if_pos (len_nn _), if_pos (mid_lt _ _ _)]
    try simp only [rd102_mid, Option.bind_some]
    rw [wrap_nat (by omega), snoc_len pre x, snoc_eq pre x suf]
    rw [impl_isOp_e _ _ _ _ (by omega), ih1 hb1 hk1, allOps_cons]
    cases isOpV x.f0 x.f1 x.f2 x.f3 <;> simp
theorem impl_AreOps_e {k : Nat} {l : List S102} (hk : Lv 1 k) (hl : Ok l) : impl_AreOps.f k l = some (areOps l) := by
  have hl' := ok_out hl
  have hk' := lv_out hk
  unfold impl_AreOps.f areOps
  by_cases h : (l.length : Int) > 16
  · rw [if_pos h, decide_eq_false (by omega)]; simp
  · rw [if_neg h, decide_eq_true (show l.length ≤ 16 by omega), Bool.and_true]
    simpa using impl_AreOps_l l [] k (by simpa using hl') (by omega)
theorem laws_szOpS_no {l : List S104} {a : Int} (h0 : 0 ≤ a) (h1 : a ≤ 1048576) (h : l.length ≤ maxLen) (hn : a < l.length) : laws_szOpS.f l a = some (-1) := by
  unfold maxLen at h
  unfold laws_szOpS.f
  rw [wrap_id (by omega), if_pos (by omega)]
theorem laws_szOpS_yes {l : List S104} {a : Int} (h0 : 0 ≤ a) (h1 : a ≤ 1048576) (hn : l.length ≤ a) : laws_szOpS.f l a = some (a - l.length) := by
  unfold laws_szOpS.f
  rw [wrap_id (by omega), if_neg (by omega)]
theorem rd104_mid (pre : List S104) (x : S104) (suf : List S104) : rd_T104 (pre ++ x :: suf) (pre.length : Int) = x := getD_mid pre x suf z104
def cv_Op (x : S104) : S102 := (⟨x.f0, x.f1, x.f2, x.f3⟩ : S102)
theorem laws_toOpS_l (suf : List S104) : ∀ (pre : List S104) (k : Nat), (pre ++ suf).length ≤ 1048576 → suf.length < k →
    laws_toOpS.l0 k (pre ++ suf) (pre.map cv_Op ++ List.replicate suf.length z102) (pre.length : Int) = some ((pre ++ suf).map cv_Op) := by
  induction suf with
  | nil =>
    intro pre k hb hk
    obtain ⟨k, rfl⟩ := succ_of hk
    rw [laws_toOpS.l0, if_neg (nil_nlt pre)]
    simp
  | cons x suf ih =>
    intro pre k hb hk
    obtain ⟨k, rfl⟩ := succ_of hk
    have hp : pre.length ≤ 1048576 := by simp at hb; omega
    have hm : (pre.length : Int) = ((pre.map cv_Op).length : Int) := by simp
    have h := ih (pre ++ [x]) k (by simpa using hb) (by simpa using hk)
    rw [laws_toOpS.l0, if_pos (mid_lt _ _ _), if_pos (len_nn _), rd104_mid]
    simp only [laws_toOp.f, Option.bind_some]
    rw [if_pos (by simp; omega), List.length_cons, List.replicate_succ, hm, set_mid, wrap_nat (by simpa using Nat.le_trans hp (by omega)), snoc_eq pre x suf]
    rw [snoc_eq (pre.map cv_Op)]
    simp only [List.map_append, List.map_cons, List.map_nil, List.length_append, List.length_map, List.length_cons, List.length_nil, Nat.zero_add] at h ⊢
    exact h
theorem laws_toOpS_e {k : Nat} {l : List S104} (hk : Big k) (hl : Ok l) : laws_toOpS.f k l = some (l.map cv_Op) := by
  have hl' := ok_out hl
  unfold laws_toOpS.f
  rw [if_pos (len_nn _), if_pos (by omega)]
  simpa using laws_toOpS_l l [] k (by simpa using hl') (big_pred hk _ (by omega))
theorem laws_eqOpS_l (suf : List S102) : ∀ (pre : List S102) (k : Nat), (pre ++ suf).length ≤ 1048576 → suf.length < k →
    laws_eqOpS.l0 k (pre ++ suf) (pre ++ suf) (pre.length : Int) = some true := by
  induction suf with
  | nil =>
    intro pre k hb hk
    obtain ⟨k, rfl⟩ := succ_of hk
    rw [laws_eqOpS.l0, if_neg (nil_nlt pre)]
  | cons x suf ih =>
    intro pre k hb hk
    obtain ⟨k, rfl⟩ := succ_of hk
    have hp : pre.length ≤ 1048576 := by simp at hb; omega
    have h := ih (pre ++ [x]) k (by simpa using hb) (by simpa using hk)
    rw [laws_eqOpS.l0, if_pos (mid_lt _ _ _), if_pos (len_nn _), if_pos (mid_lt _ _ _), rd102_mid, wrap_nat (by omega), snoc_len pre x, snoc_eq pre x suf, h]
    simp [laws_eqOp.f]
theorem laws_eqOpS_e {k : Nat} {l : List S102} (hk : Big k) (hl : Ok l) : laws_eqOpS.f k l l = some true := by
  have hl' := ok_out hl
  unfold laws_eqOpS.f
  rw [if_pos rfl]
  simpa using laws_eqOpS_l l [] k (by simpa using hl') (big_pred hk _ (by omega))

theorem FnExactAreOps : ∀ (l0 : List (S104)), l0.length ≤ maxLen → (∀ x ∈ l0, (Lit.int .i64 x.f0).wf = true ∧ (Lit.int .i64 x.f1).wf = true ∧ (Lit.int .i64 x.f2).wf = true ∧ (Lit.int .i64 x.f3).wf = true) → ∃ k, laws_FnExactAreOps.f k l0 = some true := by
  intro l0 hm0 _
  by_cases hn0 : (1048576 : Int) < l0.length
  · refine ⟨0, ?_⟩
    unfold laws_FnExactAreOps.f
    rw [laws_szOpS_no (by omega) (by omega) hm0 hn0]
    rfl
  obtain ⟨k, hk⟩ := big_some
  have hk0 := big_succ hk
  have hl0 : Ok l0 := by unfold Ok; omega
  have hT0 := laws_toOpS_e hk0 hl0
  have hE0 := laws_eqOpS_e hk0 (ok_map (f := cv_Op) hl0)
  have hP := spec_AreOps_e (lv hk0) (ok_map (f := cv_Op) hl0)
  have hI := impl_AreOps_e (lv hk0) (ok_map (f := cv_Op) hl0)
  have hT0' := laws_toOpS_e hk hl0
  have hE0' := laws_eqOpS_e hk (ok_map (f := cv_Op) hl0)
  have hP' := spec_AreOps_e (lv hk) (ok_map (f := cv_Op) hl0)
  have hI' := impl_AreOps_e (lv hk) (ok_map (f := cv_Op) hl0)
  refine ⟨k + 1, ?_⟩
  unfold laws_FnExactAreOps.f
  rw [laws_szOpS_yes (by omega) (by omega) (by omega), Option.bind_some, if_neg (by omega)]
  simp only [hT0, hE0, hP, hI, hT0', hE0', hP', hI', Option.bind_some, if_true, bne_self_eq_false, Bool.false_eq_true, if_false, Bool.not_true, Bool.not_false]
end Go.Proofs.Ytlkjdlimahhmjaa.Pure
