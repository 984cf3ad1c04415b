/- The law FnExactLettersFor as a statement over numbers and lists, with its proof; no conditions but the ranges that the values' types and the slices' lengths have. -/
import Derived.Test.YtlkjdlimahhmjaaPFnExactLettersForx3
namespace Go.Proofs.Ytlkjdlimahhmjaa.Pure
open Go.RowKit Go.Proofs.Ytlkjdlimahhmjaa.PFnExactLettersFor Go.Proofs.YtlkjdlimahhmjaaW.PrintWords Go.Proofs.YtlkjdlimahhmjaaW.PrintLast Go.Proofs.YtlkjdlimahhmjaaW.PrintMore
set_option linter.unusedVariables false
set_option linter.unusedSimpArgs false
/-! ### numbers, lists, rounds -/
theorem wf64 {n : Int} (h : (Lit.int .i64 n).wf = true) : -9223372036854775808 ≤ n ∧ n ≤ 9223372036854775807 := by
  simp [Lit.wf, IntKind.min, IntKind.max, IntKind.bits, IntKind.signed] at h
  omega
theorem wrap_id {n : Int} (h : -9223372036854775808 ≤ n ∧ n ≤ 9223372036854775807) : wrap64 n = n := by
  unfold wrap64
  omega
theorem wrap_nat {n : Nat} (h : n ≤ 1000000000000) : wrap64 ((n : Int) + 1) = ((n + 1 : Nat) : Int) := by
  unfold wrap64
  omega
theorem succ_of {m k : Nat} (h : m < k) : ∃ q, k = q + 1 := ⟨k - 1, by omega⟩
theorem ite_t {p : Prop} [Decidable p] {α : Type} {a b : α} (h : p) : (if p then a else b) = a := if_pos h
theorem ite_f {p : Prop} [Decidable p] {α : Type} {a b : α} (h : ¬ p) : (if p then a else b) = b := if_neg h
theorem bind_of {α β : Type} {x : Option α} {a : α} {f : α → Option β} {r : Option β} (h : x = some a) (h2 : f a = r) : x.bind f = r := by rw [h]; exact h2
theorem getD_mid {α : Type} (pre : List α) (x : α) (suf : List α) (z : α) : (pre ++ x :: suf).getD ((pre.length : Int)).toNat z = x := by
  simp
theorem rd_mid (pre : List Int) (x : Int) (suf : List Int) : rd (pre ++ x :: suf) (pre.length : Int) = x := by
  simp [rd]
theorem set_mid {α : Type} (pre : List α) (x y : α) (suf : List α) : (pre ++ x :: suf).set ((pre.length : Int)).toNat y = pre ++ y :: suf := by
  simp
theorem mid_lt {α : Type} (pre : List α) (x : α) (suf : List α) : (pre.length : Int) < ((pre ++ x :: suf).length : Int) := by
  simp; omega
theorem mid_lt' {α : Type} (pre : List α) (x : α) (suf : List α) (n : Nat) (h : pre.length = n) : (n : Int) < ((pre ++ x :: suf).length : Int) := by
  simp; omega
theorem nil_nlt {α : Type} (pre : List α) : ¬ ((pre.length : Int) < ((pre ++ []).length : Int)) := by simp
theorem len_nn (n : Nat) : (0 : Int) ≤ (n : Int) := by omega
theorem snoc_eq {α : Type} (pre : List α) (x : α) (suf : List α) : pre ++ x :: suf = (pre ++ [x]) ++ suf := by simp
theorem snoc_len {α : Type} (pre : List α) (x : α) : ((pre.length + 1 : Nat) : Int) = ((pre ++ [x]).length : Int) := by simp
def inR (n a b : Int) : Bool := decide (a ≤ n ∧ n ≤ b)
theorem inR_true {n a b : Int} : inR n a b = true ↔ a ≤ n ∧ n ≤ b := by simp [inR]
theorem inR_false {n a b : Int} : inR n a b = false ↔ ¬ (a ≤ n ∧ n ≤ b) := by simp [inR]
def Big (k : Nat) : Prop := 1100000 ≤ k
theorem big_out {k : Nat} (h : Big k) : 1100000 ≤ k := h
theorem big_succ {k : Nat} (h : Big k) : Big (k + 1) := by unfold Big at *; omega
theorem big_some : ∃ K : Nat, Big K := ⟨1100000, Nat.le_refl _⟩
theorem big_pred {k : Nat} (h : Big k) (n : Nat) (hn : n ≤ 1048577) : n < k := by unfold Big at h; omega
def Ok {α : Type} (l : List α) : Prop := l.length ≤ 1048576
theorem ok_out {α : Type} {l : List α} (h : Ok l) : l.length ≤ 1048576 := h
theorem ok_map {α β : Type} {f : α → β} {l : List α} (h : Ok l) : Ok (l.map f) := by unfold Ok at *; simpa using h
theorem ok_filter {α : Type} {f : α → Bool} {l : List α} (h : Ok l) : Ok (l.filter f) := by unfold Ok at *; exact Nat.le_trans (List.length_filter_le _ _) h
theorem ok_small {α : Type} {l : List α} (n : Nat) (h : l.length ≤ n) (hn : n ≤ 1048576) : Ok l := by unfold Ok; omega
theorem rd36_mid (pre : List S36) (x : S36) (suf : List S36) : rd_T36 (pre ++ x :: suf) (pre.length : Int) = x := getD_mid pre x suf z36
theorem spec_LettersFor_l (a : Int) (suf : List S36) : ∀ (pre : List S36) (k : Nat) (out : List S36), out.length ≤ pre.length → (pre ++ suf).length ≤ 1048576 → suf.length < k →
    spec_LettersFor.l0 k (pre ++ suf) a out (pre.length : Int) = some (out ++ suf.filter (fun x => x.f1 == a)) := by
  induction suf with
  | nil =>
    intro pre k out H hb hk
    obtain ⟨k, rfl⟩ := succ_of hk
    rw [spec_LettersFor.l0, if_neg (nil_nlt pre)]
    simp
  | cons x suf ih =>
    intro pre k out H hb hk
    obtain ⟨k, rfl⟩ := succ_of hk
    have hp : pre.length + suf.length < 1048576 := by simp at hb; omega
    have hk1 : suf.length < k := by simpa using hk
    have hb1 : (pre ++ [x] ++ suf).length ≤ 1048576 := by simpa using hb
    have ih1 := ih (pre ++ [x]) k
    rw [spec_LettersFor.l0, if_pos (mid_lt _ _ _), if_pos (len_nn _)]
    try simp only [rd36_mid, Option.bind_some]
    rw [wrap_nat (by omega), snoc_len pre x, snoc_eq pre x suf]
    rw [ih1 out (by simp; omega) hb1 hk1, ih1 (out ++ [x]) (by simp; omega) hb1 hk1, if_pos (show out.length < 4398046511104 by omega)]
    (repeat (any_goals split)) <;> simp_all [List.filter_cons]
theorem spec_LettersFor_e {k : Nat} {l : List S36} {a : Int} (hk : Big k) (hl : Ok l) : spec_LettersFor.f k l a = some (l.filter (fun x => x.f1 == a)) := by
  have hl' := ok_out hl
  unfold spec_LettersFor.f
  simpa using spec_LettersFor_l a l [] k [] (by simp) (by simpa using hl') (big_pred hk _ (by omega))
theorem impl_LettersFor_l (a : Int) (suf : List S36) : ∀ (pre : List S36) (k : Nat) (out : List S36), out.length ≤ pre.length → (pre ++ suf).length ≤ 1048576 → suf.length < k →
    impl_LettersFor.l0 k a out (pre ++ suf) ((pre ++ suf).length : Int) (pre.length : Int) = some (out ++ suf.filter (fun x => x.f1 == a)) := by
  induction suf with
  | nil =>
    intro pre k out H hb hk
    obtain ⟨k, rfl⟩ := succ_of hk
    rw [impl_LettersFor.l0, if_neg (nil_nlt pre)]
    simp
  | cons x suf ih =>
    intro pre k out H hb hk
    obtain ⟨k, rfl⟩ := succ_of hk
    have hp : pre.length + suf.length < 1048576 := by simp at hb; omega
    have hk1 : suf.length < k := by simpa using hk
    have hb1 : (pre ++ [x] ++ suf).length ≤ 1048576 := by simpa using hb
    have ih1 := ih (pre ++ [x]) k
    rw [impl_LettersFor.l0, if_pos (mid_lt _ _ _), if_pos (len_nn _), if_pos (mid_lt _ _ _)]
    try simp only [rd36_mid, Option.bind_some]
    rw [wrap_nat (by omega), snoc_len pre x, snoc_eq pre x suf]
    rw [ih1 out (by simp; omega) hb1 hk1, ih1 (out ++ [x]) (by simp; omega) hb1 hk1, if_pos (show out.length < 4398046511104 by omega)]
    (repeat (any_goals split)) <;> simp_all [List.filter_cons]
theorem impl_LettersFor_e {k : Nat} {l : List S36} {a : Int} (hk : Big k) (hl : Ok l) : impl_LettersFor.f k l a = some (l.filter (fun x => x.f1 == a)) := by
  have hl' := ok_out hl
  unfold impl_LettersFor.f
  simpa using impl_LettersFor_l a l [] k [] (by simp) (by simpa using hl') (big_pred hk _ (by omega))
theorem laws_szLetterS_no {l : List S35} {a : Int} (h0 : 0 ≤ a) (h1 : a ≤ 1048576) (h : l.length ≤ maxLen) (hn : a < l.length) : laws_szLetterS.f l a = some (-1) := by
  unfold maxLen at h
  unfold laws_szLetterS.f
  rw [wrap_id (by omega), if_pos (by omega)]
theorem laws_szLetterS_yes {l : List S35} {a : Int} (h0 : 0 ≤ a) (h1 : a ≤ 1048576) (hn : l.length ≤ a) : laws_szLetterS.f l a = some (a - l.length) := by
  unfold laws_szLetterS.f
  rw [wrap_id (by omega), if_neg (by omega)]
theorem rd35_mid (pre : List S35) (x : S35) (suf : List S35) : rd_T35 (pre ++ x :: suf) (pre.length : Int) = x := getD_mid pre x suf z35
def cv_Letter (x : S35) : S36 := (⟨x.f0, x.f1, x.f2, x.f3⟩ : S36)
theorem laws_toLetterS_l (suf : List S35) : ∀ (pre : List S35) (k : Nat), (pre ++ suf).length ≤ 1048576 → suf.length < k →
    laws_toLetterS.l0 k (pre ++ suf) (pre.map cv_Letter ++ List.replicate suf.length z36) (pre.length : Int) = some ((pre ++ suf).map cv_Letter) := by
  induction suf with
  | nil =>
    intro pre k hb hk
    obtain ⟨k, rfl⟩ := succ_of hk
    rw [laws_toLetterS.l0, if_neg (nil_nlt pre)]
    simp
  | cons x suf ih =>
    intro pre k hb hk
    obtain ⟨k, rfl⟩ := succ_of hk
    have hp : pre.length ≤ 1048576 := by simp at hb; omega
    have hm : (pre.length : Int) = ((pre.map cv_Letter).length : Int) := by simp
    have h := ih (pre ++ [x]) k (by simpa using hb) (by simpa using hk)
    rw [laws_toLetterS.l0, if_pos (mid_lt _ _ _), if_pos (len_nn _), rd35_mid]
    simp only [laws_toLetter.f, Option.bind_some]
    rw [if_pos (by simp; omega), List.length_cons, List.replicate_succ, hm, set_mid, wrap_nat (by simpa using Nat.le_trans hp (by omega)), snoc_eq pre x suf]
    rw [snoc_eq (pre.map cv_Letter)]
    simp only [List.map_append, List.map_cons, List.map_nil, List.length_append, List.length_map, List.length_cons, List.length_nil, Nat.zero_add] at h ⊢
    exact h
theorem laws_toLetterS_e {k : Nat} {l : List S35} (hk : Big k) (hl : Ok l) : laws_toLetterS.f k l = some (l.map cv_Letter) := by
  have hl' := ok_out hl
  unfold laws_toLetterS.f
  rw [if_pos (len_nn _), if_pos (by omega)]
  simpa using laws_toLetterS_l l [] k (by simpa using hl') (big_pred hk _ (by omega))
theorem laws_eqLetterS_l (suf : List S36) : ∀ (pre : List S36) (k : Nat), (pre ++ suf).length ≤ 1048576 → suf.length < k →
    laws_eqLetterS.l0 k (pre ++ suf) (pre ++ suf) (pre.length : Int) = some true := by
  induction suf with
  | nil =>
    intro pre k hb hk
    obtain ⟨k, rfl⟩ := succ_of hk
    rw [laws_eqLetterS.l0, if_neg (nil_nlt pre)]
  | cons x suf ih =>
    intro pre k hb hk
    obtain ⟨k, rfl⟩ := succ_of hk
    have hp : pre.length ≤ 1048576 := by simp at hb; omega
    have h := ih (pre ++ [x]) k (by simpa using hb) (by simpa using hk)
    rw [laws_eqLetterS.l0, if_pos (mid_lt _ _ _), if_pos (len_nn _), if_pos (mid_lt _ _ _), rd36_mid, wrap_nat (by omega), snoc_len pre x, snoc_eq pre x suf, h]
    simp [laws_eqLetter.f]
theorem laws_eqLetterS_e {k : Nat} {l : List S36} (hk : Big k) (hl : Ok l) : laws_eqLetterS.f k l l = some true := by
  have hl' := ok_out hl
  unfold laws_eqLetterS.f
  rw [if_pos rfl]
  simpa using laws_eqLetterS_l l [] k (by simpa using hl') (big_pred hk _ (by omega))
def mk_Letter : Int → List S36 → List S36
  | _, [] => []
  | m, _ :: xs => (⟨m, (m + 1), (m + 1 + 1), (m + 1 + 1 + 1)⟩ : S36) :: mk_Letter (m + 1 + 1 + 1 + 1) xs
theorem mk_Letter_len : ∀ (l : List S36) (m : Int), (mk_Letter m l).length = l.length
  | [], _ => rfl
  | _ :: l, m => by simp [mk_Letter, mk_Letter_len l]
theorem laws_markLetterS_l (suf : List S36) : ∀ (pre : List S36) (k : Nat) (m : Int), 0 ≤ m → m + 4 * (suf.length : Int) ≤ 1000000000000 → (pre ++ suf).length ≤ 1048576 → suf.length < k →
    laws_markLetterS.l0 k (pre ++ suf) m (pre.length : Int) = some (m + 4 * (suf.length : Int), pre ++ mk_Letter m suf) := by
  induction suf with
  | nil =>
    intro pre k m h0 h1 hb hk
    obtain ⟨k, rfl⟩ := succ_of hk
    rw [laws_markLetterS.l0, if_neg (nil_nlt pre)]
    simp [mk_Letter]
  | cons x suf ih =>
    intro pre k m h0 h1 hb hk
    obtain ⟨k, rfl⟩ := succ_of hk
    have hp : pre.length ≤ 1048576 := by simp at hb; omega
    have e1 : ((x :: suf).length : Int) = (suf.length : Int) + 1 := by simp
    rw [e1] at h1 ⊢
    have w0 : wrap64 (m + 1) = (m + 1) := wrap_id (by omega)
    have w1 : wrap64 ((m + 1) + 1) = (m + 1 + 1) := wrap_id (by omega)
    have w2 : wrap64 ((m + 1 + 1) + 1) = (m + 1 + 1 + 1) := wrap_id (by omega)
    have w3 : wrap64 ((m + 1 + 1 + 1) + 1) = (m + 1 + 1 + 1 + 1) := wrap_id (by omega)
    have h := ih (pre ++ [(⟨m, (m + 1), (m + 1 + 1), (m + 1 + 1 + 1)⟩ : S36)]) k (m + 1 + 1 + 1 + 1) (by omega) (by omega) (by simpa using hb) (by simpa using hk)
    rw [laws_markLetterS.l0, if_pos (mid_lt _ _ _), if_pos (len_nn _)]
    simp only [set_mid, rd36_mid, Option.bind_some, w0, w1, w2, w3]
    rw [wrap_nat (by omega), snoc_len pre (⟨m, (m + 1), (m + 1 + 1), (m + 1 + 1 + 1)⟩ : S36), snoc_eq pre (⟨m, (m + 1), (m + 1 + 1), (m + 1 + 1 + 1)⟩ : S36) suf]
    refine (h.trans ?_)
    have e2 : (m + 1 + 1 + 1 + 1) + 4 * (suf.length : Int) = m + 4 * ((suf.length : Int) + 1) := by omega
    rw [e2]
    simp [mk_Letter]
theorem laws_markLetterS_e {k : Nat} {l : List S36} {m : Int} (hk : Big k) (hl : Ok l) (h0 : 0 ≤ m) (h1 : m ≤ 100000000000) : laws_markLetterS.f k l m = some (m + 4 * (l.length : Int), mk_Letter m l) := by
  have hl' := ok_out hl
  unfold laws_markLetterS.f
  simpa using laws_markLetterS_l l [] k m h0 (by omega) (by simpa using hl') (big_pred hk _ (by omega))
theorem laws_heldLetterS_l (suf : List S36) : ∀ (pre : List S36) (k : Nat) (m : Int), 0 ≤ m → m + 4 * (suf.length : Int) ≤ 1000000000000 → (pre ++ suf).length ≤ 1048576 → suf.length < k →
    laws_heldLetterS.l0 k (pre ++ mk_Letter m suf) m (pre.length : Int) = some (m + 4 * (suf.length : Int)) := by
  induction suf with
  | nil =>
    intro pre k m h0 h1 hb hk
    obtain ⟨k, rfl⟩ := succ_of hk
    rw [laws_heldLetterS.l0, mk_Letter, if_neg (nil_nlt pre)]
    simp
  | cons x suf ih =>
    intro pre k m h0 h1 hb hk
    obtain ⟨k, rfl⟩ := succ_of hk
    have hp : pre.length ≤ 1048576 := by simp at hb; omega
    have e1 : ((x :: suf).length : Int) = (suf.length : Int) + 1 := by simp
    rw [e1] at h1 ⊢
    have w0 : wrap64 (m + 1) = (m + 1) := wrap_id (by omega)
    have w1 : wrap64 ((m + 1) + 1) = (m + 1 + 1) := wrap_id (by omega)
    have w2 : wrap64 ((m + 1 + 1) + 1) = (m + 1 + 1 + 1) := wrap_id (by omega)
    have w3 : wrap64 ((m + 1 + 1 + 1) + 1) = (m + 1 + 1 + 1 + 1) := wrap_id (by omega)
    have h := ih (pre ++ [(⟨m, (m + 1), (m + 1 + 1), (m + 1 + 1 + 1)⟩ : S36)]) k (m + 1 + 1 + 1 + 1) (by omega) (by omega) (by simpa using hb) (by simpa using hk)
    rw [laws_heldLetterS.l0, mk_Letter, if_pos (mid_lt _ _ _), if_pos (len_nn _)]
    simp only [rd36_mid, Option.bind_some, w0, w1, w2, w3, if_true, bne_self_eq_false, Bool.false_eq_true, if_false]
    rw [wrap_nat (by omega), snoc_len pre (⟨m, (m + 1), (m + 1 + 1), (m + 1 + 1 + 1)⟩ : S36), snoc_eq pre (⟨m, (m + 1), (m + 1 + 1), (m + 1 + 1 + 1)⟩ : S36) (mk_Letter _ suf)]
    refine (h.trans ?_)
    have e2 : (m + 1 + 1 + 1 + 1) + 4 * (suf.length : Int) = m + 4 * ((suf.length : Int) + 1) := by omega
    rw [e2]
theorem laws_heldLetterS_e {k : Nat} {l : List S36} {m : Int} (hk : Big k) (hl : Ok l) (h0 : 0 ≤ m) (h1 : m ≤ 100000000000) : laws_heldLetterS.f k (mk_Letter m l) m = some (m + 4 * (l.length : Int)) := by
  have hl' := ok_out hl
  unfold laws_heldLetterS.f
  simpa using laws_heldLetterS_l l [] k m h0 (by omega) (by simpa using hl') (big_pred hk _ (by omega))

theorem FnExactLettersFor : ∀ (l0 : List (S35)) (a1 : Int), l0.length ≤ maxLen → (∀ x ∈ l0, (Lit.int .i64 x.f0).wf = true ∧ (Lit.int .i64 x.f1).wf = true ∧ (Lit.int .i64 x.f2).wf = true ∧ (Lit.int .i64 x.f3).wf = true) → (Lit.int .i64 a1).wf = true → ∃ k, laws_FnExactLettersFor.f k l0 a1 = some true := by
  intro l0 a1 hm0 _ _
  by_cases hn0 : (1048576 : Int) < l0.length
  · refine ⟨0, ?_⟩
    unfold laws_FnExactLettersFor.f
    rw [laws_szLetterS_no (by omega) (by omega) hm0 hn0]
    rfl
  obtain ⟨k, hk⟩ := big_some
  have hk0 := big_succ hk
  have hl0 : Ok l0 := by unfold Ok; omega
  have hR := ok_filter (f := fun x => x.f1 == a1) (ok_map (f := cv_Letter) hl0)
  have hT0 := laws_toLetterS_e hk0 hl0
  have hE0 := laws_eqLetterS_e hk0 (ok_map (f := cv_Letter) hl0)
  have hM0 := laws_markLetterS_e (m := 1) hk0 (ok_map (f := cv_Letter) hl0) (by omega) (by omega)
  have hP := spec_LettersFor_e (a := a1) hk0 (ok_map (f := cv_Letter) hl0)
  have hI := impl_LettersFor_e (a := a1) hk0 (ok_map (f := cv_Letter) hl0)
  have hMR := laws_markLetterS_e (m := 1) hk0 hR (by omega) (by omega)
  have hHR := laws_heldLetterS_e (m := 1) hk0 hR (by omega) (by omega)
  have hER := laws_eqLetterS_e hk0 hR
  have hT0' := laws_toLetterS_e hk hl0
  have hE0' := laws_eqLetterS_e hk (ok_map (f := cv_Letter) hl0)
  have hM0' := laws_markLetterS_e (m := 1) hk (ok_map (f := cv_Letter) hl0) (by omega) (by omega)
  have hP' := spec_LettersFor_e (a := a1) hk (ok_map (f := cv_Letter) hl0)
  have hI' := impl_LettersFor_e (a := a1) hk (ok_map (f := cv_Letter) hl0)
  have hMR' := laws_markLetterS_e (m := 1) hk hR (by omega) (by omega)
  have hHR' := laws_heldLetterS_e (m := 1) hk hR (by omega) (by omega)
  have hER' := laws_eqLetterS_e hk hR
  have hN_Letter : ∀ n : Nat, ¬ ((1 : Int) + 4 * (n : Int) < 0) := fun n => by omega
  refine ⟨k + 1, ?_⟩
  unfold laws_FnExactLettersFor.f
  rw [laws_szLetterS_yes (by omega) (by omega) (by omega), Option.bind_some, if_neg (by omega)]
  simp only [laws_FnExactLettersFor.j0, hT0, hE0, hM0, hP, hI, hMR, hHR, hER, hT0', hE0', hM0', hP', hI', hMR', hHR', hER', Option.bind_some, if_true, bne_self_eq_false, Bool.false_eq_true, if_false, Bool.not_true, Bool.not_false, hN_Letter]
end Go.Proofs.Ytlkjdlimahhmjaa.Pure
