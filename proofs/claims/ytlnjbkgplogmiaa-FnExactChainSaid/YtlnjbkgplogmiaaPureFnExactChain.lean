/- The law FnExactChain as a statement over numbers and lists, with its proof; no conditions but the ranges that the values' types and the slices' lengths have. -/
import Derived.Test.YtlnjbkgplogmiaaPFnExactChainx2
namespace Go.Proofs.Ytlnjbkgplogmiaa.Pure
open Go.RowKit Go.Proofs.Ytlnjbkgplogmiaa.PFnExactChain Go.Proofs.YtlnjbkgplogmiaaW.PrintWords Go.Proofs.YtlnjbkgplogmiaaW.PrintLast Go.Proofs.YtlnjbkgplogmiaaW.PrintMore
set_option linter.unusedVariables false
set_option linter.unusedSimpArgs false
/-! ### numbers, lists, rounds -/
theorem wf64 {n : Int} (h : (Lit.int .i64 n).wf = true) : -9223372036854775808 ≤ n ∧ n ≤ 9223372036854775807 := by
  simp [Lit.wf, IntKind.min, IntKind.max, IntKind.bits, IntKind.signed] at h
  omega
theorem wrap_id {n : Int} (h : -9223372036854775808 ≤ n ∧ n ≤ 9223372036854775807) : wrap64 n = n := by
  unfold wrap64
  omega
theorem wrap_nat {n : Nat} (h : n ≤ 1000000000000) : wrap64 ((n : Int) + 1) = ((n + 1 : Nat) : Int) := by
  unfold wrap64
  omega
theorem succ_of {m k : Nat} (h : m < k) : ∃ q, k = q + 1 := ⟨k - 1, by omega⟩
theorem ite_t {p : Prop} [Decidable p] {α : Type} {a b : α} (h : p) : (if p then a else b) = a := if_pos h
theorem ite_f {p : Prop} [Decidable p] {α : Type} {a b : α} (h : ¬ p) : (if p then a else b) = b := if_neg h
theorem bind_of {α β : Type} {x : Option α} {a : α} {f : α → Option β} {r : Option β} (h : x = some a) (h2 : f a = r) : x.bind f = r := by rw [h]; exact h2
theorem getD_mid {α : Type} (pre : List α) (x : α) (suf : List α) (z : α) : (pre ++ x :: suf).getD ((pre.length : Int)).toNat z = x := by
  simp
theorem rd_mid (pre : List Int) (x : Int) (suf : List Int) : rd (pre ++ x :: suf) (pre.length : Int) = x := by
  simp [rd]
theorem set_mid {α : Type} (pre : List α) (x y : α) (suf : List α) : (pre ++ x :: suf).set ((pre.length : Int)).toNat y = pre ++ y :: suf := by
  simp
theorem mid_lt {α : Type} (pre : List α) (x : α) (suf : List α) : (pre.length : Int) < ((pre ++ x :: suf).length : Int) := by
  simp; omega
theorem mid_lt' {α : Type} (pre : List α) (x : α) (suf : List α) (n : Nat) (h : pre.length = n) : (n : Int) < ((pre ++ x :: suf).length : Int) := by
  simp; omega
theorem nil_nlt {α : Type} (pre : List α) : ¬ ((pre.length : Int) < ((pre ++ []).length : Int)) := by simp
theorem len_nn (n : Nat) : (0 : Int) ≤ (n : Int) := by omega
theorem snoc_eq {α : Type} (pre : List α) (x : α) (suf : List α) : pre ++ x :: suf = (pre ++ [x]) ++ suf := by simp
theorem snoc_len {α : Type} (pre : List α) (x : α) : ((pre.length + 1 : Nat) : Int) = ((pre ++ [x]).length : Int) := by simp
def inR (n a b : Int) : Bool := decide (a ≤ n ∧ n ≤ b)
theorem inR_true {n a b : Int} : inR n a b = true ↔ a ≤ n ∧ n ≤ b := by simp [inR]
theorem inR_false {n a b : Int} : inR n a b = false ↔ ¬ (a ≤ n ∧ n ≤ b) := by simp [inR]
def Big (k : Nat) : Prop := 1100000 ≤ k
theorem big_out {k : Nat} (h : Big k) : 1100000 ≤ k := h
theorem big_succ {k : Nat} (h : Big k) : Big (k + 1) := by unfold Big at *; omega
theorem big_some : ∃ K : Nat, Big K := ⟨1100000, Nat.le_refl _⟩
theorem big_pred {k : Nat} (h : Big k) (n : Nat) (hn : n ≤ 1048577) : n < k := by unfold Big at h; omega
def Ok {α : Type} (l : List α) : Prop := l.length ≤ 1048576
theorem ok_out {α : Type} {l : List α} (h : Ok l) : l.length ≤ 1048576 := h
theorem ok_map {α β : Type} {f : α → β} {l : List α} (h : Ok l) : Ok (l.map f) := by unfold Ok at *; simpa using h
theorem ok_filter {α : Type} {f : α → Bool} {l : List α} (h : Ok l) : Ok (l.filter f) := by unfold Ok at *; exact Nat.le_trans (List.length_filter_le _ _) h
theorem ok_small {α : Type} {l : List α} (n : Nat) (h : l.length ≤ n) (hn : n ≤ 1048576) : Ok l := by unfold Ok; omega
theorem laws_szDeedS_no {l : List S66} {a : Int} (h0 : 0 ≤ a) (h1 : a ≤ 1048576) (h : l.length ≤ maxLen) (hn : a < l.length) : laws_szDeedS.f l a = some (-1) := by
  unfold maxLen at h
  unfold laws_szDeedS.f
  rw [wrap_id (by omega), if_pos (by omega)]
theorem laws_szDeedS_yes {l : List S66} {a : Int} (h0 : 0 ≤ a) (h1 : a ≤ 1048576) (hn : l.length ≤ a) : laws_szDeedS.f l a = some (a - l.length) := by
  unfold laws_szDeedS.f
  rw [wrap_id (by omega), if_neg (by omega)]
theorem rd66_mid (pre : List S66) (x : S66) (suf : List S66) : rd_T66 (pre ++ x :: suf) (pre.length : Int) = x := getD_mid pre x suf z66
def cv_Deed (x : S66) : S64 := (⟨x.f0, x.f1, x.f2, x.f3, x.f4⟩ : S64)
theorem laws_toDeedS_l (suf : List S66) : ∀ (pre : List S66) (k : Nat), (pre ++ suf).length ≤ 1048576 → suf.length < k →
    laws_toDeedS.l0 k (pre ++ suf) (pre.map cv_Deed ++ List.replicate suf.length z64) (pre.length : Int) = some ((pre ++ suf).map cv_Deed) := by
  induction suf with
  | nil =>
    intro pre k hb hk
    obtain ⟨k, rfl⟩ := succ_of hk
    rw [laws_toDeedS.l0, if_neg (nil_nlt pre)]
    simp
  | cons x suf ih =>
    intro pre k hb hk
    obtain ⟨k, rfl⟩ := succ_of hk
    have hp : pre.length ≤ 1048576 := by simp at hb; omega
    have hm : (pre.length : Int) = ((pre.map cv_Deed).length : Int) := by simp
    have h := ih (pre ++ [x]) k (by simpa using hb) (by simpa using hk)
    rw [laws_toDeedS.l0, if_pos (mid_lt _ _ _), if_pos (len_nn _), rd66_mid]
    simp only [laws_toDeed.f, Option.bind_some]
    rw [if_pos (by simp; omega), List.length_cons, List.replicate_succ, hm, set_mid, wrap_nat (by simpa using Nat.le_trans hp (by omega)), snoc_eq pre x suf]
    rw [snoc_eq (pre.map cv_Deed)]
    simp only [List.map_append, List.map_cons, List.map_nil, List.length_append, List.length_map, List.length_cons, List.length_nil, Nat.zero_add] at h ⊢
    exact h
theorem laws_toDeedS_e {k : Nat} {l : List S66} (hk : Big k) (hl : Ok l) : laws_toDeedS.f k l = some (l.map cv_Deed) := by
  have hl' := ok_out hl
  unfold laws_toDeedS.f
  rw [if_pos (len_nn _), if_pos (by omega)]
  simpa using laws_toDeedS_l l [] k (by simpa using hl') (big_pred hk _ (by omega))
theorem rd64_mid (pre : List S64) (x : S64) (suf : List S64) : rd_T64 (pre ++ x :: suf) (pre.length : Int) = x := getD_mid pre x suf z64
theorem laws_eqDeedS_l (suf : List S64) : ∀ (pre : List S64) (k : Nat), (pre ++ suf).length ≤ 1048576 → suf.length < k →
    laws_eqDeedS.l0 k (pre ++ suf) (pre ++ suf) (pre.length : Int) = some true := by
  induction suf with
  | nil =>
    intro pre k hb hk
    obtain ⟨k, rfl⟩ := succ_of hk
    rw [laws_eqDeedS.l0, if_neg (nil_nlt pre)]
  | cons x suf ih =>
    intro pre k hb hk
    obtain ⟨k, rfl⟩ := succ_of hk
    have hp : pre.length ≤ 1048576 := by simp at hb; omega
    have h := ih (pre ++ [x]) k (by simpa using hb) (by simpa using hk)
    rw [laws_eqDeedS.l0, if_pos (mid_lt _ _ _), if_pos (len_nn _), if_pos (mid_lt _ _ _), rd64_mid, wrap_nat (by omega), snoc_len pre x, snoc_eq pre x suf, h]
    simp [laws_eqDeed.f]
theorem laws_eqDeedS_e {k : Nat} {l : List S64} (hk : Big k) (hl : Ok l) : laws_eqDeedS.f k l l = some true := by
  have hl' := ok_out hl
  unfold laws_eqDeedS.f
  rw [if_pos rfl]
  simpa using laws_eqDeedS_l l [] k (by simpa using hl') (big_pred hk _ (by omega))
def chainV (e : Int) : Int → List S64 → Int
  | b, [] => b
  | b, d :: l => if d.f0 = e then (if d.f1 = b then chainV e d.f2 l else chainV e b l) else chainV e b l
theorem spec_Chain_l (a : Int) (suf : List S64) : ∀ (pre : List S64) (k : Nat) (b : Int), (pre ++ suf).length ≤ 1048576 → suf.length < k →
    spec_Chain.l0 k (pre ++ suf) a b (pre.length : Int) = some (chainV a b suf) := by
  induction suf with
  | nil =>
    intro pre k b hb hk
    obtain ⟨k, rfl⟩ := succ_of hk
    rw [spec_Chain.l0, if_neg (nil_nlt pre), chainV]
  | cons x suf ih =>
    intro pre k b hb hk
    obtain ⟨k, rfl⟩ := succ_of hk
    have hp : pre.length ≤ 1048576 := by simp at hb; omega
    have h := fun b => ih (pre ++ [x]) k b (by simpa using hb) (by simpa using hk)
    rw [spec_Chain.l0, if_pos (mid_lt _ _ _), if_pos (len_nn _), rd64_mid, wrap_nat (by omega), snoc_len pre x, snoc_eq pre x suf, h, h, chainV]
    split
    · split <;> rfl
    · rfl
theorem spec_Chain_e {k : Nat} {l : List S64} {a b : Int} (hk : Big k) (hl : Ok l) : spec_Chain.f k l a b = some (chainV a b l) := by
  have hl' := ok_out hl
  unfold spec_Chain.f
  simpa using spec_Chain_l a l [] k b (by simpa using hl') (big_pred hk _ (by omega))
theorem impl_Chain_l (a : Int) (suf : List S64) : ∀ (pre : List S64) (k : Nat) (b : Int), (pre ++ suf).length ≤ 1048576 → suf.length < k →
    impl_Chain.l0 k a b (pre ++ suf) ((pre ++ suf).length : Int) (pre.length : Int) = some (chainV a b suf) := by
  induction suf with
  | nil =>
    intro pre k b hb hk
    obtain ⟨k, rfl⟩ := succ_of hk
    rw [impl_Chain.l0, if_neg (nil_nlt pre), chainV]
  | cons x suf ih =>
    intro pre k b hb hk
    obtain ⟨k, rfl⟩ := succ_of hk
    have hp : pre.length ≤ 1048576 := by simp at hb; omega
    have h := fun b => ih (pre ++ [x]) k b (by simpa using hb) (by simpa using hk)
    rw [impl_Chain.l0, if_pos (mid_lt _ _ _), if_pos (len_nn _), if_pos (mid_lt _ _ _), rd64_mid, wrap_nat (by omega), snoc_len pre x, snoc_eq pre x suf, h, h, chainV]
    split
    · split <;> rfl
    · rfl
theorem impl_Chain_e {k : Nat} {l : List S64} {a b : Int} (hk : Big k) (hl : Ok l) : impl_Chain.f k l a b = some (chainV a b l) := by
  have hl' := ok_out hl
  unfold impl_Chain.f
  simpa using impl_Chain_l a l [] k b (by simpa using hl') (big_pred hk _ (by omega))

theorem FnExactChain : ∀ (l0 : List (S66)) (a1 : Int) (a2 : Int), l0.length ≤ maxLen → (∀ x ∈ l0, (Lit.int .i64 x.f0).wf = true ∧ (Lit.int .i64 x.f1).wf = true ∧ (Lit.int .i64 x.f2).wf = true ∧ (Lit.int .i64 x.f3).wf = true ∧ (Lit.int .i64 x.f4).wf = true) → (Lit.int .i64 a1).wf = true → (Lit.int .i64 a2).wf = true → ∃ k, laws_FnExactChain.f k l0 a1 a2 = some true := by
  intro l0 a1 a2 hm hw h1 h2
  by_cases hn : (1048576 : Int) < l0.length
  · refine ⟨0, ?_⟩
    unfold laws_FnExactChain.f
    rw [laws_szDeedS_no (by omega) (by omega) hm hn]
    rfl
  obtain ⟨k, hk⟩ := big_some
  have hl : Ok l0 := by unfold Ok; omega
  have hT := laws_toDeedS_e hk hl
  have hP := spec_Chain_e (a := a1) (b := a2) hk (ok_map (f := cv_Deed) hl)
  have hI := impl_Chain_e (a := a1) (b := a2) hk (ok_map (f := cv_Deed) hl)
  have hE := laws_eqDeedS_e hk (ok_map (f := cv_Deed) hl)
  refine ⟨k, ?_⟩
  unfold laws_FnExactChain.f
  rw [laws_szDeedS_yes (by omega) (by omega) (by omega)]
  simp only [hT, hP, hI, hE, Option.bind_some, if_true]
  rw [if_neg (by omega)]
end Go.Proofs.Ytlnjbkgplogmiaa.Pure
