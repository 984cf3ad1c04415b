/- The law FnExactTargetsOf as a statement over numbers and lists, with its proof; no conditions but the ranges that the values' types and the slices' lengths have. -/
import Derived.Test.YtdpmigainnmegaaPFnExactTargetsOfx5
namespace Go.Proofs.Ytdpmigainnmegaa.Pure
open Go.RowKit Go.Proofs.Ytdpmigainnmegaa.PFnExactTargetsOf Go.Proofs.YtdpmigainnmegaaW.PrintWords Go.Proofs.YtdpmigainnmegaaW.PrintLast Go.Proofs.YtdpmigainnmegaaW.PrintMore
set_option linter.unusedVariables false
set_option linter.unusedSimpArgs false
/-! ### numbers, lists, rounds -/
theorem wf64 {n : Int} (h : (Lit.int .i64 n).wf = true) : -9223372036854775808 ≤ n ∧ n ≤ 9223372036854775807 := by
  simp [Lit.wf, IntKind.min, IntKind.max, IntKind.bits, IntKind.signed] at h
  omega
theorem wrap_id {n : Int} (h : -9223372036854775808 ≤ n ∧ n ≤ 9223372036854775807) : wrap64 n = n := by
  unfold wrap64
  omega
theorem wrap_nat {n : Nat} (h : n ≤ 1000000000000) : wrap64 ((n : Int) + 1) = ((n + 1 : Nat) : Int) := by
  unfold wrap64
  omega
theorem succ_of {m k : Nat} (h : m < k) : ∃ q, k = q + 1 := ⟨k - 1, by omega⟩
theorem ite_t {p : Prop} [Decidable p] {α : Type} {a b : α} (h : p) : (if p then a else b) = a := if_pos h
theorem ite_f {p : Prop} [Decidable p] {α : Type} {a b : α} (h : ¬ p) : (if p then a else b) = b := if_neg h
theorem bind_of {α β : Type} {x : Option α} {a : α} {f : α → Option β} {r : Option β} (h : x = some a) (h2 : f a = r) : x.bind f = r := by rw [h]; exact h2
theorem getD_mid {α : Type} (pre : List α) (x : α) (suf : List α) (z : α) : (pre ++ x :: suf).getD ((pre.length : Int)).toNat z = x := by
  simp
theorem rd_mid (pre : List Int) (x : Int) (suf : List Int) : rd (pre ++ x :: suf) (pre.length : Int) = x := by
  simp [rd]
theorem set_mid {α : Type} (pre : List α) (x y : α) (suf : List α) : (pre ++ x :: suf).set ((pre.length : Int)).toNat y = pre ++ y :: suf := by
  simp
theorem mid_lt {α : Type} (pre : List α) (x : α) (suf : List α) : (pre.length : Int) < ((pre ++ x :: suf).length : Int) := by
  simp; omega
theorem mid_lt' {α : Type} (pre : List α) (x : α) (suf : List α) (n : Nat) (h : pre.length = n) : (n : Int) < ((pre ++ x :: suf).length : Int) := by
  simp; omega
theorem nil_nlt {α : Type} (pre : List α) : ¬ ((pre.length : Int) < ((pre ++ []).length : Int)) := by simp
theorem len_nn (n : Nat) : (0 : Int) ≤ (n : Int) := by omega
theorem snoc_eq {α : Type} (pre : List α) (x : α) (suf : List α) : pre ++ x :: suf = (pre ++ [x]) ++ suf := by simp
theorem snoc_len {α : Type} (pre : List α) (x : α) : ((pre.length + 1 : Nat) : Int) = ((pre ++ [x]).length : Int) := by simp
def inR (n a b : Int) : Bool := decide (a ≤ n ∧ n ≤ b)
theorem inR_true {n a b : Int} : inR n a b = true ↔ a ≤ n ∧ n ≤ b := by simp [inR]
theorem inR_false {n a b : Int} : inR n a b = false ↔ ¬ (a ≤ n ∧ n ≤ b) := by simp [inR]
def Big (k : Nat) : Prop := 9900000 ≤ k
theorem big_out {k : Nat} (h : Big k) : 9900000 ≤ k := h
theorem big_succ {k : Nat} (h : Big k) : Big (k + 1) := by unfold Big at *; omega
theorem big_some : ∃ K : Nat, Big K := ⟨9900000, Nat.le_refl _⟩
theorem big_pred {k : Nat} (h : Big k) (n : Nat) (hn : n ≤ 1048577) : n < k := by unfold Big at h; omega
def Ok {α : Type} (l : List α) : Prop := l.length ≤ 1048576
theorem ok_out {α : Type} {l : List α} (h : Ok l) : l.length ≤ 1048576 := h
theorem ok_map {α β : Type} {f : α → β} {l : List α} (h : Ok l) : Ok (l.map f) := by unfold Ok at *; simpa using h
theorem ok_filter {α : Type} {f : α → Bool} {l : List α} (h : Ok l) : Ok (l.filter f) := by unfold Ok at *; exact Nat.le_trans (List.length_filter_le _ _) h
theorem ok_small {α : Type} {l : List α} (n : Nat) (h : l.length ≤ n) (hn : n ≤ 1048576) : Ok l := by unfold Ok; omega

def Lv (n k : Nat) : Prop := n * 1100000 ≤ k
theorem lv_out {n k : Nat} (h : Lv n k) : n * 1100000 ≤ k := h
theorem lv {n k : Nat} (h : Big k) (hn : n ≤ 9 := by decide) : Lv n k := by unfold Big at h; unfold Lv; omega
theorem lv_succ {n k : Nat} (h : Lv n k) : Lv n (k + 1) := by unfold Lv at *; omega
theorem lv_pred {n k : Nat} (h : Lv (n + 1) k) (m : Nat) (hm : m ≤ 1048580) : m < k := by unfold Lv at h; omega
theorem lv_mono {n m k : Nat} (h : Lv n k) (hm : m ≤ n := by decide) : Lv m k := Nat.le_trans (Nat.mul_le_mul_right _ hm) h
theorem spec_l1In_e (n a b : Int) : spec_l1In.f n a b = some (inR n a b) := by
  unfold spec_l1In.f inR
  by_cases h : n ≥ a
  · rw [if_pos h]; simp [show a ≤ n from h]
  · rw [if_neg h]; simp [show ¬ a ≤ n from h]
def isLabelV (x : Int) : Bool := inR x 0 1022 && x % 2 == 0
def own1 (x o : Int) : List Int := if x / 2 ^ o.toNat % 2 = 1 then [o] else []
def ownersV (x : Int) : List Int := if isLabelV x = true then own1 x 1 ++ (own1 x 2 ++ (own1 x 3 ++ (own1 x 4 ++ (own1 x 5 ++ (own1 x 6 ++ (own1 x 7 ++ (own1 x 8 ++ own1 x 9))))))) else []
theorem own1_len (x o : Int) : (own1 x o).length ≤ 1 := by unfold own1; split <;> simp
theorem ownersV_len (x : Int) : (ownersV x).length ≤ 9 := by
  unfold ownersV
  split
  · simp only [List.length_append]
    have h1 := own1_len x 1
    have h2 := own1_len x 2
    have h3 := own1_len x 3
    have h4 := own1_len x 4
    have h5 := own1_len x 5
    have h6 := own1_len x 6
    have h7 := own1_len x 7
    have h8 := own1_len x 8
    have h9 := own1_len x 9
    omega
  · simp
theorem ownersV_ok (x : Int) : Ok (ownersV x) := ok_small 9 (ownersV_len x) (by omega)
theorem isLabelV_bd {x : Int} (h : isLabelV x = true) : 0 ≤ x ∧ x ≤ 1022 ∧ x % 2 = 0 := by
  unfold isLabelV at h
  rw [Bool.and_eq_true, inR_true, beq_iff_eq] at h
  exact ⟨h.1.1, h.1.2, h.2⟩
theorem spec_IsLabel_e (x : Int) : spec_IsLabel.f x = some (isLabelV x) := by
  unfold spec_IsLabel.f isLabelV
  rw [spec_l1In_e, Option.bind_some]
  cases h : inR x 0 1022 with
  | false => simp
  | true => rw [if_pos rfl, Int.tmod_eq_emod_of_nonneg (inR_true.1 h).1]; simp
theorem spec_l19Bit_l : ∀ (n k : Nat) (o v i : Int), o - i = n → 0 ≤ i → n < k → 0 ≤ v → v * 2 ^ n ≤ 4611686018427387904 → o ≤ 100 → spec_l19Bit.l0 k o v i = some (v * 2 ^ n) := by
  intro n
  induction n with
  | zero =>
    intro k o v i h h0 hk hv hb ho
    obtain ⟨k, rfl⟩ := succ_of hk
    rw [spec_l19Bit.l0, if_neg (by omega)]
    simp
  | succ n ih =>
    intro k o v i h h0 hk hv hb ho
    obtain ⟨k, rfl⟩ := succ_of hk
    have e : v * 2 ^ (n + 1) = (2 * v) * 2 ^ n := by rw [Int.pow_succ]; rw [Int.mul_comm 2 v, Int.mul_assoc, Int.mul_comm 2]
    have hp : (1 : Int) ≤ 2 ^ n := Int.pow_pos (by omega)
    have h2 : 2 * v ≤ (2 * v) * 2 ^ n := by
      have := Int.mul_le_mul_of_nonneg_left hp (show 0 ≤ 2 * v by omega)
      omega
    rw [e] at hb ⊢
    rw [spec_l19Bit.l0, if_pos (by omega), wrap_id (n := 2 * v) (by omega), wrap_id (by omega)]
    exact ih k o (2 * v) (i + 1) (by omega) (by omega) (by omega) (by omega) hb ho
theorem spec_l19Bit_e {k : Nat} (o : Int) (hk : 20 ≤ k) (h1 : 1 ≤ o) (h9 : o ≤ 9) : spec_l19Bit.f k o = some (2 ^ o.toNat) := by
  unfold spec_l19Bit.f
  have hb : (1 : Int) * 2 ^ o.toNat ≤ 4611686018427387904 := by
    have : o = 1 ∨ o = 2 ∨ o = 3 ∨ o = 4 ∨ o = 5 ∨ o = 6 ∨ o = 7 ∨ o = 8 ∨ o = 9 := by omega
    rcases this with rfl | rfl | rfl | rfl | rfl | rfl | rfl | rfl | rfl <;> decide
  rw [spec_l19Bit_l o.toNat k o 1 0 (by omega) (by omega) (by omega) (by omega) hb (by omega), Int.one_mul]
theorem pow_pos9 (o : Int) (h1 : 1 ≤ o) (h9 : o ≤ 9) : (0 : Int) < 2 ^ o.toNat := Int.pow_pos (by omega)
theorem spec_OwnersIn_step (x : Int) (h : isLabelV x = true) (k : Nat) (out : List Int) (o : Int) (h1 : 1 ≤ o) (h9 : o ≤ 9) (hk : 20 ≤ k) (ho : out.length ≤ 9) :
    spec_OwnersIn.l0 (k + 2) x out o = spec_OwnersIn.l0 k x (out ++ own1 x o) (o + 1) := by
  have hb := isLabelV_bd h
  have hp := pow_pos9 o h1 h9
  have hd : Int.tdiv x (2 ^ o.toNat) = x / 2 ^ o.toNat := Int.tdiv_eq_ediv_of_nonneg hb.1
  have hq : 0 ≤ x / 2 ^ o.toNat ∧ x / 2 ^ o.toNat ≤ x := ⟨Int.ediv_nonneg hb.1 (by omega), Int.ediv_le_self _ hb.1⟩
  rw [spec_OwnersIn.l0, if_pos h9, spec_IsLabel_e, Option.bind_some, h, spec_OwnersIn.j1, if_pos rfl, spec_l19Bit_e o hk h1 h9, Option.bind_some, if_neg (by omega), hd, wrap_id (n := x / 2 ^ o.toNat) (by omega), Int.tmod_eq_emod_of_nonneg hq.1, wrap_id (by omega)]
  unfold own1
  by_cases hbit : x / 2 ^ o.toNat % 2 = 1
  · rw [if_pos hbit, if_pos hbit, if_pos (by omega)]
  · rw [if_neg hbit, if_neg hbit, List.append_nil]
theorem spec_OwnersIn_e {k : Nat} (x : Int) (hk : Lv 1 k) : spec_OwnersIn.f k x = some (ownersV x) := by
  have hk' := lv_out hk
  obtain ⟨k, rfl⟩ : ∃ q, k = q + 20 := ⟨k - 20, by omega⟩
  unfold spec_OwnersIn.f ownersV
  cases h : isLabelV x with
  | false =>
    rw [spec_OwnersIn.l0, if_pos (by omega), spec_IsLabel_e, Option.bind_some, h, spec_OwnersIn.j1, if_neg (by simp), if_neg (by simp)]
  | true =>
    have g1 := own1_len x 1
    have g2 := own1_len x 2
    have g3 := own1_len x 3
    have g4 := own1_len x 4
    have g5 := own1_len x 5
    have g6 := own1_len x 6
    have g7 := own1_len x 7
    have g8 := own1_len x 8
    rw [spec_OwnersIn_step x h _ _ _ (by omega) (by omega) (by omega) (by simp), spec_OwnersIn_step x h _ _ _ (by omega) (by omega) (by omega) (by simp only [List.length_append, List.length_nil, Int.reduceAdd]; omega), spec_OwnersIn_step x h _ _ _ (by omega) (by omega) (by omega) (by simp only [List.length_append, List.length_nil, Int.reduceAdd]; omega),
      spec_OwnersIn_step x h _ _ _ (by omega) (by omega) (by omega) (by simp only [List.length_append, List.length_nil, Int.reduceAdd]; omega), spec_OwnersIn_step x h _ _ _ (by omega) (by omega) (by omega) (by simp only [List.length_append, List.length_nil, Int.reduceAdd]; omega), spec_OwnersIn_step x h _ _ _ (by omega) (by omega) (by omega) (by simp only [List.length_append, List.length_nil, Int.reduceAdd]; omega),
      spec_OwnersIn_step x h _ _ _ (by omega) (by omega) (by omega) (by simp only [List.length_append, List.length_nil, Int.reduceAdd]; omega), spec_OwnersIn_step x h _ _ _ (by omega) (by omega) (by omega) (by simp only [List.length_append, List.length_nil, Int.reduceAdd]; omega), spec_OwnersIn_step x h _ _ _ (by omega) (by omega) (by omega) (by simp only [List.length_append, List.length_nil, Int.reduceAdd]; omega), spec_OwnersIn.l0, if_neg (by omega), spec_OwnersIn.j1, if_neg (by simp), if_pos rfl]
    simp only [List.nil_append, List.append_assoc, Int.reduceAdd]
def isFlow (a b c : Int) : Bool := inR a 1 5 && (inR b 1 9 && inR c 1 9)
theorem spec_IsFlow_e (a b c : Int) : spec_IsFlow.f a b c = some (isFlow a b c) := by
  unfold spec_IsFlow.f isFlow
  simp only [spec_l1In_e, Option.bind_some]
  cases inR a 1 5 <;> cases inR b 1 9 <;> simp
def hasFlow (l : List S119) (a b c : Int) : Bool := l.any fun x => x.f0 == a && (x.f1 == b && x.f2 == c)
theorem rd119_mid (pre : List S119) (x : S119) (suf : List S119) : rd_T119 (pre ++ x :: suf) (pre.length : Int) = x := getD_mid pre x suf z119
theorem spec_l20Has_l (a b c : Int) (suf : List S119) : ∀ (pre : List S119) (k : Nat) , (pre ++ suf).length ≤ 1048576 → suf.length < k →
    spec_l20Has.l0 k (pre ++ suf) (pre.length : Int) a b c = some (hasFlow suf a b c) := by
  induction suf with
  | nil =>
    intro pre k  hb hk
    obtain ⟨k, rfl⟩ := succ_of hk
    rw [spec_l20Has.l0, if_neg (nil_nlt pre)]
    simp [hasFlow]
  | cons x suf ih =>
    intro pre k  hb hk
    obtain ⟨k, rfl⟩ := succ_of hk
    have hp : pre.length + suf.length < 1048576 := by simp at hb; omega
    have hk1 : suf.length < k := by simpa using hk
    have hb1 : (pre ++ [x] ++ suf).length ≤ 1048576 := by simpa using hb
    have ih1 := ih (pre ++ [x]) k
    rw [spec_l20Has.l0, if_pos (mid_lt _ _ _), if_pos (len_nn _)]
    try simp only [rd119_mid, Option.bind_some]
    rw [wrap_nat (by omega), snoc_len pre x, snoc_eq pre x suf]
    rw [ih1 hb1 hk1, show hasFlow (x :: suf) a b c = (x.f0 == a && (x.f1 == b && x.f2 == c) || hasFlow suf a b c) from rfl]
    cases (x.f0 == a && (x.f1 == b && x.f2 == c)) <;> simp
theorem spec_l20Has_e {k : Nat} {l : List S119} {a b c : Int} (hk : Lv 1 k) (hl : Ok l) : spec_l20Has.f k l a b c = some (hasFlow l a b c) := by
  have hl' := ok_out hl
  unfold spec_l20Has.f
  simpa using spec_l20Has_l a b c l [] k (by simpa using hl') (lv_pred hk _ (by omega))
def mayAll (l : List S119) (e tt : Int) : List Int → Bool
  | [] => true
  | o :: os => (o == tt || (isFlow e o tt && hasFlow l e o tt)) && mayAll l e tt os
def mayV (l : List S119) (e x tt : Int) : Bool := isLabelV x && (inR tt 1 9 && mayAll l e tt (ownersV x))
theorem spec_MayFlow_l (l : List S119) (hl : Ok l) (e x tt : Int) (suf : List Int) : ∀ (pre : List Int) (k : Nat) , (pre ++ suf).length ≤ 1048576 → suf.length + 1100000 < k →
    spec_MayFlow.l0 k l e x tt (pre ++ suf) (pre.length : Int) = some (mayAll l e tt suf && (isLabelV x && inR tt 1 9)) := by
  induction suf with
  | nil =>
    intro pre k  hb hk
    obtain ⟨k, rfl⟩ := succ_of hk
    rw [spec_MayFlow.l0, if_neg (nil_nlt pre)]
    rw [spec_IsLabel_e, Option.bind_some, spec_l1In_e, Option.bind_some, mayAll]; cases isLabelV x <;> simp
  | cons y suf ih =>
    intro pre k  hb hk
    obtain ⟨k, rfl⟩ := succ_of hk
    have hp : pre.length + suf.length < 1048576 := by simp at hb; omega
    have hk1 : suf.length + 1100000 < k := by simp only [List.length_cons] at hk; omega
    have hb1 : (pre ++ [y] ++ suf).length ≤ 1048576 := by simpa using hb
    have ih1 := ih (pre ++ [y]) k
    rw [spec_MayFlow.l0, if_pos (mid_lt _ _ _), if_pos (len_nn _)]
    try simp only [rd_mid, Option.bind_some]
    rw [wrap_nat (by omega), snoc_len pre y, snoc_eq pre y suf]
    rw [spec_IsFlow_e, ih1 hb1 hk1, mayAll]
    by_cases h : y = tt
    · simp [h]
    · rw [if_neg h, Option.bind_some, spec_l20Has_e (show Lv 1 k by unfold Lv; omega) hl, Option.bind_some]
      cases isFlow e y tt <;> cases hasFlow l e y tt <;> simp [h]
theorem spec_MayFlow_e {k : Nat} {l : List S119} (e x tt : Int) (hk : Lv 2 k) (hl : Ok l) : spec_MayFlow.f k l e x tt = some (mayV l e x tt) := by
  have hk' := lv_out hk
  unfold spec_MayFlow.f mayV
  rw [spec_OwnersIn_e x (lv_mono hk), Option.bind_some]
  have h := spec_MayFlow_l l hl e x tt (ownersV x) [] k (by have := ownersV_len x; simp only [List.nil_append]; omega) (by have := ownersV_len x; omega)
  simp only [List.nil_append, List.length_nil] at h
  rw [show ((0 : Nat) : Int) = 0 from rfl] at h
  rw [h]
  cases isLabelV x <;> cases inR tt 1 9 <;> simp
def tgt1 (l : List S119) (e x o : Int) : List Int := if mayV l e x o = true then [o] else []
def targetsV (l : List S119) (e x : Int) : List Int := tgt1 l e x 1 ++ (tgt1 l e x 2 ++ (tgt1 l e x 3 ++ (tgt1 l e x 4 ++ (tgt1 l e x 5 ++ (tgt1 l e x 6 ++ (tgt1 l e x 7 ++ (tgt1 l e x 8 ++ tgt1 l e x 9)))))))
theorem tgt1_len (l : List S119) (e x o : Int) : (tgt1 l e x o).length ≤ 1 := by unfold tgt1; split <;> simp
theorem targetsV_len (l : List S119) (e x : Int) : (targetsV l e x).length ≤ 9 := by
  unfold targetsV
  simp only [List.length_append]
  have h1 := tgt1_len l e x 1
  have h2 := tgt1_len l e x 2
  have h3 := tgt1_len l e x 3
  have h4 := tgt1_len l e x 4
  have h5 := tgt1_len l e x 5
  have h6 := tgt1_len l e x 6
  have h7 := tgt1_len l e x 7
  have h8 := tgt1_len l e x 8
  have h9 := tgt1_len l e x 9
  omega
theorem spec_TargetsOf_step {l : List S119} (hl : Ok l) (e x : Int) (k : Nat) (out : List Int) (o : Int) (h1 : 1 ≤ o) (h9 : o ≤ 9) (hk : Lv 2 k) (ho : out.length ≤ 9) :
    spec_TargetsOf.l0 (k + 1) l e x out o = spec_TargetsOf.l0 k l e x (out ++ tgt1 l e x o) (o + 1) := by
  rw [spec_TargetsOf.l0, if_pos h9, spec_MayFlow_e e x o hk hl, Option.bind_some, wrap_id (by omega)]
  unfold tgt1
  cases mayV l e x o with
  | false => simp
  | true => rw [if_pos rfl, if_pos rfl, if_pos (by omega)]
theorem spec_TargetsOf_e {k : Nat} {l : List S119} (e x : Int) (hk : Lv 3 k) (hl : Ok l) : spec_TargetsOf.f k l e x = some (targetsV l e x) := by
  have hk' := lv_out hk
  obtain ⟨k, rfl⟩ : ∃ q, k = q + 10 := ⟨k - 10, by omega⟩
  unfold spec_TargetsOf.f targetsV
  have g1 := tgt1_len l e x 1
  have g2 := tgt1_len l e x 2
  have g3 := tgt1_len l e x 3
  have g4 := tgt1_len l e x 4
  have g5 := tgt1_len l e x 5
  have g6 := tgt1_len l e x 6
  have g7 := tgt1_len l e x 7
  have g8 := tgt1_len l e x 8
  rw [spec_TargetsOf_step hl e x _ _ _ (by omega) (by omega) (show Lv 2 _ by unfold Lv; omega) (by simp only [List.length_append, List.length_nil, Int.reduceAdd]; omega), spec_TargetsOf_step hl e x _ _ _ (by omega) (by omega) (show Lv 2 _ by unfold Lv; omega) (by simp only [List.length_append, List.length_nil, Int.reduceAdd]; omega), spec_TargetsOf_step hl e x _ _ _ (by omega) (by omega) (show Lv 2 _ by unfold Lv; omega) (by simp only [List.length_append, List.length_nil, Int.reduceAdd]; omega), spec_TargetsOf_step hl e x _ _ _ (by omega) (by omega) (show Lv 2 _ by unfold Lv; omega) (by simp only [List.length_append, List.length_nil, Int.reduceAdd]; omega), spec_TargetsOf_step hl e x _ _ _ (by omega) (by omega) (show Lv 2 _ by unfold Lv; omega) (by simp only [List.length_append, List.length_nil, Int.reduceAdd]; omega), spec_TargetsOf_step hl e x _ _ _ (by omega) (by omega) (show Lv 2 _ by unfold Lv; omega) (by simp only [List.length_append, List.length_nil, Int.reduceAdd]; omega), spec_TargetsOf_step hl e x _ _ _ (by omega) (by omega) (show Lv 2 _ by unfold Lv; omega) (by simp only [List.length_append, List.length_nil, Int.reduceAdd]; omega), spec_TargetsOf_step hl e x _ _ _ (by omega) (by omega) (show Lv 2 _ by unfold Lv; omega) (by simp only [List.length_append, List.length_nil, Int.reduceAdd]; omega), spec_TargetsOf_step hl e x _ _ _ (by omega) (by omega) (show Lv 2 _ by unfold Lv; omega) (by simp only [List.length_append, List.length_nil, Int.reduceAdd]; omega), spec_TargetsOf.l0, if_neg (by omega)]
  simp only [List.nil_append, List.append_assoc, Int.reduceAdd]
theorem impl_InRange_e (n a b : Int) : impl_InRange.f n a b = some (inR n a b) := by
  unfold impl_InRange.f inR
  by_cases h : a ≤ n
  · rw [if_pos h]; simp [h]
  · rw [if_neg h]; simp [h]
theorem impl_IsLabel_e (x : Int) : impl_IsLabel.f x = some (isLabelV x) := by
  unfold impl_IsLabel.f isLabelV
  rw [impl_InRange_e, Option.bind_some]
  cases h : inR x 0 1022 with
  | false => simp
  | true => rw [if_pos rfl, Int.tmod_eq_emod_of_nonneg (inR_true.1 h).1]; simp
theorem wraps_i64s (n : Int) (h0 : 0 ≤ n) (h1 : n < 2 ^ 40) : IntKind.i64.wrap n = n := by
  rw [IntKind.wrap_i64]
  have : n < 1099511627776 := by simpa using h1
  omega
theorem and_one {y : Int} (h0 : 0 ≤ y) (h1 : y < 1099511627776) : Go.bits .and .i64 y 1 = y % 2 := bits_mask .i64 40 (by decide) wraps_i64s 1 (by decide) y h0 (by simpa using h1)
theorem shr_nat {x o : Int} (ho : o ≤ 64) : shr .i64 x o = x / 2 ^ o.toNat := by
  unfold shr
  rw [Nat.min_eq_left]
  have : IntKind.i64.bits = 64 := rfl
  omega
theorem impl_OwnersIn_step (x : Int) (h : isLabelV x = true) (k : Nat) (out : List Int) (o : Int) (h1 : 1 ≤ o) (h9 : o ≤ 9) (ho : out.length ≤ 9) :
    impl_OwnersIn.l0 (k + 1) x out o = impl_OwnersIn.l0 k x (out ++ own1 x o) (o + 1) := by
  have hb := isLabelV_bd h
  have hp : (0 : Int) < 2 ^ o.toNat := Int.pow_pos (by omega)
  have hq : 0 ≤ x / 2 ^ o.toNat ∧ x / 2 ^ o.toNat ≤ x := ⟨Int.ediv_nonneg hb.1 (by omega), Int.ediv_le_self _ hb.1⟩
  rw [impl_OwnersIn.l0, if_pos h9, if_pos (by omega), shr_nat (by omega), and_one hq.1 (by omega), wrap_id (by omega)]
  unfold own1
  by_cases hbit : x / 2 ^ o.toNat % 2 = 1
  · rw [if_pos hbit, if_pos hbit, if_pos (by omega)]
  · rw [if_neg hbit, if_neg hbit, List.append_nil]
theorem impl_OwnersIn_e {k : Nat} (x : Int) (hk : Lv 1 k) : impl_OwnersIn.f k x = some (ownersV x) := by
  have hk' := lv_out hk
  obtain ⟨k, rfl⟩ : ∃ q, k = q + 10 := ⟨k - 10, by omega⟩
  unfold impl_OwnersIn.f ownersV
  rw [Option.bind_some, impl_IsLabel_e, Option.bind_some]
  cases h : isLabelV x with
  | false => rw [if_neg (by simp), if_neg (by simp)]
  | true =>
    have g1 := own1_len x 1
    have g2 := own1_len x 2
    have g3 := own1_len x 3
    have g4 := own1_len x 4
    have g5 := own1_len x 5
    have g6 := own1_len x 6
    have g7 := own1_len x 7
    have g8 := own1_len x 8
    rw [if_pos rfl, impl_OwnersIn_step x h _ _ _ (by omega) (by omega) (by simp), impl_OwnersIn_step x h _ _ _ (by omega) (by omega) (by simp only [List.length_append, List.length_nil, Int.reduceAdd]; omega), impl_OwnersIn_step x h _ _ _ (by omega) (by omega) (by simp only [List.length_append, List.length_nil, Int.reduceAdd]; omega),
      impl_OwnersIn_step x h _ _ _ (by omega) (by omega) (by simp only [List.length_append, List.length_nil, Int.reduceAdd]; omega), impl_OwnersIn_step x h _ _ _ (by omega) (by omega) (by simp only [List.length_append, List.length_nil, Int.reduceAdd]; omega), impl_OwnersIn_step x h _ _ _ (by omega) (by omega) (by simp only [List.length_append, List.length_nil, Int.reduceAdd]; omega),
      impl_OwnersIn_step x h _ _ _ (by omega) (by omega) (by simp only [List.length_append, List.length_nil, Int.reduceAdd]; omega), impl_OwnersIn_step x h _ _ _ (by omega) (by omega) (by simp only [List.length_append, List.length_nil, Int.reduceAdd]; omega), impl_OwnersIn_step x h _ _ _ (by omega) (by omega) (by simp only [List.length_append, List.length_nil, Int.reduceAdd]; omega), impl_OwnersIn.l0, if_neg (by omega), if_pos rfl]
    simp only [List.nil_append, List.append_assoc, Int.reduceAdd]
theorem impl_IsFlow_e (a b c : Int) : impl_IsFlow.f a b c = some (isFlow a b c) := by
  unfold impl_IsFlow.f isFlow
  simp only [impl_InRange_e, Option.bind_some]
  cases inR a 1 5 <;> cases inR b 1 9 <;> simp
def idxF {α : Type} (p : α → Bool) : Nat → List α → Int
  | _, [] => -1
  | n, x :: xs => if p x = true then (n : Int) else idxF p (n + 1) xs
theorem idxF_any {α : Type} (p : α → Bool) : ∀ (l : List α) (n : Nat), decide (idxF p n l ≥ 0) = l.any p
  | [], n => by simp [idxF]
  | x :: xs, n => by
    rw [idxF, List.any_cons]
    cases hx : p x with
    | true => simp
    | false => simp [idxF_any p xs (n + 1)]
theorem slIdx_Flow_l (a b c : Int) (suf : List S119) : ∀ (pre : List S119) (k : Nat) , (pre ++ suf).length ≤ 1048576 → suf.length < k →
    impl_Flow_136.l0 k (pre ++ suf) ((pre ++ suf).length : Int) (pre.length : Int) a b c = some (idxF (fun x => a == x.f0 && (b == x.f1 && c == x.f2)) pre.length suf) := by
  induction suf with
  | nil =>
    intro pre k  hb hk
    obtain ⟨k, rfl⟩ := succ_of hk
    rw [impl_Flow_136.l0, if_neg (nil_nlt pre)]
    rfl
  | cons x suf ih =>
    intro pre k  hb hk
    obtain ⟨k, rfl⟩ := succ_of hk
    have hp : pre.length + suf.length < 1048576 := by simp at hb; omega
    have hk1 : suf.length < k := by simpa using hk
    have hb1 : (pre ++ [x] ++ suf).length ≤ 1048576 := by simpa using hb
    have ih1 := ih (pre ++ [x]) k
    rw [impl_Flow_136.l0, if_pos (mid_lt _ _ _), if_pos (len_nn _), if_pos (mid_lt _ _ _)]
    try simp only [rd119_mid, Option.bind_some]
    rw [wrap_nat (by omega), snoc_len pre x, snoc_eq pre x suf]
    rw [ih1 hb1 hk1, idxF]
    cases (a == x.f0 && (b == x.f1 && c == x.f2)) <;> simp
theorem slHas_Flow_e {k : Nat} {l : List S119} {a b c : Int} (hk : Lv 1 k) (hl : Ok l) : impl_Flow_93.f k l a b c = some (hasFlow l a b c) := by
  have hl' := ok_out hl
  unfold impl_Flow_93.f impl_Flow_136.f hasFlow
  have h := slIdx_Flow_l a b c l [] k (by simpa using hl') (lv_pred hk _ (by omega))
  simp only [List.nil_append, List.length_nil] at h
  rw [show ((0 : Nat) : Int) = 0 from rfl] at h
  rw [h, Option.bind_some, idxF_any]
  congr 1
  congr 1
  funext x
  rw [Bool.beq_comm (a := a), Bool.beq_comm (a := b), Bool.beq_comm (a := c)]
theorem impl_MayFlow_l (l : List S119) (hl : Ok l) (e tt : Int) (suf : List Int) : ∀ (pre : List Int) (k : Nat) , (pre ++ suf).length ≤ 1048576 → suf.length + 1100000 < k →
    impl_MayFlow.l0 k l e tt (pre ++ suf) ((pre ++ suf).length : Int) (pre.length : Int) = some (mayAll l e tt suf) := by
  induction suf with
  | nil =>
    intro pre k  hb hk
    obtain ⟨k, rfl⟩ := succ_of hk
    rw [impl_MayFlow.l0, if_neg (nil_nlt pre)]
    rfl
  | cons x suf ih =>
    intro pre k  hb hk
    obtain ⟨k, rfl⟩ := succ_of hk
    have hp : pre.length + suf.length < 1048576 := by simp at hb; omega
    have hk1 : suf.length + 1100000 < k := by simp only [List.length_cons] at hk; omega
    have hb1 : (pre ++ [x] ++ suf).length ≤ 1048576 := by simpa using hb
    have ih1 := ih (pre ++ [x]) k
    rw [impl_MayFlow.l0, if_pos (mid_lt _ _ _), if_pos (len_nn _), if_pos (mid_lt _ _ _)]
    try simp only [rd_mid, Option.bind_some]
    rw [wrap_nat (by omega), snoc_len pre x, snoc_eq pre x suf]
    rw [impl_IsFlow_e, ih1 hb1 hk1, mayAll]
    by_cases h : x = tt
    · simp [h]
    · rw [if_neg h, Option.bind_some, slHas_Flow_e (show Lv 1 k by unfold Lv; omega) hl, Option.bind_some]
      cases isFlow e x tt <;> cases hasFlow l e x tt <;> simp [h]
theorem impl_MayFlow_e {k : Nat} {l : List S119} (e x tt : Int) (hk : Lv 2 k) (hl : Ok l) : impl_MayFlow.f k l e x tt = some (mayV l e x tt) := by
  have hk' := lv_out hk
  obtain ⟨k, rfl⟩ : ∃ q, k = q + 1 := ⟨k - 1, by omega⟩
  unfold impl_MayFlow.f mayV
  simp only [impl_IsLabel_e, impl_InRange_e, Option.bind_some, impl_MayFlow.j0, impl_OwnersIn_e x (show Lv 1 k by unfold Lv; omega)]
  have h := impl_MayFlow_l l hl e tt (ownersV x) [] k (by have := ownersV_len x; simp only [List.nil_append]; omega) (by have := ownersV_len x; omega)
  simp only [List.nil_append, List.length_nil] at h
  rw [show ((0 : Nat) : Int) = 0 from rfl] at h
  rw [h]
  cases isLabelV x <;> cases inR tt 1 9 <;> simp
theorem impl_TargetsOf_step {l : List S119} (hl : Ok l) (e x : Int) (k : Nat) (out : List Int) (o : Int) (h1 : 1 ≤ o) (h9 : o ≤ 9) (hk : Lv 2 k) (ho : out.length ≤ 9) :
    impl_TargetsOf.l0 (k + 1) l e x out o = impl_TargetsOf.l0 k l e x (out ++ tgt1 l e x o) (o + 1) := by
  rw [impl_TargetsOf.l0, if_pos h9, impl_MayFlow_e e x o hk hl, Option.bind_some, wrap_id (by omega)]
  unfold tgt1
  cases mayV l e x o with
  | false => simp
  | true => rw [if_pos rfl, if_pos rfl, if_pos (by omega)]
theorem impl_TargetsOf_e {k : Nat} {l : List S119} (e x : Int) (hk : Lv 3 k) (hl : Ok l) : impl_TargetsOf.f k l e x = some (targetsV l e x) := by
  have hk' := lv_out hk
  obtain ⟨k, rfl⟩ : ∃ q, k = q + 10 := ⟨k - 10, by omega⟩
  unfold impl_TargetsOf.f targetsV
  have g1 := tgt1_len l e x 1
  have g2 := tgt1_len l e x 2
  have g3 := tgt1_len l e x 3
  have g4 := tgt1_len l e x 4
  have g5 := tgt1_len l e x 5
  have g6 := tgt1_len l e x 6
  have g7 := tgt1_len l e x 7
  have g8 := tgt1_len l e x 8
  rw [impl_TargetsOf_step hl e x _ _ _ (by omega) (by omega) (show Lv 2 _ by unfold Lv; omega) (by simp only [List.length_append, List.length_nil, Int.reduceAdd]; omega), impl_TargetsOf_step hl e x _ _ _ (by omega) (by omega) (show Lv 2 _ by unfold Lv; omega) (by simp only [List.length_append, List.length_nil, Int.reduceAdd]; omega), impl_TargetsOf_step hl e x _ _ _ (by omega) (by omega) (show Lv 2 _ by unfold Lv; omega) (by simp only [List.length_append, List.length_nil, Int.reduceAdd]; omega), impl_TargetsOf_step hl e x _ _ _ (by omega) (by omega) (show Lv 2 _ by unfold Lv; omega) (by simp only [List.length_append, List.length_nil, Int.reduceAdd]; omega), impl_TargetsOf_step hl e x _ _ _ (by omega) (by omega) (show Lv 2 _ by unfold Lv; omega) (by simp only [List.length_append, List.length_nil, Int.reduceAdd]; omega), impl_TargetsOf_step hl e x _ _ _ (by omega) (by omega) (show Lv 2 _ by unfold Lv; omega) (by simp only [List.length_append, List.length_nil, Int.reduceAdd]; omega), impl_TargetsOf_step hl e x _ _ _ (by omega) (by omega) (show Lv 2 _ by unfold Lv; omega) (by simp only [List.length_append, List.length_nil, Int.reduceAdd]; omega), impl_TargetsOf_step hl e x _ _ _ (by omega) (by omega) (show Lv 2 _ by unfold Lv; omega) (by simp only [List.length_append, List.length_nil, Int.reduceAdd]; omega), impl_TargetsOf_step hl e x _ _ _ (by omega) (by omega) (show Lv 2 _ by unfold Lv; omega) (by simp only [List.length_append, List.length_nil, Int.reduceAdd]; omega), impl_TargetsOf.l0, if_neg (by omega)]
  simp only [List.nil_append, List.append_assoc, Int.reduceAdd]
theorem laws_szFlowS_no {l : List S124} {a : Int} (h0 : 0 ≤ a) (h1 : a ≤ 1048576) (h : l.length ≤ maxLen) (hn : a < l.length) : laws_szFlowS.f l a = some (-1) := by
  unfold maxLen at h
  unfold laws_szFlowS.f
  rw [wrap_id (by omega), if_pos (by omega)]
theorem laws_szFlowS_yes {l : List S124} {a : Int} (h0 : 0 ≤ a) (h1 : a ≤ 1048576) (hn : l.length ≤ a) : laws_szFlowS.f l a = some (a - l.length) := by
  unfold laws_szFlowS.f
  rw [wrap_id (by omega), if_neg (by omega)]
theorem rd124_mid (pre : List S124) (x : S124) (suf : List S124) : rd_T124 (pre ++ x :: suf) (pre.length : Int) = x := getD_mid pre x suf z124
def cv_Flow (x : S124) : S119 := (⟨x.f0, x.f1, x.f2⟩ : S119)
theorem laws_toFlowS_l (suf : List S124) : ∀ (pre : List S124) (k : Nat), (pre ++ suf).length ≤ 1048576 → suf.length < k →
    laws_toFlowS.l0 k (pre ++ suf) (pre.map cv_Flow ++ List.replicate suf.length z119) (pre.length : Int) = some ((pre ++ suf).map cv_Flow) := by
  induction suf with
  | nil =>
    intro pre k hb hk
    obtain ⟨k, rfl⟩ := succ_of hk
    rw [laws_toFlowS.l0, if_neg (nil_nlt pre)]
    simp
  | cons x suf ih =>
    intro pre k hb hk
    obtain ⟨k, rfl⟩ := succ_of hk
    have hp : pre.length ≤ 1048576 := by simp at hb; omega
    have hm : (pre.length : Int) = ((pre.map cv_Flow).length : Int) := by simp
    have h := ih (pre ++ [x]) k (by simpa using hb) (by simpa using hk)
    rw [laws_toFlowS.l0, if_pos (mid_lt _ _ _), if_pos (len_nn _), rd124_mid]
    simp only [laws_toFlow.f, Option.bind_some]
    rw [if_pos (by simp; omega), List.length_cons, List.replicate_succ, hm, set_mid, wrap_nat (by simpa using Nat.le_trans hp (by omega)), snoc_eq pre x suf]
    rw [snoc_eq (pre.map cv_Flow)]
    simp only [List.map_append, List.map_cons, List.map_nil, List.length_append, List.length_map, List.length_cons, List.length_nil, Nat.zero_add] at h ⊢
    exact h
theorem laws_toFlowS_e {k : Nat} {l : List S124} (hk : Big k) (hl : Ok l) : laws_toFlowS.f k l = some (l.map cv_Flow) := by
  have hl' := ok_out hl
  unfold laws_toFlowS.f
  rw [if_pos (len_nn _), if_pos (by omega)]
  simpa using laws_toFlowS_l l [] k (by simpa using hl') (big_pred hk _ (by omega))
theorem laws_eqFlowS_l (suf : List S119) : ∀ (pre : List S119) (k : Nat), (pre ++ suf).length ≤ 1048576 → suf.length < k →
    laws_eqFlowS.l0 k (pre ++ suf) (pre ++ suf) (pre.length : Int) = some true := by
  induction suf with
  | nil =>
    intro pre k hb hk
    obtain ⟨k, rfl⟩ := succ_of hk
    rw [laws_eqFlowS.l0, if_neg (nil_nlt pre)]
  | cons x suf ih =>
    intro pre k hb hk
    obtain ⟨k, rfl⟩ := succ_of hk
    have hp : pre.length ≤ 1048576 := by simp at hb; omega
    have h := ih (pre ++ [x]) k (by simpa using hb) (by simpa using hk)
    rw [laws_eqFlowS.l0, if_pos (mid_lt _ _ _), if_pos (len_nn _), if_pos (mid_lt _ _ _), rd119_mid, wrap_nat (by omega), snoc_len pre x, snoc_eq pre x suf, h]
    simp [laws_eqFlow.f]
theorem laws_eqFlowS_e {k : Nat} {l : List S119} (hk : Big k) (hl : Ok l) : laws_eqFlowS.f k l l = some true := by
  have hl' := ok_out hl
  unfold laws_eqFlowS.f
  rw [if_pos rfl]
  simpa using laws_eqFlowS_l l [] k (by simpa using hl') (big_pred hk _ (by omega))
def mk_Flow : Int → List S119 → List S119
  | _, [] => []
  | m, _ :: xs => (⟨m, (m + 1), (m + 1 + 1)⟩ : S119) :: mk_Flow (m + 1 + 1 + 1) xs
theorem mk_Flow_len : ∀ (l : List S119) (m : Int), (mk_Flow m l).length = l.length
  | [], _ => rfl
  | _ :: l, m => by simp [mk_Flow, mk_Flow_len l]
theorem laws_markFlowS_l (suf : List S119) : ∀ (pre : List S119) (k : Nat) (m : Int), 0 ≤ m → m + 3 * (suf.length : Int) ≤ 1000000000000 → (pre ++ suf).length ≤ 1048576 → suf.length < k →
    laws_markFlowS.l0 k (pre ++ suf) m (pre.length : Int) = some (m + 3 * (suf.length : Int), pre ++ mk_Flow m suf) := by
  induction suf with
  | nil =>
    intro pre k m h0 h1 hb hk
    obtain ⟨k, rfl⟩ := succ_of hk
    rw [laws_markFlowS.l0, if_neg (nil_nlt pre)]
    simp [mk_Flow]
  | cons x suf ih =>
    intro pre k m h0 h1 hb hk
    obtain ⟨k, rfl⟩ := succ_of hk
    have hp : pre.length ≤ 1048576 := by simp at hb; omega
    have e1 : ((x :: suf).length : Int) = (suf.length : Int) + 1 := by simp
    rw [e1] at h1 ⊢
    have w0 : wrap64 (m + 1) = (m + 1) := wrap_id (by omega)
    have w1 : wrap64 ((m + 1) + 1) = (m + 1 + 1) := wrap_id (by omega)
    have w2 : wrap64 ((m + 1 + 1) + 1) = (m + 1 + 1 + 1) := wrap_id (by omega)
    have h := ih (pre ++ [(⟨m, (m + 1), (m + 1 + 1)⟩ : S119)]) k (m + 1 + 1 + 1) (by omega) (by omega) (by simpa using hb) (by simpa using hk)
    rw [laws_markFlowS.l0, if_pos (mid_lt _ _ _), if_pos (len_nn _)]
    simp only [set_mid, rd119_mid, Option.bind_some, w0, w1, w2]
    rw [wrap_nat (by omega), snoc_len pre (⟨m, (m + 1), (m + 1 + 1)⟩ : S119), snoc_eq pre (⟨m, (m + 1), (m + 1 + 1)⟩ : S119) suf]
    refine (h.trans ?_)
    have e2 : (m + 1 + 1 + 1) + 3 * (suf.length : Int) = m + 3 * ((suf.length : Int) + 1) := by omega
    rw [e2]
    simp [mk_Flow]
theorem laws_markFlowS_e {k : Nat} {l : List S119} {m : Int} (hk : Big k) (hl : Ok l) (h0 : 0 ≤ m) (h1 : m ≤ 100000000000) : laws_markFlowS.f k l m = some (m + 3 * (l.length : Int), mk_Flow m l) := by
  have hl' := ok_out hl
  unfold laws_markFlowS.f
  simpa using laws_markFlowS_l l [] k m h0 (by omega) (by simpa using hl') (big_pred hk _ (by omega))
def mk_Int : Int → List Int → List Int
  | _, [] => []
  | m, _ :: xs => m :: mk_Int (m + 1) xs
theorem laws_markIntS_l (suf : List Int) : ∀ (pre : List Int) (k : Nat) (m : Int), 0 ≤ m → m + 1 * (suf.length : Int) ≤ 1000000000000 → (pre ++ suf).length ≤ 1048576 → suf.length < k →
    laws_markIntS.l0 k (pre ++ suf) m (pre.length : Int) = some (m + 1 * (suf.length : Int), pre ++ mk_Int m suf) := by
  induction suf with
  | nil =>
    intro pre k m h0 h1 hb hk
    obtain ⟨k, rfl⟩ := succ_of hk
    rw [laws_markIntS.l0, if_neg (nil_nlt pre)]
    simp [mk_Int]
  | cons x suf ih =>
    intro pre k m h0 h1 hb hk
    obtain ⟨k, rfl⟩ := succ_of hk
    have hp : pre.length + suf.length < 1048576 := by simp at hb; omega
    have e1 : ((x :: suf).length : Int) = (suf.length : Int) + 1 := by simp
    rw [e1] at h1 ⊢
    have h := ih (pre ++ [m]) k (m + 1) (by omega) (by omega) (by simpa using hb) (by simpa using hk)
    rw [laws_markIntS.l0, if_pos (mid_lt _ _ _), if_pos (len_nn _), set_mid, wrap_nat (by omega), wrap_id (by omega), snoc_len pre m, snoc_eq pre m suf]
    refine h.trans ?_
    have e2 : m + 1 + 1 * (suf.length : Int) = m + 1 * ((suf.length : Int) + 1) := by omega
    rw [e2]
    simp [mk_Int]
theorem laws_markIntS_e {k : Nat} {l : List Int} {m : Int} (hk : Big k) (hl : Ok l) (h0 : 0 ≤ m) (h1 : m ≤ 100000000000) : laws_markIntS.f k l m = some (m + 1 * (l.length : Int), mk_Int m l) := by
  have hl' := ok_out hl
  unfold laws_markIntS.f
  exact laws_markIntS_l l [] k m h0 (by omega) (by simpa using hl') (big_pred hk _ (by omega))
theorem laws_heldIntS_l (suf : List Int) : ∀ (pre : List Int) (k : Nat) (m : Int), 0 ≤ m → m + 1 * (suf.length : Int) ≤ 1000000000000 → (pre ++ suf).length ≤ 1048576 → suf.length < k →
    laws_heldIntS.l0 k (pre ++ mk_Int m suf) m (pre.length : Int) = some (m + 1 * (suf.length : Int)) := by
  induction suf with
  | nil =>
    intro pre k m h0 h1 hb hk
    obtain ⟨k, rfl⟩ := succ_of hk
    rw [laws_heldIntS.l0, mk_Int, if_neg (nil_nlt pre)]
    simp
  | cons x suf ih =>
    intro pre k m h0 h1 hb hk
    obtain ⟨k, rfl⟩ := succ_of hk
    have hp : pre.length + suf.length < 1048576 := by simp at hb; omega
    have e1 : ((x :: suf).length : Int) = (suf.length : Int) + 1 := by simp
    rw [e1] at h1 ⊢
    have h := ih (pre ++ [m]) k (m + 1) (by omega) (by omega) (by simpa using hb) (by simpa using hk)
    rw [laws_heldIntS.l0, mk_Int, if_pos (mid_lt _ _ _), if_pos (len_nn _), rd_mid, if_pos rfl, wrap_nat (by omega), wrap_id (by omega), snoc_len pre m, snoc_eq pre m (mk_Int (m + 1) suf)]
    refine h.trans ?_
    have e2 : m + 1 + 1 * (suf.length : Int) = m + 1 * ((suf.length : Int) + 1) := by omega
    rw [e2]
theorem laws_heldIntS_e {k : Nat} {l : List Int} {m : Int} (hk : Big k) (hl : Ok l) (h0 : 0 ≤ m) (h1 : m ≤ 100000000000) : laws_heldIntS.f k (mk_Int m l) m = some (m + 1 * (l.length : Int)) := by
  have hl' := ok_out hl
  unfold laws_heldIntS.f
  exact laws_heldIntS_l l [] k m h0 (by omega) (by simpa using hl') (big_pred hk _ (by omega))
theorem laws_eqIntS_l (suf : List Int) : ∀ (pre : List Int) (k : Nat), (pre ++ suf).length ≤ 1048576 → suf.length < k →
    laws_eqIntS.l0 k (pre ++ suf) (pre ++ suf) (pre.length : Int) = some true := by
  induction suf with
  | nil =>
    intro pre k hb hk
    obtain ⟨k, rfl⟩ := succ_of hk
    rw [laws_eqIntS.l0, if_neg (nil_nlt pre)]
  | cons x suf ih =>
    intro pre k hb hk
    obtain ⟨k, rfl⟩ := succ_of hk
    have hp : pre.length + suf.length < 1048576 := by simp at hb; omega
    have h := ih (pre ++ [x]) k (by simpa using hb) (by simpa using hk)
    rw [laws_eqIntS.l0, if_pos (mid_lt _ _ _), if_pos (len_nn _), if_pos (mid_lt _ _ _), if_pos rfl, wrap_nat (by omega), snoc_len pre x, snoc_eq pre x suf, h]
theorem laws_eqIntS_e {k : Nat} {l : List Int} (hk : Big k) (hl : Ok l) : laws_eqIntS.f k l l = some true := by
  have hl' := ok_out hl
  unfold laws_eqIntS.f
  rw [if_pos rfl]
  simpa using laws_eqIntS_l l [] k (by simpa using hl') (big_pred hk _ (by omega))

theorem FnExactTargetsOf : ∀ (l0 : List (S124)) (a1 : Int) (a2 : Int), l0.length ≤ maxLen → (∀ x ∈ l0, (Lit.int .i64 x.f0).wf = true ∧ (Lit.int .i64 x.f1).wf = true ∧ (Lit.int .i64 x.f2).wf = true) → (Lit.int .i64 a1).wf = true → (Lit.int .i64 a2).wf = true → ∃ k, laws_FnExactTargetsOf.f k l0 a1 a2 = some true := by
  intro l0 a1 a2 hm0 _ _ _
  by_cases hn0 : (1048576 : Int) < l0.length
  · refine ⟨0, ?_⟩
    unfold laws_FnExactTargetsOf.f
    rw [laws_szFlowS_no (by omega) (by omega) hm0 hn0]
    rfl
  obtain ⟨k, hk⟩ := big_some
  have hk0 := big_succ hk
  have hl0 : Ok l0 := by unfold Ok; omega
  have hR : Ok (targetsV (l0.map cv_Flow) a1 a2) := ok_small 9 (targetsV_len _ _ _) (by omega)
  have hT0 := laws_toFlowS_e hk0 hl0
  have hE0 := laws_eqFlowS_e hk0 (ok_map (f := cv_Flow) hl0)
  have hM0 := laws_markFlowS_e (m := 1) hk0 (ok_map (f := cv_Flow) hl0) (by omega) (by omega)
  have hP := spec_TargetsOf_e a1 a2 (lv hk0) (ok_map (f := cv_Flow) hl0)
  have hI := impl_TargetsOf_e a1 a2 (lv hk0) (ok_map (f := cv_Flow) hl0)
  have hMR := laws_markIntS_e (m := 1) hk0 hR (by omega) (by omega)
  have hHR := laws_heldIntS_e (m := 1) hk0 hR (by omega) (by omega)
  have hER := laws_eqIntS_e hk0 hR
  have hT0' := laws_toFlowS_e hk hl0
  have hE0' := laws_eqFlowS_e hk (ok_map (f := cv_Flow) hl0)
  have hM0' := laws_markFlowS_e (m := 1) hk (ok_map (f := cv_Flow) hl0) (by omega) (by omega)
  have hP' := spec_TargetsOf_e a1 a2 (lv hk) (ok_map (f := cv_Flow) hl0)
  have hI' := impl_TargetsOf_e a1 a2 (lv hk) (ok_map (f := cv_Flow) hl0)
  have hMR' := laws_markIntS_e (m := 1) hk hR (by omega) (by omega)
  have hHR' := laws_heldIntS_e (m := 1) hk hR (by omega) (by omega)
  have hER' := laws_eqIntS_e hk hR
  have hN_Flow : ∀ n : Nat, ¬ ((1 : Int) + 3 * (n : Int) < 0) := fun n => by omega
  have hN_Int : ∀ n : Nat, ¬ ((1 : Int) + 1 * (n : Int) < 0) := fun n => by omega
  refine ⟨k + 1, ?_⟩
  unfold laws_FnExactTargetsOf.f
  rw [laws_szFlowS_yes (by omega) (by omega) (by omega), Option.bind_some, if_neg (by omega)]
  simp only [laws_FnExactTargetsOf.j0, hT0, hE0, hM0, hP, hI, hMR, hHR, hER, hT0', hE0', hM0', hP', hI', hMR', hHR', hER', Option.bind_some, if_true, bne_self_eq_false, Bool.false_eq_true, if_false, Bool.not_true, Bool.not_false, hN_Flow, hN_Int]
end Go.Proofs.Ytdpmigainnmegaa.Pure
