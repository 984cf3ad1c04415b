/- The law FnExactIsDeed as a statement over numbers and lists, with its proof; no conditions but the ranges that the values' types and the slices' lengths have. -/
import Derived.Test.YtlkjdlimahhmjaaPFnExactIsDeedx6
namespace Go.Proofs.Ytlkjdlimahhmjaa.Pure
open Go.RowKit Go.Proofs.Ytlkjdlimahhmjaa.PFnExactIsDeed Go.Proofs.YtlkjdlimahhmjaaW.PrintWords Go.Proofs.YtlkjdlimahhmjaaW.PrintLast Go.Proofs.YtlkjdlimahhmjaaW.PrintMore
set_option linter.unusedVariables false
set_option linter.unusedSimpArgs false
/-! ### numbers, lists, rounds -/
theorem wf64 {n : Int} (h : (Lit.int .i64 n).wf = true) : -9223372036854775808 ≤ n ∧ n ≤ 9223372036854775807 := by
  simp [Lit.wf, IntKind.min, IntKind.max, IntKind.bits, IntKind.signed] at h
  omega
theorem wrap_id {n : Int} (h : -9223372036854775808 ≤ n ∧ n ≤ 9223372036854775807) : wrap64 n = n := by
  unfold wrap64
  omega
theorem wrap_nat {n : Nat} (h : n ≤ 1000000000000) : wrap64 ((n : Int) + 1) = ((n + 1 : Nat) : Int) := by
  unfold wrap64
  omega
theorem succ_of {m k : Nat} (h : m < k) : ∃ q, k = q + 1 := ⟨k - 1, by omega⟩
theorem ite_t {p : Prop} [Decidable p] {α : Type} {a b : α} (h : p) : (if p then a else b) = a := if_pos h
theorem ite_f {p : Prop} [Decidable p] {α : Type} {a b : α} (h : ¬ p) : (if p then a else b) = b := if_neg h
theorem bind_of {α β : Type} {x : Option α} {a : α} {f : α → Option β} {r : Option β} (h : x = some a) (h2 : f a = r) : x.bind f = r := by rw [h]; exact h2
theorem getD_mid {α : Type} (pre : List α) (x : α) (suf : List α) (z : α) : (pre ++ x :: suf).getD ((pre.length : Int)).toNat z = x := by
  simp
theorem rd_mid (pre : List Int) (x : Int) (suf : List Int) : rd (pre ++ x :: suf) (pre.length : Int) = x := by
  simp [rd]
theorem set_mid {α : Type} (pre : List α) (x y : α) (suf : List α) : (pre ++ x :: suf).set ((pre.length : Int)).toNat y = pre ++ y :: suf := by
  simp
theorem mid_lt {α : Type} (pre : List α) (x : α) (suf : List α) : (pre.length : Int) < ((pre ++ x :: suf).length : Int) := by
  simp; omega
theorem mid_lt' {α : Type} (pre : List α) (x : α) (suf : List α) (n : Nat) (h : pre.length = n) : (n : Int) < ((pre ++ x :: suf).length : Int) := by
  simp; omega
theorem nil_nlt {α : Type} (pre : List α) : ¬ ((pre.length : Int) < ((pre ++ []).length : Int)) := by simp
theorem len_nn (n : Nat) : (0 : Int) ≤ (n : Int) := by omega
theorem snoc_eq {α : Type} (pre : List α) (x : α) (suf : List α) : pre ++ x :: suf = (pre ++ [x]) ++ suf := by simp
theorem snoc_len {α : Type} (pre : List α) (x : α) : ((pre.length + 1 : Nat) : Int) = ((pre ++ [x]).length : Int) := by simp
def inR (n a b : Int) : Bool := decide (a ≤ n ∧ n ≤ b)
theorem inR_true {n a b : Int} : inR n a b = true ↔ a ≤ n ∧ n ≤ b := by simp [inR]
theorem inR_false {n a b : Int} : inR n a b = false ↔ ¬ (a ≤ n ∧ n ≤ b) := by simp [inR]
def Big (k : Nat) : Prop := 9900000 ≤ k
theorem big_out {k : Nat} (h : Big k) : 9900000 ≤ k := h
theorem big_succ {k : Nat} (h : Big k) : Big (k + 1) := by unfold Big at *; omega
theorem big_some : ∃ K : Nat, Big K := ⟨9900000, Nat.le_refl _⟩
theorem big_pred {k : Nat} (h : Big k) (n : Nat) (hn : n ≤ 1048577) : n < k := by unfold Big at h; omega
def Ok {α : Type} (l : List α) : Prop := l.length ≤ 1048576
theorem ok_out {α : Type} {l : List α} (h : Ok l) : l.length ≤ 1048576 := h
theorem ok_map {α β : Type} {f : α → β} {l : List α} (h : Ok l) : Ok (l.map f) := by unfold Ok at *; simpa using h
theorem ok_filter {α : Type} {f : α → Bool} {l : List α} (h : Ok l) : Ok (l.filter f) := by unfold Ok at *; exact Nat.le_trans (List.length_filter_le _ _) h
theorem ok_small {α : Type} {l : List α} (n : Nat) (h : l.length ≤ n) (hn : n ≤ 1048576) : Ok l := by unfold Ok; omega

def Lv (n k : Nat) : Prop := n * 1100000 ≤ k
theorem lv_out {n k : Nat} (h : Lv n k) : n * 1100000 ≤ k := h
theorem lv {n k : Nat} (h : Big k) (hn : n ≤ 9 := by decide) : Lv n k := by unfold Big at h; unfold Lv; omega
theorem lv_succ {n k : Nat} (h : Lv n k) : Lv n (k + 1) := by unfold Lv at *; omega
theorem lv_pred {n k : Nat} (h : Lv (n + 1) k) (m : Nat) (hm : m ≤ 1048580) : m < k := by unfold Lv at h; omega
theorem lv_mono {n m k : Nat} (h : Lv n k) (hm : m ≤ n := by decide) : Lv m k := Nat.le_trans (Nat.mul_le_mul_right _ hm) h
theorem impl_InRange_e (n a b : Int) : impl_InRange.f n a b = some (inR n a b) := by
  unfold impl_InRange.f inR
  by_cases h : a ≤ n
  · rw [if_pos h]; simp [h]
  · rw [if_neg h]; simp [h]
def foldV (acc v : Int) : Int := (acc * 1000003 + v % 2147483647 + 13) % 2147483647
def hashV (acc : Int) (l : List Int) : Int := l.foldl foldV acc
def keyedV (key : Int) (l : List Int) : Int := foldV (hashV (foldV 11 key) l) key
theorem foldV_bd (acc v : Int) : 0 ≤ foldV acc v ∧ foldV acc v < 2147483647 := by unfold foldV; omega
theorem hashV_bd : ∀ (l : List Int) (acc : Int), 0 ≤ acc ∧ acc < 2147483647 → 0 ≤ hashV acc l ∧ hashV acc l < 2147483647
  | [], _, h => h
  | v :: l, acc, _ => hashV_bd l (foldV acc v) (foldV_bd acc v)
theorem hashV_cons (acc v : Int) (l : List Int) : hashV acc (v :: l) = hashV (foldV acc v) l := rfl
theorem keyedV_bd (key : Int) (l : List Int) : 0 ≤ keyedV key l ∧ keyedV key l < 2147483647 := foldV_bd _ _
theorem tmod_pos {a : Int} (h : 0 ≤ a) (m : Int) : Int.tmod a m = a % m := Int.tmod_eq_emod_of_nonneg h
theorem tmod_neg {a : Int} (h : a < 0) (m : Int) : Int.tmod a m = -((-a) % m) := by
  have := Int.tmod_eq_emod_of_nonneg (a := -a) (b := m) (by omega)
  rw [Int.neg_tmod] at this
  omega
def isKey (k : Int) : Bool := inR k 1 2147483646
theorem impl_Mod_e (a : Int) : impl_Mod.f a 2147483647 = some (a % 2147483647) := by
  unfold impl_Mod.f
  rw [impl_InRange_e, Option.bind_some, inR_true.2 (by omega), if_pos rfl, if_neg (by omega)]
  by_cases h : 0 ≤ a
  · rw [tmod_pos h 2147483647, if_neg (by omega)]
  · rw [tmod_neg (a := a) (by omega)]
    by_cases h2 : -((-a) % 2147483647) < 0
    · rw [if_pos h2, wrap_id (by omega)]; congr 1; omega
    · rw [if_neg h2]; congr 1; omega
theorem impl_fold_e (a v : Int) (h : 0 ≤ a ∧ a < 2147483647) : impl_fold.f a v = some (foldV a v) := by
  unfold impl_fold.f foldV
  rw [impl_Mod_e, Option.bind_some, wrap_id (n := a * 1000003) (by omega), wrap_id (n := a * 1000003 + v % 2147483647) (by omega), wrap_id (by omega), tmod_pos (by omega)]
theorem impl_KeyedHash_l (key : Int) (suf : List Int) : ∀ (pre : List Int) (k : Nat) (acc : Int), 0 ≤ acc ∧ acc < 2147483647 → (pre ++ suf).length ≤ 1048576 → suf.length < k →
    impl_KeyedHash.l0 k key acc (pre ++ suf) ((pre ++ suf).length : Int) (pre.length : Int) = some (foldV (hashV acc suf) key) := by
  induction suf with
  | nil =>
    intro pre k acc H hb hk
    obtain ⟨k, rfl⟩ := succ_of hk
    rw [impl_KeyedHash.l0, if_neg (nil_nlt pre)]
    rw [impl_fold_e _ _ H]; rfl
  | cons x suf ih =>
    intro pre k acc H hb hk
    obtain ⟨k, rfl⟩ := succ_of hk
    have hp : pre.length + suf.length < 1048576 := by simp at hb; omega
    have hk1 : suf.length < k := by simpa using hk
    have hb1 : (pre ++ [x] ++ suf).length ≤ 1048576 := by simpa using hb
    have ih1 := ih (pre ++ [x]) k
    rw [impl_KeyedHash.l0, if_pos (mid_lt _ _ _), if_pos (len_nn _), if_pos (mid_lt _ _ _)]
    try simp only [rd_mid, Option.bind_some]
    rw [wrap_nat (by omega), snoc_len pre x, snoc_eq pre x suf]
    rw [impl_fold_e _ _ H, Option.bind_some, ih1 (foldV acc x) (foldV_bd _ _) hb1 hk1]
    rfl
theorem impl_KeyedHash_e {k : Nat} {l : List Int} (key : Int) (hk : Lv 1 k) (hl : Ok l) : impl_KeyedHash.f k key l = some (keyedV key l) := by
  have hl' := ok_out hl
  unfold impl_KeyedHash.f keyedV
  rw [impl_fold_e _ _ (by omega), Option.bind_some]
  simpa using impl_KeyedHash_l key l [] k (foldV 11 key) (foldV_bd _ _) (by simpa using hl') (lv_pred hk _ (by omega))
theorem impl_IsValidKey_e (k : Int) : impl_IsValidKey.f k = some (isKey k) := by
  unfold impl_IsValidKey.f isKey
  rw [impl_InRange_e, Option.bind_some]
def deedSealV (key side a b c : Int) : Int := if isKey key = true then keyedV key [side, a, b, c] else 0
def isDeedV (a b c s t k1 k2 : Int) : Bool := inR a 1 5 && (inR b 1 9 && (inR c 1 9 && (!(b == c) && (isKey k1 && (isKey k2 && (s == deedSealV k1 1 a b c && t == deedSealV k2 2 a b c))))))
theorem impl_deedSeal_e {k : Nat} (key side a b c s t : Int) (hk : Lv 1 k) : impl_deedSeal.f k key side a b c s t = some (deedSealV key side a b c) := by
  unfold impl_deedSeal.f deedSealV
  rw [impl_IsValidKey_e, Option.bind_some, impl_KeyedHash_e key hk (ok_small 4 (by simp) (by omega))]
  cases isKey key <;> simp
theorem impl_SealDeed_e {k : Nat} (a b c s t k1 k2 : Int) (hk : Lv 1 k) : impl_SealDeed.f k a b c s t k1 k2 = some (a, b, c, deedSealV k1 1 a b c, deedSealV k2 2 a b c) := by
  unfold impl_SealDeed.f
  rw [impl_deedSeal_e _ _ _ _ _ _ _ hk, Option.bind_some, impl_deedSeal_e _ _ _ _ _ _ _ hk, Option.bind_some]
theorem impl_IsDeed_e {k : Nat} (a b c s t k1 k2 : Int) (hk : Lv 1 k) : impl_IsDeed.f k a b c s t k1 k2 = some (isDeedV a b c s t k1 k2) := by
  unfold impl_IsDeed.f isDeedV
  simp only [impl_IsValidKey_e, impl_InRange_e, impl_SealDeed_e a b c s t k1 k2 hk, Option.bind_some]
  cases isKey k1 <;> cases isKey k2 <;> cases inR a 1 5 <;> cases inR b 1 9 <;> cases inR c 1 9 <;> by_cases h : b = c <;> simp [h, Bool.beq_eq_decide_eq, eq_comm]
theorem spec_l1In_e (n a b : Int) : spec_l1In.f n a b = some (inR n a b) := by
  unfold spec_l1In.f inR
  by_cases h : n ≥ a
  · rw [if_pos h]; simp [show a ≤ n from h]
  · rw [if_neg h]; simp [show ¬ a ≤ n from h]
theorem spec_Mod_e (a : Int) : spec_Mod.f a 2147483647 = some (a % 2147483647) := by
  unfold spec_Mod.f
  rw [spec_l1In_e, Option.bind_some, inR_true.2 (by omega), if_pos rfl, if_neg (by omega)]
  by_cases h : 0 ≤ a
  · rw [tmod_pos h 2147483647, wrap_id (by omega), tmod_pos (by omega)]; congr 1; omega
  · rw [tmod_neg (a := a) (by omega), wrap_id (by omega), tmod_pos (by omega)]; congr 1; omega
theorem spec_Hash_l  (suf : List Int) : ∀ (pre : List Int) (k : Nat) (acc : Int), 0 ≤ acc ∧ acc < 2147483647 → (pre ++ suf).length ≤ 1048580 → suf.length < k →
    spec_Hash.l0 k (pre ++ suf) acc (pre.length : Int) = some (hashV acc suf) := by
  induction suf with
  | nil =>
    intro pre k acc H hb hk
    obtain ⟨k, rfl⟩ := succ_of hk
    rw [spec_Hash.l0, if_neg (nil_nlt pre)]
    rfl
  | cons x suf ih =>
    intro pre k acc H hb hk
    obtain ⟨k, rfl⟩ := succ_of hk
    have hp : pre.length + suf.length < 1048580 := by simp at hb; omega
    have hk1 : suf.length < k := by simpa using hk
    have hb1 : (pre ++ [x] ++ suf).length ≤ 1048580 := by simpa using hb
    have ih1 := ih (pre ++ [x]) k
    rw [spec_Hash.l0, if_pos (mid_lt _ _ _), if_pos (len_nn _)]
    try simp only [rd_mid, Option.bind_some]
    rw [wrap_nat (by omega), snoc_len pre x, snoc_eq pre x suf]
    rw [spec_Mod_e, Option.bind_some, wrap_id (n := acc * 1000003) (by omega), wrap_id (n := acc * 1000003 + x % 2147483647) (by omega), wrap_id (by omega), tmod_pos (by omega)]
    exact ih1 (foldV acc x) (foldV_bd _ _) hb1 hk1
theorem spec_Hash_e {k : Nat} {l : List Int} (hk : Lv 1 k) (hl : l.length ≤ 1048580) : spec_Hash.f k l = some (hashV 11 l) := by
  unfold spec_Hash.f
  simpa using spec_Hash_l l [] k 11 (by omega) (by simpa using hl) (by have := lv_out hk; omega)
theorem spec_KeyedHash_e {k : Nat} {l : List Int} (key : Int) (hk : Lv 1 k) (hl : Ok l) : spec_KeyedHash.f k key l = some (keyedV key l) := by
  have hl' := ok_out hl
  unfold spec_KeyedHash.f
  simp only [Option.bind_some]
  rw [if_pos (by simp; omega), if_pos (by simp; omega), spec_Hash_e hk (by simp; omega)]
  simp [keyedV, hashV]
theorem spec_IsValidKey_e (k : Int) : spec_IsValidKey.f k = some (isKey k) := by
  unfold spec_IsValidKey.f isKey
  rw [spec_l1In_e, Option.bind_some]
theorem spec_SealDeed_j {k : Nat} (k2 a b c s t : Int) (hk : Lv 1 k) : spec_SealDeed.j0 (k + 1) k2 a b c s t = some (a, b, c, s, if isKey k2 = true then keyedV k2 [2, a, b, c] else t) := by
  rw [spec_SealDeed.j0, spec_IsValidKey_e, Option.bind_some, spec_KeyedHash_e k2 hk (ok_small 4 (by simp) (by omega))]
  cases isKey k2 <;> simp
theorem spec_SealDeed_e {k : Nat} (a b c s t k1 k2 : Int) (hk : Lv 1 k) : spec_SealDeed.f (k + 1) a b c s t k1 k2 = some (a, b, c, deedSealV k1 1 a b c, deedSealV k2 2 a b c) := by
  unfold spec_SealDeed.f deedSealV
  rw [spec_IsValidKey_e, Option.bind_some, spec_KeyedHash_e k1 (lv_succ hk) (ok_small 4 (by simp) (by omega))]
  cases isKey k1 <;> simp [spec_SealDeed_j _ _ _ _ _ _ hk]
theorem spec_IsDeed_e {k : Nat} (a b c s t k1 k2 : Int) (hk : Lv 1 k) : spec_IsDeed.f (k + 1) a b c s t k1 k2 = some (isDeedV a b c s t k1 k2) := by
  unfold spec_IsDeed.f isDeedV
  simp only [spec_IsValidKey_e, spec_l1In_e, spec_SealDeed_e a b c s t k1 k2 hk, Option.bind_some]
  cases isKey k1 <;> cases isKey k2 <;> cases inR a 1 5 <;> cases inR b 1 9 <;> cases inR c 1 9 <;> by_cases h : b = c <;> simp [h, Bool.beq_eq_decide_eq, eq_comm]

theorem FnExactIsDeed : ∀ (a0_0 : Int) (a0_1 : Int) (a0_2 : Int) (a0_3 : Int) (a0_4 : Int) (a1 : Int) (a2 : Int), (Lit.int .i64 a0_0).wf = true → (Lit.int .i64 a0_1).wf = true → (Lit.int .i64 a0_2).wf = true → (Lit.int .i64 a0_3).wf = true → (Lit.int .i64 a0_4).wf = true → (Lit.int .i64 a1).wf = true → (Lit.int .i64 a2).wf = true → ∃ k, laws_FnExactIsDeed.f k a0_0 a0_1 a0_2 a0_3 a0_4 a1 a2 = some true := by
  intro a b c s t k1 k2 _ _ _ _ _ _ _
  obtain ⟨k, hk⟩ := big_some
  refine ⟨k + 1, ?_⟩
  unfold laws_FnExactIsDeed.f
  simp only [laws_toDeed.f, Option.bind_some, impl_IsDeed_e _ _ _ _ _ _ _ (lv_succ (lv hk)), spec_IsDeed_e _ _ _ _ _ _ _ (lv hk), bne_self_eq_false, Bool.false_eq_true, if_false]
end Go.Proofs.Ytlkjdlimahhmjaa.Pure
