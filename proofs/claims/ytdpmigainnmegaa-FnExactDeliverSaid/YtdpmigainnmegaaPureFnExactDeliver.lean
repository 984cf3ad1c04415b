/- The law FnExactDeliver as a statement over numbers and lists, with its proof; no conditions but the ranges that the values' types and the slices' lengths have. -/
import Derived.Test.YtdpmigainnmegaaPFnExactDeliverx6
namespace Go.Proofs.Ytdpmigainnmegaa.Pure
open Go.RowKit Go.Proofs.Ytdpmigainnmegaa.PFnExactDeliver Go.Proofs.YtdpmigainnmegaaW.PrintWords Go.Proofs.YtdpmigainnmegaaW.PrintLast Go.Proofs.YtdpmigainnmegaaW.PrintMore
set_option linter.unusedVariables false
set_option linter.unusedSimpArgs false
/-! ### numbers, lists, rounds -/
theorem wf64 {n : Int} (h : (Lit.int .i64 n).wf = true) : -9223372036854775808 ≤ n ∧ n ≤ 9223372036854775807 := by
  simp [Lit.wf, IntKind.min, IntKind.max, IntKind.bits, IntKind.signed] at h
  omega
theorem wrap_id {n : Int} (h : -9223372036854775808 ≤ n ∧ n ≤ 9223372036854775807) : wrap64 n = n := by
  unfold wrap64
  omega
theorem wrap_nat {n : Nat} (h : n ≤ 1000000000000) : wrap64 ((n : Int) + 1) = ((n + 1 : Nat) : Int) := by
  unfold wrap64
  omega
theorem succ_of {m k : Nat} (h : m < k) : ∃ q, k = q + 1 := ⟨k - 1, by omega⟩
theorem ite_t {p : Prop} [Decidable p] {α : Type} {a b : α} (h : p) : (if p then a else b) = a := if_pos h
theorem ite_f {p : Prop} [Decidable p] {α : Type} {a b : α} (h : ¬ p) : (if p then a else b) = b := if_neg h
theorem bind_of {α β : Type} {x : Option α} {a : α} {f : α → Option β} {r : Option β} (h : x = some a) (h2 : f a = r) : x.bind f = r := by rw [h]; exact h2
theorem getD_mid {α : Type} (pre : List α) (x : α) (suf : List α) (z : α) : (pre ++ x :: suf).getD ((pre.length : Int)).toNat z = x := by
  simp
theorem rd_mid (pre : List Int) (x : Int) (suf : List Int) : rd (pre ++ x :: suf) (pre.length : Int) = x := by
  simp [rd]
theorem set_mid {α : Type} (pre : List α) (x y : α) (suf : List α) : (pre ++ x :: suf).set ((pre.length : Int)).toNat y = pre ++ y :: suf := by
  simp
theorem mid_lt {α : Type} (pre : List α) (x : α) (suf : List α) : (pre.length : Int) < ((pre ++ x :: suf).length : Int) := by
  simp; omega
theorem mid_lt' {α : Type} (pre : List α) (x : α) (suf : List α) (n : Nat) (h : pre.length = n) : (n : Int) < ((pre ++ x :: suf).length : Int) := by
  simp; omega
theorem nil_nlt {α : Type} (pre : List α) : ¬ ((pre.length : Int) < ((pre ++ []).length : Int)) := by simp
theorem len_nn (n : Nat) : (0 : Int) ≤ (n : Int) := by omega
theorem snoc_eq {α : Type} (pre : List α) (x : α) (suf : List α) : pre ++ x :: suf = (pre ++ [x]) ++ suf := by simp
theorem snoc_len {α : Type} (pre : List α) (x : α) : ((pre.length + 1 : Nat) : Int) = ((pre ++ [x]).length : Int) := by simp
def inR (n a b : Int) : Bool := decide (a ≤ n ∧ n ≤ b)
theorem inR_true {n a b : Int} : inR n a b = true ↔ a ≤ n ∧ n ≤ b := by simp [inR]
theorem inR_false {n a b : Int} : inR n a b = false ↔ ¬ (a ≤ n ∧ n ≤ b) := by simp [inR]
def Big (k : Nat) : Prop := 9900000 ≤ k
theorem big_out {k : Nat} (h : Big k) : 9900000 ≤ k := h
theorem big_succ {k : Nat} (h : Big k) : Big (k + 1) := by unfold Big at *; omega
theorem big_some : ∃ K : Nat, Big K := ⟨9900000, Nat.le_refl _⟩
theorem big_pred {k : Nat} (h : Big k) (n : Nat) (hn : n ≤ 1048577) : n < k := by unfold Big at h; omega
def Ok {α : Type} (l : List α) : Prop := l.length ≤ 1048576
theorem ok_out {α : Type} {l : List α} (h : Ok l) : l.length ≤ 1048576 := h
theorem ok_map {α β : Type} {f : α → β} {l : List α} (h : Ok l) : Ok (l.map f) := by unfold Ok at *; simpa using h
theorem ok_filter {α : Type} {f : α → Bool} {l : List α} (h : Ok l) : Ok (l.filter f) := by unfold Ok at *; exact Nat.le_trans (List.length_filter_le _ _) h
theorem ok_small {α : Type} {l : List α} (n : Nat) (h : l.length ≤ n) (hn : n ≤ 1048576) : Ok l := by unfold Ok; omega

def Lv (n k : Nat) : Prop := n * 1100000 ≤ k
theorem lv_out {n k : Nat} (h : Lv n k) : n * 1100000 ≤ k := h
theorem lv {n k : Nat} (h : Big k) (hn : n ≤ 9 := by decide) : Lv n k := by unfold Big at h; unfold Lv; omega
theorem lv_succ {n k : Nat} (h : Lv n k) : Lv n (k + 1) := by unfold Lv at *; omega
theorem lv_pred {n k : Nat} (h : Lv (n + 1) k) (m : Nat) (hm : m ≤ 1048580) : m < k := by unfold Lv at h; omega
theorem lv_mono {n m k : Nat} (h : Lv n k) (hm : m ≤ n := by decide) : Lv m k := Nat.le_trans (Nat.mul_le_mul_right _ hm) h
theorem spec_l1In_e (n a b : Int) : spec_l1In.f n a b = some (inR n a b) := by
  unfold spec_l1In.f inR
  by_cases h : n ≥ a
  · rw [if_pos h]; simp [show a ≤ n from h]
  · rw [if_neg h]; simp [show ¬ a ≤ n from h]
def foldV (acc v : Int) : Int := (acc * 1000003 + v % 2147483647 + 13) % 2147483647
def hashV (acc : Int) (l : List Int) : Int := l.foldl foldV acc
def keyedV (key : Int) (l : List Int) : Int := foldV (hashV (foldV 11 key) l) key
theorem foldV_bd (acc v : Int) : 0 ≤ foldV acc v ∧ foldV acc v < 2147483647 := by unfold foldV; omega
theorem hashV_bd : ∀ (l : List Int) (acc : Int), 0 ≤ acc ∧ acc < 2147483647 → 0 ≤ hashV acc l ∧ hashV acc l < 2147483647
  | [], _, h => h
  | v :: l, acc, _ => hashV_bd l (foldV acc v) (foldV_bd acc v)
theorem hashV_cons (acc v : Int) (l : List Int) : hashV acc (v :: l) = hashV (foldV acc v) l := rfl
theorem keyedV_bd (key : Int) (l : List Int) : 0 ≤ keyedV key l ∧ keyedV key l < 2147483647 := foldV_bd _ _
theorem tmod_pos {a : Int} (h : 0 ≤ a) (m : Int) : Int.tmod a m = a % m := Int.tmod_eq_emod_of_nonneg h
theorem tmod_neg {a : Int} (h : a < 0) (m : Int) : Int.tmod a m = -((-a) % m) := by
  have := Int.tmod_eq_emod_of_nonneg (a := -a) (b := m) (by omega)
  rw [Int.neg_tmod] at this
  omega
def isKey (k : Int) : Bool := inR k 1 2147483646
theorem spec_Mod_e (a : Int) : spec_Mod.f a 2147483647 = some (a % 2147483647) := by
  unfold spec_Mod.f
  rw [spec_l1In_e, Option.bind_some, inR_true.2 (by omega), if_pos rfl, if_neg (by omega)]
  by_cases h : 0 ≤ a
  · rw [tmod_pos h 2147483647, wrap_id (by omega), tmod_pos (by omega)]; congr 1; omega
  · rw [tmod_neg (a := a) (by omega), wrap_id (by omega), tmod_pos (by omega)]; congr 1; omega
theorem spec_Hash_l  (suf : List Int) : ∀ (pre : List Int) (k : Nat) (acc : Int), 0 ≤ acc ∧ acc < 2147483647 → (pre ++ suf).length ≤ 1048580 → suf.length < k →
    spec_Hash.l0 k (pre ++ suf) acc (pre.length : Int) = some (hashV acc suf) := by
  induction suf with
  | nil =>
    intro pre k acc H hb hk
    obtain ⟨k, rfl⟩ := succ_of hk
    rw [spec_Hash.l0, if_neg (nil_nlt pre)]
    rfl
  | cons x suf ih =>
    intro pre k acc H hb hk
    obtain ⟨k, rfl⟩ := succ_of hk
    have hp : pre.length + suf.length < 1048580 := by simp at hb; omega
    have hk1 : suf.length < k := by simpa using hk
    have hb1 : (pre ++ [x] ++ suf).length ≤ 1048580 := by simpa using hb
    have ih1 := ih (pre ++ [x]) k
    rw [spec_Hash.l0, if_pos (mid_lt _ _ _), if_pos (len_nn _)]
    try simp only [rd_mid, Option.bind_some]
    rw [wrap_nat (by omega), snoc_len pre x, snoc_eq pre x suf]
    rw [spec_Mod_e, Option.bind_some, wrap_id (n := acc * 1000003) (by omega), wrap_id (n := acc * 1000003 + x % 2147483647) (by omega), wrap_id (by omega), tmod_pos (by omega)]
    exact ih1 (foldV acc x) (foldV_bd _ _) hb1 hk1
theorem spec_Hash_e {k : Nat} {l : List Int} (hk : Lv 1 k) (hl : l.length ≤ 1048580) : spec_Hash.f k l = some (hashV 11 l) := by
  unfold spec_Hash.f
  simpa using spec_Hash_l l [] k 11 (by omega) (by simpa using hl) (by have := lv_out hk; omega)
theorem spec_KeyedHash_e {k : Nat} {l : List Int} (key : Int) (hk : Lv 1 k) (hl : Ok l) : spec_KeyedHash.f k key l = some (keyedV key l) := by
  have hl' := ok_out hl
  unfold spec_KeyedHash.f
  simp only [Option.bind_some]
  rw [if_pos (by simp; omega), if_pos (by simp; omega), spec_Hash_e hk (by simp; omega)]
  simp [keyedV, hashV]
theorem spec_IsValidKey_e (k : Int) : spec_IsValidKey.f k = some (isKey k) := by
  unfold spec_IsValidKey.f isKey
  rw [spec_l1In_e, Option.bind_some]
def sealV (key a b c : Int) : Int := if isKey key = true then keyedV key [a, b, c] else 0
def genuineV (key a b c s : Int) : Bool := isKey key && (inR a 0 5 && (inR b 0 5 && (inR c 0 999 && (s == sealV key a b c))))
theorem spec_SealLetter_e {k : Nat} (key a b c s : Int) (hk : Lv 1 k) : spec_SealLetter.f k key a b c s = some (a, b, c, sealV key a b c) := by
  unfold spec_SealLetter.f sealV
  rw [spec_IsValidKey_e, Option.bind_some, spec_KeyedHash_e key hk (ok_small 3 (by simp) (by omega))]
  cases isKey key <;> simp
theorem spec_IsGenuine_e {k : Nat} (key a b c s : Int) (hk : Lv 1 k) : spec_IsGenuine.f k key a b c s = some (genuineV key a b c s) := by
  unfold spec_IsGenuine.f genuineV
  simp only [spec_IsValidKey_e, spec_l1In_e, spec_SealLetter_e key a b c s hk, Option.bind_some]
  cases isKey key <;> cases inR a 0 5 <;> cases inR b 0 5 <;> cases inR c 0 999 <;> simp [beq_iff_eq, Bool.beq_eq_decide_eq, eq_comm]
def deliverV (key : Int) (l : List S63) (a b c s : Int) : List S63 := if genuineV key a b c s = true ∧ l.length < 20 then l ++ [⟨a, b, c, s⟩] else l
theorem deliverV_ok (key : Int) {l : List S63} (a b c s : Int) (h : Ok l) : Ok (deliverV key l a b c s) := by
  unfold deliverV
  split
  · rename_i h2
    exact ok_small 20 (by simp only [List.length_append, List.length_cons, List.length_nil]; omega) (by omega)
  · exact h
theorem spec_Deliver_e {k : Nat} {l : List S63} (key a b c s : Int) (hk : Lv 1 k) (hl : Ok l) : spec_Deliver.f k key l a b c s = some (deliverV key l a b c s) := by
  have hl' := ok_out hl
  unfold spec_Deliver.f deliverV
  simp only [Option.bind_some, List.length_nil, List.nil_append]
  rw [if_pos (show 0 + l.length < 4398046511104 by omega), spec_IsGenuine_e _ _ _ _ _ hk, Option.bind_some]
  cases genuineV key a b c s with
  | false => simp
  | true =>
    rw [if_pos rfl, if_pos (show l.length < 4398046511104 by omega)]
    by_cases h : l.length < 20
    · rw [if_pos (by omega), if_pos ⟨rfl, h⟩]
    · rw [if_neg (by omega), if_neg (by simp [h])]
theorem impl_InRange_e (n a b : Int) : impl_InRange.f n a b = some (inR n a b) := by
  unfold impl_InRange.f inR
  by_cases h : a ≤ n
  · rw [if_pos h]; simp [h]
  · rw [if_neg h]; simp [h]
theorem impl_Mod_e (a : Int) : impl_Mod.f a 2147483647 = some (a % 2147483647) := by
  unfold impl_Mod.f
  rw [impl_InRange_e, Option.bind_some, inR_true.2 (by omega), if_pos rfl, if_neg (by omega)]
  by_cases h : 0 ≤ a
  · rw [tmod_pos h 2147483647, if_neg (by omega)]
  · rw [tmod_neg (a := a) (by omega)]
    by_cases h2 : -((-a) % 2147483647) < 0
    · rw [if_pos h2, wrap_id (by omega)]; congr 1; omega
    · rw [if_neg h2]; congr 1; omega
theorem impl_fold_e (a v : Int) (h : 0 ≤ a ∧ a < 2147483647) : impl_fold.f a v = some (foldV a v) := by
  unfold impl_fold.f foldV
  rw [impl_Mod_e, Option.bind_some, wrap_id (n := a * 1000003) (by omega), wrap_id (n := a * 1000003 + v % 2147483647) (by omega), wrap_id (by omega), tmod_pos (by omega)]
theorem impl_KeyedHash_l (key : Int) (suf : List Int) : ∀ (pre : List Int) (k : Nat) (acc : Int), 0 ≤ acc ∧ acc < 2147483647 → (pre ++ suf).length ≤ 1048576 → suf.length < k →
    impl_KeyedHash.l0 k key acc (pre ++ suf) ((pre ++ suf).length : Int) (pre.length : Int) = some (foldV (hashV acc suf) key) := by
  induction suf with
  | nil =>
    intro pre k acc H hb hk
    obtain ⟨k, rfl⟩ := succ_of hk
    rw [impl_KeyedHash.l0, if_neg (nil_nlt pre)]
    rw [impl_fold_e _ _ H]; rfl
  | cons x suf ih =>
    intro pre k acc H hb hk
    obtain ⟨k, rfl⟩ := succ_of hk
    have hp : pre.length + suf.length < 1048576 := by simp at hb; omega
    have hk1 : suf.length < k := by simpa using hk
    have hb1 : (pre ++ [x] ++ suf).length ≤ 1048576 := by simpa using hb
    have ih1 := ih (pre ++ [x]) k
    rw [impl_KeyedHash.l0, if_pos (mid_lt _ _ _), if_pos (len_nn _), if_pos (mid_lt _ _ _)]
    try simp only [rd_mid, Option.bind_some]
    rw [wrap_nat (by omega), snoc_len pre x, snoc_eq pre x suf]
    rw [impl_fold_e _ _ H, Option.bind_some, ih1 (foldV acc x) (foldV_bd _ _) hb1 hk1]
    rfl
theorem impl_KeyedHash_e {k : Nat} {l : List Int} (key : Int) (hk : Lv 1 k) (hl : Ok l) : impl_KeyedHash.f k key l = some (keyedV key l) := by
  have hl' := ok_out hl
  unfold impl_KeyedHash.f keyedV
  rw [impl_fold_e _ _ (by omega), Option.bind_some]
  simpa using impl_KeyedHash_l key l [] k (foldV 11 key) (foldV_bd _ _) (by simpa using hl') (lv_pred hk _ (by omega))
theorem impl_IsValidKey_e (k : Int) : impl_IsValidKey.f k = some (isKey k) := by
  unfold impl_IsValidKey.f isKey
  rw [impl_InRange_e, Option.bind_some]
theorem impl_SealLetter_e {k : Nat} (key a b c s : Int) (hk : Lv 1 k) : impl_SealLetter.f k key a b c s = some (a, b, c, sealV key a b c) := by
  unfold impl_SealLetter.f sealV
  rw [impl_IsValidKey_e, Option.bind_some, impl_KeyedHash_e key hk (ok_small 3 (by simp) (by omega))]
  cases isKey key <;> simp
theorem impl_IsGenuine_e {k : Nat} (key a b c s : Int) (hk : Lv 1 k) : impl_IsGenuine.f k key a b c s = some (genuineV key a b c s) := by
  unfold impl_IsGenuine.f genuineV
  simp only [impl_IsValidKey_e, impl_InRange_e, impl_SealLetter_e key a b c s hk, Option.bind_some]
  cases isKey key <;> cases inR a 0 5 <;> cases inR b 0 5 <;> cases inR c 0 999 <;> simp [beq_iff_eq, Bool.beq_eq_decide_eq, eq_comm]
theorem slClone_Letter_e {l : List S63} (hl : Ok l) : impl_Letter.f l = some l := by
  have hl' := ok_out hl
  unfold impl_Letter.f
  rw [Option.bind_some, if_pos (by simp only [List.length_nil]; omega), List.nil_append]
theorem impl_Deliver_e {k : Nat} {l : List S63} (key a b c s : Int) (hk : Lv 1 k) (hl : Ok l) : impl_Deliver.f k key l a b c s = some (deliverV key l a b c s) := by
  have hl' := ok_out hl
  unfold impl_Deliver.f deliverV
  rw [slClone_Letter_e hl, Option.bind_some, impl_IsGenuine_e _ _ _ _ _ hk, Option.bind_some]
  cases genuineV key a b c s with
  | false => simp
  | true =>
    rw [if_pos rfl, if_pos (show l.length < 4398046511104 by omega)]
    by_cases h : l.length < 20
    · rw [if_neg (by omega), if_pos ⟨rfl, h⟩]
    · rw [if_pos (by omega), if_neg (by simp [h])]
theorem laws_szLetterS_no {l : List S70} {a : Int} (h0 : 0 ≤ a) (h1 : a ≤ 1048576) (h : l.length ≤ maxLen) (hn : a < l.length) : laws_szLetterS.f l a = some (-1) := by
  unfold maxLen at h
  unfold laws_szLetterS.f
  rw [wrap_id (by omega), if_pos (by omega)]
theorem laws_szLetterS_yes {l : List S70} {a : Int} (h0 : 0 ≤ a) (h1 : a ≤ 1048576) (hn : l.length ≤ a) : laws_szLetterS.f l a = some (a - l.length) := by
  unfold laws_szLetterS.f
  rw [wrap_id (by omega), if_neg (by omega)]
theorem rd70_mid (pre : List S70) (x : S70) (suf : List S70) : rd_T70 (pre ++ x :: suf) (pre.length : Int) = x := getD_mid pre x suf z70
def cv_Letter (x : S70) : S63 := (⟨x.f0, x.f1, x.f2, x.f3⟩ : S63)
theorem laws_toLetterS_l (suf : List S70) : ∀ (pre : List S70) (k : Nat), (pre ++ suf).length ≤ 1048576 → suf.length < k →
    laws_toLetterS.l0 k (pre ++ suf) (pre.map cv_Letter ++ List.replicate suf.length z63) (pre.length : Int) = some ((pre ++ suf).map cv_Letter) := by
  induction suf with
  | nil =>
    intro pre k hb hk
    obtain ⟨k, rfl⟩ := succ_of hk
    rw [laws_toLetterS.l0, if_neg (nil_nlt pre)]
    simp
  | cons x suf ih =>
    intro pre k hb hk
    obtain ⟨k, rfl⟩ := succ_of hk
    have hp : pre.length ≤ 1048576 := by simp at hb; omega
    have hm : (pre.length : Int) = ((pre.map cv_Letter).length : Int) := by simp
    have h := ih (pre ++ [x]) k (by simpa using hb) (by simpa using hk)
    rw [laws_toLetterS.l0, if_pos (mid_lt _ _ _), if_pos (len_nn _), rd70_mid]
    simp only [laws_toLetter.f, Option.bind_some]
    rw [if_pos (by simp; omega), List.length_cons, List.replicate_succ, hm, set_mid, wrap_nat (by simpa using Nat.le_trans hp (by omega)), snoc_eq pre x suf]
    rw [snoc_eq (pre.map cv_Letter)]
    simp only [List.map_append, List.map_cons, List.map_nil, List.length_append, List.length_map, List.length_cons, List.length_nil, Nat.zero_add] at h ⊢
    exact h
theorem laws_toLetterS_e {k : Nat} {l : List S70} (hk : Big k) (hl : Ok l) : laws_toLetterS.f k l = some (l.map cv_Letter) := by
  have hl' := ok_out hl
  unfold laws_toLetterS.f
  rw [if_pos (len_nn _), if_pos (by omega)]
  simpa using laws_toLetterS_l l [] k (by simpa using hl') (big_pred hk _ (by omega))
theorem rd63_mid (pre : List S63) (x : S63) (suf : List S63) : rd_T63 (pre ++ x :: suf) (pre.length : Int) = x := getD_mid pre x suf z63
theorem laws_eqLetterS_l (suf : List S63) : ∀ (pre : List S63) (k : Nat), (pre ++ suf).length ≤ 1048576 → suf.length < k →
    laws_eqLetterS.l0 k (pre ++ suf) (pre ++ suf) (pre.length : Int) = some true := by
  induction suf with
  | nil =>
    intro pre k hb hk
    obtain ⟨k, rfl⟩ := succ_of hk
    rw [laws_eqLetterS.l0, if_neg (nil_nlt pre)]
  | cons x suf ih =>
    intro pre k hb hk
    obtain ⟨k, rfl⟩ := succ_of hk
    have hp : pre.length ≤ 1048576 := by simp at hb; omega
    have h := ih (pre ++ [x]) k (by simpa using hb) (by simpa using hk)
    rw [laws_eqLetterS.l0, if_pos (mid_lt _ _ _), if_pos (len_nn _), if_pos (mid_lt _ _ _), rd63_mid, wrap_nat (by omega), snoc_len pre x, snoc_eq pre x suf, h]
    simp [laws_eqLetter.f]
theorem laws_eqLetterS_e {k : Nat} {l : List S63} (hk : Big k) (hl : Ok l) : laws_eqLetterS.f k l l = some true := by
  have hl' := ok_out hl
  unfold laws_eqLetterS.f
  rw [if_pos rfl]
  simpa using laws_eqLetterS_l l [] k (by simpa using hl') (big_pred hk _ (by omega))
def mk_Letter : Int → List S63 → List S63
  | _, [] => []
  | m, _ :: xs => (⟨m, (m + 1), (m + 1 + 1), (m + 1 + 1 + 1)⟩ : S63) :: mk_Letter (m + 1 + 1 + 1 + 1) xs
theorem mk_Letter_len : ∀ (l : List S63) (m : Int), (mk_Letter m l).length = l.length
  | [], _ => rfl
  | _ :: l, m => by simp [mk_Letter, mk_Letter_len l]
theorem laws_markLetterS_l (suf : List S63) : ∀ (pre : List S63) (k : Nat) (m : Int), 0 ≤ m → m + 4 * (suf.length : Int) ≤ 1000000000000 → (pre ++ suf).length ≤ 1048576 → suf.length < k →
    laws_markLetterS.l0 k (pre ++ suf) m (pre.length : Int) = some (m + 4 * (suf.length : Int), pre ++ mk_Letter m suf) := by
  induction suf with
  | nil =>
    intro pre k m h0 h1 hb hk
    obtain ⟨k, rfl⟩ := succ_of hk
    rw [laws_markLetterS.l0, if_neg (nil_nlt pre)]
    simp [mk_Letter]
  | cons x suf ih =>
    intro pre k m h0 h1 hb hk
    obtain ⟨k, rfl⟩ := succ_of hk
    have hp : pre.length ≤ 1048576 := by simp at hb; omega
    have e1 : ((x :: suf).length : Int) = (suf.length : Int) + 1 := by simp
    rw [e1] at h1 ⊢
    have w0 : wrap64 (m + 1) = (m + 1) := wrap_id (by omega)
    have w1 : wrap64 ((m + 1) + 1) = (m + 1 + 1) := wrap_id (by omega)
    have w2 : wrap64 ((m + 1 + 1) + 1) = (m + 1 + 1 + 1) := wrap_id (by omega)
    have w3 : wrap64 ((m + 1 + 1 + 1) + 1) = (m + 1 + 1 + 1 + 1) := wrap_id (by omega)
    have h := ih (pre ++ [(⟨m, (m + 1), (m + 1 + 1), (m + 1 + 1 + 1)⟩ : S63)]) k (m + 1 + 1 + 1 + 1) (by omega) (by omega) (by simpa using hb) (by simpa using hk)
    rw [laws_markLetterS.l0, if_pos (mid_lt _ _ _), if_pos (len_nn _)]
    simp only [set_mid, rd63_mid, Option.bind_some, w0, w1, w2, w3]
    rw [wrap_nat (by omega), snoc_len pre (⟨m, (m + 1), (m + 1 + 1), (m + 1 + 1 + 1)⟩ : S63), snoc_eq pre (⟨m, (m + 1), (m + 1 + 1), (m + 1 + 1 + 1)⟩ : S63) suf]
    refine (h.trans ?_)
    have e2 : (m + 1 + 1 + 1 + 1) + 4 * (suf.length : Int) = m + 4 * ((suf.length : Int) + 1) := by omega
    rw [e2]
    simp [mk_Letter]
theorem laws_markLetterS_e {k : Nat} {l : List S63} {m : Int} (hk : Big k) (hl : Ok l) (h0 : 0 ≤ m) (h1 : m ≤ 100000000000) : laws_markLetterS.f k l m = some (m + 4 * (l.length : Int), mk_Letter m l) := by
  have hl' := ok_out hl
  unfold laws_markLetterS.f
  simpa using laws_markLetterS_l l [] k m h0 (by omega) (by simpa using hl') (big_pred hk _ (by omega))
theorem laws_heldLetterS_l (suf : List S63) : ∀ (pre : List S63) (k : Nat) (m : Int), 0 ≤ m → m + 4 * (suf.length : Int) ≤ 1000000000000 → (pre ++ suf).length ≤ 1048576 → suf.length < k →
    laws_heldLetterS.l0 k (pre ++ mk_Letter m suf) m (pre.length : Int) = some (m + 4 * (suf.length : Int)) := by
  induction suf with
  | nil =>
    intro pre k m h0 h1 hb hk
    obtain ⟨k, rfl⟩ := succ_of hk
    rw [laws_heldLetterS.l0, mk_Letter, if_neg (nil_nlt pre)]
    simp
  | cons x suf ih =>
    intro pre k m h0 h1 hb hk
    obtain ⟨k, rfl⟩ := succ_of hk
    have hp : pre.length ≤ 1048576 := by simp at hb; omega
    have e1 : ((x :: suf).length : Int) = (suf.length : Int) + 1 := by simp
    rw [e1] at h1 ⊢
    have w0 : wrap64 (m + 1) = (m + 1) := wrap_id (by omega)
    have w1 : wrap64 ((m + 1) + 1) = (m + 1 + 1) := wrap_id (by omega)
    have w2 : wrap64 ((m + 1 + 1) + 1) = (m + 1 + 1 + 1) := wrap_id (by omega)
    have w3 : wrap64 ((m + 1 + 1 + 1) + 1) = (m + 1 + 1 + 1 + 1) := wrap_id (by omega)
    have h := ih (pre ++ [(⟨m, (m + 1), (m + 1 + 1), (m + 1 + 1 + 1)⟩ : S63)]) k (m + 1 + 1 + 1 + 1) (by omega) (by omega) (by simpa using hb) (by simpa using hk)
    rw [laws_heldLetterS.l0, mk_Letter, if_pos (mid_lt _ _ _), if_pos (len_nn _)]
    simp only [rd63_mid, Option.bind_some, w0, w1, w2, w3, if_true, bne_self_eq_false, Bool.false_eq_true, if_false]
    rw [wrap_nat (by omega), snoc_len pre (⟨m, (m + 1), (m + 1 + 1), (m + 1 + 1 + 1)⟩ : S63), snoc_eq pre (⟨m, (m + 1), (m + 1 + 1), (m + 1 + 1 + 1)⟩ : S63) (mk_Letter _ suf)]
    refine (h.trans ?_)
    have e2 : (m + 1 + 1 + 1 + 1) + 4 * (suf.length : Int) = m + 4 * ((suf.length : Int) + 1) := by omega
    rw [e2]
theorem laws_heldLetterS_e {k : Nat} {l : List S63} {m : Int} (hk : Big k) (hl : Ok l) (h0 : 0 ≤ m) (h1 : m ≤ 100000000000) : laws_heldLetterS.f k (mk_Letter m l) m = some (m + 4 * (l.length : Int)) := by
  have hl' := ok_out hl
  unfold laws_heldLetterS.f
  simpa using laws_heldLetterS_l l [] k m h0 (by omega) (by simpa using hl') (big_pred hk _ (by omega))

theorem FnExactDeliver : ∀ (a0 : Int) (l1 : List (S70)) (a2_0 : Int) (a2_1 : Int) (a2_2 : Int) (a2_3 : Int), (Lit.int .i64 a0).wf = true → l1.length ≤ maxLen → (∀ x ∈ l1, (Lit.int .i64 x.f0).wf = true ∧ (Lit.int .i64 x.f1).wf = true ∧ (Lit.int .i64 x.f2).wf = true ∧ (Lit.int .i64 x.f3).wf = true) → (Lit.int .i64 a2_0).wf = true → (Lit.int .i64 a2_1).wf = true → (Lit.int .i64 a2_2).wf = true → (Lit.int .i64 a2_3).wf = true → ∃ k, laws_FnExactDeliver.f k a0 l1 a2_0 a2_1 a2_2 a2_3 = some true := by
  intro a0 l1 a2_0 a2_1 a2_2 a2_3 _ hm1 _ _ _ _ _
  by_cases hn0 : (1048576 : Int) < l1.length
  · refine ⟨0, ?_⟩
    unfold laws_FnExactDeliver.f
    rw [laws_szLetterS_no (by omega) (by omega) hm1 hn0]
    rfl
  obtain ⟨k, hk⟩ := big_some
  have hk0 := big_succ hk
  have hl1 : Ok l1 := by unfold Ok; omega
  have hc1 : Ok (l1.map cv_Letter) := ok_map (f := cv_Letter) hl1
  have hcl1 := ok_out hc1
  have hT1 := laws_toLetterS_e hk0 hl1
  have hE1 := laws_eqLetterS_e hk0 hc1
  have hM1 := laws_markLetterS_e (m := 1) hk0 hc1 (by omega) (by omega)
  have hP := spec_Deliver_e a0 a2_0 a2_1 a2_2 a2_3 (lv hk0) hc1
  have hI := impl_Deliver_e a0 a2_0 a2_1 a2_2 a2_3 (lv hk0) hc1
  have hR0 : Ok (deliverV a0 (l1.map cv_Letter) a2_0 a2_1 a2_2 a2_3) := deliverV_ok _ _ _ _ _ hc1
  have hRl0 := ok_out hR0
  have hMR0 := laws_markLetterS_e (m := 1) hk0 hR0 (by omega) (by omega)
  have hHR0 := laws_heldLetterS_e (m := 1) hk0 hR0 (by omega) (by omega)
  have hER0 := laws_eqLetterS_e hk0 hR0
  have hT1' := laws_toLetterS_e hk hl1
  have hE1' := laws_eqLetterS_e hk hc1
  have hM1' := laws_markLetterS_e (m := 1) hk hc1 (by omega) (by omega)
  have hP' := spec_Deliver_e a0 a2_0 a2_1 a2_2 a2_3 (lv hk) hc1
  have hI' := impl_Deliver_e a0 a2_0 a2_1 a2_2 a2_3 (lv hk) hc1
  have hMR0' := laws_markLetterS_e (m := 1) hk hR0 (by omega) (by omega)
  have hHR0' := laws_heldLetterS_e (m := 1) hk hR0 (by omega) (by omega)
  have hER0' := laws_eqLetterS_e hk hR0
  have hNa1 : ¬ ((1 : Int) + 4 * ((l1.map cv_Letter).length : Int) < 0) := by omega
  have hNr0 : ¬ ((1 : Int) + 4 * ((deliverV a0 (l1.map cv_Letter) a2_0 a2_1 a2_2 a2_3).length : Int) < 0) := by omega
  refine ⟨k + 1, ?_⟩
  unfold laws_FnExactDeliver.f
  rw [laws_szLetterS_yes (by omega) (by omega) (by omega), Option.bind_some, if_neg (by omega)]
  simp only [laws_FnExactDeliver.j0, hT1, hE1, hM1, hP, hI, hMR0, hHR0, hER0, hT1', hE1', hM1', hP', hI', hMR0', hHR0', hER0', hNa1, hNr0, laws_toLetter.f, Option.bind_some, if_true, bne_self_eq_false, Bool.false_eq_true, if_false, Bool.not_true, Bool.not_false]
end Go.Proofs.Ytdpmigainnmegaa.Pure
