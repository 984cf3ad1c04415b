/- The law FnLetters as a statement over numbers and lists, with its proof; no conditions but the ranges that the values' types and the slices' lengths have. -/
import Derived.Test.YtdpmigainnmegaaPFnLettersx6
namespace Go.Proofs.Ytdpmigainnmegaa.Pure
open Go.RowKit Go.Proofs.Ytdpmigainnmegaa.PFnLetters Go.Proofs.YtdpmigainnmegaaW.PrintWords Go.Proofs.YtdpmigainnmegaaW.PrintLast Go.Proofs.YtdpmigainnmegaaW.PrintMore
set_option linter.unusedVariables false
set_option linter.unusedSimpArgs false
/-! ### numbers, lists, rounds -/
theorem wf64 {n : Int} (h : (Lit.int .i64 n).wf = true) : -9223372036854775808 ≤ n ∧ n ≤ 9223372036854775807 := by
  simp [Lit.wf, IntKind.min, IntKind.max, IntKind.bits, IntKind.signed] at h
  omega
theorem wrap_id {n : Int} (h : -9223372036854775808 ≤ n ∧ n ≤ 9223372036854775807) : wrap64 n = n := by
  unfold wrap64
  omega
theorem wrap_nat {n : Nat} (h : n ≤ 1000000000000) : wrap64 ((n : Int) + 1) = ((n + 1 : Nat) : Int) := by
  unfold wrap64
  omega
theorem succ_of {m k : Nat} (h : m < k) : ∃ q, k = q + 1 := ⟨k - 1, by omega⟩
theorem ite_t {p : Prop} [Decidable p] {α : Type} {a b : α} (h : p) : (if p then a else b) = a := if_pos h
theorem ite_f {p : Prop} [Decidable p] {α : Type} {a b : α} (h : ¬ p) : (if p then a else b) = b := if_neg h
theorem bind_of {α β : Type} {x : Option α} {a : α} {f : α → Option β} {r : Option β} (h : x = some a) (h2 : f a = r) : x.bind f = r := by rw [h]; exact h2
theorem getD_mid {α : Type} (pre : List α) (x : α) (suf : List α) (z : α) : (pre ++ x :: suf).getD ((pre.length : Int)).toNat z = x := by
  simp
theorem rd_mid (pre : List Int) (x : Int) (suf : List Int) : rd (pre ++ x :: suf) (pre.length : Int) = x := by
  simp [rd]
theorem set_mid {α : Type} (pre : List α) (x y : α) (suf : List α) : (pre ++ x :: suf).set ((pre.length : Int)).toNat y = pre ++ y :: suf := by
  simp
theorem mid_lt {α : Type} (pre : List α) (x : α) (suf : List α) : (pre.length : Int) < ((pre ++ x :: suf).length : Int) := by
  simp; omega
theorem mid_lt' {α : Type} (pre : List α) (x : α) (suf : List α) (n : Nat) (h : pre.length = n) : (n : Int) < ((pre ++ x :: suf).length : Int) := by
  simp; omega
theorem nil_nlt {α : Type} (pre : List α) : ¬ ((pre.length : Int) < ((pre ++ []).length : Int)) := by simp
theorem len_nn (n : Nat) : (0 : Int) ≤ (n : Int) := by omega
theorem snoc_eq {α : Type} (pre : List α) (x : α) (suf : List α) : pre ++ x :: suf = (pre ++ [x]) ++ suf := by simp
theorem snoc_len {α : Type} (pre : List α) (x : α) : ((pre.length + 1 : Nat) : Int) = ((pre ++ [x]).length : Int) := by simp
def inR (n a b : Int) : Bool := decide (a ≤ n ∧ n ≤ b)
theorem inR_true {n a b : Int} : inR n a b = true ↔ a ≤ n ∧ n ≤ b := by simp [inR]
theorem inR_false {n a b : Int} : inR n a b = false ↔ ¬ (a ≤ n ∧ n ≤ b) := by simp [inR]
def Big (k : Nat) : Prop := 9900000 ≤ k
theorem big_out {k : Nat} (h : Big k) : 9900000 ≤ k := h
theorem big_succ {k : Nat} (h : Big k) : Big (k + 1) := by unfold Big at *; omega
theorem big_some : ∃ K : Nat, Big K := ⟨9900000, Nat.le_refl _⟩
theorem big_pred {k : Nat} (h : Big k) (n : Nat) (hn : n ≤ 1048577) : n < k := by unfold Big at h; omega
def Ok {α : Type} (l : List α) : Prop := l.length ≤ 1048576
theorem ok_out {α : Type} {l : List α} (h : Ok l) : l.length ≤ 1048576 := h
theorem ok_map {α β : Type} {f : α → β} {l : List α} (h : Ok l) : Ok (l.map f) := by unfold Ok at *; simpa using h
theorem ok_filter {α : Type} {f : α → Bool} {l : List α} (h : Ok l) : Ok (l.filter f) := by unfold Ok at *; exact Nat.le_trans (List.length_filter_le _ _) h
theorem ok_small {α : Type} {l : List α} (n : Nat) (h : l.length ≤ n) (hn : n ≤ 1048576) : Ok l := by unfold Ok; omega

def Lv (n k : Nat) : Prop := n * 1100000 ≤ k
theorem lv_out {n k : Nat} (h : Lv n k) : n * 1100000 ≤ k := h
theorem lv {n k : Nat} (h : Big k) (hn : n ≤ 9 := by decide) : Lv n k := by unfold Big at h; unfold Lv; omega
theorem lv_succ {n k : Nat} (h : Lv n k) : Lv n (k + 1) := by unfold Lv at *; omega
theorem lv_pred {n k : Nat} (h : Lv (n + 1) k) (m : Nat) (hm : m ≤ 1048580) : m < k := by unfold Lv at h; omega
theorem lv_mono {n m k : Nat} (h : Lv n k) (hm : m ≤ n := by decide) : Lv m k := Nat.le_trans (Nat.mul_le_mul_right _ hm) h
theorem i64_and255 (n : Int) : Go.bits .and .i64 n 255 = n % 256 := by
  have h127 : (BitVec.ofInt 64 255).toNat = 2 ^ 8 - 1 := by decide
  have key : (BitVec.ofInt 64 n &&& BitVec.ofInt 64 255).toNat = (n % ((2 ^ 64 : Nat) : Int)).toNat % 2 ^ 8 := by
    rw [BitVec.toNat_and, BitVec.toNat_ofInt, h127, Nat.and_two_pow_sub_one_eq_mod]
  show IntKind.i64.wrap ((BitVec.ofInt 64 n &&& BitVec.ofInt 64 255).toNat : Nat) = n % 256
  rw [key, IntKind.wrap_i64]
  omega
def Pos (l : List Int) (p : Int) : Prop := 0 ≤ p ∧ p ≤ (l.length : Int) ∧ (l.length : Int) ≤ 1048576
theorem tmod_bd {b a : Int} (hb : 0 ≤ b) (ha : 0 < a) : 0 ≤ Int.tmod b a ∧ Int.tmod b a < a := by
  rw [Int.tmod_eq_emod_of_nonneg hb]
  exact ⟨Int.emod_nonneg _ (by omega), Int.emod_lt_of_pos _ ha⟩
theorem spec_l1Byte_t {l : List Int} {p : Int} (h : Int) (hp : Pos l p) : ∃ b q i, spec_l1Byte.f l p h = some (b, q, i) ∧ Pos l q ∧ 0 ≤ b ∧ b ≤ 255 := by
  obtain ⟨h0, h1, h2⟩ := hp
  unfold spec_l1Byte.f
  simp only [i64_and255]
  by_cases c : p < (l.length : Int)
  · rw [if_pos c, if_pos h0]
    exact ⟨_, _, _, rfl, by rw [wrap_id (by omega)]; unfold Pos; omega, by omega, by omega⟩
  · rw [if_neg c]
    exact ⟨_, _, _, rfl, ⟨h0, h1, h2⟩, by omega, by omega⟩
theorem spec_l1Below_t {l : List Int} {p : Int} (h : Int) (hp : Pos l p) (a : Int) (ha : 0 < a) : ∃ b q i, spec_l1Below.f l p h a = some (b, q, i) ∧ Pos l q ∧ 0 ≤ b ∧ b < a := by
  unfold spec_l1Below.f
  rw [if_neg (by omega)]
  obtain ⟨b1, q1, i1, e1, p1, g1, g1'⟩ := spec_l1Byte_t h hp
  obtain ⟨b2, q2, i2, e2, p2, g2, g2'⟩ := spec_l1Byte_t i1 p1
  obtain ⟨b3, q3, i3, e3, p3, g3, g3'⟩ := spec_l1Byte_t i2 p2
  have hne : ¬ (a = 0) := by omega
  by_cases c : a ≤ 256
  · have hb := tmod_bd g1 ha
    rw [if_pos c]
    simp only [e1, Option.bind_some, hne, if_false]
    exact ⟨_, _, _, rfl, p1, hb⟩
  · have w1 : wrap64 (b1 * 65536) = b1 * 65536 := wrap_id (by omega)
    have w2 : wrap64 (b2 * 256) = b2 * 256 := wrap_id (by omega)
    have w3 : wrap64 (b1 * 65536 + b2 * 256) = b1 * 65536 + b2 * 256 := wrap_id (by omega)
    have w4 : wrap64 (b1 * 65536 + b2 * 256 + b3) = b1 * 65536 + b2 * 256 + b3 := wrap_id (by omega)
    have hb := tmod_bd (show (0 : Int) ≤ b1 * 65536 + b2 * 256 + b3 by omega) ha
    rw [if_neg c]
    simp only [e1, e2, e3, Option.bind_some, hne, if_false, w1, w2, w3, w4]
    exact ⟨_, _, _, rfl, p3, hb⟩
theorem rd_mem {xs : List Int} {j : Int} (h0 : 0 ≤ j) (h1 : j < (xs.length : Int)) : rd xs j ∈ xs := by
  unfold rd
  rw [List.getD_eq_getElem?_getD, List.getElem?_eq_getElem (by omega), Option.getD_some]
  exact List.getElem_mem _
theorem spec_l1Int_m {l : List Int} {p : Int} (h : Int) (hp : Pos l p) (xs : List Int) (hx : 0 < (xs.length : Int)) : ∃ b q i, spec_l1Int.f l p h xs = some (b, q, i) ∧ Pos l q ∧ b ∈ xs := by
  unfold spec_l1Int.f
  obtain ⟨b1, q1, i1, e1, p1, g1, g1'⟩ := spec_l1Below_t h hp (xs.length : Int) hx
  simp only [e1, Option.bind_some]
  rw [if_pos g1, if_pos g1']
  exact ⟨_, _, _, rfl, p1, rd_mem g1 g1'⟩
theorem spec_l1Once_t {l : List Int} {p : Int} (h : Int) (hp : Pos l p) (a : Int) (ha : 0 < a) : ∃ b q i, spec_l1Once.f l p h a = some (b, q, i) ∧ Pos l q := by
  unfold spec_l1Once.f
  obtain ⟨b1, q1, i1, e1, p1, g1, g1'⟩ := spec_l1Below_t h hp a ha
  simp only [e1, Option.bind_some]
  exact ⟨_, _, _, rfl, p1⟩
theorem spec_l1New_l (l : List Int) : ∀ (n k : Nat) (h i : Int), 0 ≤ i → 4000 ≤ i + n → i ≤ 4000 → n < k → ∃ h', spec_l1New.l0 k l h i = some (l, 0, h') := by
  intro n
  induction n with
  | zero =>
    intro k h i h0 h1 h2 hk
    obtain ⟨k, rfl⟩ := succ_of hk
    rw [spec_l1New.l0]
    by_cases c : i < (l.length : Int)
    · rw [if_pos c, if_neg (by omega)]; exact ⟨_, rfl⟩
    · rw [if_neg c]; exact ⟨_, rfl⟩
  | succ n ih =>
    intro k h i h0 h1 h2 hk
    obtain ⟨k, rfl⟩ := succ_of hk
    rw [spec_l1New.l0]
    by_cases c : i < (l.length : Int)
    · rw [if_pos c]
      by_cases c2 : i < 4000
      · rw [if_pos c2, if_pos h0, wrap_id (n := i + 1) (by omega)]
        exact ih k _ (i + 1) (by omega) (by omega) (by omega) (by omega)
      · rw [if_neg c2]; exact ⟨_, rfl⟩
    · rw [if_neg c]; exact ⟨_, rfl⟩
theorem spec_l1New_t {k : Nat} {l : List Int} (hk : Lv 1 k) (hl : Ok l) : ∃ h', spec_l1New.f k l = some (l, 0, h') ∧ Pos l 0 := by
  have hk' := lv_out hk
  have hl' := ok_out hl
  unfold spec_l1New.f
  obtain ⟨h', e⟩ := spec_l1New_l l 4000 k (wrap64 (193017 + (l.length : Int))) 0 (by omega) (by omega) (by omega) (by omega)
  exact ⟨h', e, by unfold Pos; omega⟩
theorem spec_l1In_e (n a b : Int) : spec_l1In.f n a b = some (inR n a b) := by
  unfold spec_l1In.f inR
  by_cases h : n ≥ a
  · rw [if_pos h]; simp [show a ≤ n from h]
  · rw [if_neg h]; simp [show ¬ a ≤ n from h]
def foldV (acc v : Int) : Int := (acc * 1000003 + v % 2147483647 + 13) % 2147483647
def hashV (acc : Int) (l : List Int) : Int := l.foldl foldV acc
def keyedV (key : Int) (l : List Int) : Int := foldV (hashV (foldV 11 key) l) key
theorem foldV_bd (acc v : Int) : 0 ≤ foldV acc v ∧ foldV acc v < 2147483647 := by unfold foldV; omega
theorem hashV_bd : ∀ (l : List Int) (acc : Int), 0 ≤ acc ∧ acc < 2147483647 → 0 ≤ hashV acc l ∧ hashV acc l < 2147483647
  | [], _, h => h
  | v :: l, acc, _ => hashV_bd l (foldV acc v) (foldV_bd acc v)
theorem hashV_cons (acc v : Int) (l : List Int) : hashV acc (v :: l) = hashV (foldV acc v) l := rfl
theorem keyedV_bd (key : Int) (l : List Int) : 0 ≤ keyedV key l ∧ keyedV key l < 2147483647 := foldV_bd _ _
theorem tmod_pos {a : Int} (h : 0 ≤ a) (m : Int) : Int.tmod a m = a % m := Int.tmod_eq_emod_of_nonneg h
theorem tmod_neg {a : Int} (h : a < 0) (m : Int) : Int.tmod a m = -((-a) % m) := by
  have := Int.tmod_eq_emod_of_nonneg (a := -a) (b := m) (by omega)
  rw [Int.neg_tmod] at this
  omega
def isKey (k : Int) : Bool := inR k 1 2147483646
theorem spec_Mod_e (a : Int) : spec_Mod.f a 2147483647 = some (a % 2147483647) := by
  unfold spec_Mod.f
  rw [spec_l1In_e, Option.bind_some, inR_true.2 (by omega), if_pos rfl, if_neg (by omega)]
  by_cases h : 0 ≤ a
  · rw [tmod_pos h 2147483647, wrap_id (by omega), tmod_pos (by omega)]; congr 1; omega
  · rw [tmod_neg (a := a) (by omega), wrap_id (by omega), tmod_pos (by omega)]; congr 1; omega
theorem spec_Hash_l  (suf : List Int) : ∀ (pre : List Int) (k : Nat) (acc : Int), 0 ≤ acc ∧ acc < 2147483647 → (pre ++ suf).length ≤ 1048580 → suf.length < k →
    spec_Hash.l0 k (pre ++ suf) acc (pre.length : Int) = some (hashV acc suf) := by
  induction suf with
  | nil =>
    intro pre k acc H hb hk
    obtain ⟨k, rfl⟩ := succ_of hk
    rw [spec_Hash.l0, if_neg (nil_nlt pre)]
    rfl
  | cons x suf ih =>
    intro pre k acc H hb hk
    obtain ⟨k, rfl⟩ := succ_of hk
    have hp : pre.length + suf.length < 1048580 := by simp at hb; omega
    have hk1 : suf.length < k := by simpa using hk
    have hb1 : (pre ++ [x] ++ suf).length ≤ 1048580 := by simpa using hb
    have ih1 := ih (pre ++ [x]) k
    rw [spec_Hash.l0, if_pos (mid_lt _ _ _), if_pos (len_nn _)]
    try simp only [rd_mid, Option.bind_some]
    rw [wrap_nat (by omega), snoc_len pre x, snoc_eq pre x suf]
    rw [spec_Mod_e, Option.bind_some, wrap_id (n := acc * 1000003) (by omega), wrap_id (n := acc * 1000003 + x % 2147483647) (by omega), wrap_id (by omega), tmod_pos (by omega)]
    exact ih1 (foldV acc x) (foldV_bd _ _) hb1 hk1
theorem spec_Hash_e {k : Nat} {l : List Int} (hk : Lv 1 k) (hl : l.length ≤ 1048580) : spec_Hash.f k l = some (hashV 11 l) := by
  unfold spec_Hash.f
  simpa using spec_Hash_l l [] k 11 (by omega) (by simpa using hl) (by have := lv_out hk; omega)
theorem spec_KeyedHash_e {k : Nat} {l : List Int} (key : Int) (hk : Lv 1 k) (hl : Ok l) : spec_KeyedHash.f k key l = some (keyedV key l) := by
  have hl' := ok_out hl
  unfold spec_KeyedHash.f
  simp only [Option.bind_some]
  rw [if_pos (by simp; omega), if_pos (by simp; omega), spec_Hash_e hk (by simp; omega)]
  simp [keyedV, hashV]
theorem spec_IsValidKey_e (k : Int) : spec_IsValidKey.f k = some (isKey k) := by
  unfold spec_IsValidKey.f isKey
  rw [spec_l1In_e, Option.bind_some]
def sealV (key a b c : Int) : Int := if isKey key = true then keyedV key [a, b, c] else 0
def genuineV (key a b c s : Int) : Bool := isKey key && (inR a 0 5 && (inR b 0 5 && (inR c 0 999 && (s == sealV key a b c))))
theorem spec_SealLetter_e {k : Nat} (key a b c s : Int) (hk : Lv 1 k) : spec_SealLetter.f k key a b c s = some (a, b, c, sealV key a b c) := by
  unfold spec_SealLetter.f sealV
  rw [spec_IsValidKey_e, Option.bind_some, spec_KeyedHash_e key hk (ok_small 3 (by simp) (by omega))]
  cases isKey key <;> simp
theorem rd63_mid (pre : List S63) (x : S63) (suf : List S63) : rd_T63 (pre ++ x :: suf) (pre.length : Int) = x := getD_mid pre x suf z63
def GoodL (xs : List S63) : Prop := ∀ x ∈ xs, -1 ≤ x.f1 ∧ x.f1 ≤ 6
theorem goodL_snoc {xs : List S63} {x : S63} (h : GoodL xs) (h1 : -1 ≤ x.f1 ∧ x.f1 ≤ 6) : GoodL (xs ++ [x]) := by
  intro y hy
  simp only [List.mem_append, List.mem_cons, List.not_mem_nil, or_false] at hy
  rcases hy with hy | rfl
  · exact h y hy
  · exact h1
theorem spec_l23Draw_t {k : Nat} {l : List Int} {p : Int} (h : Int) (hp : Pos l p) (key : Int) (hk : Lv 1 k) : ∃ a b c s q i, spec_l23Draw.f k l p h key = some (a, b, c, s, q, i) ∧ Pos l q ∧ -1 ≤ b ∧ b ≤ 6 := by
  unfold spec_l23Draw.f
  obtain ⟨a, q1, i1, e1, p1, ga⟩ := spec_l1Below_t h hp 4 (by omega)
  obtain ⟨b, q2, i2, e2, p2, gb, gb'⟩ := spec_l1Below_t i1 p1 4 (by omega)
  obtain ⟨c, q3, i3, e3, p3, gc⟩ := spec_l1Below_t i2 p2 50 (by omega)
  have e4 := spec_SealLetter_e (k := k) key a b c 0 hk
  obtain ⟨d, q5, i5, e5, p5, gd⟩ := spec_l1Below_t i3 p3 8 (by omega)
  obtain ⟨f, q6, i6, e6, p6, gf⟩ := spec_l1Below_t i5 p5 4 (by omega)
  obtain ⟨g, q7, i7, e7, p7, gg⟩ := spec_l1Int_m i5 p5 [(-1), 5, 6] (by simp)
  obtain ⟨m, q8, i8, e8, p8, gm⟩ := spec_l1Int_m i5 p5 [0, 1, (-1)] (by simp)
  simp only [e1, e2, e3, e4, e5, e6, e7, e8, Option.bind_some]
  simp only [List.mem_cons, List.not_mem_nil, or_false] at gg
  split
  · exact ⟨_, _, _, _, _, _, rfl, p6, by omega, by omega⟩
  split
  · exact ⟨_, _, _, _, _, _, rfl, p5, by omega, by omega⟩
  split
  · exact ⟨_, _, _, _, _, _, rfl, p7, by omega, by omega⟩
  split
  · exact ⟨_, _, _, _, _, _, rfl, p8, by omega, by omega⟩
  · exact ⟨_, _, _, _, _, _, rfl, p5, by omega, by omega⟩
theorem spec_l23Box_l1 (l : List Int) : ∀ (n k : Nat) (out : List S63) (p h : Int), 20 ≤ out.length + n → out.length ≤ 20 → n < k → GoodL out → ∃ xs, spec_l23Box.l1 k out l p h = some (xs, p, h) ∧ xs.length ≤ 20 ∧ GoodL xs := by
  intro n
  induction n with
  | zero =>
    intro k out p h h1 h2 hk hg
    obtain ⟨k, rfl⟩ := succ_of hk
    rw [spec_l23Box.l1, if_neg (by omega)]
    exact ⟨_, rfl, h2, hg⟩
  | succ n ih =>
    intro k out p h h1 h2 hk hg
    obtain ⟨k, rfl⟩ := succ_of hk
    rw [spec_l23Box.l1]
    by_cases c : (out.length : Int) < 20
    · rw [if_pos c, if_pos (show out.length < 4398046511104 by omega)]
      exact ih k _ p h (by simp only [List.length_append, List.length_cons, List.length_nil]; omega) (by simp only [List.length_append, List.length_cons, List.length_nil]; omega) (by omega) (goodL_snoc hg ⟨by decide, by decide⟩)
    · rw [if_neg c]
      exact ⟨_, rfl, h2, hg⟩
theorem spec_l23Box_l0 (l : List Int) : ∀ (n k : Nat) (out : List S63) (p h : Int), Pos l p → out.length + n ≤ 10 → n + 1100100 < k → GoodL out → ∃ xs q i, spec_l23Box.l0 k out (n : Int) l p h = some (xs, q, i) ∧ Pos l q ∧ xs.length ≤ 20 ∧ GoodL xs := by
  intro n
  induction n with
  | zero =>
    intro k out p h hp ho hk hg
    obtain ⟨k, rfl⟩ := succ_of (show 0 < k by omega)
    obtain ⟨b1, q1, i1, e1, p1⟩ := spec_l1Once_t h hp 12 (by omega)
    obtain ⟨xs, e2, g1, g2⟩ := spec_l23Box_l1 l 20 k out q1 i1 (by omega) (by omega) (by omega) hg
    rw [spec_l23Box.l0, if_neg (by omega)]
    simp only [e1, Option.bind_some, e2]
    split
    · exact ⟨_, _, _, rfl, p1, g1, g2⟩
    · exact ⟨_, _, _, rfl, p1, by omega, hg⟩
  | succ n ih =>
    intro k out p h hp ho hk hg
    obtain ⟨k, rfl⟩ := succ_of (show 0 < k by omega)
    obtain ⟨a, b, c, s, q, i, e1, p1, g1⟩ := spec_l23Draw_t (k := k) h hp 5 (by unfold Lv; omega)
    rw [spec_l23Box.l0, if_pos (by omega), e1, Option.bind_some, if_pos (show out.length < 4398046511104 by omega), wrap_id (by omega), show (((n + 1 : Nat) : Int) - 1) = (n : Int) by omega]
    exact ih k _ q i p1 (by simp only [List.length_append, List.length_cons, List.length_nil]; omega) (by omega) (goodL_snoc hg g1)
theorem spec_DrawDeliver_t {k : Nat} {l : List Int} (hk : Lv 2 k) (hl : Ok l) : ∃ key xs a b c s, spec_DrawDeliver.f k l = some (key, xs, a, b, c, s) ∧ xs.length ≤ 20 ∧ GoodL xs := by
  have hk' := lv_out hk
  unfold spec_DrawDeliver.f spec_l23Box.f
  obtain ⟨h0, e0, p0⟩ := spec_l1New_t (lv_mono hk) hl
  obtain ⟨n, q1, i1, e1, p1, g1, g1'⟩ := spec_l1Below_t h0 p0 6 (by omega)
  obtain ⟨n, rfl⟩ := Int.eq_ofNat_of_zero_le g1
  obtain ⟨xs, q2, i2, e2, p2, g2, g3⟩ := spec_l23Box_l0 l n k [] q1 i1 p1 (by simp only [List.length_nil]; omega) (by omega) (by intro x hx; simp at hx)
  obtain ⟨key, q3, i3, e3, p3, _⟩ := spec_l1Int_m i2 p2 [5, 5, 77] (by simp)
  obtain ⟨a, b, c, s, q4, i4, e4, p4, _⟩ := spec_l23Draw_t (k := k) i3 p3 5 (lv_mono hk)
  simp only [e0, e1, e2, e3, e4, Option.bind_some]
  exact ⟨_, _, _, _, _, _, rfl, g2, g3⟩
def forgedV (key : Int) : List S63 → Int
  | [] => 0
  | x :: xs => (if genuineV key x.f0 x.f1 x.f2 x.f3 = true then 0 else 1) + forgedV key xs
theorem foldV_acc {a a' v : Int} (h : 0 ≤ a ∧ a < 2147483647) (h' : 0 ≤ a' ∧ a' < 2147483647) (e : foldV a v = foldV a' v) : a = a' := by
  unfold foldV at e
  generalize v % 2147483647 = r at e
  have h1 := Int.dvd_of_emod_eq_zero (Int.emod_eq_emod_iff_emod_sub_eq_zero.1 e)
  have h0 : a * 1000003 + r + 13 - (a' * 1000003 + r + 13) = (a - a') * 1000003 := by rw [Int.sub_mul]; omega
  rw [h0] at h1
  clear e h0
  have h2 := Int.natAbs_dvd_natAbs.2 h1
  clear h1
  rw [Int.natAbs_mul] at h2
  have hc : Nat.Coprime 2147483647 1000003 := by decide +kernel
  have h3 : 2147483647 ∣ (a - a').natAbs := hc.dvd_of_dvd_mul_right h2
  have h4 : (a - a').natAbs = 0 := Nat.eq_zero_of_dvd_of_lt h3 (by omega)
  omega
theorem foldV_val {a v v' : Int} (h : 0 ≤ v ∧ v < 2147483647) (h' : 0 ≤ v' ∧ v' < 2147483647) (e : foldV a v = foldV a v') : v = v' := by
  unfold foldV at e
  omega
theorem keyedV_3 (key a b c : Int) : keyedV key [a, b, c] = foldV (foldV (foldV (foldV (foldV 11 key) a) b) c) key := rfl
theorem keyedV_c {key a b c c' : Int} (h : 0 ≤ c ∧ c < 2147483647) (h' : 0 ≤ c' ∧ c' < 2147483647) (e : keyedV key [a, b, c] = keyedV key [a, b, c']) : c = c' := by
  rw [keyedV_3, keyedV_3] at e
  exact foldV_val h h' (foldV_acc (foldV_bd _ _) (foldV_bd _ _) e)
theorem keyedV_a {key a a' b c : Int} (h : 0 ≤ a ∧ a < 2147483647) (h' : 0 ≤ a' ∧ a' < 2147483647) (e : keyedV key [a, b, c] = keyedV key [a', b, c]) : a = a' := by
  rw [keyedV_3, keyedV_3] at e
  exact foldV_val h h' (foldV_acc (foldV_bd _ _) (foldV_bd _ _) (foldV_acc (foldV_bd _ _) (foldV_bd _ _) (foldV_acc (foldV_bd _ _) (foldV_bd _ _) e)))
theorem step2 {x x' v : Int} (h : (x' - x) % 2147483647 = 1) : (foldV x' v - foldV x v) % 2147483647 = 1000003 := by unfold foldV; omega
theorem step3 {x x' v : Int} (h : (x' - x) % 2147483647 = 1000003) : (foldV x' v - foldV x v) % 2147483647 = 1426104154 := by unfold foldV; omega
theorem step4 {x x' v : Int} (h : (x' - x) % 2147483647 = 1426104154) : (foldV x' v - foldV x v) % 2147483647 = 1049561761 := by unfold foldV; omega
theorem step5 {x x' v : Int} (hv : 0 ≤ v ∧ v + 1 < 2147483647) (h : (x' - x) % 2147483647 = 1049561761) : (foldV x' (v + 1) - foldV x v) % 2147483647 = 1604566857 := by
  unfold foldV
  rw [Int.emod_eq_of_lt (a := v + 1) (by omega) hv.2, Int.emod_eq_of_lt (a := v) hv.1 (by omega)]
  omega
theorem step1 {v : Int} (hv : 0 ≤ v ∧ v + 1 < 2147483647) : (foldV 11 (v + 1) - foldV 11 v) % 2147483647 = 1 := by
  unfold foldV
  rw [Int.emod_eq_of_lt (a := v + 1) (by omega) hv.2, Int.emod_eq_of_lt (a := v) hv.1 (by omega)]
  omega
theorem keyedV_k {key a b c : Int} (h : 0 ≤ key ∧ key + 1 < 2147483647) (e : keyedV key [a, b, c] = keyedV (key + 1) [a, b, c]) : False := by
  rw [keyedV_3, keyedV_3] at e
  have h5 := step5 h (step4 (v := c) (step3 (v := b) (step2 (v := a) (step1 h))))
  rw [← e, Int.sub_self] at h5
  exact absurd h5 (by decide)
theorem genuineV_true {key a b c s : Int} (h : genuineV key a b c s = true) : (1 ≤ key ∧ key ≤ 2147483646) ∧ (0 ≤ a ∧ a ≤ 5) ∧ (0 ≤ b ∧ b ≤ 5) ∧ (0 ≤ c ∧ c ≤ 999) ∧ s = keyedV key [a, b, c] := by
  unfold genuineV at h
  simp only [Bool.and_eq_true, beq_iff_eq] at h
  obtain ⟨h1, h2, h3, h4, h5⟩ := h
  refine ⟨inR_true.1 h1, inR_true.1 h2, inR_true.1 h3, inR_true.1 h4, ?_⟩
  rw [h5]
  unfold sealV
  rw [if_pos h1]
theorem forged_snoc (key : Int) (x : S63) (hx : genuineV key x.f0 x.f1 x.f2 x.f3 = true) : ∀ l : List S63, forgedV key (l ++ [x]) = forgedV key l
  | [] => by simp [forgedV, hx]
  | y :: l => by rw [List.cons_append, forgedV, forgedV, forged_snoc key x hx l]
theorem impl_InRange_e (n a b : Int) : impl_InRange.f n a b = some (inR n a b) := by
  unfold impl_InRange.f inR
  by_cases h : a ≤ n
  · rw [if_pos h]; simp [h]
  · rw [if_neg h]; simp [h]
theorem impl_Mod_e (a : Int) : impl_Mod.f a 2147483647 = some (a % 2147483647) := by
  unfold impl_Mod.f
  rw [impl_InRange_e, Option.bind_some, inR_true.2 (by omega), if_pos rfl, if_neg (by omega)]
  by_cases h : 0 ≤ a
  · rw [tmod_pos h 2147483647, if_neg (by omega)]
  · rw [tmod_neg (a := a) (by omega)]
    by_cases h2 : -((-a) % 2147483647) < 0
    · rw [if_pos h2, wrap_id (by omega)]; congr 1; omega
    · rw [if_neg h2]; congr 1; omega
theorem impl_fold_e (a v : Int) (h : 0 ≤ a ∧ a < 2147483647) : impl_fold.f a v = some (foldV a v) := by
  unfold impl_fold.f foldV
  rw [impl_Mod_e, Option.bind_some, wrap_id (n := a * 1000003) (by omega), wrap_id (n := a * 1000003 + v % 2147483647) (by omega), wrap_id (by omega), tmod_pos (by omega)]
theorem impl_KeyedHash_l (key : Int) (suf : List Int) : ∀ (pre : List Int) (k : Nat) (acc : Int), 0 ≤ acc ∧ acc < 2147483647 → (pre ++ suf).length ≤ 1048576 → suf.length < k →
    impl_KeyedHash.l0 k key acc (pre ++ suf) ((pre ++ suf).length : Int) (pre.length : Int) = some (foldV (hashV acc suf) key) := by
  induction suf with
  | nil =>
    intro pre k acc H hb hk
    obtain ⟨k, rfl⟩ := succ_of hk
    rw [impl_KeyedHash.l0, if_neg (nil_nlt pre)]
    rw [impl_fold_e _ _ H]; rfl
  | cons x suf ih =>
    intro pre k acc H hb hk
    obtain ⟨k, rfl⟩ := succ_of hk
    have hp : pre.length + suf.length < 1048576 := by simp at hb; omega
    have hk1 : suf.length < k := by simpa using hk
    have hb1 : (pre ++ [x] ++ suf).length ≤ 1048576 := by simpa using hb
    have ih1 := ih (pre ++ [x]) k
    rw [impl_KeyedHash.l0, if_pos (mid_lt _ _ _), if_pos (len_nn _), if_pos (mid_lt _ _ _)]
    try simp only [rd_mid, Option.bind_some]
    rw [wrap_nat (by omega), snoc_len pre x, snoc_eq pre x suf]
    rw [impl_fold_e _ _ H, Option.bind_some, ih1 (foldV acc x) (foldV_bd _ _) hb1 hk1]
    rfl
theorem impl_KeyedHash_e {k : Nat} {l : List Int} (key : Int) (hk : Lv 1 k) (hl : Ok l) : impl_KeyedHash.f k key l = some (keyedV key l) := by
  have hl' := ok_out hl
  unfold impl_KeyedHash.f keyedV
  rw [impl_fold_e _ _ (by omega), Option.bind_some]
  simpa using impl_KeyedHash_l key l [] k (foldV 11 key) (foldV_bd _ _) (by simpa using hl') (lv_pred hk _ (by omega))
theorem impl_IsValidKey_e (k : Int) : impl_IsValidKey.f k = some (isKey k) := by
  unfold impl_IsValidKey.f isKey
  rw [impl_InRange_e, Option.bind_some]
theorem impl_SealLetter_e {k : Nat} (key a b c s : Int) (hk : Lv 1 k) : impl_SealLetter.f k key a b c s = some (a, b, c, sealV key a b c) := by
  unfold impl_SealLetter.f sealV
  rw [impl_IsValidKey_e, Option.bind_some, impl_KeyedHash_e key hk (ok_small 3 (by simp) (by omega))]
  cases isKey key <;> simp
theorem impl_IsGenuine_e {k : Nat} (key a b c s : Int) (hk : Lv 1 k) : impl_IsGenuine.f k key a b c s = some (genuineV key a b c s) := by
  unfold impl_IsGenuine.f genuineV
  simp only [impl_IsValidKey_e, impl_InRange_e, impl_SealLetter_e key a b c s hk, Option.bind_some]
  cases isKey key <;> cases inR a 0 5 <;> cases inR b 0 5 <;> cases inR c 0 999 <;> simp [beq_iff_eq, Bool.beq_eq_decide_eq, eq_comm]
theorem impl_LettersFor_l (a : Int) (suf : List S63) : ∀ (pre : List S63) (k : Nat) (out : List S63), out.length ≤ pre.length → (pre ++ suf).length ≤ 1048576 → suf.length < k →
    impl_LettersFor.l0 k a out (pre ++ suf) ((pre ++ suf).length : Int) (pre.length : Int) = some (out ++ suf.filter (fun x => x.f1 == a)) := by
  induction suf with
  | nil =>
    intro pre k out H hb hk
    obtain ⟨k, rfl⟩ := succ_of hk
    rw [impl_LettersFor.l0, if_neg (nil_nlt pre)]
    simp
  | cons x suf ih =>
    intro pre k out H hb hk
    obtain ⟨k, rfl⟩ := succ_of hk
    have hp : pre.length + suf.length < 1048576 := by simp at hb; omega
    have hk1 : suf.length < k := by simpa using hk
    have hb1 : (pre ++ [x] ++ suf).length ≤ 1048576 := by simpa using hb
    have ih1 := ih (pre ++ [x]) k
    rw [impl_LettersFor.l0, if_pos (mid_lt _ _ _), if_pos (len_nn _), if_pos (mid_lt _ _ _)]
    try simp only [rd63_mid, Option.bind_some]
    rw [wrap_nat (by omega), snoc_len pre x, snoc_eq pre x suf]
    rw [ih1 out (by simp; omega) hb1 hk1, ih1 (out ++ [x]) (by simp; omega) hb1 hk1, if_pos (show out.length < 4398046511104 by omega)]
    (repeat (any_goals split)) <;> simp_all [List.filter_cons]
theorem impl_LettersFor_e {k : Nat} {l : List S63} {a : Int} (hk : Lv 1 k) (hl : Ok l) : impl_LettersFor.f k l a = some (l.filter (fun x => x.f1 == a)) := by
  have hl' := ok_out hl
  unfold impl_LettersFor.f
  simpa using impl_LettersFor_l a l [] k [] (by simp) (by simpa using hl') (lv_pred hk _ (by omega))
theorem impl_Forged_l (key : Int) (suf : List S63) : ∀ (pre : List S63) (k : Nat) (n : Int), 0 ≤ n ∧ n ≤ pre.length → (pre ++ suf).length ≤ 1048576 → suf.length + 1100000 < k →
    impl_Forged.l0 k key n (pre ++ suf) ((pre ++ suf).length : Int) (pre.length : Int) = some (n + forgedV key suf) := by
  induction suf with
  | nil =>
    intro pre k n H hb hk
    obtain ⟨k, rfl⟩ := succ_of hk
    rw [impl_Forged.l0, if_neg (nil_nlt pre)]
    simp [forgedV]
  | cons x suf ih =>
    intro pre k n H hb hk
    obtain ⟨k, rfl⟩ := succ_of hk
    have hp : pre.length + suf.length < 1048576 := by simp at hb; omega
    have hk1 : suf.length + 1100000 < k := by simp only [List.length_cons] at hk; omega
    have hb1 : (pre ++ [x] ++ suf).length ≤ 1048576 := by simpa using hb
    have ih1 := ih (pre ++ [x]) k
    rw [impl_Forged.l0, if_pos (mid_lt _ _ _), if_pos (len_nn _), if_pos (mid_lt _ _ _)]
    try simp only [rd63_mid, Option.bind_some]
    rw [wrap_nat (by omega), snoc_len pre x, snoc_eq pre x suf]
    rw [impl_IsGenuine_e _ _ _ _ _ (show Lv 1 k by unfold Lv; omega), Option.bind_some, wrap_id (n := n + 1) (by omega), ih1 n (by simp only [List.length_append, List.length_cons, List.length_nil]; omega) hb1 hk1, ih1 (n + 1) (by simp only [List.length_append, List.length_cons, List.length_nil]; omega) hb1 hk1, forgedV]
    cases genuineV key x.f0 x.f1 x.f2 x.f3 <;> simp <;> omega
theorem impl_Forged_e {k : Nat} {l : List S63} (key : Int) (hk : Lv 2 k) (hl : Ok l) : impl_Forged.f k key l = some (forgedV key l) := by
  have hl' := ok_out hl
  have hk' := lv_out hk
  unfold impl_Forged.f
  simpa using impl_Forged_l key l [] k 0 (by simp) (by simpa using hl') (by omega)
theorem slClone_Letter_e {l : List S63} (hl : Ok l) : impl_Letter.f l = some l := by
  have hl' := ok_out hl
  unfold impl_Letter.f
  rw [Option.bind_some, if_pos (by simp only [List.length_nil]; omega), List.nil_append]
def deliverV (key : Int) (l : List S63) (a b c s : Int) : List S63 := if genuineV key a b c s = true ∧ l.length < 20 then l ++ [⟨a, b, c, s⟩] else l
theorem deliverV_ok (key : Int) {l : List S63} (a b c s : Int) (h : Ok l) : Ok (deliverV key l a b c s) := by
  unfold deliverV
  split
  · rename_i h2
    exact ok_small 20 (by simp only [List.length_append, List.length_cons, List.length_nil]; omega) (by omega)
  · exact h
theorem impl_Deliver_e {k : Nat} {l : List S63} (key a b c s : Int) (hk : Lv 1 k) (hl : Ok l) : impl_Deliver.f k key l a b c s = some (deliverV key l a b c s) := by
  have hl' := ok_out hl
  unfold impl_Deliver.f deliverV
  rw [slClone_Letter_e hl, Option.bind_some, impl_IsGenuine_e _ _ _ _ _ hk, Option.bind_some]
  cases genuineV key a b c s with
  | false => simp
  | true =>
    rw [if_pos rfl, if_pos (show l.length < 4398046511104 by omega)]
    by_cases h : l.length < 20
    · rw [if_neg (by omega), if_pos ⟨rfl, h⟩]
    · rw [if_pos (by omega), if_neg (by simp [h])]
def cntL (l : List S63) (o : Int) : Nat := (l.filter fun x => x.f1 == o).length
theorem cntL_cons (x : S63) (l : List S63) (o : Int) : cntL (x :: l) o = (if x.f1 = o then 1 else 0) + cntL l o := by
  unfold cntL
  rw [List.filter_cons]
  by_cases h : x.f1 = o
  · simp [h]; omega
  · simp [h]
theorem cntL_all : ∀ l : List S63, GoodL l → cntL l (-1) + cntL l 0 + cntL l 1 + cntL l 2 + cntL l 3 + cntL l 4 + cntL l 5 + cntL l 6 = l.length
  | [], _ => rfl
  | x :: l, h => by
    have ih := cntL_all l (fun y hy => h y (by simp [hy]))
    have hx := h x (by simp)
    simp only [cntL_cons, List.length_cons]
    have : x.f1 = -1 ∨ x.f1 = 0 ∨ x.f1 = 1 ∨ x.f1 = 2 ∨ x.f1 = 3 ∨ x.f1 = 4 ∨ x.f1 = 5 ∨ x.f1 = 6 := by omega
    rcases this with e | e | e | e | e | e | e | e <;> simp only [e] <;> simp <;> omega
theorem flet_s (k : Nat) (key : Int) (l l' : List S63) (hl : Ok l) (n o : Int) (hn : 0 ≤ n ∧ n ≤ 1000000000) (ho : -1 ≤ o ∧ o ≤ 6) (hk : Lv 1 k) : laws_FnLetters.l0 (k + 1) key l l' n o = laws_FnLetters.l0 k key l l' (n + cntL l o) (o + 1) := by
  have hl' := ok_out (ok_filter (f := fun x : S63 => x.f1 == o) hl)
  rw [laws_FnLetters.l0, if_pos ho.2, impl_LettersFor_e (a := o) hk hl, Option.bind_some, wrap_id (n := o + 1) (by omega), wrap_id (by omega)]
  rfl
theorem cntL_le (l : List S63) (o : Int) : cntL l o ≤ l.length := List.length_filter_le _ _
theorem flet_l0 (k : Nat) (key : Int) (l l' : List S63) (hlen : l.length ≤ 20) (hlen' : l'.length ≤ 21) (hg : GoodL l) (hf : forgedV key l' = forgedV key l) (hk : Lv 3 k) : laws_FnLetters.l0 (k + 9) key l l' 0 (-1) = some true := by
  have hk' := lv_out hk
  have hl : Ok l := ok_small 20 hlen (by omega)
  have hl' : Ok l' := ok_small 21 hlen' (by omega)
  have hc := cntL_all l hg
  rw [flet_s _ key l l' hl 0 (-1) (by omega) (by omega) (by unfold Lv; omega), show (-1 : Int) + 1 = 0 from rfl, flet_s _ key l l' hl _ 0 (by omega) (by omega) (by unfold Lv; omega), show (0 : Int) + 1 = 1 from rfl, flet_s _ key l l' hl _ 1 (by omega) (by omega) (by unfold Lv; omega), show (1 : Int) + 1 = 2 from rfl, flet_s _ key l l' hl _ 2 (by omega) (by omega) (by unfold Lv; omega), show (2 : Int) + 1 = 3 from rfl,
    flet_s _ key l l' hl _ 3 (by omega) (by omega) (by unfold Lv; omega), show (3 : Int) + 1 = 4 from rfl, flet_s _ key l l' hl _ 4 (by omega) (by omega) (by unfold Lv; omega), show (4 : Int) + 1 = 5 from rfl, flet_s _ key l l' hl _ 5 (by omega) (by omega) (by unfold Lv; omega), show (5 : Int) + 1 = 6 from rfl, flet_s _ key l l' hl _ 6 (by omega) (by omega) (by unfold Lv; omega), show (6 : Int) + 1 = 7 from rfl]
  rw [laws_FnLetters.l0, if_neg (by omega), if_pos (by omega), impl_Forged_e key (show Lv 2 k by unfold Lv; omega) hl', Option.bind_some, impl_Forged_e key (show Lv 2 k by unfold Lv; omega) hl, Option.bind_some, hf, Int.sub_self, wrap_id (by omega)]
  rfl
theorem flet_j0 (k : Nat) (key : Int) (l l' : List S63) (hlen : l.length ≤ 20) (hlen' : l'.length ≤ 21) (hg : GoodL l) (hf : forgedV key l' = forgedV key l) (a b c s : Int) (hk : Lv 4 k) : laws_FnLetters.j0 (k + 1) key l l' false a b c s = some true := by
  have hk' := lv_out hk
  obtain ⟨q, hq⟩ : ∃ q, k = q + 10 := ⟨k - 10, by omega⟩
  have hj : laws_FnLetters.j1 k key l l' = some true := by
    rw [hq, laws_FnLetters.j1]
    exact flet_l0 q key l l' hlen hlen' hg hf (by unfold Lv; omega)
  have hk1 : Lv 1 k := lv_mono hk
  rw [laws_FnLetters.j0, if_neg (by simp)]
  simp only [impl_SealLetter_e key a b c s hk1, Option.bind_some, impl_IsGenuine_e _ _ _ _ _ hk1]
  cases hG : genuineV key a b c (sealV key a b c) with
  | false => rw [if_neg (by simp)]; exact hj
  | true =>
    obtain ⟨g1, g2, g3, g4, g5⟩ := genuineV_true hG
    have w1 : Int.tmod (wrap64 (a + 1)) 6 = (a + 1) % 6 := by rw [wrap_id (by omega), tmod_pos (by omega)]
    have w2 : Int.tmod (wrap64 (c + 1)) 1000 = (c + 1) % 1000 := by rw [wrap_id (by omega), tmod_pos (by omega)]
    have w3 : wrap64 (key + 1) = key + 1 := wrap_id (by omega)
    have f1 : genuineV key ((a + 1) % 6) b c (sealV key a b c) = false := by
      cases h : genuineV key ((a + 1) % 6) b c (sealV key a b c) with
      | false => rfl
      | true =>
        have := (genuineV_true h).2.2.2.2
        rw [g5] at this
        have := keyedV_a (by omega) (by omega) this
        omega
    have f2 : genuineV key a b ((c + 1) % 1000) (sealV key a b c) = false := by
      cases h : genuineV key a b ((c + 1) % 1000) (sealV key a b c) with
      | false => rfl
      | true =>
        have := (genuineV_true h).2.2.2.2
        rw [g5] at this
        have := keyedV_c (by omega) (by omega) this
        omega
    have f3 : genuineV (key + 1) a b c (sealV key a b c) = false := by
      cases h : genuineV (key + 1) a b c (sealV key a b c) with
      | false => rfl
      | true =>
        have t := genuineV_true h
        have := t.2.2.2.2
        rw [g5] at this
        exact (keyedV_k (by omega) this).elim
    rw [if_pos rfl, w1, w2, w3, f1, f2, f3]
    simp only [Bool.false_eq_true, if_false]
    exact hj
theorem FnLetters : ∀ (l0 : List Int), l0.length ≤ maxLen → (∀ x ∈ l0, (Lit.int .u8 x).wf = true) → ∃ k, laws_FnLetters.f k l0 = some true := by
  intro l0 hm0 _
  by_cases hb : (l0.length : Int) > 1048576
  · refine ⟨0, ?_⟩
    unfold laws_FnLetters.f laws_big.f
    rw [decide_eq_true hb]
    rfl
  · have hl : Ok l0 := by unfold Ok; omega
    obtain ⟨k, hk⟩ := big_some
    refine ⟨k + 1, ?_⟩
    have hk0 := big_succ hk
    obtain ⟨key, xs, a, b, c, s, eD, hlen, hg⟩ := spec_DrawDeliver_t (k := k + 1) (lv hk0) hl
    have hx : Ok xs := ok_small 20 hlen (by omega)
    unfold laws_FnLetters.f laws_big.f
    rw [decide_eq_false hb]
    simp only [Option.bind_some, Bool.false_eq_true, if_false, eD, impl_Deliver_e key a b c s (lv hk0) hx, impl_IsGenuine_e _ _ _ _ _ (show Lv 1 (k + 1) from lv hk0)]
    unfold deliverV
    by_cases hd : genuineV key a b c s = true ∧ xs.length < 20
    · rw [if_pos hd]
      have e1 : ¬ (((xs ++ [(⟨a, b, c, s⟩ : S63)]).length : Int) = (xs.length : Int)) := by simp only [List.length_append, List.length_cons, List.length_nil]; omega
      have e2 : ((xs ++ [(⟨a, b, c, s⟩ : S63)]).length : Int) = wrap64 ((xs.length : Int) + 1) := by rw [wrap_id (by omega)]; simp
      have e3 : rd_T63 (xs ++ [(⟨a, b, c, s⟩ : S63)]) (xs.length : Int) = ⟨a, b, c, s⟩ := rd63_mid xs _ []
      rw [if_neg e1, if_pos e2, hd.1, if_pos rfl, if_pos (len_nn _), if_pos (by simp only [List.length_append, List.length_cons, List.length_nil]; omega), e3]
      simp only [beq_self_eq_true, Bool.not_true, Bool.or_false]
      exact flet_j0 k key xs _ hlen (by simp only [List.length_append, List.length_cons, List.length_nil]; omega) hg (forged_snoc key _ hd.1 xs) a b c s (lv hk)
    · rw [if_neg hd, if_pos rfl]
      exact flet_j0 k key xs _ hlen (by omega) hg rfl a b c s (lv hk)
end Go.Proofs.Ytdpmigainnmegaa.Pure
