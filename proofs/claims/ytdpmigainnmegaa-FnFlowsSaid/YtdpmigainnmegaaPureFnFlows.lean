/- The law FnFlows as a statement over numbers and lists, with its proof; no conditions but the ranges that the values' types and the slices' lengths have. -/
import Derived.Test.YtdpmigainnmegaaPFnFlowsx5
namespace Go.Proofs.Ytdpmigainnmegaa.Pure
open Go.RowKit Go.Proofs.Ytdpmigainnmegaa.PFnFlows Go.Proofs.YtdpmigainnmegaaW.PrintWords Go.Proofs.YtdpmigainnmegaaW.PrintLast Go.Proofs.YtdpmigainnmegaaW.PrintMore
set_option linter.unusedVariables false
set_option linter.unusedSimpArgs false
/-! ### numbers, lists, rounds -/
theorem wf64 {n : Int} (h : (Lit.int .i64 n).wf = true) : -9223372036854775808 ≤ n ∧ n ≤ 9223372036854775807 := by
  simp [Lit.wf, IntKind.min, IntKind.max, IntKind.bits, IntKind.signed] at h
  omega
theorem wrap_id {n : Int} (h : -9223372036854775808 ≤ n ∧ n ≤ 9223372036854775807) : wrap64 n = n := by
  unfold wrap64
  omega
theorem wrap_nat {n : Nat} (h : n ≤ 1000000000000) : wrap64 ((n : Int) + 1) = ((n + 1 : Nat) : Int) := by
  unfold wrap64
  omega
theorem succ_of {m k : Nat} (h : m < k) : ∃ q, k = q + 1 := ⟨k - 1, by omega⟩
theorem ite_t {p : Prop} [Decidable p] {α : Type} {a b : α} (h : p) : (if p then a else b) = a := if_pos h
theorem ite_f {p : Prop} [Decidable p] {α : Type} {a b : α} (h : ¬ p) : (if p then a else b) = b := if_neg h
theorem bind_of {α β : Type} {x : Option α} {a : α} {f : α → Option β} {r : Option β} (h : x = some a) (h2 : f a = r) : x.bind f = r := by rw [h]; exact h2
theorem getD_mid {α : Type} (pre : List α) (x : α) (suf : List α) (z : α) : (pre ++ x :: suf).getD ((pre.length : Int)).toNat z = x := by
  simp
theorem rd_mid (pre : List Int) (x : Int) (suf : List Int) : rd (pre ++ x :: suf) (pre.length : Int) = x := by
  simp [rd]
theorem set_mid {α : Type} (pre : List α) (x y : α) (suf : List α) : (pre ++ x :: suf).set ((pre.length : Int)).toNat y = pre ++ y :: suf := by
  simp
theorem mid_lt {α : Type} (pre : List α) (x : α) (suf : List α) : (pre.length : Int) < ((pre ++ x :: suf).length : Int) := by
  simp; omega
theorem mid_lt' {α : Type} (pre : List α) (x : α) (suf : List α) (n : Nat) (h : pre.length = n) : (n : Int) < ((pre ++ x :: suf).length : Int) := by
  simp; omega
theorem nil_nlt {α : Type} (pre : List α) : ¬ ((pre.length : Int) < ((pre ++ []).length : Int)) := by simp
theorem len_nn (n : Nat) : (0 : Int) ≤ (n : Int) := by omega
theorem snoc_eq {α : Type} (pre : List α) (x : α) (suf : List α) : pre ++ x :: suf = (pre ++ [x]) ++ suf := by simp
theorem snoc_len {α : Type} (pre : List α) (x : α) : ((pre.length + 1 : Nat) : Int) = ((pre ++ [x]).length : Int) := by simp
def inR (n a b : Int) : Bool := decide (a ≤ n ∧ n ≤ b)
theorem inR_true {n a b : Int} : inR n a b = true ↔ a ≤ n ∧ n ≤ b := by simp [inR]
theorem inR_false {n a b : Int} : inR n a b = false ↔ ¬ (a ≤ n ∧ n ≤ b) := by simp [inR]
def Big (k : Nat) : Prop := 9900000 ≤ k
theorem big_out {k : Nat} (h : Big k) : 9900000 ≤ k := h
theorem big_succ {k : Nat} (h : Big k) : Big (k + 1) := by unfold Big at *; omega
theorem big_some : ∃ K : Nat, Big K := ⟨9900000, Nat.le_refl _⟩
theorem big_pred {k : Nat} (h : Big k) (n : Nat) (hn : n ≤ 1048577) : n < k := by unfold Big at h; omega
def Ok {α : Type} (l : List α) : Prop := l.length ≤ 1048576
theorem ok_out {α : Type} {l : List α} (h : Ok l) : l.length ≤ 1048576 := h
theorem ok_map {α β : Type} {f : α → β} {l : List α} (h : Ok l) : Ok (l.map f) := by unfold Ok at *; simpa using h
theorem ok_filter {α : Type} {f : α → Bool} {l : List α} (h : Ok l) : Ok (l.filter f) := by unfold Ok at *; exact Nat.le_trans (List.length_filter_le _ _) h
theorem ok_small {α : Type} {l : List α} (n : Nat) (h : l.length ≤ n) (hn : n ≤ 1048576) : Ok l := by unfold Ok; omega

def Lv (n k : Nat) : Prop := n * 1100000 ≤ k
theorem lv_out {n k : Nat} (h : Lv n k) : n * 1100000 ≤ k := h
theorem lv {n k : Nat} (h : Big k) (hn : n ≤ 9 := by decide) : Lv n k := by unfold Big at h; unfold Lv; omega
theorem lv_succ {n k : Nat} (h : Lv n k) : Lv n (k + 1) := by unfold Lv at *; omega
theorem lv_pred {n k : Nat} (h : Lv (n + 1) k) (m : Nat) (hm : m ≤ 1048580) : m < k := by unfold Lv at h; omega
theorem lv_mono {n m k : Nat} (h : Lv n k) (hm : m ≤ n := by decide) : Lv m k := Nat.le_trans (Nat.mul_le_mul_right _ hm) h
theorem i64_and255 (n : Int) : Go.bits .and .i64 n 255 = n % 256 := by
  have h127 : (BitVec.ofInt 64 255).toNat = 2 ^ 8 - 1 := by decide
  have key : (BitVec.ofInt 64 n &&& BitVec.ofInt 64 255).toNat = (n % ((2 ^ 64 : Nat) : Int)).toNat % 2 ^ 8 := by
    rw [BitVec.toNat_and, BitVec.toNat_ofInt, h127, Nat.and_two_pow_sub_one_eq_mod]
  show IntKind.i64.wrap ((BitVec.ofInt 64 n &&& BitVec.ofInt 64 255).toNat : Nat) = n % 256
  rw [key, IntKind.wrap_i64]
  omega
def Pos (l : List Int) (p : Int) : Prop := 0 ≤ p ∧ p ≤ (l.length : Int) ∧ (l.length : Int) ≤ 1048576
theorem tmod_bd {b a : Int} (hb : 0 ≤ b) (ha : 0 < a) : 0 ≤ Int.tmod b a ∧ Int.tmod b a < a := by
  rw [Int.tmod_eq_emod_of_nonneg hb]
  exact ⟨Int.emod_nonneg _ (by omega), Int.emod_lt_of_pos _ ha⟩
theorem spec_l1Byte_t {l : List Int} {p : Int} (h : Int) (hp : Pos l p) : ∃ b q i, spec_l1Byte.f l p h = some (b, q, i) ∧ Pos l q ∧ 0 ≤ b ∧ b ≤ 255 := by
  obtain ⟨h0, h1, h2⟩ := hp
  unfold spec_l1Byte.f
  simp only [i64_and255]
  by_cases c : p < (l.length : Int)
  · rw [if_pos c, if_pos h0]
    exact ⟨_, _, _, rfl, by rw [wrap_id (by omega)]; unfold Pos; omega, by omega, by omega⟩
  · rw [if_neg c]
    exact ⟨_, _, _, rfl, ⟨h0, h1, h2⟩, by omega, by omega⟩
theorem spec_l1Below_t {l : List Int} {p : Int} (h : Int) (hp : Pos l p) (a : Int) (ha : 0 < a) : ∃ b q i, spec_l1Below.f l p h a = some (b, q, i) ∧ Pos l q ∧ 0 ≤ b ∧ b < a := by
  unfold spec_l1Below.f
  rw [if_neg (by omega)]
  obtain ⟨b1, q1, i1, e1, p1, g1, g1'⟩ := spec_l1Byte_t h hp
  obtain ⟨b2, q2, i2, e2, p2, g2, g2'⟩ := spec_l1Byte_t i1 p1
  obtain ⟨b3, q3, i3, e3, p3, g3, g3'⟩ := spec_l1Byte_t i2 p2
  have hne : ¬ (a = 0) := by omega
  by_cases c : a ≤ 256
  · have hb := tmod_bd g1 ha
    rw [if_pos c]
    simp only [e1, Option.bind_some, hne, if_false]
    exact ⟨_, _, _, rfl, p1, hb⟩
  · have w1 : wrap64 (b1 * 65536) = b1 * 65536 := wrap_id (by omega)
    have w2 : wrap64 (b2 * 256) = b2 * 256 := wrap_id (by omega)
    have w3 : wrap64 (b1 * 65536 + b2 * 256) = b1 * 65536 + b2 * 256 := wrap_id (by omega)
    have w4 : wrap64 (b1 * 65536 + b2 * 256 + b3) = b1 * 65536 + b2 * 256 + b3 := wrap_id (by omega)
    have hb := tmod_bd (show (0 : Int) ≤ b1 * 65536 + b2 * 256 + b3 by omega) ha
    rw [if_neg c]
    simp only [e1, e2, e3, Option.bind_some, hne, if_false, w1, w2, w3, w4]
    exact ⟨_, _, _, rfl, p3, hb⟩
theorem spec_l20Draw_t {l : List Int} {p : Int} (h : Int) (hp : Pos l p) : ∃ a b c q i, spec_l20Draw.f l p h = some (a, b, c, q, i) ∧ Pos l q := by
  unfold spec_l20Draw.f
  obtain ⟨b1, q1, i1, e1, p1, _⟩ := spec_l1Below_t h hp 3 (by omega)
  obtain ⟨b2, q2, i2, e2, p2, _⟩ := spec_l1Below_t i1 p1 4 (by omega)
  obtain ⟨b3, q3, i3, e3, p3, _⟩ := spec_l1Below_t i2 p2 4 (by omega)
  simp only [e1, e2, e3, Option.bind_some]
  exact ⟨_, _, _, _, _, rfl, p3⟩
theorem spec_l20List_l (l : List Int) : ∀ (n k : Nat) (out : List S119) (p h : Int), Pos l p → out.length + n ≤ 10 → n < k → ∃ xs q i, spec_l20List.l0 k out (n : Int) l p h = some (xs, q, i) ∧ Pos l q ∧ xs.length ≤ 10 := by
  intro n
  induction n with
  | zero =>
    intro k out p h hp ho hk
    obtain ⟨k, rfl⟩ := succ_of hk
    rw [spec_l20List.l0, if_neg (by omega)]
    exact ⟨_, _, _, rfl, hp, by omega⟩
  | succ n ih =>
    intro k out p h hp ho hk
    obtain ⟨k, rfl⟩ := succ_of hk
    obtain ⟨a, b, c, q, i, e, hq⟩ := spec_l20Draw_t h hp
    rw [spec_l20List.l0, if_pos (by omega), e, Option.bind_some, if_pos (by omega), wrap_id (by omega), show (((n + 1 : Nat) : Int) - 1) = (n : Int) by omega]
    exact ih k _ q i hq (by simp only [List.length_append, List.length_cons, List.length_nil]; omega) (by omega)
theorem spec_l20List_t {k : Nat} {l : List Int} {p : Int} (h : Int) (hp : Pos l p) (hk : Lv 1 k) : ∃ xs q i, spec_l20List.f k l p h = some (xs, q, i) ∧ Pos l q ∧ xs.length ≤ 10 := by
  have hk' := lv_out hk
  unfold spec_l20List.f
  obtain ⟨b1, q1, i1, e1, p1, g1, g2⟩ := spec_l1Below_t h hp 8 (by omega)
  obtain ⟨n, rfl⟩ := Int.eq_ofNat_of_zero_le g1
  simp only [e1, Option.bind_some]
  exact spec_l20List_l l n k [] q1 i1 p1 (by simp only [List.length_nil]; omega) (by omega)
theorem spec_l1Int_t {l : List Int} {p : Int} (h : Int) (hp : Pos l p) (xs : List Int) (hx : 0 < (xs.length : Int)) : ∃ b q i, spec_l1Int.f l p h xs = some (b, q, i) ∧ Pos l q := by
  unfold spec_l1Int.f
  obtain ⟨b1, q1, i1, e1, p1, g1, g1'⟩ := spec_l1Below_t h hp (xs.length : Int) hx
  simp only [e1, Option.bind_some]
  rw [if_pos g1, if_pos g1']
  exact ⟨_, _, _, rfl, p1⟩
theorem spec_l1Once_t {l : List Int} {p : Int} (h : Int) (hp : Pos l p) (a : Int) (ha : 0 < a) : ∃ b q i, spec_l1Once.f l p h a = some (b, q, i) ∧ Pos l q := by
  unfold spec_l1Once.f
  obtain ⟨b1, q1, i1, e1, p1, g1, g1'⟩ := spec_l1Below_t h hp a ha
  simp only [e1, Option.bind_some]
  exact ⟨_, _, _, rfl, p1⟩
theorem spec_l1New_l (l : List Int) : ∀ (n k : Nat) (h i : Int), 0 ≤ i → 4000 ≤ i + n → i ≤ 4000 → n < k → ∃ h', spec_l1New.l0 k l h i = some (l, 0, h') := by
  intro n
  induction n with
  | zero =>
    intro k h i h0 h1 h2 hk
    obtain ⟨k, rfl⟩ := succ_of hk
    rw [spec_l1New.l0]
    by_cases c : i < (l.length : Int)
    · rw [if_pos c, if_neg (by omega)]; exact ⟨_, rfl⟩
    · rw [if_neg c]; exact ⟨_, rfl⟩
  | succ n ih =>
    intro k h i h0 h1 h2 hk
    obtain ⟨k, rfl⟩ := succ_of hk
    rw [spec_l1New.l0]
    by_cases c : i < (l.length : Int)
    · rw [if_pos c]
      by_cases c2 : i < 4000
      · rw [if_pos c2, if_pos h0, wrap_id (n := i + 1) (by omega)]
        exact ih k _ (i + 1) (by omega) (by omega) (by omega) (by omega)
      · rw [if_neg c2]; exact ⟨_, rfl⟩
    · rw [if_neg c]; exact ⟨_, rfl⟩
theorem spec_l1New_t {k : Nat} {l : List Int} (hk : Lv 1 k) (hl : Ok l) : ∃ h', spec_l1New.f k l = some (l, 0, h') ∧ Pos l 0 := by
  have hk' := lv_out hk
  have hl' := ok_out hl
  unfold spec_l1New.f
  obtain ⟨h', e⟩ := spec_l1New_l l 4000 k (wrap64 (193017 + (l.length : Int))) 0 (by omega) (by omega) (by omega) (by omega)
  exact ⟨h', e, by unfold Pos; omega⟩
theorem spec_l20Small_t {l : List Int} {p : Int} (h : Int) (hp : Pos l p) : ∃ b q i, spec_l20Small.f l p h = some (b, q, i) ∧ Pos l q := by
  unfold spec_l20Small.f
  obtain ⟨b1, q1, i1, e1, p1, _⟩ := spec_l1Below_t h hp 16 (by omega)
  simp only [e1, Option.bind_some]
  exact ⟨_, _, _, rfl, p1⟩
theorem spec_l19Draw_t {l : List Int} {p : Int} (h : Int) (hp : Pos l p) : ∃ b q i, spec_l19Draw.f l p h = some (b, q, i) ∧ Pos l q := by
  unfold spec_l19Draw.f
  obtain ⟨b1, q1, i1, e1, p1⟩ := spec_l1Once_t h hp 8 (by omega)
  obtain ⟨b2, q2, i2, e2, p2⟩ := spec_l1Int_t i1 p1 [(-2), 1, 1022, 1023, 1024, 9223372036854775807] (by simp)
  obtain ⟨b3, q3, i3, e3, p3, _⟩ := spec_l1Below_t i1 p1 512 (by omega)
  simp only [e1, e2, e3, Option.bind_some]
  split
  · exact ⟨_, _, _, rfl, p2⟩
  · exact ⟨_, _, _, rfl, p3⟩
theorem spec_DrawMayFlow_t {k : Nat} {l : List Int} (hk : Lv 1 k) (hl : Ok l) : ∃ xs e x t, spec_DrawMayFlow.f k l = some (xs, e, x, t) ∧ Ok xs := by
  unfold spec_DrawMayFlow.f
  obtain ⟨h0, e0, p0⟩ := spec_l1New_t hk hl
  obtain ⟨xs, q1, i1, e1, p1, gx⟩ := spec_l20List_t h0 p0 hk
  obtain ⟨b2, q2, i2, e2, p2, _⟩ := spec_l1Below_t i1 p1 3 (by omega)
  obtain ⟨b3, q3, i3, e3, p3⟩ := spec_l20Small_t i2 p2
  obtain ⟨b4, q4, i4, e4, p4⟩ := spec_l1Once_t i3 p3 9 (by omega)
  obtain ⟨b5, q5, i5, e5, p5⟩ := spec_l19Draw_t i4 p4
  obtain ⟨b6, q6, i6, e6, p6⟩ := spec_l1Int_t i5 p5 [1, 2, 3, 4, 0, 10] (by simp)
  obtain ⟨b7, q7, i7, e7, p7⟩ := spec_l1Int_t i4 p4 [1, 2, 3, 4, 0, 10] (by simp)
  have hx : Ok xs := ok_small 10 gx (by omega)
  simp only [e0, e1, e2, e3, e4, e5, e6, e7, Option.bind_some]
  split
  · exact ⟨_, _, _, _, rfl, hx⟩
  · exact ⟨_, _, _, _, rfl, hx⟩
theorem rd119_mid (pre : List S119) (x : S119) (suf : List S119) : rd_T119 (pre ++ x :: suf) (pre.length : Int) = x := getD_mid pre x suf z119
theorem spec_DrawFlowsWithin_l (l : List Int) (xs : List S119) (hx : xs.length ≤ 10) : ∀ (n k : Nat) (out : List S119) (j p h : Int), Pos l p → 0 ≤ j → j + n = xs.length → out.length + n ≤ 10 → n < k → ∃ ys, spec_DrawFlowsWithin.l0 k xs out j l p h = some (ys, xs) ∧ ys.length ≤ 11 := by
  intro n
  induction n with
  | zero =>
    intro k out j p h hp h0 hj ho hk
    obtain ⟨k, rfl⟩ := succ_of hk
    obtain ⟨b1, q1, i1, e1, p1⟩ := spec_l1Once_t h hp 4 (by omega)
    obtain ⟨a, b, c, q2, i2, e2, p2⟩ := spec_l20Draw_t i1 p1
    rw [spec_DrawFlowsWithin.l0, if_neg (by omega)]
    simp only [e1, e2, Option.bind_some]
    split
    · rw [if_pos (by omega)]
      exact ⟨_, rfl, by simp only [List.length_append, List.length_cons, List.length_nil]; omega⟩
    · exact ⟨_, rfl, by omega⟩
  | succ n ih =>
    intro k out j p h hp h0 hj ho hk
    obtain ⟨k, rfl⟩ := succ_of hk
    obtain ⟨b1, q1, i1, e1, p1⟩ := spec_l1Once_t h hp 2 (by omega)
    rw [spec_DrawFlowsWithin.l0, if_pos (by omega)]
    simp only [e1, Option.bind_some]
    rw [if_pos h0, if_pos (show out.length < 5864062014805 by omega), wrap_id (n := j + 1) (by omega)]
    split
    · exact ih k _ (j + 1) q1 i1 p1 (by omega) (by omega) (by simp only [List.length_append, List.length_cons, List.length_nil]; omega) (by omega)
    · exact ih k _ (j + 1) q1 i1 p1 (by omega) (by omega) (by omega) (by omega)
theorem spec_DrawFlowsWithin_t {k : Nat} {l : List Int} (hk : Lv 1 k) (hl : Ok l) : ∃ xs ys, spec_DrawFlowsWithin.f k l = some (xs, ys) ∧ Ok xs ∧ Ok ys := by
  have hk' := lv_out hk
  unfold spec_DrawFlowsWithin.f
  obtain ⟨h0, e0, p0⟩ := spec_l1New_t hk hl
  obtain ⟨xs, q1, i1, e1, p1, gx⟩ := spec_l20List_t h0 p0 hk
  obtain ⟨ys, e2, gy⟩ := spec_DrawFlowsWithin_l l xs gx xs.length k [] 0 q1 i1 p1 (by omega) (by omega) (by simp only [List.length_nil]; omega) (by omega)
  simp only [e0, e1, e2, Option.bind_some]
  exact ⟨_, _, rfl, ok_small 11 gy (by omega), ok_small 10 gx (by omega)⟩
def isLabelV (x : Int) : Bool := inR x 0 1022 && x % 2 == 0
def own1 (x o : Int) : List Int := if x / 2 ^ o.toNat % 2 = 1 then [o] else []
def ownersV (x : Int) : List Int := if isLabelV x = true then own1 x 1 ++ (own1 x 2 ++ (own1 x 3 ++ (own1 x 4 ++ (own1 x 5 ++ (own1 x 6 ++ (own1 x 7 ++ (own1 x 8 ++ own1 x 9))))))) else []
theorem own1_len (x o : Int) : (own1 x o).length ≤ 1 := by unfold own1; split <;> simp
theorem ownersV_len (x : Int) : (ownersV x).length ≤ 9 := by
  unfold ownersV
  split
  · simp only [List.length_append]
    have h1 := own1_len x 1
    have h2 := own1_len x 2
    have h3 := own1_len x 3
    have h4 := own1_len x 4
    have h5 := own1_len x 5
    have h6 := own1_len x 6
    have h7 := own1_len x 7
    have h8 := own1_len x 8
    have h9 := own1_len x 9
    omega
  · simp
theorem ownersV_ok (x : Int) : Ok (ownersV x) := ok_small 9 (ownersV_len x) (by omega)
theorem isLabelV_bd {x : Int} (h : isLabelV x = true) : 0 ≤ x ∧ x ≤ 1022 ∧ x % 2 = 0 := by
  unfold isLabelV at h
  rw [Bool.and_eq_true, inR_true, beq_iff_eq] at h
  exact ⟨h.1.1, h.1.2, h.2⟩
def isFlow (a b c : Int) : Bool := inR a 1 5 && (inR b 1 9 && inR c 1 9)
def hasFlow (l : List S119) (a b c : Int) : Bool := l.any fun x => x.f0 == a && (x.f1 == b && x.f2 == c)
def mayAll (l : List S119) (e tt : Int) : List Int → Bool
  | [] => true
  | o :: os => (o == tt || (isFlow e o tt && hasFlow l e o tt)) && mayAll l e tt os
def mayV (l : List S119) (e x tt : Int) : Bool := isLabelV x && (inR tt 1 9 && mayAll l e tt (ownersV x))
def tgt1 (l : List S119) (e x o : Int) : List Int := if mayV l e x o = true then [o] else []
def targetsV (l : List S119) (e x : Int) : List Int := tgt1 l e x 1 ++ (tgt1 l e x 2 ++ (tgt1 l e x 3 ++ (tgt1 l e x 4 ++ (tgt1 l e x 5 ++ (tgt1 l e x 6 ++ (tgt1 l e x 7 ++ (tgt1 l e x 8 ++ tgt1 l e x 9)))))))
theorem tgt1_len (l : List S119) (e x o : Int) : (tgt1 l e x o).length ≤ 1 := by unfold tgt1; split <;> simp
theorem targetsV_len (l : List S119) (e x : Int) : (targetsV l e x).length ≤ 9 := by
  unfold targetsV
  simp only [List.length_append]
  have h1 := tgt1_len l e x 1
  have h2 := tgt1_len l e x 2
  have h3 := tgt1_len l e x 3
  have h4 := tgt1_len l e x 4
  have h5 := tgt1_len l e x 5
  have h6 := tgt1_len l e x 6
  have h7 := tgt1_len l e x 7
  have h8 := tgt1_len l e x 8
  have h9 := tgt1_len l e x 9
  omega
def hasI (l : List Int) (o : Int) : Bool := l.any fun y => y == o
def withinFlow : List S119 → List S119 → Bool
  | [], _ => true
  | x :: xs, m => isFlow x.f0 x.f1 x.f2 && (hasFlow m x.f0 x.f1 x.f2 && withinFlow xs m)
theorem ownersV_mem {x y : Int} (h : y ∈ ownersV x) : 1 ≤ y ∧ y ≤ 9 := by
  have ho : ∀ o, y ∈ own1 x o → y = o := by
    intro o h
    unfold own1 at h
    split at h
    · simpa using h
    · simp at h
  unfold ownersV at h
  split at h
  · simp only [List.mem_append] at h
    rcases h with h | h | h | h | h | h | h | h | h <;> (have := ho _ h; omega)
  · simp at h
theorem hasI_append (a b : List Int) (o : Int) : hasI (a ++ b) o = (hasI a o || hasI b o) := by simp [hasI]
theorem hasI_tgt1 (l : List S119) (e x o t : Int) : hasI (tgt1 l e x o) t = (mayV l e x o && o == t) := by
  unfold tgt1 hasI
  cases mayV l e x o <;> simp
theorem mayV_range {l : List S119} {e x t : Int} (h : mayV l e x t = true) : 1 ≤ t ∧ t ≤ 9 := by
  unfold mayV at h
  simp only [Bool.and_eq_true] at h
  exact inR_true.1 h.2.1
theorem hasI_targets (l : List S119) (e x t : Int) : hasI (targetsV l e x) t = mayV l e x t := by
  unfold targetsV
  simp only [hasI_append, hasI_tgt1]
  by_cases h : 1 ≤ t ∧ t ≤ 9
  · have : t = 1 ∨ t = 2 ∨ t = 3 ∨ t = 4 ∨ t = 5 ∨ t = 6 ∨ t = 7 ∨ t = 8 ∨ t = 9 := by omega
    rcases this with rfl | rfl | rfl | rfl | rfl | rfl | rfl | rfl | rfl <;> simp
  · have hf : mayV l e x t = false := by
      cases hm : mayV l e x t with
      | false => rfl
      | true => exact absurd (mayV_range hm) h
    have g : ∀ o : Int, 1 ≤ o → o ≤ 9 → (o == t) = false := fun o h1 h2 => by simp; omega
    rw [hf, g 1 (by omega) (by omega), g 2 (by omega) (by omega), g 3 (by omega) (by omega), g 4 (by omega) (by omega), g 5 (by omega) (by omega), g 6 (by omega) (by omega), g 7 (by omega) (by omega), g 8 (by omega) (by omega), g 9 (by omega) (by omega)]
    simp
theorem hasFlow_filter (l : List S119) (a b c : Int) : hasFlow (l.filter fun x => x.f0 == a) a b c = hasFlow l a b c := by
  induction l with
  | nil => rfl
  | cons x l ih =>
    unfold hasFlow at ih ⊢
    rw [List.filter_cons]
    by_cases h : x.f0 = a
    · simp only [h, beq_self_eq_true, if_true, List.any_cons, ih]
    · simp only [List.any_cons]
      rw [if_neg (by simpa using h), ih]
      simp [h]
theorem mayAll_filter (l : List S119) (e t : Int) (os : List Int) : mayAll (l.filter fun x => x.f0 == e) e t os = mayAll l e t os := by
  induction os with
  | nil => rfl
  | cons o os ih => rw [mayAll, mayAll, hasFlow_filter, ih]
theorem within_has {a b c : Int} : ∀ {xs m : List S119}, withinFlow xs m = true → hasFlow xs a b c = true → hasFlow m a b c = true
  | [], _, _, h => by simp [hasFlow] at h
  | x :: xs, m, hw, h => by
    simp only [withinFlow, Bool.and_eq_true] at hw
    unfold hasFlow at h
    rw [List.any_cons, Bool.or_eq_true] at h
    rcases h with h | h
    · simp only [Bool.and_eq_true, beq_iff_eq] at h
      obtain ⟨rfl, rfl, rfl⟩ := h
      exact hw.2.1
    · exact within_has hw.2.2 h
theorem mayAll_mono {xs m : List S119} (hw : withinFlow xs m = true) (e t : Int) : ∀ os : List Int, mayAll xs e t os = true → mayAll m e t os = true
  | [], _ => rfl
  | o :: os, h => by
    simp only [mayAll, Bool.and_eq_true, Bool.or_eq_true] at h ⊢
    refine ⟨?_, mayAll_mono hw e t os h.2⟩
    rcases h.1 with h1 | h1
    · exact Or.inl h1
    · exact Or.inr ⟨h1.1, within_has hw h1.2⟩
theorem mayV_mono {xs m : List S119} (hw : withinFlow xs m = true) {e x t : Int} (h : mayV xs e x t = true) : mayV m e x t = true := by
  unfold mayV at h ⊢
  simp only [Bool.and_eq_true] at h ⊢
  exact ⟨h.1, h.2.1, mayAll_mono hw _ _ _ h.2.2⟩
theorem mayV_filter (l : List S119) (e x t : Int) : mayV (l.filter fun y => y.f0 == e) e x t = mayV l e x t := by
  unfold mayV
  rw [mayAll_filter]
theorem impl_InRange_e (n a b : Int) : impl_InRange.f n a b = some (inR n a b) := by
  unfold impl_InRange.f inR
  by_cases h : a ≤ n
  · rw [if_pos h]; simp [h]
  · rw [if_neg h]; simp [h]
def labV (o : Int) : Int := 2 ^ o.toNat
theorem impl_LabelOf_one {k : Nat} (o : Int) (h1 : 1 ≤ o) (h9 : o ≤ 9) (hk : 2 ≤ k) : impl_LabelOf.f k [o] = some (labV o) := by
  obtain ⟨k, rfl⟩ : ∃ q, k = q + 2 := ⟨k - 2, by omega⟩
  unfold impl_LabelOf.f
  have w1 : wrap64 ((0 : Int) + 1) = 1 := wrap_id (by omega)
  have r0 : rd [o] 0 = o := rfl
  have n1 : (([o] : List Int).length : Int) = 1 := rfl
  have h2 : inR o 1 9 = true := inR_true.2 ⟨h1, h9⟩
  rw [n1, impl_LabelOf.l0, n1, if_pos (by omega), if_pos (by omega), if_pos (by omega), r0, impl_InRange_e, Option.bind_some, h2, if_pos rfl, if_pos (by omega), w1, impl_LabelOf.l0, if_neg (by omega)]
  have : o = 1 ∨ o = 2 ∨ o = 3 ∨ o = 4 ∨ o = 5 ∨ o = 6 ∨ o = 7 ∨ o = 8 ∨ o = 9 := by omega
  rcases this with rfl | rfl | rfl | rfl | rfl | rfl | rfl | rfl | rfl <;> exact congrArg some (by decide)
theorem ownersV_lab (o : Int) (h1 : 1 ≤ o) (h9 : o ≤ 9) : ownersV (labV o) = [o] ∧ isLabelV (labV o) = true := by
  have : o = 1 ∨ o = 2 ∨ o = 3 ∨ o = 4 ∨ o = 5 ∨ o = 6 ∨ o = 7 ∨ o = 8 ∨ o = 9 := by omega
  rcases this with rfl | rfl | rfl | rfl | rfl | rfl | rfl | rfl | rfl <;> exact ⟨by decide, by decide⟩
theorem mayV_lab (l : List S119) (e o t : Int) (h1 : 1 ≤ o) (h9 : o ≤ 9) : mayV l e (labV o) t = (inR t 1 9 && (o == t || (isFlow e o t && hasFlow l e o t))) := by
  unfold mayV
  rw [(ownersV_lab o h1 h9).1, (ownersV_lab o h1 h9).2, mayAll, mayAll, Bool.and_true, Bool.true_and]
theorem laws_contains_l (o : Int) (suf : List Int) : ∀ (pre : List Int) (k : Nat) , (pre ++ suf).length ≤ 1048576 → suf.length < k →
    laws_contains.l0 k (pre ++ suf) o (pre.length : Int) = some (hasI suf o) := by
  induction suf with
  | nil =>
    intro pre k  hb hk
    obtain ⟨k, rfl⟩ := succ_of hk
    rw [laws_contains.l0, if_neg (nil_nlt pre)]
    rfl
  | cons x suf ih =>
    intro pre k  hb hk
    obtain ⟨k, rfl⟩ := succ_of hk
    have hp : pre.length + suf.length < 1048576 := by simp at hb; omega
    have hk1 : suf.length < k := by simpa using hk
    have hb1 : (pre ++ [x] ++ suf).length ≤ 1048576 := by simpa using hb
    have ih1 := ih (pre ++ [x]) k
    rw [laws_contains.l0, if_pos (mid_lt _ _ _), if_pos (len_nn _)]
    try simp only [rd_mid, Option.bind_some]
    rw [wrap_nat (by omega), snoc_len pre x, snoc_eq pre x suf]
    rw [ih1 hb1 hk1, show hasI (x :: suf) o = (x == o || hasI suf o) from rfl]
    by_cases h : x = o <;> simp [h]
theorem laws_contains_e {k : Nat} {l : List Int} (o : Int) (hk : Lv 1 k) (hl : Ok l) : laws_contains.f k l o = some (hasI l o) := by
  have hl' := ok_out hl
  unfold laws_contains.f
  simpa using laws_contains_l o l [] k (by simpa using hl') (lv_pred hk _ (by omega))
theorem impl_IsLabel_e (x : Int) : impl_IsLabel.f x = some (isLabelV x) := by
  unfold impl_IsLabel.f isLabelV
  rw [impl_InRange_e, Option.bind_some]
  cases h : inR x 0 1022 with
  | false => simp
  | true => rw [if_pos rfl, Int.tmod_eq_emod_of_nonneg (inR_true.1 h).1]; simp
theorem wraps_i64s (n : Int) (h0 : 0 ≤ n) (h1 : n < 2 ^ 40) : IntKind.i64.wrap n = n := by
  rw [IntKind.wrap_i64]
  have : n < 1099511627776 := by simpa using h1
  omega
theorem and_one {y : Int} (h0 : 0 ≤ y) (h1 : y < 1099511627776) : Go.bits .and .i64 y 1 = y % 2 := bits_mask .i64 40 (by decide) wraps_i64s 1 (by decide) y h0 (by simpa using h1)
theorem shr_nat {x o : Int} (ho : o ≤ 64) : shr .i64 x o = x / 2 ^ o.toNat := by
  unfold shr
  rw [Nat.min_eq_left]
  have : IntKind.i64.bits = 64 := rfl
  omega
theorem impl_OwnersIn_step (x : Int) (h : isLabelV x = true) (k : Nat) (out : List Int) (o : Int) (h1 : 1 ≤ o) (h9 : o ≤ 9) (ho : out.length ≤ 9) :
    impl_OwnersIn.l0 (k + 1) x out o = impl_OwnersIn.l0 k x (out ++ own1 x o) (o + 1) := by
  have hb := isLabelV_bd h
  have hp : (0 : Int) < 2 ^ o.toNat := Int.pow_pos (by omega)
  have hq : 0 ≤ x / 2 ^ o.toNat ∧ x / 2 ^ o.toNat ≤ x := ⟨Int.ediv_nonneg hb.1 (by omega), Int.ediv_le_self _ hb.1⟩
  rw [impl_OwnersIn.l0, if_pos h9, if_pos (by omega), shr_nat (by omega), and_one hq.1 (by omega), wrap_id (by omega)]
  unfold own1
  by_cases hbit : x / 2 ^ o.toNat % 2 = 1
  · rw [if_pos hbit, if_pos hbit, if_pos (by omega)]
  · rw [if_neg hbit, if_neg hbit, List.append_nil]
theorem impl_OwnersIn_e {k : Nat} (x : Int) (hk : Lv 1 k) : impl_OwnersIn.f k x = some (ownersV x) := by
  have hk' := lv_out hk
  obtain ⟨k, rfl⟩ : ∃ q, k = q + 10 := ⟨k - 10, by omega⟩
  unfold impl_OwnersIn.f ownersV
  rw [Option.bind_some, impl_IsLabel_e, Option.bind_some]
  cases h : isLabelV x with
  | false => rw [if_neg (by simp), if_neg (by simp)]
  | true =>
    have g1 := own1_len x 1
    have g2 := own1_len x 2
    have g3 := own1_len x 3
    have g4 := own1_len x 4
    have g5 := own1_len x 5
    have g6 := own1_len x 6
    have g7 := own1_len x 7
    have g8 := own1_len x 8
    rw [if_pos rfl, impl_OwnersIn_step x h _ _ _ (by omega) (by omega) (by simp), impl_OwnersIn_step x h _ _ _ (by omega) (by omega) (by simp only [List.length_append, List.length_nil, Int.reduceAdd]; omega), impl_OwnersIn_step x h _ _ _ (by omega) (by omega) (by simp only [List.length_append, List.length_nil, Int.reduceAdd]; omega),
      impl_OwnersIn_step x h _ _ _ (by omega) (by omega) (by simp only [List.length_append, List.length_nil, Int.reduceAdd]; omega), impl_OwnersIn_step x h _ _ _ (by omega) (by omega) (by simp only [List.length_append, List.length_nil, Int.reduceAdd]; omega), impl_OwnersIn_step x h _ _ _ (by omega) (by omega) (by simp only [List.length_append, List.length_nil, Int.reduceAdd]; omega),
      impl_OwnersIn_step x h _ _ _ (by omega) (by omega) (by simp only [List.length_append, List.length_nil, Int.reduceAdd]; omega), impl_OwnersIn_step x h _ _ _ (by omega) (by omega) (by simp only [List.length_append, List.length_nil, Int.reduceAdd]; omega), impl_OwnersIn_step x h _ _ _ (by omega) (by omega) (by simp only [List.length_append, List.length_nil, Int.reduceAdd]; omega), impl_OwnersIn.l0, if_neg (by omega), if_pos rfl]
    simp only [List.nil_append, List.append_assoc, Int.reduceAdd]
theorem impl_IsFlow_e (a b c : Int) : impl_IsFlow.f a b c = some (isFlow a b c) := by
  unfold impl_IsFlow.f isFlow
  simp only [impl_InRange_e, Option.bind_some]
  cases inR a 1 5 <;> cases inR b 1 9 <;> simp
def idxF {α : Type} (p : α → Bool) : Nat → List α → Int
  | _, [] => -1
  | n, x :: xs => if p x = true then (n : Int) else idxF p (n + 1) xs
theorem idxF_any {α : Type} (p : α → Bool) : ∀ (l : List α) (n : Nat), decide (idxF p n l ≥ 0) = l.any p
  | [], n => by simp [idxF]
  | x :: xs, n => by
    rw [idxF, List.any_cons]
    cases hx : p x with
    | true => simp
    | false => simp [idxF_any p xs (n + 1)]
theorem slIdx_Flow_l (a b c : Int) (suf : List S119) : ∀ (pre : List S119) (k : Nat) , (pre ++ suf).length ≤ 1048576 → suf.length < k →
    impl_Flow_136.l0 k (pre ++ suf) ((pre ++ suf).length : Int) (pre.length : Int) a b c = some (idxF (fun x => a == x.f0 && (b == x.f1 && c == x.f2)) pre.length suf) := by
  induction suf with
  | nil =>
    intro pre k  hb hk
    obtain ⟨k, rfl⟩ := succ_of hk
    rw [impl_Flow_136.l0, if_neg (nil_nlt pre)]
    rfl
  | cons x suf ih =>
    intro pre k  hb hk
    obtain ⟨k, rfl⟩ := succ_of hk
    have hp : pre.length + suf.length < 1048576 := by simp at hb; omega
    have hk1 : suf.length < k := by simpa using hk
    have hb1 : (pre ++ [x] ++ suf).length ≤ 1048576 := by simpa using hb
    have ih1 := ih (pre ++ [x]) k
    rw [impl_Flow_136.l0, if_pos (mid_lt _ _ _), if_pos (len_nn _), if_pos (mid_lt _ _ _)]
    try simp only [rd119_mid, Option.bind_some]
    rw [wrap_nat (by omega), snoc_len pre x, snoc_eq pre x suf]
    rw [ih1 hb1 hk1, idxF]
    cases (a == x.f0 && (b == x.f1 && c == x.f2)) <;> simp
theorem slHas_Flow_e {k : Nat} {l : List S119} {a b c : Int} (hk : Lv 1 k) (hl : Ok l) : impl_Flow_93.f k l a b c = some (hasFlow l a b c) := by
  have hl' := ok_out hl
  unfold impl_Flow_93.f impl_Flow_136.f hasFlow
  have h := slIdx_Flow_l a b c l [] k (by simpa using hl') (lv_pred hk _ (by omega))
  simp only [List.nil_append, List.length_nil] at h
  rw [show ((0 : Nat) : Int) = 0 from rfl] at h
  rw [h, Option.bind_some, idxF_any]
  congr 1
  congr 1
  funext x
  rw [Bool.beq_comm (a := a), Bool.beq_comm (a := b), Bool.beq_comm (a := c)]
theorem impl_MayFlow_l (l : List S119) (hl : Ok l) (e tt : Int) (suf : List Int) : ∀ (pre : List Int) (k : Nat) , (pre ++ suf).length ≤ 1048576 → suf.length + 1100000 < k →
    impl_MayFlow.l0 k l e tt (pre ++ suf) ((pre ++ suf).length : Int) (pre.length : Int) = some (mayAll l e tt suf) := by
  induction suf with
  | nil =>
    intro pre k  hb hk
    obtain ⟨k, rfl⟩ := succ_of hk
    rw [impl_MayFlow.l0, if_neg (nil_nlt pre)]
    rfl
  | cons x suf ih =>
    intro pre k  hb hk
    obtain ⟨k, rfl⟩ := succ_of hk
    have hp : pre.length + suf.length < 1048576 := by simp at hb; omega
    have hk1 : suf.length + 1100000 < k := by simp only [List.length_cons] at hk; omega
    have hb1 : (pre ++ [x] ++ suf).length ≤ 1048576 := by simpa using hb
    have ih1 := ih (pre ++ [x]) k
    rw [impl_MayFlow.l0, if_pos (mid_lt _ _ _), if_pos (len_nn _), if_pos (mid_lt _ _ _)]
    try simp only [rd_mid, Option.bind_some]
    rw [wrap_nat (by omega), snoc_len pre x, snoc_eq pre x suf]
    rw [impl_IsFlow_e, ih1 hb1 hk1, mayAll]
    by_cases h : x = tt
    · simp [h]
    · rw [if_neg h, Option.bind_some, slHas_Flow_e (show Lv 1 k by unfold Lv; omega) hl, Option.bind_some]
      cases isFlow e x tt <;> cases hasFlow l e x tt <;> simp [h]
theorem impl_MayFlow_e {k : Nat} {l : List S119} (e x tt : Int) (hk : Lv 2 k) (hl : Ok l) : impl_MayFlow.f k l e x tt = some (mayV l e x tt) := by
  have hk' := lv_out hk
  obtain ⟨k, rfl⟩ : ∃ q, k = q + 1 := ⟨k - 1, by omega⟩
  unfold impl_MayFlow.f mayV
  simp only [impl_IsLabel_e, impl_InRange_e, Option.bind_some, impl_MayFlow.j0, impl_OwnersIn_e x (show Lv 1 k by unfold Lv; omega)]
  have h := impl_MayFlow_l l hl e tt (ownersV x) [] k (by have := ownersV_len x; simp only [List.nil_append]; omega) (by have := ownersV_len x; omega)
  simp only [List.nil_append, List.length_nil] at h
  rw [show ((0 : Nat) : Int) = 0 from rfl] at h
  rw [h]
  cases isLabelV x <;> cases inR tt 1 9 <;> simp
theorem spec_l1In_e (n a b : Int) : spec_l1In.f n a b = some (inR n a b) := by
  unfold spec_l1In.f inR
  by_cases h : n ≥ a
  · rw [if_pos h]; simp [show a ≤ n from h]
  · rw [if_neg h]; simp [show ¬ a ≤ n from h]
theorem spec_IsLabel_e (x : Int) : spec_IsLabel.f x = some (isLabelV x) := by
  unfold spec_IsLabel.f isLabelV
  rw [spec_l1In_e, Option.bind_some]
  cases h : inR x 0 1022 with
  | false => simp
  | true => rw [if_pos rfl, Int.tmod_eq_emod_of_nonneg (inR_true.1 h).1]; simp
theorem spec_l19Bit_l : ∀ (n k : Nat) (o v i : Int), o - i = n → 0 ≤ i → n < k → 0 ≤ v → v * 2 ^ n ≤ 4611686018427387904 → o ≤ 100 → spec_l19Bit.l0 k o v i = some (v * 2 ^ n) := by
  intro n
  induction n with
  | zero =>
    intro k o v i h h0 hk hv hb ho
    obtain ⟨k, rfl⟩ := succ_of hk
    rw [spec_l19Bit.l0, if_neg (by omega)]
    simp
  | succ n ih =>
    intro k o v i h h0 hk hv hb ho
    obtain ⟨k, rfl⟩ := succ_of hk
    have e : v * 2 ^ (n + 1) = (2 * v) * 2 ^ n := by rw [Int.pow_succ]; rw [Int.mul_comm 2 v, Int.mul_assoc, Int.mul_comm 2]
    have hp : (1 : Int) ≤ 2 ^ n := Int.pow_pos (by omega)
    have h2 : 2 * v ≤ (2 * v) * 2 ^ n := by
      have := Int.mul_le_mul_of_nonneg_left hp (show 0 ≤ 2 * v by omega)
      omega
    rw [e] at hb ⊢
    rw [spec_l19Bit.l0, if_pos (by omega), wrap_id (n := 2 * v) (by omega), wrap_id (by omega)]
    exact ih k o (2 * v) (i + 1) (by omega) (by omega) (by omega) (by omega) hb ho
theorem spec_l19Bit_e {k : Nat} (o : Int) (hk : 20 ≤ k) (h1 : 1 ≤ o) (h9 : o ≤ 9) : spec_l19Bit.f k o = some (2 ^ o.toNat) := by
  unfold spec_l19Bit.f
  have hb : (1 : Int) * 2 ^ o.toNat ≤ 4611686018427387904 := by
    have : o = 1 ∨ o = 2 ∨ o = 3 ∨ o = 4 ∨ o = 5 ∨ o = 6 ∨ o = 7 ∨ o = 8 ∨ o = 9 := by omega
    rcases this with rfl | rfl | rfl | rfl | rfl | rfl | rfl | rfl | rfl <;> decide
  rw [spec_l19Bit_l o.toNat k o 1 0 (by omega) (by omega) (by omega) (by omega) hb (by omega), Int.one_mul]
theorem pow_pos9 (o : Int) (h1 : 1 ≤ o) (h9 : o ≤ 9) : (0 : Int) < 2 ^ o.toNat := Int.pow_pos (by omega)
theorem spec_OwnersIn_step (x : Int) (h : isLabelV x = true) (k : Nat) (out : List Int) (o : Int) (h1 : 1 ≤ o) (h9 : o ≤ 9) (hk : 20 ≤ k) (ho : out.length ≤ 9) :
    spec_OwnersIn.l0 (k + 2) x out o = spec_OwnersIn.l0 k x (out ++ own1 x o) (o + 1) := by
  have hb := isLabelV_bd h
  have hp := pow_pos9 o h1 h9
  have hd : Int.tdiv x (2 ^ o.toNat) = x / 2 ^ o.toNat := Int.tdiv_eq_ediv_of_nonneg hb.1
  have hq : 0 ≤ x / 2 ^ o.toNat ∧ x / 2 ^ o.toNat ≤ x := ⟨Int.ediv_nonneg hb.1 (by omega), Int.ediv_le_self _ hb.1⟩
  rw [spec_OwnersIn.l0, if_pos h9, spec_IsLabel_e, Option.bind_some, h, spec_OwnersIn.j1, if_pos rfl, spec_l19Bit_e o hk h1 h9, Option.bind_some, if_neg (by omega), hd, wrap_id (n := x / 2 ^ o.toNat) (by omega), Int.tmod_eq_emod_of_nonneg hq.1, wrap_id (by omega)]
  unfold own1
  by_cases hbit : x / 2 ^ o.toNat % 2 = 1
  · rw [if_pos hbit, if_pos hbit, if_pos (by omega)]
  · rw [if_neg hbit, if_neg hbit, List.append_nil]
theorem spec_OwnersIn_e {k : Nat} (x : Int) (hk : Lv 1 k) : spec_OwnersIn.f k x = some (ownersV x) := by
  have hk' := lv_out hk
  obtain ⟨k, rfl⟩ : ∃ q, k = q + 20 := ⟨k - 20, by omega⟩
  unfold spec_OwnersIn.f ownersV
  cases h : isLabelV x with
  | false =>
    rw [spec_OwnersIn.l0, if_pos (by omega), spec_IsLabel_e, Option.bind_some, h, spec_OwnersIn.j1, if_neg (by simp), if_neg (by simp)]
  | true =>
    have g1 := own1_len x 1
    have g2 := own1_len x 2
    have g3 := own1_len x 3
    have g4 := own1_len x 4
    have g5 := own1_len x 5
    have g6 := own1_len x 6
    have g7 := own1_len x 7
    have g8 := own1_len x 8
    rw [spec_OwnersIn_step x h _ _ _ (by omega) (by omega) (by omega) (by simp), spec_OwnersIn_step x h _ _ _ (by omega) (by omega) (by omega) (by simp only [List.length_append, List.length_nil, Int.reduceAdd]; omega), spec_OwnersIn_step x h _ _ _ (by omega) (by omega) (by omega) (by simp only [List.length_append, List.length_nil, Int.reduceAdd]; omega),
      spec_OwnersIn_step x h _ _ _ (by omega) (by omega) (by omega) (by simp only [List.length_append, List.length_nil, Int.reduceAdd]; omega), spec_OwnersIn_step x h _ _ _ (by omega) (by omega) (by omega) (by simp only [List.length_append, List.length_nil, Int.reduceAdd]; omega), spec_OwnersIn_step x h _ _ _ (by omega) (by omega) (by omega) (by simp only [List.length_append, List.length_nil, Int.reduceAdd]; omega),
      spec_OwnersIn_step x h _ _ _ (by omega) (by omega) (by omega) (by simp only [List.length_append, List.length_nil, Int.reduceAdd]; omega), spec_OwnersIn_step x h _ _ _ (by omega) (by omega) (by omega) (by simp only [List.length_append, List.length_nil, Int.reduceAdd]; omega), spec_OwnersIn_step x h _ _ _ (by omega) (by omega) (by omega) (by simp only [List.length_append, List.length_nil, Int.reduceAdd]; omega), spec_OwnersIn.l0, if_neg (by omega), spec_OwnersIn.j1, if_neg (by simp), if_pos rfl]
    simp only [List.nil_append, List.append_assoc, Int.reduceAdd]
theorem spec_IsFlow_e (a b c : Int) : spec_IsFlow.f a b c = some (isFlow a b c) := by
  unfold spec_IsFlow.f isFlow
  simp only [spec_l1In_e, Option.bind_some]
  cases inR a 1 5 <;> cases inR b 1 9 <;> simp
theorem spec_l20Has_l (a b c : Int) (suf : List S119) : ∀ (pre : List S119) (k : Nat) , (pre ++ suf).length ≤ 1048576 → suf.length < k →
    spec_l20Has.l0 k (pre ++ suf) (pre.length : Int) a b c = some (hasFlow suf a b c) := by
  induction suf with
  | nil =>
    intro pre k  hb hk
    obtain ⟨k, rfl⟩ := succ_of hk
    rw [spec_l20Has.l0, if_neg (nil_nlt pre)]
    simp [hasFlow]
  | cons x suf ih =>
    intro pre k  hb hk
    obtain ⟨k, rfl⟩ := succ_of hk
    have hp : pre.length + suf.length < 1048576 := by simp at hb; omega
    have hk1 : suf.length < k := by simpa using hk
    have hb1 : (pre ++ [x] ++ suf).length ≤ 1048576 := by simpa using hb
    have ih1 := ih (pre ++ [x]) k
    rw [spec_l20Has.l0, if_pos (mid_lt _ _ _), if_pos (len_nn _)]
    try simp only [rd119_mid, Option.bind_some]
    rw [wrap_nat (by omega), snoc_len pre x, snoc_eq pre x suf]
    rw [ih1 hb1 hk1, show hasFlow (x :: suf) a b c = (x.f0 == a && (x.f1 == b && x.f2 == c) || hasFlow suf a b c) from rfl]
    cases (x.f0 == a && (x.f1 == b && x.f2 == c)) <;> simp
theorem spec_l20Has_e {k : Nat} {l : List S119} {a b c : Int} (hk : Lv 1 k) (hl : Ok l) : spec_l20Has.f k l a b c = some (hasFlow l a b c) := by
  have hl' := ok_out hl
  unfold spec_l20Has.f
  simpa using spec_l20Has_l a b c l [] k (by simpa using hl') (lv_pred hk _ (by omega))
theorem spec_MayFlow_l (l : List S119) (hl : Ok l) (e x tt : Int) (suf : List Int) : ∀ (pre : List Int) (k : Nat) , (pre ++ suf).length ≤ 1048576 → suf.length + 1100000 < k →
    spec_MayFlow.l0 k l e x tt (pre ++ suf) (pre.length : Int) = some (mayAll l e tt suf && (isLabelV x && inR tt 1 9)) := by
  induction suf with
  | nil =>
    intro pre k  hb hk
    obtain ⟨k, rfl⟩ := succ_of hk
    rw [spec_MayFlow.l0, if_neg (nil_nlt pre)]
    rw [spec_IsLabel_e, Option.bind_some, spec_l1In_e, Option.bind_some, mayAll]; cases isLabelV x <;> simp
  | cons y suf ih =>
    intro pre k  hb hk
    obtain ⟨k, rfl⟩ := succ_of hk
    have hp : pre.length + suf.length < 1048576 := by simp at hb; omega
    have hk1 : suf.length + 1100000 < k := by simp only [List.length_cons] at hk; omega
    have hb1 : (pre ++ [y] ++ suf).length ≤ 1048576 := by simpa using hb
    have ih1 := ih (pre ++ [y]) k
    rw [spec_MayFlow.l0, if_pos (mid_lt _ _ _), if_pos (len_nn _)]
    try simp only [rd_mid, Option.bind_some]
    rw [wrap_nat (by omega), snoc_len pre y, snoc_eq pre y suf]
    rw [spec_IsFlow_e, ih1 hb1 hk1, mayAll]
    by_cases h : y = tt
    · simp [h]
    · rw [if_neg h, Option.bind_some, spec_l20Has_e (show Lv 1 k by unfold Lv; omega) hl, Option.bind_some]
      cases isFlow e y tt <;> cases hasFlow l e y tt <;> simp [h]
theorem spec_MayFlow_e {k : Nat} {l : List S119} (e x tt : Int) (hk : Lv 2 k) (hl : Ok l) : spec_MayFlow.f k l e x tt = some (mayV l e x tt) := by
  have hk' := lv_out hk
  unfold spec_MayFlow.f mayV
  rw [spec_OwnersIn_e x (lv_mono hk), Option.bind_some]
  have h := spec_MayFlow_l l hl e x tt (ownersV x) [] k (by have := ownersV_len x; simp only [List.nil_append]; omega) (by have := ownersV_len x; omega)
  simp only [List.nil_append, List.length_nil] at h
  rw [show ((0 : Nat) : Int) = 0 from rfl] at h
  rw [h]
  cases isLabelV x <;> cases inR tt 1 9 <;> simp
theorem impl_TargetsOf_step {l : List S119} (hl : Ok l) (e x : Int) (k : Nat) (out : List Int) (o : Int) (h1 : 1 ≤ o) (h9 : o ≤ 9) (hk : Lv 2 k) (ho : out.length ≤ 9) :
    impl_TargetsOf.l0 (k + 1) l e x out o = impl_TargetsOf.l0 k l e x (out ++ tgt1 l e x o) (o + 1) := by
  rw [impl_TargetsOf.l0, if_pos h9, impl_MayFlow_e e x o hk hl, Option.bind_some, wrap_id (by omega)]
  unfold tgt1
  cases mayV l e x o with
  | false => simp
  | true => rw [if_pos rfl, if_pos rfl, if_pos (by omega)]
theorem impl_TargetsOf_e {k : Nat} {l : List S119} (e x : Int) (hk : Lv 3 k) (hl : Ok l) : impl_TargetsOf.f k l e x = some (targetsV l e x) := by
  have hk' := lv_out hk
  obtain ⟨k, rfl⟩ : ∃ q, k = q + 10 := ⟨k - 10, by omega⟩
  unfold impl_TargetsOf.f targetsV
  have g1 := tgt1_len l e x 1
  have g2 := tgt1_len l e x 2
  have g3 := tgt1_len l e x 3
  have g4 := tgt1_len l e x 4
  have g5 := tgt1_len l e x 5
  have g6 := tgt1_len l e x 6
  have g7 := tgt1_len l e x 7
  have g8 := tgt1_len l e x 8
  rw [impl_TargetsOf_step hl e x _ _ _ (by omega) (by omega) (show Lv 2 _ by unfold Lv; omega) (by simp only [List.length_append, List.length_nil, Int.reduceAdd]; omega), impl_TargetsOf_step hl e x _ _ _ (by omega) (by omega) (show Lv 2 _ by unfold Lv; omega) (by simp only [List.length_append, List.length_nil, Int.reduceAdd]; omega), impl_TargetsOf_step hl e x _ _ _ (by omega) (by omega) (show Lv 2 _ by unfold Lv; omega) (by simp only [List.length_append, List.length_nil, Int.reduceAdd]; omega), impl_TargetsOf_step hl e x _ _ _ (by omega) (by omega) (show Lv 2 _ by unfold Lv; omega) (by simp only [List.length_append, List.length_nil, Int.reduceAdd]; omega), impl_TargetsOf_step hl e x _ _ _ (by omega) (by omega) (show Lv 2 _ by unfold Lv; omega) (by simp only [List.length_append, List.length_nil, Int.reduceAdd]; omega), impl_TargetsOf_step hl e x _ _ _ (by omega) (by omega) (show Lv 2 _ by unfold Lv; omega) (by simp only [List.length_append, List.length_nil, Int.reduceAdd]; omega), impl_TargetsOf_step hl e x _ _ _ (by omega) (by omega) (show Lv 2 _ by unfold Lv; omega) (by simp only [List.length_append, List.length_nil, Int.reduceAdd]; omega), impl_TargetsOf_step hl e x _ _ _ (by omega) (by omega) (show Lv 2 _ by unfold Lv; omega) (by simp only [List.length_append, List.length_nil, Int.reduceAdd]; omega), impl_TargetsOf_step hl e x _ _ _ (by omega) (by omega) (show Lv 2 _ by unfold Lv; omega) (by simp only [List.length_append, List.length_nil, Int.reduceAdd]; omega), impl_TargetsOf.l0, if_neg (by omega)]
  simp only [List.nil_append, List.append_assoc, Int.reduceAdd]
theorem impl_FlowsOf_l (a : Int) (suf : List S119) : ∀ (pre : List S119) (k : Nat) (out : List S119), out.length ≤ pre.length → (pre ++ suf).length ≤ 1048576 → suf.length < k →
    impl_FlowsOf.l0 k a out (pre ++ suf) ((pre ++ suf).length : Int) (pre.length : Int) = some (out ++ suf.filter (fun x => x.f0 == a)) := by
  induction suf with
  | nil =>
    intro pre k out H hb hk
    obtain ⟨k, rfl⟩ := succ_of hk
    rw [impl_FlowsOf.l0, if_neg (nil_nlt pre)]
    simp
  | cons x suf ih =>
    intro pre k out H hb hk
    obtain ⟨k, rfl⟩ := succ_of hk
    have hp : pre.length + suf.length < 1048576 := by simp at hb; omega
    have hk1 : suf.length < k := by simpa using hk
    have hb1 : (pre ++ [x] ++ suf).length ≤ 1048576 := by simpa using hb
    have ih1 := ih (pre ++ [x]) k
    rw [impl_FlowsOf.l0, if_pos (mid_lt _ _ _), if_pos (len_nn _), if_pos (mid_lt _ _ _)]
    try simp only [rd119_mid, Option.bind_some]
    rw [wrap_nat (by omega), snoc_len pre x, snoc_eq pre x suf]
    rw [ih1 out (by simp; omega) hb1 hk1, ih1 (out ++ [x]) (by simp; omega) hb1 hk1, if_pos (show out.length < 5864062014805 by omega)]
    (repeat (any_goals split)) <;> simp_all [List.filter_cons]
theorem impl_FlowsOf_e {k : Nat} {l : List S119} {a : Int} (hk : Lv 1 k) (hl : Ok l) : impl_FlowsOf.f k l a = some (l.filter (fun x => x.f0 == a)) := by
  have hl' := ok_out hl
  unfold impl_FlowsOf.f
  simpa using impl_FlowsOf_l a l [] k [] (by simp) (by simpa using hl') (lv_pred hk _ (by omega))
theorem impl_FlowsWithin_l (m : List S119) (hm : Ok m) (suf : List S119) : ∀ (pre : List S119) (k : Nat) , (pre ++ suf).length ≤ 1048576 → suf.length + 1100000 < k →
    impl_FlowsWithin.l0 k m (pre ++ suf) ((pre ++ suf).length : Int) (pre.length : Int) = some (withinFlow suf m) := by
  induction suf with
  | nil =>
    intro pre k  hb hk
    obtain ⟨k, rfl⟩ := succ_of hk
    rw [impl_FlowsWithin.l0, if_neg (nil_nlt pre)]
    rfl
  | cons x suf ih =>
    intro pre k  hb hk
    obtain ⟨k, rfl⟩ := succ_of hk
    have hp : pre.length + suf.length < 1048576 := by simp at hb; omega
    have hk1 : suf.length + 1100000 < k := by simp only [List.length_cons] at hk; omega
    have hb1 : (pre ++ [x] ++ suf).length ≤ 1048576 := by simpa using hb
    have ih1 := ih (pre ++ [x]) k
    rw [impl_FlowsWithin.l0, if_pos (mid_lt _ _ _), if_pos (len_nn _), if_pos (mid_lt _ _ _)]
    try simp only [rd119_mid, Option.bind_some]
    rw [wrap_nat (by omega), snoc_len pre x, snoc_eq pre x suf]
    rw [impl_IsFlow_e, slHas_Flow_e (show Lv 1 k by unfold Lv; omega) hm, ih1 hb1 hk1, withinFlow]
    cases isFlow x.f0 x.f1 x.f2 <;> cases hasFlow m x.f0 x.f1 x.f2 <;> simp
theorem impl_FlowsWithin_e {k : Nat} {l m : List S119} (hk : Lv 2 k) (hl : Ok l) (hm : Ok m) : impl_FlowsWithin.f k l m = some (withinFlow l m) := by
  have hl' := ok_out hl
  have hk' := lv_out hk
  unfold impl_FlowsWithin.f
  simpa using impl_FlowsWithin_l m hm l [] k (by simpa using hl') (by omega)
theorem flaw_l (l0 : List Int) (fl : List S119) (hf : Ok fl) (e x t : Int) (may : Bool) (suf : List Int) : ∀ (pre : List Int) (K k : Nat) (s : Bool), Lv 3 K → (∀ y ∈ suf, 1 ≤ y ∧ y ≤ 9) → (s = true → inR t 1 9 = true) → (pre ++ suf).length ≤ 1048576 → k = K + suf.length + 1 →
    laws_FnFlows.l0 k l0 fl e x t may s (pre ++ suf) (pre.length : Int) = if (may != (s && mayAll fl e t suf)) = true then laws_FnFlows.j2 K l0 fl e x t may (pre ++ suf) true else ((impl_TargetsOf.f K fl e x).bind fun t317 => ((laws_contains.f K t317 t).bind fun t320 => (laws_FnFlows.j2 K l0 fl e x t may (pre ++ suf) (may != t320)))) := by
  induction suf with
  | nil =>
    intro pre K k s hK hm hs hb hk
    subst hk
    rw [List.length_nil, Nat.add_zero, laws_FnFlows.l0, if_neg (nil_nlt pre), mayAll, Bool.and_true]
  | cons y suf ih =>
    intro pre K k s hK hm hs hb hk
    simp only [List.length_cons] at hk
    have hK' := lv_out hK
    obtain ⟨k, rfl⟩ : ∃ q, k = q + 1 := ⟨k - 1, by omega⟩
    have hp : pre.length + suf.length < 1048576 := by simp at hb; omega
    have hy := hm y (by simp)
    have h := fun s hs => ih (pre ++ [y]) K k s hK (fun z hz => hm z (by simp [hz])) hs (by simpa using hb) (by omega)
    rw [laws_FnFlows.l0, if_pos (mid_lt _ _ _), if_pos (len_nn _), rd_mid, impl_LabelOf_one y hy.1 hy.2 (by omega), Option.bind_some, impl_MayFlow_e e (labV y) t (show Lv 2 k by unfold Lv; omega) hf, Option.bind_some, wrap_nat (by omega), snoc_len pre y, snoc_eq pre y suf]
    rw [mayV_lab fl e y t hy.1 hy.2, mayAll]
    cases s with
    | false =>
      rw [if_neg (by simp), h false (by simp)]
      simp only [Bool.false_and]
    | true =>
      have ht := hs rfl
      rw [if_pos rfl, ht, Bool.true_and, h _ (fun _ => ht)]
      simp only [Bool.true_and]
theorem flaw_j3 (k : Nat) (e x : Int) (hk : Lv 3 k) : laws_FnFlows.j3 (k + 1) e x (ownersV x) false = some true := by
  rw [laws_FnFlows.j3, if_neg (by simp), impl_IsLabel_e, Option.bind_some]
  cases hL : isLabelV x with
  | false => simp
  | true =>
    rw [if_pos rfl]
    rcases hO : ownersV x with _ | ⟨o, os⟩
    · simp
    · rcases os with _ | ⟨o2, os⟩
      · have ho := ownersV_mem (x := x) (y := o) (by rw [hO]; simp)
        have hm : mayV [] e x o = true := by
          unfold mayV
          rw [hL, hO, inR_true.2 ho]
          simp [mayAll]
        have hr : rd [o] 0 = o := rfl
        rw [if_neg (by simp), if_neg (by simp), if_pos (by simp), hr, impl_MayFlow_e e x o (lv_mono hk) (ok_small 0 (by simp) (by omega)), hm]
        rfl
      · rw [if_pos (by simp only [List.length_cons]; omega)]
theorem flaw_j2 (k : Nat) (l0 : List Int) (hl : Ok l0) (fl : List S119) (hf : Ok fl) (e x t : Int) (hk : Lv 4 k) : laws_FnFlows.j2 (k + 2) l0 fl e x t (mayV fl e x t) (ownersV x) false = some true := by
  have hk' := lv_out hk
  obtain ⟨xs, ys, eD, hxs, hys⟩ := spec_DrawFlowsWithin_t (k := k + 1) (show Lv 1 _ by unfold Lv; omega) hl
  have hA : Lv 2 (k + 1) := by unfold Lv; omega
  have hj : ∀ b, b = false → laws_FnFlows.j3 (k + 1) e x (ownersV x) b = some true := fun b hb => by subst hb; exact flaw_j3 k e x (lv_mono hk)
  rw [laws_FnFlows.j2, if_neg (by simp), impl_FlowsOf_e (a := e) (lv_mono hA) hf, Option.bind_some, impl_MayFlow_e e x t hA (ok_filter hf), Option.bind_some, mayV_filter]
  simp only [eD, Option.bind_some, bne_self_eq_false, Bool.false_eq_true, if_false, impl_FlowsWithin_e hA hxs hys, impl_MayFlow_e e x t hA hxs, impl_MayFlow_e e x t hA hys]
  cases hw : withinFlow xs ys with
  | false => rw [if_neg (by simp)]; exact hj _ rfl
  | true =>
    rw [if_pos rfl]
    cases hm : mayV xs e x t with
    | false => rw [if_neg (by simp)]; exact hj _ rfl
    | true => rw [if_pos rfl]; exact hj _ (by rw [mayV_mono hw hm]; rfl)
theorem flaw_j0 (k : Nat) (l0 : List Int) (hl : Ok l0) (fl : List S119) (hf : Ok fl) (e x t : Int) (s : Bool) (hs : s = (isLabelV x && inR t 1 9)) (hk : Lv 6 k) : laws_FnFlows.j0 (k + 1) l0 fl e x t (mayV fl e x t) s = some true := by
  have hk' := lv_out hk
  have hlen := ownersV_len x
  rw [laws_FnFlows.j0, impl_OwnersIn_e x (lv_mono hk), Option.bind_some]
  have h := flaw_l l0 fl hf e x t (mayV fl e x t) (ownersV x) [] (k - (ownersV x).length - 1) k s (by unfold Lv; omega) (fun y hy => ownersV_mem hy) (by intro h; rw [hs] at h; simp only [Bool.and_eq_true] at h; exact h.2) (by simp only [List.nil_append]; omega) (by omega)
  simp only [List.nil_append, List.length_nil] at h
  rw [show ((0 : Nat) : Int) = 0 from rfl] at h
  have e1 : (s && mayAll fl e t (ownersV x)) = mayV fl e x t := by rw [hs]; unfold mayV; rw [Bool.and_assoc]
  obtain ⟨q, hq⟩ : ∃ q, k - (ownersV x).length - 1 = q + 2 := ⟨k - (ownersV x).length - 3, by omega⟩
  rw [hq] at h
  rw [h, e1, impl_TargetsOf_e e x (show Lv 3 (q + 2) by unfold Lv; omega) hf, Option.bind_some, laws_contains_e t (show Lv 1 (q + 2) by unfold Lv; omega) (ok_small 9 (targetsV_len _ _ _) (by omega)), Option.bind_some, hasI_targets]
  simp only [bne_self_eq_false, Bool.false_eq_true, if_false]
  exact flaw_j2 q l0 hl fl hf e x t (by unfold Lv; omega)
theorem FnFlows : ∀ (l0 : List Int), l0.length ≤ maxLen → (∀ x ∈ l0, (Lit.int .u8 x).wf = true) → ∃ k, laws_FnFlows.f k l0 = some true := by
  intro l0 hm0 _
  by_cases hb : (l0.length : Int) > 1048576
  · refine ⟨0, ?_⟩
    unfold laws_FnFlows.f laws_big.f
    rw [decide_eq_true hb]
    rfl
  · have hl : Ok l0 := by unfold Ok; omega
    obtain ⟨k, hk⟩ := big_some
    refine ⟨k + 1, ?_⟩
    have hk0 := big_succ hk
    obtain ⟨fl, e, x, t, eD, hf⟩ := spec_DrawMayFlow_t (k := k + 1) (lv hk0) hl
    have hj : ∀ s, s = (isLabelV x && inR t 1 9) → laws_FnFlows.j0 (k + 1) l0 fl e x t (mayV fl e x t) s = some true := fun s hs => flaw_j0 k l0 hl fl hf e x t s hs (lv hk)
    unfold laws_FnFlows.f laws_big.f
    rw [decide_eq_false hb]
    simp only [Option.bind_some, Bool.false_eq_true, if_false, eD, impl_MayFlow_e e x t (lv hk0) hf, spec_MayFlow_e e x t (lv hk0) hf, bne_self_eq_false, impl_IsLabel_e]
    cases hL : isLabelV x with
    | false => rw [if_neg (by simp)]; exact hj _ (by rw [hL]; rfl)
    | true =>
      rw [if_pos rfl]
      by_cases h1 : t ≥ 1
      · rw [if_pos h1]; exact hj _ (by rw [hL, Bool.true_and]; unfold inR; rw [decide_eq_decide]; omega)
      · rw [if_neg h1]; exact hj _ (by rw [hL, Bool.true_and, inR_false.2 (by omega)])
end Go.Proofs.Ytdpmigainnmegaa.Pure
