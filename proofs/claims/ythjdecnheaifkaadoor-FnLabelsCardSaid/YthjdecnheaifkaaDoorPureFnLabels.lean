/- The law FnLabels as a statement over numbers and lists, with its proof; no conditions but the bounds of the values' types and of the slices' lengths. -/
import Derived.Test.YthjdecnheaifkaaDoorPFnLabels2
set_option linter.unusedVariables false
set_option linter.unusedSimpArgs false
namespace Go.Proofs.YthjdecnheaifkaaDoor.PFnLabels.Pure
open Go Go.Eng Go.Proofs
theorem laws_big_e (k : Nat) (l : List Int) : laws_big.f k l = some (decide ((l.length : Int) > 1048576)) := rfl
def Ret' {α : Type} (o : Option α) (P : α → Prop) : Prop := ∃ t, o = some t ∧ P t
theorem Ret'.bind {α β : Type} {o : Option α} {P : α → Prop} {f : α → Option β} {Q : β → Prop} (h : Ret' o P) (k : ∀ t, P t → Ret' (f t) Q) : Ret' (o.bind f) Q := by
  obtain ⟨t, rfl, ht⟩ := h
  exact k t ht
theorem Ret'.some {α : Type} {t : α} {P : α → Prop} (h : P t) : Ret' (Option.some t) P := ⟨t, rfl, h⟩
theorem Ret'.imp {α : Type} {o : Option α} {P Q : α → Prop} (h : Ret' o P) (k : ∀ t, P t → Q t) : Ret' o Q := by
  obtain ⟨t, e, ht⟩ := h
  exact ⟨t, e, k t ht⟩
theorem Ret'.bif {α : Type} {c : Bool} {x y : Option α} {P : α → Prop} (h : c = true → Ret' x P) (k : c = false → Ret' y P) : Ret' (bif c then x else y) P := by
  cases c
  · exact k rfl
  · exact h rfl
theorem i64_and255 (n : Int) : bitop .and .i64 n 255 = n % 256 := by
  have h127 : (BitVec.ofInt 64 255).toNat = 2 ^ 8 - 1 := by decide
  have key : (BitVec.ofInt 64 n &&& BitVec.ofInt 64 255).toNat = (n % ((2 ^ 64 : Nat) : Int)).toNat % 2 ^ 8 := by
    rw [BitVec.toNat_and, BitVec.toNat_ofInt, h127, Nat.and_two_pow_sub_one_eq_mod]
  show IntKind.i64.wrap ((BitVec.ofInt 64 n &&& BitVec.ofInt 64 255).toNat : Nat) = n % 256
  rw [key, show ∀ m : Int, IntKind.i64.wrap m = w64 m from fun _ => rfl, w64_id (by omega)]
  omega
def Pos (l : List Int) (p : Int) : Prop := 0 ≤ p ∧ p ≤ (l.length : Int) ∧ (l.length : Int) ≤ 1048576
theorem tmod_bd {b a : Int} (hb : 0 ≤ b) (ha : 0 < a) : 0 ≤ Int.tmod b a ∧ Int.tmod b a < a := by
  rw [Int.tmod_eq_emod_of_nonneg hb]
  exact ⟨Int.emod_nonneg _ (by omega), Int.emod_lt_of_pos _ ha⟩
theorem spec_l1Byte_t (k : Nat) {l : List Int} {p : Int} (h : Int) (hp : Pos l p) : Ret' (spec_l1Byte.f k l p h) fun t => Pos l t.2.1 ∧ 0 ≤ t.1 ∧ t.1 ≤ 255 := by
  obtain ⟨h0, h1, h2⟩ := hp
  unfold spec_l1Byte.f
  simp only [i64_and255]
  refine Ret'.bif (fun c => ?_) (fun c => .some ⟨⟨h0, h1, h2⟩, by simp only; omega, by simp only; omega⟩)
  have c := of_decide_eq_true c
  rw [decide_eq_true h0, cond_true, decide_eq_true c, cond_true]
  exact .some ⟨by simp only; rw [w64_id (by omega)]; unfold Pos; omega, by simp only; omega, by simp only; omega⟩
theorem spec_l1Below_t (k : Nat) {l : List Int} {p : Int} (h : Int) (hp : Pos l p) (a : Int) (ha : 0 < a) : Ret' (spec_l1Below.f k l p h a) fun t => Pos l t.2.1 ∧ 0 ≤ t.1 ∧ t.1 < a := by
  unfold spec_l1Below.f
  rw [decide_eq_false (show ¬ a ≤ 0 by omega), cond_false]
  refine Ret'.bif (fun c => ?_) (fun c => ?_)
  · refine (spec_l1Byte_t k h hp).bind fun t ⟨q, b0, b1⟩ => ?_
    rw [decide_eq_false (show ¬ a = 0 by omega), cond_false]
    exact .some ⟨q, tmod_bd b0 ha⟩
  · refine (spec_l1Byte_t k h hp).bind fun t ⟨q, b0, b1⟩ => (spec_l1Byte_t k _ q).bind fun t2 ⟨q2, c0, c1⟩ => (spec_l1Byte_t k _ q2).bind fun t3 ⟨q3, d0, d1⟩ => ?_
    rw [decide_eq_false (show ¬ a = 0 by omega), cond_false, w64_id (n := t.1 * 65536) (by omega), w64_id (n := t2.1 * 256) (by omega), w64_id (n := t.1 * 65536 + t2.1 * 256) (by omega), w64_id (by omega)]
    exact .some ⟨q3, tmod_bd (by omega) ha⟩
theorem spec_l1Once_t (k : Nat) {l : List Int} {p : Int} (h : Int) (hp : Pos l p) (a : Int) (ha : 0 < a) : Ret' (spec_l1Once.f k l p h a) fun t => Pos l t.2.1 := by
  unfold spec_l1Once.f
  exact (spec_l1Below_t k h hp a ha).bind fun t ⟨q, _⟩ => .some q
theorem spec_l1Int_m (k : Nat) {l : List Int} {p : Int} (h : Int) (hp : Pos l p) (xs : List Int) (hx : 0 < (xs.length : Int)) : Ret' (spec_l1Int.f k l p h xs) fun t => Pos l t.2.1 ∧ t.1 ∈ xs := by
  unfold spec_l1Int.f
  refine (spec_l1Below_t k h hp _ hx).bind fun t ⟨q, b0, b1⟩ => ?_
  rw [decide_eq_true b0, cond_true, decide_eq_true b1, cond_true]
  refine .some ⟨q, ?_⟩
  obtain ⟨n, hn⟩ := Int.eq_ofNat_of_zero_le b0
  have hlt : n < xs.length := by omega
  simp only [rd_i64, hn]
  show xs.getD n z_i64 ∈ xs
  rw [List.getD_eq_getElem?_getD, List.getElem?_eq_getElem hlt]
  exact List.getElem_mem hlt
theorem spec_l19Draw_t (k : Nat) {l : List Int} {p : Int} (h : Int) (hp : Pos l p) : Ret' (spec_l19Draw.f k l p h) fun t => Pos l t.2.1 := by
  unfold spec_l19Draw.f
  exact (spec_l1Once_t k h hp 8 (by decide)).bind fun t1 q => .bif (fun _ => (spec_l1Int_m k _ q _ (by decide)).bind fun t2 q => .some q.1) fun _ => (spec_l1Below_t k _ q 512 (by decide)).bind fun t3 q => .some q.1
theorem spec_l1New_l {l : List Int} (hl : Ok l) (k : Nat) : ∀ (n q : Nat) (h : Int) (i : Nat), 4000 ≤ i + n → i ≤ 4000 → n < q → Ret' (spec_l1New.l3 k l (fun y => some ((0 : Int), y)) q h (i : Int)) fun t => t.1 = 0 := by
  have hl' := hl.out
  intro n
  induction n with
  | zero =>
    intro q h i h1 h2 hq
    obtain ⟨q, rfl⟩ : ∃ j, q = j + 1 := ⟨q - 1, by omega⟩
    simp only [spec_l1New.l3, spec_l1New.L3]
    refine Ret'.bif (fun c => ?_) (fun c => .some rfl)
    rw [decide_eq_false (show ¬ ((i : Int) < 4000) by omega)]
    exact .some rfl
  | succ n ih =>
    intro q h i h1 h2 hq
    obtain ⟨q, rfl⟩ : ∃ j, q = j + 1 := ⟨q - 1, by omega⟩
    simp only [spec_l1New.l3, spec_l1New.L3]
    refine Ret'.bif (fun c => ?_) (fun c => .some rfl)
    refine Ret'.bif (fun c2 => ?_) (fun c2 => .some rfl)
    have c2 := of_decide_eq_true c2
    rw [nn_, cond_true, c, cond_true, w64_id (n := (i : Int) + 1) (by omega)]
    exact ih q _ (i + 1) (by omega) (by omega) (by omega)
theorem spec_l1New_t {k : Nat} (hk : Big k) {l : List Int} (hl : Ok l) : Ret' (spec_l1New.f k l) fun t => Pos l t.1 := by
  have hl' := hl.out
  have hk' := hk.out
  unfold spec_l1New.f
  exact (spec_l1New_l hl k 4000 k _ 0 (by omega) (by omega) (by omega)).imp fun t ht => by rw [ht]; unfold Pos; omega
theorem spec_DrawJoinLabels_t {k : Nat} (hk : Big k) {l : List Int} (hl : Ok l) : Ret' (spec_DrawJoinLabels.f k l) fun _ => True := by
  unfold spec_DrawJoinLabels.f
  exact (spec_l1New_t hk hl).bind fun t1 q => (spec_l19Draw_t k _ q).bind fun t2 q => (spec_l19Draw_t k _ q).bind fun t3 q => .some trivial
theorem loop_down {σ R : Type} (l : Nat → Int → Int → Int → List σ → Option R) (B : Nat) (I : Int → Prop) (Q : R → Prop)
    (hs : ∀ q (n : Nat) p h s, I p → s.length + (n + 1) ≤ B → (∀ p' h' x, I p' → Ret' (l q (n : Int) p' h' (s ++ [x])) Q) → Ret' (l (q + 1) ((n + 1 : Nat) : Int) p h s) Q)
    (he : ∀ q p h s, I p → s.length ≤ B → Ret' (l (q + 1) 0 p h s) Q) : ∀ (n q : Nat) p h s, n < q → I p → s.length + n ≤ B → Ret' (l q (n : Int) p h s) Q := by
  intro n
  induction n with
  | zero =>
    intro q p h s hq hp hb
    obtain ⟨q, rfl⟩ : ∃ j, q = j + 1 := ⟨q - 1, by omega⟩
    exact he q p h s hp hb
  | succ n ih =>
    intro q p h s hq hp hb
    obtain ⟨q, rfl⟩ : ∃ j, q = j + 1 := ⟨q - 1, by omega⟩
    exact hs q n p h s hp hb fun p' h' x hp' => ih q p' h' (s ++ [x]) (by omega) hp' (by simp; omega)
theorem down1 (n : Nat) (hn : n ≤ 1000000) : w64 (((n + 1 : Nat) : Int) - 1) = (n : Int) := by rw [w64_id (by omega)]; omega
theorem down_gt (n : Nat) : decide (((n + 1 : Nat) : Int) > 0) = true := decide_eq_true (by omega)
theorem spec_DrawLabelOf_t {k : Nat} (hk : Big k) {l : List Int} (hl : Ok l) : Ret' (spec_DrawLabelOf.f k l) fun t => t.length ≤ 20 := by
  have hk' := hk.out
  unfold spec_DrawLabelOf.f
  refine (spec_l1New_t hk hl).bind fun t1 q => (spec_l1Below_t k _ q 6 (by decide)).bind fun t ⟨q, b0, b1⟩ => ?_
  obtain ⟨n, hn⟩ := Int.eq_ofNat_of_zero_le b0
  rw [hn]
  refine loop_down (spec_DrawLabelOf.l4 k l fun y4 => some y4) 20 (Pos l) _ (fun q n p h s hp hb ih => ?_) (fun q p h s hp hb => ?_) n k _ _ [] (by omega) q (by simp; omega)
  · simp only [spec_DrawLabelOf.l4, spec_DrawLabelOf.L4, down_gt, cond_true, down1 n (by omega)]
    refine (spec_l1Below_t k h hp 12 (by decide)).bind fun t ⟨q, _⟩ => ?_
    rw [decide_eq_true (by unfold cap48; simp; omega), cond_true]
    exact ih _ _ _ q
  · exact .some hb
theorem impl_InRange_e (k : Nat) (n a b : Int) : impl_InRange.f k n a b = some (inR n a b) := by
  unfold impl_InRange.f inR
  by_cases h : a ≤ n <;> simp [h]
theorem foldl_filter {α : Type} (p : α → Bool) (xs : List α) : ∀ s : List α, xs.foldl (fun s x => bif p x then s ++ [x] else s) s = s ++ xs.filter p := by
  induction xs with
  | nil => intro s; simp
  | cons x xs ih => intro s; rw [List.foldl_cons, ih]; cases h : p x <;> simp [h]
def isLab (x : Int) : Bool := inR x 0 1022 && x.tmod 2 == 0
def nine : List Int := [1, 2, 3, 4, 5, 6, 7, 8, 9]
def bitO (x o : Int) : Bool := x / 2 ^ o.toNat % 2 == 1
def ownersV (x : Int) : List Int := bif isLab x then nine.filter (bitO x) else []
theorem isLab_bd {x : Int} (h : isLab x = true) : 0 ≤ x ∧ x ≤ 1022 ∧ x % 2 = 0 := by
  unfold isLab at h
  rw [Bool.and_eq_true, inR_true, beq_iff_eq] at h
  rw [Int.tmod_eq_emod_of_nonneg h.1.1] at h
  exact ⟨h.1.1, h.1.2, h.2⟩
theorem isLab_of {x : Int} (h0 : 0 ≤ x) (h1 : x ≤ 1022) (h2 : x % 2 = 0) : isLab x = true := by
  unfold isLab
  rw [Int.tmod_eq_emod_of_nonneg h0, Bool.and_eq_true, inR_true, beq_iff_eq]
  exact ⟨⟨h0, h1⟩, h2⟩
theorem nine_at {i : Nat} {o : Int} (h : nine[i]? = some o) : o = (i : Int) + 1 ∧ i < 9 := by
  have hi : i < 9 := (List.getElem?_eq_some_iff.1 h).1
  refine ⟨?_, hi⟩
  have : i = 0 ∨ i = 1 ∨ i = 2 ∨ i = 3 ∨ i = 4 ∨ i = 5 ∨ i = 6 ∨ i = 7 ∨ i = 8 := by omega
  rcases this with rfl | rfl | rfl | rfl | rfl | rfl | rfl | rfl | rfl <;> simp [nine] at h <;> omega
theorem ownersV_len (x : Int) : (ownersV x).length ≤ 9 := by
  unfold ownersV
  cases isLab x
  · simp
  · exact Nat.le_trans (List.length_filter_le _ _) (by decide)
theorem ownersV_ok (x : Int) : Ok (ownersV x) := Ok.small 9 (ownersV_len x)
theorem pow9 {o : Int} (h1 : 1 ≤ o) (h9 : o ≤ 9) : 2 ≤ (2 : Int) ^ o.toNat ∧ (2 : Int) ^ o.toNat ≤ 512 := by
  have : o = 1 ∨ o = 2 ∨ o = 3 ∨ o = 4 ∨ o = 5 ∨ o = 6 ∨ o = 7 ∨ o = 8 ∨ o = 9 := by omega
  rcases this with rfl | rfl | rfl | rfl | rfl | rfl | rfl | rfl | rfl <;> decide
theorem bit_q {x o : Int} (h : isLab x = true) : 0 ≤ x / 2 ^ o.toNat ∧ x / 2 ^ o.toNat ≤ 1022 := by
  have hb := isLab_bd h
  have hp : (0 : Int) < 2 ^ o.toNat := Int.pow_pos (by omega)
  exact ⟨Int.ediv_nonneg hb.1 (by omega), Int.le_trans (Int.ediv_le_self _ hb.1) hb.2.1⟩
theorem impl_IsLabel_e (k : Nat) (x : Int) : impl_IsLabel.f k x = some (isLab x) := by
  unfold impl_IsLabel.f isLab
  rw [impl_InRange_e, Option.bind_some]
  cases inR x 0 1022 <;> rfl
def hasI (l : List Int) (o : Int) : Bool := l.any fun y => y == o
def labelV (l : List Int) : Int := nine.foldl (fun s o => bif hasI l o then s + 2 ^ o.toNat else s) 0
theorem i64_and1 {n : Int} (h0 : 0 ≤ n) (h1 : n ≤ 1022) : bitop .and .i64 n 1 = n % 2 := by
  obtain ⟨m, rfl⟩ := Int.eq_ofNat_of_zero_le h0
  have h127 : (BitVec.ofInt 64 1).toNat = 2 ^ 1 - 1 := by decide
  have key : (BitVec.ofInt 64 (m : Int) &&& BitVec.ofInt 64 1).toNat = ((m : Int) % ((2 ^ 64 : Nat) : Int)).toNat % 2 ^ 1 := by
    rw [BitVec.toNat_and, BitVec.toNat_ofInt, h127, Nat.and_two_pow_sub_one_eq_mod]
  show IntKind.i64.wrap ((BitVec.ofInt 64 (m : Int) &&& BitVec.ofInt 64 1).toNat : Nat) = (m : Int) % 2
  rw [key, show ∀ m : Int, IntKind.i64.wrap m = w64 m from fun _ => rfl, w64_id (by omega)]
  omega
theorem i64_or {a b : Nat} (ha : a < 1024) (hb : b < 1024) : bitop .or .i64 (a : Int) (b : Int) = ((a ||| b : Nat) : Int) := by
  have key : (BitVec.ofInt 64 (a : Int) ||| BitVec.ofInt 64 (b : Int)).toNat = a ||| b := by
    rw [BitVec.toNat_or, BitVec.toNat_ofInt, BitVec.toNat_ofInt]
    congr 1 <;> omega
  have hlt : a ||| b < 2 ^ 10 := Nat.or_lt_two_pow (by omega) (by omega)
  show IntKind.i64.wrap ((BitVec.ofInt 64 (a : Int) ||| BitVec.ofInt 64 (b : Int)).toNat : Nat) = _
  rw [key, show ∀ m : Int, IntKind.i64.wrap m = w64 m from fun _ => rfl, w64_id (by omega)]
theorem or_step (a b : Nat) : a ||| b = 2 * (a / 2 ||| b / 2) + (bif (a % 2 == 1) || (b % 2 == 1) then 1 else 0) := by
  have h1 : (a ||| b) / 2 = a / 2 ||| b / 2 := Nat.or_div_two
  have h2 : (a ||| b) % 2 = bif (a % 2 == 1) || (b % 2 == 1) then 1 else 0 := by
    have ha : a % 2 = 0 ∨ a % 2 = 1 := by omega
    have hb : b % 2 = 0 ∨ b % 2 = 1 := by omega
    have h3 := Nat.or_mod_two_pow (a := a) (b := b) (n := 1)
    simp only [Nat.pow_one] at h3
    rw [h3]
    rcases ha with h | h <;> rcases hb with g | g <;> rw [h, g] <;> rfl
  rw [← h1, ← h2]
  omega
def bitN (a n : Nat) : Bool := a / 2 ^ n % 2 == 1
theorem or_bits {a b : Nat} (ha : a < 1024) (hb : b < 1024) (a0 : a % 2 = 0) (b0 : b % 2 = 0) : a ||| b = (bif bitN a 1 || bitN b 1 then 2 else 0) + (bif bitN a 2 || bitN b 2 then 4 else 0) + (bif bitN a 3 || bitN b 3 then 8 else 0) + (bif bitN a 4 || bitN b 4 then 16 else 0) + (bif bitN a 5 || bitN b 5 then 32 else 0) + (bif bitN a 6 || bitN b 6 then 64 else 0) + (bif bitN a 7 || bitN b 7 then 128 else 0) + (bif bitN a 8 || bitN b 8 then 256 else 0) + (bif bitN a 9 || bitN b 9 then 512 else 0) := by
  have hz : (a / 2 / 2 / 2 / 2 / 2 / 2 / 2 / 2 / 2 / 2 ||| b / 2 / 2 / 2 / 2 / 2 / 2 / 2 / 2 / 2 / 2) = 0 := by
    rw [show a / 2 / 2 / 2 / 2 / 2 / 2 / 2 / 2 / 2 / 2 = 0 by omega, show b / 2 / 2 / 2 / 2 / 2 / 2 / 2 / 2 / 2 / 2 = 0 by omega]; rfl
  rw [or_step a b, or_step (a / 2), or_step (a / 2 / 2), or_step (a / 2 / 2 / 2), or_step (a / 2 / 2 / 2 / 2), or_step (a / 2 / 2 / 2 / 2 / 2), or_step (a / 2 / 2 / 2 / 2 / 2 / 2), or_step (a / 2 / 2 / 2 / 2 / 2 / 2 / 2), or_step (a / 2 / 2 / 2 / 2 / 2 / 2 / 2 / 2), or_step (a / 2 / 2 / 2 / 2 / 2 / 2 / 2 / 2 / 2), hz]
  simp only [a0, b0, Nat.div_div_eq_div_mul, bitN]
  simp only [show (2 * 2 * 2 * 2 * 2 * 2 * 2 * 2 * 2 : Nat) = 2 ^ 9 from rfl, show (2 * 2 * 2 * 2 * 2 * 2 * 2 * 2 : Nat) = 2 ^ 8 from rfl, show (2 * 2 * 2 * 2 * 2 * 2 * 2 : Nat) = 2 ^ 7 from rfl, show (2 * 2 * 2 * 2 * 2 * 2 : Nat) = 2 ^ 6 from rfl, show (2 * 2 * 2 * 2 * 2 : Nat) = 2 ^ 5 from rfl, show (2 * 2 * 2 * 2 : Nat) = 2 ^ 4 from rfl, show (2 * 2 * 2 : Nat) = 2 ^ 3 from rfl, show (2 * 2 : Nat) = 2 ^ 2 from rfl, show (a / 2 : Nat) = a / 2 ^ 1 from rfl, show (b / 2 : Nat) = b / 2 ^ 1 from rfl]
  generalize (a / 2 ^ 1 % 2 == 1 || b / 2 ^ 1 % 2 == 1) = c1, (a / 2 ^ 2 % 2 == 1 || b / 2 ^ 2 % 2 == 1) = c2, (a / 2 ^ 3 % 2 == 1 || b / 2 ^ 3 % 2 == 1) = c3, (a / 2 ^ 4 % 2 == 1 || b / 2 ^ 4 % 2 == 1) = c4, (a / 2 ^ 5 % 2 == 1 || b / 2 ^ 5 % 2 == 1) = c5, (a / 2 ^ 6 % 2 == 1 || b / 2 ^ 6 % 2 == 1) = c6, (a / 2 ^ 7 % 2 == 1 || b / 2 ^ 7 % 2 == 1) = c7, (a / 2 ^ 8 % 2 == 1 || b / 2 ^ 8 % 2 == 1) = c8, (a / 2 ^ 9 % 2 == 1 || b / 2 ^ 9 % 2 == 1) = c9
  clear hz ha hb a0 b0
  revert c1 c2 c3 c4 c5 c6 c7 c8 c9
  decide
theorem bitO_nat (a n : Nat) : bitO (a : Int) ((n : Nat) : Int) = bitN a n := by
  unfold bitO bitN
  rw [Int.toNat_natCast, Bool.eq_iff_iff, beq_iff_eq, beq_iff_eq]
  have : ((a : Int) / 2 ^ n % 2) = ((a / 2 ^ n % 2 : Nat) : Int) := by norm_cast
  rw [this]
  omega
theorem hasI_owners {x : Int} (h : isLab x = true) (o : Int) (ho : o ∈ nine) : hasI (ownersV x) o = bitO x o := by
  unfold hasI ownersV
  rw [h, cond_true, Bool.eq_iff_iff, List.any_eq_true]
  constructor
  · rintro ⟨y, hy, e⟩
    obtain rfl := eq_of_beq e
    exact (List.mem_filter.1 hy).2
  · intro hb
    exact ⟨o, List.mem_filter.2 ⟨ho, hb⟩, beq_self_eq_true o⟩
theorem hasI_append (l m : List Int) (o : Int) : hasI (l ++ m) o = (hasI l o || hasI m o) := by simp [hasI]
def orL (x y : Int) : Int := bitop .or .i64 x y
theorem label_join {x y : Int} (hx : isLab x = true) (hy : isLab y = true) : labelV (ownersV x ++ ownersV y) = orL x y := by
  obtain ⟨x0, x1, x2⟩ := isLab_bd hx
  obtain ⟨y0, y1, y2⟩ := isLab_bd hy
  obtain ⟨a, rfl⟩ := Int.eq_ofNat_of_zero_le x0
  obtain ⟨b, rfl⟩ := Int.eq_ofNat_of_zero_le y0
  unfold orL
  rw [i64_or (by omega) (by omega), or_bits (by omega) (by omega) (by omega) (by omega)]
  unfold labelV
  have H : ∀ n : Nat, (n : Int) ∈ nine → hasI (ownersV (a : Int) ++ ownersV (b : Int)) ((n : Nat) : Int) = (bitN a n || bitN b n) := fun n hn => by rw [hasI_append, hasI_owners hx _ hn, hasI_owners hy _ hn, bitO_nat, bitO_nat]
  have h1 := H 1 (by decide)
  have h2 := H 2 (by decide)
  have h3 := H 3 (by decide)
  have h4 := H 4 (by decide)
  have h5 := H 5 (by decide)
  have h6 := H 6 (by decide)
  have h7 := H 7 (by decide)
  have h8 := H 8 (by decide)
  have h9 := H 9 (by decide)
  generalize ownersV (a : Int) ++ ownersV (b : Int) = L at *
  clear H
  simp only [Int.ofNat_eq_natCast, Int.cast_ofNat_Int] at h1 h2 h3 h4 h5 h6 h7 h8 h9
  simp only [nine, List.foldl_cons, List.foldl_nil]
  rw [show hasI L 1 = _ from h1, show hasI L 2 = _ from h2, show hasI L 3 = _ from h3, show hasI L 4 = _ from h4, show hasI L 5 = _ from h5, show hasI L 6 = _ from h6, show hasI L 7 = _ from h7, show hasI L 8 = _ from h8, show hasI L 9 = _ from h9]
  generalize (bitN a 1 || bitN b 1) = c1, (bitN a 2 || bitN b 2) = c2, (bitN a 3 || bitN b 3) = c3, (bitN a 4 || bitN b 4) = c4, (bitN a 5 || bitN b 5) = c5, (bitN a 6 || bitN b 6) = c6, (bitN a 7 || bitN b 7) = c7, (bitN a 8 || bitN b 8) = c8, (bitN a 9 || bitN b 9) = c9
  clear h1 h2 h3 h4 h5 h6 h7 h8 h9 hx hy x0 x1 x2 y0 y1 y2
  revert c1 c2 c3 c4 c5 c6 c7 c8 c9
  decide
theorem or_lab {x y : Int} (hx : isLab x = true) (hy : isLab y = true) : isLab (orL x y) = true := by
  obtain ⟨x0, x1, x2⟩ := isLab_bd hx
  obtain ⟨y0, y1, y2⟩ := isLab_bd hy
  obtain ⟨a, rfl⟩ := Int.eq_ofNat_of_zero_le x0
  obtain ⟨b, rfl⟩ := Int.eq_ofNat_of_zero_le y0
  unfold orL
  rw [i64_or (by omega) (by omega)]
  have h1 : a ||| b < 2 ^ 10 := Nat.or_lt_two_pow (by omega) (by omega)
  have h2 := or_step a b
  have h3 : (bif (a % 2 == 1) || (b % 2 == 1) then 1 else 0 : Nat) = 0 := by rw [show a % 2 = 0 by omega, show b % 2 = 0 by omega]; rfl
  rw [h3] at h2
  exact isLab_of (by omega) (by omega) (by omega)
theorem orL_assoc {x y z : Int} (hx : isLab x = true) (hy : isLab y = true) (hz : isLab z = true) : orL x (orL y z) = orL (orL x y) z := by
  have h1 := or_lab hx hy
  have h2 := or_lab hy hz
  obtain ⟨x0, x1, x2⟩ := isLab_bd hx
  obtain ⟨y0, y1, y2⟩ := isLab_bd hy
  obtain ⟨z0, z1, z2⟩ := isLab_bd hz
  obtain ⟨a, rfl⟩ := Int.eq_ofNat_of_zero_le x0
  obtain ⟨b, rfl⟩ := Int.eq_ofNat_of_zero_le y0
  obtain ⟨c, rfl⟩ := Int.eq_ofNat_of_zero_le z0
  unfold orL
  have g1 : a ||| b < 2 ^ 10 := Nat.or_lt_two_pow (by omega) (by omega)
  have g2 : b ||| c < 2 ^ 10 := Nat.or_lt_two_pow (by omega) (by omega)
  rw [i64_or (a := b) (by omega) (by omega), i64_or (a := a) (b := b) (by omega) (by omega), i64_or (by omega) (by omega), i64_or (by omega) (by omega), Nat.or_assoc]
theorem label_one {o : Int} (h1 : 1 ≤ o) (h9 : o ≤ 9) : labelV [o] = 2 ^ o.toNat ∧ isLab (2 ^ o.toNat) = true := by
  have : o = 1 ∨ o = 2 ∨ o = 3 ∨ o = 4 ∨ o = 5 ∨ o = 6 ∨ o = 7 ∨ o = 8 ∨ o = 9 := by omega
  rcases this with rfl | rfl | rfl | rfl | rfl | rfl | rfl | rfl | rfl <;> exact ⟨by decide, by decide⟩
theorem testN (a n : Nat) : bitN a n = a.testBit n := by
  unfold bitN
  rw [Nat.testBit_eq_decide_div_mod_eq]
  rw [Bool.eq_iff_iff, beq_iff_eq, decide_eq_true_iff]
/-- The label of owners, as a natural number. -/
def labN (l : List Int) : Nat := l.foldl (fun s o => bif inR o 1 9 then s ||| 2 ^ o.toNat else s) 0
theorem nine_of {o : Int} (h : inR o 1 9 = true) : o = 1 ∨ o = 2 ∨ o = 3 ∨ o = 4 ∨ o = 5 ∨ o = 6 ∨ o = 7 ∨ o = 8 ∨ o = 9 := by have := inR_true.1 h; omega
theorem nine_mem {o : Int} : o ∈ nine ↔ inR o 1 9 = true := by
  constructor
  · intro h
    obtain ⟨i, hi⟩ := List.mem_iff_getElem?.1 h
    obtain ⟨rfl, h9⟩ := nine_at hi
    exact inR_true.2 (by omega)
  · intro h
    rcases nine_of h with rfl | rfl | rfl | rfl | rfl | rfl | rfl | rfl | rfl <;> decide
theorem labN_lt : ∀ (l : List Int) (s : Nat), s < 1024 → l.foldl (fun s o => bif inR o 1 9 then s ||| 2 ^ o.toNat else s) s < 1024
  | [], s, h => h
  | o :: l, s, h => by
    rw [List.foldl_cons]
    refine labN_lt l _ ?_
    cases ho : inR o 1 9 with
    | false => exact h
    | true =>
      rw [cond_true]
      have : 2 ^ o.toNat < 1024 := by rcases nine_of ho with rfl | rfl | rfl | rfl | rfl | rfl | rfl | rfl | rfl <;> decide
      exact Nat.or_lt_two_pow (n := 10) h this
theorem labN_test : ∀ (l : List Int) (s i : Nat), (l.foldl (fun s o => bif inR o 1 9 then s ||| 2 ^ o.toNat else s) s).testBit i = (s.testBit i || (inR (i : Int) 1 9 && hasI l (i : Int)))
  | [], s, i => by simp [hasI]
  | o :: l, s, i => by
    rw [List.foldl_cons, labN_test l]
    have hh : hasI (o :: l) (i : Int) = ((o == (i : Int)) || hasI l (i : Int)) := by simp [hasI]
    rw [hh]
    cases ho : inR o 1 9 with
    | false =>
      rw [cond_false]
      by_cases e : o = (i : Int)
      · rw [← e, ho]; simp
      · rw [beqF e]; simp
    | true =>
      rw [cond_true, Nat.testBit_or, Nat.testBit_two_pow]
      have h1 := inR_true.1 ho
      by_cases e : o = (i : Int)
      · rw [decide_eq_true (show o.toNat = i by omega), e, beq_self_eq_true, inR_true.2 (by omega)]; simp
      · rw [decide_eq_false (show ¬ o.toNat = i by omega), beqF e]; simp
theorem labN_bit (l : List Int) (i : Nat) : (labN l).testBit i = (inR (i : Int) 1 9 && hasI l (i : Int)) := by
  unfold labN
  rw [labN_test]
  simp
theorem lab_even {a : Nat} (h : a.testBit 0 = false) : a % 2 = 0 := by
  rw [Nat.testBit_zero] at h
  have := of_decide_eq_false h
  omega
theorem labN_lab (l : List Int) : isLab (labN l : Int) = true := by
  have h1 := labN_lt l 0 (by decide)
  have h2 : (labN l).testBit 0 = false := by rw [labN_bit]; rfl
  have h3 := lab_even h2
  have h1 : labN l < 1024 := h1
  exact isLab_of (by omega) (by omega) (by omega)
theorem hasI_own (x : Int) (o : Int) (h : isLab x = true) : (inR o 1 9 && hasI (ownersV x) o) = (inR o 1 9 && bitO x o) := by
  cases ho : inR o 1 9 with
  | false => rfl
  | true => rw [hasI_owners h o (nine_mem.2 ho)]
theorem labN_own {a : Nat} (h : isLab (a : Int) = true) : labN (ownersV (a : Int)) = a := by
  obtain ⟨h0, h1, h2⟩ := isLab_bd h
  apply Nat.eq_of_testBit_eq
  intro i
  rw [labN_bit, hasI_own _ _ h, bitO_nat, testN]
  by_cases hi : inR (i : Int) 1 9 = true
  · rw [hi]; rfl
  · have hi2 : inR (i : Int) 1 9 = false := by simpa using hi
    rw [hi2, Bool.false_and]
    have := inR_false.1 hi2
    by_cases i0 : i = 0
    · subst i0
      rw [Nat.testBit_zero]
      exact (decide_eq_false (by omega)).symm
    · have h10 : 2 ^ 10 ≤ 2 ^ i := Nat.pow_le_pow_right (by decide) (by omega)
      exact (Nat.testBit_lt_two_pow (by omega)).symm
theorem own_in {l : List Int} {o : Int} (h : o ∈ ownersV (labN l : Int)) : hasI l o = true := by
  have hL := labN_lab l
  have ho : inR o 1 9 = true := by
    unfold ownersV at h
    rw [hL, cond_true] at h
    exact nine_mem.1 (List.mem_filter.1 h).1
  have h2 : hasI (ownersV (labN l : Int)) o = true := by
    unfold hasI
    rw [List.any_eq_true]
    exact ⟨o, h, beq_self_eq_true o⟩
  rw [hasI_owners hL o (nine_mem.2 ho)] at h2
  have hr := inR_true.1 ho
  obtain ⟨i, rfl⟩ := Int.eq_ofNat_of_zero_le (show 0 ≤ o by omega)
  have h2 : bitO (labN l : Int) (i : Int) = true := h2
  rw [bitO_nat, testN, labN_bit] at h2
  rw [Bool.and_eq_true] at h2
  exact h2.2
def joinN (x y : Int) : Int := bif isLab x && isLab y then ((x.toNat ||| y.toNat : Nat) : Int) else 0
theorem impl_JoinLabels_e (k : Nat) (x y : Int) : impl_JoinLabels.f k x y = some (joinN x y) := by
  unfold impl_JoinLabels.f joinN
  rw [impl_IsLabel_e, impl_IsLabel_e, Option.bind_some]
  cases hx : isLab x with
  | false => rfl
  | true =>
    cases hy : isLab y with
    | false => rfl
    | true =>
      obtain ⟨x0, x1, x2⟩ := isLab_bd hx
      obtain ⟨y0, y1, y2⟩ := isLab_bd hy
      obtain ⟨a, rfl⟩ := Int.eq_ofNat_of_zero_le x0
      obtain ⟨b, rfl⟩ := Int.eq_ofNat_of_zero_le y0
      simp only [Option.bind_some, Bool.not_true, cond_false, Bool.and_self, cond_true, Int.toNat_natCast]
      rw [i64_or (by omega) (by omega)]
theorem orN_lab {a b : Nat} (ha : isLab (a : Int) = true) (hb : isLab (b : Int) = true) : isLab ((a ||| b : Nat) : Int) = true := by
  obtain ⟨x0, x1, x2⟩ := isLab_bd ha
  obtain ⟨y0, y1, y2⟩ := isLab_bd hb
  have h1 : a ||| b < 2 ^ 10 := Nat.or_lt_two_pow (by omega) (by omega)
  have h2 : (a ||| b).testBit 0 = false := by
    rw [Nat.testBit_or, Nat.testBit_zero, Nat.testBit_zero, decide_eq_false (by omega), decide_eq_false (by omega)]; rfl
  have h3 := lab_even h2
  exact isLab_of (by omega) (by omega) (by omega)
theorem bv_within (a b : BitVec 64) : (a &&& ~~~b) = 0#64 ↔ a ||| b = b := by
  constructor
  · intro h
    apply BitVec.eq_of_getLsbD_eq
    intro i hi
    have h1 : (a &&& ~~~b).getLsbD i = (0#64).getLsbD i := by rw [h]
    rw [BitVec.getLsbD_and, BitVec.getLsbD_not] at h1
    rw [BitVec.getLsbD_or]
    simp only [hi, decide_true, Bool.true_and, BitVec.getLsbD_zero] at h1
    cases ha : a.getLsbD i <;> cases hb : b.getLsbD i <;> simp [ha, hb] at h1 ⊢
  · intro h
    apply BitVec.eq_of_getLsbD_eq
    intro i hi
    have h1 : (a ||| b).getLsbD i = b.getLsbD i := by rw [h]
    rw [BitVec.getLsbD_or] at h1
    rw [BitVec.getLsbD_and, BitVec.getLsbD_not]
    simp only [hi, decide_true, Bool.true_and, BitVec.getLsbD_zero]
    cases ha : a.getLsbD i <;> cases hb : b.getLsbD i <;> simp [ha, hb] at h1 ⊢
theorem i64_andNot {a b : Nat} (ha : a < 1024) (hb : b < 1024) : (bitop .andNot .i64 (a : Int) (b : Int) == 0) = decide (a ||| b = b) := by
  have e1 : (BitVec.ofInt 64 (a : Int)).toNat = a := by rw [BitVec.toNat_ofInt]; omega
  have e2 : (BitVec.ofInt 64 (b : Int)).toNat = b := by rw [BitVec.toNat_ofInt]; omega
  have hle : (BitVec.ofInt 64 (a : Int) &&& ~~~(BitVec.ofInt 64 (b : Int))).toNat ≤ a := by
    rw [BitVec.toNat_and, e1]; exact Nat.and_le_left
  have hw : bitop .andNot .i64 (a : Int) (b : Int) = ((BitVec.ofInt 64 (a : Int) &&& ~~~(BitVec.ofInt 64 (b : Int))).toNat : Nat) := by
    show w64 (((BitVec.ofInt 64 (a : Int) &&& ~~~(BitVec.ofInt 64 (b : Int))).toNat : Nat) : Int) = _
    exact w64_id (by omega)
  rw [hw, Bool.eq_iff_iff, beq_iff_eq, decide_eq_true_iff]
  have h1 := bv_within (BitVec.ofInt 64 (a : Int)) (BitVec.ofInt 64 (b : Int))
  constructor
  · intro h
    have h2 : BitVec.ofInt 64 (a : Int) &&& ~~~(BitVec.ofInt 64 (b : Int)) = 0#64 := by
      apply BitVec.eq_of_toNat_eq
      rw [BitVec.toNat_ofNat]
      omega
    have h3 := congrArg BitVec.toNat (h1.1 h2)
    rw [BitVec.toNat_or, e1, e2] at h3
    exact h3
  · intro h
    have h2 : BitVec.ofInt 64 (a : Int) ||| BitVec.ofInt 64 (b : Int) = BitVec.ofInt 64 (b : Int) := by
      apply BitVec.eq_of_toNat_eq
      rw [BitVec.toNat_or, e1, e2]
      exact h
    rw [h1.2 h2]
    rfl
theorem impl_LabelWithin_e (k : Nat) {a b : Nat} (ha : isLab (a : Int) = true) (hb : isLab (b : Int) = true) : impl_LabelWithin.f k (a : Int) (b : Int) = some (decide (a ||| b = b)) := by
  obtain ⟨x0, x1, x2⟩ := isLab_bd ha
  obtain ⟨y0, y1, y2⟩ := isLab_bd hb
  unfold impl_LabelWithin.f
  rw [impl_IsLabel_e, impl_IsLabel_e, Option.bind_some, ha, cond_true, Option.bind_some, hb, cond_true, i64_andNot (by omega) (by omega)]
theorem impl_LabelOf_n {k : Nat} (hk : Big k) {l : List Int} (hl : Ok l) : impl_LabelOf.f k l = some ((labN l : Nat) : Int) := by
  have hl' := hl.out
  unfold impl_LabelOf.f
  have := loop_fold (fun q i (s : Nat) => impl_LabelOf.l3 k (l.length : Int) l (fun y2 => some y2) q (s : Int) i) (fun s o => bif inR o 1 9 then s ||| 2 ^ o.toNat else s) (fun _ s => s < 1024) (fun s => some (s : Int)) l (fun n i x s hx hs => by
    obtain ⟨h1, h2, h3, h4⟩ := at_ hx (by omega)
    have hs : s < 1024 := hs
    simp only [impl_LabelOf.l3, impl_LabelOf.L3, rd_i64, h1, h2, h3, h4, cond_true, impl_InRange_e, Option.bind_some]
    cases hx9 : inR x 1 9 with
    | false => rfl
    | true =>
      have hr := inR_true.1 hx9
      have hw : w64 ((1 : Int) * 2 ^ (min x.toNat 64)) = ((2 ^ x.toNat : Nat) : Int) := by rcases nine_of hx9 with rfl | rfl | rfl | rfl | rfl | rfl | rfl | rfl | rfl <;> decide
      have hp : 2 ^ x.toNat < 1024 := by rcases nine_of hx9 with rfl | rfl | rfl | rfl | rfl | rfl | rfl | rfl | rfl <;> decide
      rw [cond_true, decide_eq_false (by omega), cond_false, hw, i64_or hs hp, cond_true]) (fun i x s hx hs => by
    have hs : s < 1024 := hs
    cases hx9 : inR x 1 9 with
    | false => exact hs
    | true =>
      have hp : 2 ^ x.toNat < 1024 := by rcases nine_of hx9 with rfl | rfl | rfl | rfl | rfl | rfl | rfl | rfl | rfl <;> decide
      exact Nat.or_lt_two_pow (n := 10) hs hp) (fun n s hs => by simp only [impl_LabelOf.l3, impl_LabelOf.L3, end_, cond_false]) k 0 (hk.lt hl) (by decide)
  exact this
theorem impl_OwnersIn_e {k : Nat} (hk : Big k) (x : Int) : impl_OwnersIn.f k x = some (ownersV x) := by
  have hk' := hk.out
  unfold impl_OwnersIn.f ownersV
  rw [impl_IsLabel_e, Option.bind_some]
  cases h : isLab x with
  | false => rfl
  | true =>
    have := loop_fold (fun q i s => impl_OwnersIn.l5 k x (fun y3 => some y3) q (i + 1) s) (fun s o => bif bitO x o then s ++ [o] else s) (fun i s => s.length ≤ i) (fun s => some s) nine (fun n i o s hx hi => by
      obtain ⟨rfl, h9⟩ := nine_at hx
      have hp := pow9 (o := (i : Int) + 1) (by omega) (by omega)
      have hq := bit_q (o := (i : Int) + 1) h
      have hd : Int.fdiv x (2 ^ ((i : Int) + 1).toNat) = x / 2 ^ ((i : Int) + 1).toNat := Int.fdiv_eq_ediv_of_nonneg _ (by omega)
      simp only [impl_OwnersIn.l5, impl_OwnersIn.L5]
      rw [Nat.min_eq_left (by omega), hd, i64_and1 hq.1 hq.2, decide_eq_true (show (i : Int) + 1 ≤ 9 by omega), cond_true, decide_eq_false (by omega), cond_false, w64_id (by omega), decide_eq_true (by unfold cap48; simp; omega), cond_true]
      unfold bitO
      cases (x / 2 ^ ((i : Int) + 1).toNat % 2 == 1) <;> rfl) (fun i o s hx hi => by
      cases bitO x o
      · show s.length ≤ i + 1; omega
      · show (s ++ [o]).length ≤ i + 1; simp; omega) (fun n s hs => by
      simp only [impl_OwnersIn.l5, impl_OwnersIn.L5]
      rfl) k [] (by show 9 < k; omega) (Nat.le_refl 0)
    rw [foldl_filter] at this
    exact this
theorem laws_contains_e {k : Nat} (hk : Big k) {l : List Int} (hl : Ok l) (o : Int) : laws_contains.f k l o = some (hasI l o) := by
  have hl' := hl.out
  unfold laws_contains.f hasI
  rw [loop_any (laws_contains.l2 k o l (fun y => some y) (fun _ => some false)) (fun y => y == o) (some false) (some true) l (fun n i x hx => by
    obtain ⟨h1, h2, h3, h4⟩ := at_ hx (by omega)
    simp only [laws_contains.l2, laws_contains.L2, rd_i64, h1, h2, h3, h4, cond_true]) (fun n => by simp only [laws_contains.l2, laws_contains.L2, end_, cond_false]) k (hk.lt hl)]
  cases l.any fun y => y == o <;> rfl
theorem laws_within_e {k : Nat} (hk : Big k) {l m : List Int} (hl : Ok l) (hm : Ok m) : laws_within.f k l m = some (l.all fun x => hasI m x) := by
  have hl' := hl.out
  unfold laws_within.f
  rw [loop_all (laws_within.l2 k l m (fun y => some y) (fun _ => some true)) (fun x => hasI m x) (some true) (some false) l (fun n i x hx => by
    obtain ⟨h1, h2, h3, h4⟩ := at_ hx (by omega)
    simp only [laws_within.l2, laws_within.L2, rd_i64, h1, h2, h3, h4, cond_true, laws_contains_e hk hm, Option.bind_some]
    cases hasI m x <;> rfl) (fun n => by simp only [laws_within.l2, laws_within.L2, end_, cond_false]) k (hk.lt hl)]
  cases l.all fun x => hasI m x <;> rfl
def decS (o : Int) : ByteArray := ⟨(Go.Lib.decDigits o.toNat).toArray⟩
theorem impl_FormatInt_s (k : Nat) {o : Int} (h : 0 ≤ o ∧ o < 100) : impl_FormatInt.f k o = some (decS o) := by
  unfold impl_FormatInt.f strconv_Itoa.f itoaS
  rw [decide_eq_true h]
  rfl
def textJ (L : List Int) : List UInt8 := Go.Lib.join ((L.map decS).map (·.data.toList)) [43]
theorem decS_data {o : Int} (h1 : 1 ≤ o) (h9 : o ≤ 9) : (decS o).data.toList = [UInt8.ofNat (48 + o.toNat)] := by
  unfold decS
  rw [Go.Lib.decDigits_one (by omega)]
theorem textJ_len : ∀ (L : List Int), (∀ o ∈ L, 1 ≤ o ∧ o ≤ 9) → (textJ L).length ≤ 2 * L.length
  | [], _ => by simp [textJ, Go.Lib.join_nil]
  | [o], h => by
    have ho := h o (by simp)
    unfold textJ
    rw [List.map_cons, List.map_nil, List.map_cons, List.map_nil, Go.Lib.join_one, decS_data ho.1 ho.2]
    simp
  | o :: p :: L, h => by
    have ho := h o (by simp)
    have ih := textJ_len (p :: L) (fun x hx => h x (List.mem_cons_of_mem _ hx))
    unfold textJ Go.Lib.join at *
    simp only [List.map_cons] at ih ⊢
    rw [List.intercalate_cons_cons, decS_data ho.1 ho.2]
    simp only [List.length_append, List.length_cons, List.length_nil] at ih ⊢
    omega
theorem textJ_head {o : Int} {L : List Int} (h : ∀ x ∈ o :: L, 1 ≤ x ∧ x ≤ 9) : ∃ t, textJ (o :: L) = UInt8.ofNat (48 + o.toNat) :: t := by
  have ho := h o (by simp)
  unfold textJ Go.Lib.join
  cases L with
  | nil =>
    refine ⟨[], ?_⟩
    rw [List.map_cons, List.map_nil, List.map_cons, List.map_nil, decS_data ho.1 ho.2]
    simp [List.intercalate]
  | cons p L =>
    simp only [List.map_cons]
    rw [List.intercalate_cons_cons, decS_data ho.1 ho.2]
    exact ⟨_, rfl⟩
theorem own_rg {x o : Int} (h : o ∈ ownersV x) : 1 ≤ o ∧ o ≤ 9 := by
  unfold ownersV at h
  cases hx : isLab x with
  | false => rw [hx] at h; cases h
  | true =>
    rw [hx, cond_true] at h
    exact inR_true.1 (nine_mem.1 (List.mem_filter.1 h).1)
def textV (x : Int) : ByteArray := bif decide ((ownersV x).length = 0) then ⟨#[45]⟩ else ⟨(textJ (ownersV x)).toArray⟩
theorem impl_LabelText_e {k : Nat} (hk : Big k) (x : Int) : impl_LabelText.f k x = some (textV x) := by
  unfold impl_LabelText.f
  rw [impl_OwnersIn_e hk, Option.bind_some]
  have hrg : ∀ o ∈ ownersV x, 1 ≤ o ∧ o ≤ 9 := fun o ho => own_rg ho
  have hlen := ownersV_len x
  unfold textV
  generalize ownersV x = L at hrg hlen
  have hL : Ok L := Ok.small 9 hlen
  have key : ∀ X : List ByteArray → Option ByteArray, impl_LabelText.l3 k (L.length : Int) L X k 0 [] = X (L.map decS) := fun X => by
    have := loop_fold (fun q i s => impl_LabelText.l3 k (L.length : Int) L X q i s) (fun s o => s ++ [decS o]) (fun i s => s.length = i) X L (fun n i o s ho hs => by
      obtain ⟨h1, h2, h3, h4⟩ := at_ ho (by omega)
      have hlt := lt_of ho
      have hr := hrg o (List.mem_of_getElem? ho)
      have hs : s.length = i := hs
      simp only [impl_LabelText.l3, impl_LabelText.L3, rd_i64, h1, h2, h3, h4, cond_true, impl_FormatInt_s k (show 0 ≤ o ∧ o < 100 by omega), Option.bind_some]
      rw [decide_eq_true (by unfold cap48; simp; omega), cond_true]) (fun i o s ho hs => by
      have hs : s.length = i := hs
      show (s ++ [decS o]).length = i + 1
      simp [hs]) (fun n s hs => by simp only [impl_LabelText.l3, impl_LabelText.L3, end_, cond_false]) k [] (hk.lt hL) rfl
    rw [this]
    congr 1
    have : ∀ (L : List Int) (s : List ByteArray), L.foldl (fun s o => s ++ [decS o]) s = s ++ L.map decS := by
      intro L
      induction L with
      | nil => intro s; simp
      | cons o L ih => intro s; rw [List.foldl_cons, ih]; simp
    rw [this]; rfl
  rw [key]
  have hl := textJ_len L hrg
  by_cases h0 : L.length = 0
  · rw [decide_eq_true h0, List.length_map, h0]; rfl
  · rw [decide_eq_false h0, List.length_map, beqF (show ¬ (L.length : Int) = 0 by omega), cond_false, cond_false]
    unfold strings_Join.f joinF
    rw [decide_eq_true (show _ ∧ _ from ⟨by rw [List.length_map]; omega, by show (textJ L).length ≤ _; omega⟩)]
    rfl
theorem lb_l11 {k : Nat} (hk : Big k) {a b : Nat} (ha : isLab (a : Int) = true) (hb : isLab (b : Int) = true) (l0 : List Int) (X : Unit → Option Bool) : laws_FnLabels.l11 k (a : Int) (b : Int) ((a ||| b : Nat) : Int) l0 (fun y => some y) X k 1 = X () := by
  have hk' := hk.out
  have hz := orN_lab ha hb
  have := loop_all (fun q i => laws_FnLabels.l11 k (a : Int) (b : Int) ((a ||| b : Nat) : Int) l0 (fun y => some y) X q (i + 1)) (fun _ => true) (X ()) (some false) nine (fun n i o ho => by
    obtain ⟨rfl, h9⟩ := nine_at ho
    have hm := List.mem_of_getElem? ho
    simp only [laws_FnLabels.l11, laws_FnLabels.L11, impl_OwnersIn_e hk, laws_contains_e hk (ownersV_ok _), Option.bind_some, hasI_owners ha _ hm, hasI_owners hb _ hm, hasI_owners hz _ hm]
    have e : bitO ((a ||| b : Nat) : Int) ((i : Int) + 1) = (bitO (a : Int) ((i : Int) + 1) || bitO (b : Int) ((i : Int) + 1)) := by
      rw [show (i : Int) + 1 = ((i + 1 : Nat) : Int) by omega, bitO_nat, bitO_nat, bitO_nat, testN, testN, testN, Nat.testBit_or]
    rw [e, decide_eq_true (show (i : Int) + 1 ≤ 9 by omega), w64_id (by omega), show ((i : Int) + 1 + 1) = ((i + 1 : Nat) : Int) + 1 by omega]
    cases bitO (a : Int) ((i : Int) + 1) <;> cases bitO (b : Int) ((i : Int) + 1) <;> rfl) (fun n => by
    simp only [laws_FnLabels.l11, laws_FnLabels.L11]
    rfl) k (by show 9 < k; omega)
  exact this
theorem text_dash (x : Int) : ((textV x).toList == (ByteArray.mk #[45]).toList) = (((ownersV x).length : Int) == (0 : Int)) := by
  unfold textV
  have hrg : ∀ o ∈ ownersV x, 1 ≤ o ∧ o ≤ 9 := fun o ho => own_rg ho
  cases hL : ownersV x with
  | nil => simp only [List.length_nil, decide_true, cond_true, beq_self_eq_true]; rfl
  | cons o L =>
    rw [hL] at hrg
    obtain ⟨t, ht⟩ := textJ_head hrg
    have ho := hrg o (by simp)
    rw [decide_eq_false (by simp), cond_false, ht, ByteArray.toList_mk, beqF (show ¬ (((o :: L).length : Nat) : Int) = 0 by simp; omega)]
    rw [show (ByteArray.mk #[45]).toList = [45] from ByteArray.toList_mk [45]]
    have : UInt8.ofNat (48 + o.toNat) ≠ 45 := by
      have : o = 1 ∨ o = 2 ∨ o = 3 ∨ o = 4 ∨ o = 5 ∨ o = 6 ∨ o = 7 ∨ o = 8 ∨ o = 9 := by omega
      rcases this with rfl | rfl | rfl | rfl | rfl | rfl | rfl | rfl | rfl <;> decide
    exact beq_eq_false_iff_ne.2 fun e => this (List.cons.inj e).1
theorem FnLabels : ∀ (a0 : List Int), a0.length ≤ maxLen → (∀ x ∈ a0, likes (k_u8.enc k_u8.zero) (k_u8.enc x)) → ∃ k, laws_FnLabels.f k a0 = some true := by
  intro l hl _
  obtain ⟨k, hk⟩ := big_some
  refine ⟨k, ?_⟩
  unfold laws_FnLabels.f
  rw [laws_big_e, Option.bind_some]
  by_cases h0 : (l.length : Int) > 1048576
  · rw [decide_eq_true h0]; rfl
  rw [decide_eq_false h0, cond_false]
  have ol : Ok l := by unfold Ok; omega
  obtain ⟨⟨x, y⟩, e1, _⟩ := spec_DrawJoinLabels_t hk ol
  obtain ⟨L, e2, hL⟩ := spec_DrawLabelOf_t hk ol
  have oL : Ok L := Ok.small 20 hL
  have hin : ((ownersV (labN L : Int)).all fun x => hasI L x) = true := List.all_eq_true.2 fun o ho => own_in ho
  have hcomm : joinN y x = joinN x y := by unfold joinN; rw [Bool.and_comm, Nat.or_comm]
  simp only [e1, e2, impl_JoinLabels_e, hcomm, Option.bind_some, impl_LabelOf_n hk oL, impl_IsLabel_e, labN_lab L, cond_true, impl_OwnersIn_e hk, laws_within_e hk (ownersV_ok _) oL, hin, impl_LabelText_e hk, text_dash, bne_self_eq_false, beq_self_eq_true, cond_false]
  have hz : isLab (joinN x y) = true := by
    unfold joinN
    cases hx : isLab x with
    | false => rfl
    | true =>
      cases hy : isLab y with
      | false => rfl
      | true =>
        obtain ⟨x0, _⟩ := isLab_bd hx
        obtain ⟨y0, _⟩ := isLab_bd hy
        obtain ⟨a, rfl⟩ := Int.eq_ofNat_of_zero_le x0
        obtain ⟨b, rfl⟩ := Int.eq_ofNat_of_zero_le y0
        exact orN_lab hx hy
  rw [hz, Bool.not_true, cond_false]
  cases hx : isLab x with
  | false => rfl
  | true =>
    obtain ⟨x0, _⟩ := isLab_bd hx
    obtain ⟨a, rfl⟩ := Int.eq_ofNat_of_zero_le x0
    have hx : isLab (a : Int) = true := hx
    have hlo : impl_LabelOf.f k (ownersV (a : Int)) = some (a : Int) := by rw [impl_LabelOf_n hk (ownersV_ok _), labN_own hx]
    cases hy : isLab y with
    | false =>
      simp only [Int.ofNat_eq_natCast, hlo, Option.bind_some, bne_self_eq_false, cond_false, cond_true]
    | true =>
      obtain ⟨y0, _⟩ := isLab_bd hy
      obtain ⟨b, rfl⟩ := Int.eq_ofNat_of_zero_le y0
      have hy : isLab (b : Int) = true := hy
      have hj : joinN (a : Int) (b : Int) = ((a ||| b : Nat) : Int) := by unfold joinN; rw [hx, hy]; rfl
      have hab := orN_lab hx hy
      have hs1 : a ||| (a ||| b) = a ||| b := by rw [← Nat.or_assoc, Nat.or_self]
      have hs2 : b ||| (a ||| b) = a ||| b := by rw [Nat.or_comm a b, ← Nat.or_assoc, Nat.or_self]
      have hq : (decide (a ||| b = b) == (((a ||| b : Nat) : Int) == (b : Int))) = true := by
        by_cases e : a ||| b = b
        · rw [decide_eq_true e, e]; simp
        · rw [decide_eq_false e, beqF (show ¬ ((a ||| b : Nat) : Int) = (b : Int) by omega)]; rfl
      simp only [Int.ofNat_eq_natCast, hj, hlo, Option.bind_some, bne_self_eq_false, cond_false, cond_true, impl_LabelWithin_e k hx hab, impl_LabelWithin_e k hy hab, impl_LabelWithin_e k hx hy, hs1, hs2, decide_true, Bool.not_true, hq, lb_l11 hk hx hy]
end Go.Proofs.YthjdecnheaifkaaDoor.PFnLabels.Pure
