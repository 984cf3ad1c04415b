/- The law FnUpdated as a statement over numbers and lists, with its proof; no conditions but the bounds of the values' types and of the slices' lengths. -/
import Derived.Test.YtoenilndklbceaaGreatPFnUpdated10
set_option linter.unusedVariables false
set_option linter.unusedSimpArgs false
namespace Go.Proofs.YtoenilndklbceaaGreat.PFnUpdated.Pure
open Go Go.Eng Go.Proofs
theorem laws_big_e (k : Nat) (l : List Int) : laws_big.f k l = some (decide ((l.length : Int) > 1048576)) := rfl
def Ret' {α : Type} (o : Option α) (P : α → Prop) : Prop := ∃ t, o = some t ∧ P t
theorem Ret'.bind {α β : Type} {o : Option α} {P : α → Prop} {f : α → Option β} {Q : β → Prop} (h : Ret' o P) (k : ∀ t, P t → Ret' (f t) Q) : Ret' (o.bind f) Q := by
  obtain ⟨t, rfl, ht⟩ := h
  exact k t ht
theorem Ret'.some {α : Type} {t : α} {P : α → Prop} (h : P t) : Ret' (Option.some t) P := ⟨t, rfl, h⟩
theorem Ret'.imp {α : Type} {o : Option α} {P Q : α → Prop} (h : Ret' o P) (k : ∀ t, P t → Q t) : Ret' o Q := by
  obtain ⟨t, e, ht⟩ := h
  exact ⟨t, e, k t ht⟩
theorem Ret'.bif {α : Type} {c : Bool} {x y : Option α} {P : α → Prop} (h : c = true → Ret' x P) (k : c = false → Ret' y P) : Ret' (bif c then x else y) P := by
  cases c
  · exact k rfl
  · exact h rfl
theorem i64_and255 (n : Int) : bitop .and .i64 n 255 = n % 256 := by
  have h127 : (BitVec.ofInt 64 255).toNat = 2 ^ 8 - 1 := by decide
  have key : (BitVec.ofInt 64 n &&& BitVec.ofInt 64 255).toNat = (n % ((2 ^ 64 : Nat) : Int)).toNat % 2 ^ 8 := by
    rw [BitVec.toNat_and, BitVec.toNat_ofInt, h127, Nat.and_two_pow_sub_one_eq_mod]
  show IntKind.i64.wrap ((BitVec.ofInt 64 n &&& BitVec.ofInt 64 255).toNat : Nat) = n % 256
  rw [key, show ∀ m : Int, IntKind.i64.wrap m = w64 m from fun _ => rfl, w64_id (by omega)]
  omega
def Pos (l : List Int) (p : Int) : Prop := 0 ≤ p ∧ p ≤ (l.length : Int) ∧ (l.length : Int) ≤ 1048576
theorem tmod_bd {b a : Int} (hb : 0 ≤ b) (ha : 0 < a) : 0 ≤ Int.tmod b a ∧ Int.tmod b a < a := by
  rw [Int.tmod_eq_emod_of_nonneg hb]
  exact ⟨Int.emod_nonneg _ (by omega), Int.emod_lt_of_pos _ ha⟩
theorem spec_l1New_l {l : List Int} (hl : Ok l) (k : Nat) : ∀ (n q : Nat) (h : Int) (i : Nat), 4000 ≤ i + n → i ≤ 4000 → n < q → Ret' (spec_l1New.l3 k l (fun y => some ((0 : Int), y)) q h (i : Int)) fun t => t.1 = 0 := by
  have hl' := hl.out
  intro n
  induction n with
  | zero =>
    intro q h i h1 h2 hq
    obtain ⟨q, rfl⟩ : ∃ j, q = j + 1 := ⟨q - 1, by omega⟩
    simp only [spec_l1New.l3, spec_l1New.L3]
    refine Ret'.bif (fun c => ?_) (fun c => .some rfl)
    rw [decide_eq_false (show ¬ ((i : Int) < 4000) by omega)]
    exact .some rfl
  | succ n ih =>
    intro q h i h1 h2 hq
    obtain ⟨q, rfl⟩ : ∃ j, q = j + 1 := ⟨q - 1, by omega⟩
    simp only [spec_l1New.l3, spec_l1New.L3]
    refine Ret'.bif (fun c => ?_) (fun c => .some rfl)
    refine Ret'.bif (fun c2 => ?_) (fun c2 => .some rfl)
    have c2 := of_decide_eq_true c2
    rw [nn_, cond_true, c, cond_true, w64_id (n := (i : Int) + 1) (by omega)]
    exact ih q _ (i + 1) (by omega) (by omega) (by omega)
theorem spec_l1New_t {k : Nat} (hk : Big k) {l : List Int} (hl : Ok l) : Ret' (spec_l1New.f k l) fun t => Pos l t.1 := by
  have hl' := hl.out
  have hk' := hk.out
  unfold spec_l1New.f
  exact (spec_l1New_l hl k 4000 k _ 0 (by omega) (by omega) (by omega)).imp fun t ht => by rw [ht]; unfold Pos; omega
theorem spec_l1Byte_t (k : Nat) {l : List Int} {p : Int} (h : Int) (hp : Pos l p) : Ret' (spec_l1Byte.f k l p h) fun t => Pos l t.2.1 ∧ 0 ≤ t.1 ∧ t.1 ≤ 255 := by
  obtain ⟨h0, h1, h2⟩ := hp
  unfold spec_l1Byte.f
  simp only [i64_and255]
  refine Ret'.bif (fun c => ?_) (fun c => .some ⟨⟨h0, h1, h2⟩, by simp only; omega, by simp only; omega⟩)
  have c := of_decide_eq_true c
  rw [decide_eq_true h0, cond_true, decide_eq_true c, cond_true]
  exact .some ⟨by simp only; rw [w64_id (by omega)]; unfold Pos; omega, by simp only; omega, by simp only; omega⟩
theorem spec_l1Below_t (k : Nat) {l : List Int} {p : Int} (h : Int) (hp : Pos l p) (a : Int) (ha : 0 < a) : Ret' (spec_l1Below.f k l p h a) fun t => Pos l t.2.1 ∧ 0 ≤ t.1 ∧ t.1 < a := by
  unfold spec_l1Below.f
  rw [decide_eq_false (show ¬ a ≤ 0 by omega), cond_false]
  refine Ret'.bif (fun c => ?_) (fun c => ?_)
  · refine (spec_l1Byte_t k h hp).bind fun t ⟨q, b0, b1⟩ => ?_
    rw [decide_eq_false (show ¬ a = 0 by omega), cond_false]
    exact .some ⟨q, tmod_bd b0 ha⟩
  · refine (spec_l1Byte_t k h hp).bind fun t ⟨q, b0, b1⟩ => (spec_l1Byte_t k _ q).bind fun t2 ⟨q2, c0, c1⟩ => (spec_l1Byte_t k _ q2).bind fun t3 ⟨q3, d0, d1⟩ => ?_
    rw [decide_eq_false (show ¬ a = 0 by omega), cond_false, w64_id (n := t.1 * 65536) (by omega), w64_id (n := t2.1 * 256) (by omega), w64_id (n := t.1 * 65536 + t2.1 * 256) (by omega), w64_id (by omega)]
    exact .some ⟨q3, tmod_bd (by omega) ha⟩
theorem spec_l21Op_t (k : Nat) {l : List Int} {p : Int} (h : Int) (hp : Pos l p) : Ret' (spec_l21Op.f k l p h) fun t => Pos l t.2.2.2.2.1 := by
  unfold spec_l21Op.f
  exact (spec_l1Below_t k h hp 5 (by decide)).bind fun t ⟨q, _⟩ => (spec_l1Below_t k _ q 4 (by decide)).bind fun t ⟨q, _⟩ =>
    .bif (fun _ => (spec_l1Below_t k _ q 4 (by decide)).bind fun t ⟨q, _⟩ => .some q) fun _ => .bif (fun _ => (spec_l1Below_t k _ q 4 (by decide)).bind fun t ⟨q, _⟩ => .some q) fun _ => .bif (fun _ => (spec_l1Below_t k _ q 20 (by decide)).bind fun t ⟨q, _⟩ => .some q) fun _ =>
    (spec_l1Below_t k _ q 4 (by decide)).bind fun t ⟨q, _⟩ => (spec_l1Below_t k _ q 4 (by decide)).bind fun t ⟨q, _⟩ => .some q
theorem loop_down {σ R : Type} (l : Nat → Int → Int → Int → List σ → Option R) (B : Nat) (I : Int → Prop) (Q : R → Prop)
    (hs : ∀ q (n : Nat) p h s, I p → s.length + (n + 1) ≤ B → (∀ p' h' x, I p' → Ret' (l q (n : Int) p' h' (s ++ [x])) Q) → Ret' (l (q + 1) ((n + 1 : Nat) : Int) p h s) Q)
    (he : ∀ q p h s, I p → s.length ≤ B → Ret' (l (q + 1) 0 p h s) Q) : ∀ (n q : Nat) p h s, n < q → I p → s.length + n ≤ B → Ret' (l q (n : Int) p h s) Q := by
  intro n
  induction n with
  | zero =>
    intro q p h s hq hp hb
    obtain ⟨q, rfl⟩ : ∃ j, q = j + 1 := ⟨q - 1, by omega⟩
    exact he q p h s hp hb
  | succ n ih =>
    intro q p h s hq hp hb
    obtain ⟨q, rfl⟩ : ∃ j, q = j + 1 := ⟨q - 1, by omega⟩
    exact hs q n p h s hp hb fun p' h' x hp' => ih q p' h' (s ++ [x]) (by omega) hp' (by simp; omega)
theorem down1 (n : Nat) (hn : n ≤ 1000000) : w64 (((n + 1 : Nat) : Int) - 1) = (n : Int) := by rw [w64_id (by omega)]; omega
theorem down_gt (n : Nat) : decide (((n + 1 : Nat) : Int) > 0) = true := decide_eq_true (by omega)
theorem spec_l21Ops_t {k : Nat} (hk : Big k) {l : List Int} {p : Int} (h : Int) (hp : Pos l p) : Ret' (spec_l21Ops.f k l p h) fun t => Pos l t.1 ∧ t.2.2.length ≤ 20 := by
  have hk' := hk.out
  unfold spec_l21Ops.f
  refine (spec_l1Below_t k h hp 10 (by decide)).bind fun t ⟨q, b0, b1⟩ => ?_
  obtain ⟨n, hn⟩ := Int.eq_ofNat_of_zero_le b0
  rw [hn]
  refine loop_down (spec_l21Ops.l3 k l fun y4 y5 y6 => some (y4, y5, y6)) 20 (Pos l) _ (fun q n p h s hp hb ih => ?_) (fun q p h s hp hb => ?_) n k _ _ [] (by omega) q (by simp; omega)
  · simp only [spec_l21Ops.l3, spec_l21Ops.L3, down_gt, cond_true, down1 n (by omega)]
    refine (spec_l21Op_t k h hp).bind fun t q => ?_
    rw [decide_eq_true (by unfold cap48; simp; omega), cond_true]
    exact ih _ _ _ q
  · exact .some ⟨hp, hb⟩
theorem spec_l9Pattern_t (k : Nat) {l : List Int} {p : Int} (h : Int) (hp : Pos l p) : Ret' (spec_l9Pattern.f k l p h) fun t => Pos l t.2.2.1 := by
  unfold spec_l9Pattern.f
  exact (spec_l1Below_t k h hp 5 (by decide)).bind fun t ⟨q, _⟩ => (spec_l1Below_t k _ q 4 (by decide)).bind fun t ⟨q, _⟩ => .some q
theorem spec_l9Site_t (k : Nat) {l : List Int} {p : Int} (h : Int) (hp : Pos l p) : Ret' (spec_l9Site.f k l p h) fun t => Pos l t.2.2.1 := by
  unfold spec_l9Site.f
  exact (spec_l1Below_t k h hp 4 (by decide)).bind fun t ⟨q, _⟩ => (spec_l1Below_t k _ q 3 (by decide)).bind fun t ⟨q, _⟩ => .some q
theorem spec_l13Draw_t (k : Nat) {l : List Int} {p : Int} (h : Int) (hp : Pos l p) : Ret' (spec_l13Draw.f k l p h) fun t => Pos l t.2.2.2.2.2.2.2.2.1 := by
  unfold spec_l13Draw.f
  exact (spec_l1Below_t k h hp 3 (by decide)).bind fun t ⟨q, _⟩ => (spec_l1Below_t k _ q 3 (by decide)).bind fun t ⟨q, _⟩ => (spec_l9Pattern_t k _ q).bind fun t q => (spec_l1Below_t k _ q 3 (by decide)).bind fun t ⟨q, _⟩ => (spec_l1Below_t k _ q 3 (by decide)).bind fun t ⟨q, _⟩ =>
    .bif (fun _ => (spec_l9Site_t k _ q).bind fun t q => .some q) fun _ => .some q
theorem spec_l1In_e (k : Nat) (n a b : Int) : spec_l1In.f k n a b = some (inR n a b) := by
  unfold spec_l1In.f inR
  by_cases h : a ≤ n <;> simp [h]
def isOpV (kd a b c : Int) : Bool := inR a 0 5 && (if kd = 1 ∨ kd = 5 then inR b 1 9 && c == 0 else if kd = 2 then inR b 0 999 && c == 0 else if kd = 3 ∨ kd = 4 then inR b 0 5 && inR c 0 5 else false)
theorem spec_l21Ok_e (k : Nat) (kd a b c : Int) : spec_l21Ok.f k kd a b c = some (isOpV kd a b c) := by
  unfold spec_l21Ok.f isOpV
  simp only [spec_l1In_e, Option.bind_some]
  cases inR a 0 5 <;>
  · by_cases h1 : kd = 1
    · subst h1; cases inR b 1 9 <;> simp
    · by_cases h5 : kd = 5
      · subst h5; cases inR b 1 9 <;> simp
      · by_cases h2 : kd = 2
        · subst h2; cases inR b 0 999 <;> simp
        · by_cases h3 : kd = 3
          · subst h3; cases inR b 0 5 <;> simp
          · by_cases h4 : kd = 4
            · subst h4; cases inR b 0 5 <;> simp
            · simp [h1, h2, h3, h4, h5, beqF h1, beqF h2, beqF h3, beqF h4, beqF h5]
def opOk (x : T_impl_Op) : Bool := isOpV x.f0 x.f1 x.f2 x.f3
def areOps (l : List T_impl_Op) : Bool := l.all opOk && decide (l.length ≤ 16)
theorem spec_AreOps_e {k : Nat} (hk : Big k) {l : List T_impl_Op} (hl : Ok l) : spec_AreOps.f k l = some (areOps l) := by
  unfold spec_AreOps.f areOps
  rw [loop_all (spec_AreOps.l2 k l (fun y => some y) (fun _ => some (decide ((l.length : Int) ≤ 16)))) opOk (some (decide ((l.length : Int) ≤ 16))) (some false) l (fun n i x hx => by
    obtain ⟨h1, h2, h3, h4⟩ := at_ hx (by have := hl.out; omega)
    simp only [spec_AreOps.l2, spec_AreOps.L2, rd_impl_Op, h1, h2, h3, h4, spec_l21Ok_e, Option.bind_some, cond_true]
    cases hp : opOk x <;> simp only [opOk] at hp <;> rw [hp] <;> rfl) (fun n => by simp only [spec_AreOps.l2, spec_AreOps.L2, end_, cond_false]) k (hk.lt hl)]
  have : decide ((l.length : Int) ≤ 16) = decide (l.length ≤ 16) := by rw [decide_eq_decide]; omega
  rw [this]
  cases l.all opOk <;> rfl
def zeros : List Int := [0, 0, 0, 0, 0, 0]
theorem spec_l21Zeros_e {k : Nat} (hk : Big k) : spec_l21Zeros.f k = some zeros := by
  have hk' := hk.out
  obtain ⟨q, rfl⟩ : ∃ j, k = j + 7 := ⟨k - 7, by omega⟩
  rfl
def valV (l : List Int) (o : Int) : Int := bif decide (1 ≤ o ∧ o ≤ (l.length : Int)) && inR (rd_i64 l (o - 1)) 0 999 then rd_i64 l (o - 1) else 0
theorem valV_rg (l : List Int) (o : Int) : 0 ≤ valV l o ∧ valV l o ≤ 999 := by
  unfold valV
  cases h : decide (1 ≤ o ∧ o ≤ (l.length : Int)) && inR (rd_i64 l (o - 1)) 0 999 with
  | false => exact ⟨Int.le_refl 0, show (0 : Int) ≤ 999 by decide⟩
  | true => rw [Bool.and_eq_true] at h; exact inR_true.1 h.2
theorem spec_l21Value_e (k : Nat) {l : List Int} (hl : Ok l) {o : Int} (h1 : 1 ≤ o) : spec_l21Value.f k l o = some (valV l o) := by
  have hl' := hl.out
  unfold spec_l21Value.f valV
  by_cases h : o > (l.length : Int)
  · rw [decide_eq_true h, decide_eq_false (show ¬ (1 ≤ o ∧ o ≤ (l.length : Int)) by omega)]; rfl
  · rw [decide_eq_false h, w64_id (by omega), decide_eq_true (show 0 ≤ o - 1 by omega), decide_eq_true (show o - 1 < (l.length : Int) by omega), decide_eq_true (show 1 ≤ o ∧ o ≤ (l.length : Int) by omega), spec_l1In_e, Option.bind_some]
    cases inR (rd_i64 l (o - 1)) 0 999 <;> rfl
def hasI (l : List Int) (o : Int) : Bool := l.any fun y => y == o
theorem spec_l7Has_e {k : Nat} (hk : Big k) {l : List Int} (hl : Ok l) (o : Int) : spec_l7Has.f k l o = some (hasI l o) := by
  unfold spec_l7Has.f hasI
  rw [loop_any (spec_l7Has.l2 k o l (fun y => some y) (fun _ => some false)) (fun y => y == o) (some false) (some true) l (fun n i x hx => by
    obtain ⟨h1, h2, h3, h4⟩ := at_ hx (by have := hl.out; omega)
    simp only [spec_l7Has.l2, spec_l7Has.L2, rd_i64, h1, h2, h3, h4, cond_true]) (fun n => by simp only [spec_l7Has.l2, spec_l7Has.L2, end_, cond_false]) k (hk.lt hl)]
  cases l.any fun y => y == o <;> rfl
theorem spec_l19Bit_l (k : Nat) : ∀ (n q : Nat) (o v i : Int), o - i = n → 0 ≤ i → n < q → 0 ≤ v → v * 2 ^ n ≤ 4611686018427387904 → o ≤ 100 → spec_l19Bit.l3 k o (fun y => some y) q v i = some (v * 2 ^ n) := by
  intro n
  induction n with
  | zero =>
    intro q o v i h h0 hq hv hb ho
    obtain ⟨q, rfl⟩ : ∃ j, q = j + 1 := ⟨q - 1, by omega⟩
    simp only [spec_l19Bit.l3, spec_l19Bit.L3]
    rw [decide_eq_false (by omega), cond_false]
    simp
  | succ n ih =>
    intro q o v i h h0 hq hv hb ho
    obtain ⟨q, rfl⟩ : ∃ j, q = j + 1 := ⟨q - 1, by omega⟩
    have e : v * 2 ^ (n + 1) = (2 * v) * 2 ^ n := by rw [Int.pow_succ]; rw [Int.mul_comm 2 v, Int.mul_assoc, Int.mul_comm 2]
    have hp : (1 : Int) ≤ 2 ^ n := Int.pow_pos (by omega)
    have h2 : 2 * v ≤ (2 * v) * 2 ^ n := by
      have := Int.mul_le_mul_of_nonneg_left hp (show 0 ≤ 2 * v by omega)
      omega
    rw [e] at hb ⊢
    simp only [spec_l19Bit.l3, spec_l19Bit.L3]
    rw [decide_eq_true (by omega), cond_true, w64_id (n := 2 * v) (by omega), w64_id (by omega)]
    exact ih q o (2 * v) (i + 1) (by omega) (by omega) (by omega) (by omega) hb ho
theorem spec_l19Bit_e {k : Nat} (hk : Big k) (o : Int) (h1 : 1 ≤ o) (h9 : o ≤ 9) : spec_l19Bit.f k o = some (2 ^ o.toNat) := by
  have hk' := hk.out
  unfold spec_l19Bit.f
  have hb : (1 : Int) * 2 ^ o.toNat ≤ 4611686018427387904 := by
    have : o = 1 ∨ o = 2 ∨ o = 3 ∨ o = 4 ∨ o = 5 ∨ o = 6 ∨ o = 7 ∨ o = 8 ∨ o = 9 := by omega
    rcases this with rfl | rfl | rfl | rfl | rfl | rfl | rfl | rfl | rfl <;> decide
  rw [spec_l19Bit_l k o.toNat k o 1 0 (by omega) (by omega) (by omega) (by omega) hb (by omega), Int.one_mul]
theorem foldl_filter {α : Type} (p : α → Bool) (xs : List α) : ∀ s : List α, xs.foldl (fun s x => bif p x then s ++ [x] else s) s = s ++ xs.filter p := by
  induction xs with
  | nil => intro s; simp
  | cons x xs ih => intro s; rw [List.foldl_cons, ih]; cases h : p x <;> simp [h]
def isLab (x : Int) : Bool := inR x 0 1022 && x.tmod 2 == 0
def nine : List Int := [1, 2, 3, 4, 5, 6, 7, 8, 9]
def bitO (x o : Int) : Bool := x / 2 ^ o.toNat % 2 == 1
def ownersV (x : Int) : List Int := bif isLab x then nine.filter (bitO x) else []
theorem isLab_bd {x : Int} (h : isLab x = true) : 0 ≤ x ∧ x ≤ 1022 ∧ x % 2 = 0 := by
  unfold isLab at h
  rw [Bool.and_eq_true, inR_true, beq_iff_eq] at h
  rw [Int.tmod_eq_emod_of_nonneg h.1.1] at h
  exact ⟨h.1.1, h.1.2, h.2⟩
theorem isLab_of {x : Int} (h0 : 0 ≤ x) (h1 : x ≤ 1022) (h2 : x % 2 = 0) : isLab x = true := by
  unfold isLab
  rw [Int.tmod_eq_emod_of_nonneg h0, Bool.and_eq_true, inR_true, beq_iff_eq]
  exact ⟨⟨h0, h1⟩, h2⟩
theorem nine_at {i : Nat} {o : Int} (h : nine[i]? = some o) : o = (i : Int) + 1 ∧ i < 9 := by
  have hi : i < 9 := (List.getElem?_eq_some_iff.1 h).1
  refine ⟨?_, hi⟩
  have : i = 0 ∨ i = 1 ∨ i = 2 ∨ i = 3 ∨ i = 4 ∨ i = 5 ∨ i = 6 ∨ i = 7 ∨ i = 8 := by omega
  rcases this with rfl | rfl | rfl | rfl | rfl | rfl | rfl | rfl | rfl <;> simp [nine] at h <;> omega
theorem ownersV_len (x : Int) : (ownersV x).length ≤ 9 := by
  unfold ownersV
  cases isLab x
  · simp
  · exact Nat.le_trans (List.length_filter_le _ _) (by decide)
theorem ownersV_ok (x : Int) : Ok (ownersV x) := Ok.small 9 (ownersV_len x)
theorem pow9 {o : Int} (h1 : 1 ≤ o) (h9 : o ≤ 9) : 2 ≤ (2 : Int) ^ o.toNat ∧ (2 : Int) ^ o.toNat ≤ 512 := by
  have : o = 1 ∨ o = 2 ∨ o = 3 ∨ o = 4 ∨ o = 5 ∨ o = 6 ∨ o = 7 ∨ o = 8 ∨ o = 9 := by omega
  rcases this with rfl | rfl | rfl | rfl | rfl | rfl | rfl | rfl | rfl <;> decide
theorem bit_q {x o : Int} (h : isLab x = true) : 0 ≤ x / 2 ^ o.toNat ∧ x / 2 ^ o.toNat ≤ 1022 := by
  have hb := isLab_bd h
  have hp : (0 : Int) < 2 ^ o.toNat := Int.pow_pos (by omega)
  exact ⟨Int.ediv_nonneg hb.1 (by omega), Int.le_trans (Int.ediv_le_self _ hb.1) hb.2.1⟩
def labelV (l : List Int) : Int := nine.foldl (fun s o => bif hasI l o then s + 2 ^ o.toNat else s) 0
theorem spec_LabelOf_e {k : Nat} (hk : Big k) {l : List Int} (hl : Ok l) : spec_LabelOf.f k l = some (labelV l) := by
  have hk' := hk.out
  unfold spec_LabelOf.f labelV
  exact loop_fold (fun q i s => spec_LabelOf.l3 k l (fun y3 => some y3) q s (i + 1)) (fun s o => bif hasI l o then s + 2 ^ o.toNat else s) (fun i s => 0 ≤ s ∧ s ≤ 512 * (i : Int)) (fun s => some s) nine (fun n i o s hx hi => by
    obtain ⟨rfl, h9⟩ := nine_at hx
    have hp := pow9 (o := (i : Int) + 1) (by omega) (by omega)
    simp only [spec_LabelOf.l3, spec_LabelOf.L3, spec_l7Has_e hk hl, Option.bind_some, spec_l19Bit_e hk _ (show 1 ≤ (i : Int) + 1 by omega) (by omega)]
    rw [decide_eq_true (show (i : Int) + 1 ≤ 9 by omega), cond_true, w64_id (n := s + _) (by omega), w64_id (by omega)]
    cases hasI l ((i : Int) + 1) <;> rfl) (fun i o s hx hi => by
    obtain ⟨rfl, h9⟩ := nine_at hx
    have hp := pow9 (o := (i : Int) + 1) (by omega) (by omega)
    cases hasI l ((i : Int) + 1)
    · show 0 ≤ s ∧ s ≤ 512 * ((i + 1 : Nat) : Int); omega
    · show 0 ≤ s + 2 ^ ((i : Int) + 1).toNat ∧ s + 2 ^ ((i : Int) + 1).toNat ≤ 512 * ((i + 1 : Nat) : Int); omega) (fun n s hs => by
    simp only [spec_LabelOf.l3, spec_LabelOf.L3]
    rfl) k 0 (by show 9 < k; omega) (by simp)
theorem spec_IsLabel_e (k : Nat) (x : Int) : spec_IsLabel.f k x = some (isLab x) := by
  unfold spec_IsLabel.f isLab
  rw [spec_l1In_e, Option.bind_some]
  cases inR x 0 1022 <;> rfl
theorem spec_OwnersIn_e {k : Nat} (hk : Big k) (x : Int) : spec_OwnersIn.f k x = some (ownersV x) := by
  have hk' := hk.out
  unfold spec_OwnersIn.f ownersV
  cases h : isLab x with
  | false =>
    obtain ⟨q, hq⟩ : ∃ j, k = j + 1 := ⟨k - 1, by omega⟩
    rw [show ∀ y, spec_OwnersIn.l3 k x (fun y3 => some y3) k 1 y = spec_OwnersIn.l3 k x (fun y3 => some y3) (q + 1) 1 y from fun y => by rw [← hq]]
    simp only [spec_OwnersIn.l3, spec_OwnersIn.L3, spec_IsLabel_e, h, Option.bind_some, cond_false]
    rfl
  | true =>
    have := loop_fold (fun q i s => spec_OwnersIn.l3 k x (fun y3 => some y3) q (i + 1) s) (fun s o => bif bitO x o then s ++ [o] else s) (fun i s => s.length ≤ i) (fun s => some s) nine (fun n i o s hx hi => by
      obtain ⟨rfl, h9⟩ := nine_at hx
      have hp := pow9 (o := (i : Int) + 1) (by omega) (by omega)
      have hq := bit_q (o := (i : Int) + 1) h
      have hd : Int.tdiv x (2 ^ ((i : Int) + 1).toNat) = x / 2 ^ ((i : Int) + 1).toNat := Int.tdiv_eq_ediv_of_nonneg (isLab_bd h).1
      simp only [spec_OwnersIn.l3, spec_OwnersIn.L3, spec_IsLabel_e, h, Option.bind_some, cond_true, spec_l19Bit_e hk _ (show 1 ≤ (i : Int) + 1 by omega) (by omega), hd]
      rw [decide_eq_true (show (i : Int) + 1 ≤ 9 by omega), cond_true, decide_eq_false (by omega), cond_false, w64_id (n := x / _) (by omega), w64_id (by omega), Int.tmod_eq_emod_of_nonneg hq.1, decide_eq_true (by unfold cap48; simp; omega), cond_true]
      unfold bitO
      cases (x / 2 ^ ((i : Int) + 1).toNat % 2 == 1) <;> rfl) (fun i o s hx hi => by
      cases bitO x o
      · show s.length ≤ i + 1; omega
      · show (s ++ [o]).length ≤ i + 1; simp; omega) (fun n s hs => by
      simp only [spec_OwnersIn.l3, spec_OwnersIn.L3]
      rfl) k [] (by show 9 < k; omega) (Nat.le_refl 0)
    rw [foldl_filter] at this
    exact this
theorem i64_and1 {n : Int} (h0 : 0 ≤ n) (h1 : n ≤ 1022) : bitop .and .i64 n 1 = n % 2 := by
  obtain ⟨m, rfl⟩ := Int.eq_ofNat_of_zero_le h0
  have h127 : (BitVec.ofInt 64 1).toNat = 2 ^ 1 - 1 := by decide
  have key : (BitVec.ofInt 64 (m : Int) &&& BitVec.ofInt 64 1).toNat = ((m : Int) % ((2 ^ 64 : Nat) : Int)).toNat % 2 ^ 1 := by
    rw [BitVec.toNat_and, BitVec.toNat_ofInt, h127, Nat.and_two_pow_sub_one_eq_mod]
  show IntKind.i64.wrap ((BitVec.ofInt 64 (m : Int) &&& BitVec.ofInt 64 1).toNat : Nat) = (m : Int) % 2
  rw [key, show ∀ m : Int, IntKind.i64.wrap m = w64 m from fun _ => rfl, w64_id (by omega)]
  omega
theorem i64_or {a b : Nat} (ha : a < 1024) (hb : b < 1024) : bitop .or .i64 (a : Int) (b : Int) = ((a ||| b : Nat) : Int) := by
  have key : (BitVec.ofInt 64 (a : Int) ||| BitVec.ofInt 64 (b : Int)).toNat = a ||| b := by
    rw [BitVec.toNat_or, BitVec.toNat_ofInt, BitVec.toNat_ofInt]
    congr 1 <;> omega
  have hlt : a ||| b < 2 ^ 10 := Nat.or_lt_two_pow (by omega) (by omega)
  show IntKind.i64.wrap ((BitVec.ofInt 64 (a : Int) ||| BitVec.ofInt 64 (b : Int)).toNat : Nat) = _
  rw [key, show ∀ m : Int, IntKind.i64.wrap m = w64 m from fun _ => rfl, w64_id (by omega)]
theorem or_step (a b : Nat) : a ||| b = 2 * (a / 2 ||| b / 2) + (bif (a % 2 == 1) || (b % 2 == 1) then 1 else 0) := by
  have h1 : (a ||| b) / 2 = a / 2 ||| b / 2 := Nat.or_div_two
  have h2 : (a ||| b) % 2 = bif (a % 2 == 1) || (b % 2 == 1) then 1 else 0 := by
    have ha : a % 2 = 0 ∨ a % 2 = 1 := by omega
    have hb : b % 2 = 0 ∨ b % 2 = 1 := by omega
    have h3 := Nat.or_mod_two_pow (a := a) (b := b) (n := 1)
    simp only [Nat.pow_one] at h3
    rw [h3]
    rcases ha with h | h <;> rcases hb with g | g <;> rw [h, g] <;> rfl
  rw [← h1, ← h2]
  omega
def bitN (a n : Nat) : Bool := a / 2 ^ n % 2 == 1
theorem or_bits {a b : Nat} (ha : a < 1024) (hb : b < 1024) (a0 : a % 2 = 0) (b0 : b % 2 = 0) : a ||| b = (bif bitN a 1 || bitN b 1 then 2 else 0) + (bif bitN a 2 || bitN b 2 then 4 else 0) + (bif bitN a 3 || bitN b 3 then 8 else 0) + (bif bitN a 4 || bitN b 4 then 16 else 0) + (bif bitN a 5 || bitN b 5 then 32 else 0) + (bif bitN a 6 || bitN b 6 then 64 else 0) + (bif bitN a 7 || bitN b 7 then 128 else 0) + (bif bitN a 8 || bitN b 8 then 256 else 0) + (bif bitN a 9 || bitN b 9 then 512 else 0) := by
  have hz : (a / 2 / 2 / 2 / 2 / 2 / 2 / 2 / 2 / 2 / 2 ||| b / 2 / 2 / 2 / 2 / 2 / 2 / 2 / 2 / 2 / 2) = 0 := by
    rw [show a / 2 / 2 / 2 / 2 / 2 / 2 / 2 / 2 / 2 / 2 = 0 by omega, show b / 2 / 2 / 2 / 2 / 2 / 2 / 2 / 2 / 2 / 2 = 0 by omega]; rfl
  rw [or_step a b, or_step (a / 2), or_step (a / 2 / 2), or_step (a / 2 / 2 / 2), or_step (a / 2 / 2 / 2 / 2), or_step (a / 2 / 2 / 2 / 2 / 2), or_step (a / 2 / 2 / 2 / 2 / 2 / 2), or_step (a / 2 / 2 / 2 / 2 / 2 / 2 / 2), or_step (a / 2 / 2 / 2 / 2 / 2 / 2 / 2 / 2), or_step (a / 2 / 2 / 2 / 2 / 2 / 2 / 2 / 2 / 2), hz]
  simp only [a0, b0, Nat.div_div_eq_div_mul, bitN]
  simp only [show (2 * 2 * 2 * 2 * 2 * 2 * 2 * 2 * 2 : Nat) = 2 ^ 9 from rfl, show (2 * 2 * 2 * 2 * 2 * 2 * 2 * 2 : Nat) = 2 ^ 8 from rfl, show (2 * 2 * 2 * 2 * 2 * 2 * 2 : Nat) = 2 ^ 7 from rfl, show (2 * 2 * 2 * 2 * 2 * 2 : Nat) = 2 ^ 6 from rfl, show (2 * 2 * 2 * 2 * 2 : Nat) = 2 ^ 5 from rfl, show (2 * 2 * 2 * 2 : Nat) = 2 ^ 4 from rfl, show (2 * 2 * 2 : Nat) = 2 ^ 3 from rfl, show (2 * 2 : Nat) = 2 ^ 2 from rfl, show (a / 2 : Nat) = a / 2 ^ 1 from rfl, show (b / 2 : Nat) = b / 2 ^ 1 from rfl]
  generalize (a / 2 ^ 1 % 2 == 1 || b / 2 ^ 1 % 2 == 1) = c1, (a / 2 ^ 2 % 2 == 1 || b / 2 ^ 2 % 2 == 1) = c2, (a / 2 ^ 3 % 2 == 1 || b / 2 ^ 3 % 2 == 1) = c3, (a / 2 ^ 4 % 2 == 1 || b / 2 ^ 4 % 2 == 1) = c4, (a / 2 ^ 5 % 2 == 1 || b / 2 ^ 5 % 2 == 1) = c5, (a / 2 ^ 6 % 2 == 1 || b / 2 ^ 6 % 2 == 1) = c6, (a / 2 ^ 7 % 2 == 1 || b / 2 ^ 7 % 2 == 1) = c7, (a / 2 ^ 8 % 2 == 1 || b / 2 ^ 8 % 2 == 1) = c8, (a / 2 ^ 9 % 2 == 1 || b / 2 ^ 9 % 2 == 1) = c9
  clear hz ha hb a0 b0
  revert c1 c2 c3 c4 c5 c6 c7 c8 c9
  decide
theorem bitO_nat (a n : Nat) : bitO (a : Int) ((n : Nat) : Int) = bitN a n := by
  unfold bitO bitN
  rw [Int.toNat_natCast, Bool.eq_iff_iff, beq_iff_eq, beq_iff_eq]
  have : ((a : Int) / 2 ^ n % 2) = ((a / 2 ^ n % 2 : Nat) : Int) := by norm_cast
  rw [this]
  omega
theorem hasI_owners {x : Int} (h : isLab x = true) (o : Int) (ho : o ∈ nine) : hasI (ownersV x) o = bitO x o := by
  unfold hasI ownersV
  rw [h, cond_true, Bool.eq_iff_iff, List.any_eq_true]
  constructor
  · rintro ⟨y, hy, e⟩
    obtain rfl := eq_of_beq e
    exact (List.mem_filter.1 hy).2
  · intro hb
    exact ⟨o, List.mem_filter.2 ⟨ho, hb⟩, beq_self_eq_true o⟩
theorem hasI_append (l m : List Int) (o : Int) : hasI (l ++ m) o = (hasI l o || hasI m o) := by simp [hasI]
def orL (x y : Int) : Int := bitop .or .i64 x y
theorem label_join {x y : Int} (hx : isLab x = true) (hy : isLab y = true) : labelV (ownersV x ++ ownersV y) = orL x y := by
  obtain ⟨x0, x1, x2⟩ := isLab_bd hx
  obtain ⟨y0, y1, y2⟩ := isLab_bd hy
  obtain ⟨a, rfl⟩ := Int.eq_ofNat_of_zero_le x0
  obtain ⟨b, rfl⟩ := Int.eq_ofNat_of_zero_le y0
  unfold orL
  rw [i64_or (by omega) (by omega), or_bits (by omega) (by omega) (by omega) (by omega)]
  unfold labelV
  have H : ∀ n : Nat, (n : Int) ∈ nine → hasI (ownersV (a : Int) ++ ownersV (b : Int)) ((n : Nat) : Int) = (bitN a n || bitN b n) := fun n hn => by rw [hasI_append, hasI_owners hx _ hn, hasI_owners hy _ hn, bitO_nat, bitO_nat]
  have h1 := H 1 (by decide)
  have h2 := H 2 (by decide)
  have h3 := H 3 (by decide)
  have h4 := H 4 (by decide)
  have h5 := H 5 (by decide)
  have h6 := H 6 (by decide)
  have h7 := H 7 (by decide)
  have h8 := H 8 (by decide)
  have h9 := H 9 (by decide)
  generalize ownersV (a : Int) ++ ownersV (b : Int) = L at *
  clear H
  simp only [Int.ofNat_eq_natCast, Int.cast_ofNat_Int] at h1 h2 h3 h4 h5 h6 h7 h8 h9
  simp only [nine, List.foldl_cons, List.foldl_nil]
  rw [show hasI L 1 = _ from h1, show hasI L 2 = _ from h2, show hasI L 3 = _ from h3, show hasI L 4 = _ from h4, show hasI L 5 = _ from h5, show hasI L 6 = _ from h6, show hasI L 7 = _ from h7, show hasI L 8 = _ from h8, show hasI L 9 = _ from h9]
  generalize (bitN a 1 || bitN b 1) = c1, (bitN a 2 || bitN b 2) = c2, (bitN a 3 || bitN b 3) = c3, (bitN a 4 || bitN b 4) = c4, (bitN a 5 || bitN b 5) = c5, (bitN a 6 || bitN b 6) = c6, (bitN a 7 || bitN b 7) = c7, (bitN a 8 || bitN b 8) = c8, (bitN a 9 || bitN b 9) = c9
  clear h1 h2 h3 h4 h5 h6 h7 h8 h9 hx hy x0 x1 x2 y0 y1 y2
  revert c1 c2 c3 c4 c5 c6 c7 c8 c9
  decide
theorem or_lab {x y : Int} (hx : isLab x = true) (hy : isLab y = true) : isLab (orL x y) = true := by
  obtain ⟨x0, x1, x2⟩ := isLab_bd hx
  obtain ⟨y0, y1, y2⟩ := isLab_bd hy
  obtain ⟨a, rfl⟩ := Int.eq_ofNat_of_zero_le x0
  obtain ⟨b, rfl⟩ := Int.eq_ofNat_of_zero_le y0
  unfold orL
  rw [i64_or (by omega) (by omega)]
  have h1 : a ||| b < 2 ^ 10 := Nat.or_lt_two_pow (by omega) (by omega)
  have h2 := or_step a b
  have h3 : (bif (a % 2 == 1) || (b % 2 == 1) then 1 else 0 : Nat) = 0 := by rw [show a % 2 = 0 by omega, show b % 2 = 0 by omega]; rfl
  rw [h3] at h2
  exact isLab_of (by omega) (by omega) (by omega)
theorem orL_assoc {x y z : Int} (hx : isLab x = true) (hy : isLab y = true) (hz : isLab z = true) : orL x (orL y z) = orL (orL x y) z := by
  have h1 := or_lab hx hy
  have h2 := or_lab hy hz
  obtain ⟨x0, x1, x2⟩ := isLab_bd hx
  obtain ⟨y0, y1, y2⟩ := isLab_bd hy
  obtain ⟨z0, z1, z2⟩ := isLab_bd hz
  obtain ⟨a, rfl⟩ := Int.eq_ofNat_of_zero_le x0
  obtain ⟨b, rfl⟩ := Int.eq_ofNat_of_zero_le y0
  obtain ⟨c, rfl⟩ := Int.eq_ofNat_of_zero_le z0
  unfold orL
  have g1 : a ||| b < 2 ^ 10 := Nat.or_lt_two_pow (by omega) (by omega)
  have g2 : b ||| c < 2 ^ 10 := Nat.or_lt_two_pow (by omega) (by omega)
  rw [i64_or (a := b) (by omega) (by omega), i64_or (a := a) (b := b) (by omega) (by omega), i64_or (by omega) (by omega), i64_or (by omega) (by omega), Nat.or_assoc]
theorem label_one {o : Int} (h1 : 1 ≤ o) (h9 : o ≤ 9) : labelV [o] = 2 ^ o.toNat ∧ isLab (2 ^ o.toNat) = true := by
  have : o = 1 ∨ o = 2 ∨ o = 3 ∨ o = 4 ∨ o = 5 ∨ o = 6 ∨ o = 7 ∨ o = 8 ∨ o = 9 := by omega
  rcases this with rfl | rfl | rfl | rfl | rfl | rfl | rfl | rfl | rfl <;> exact ⟨by decide, by decide⟩
theorem spec_JoinLabels_e {k : Nat} (hk : Big k) {x y : Int} (hx : isLab x = true) (hy : isLab y = true) : spec_JoinLabels.f k x y = some (orL x y) := by
  unfold spec_JoinLabels.f
  have h1 := ownersV_len x
  have h2 := ownersV_len y
  simp only [spec_IsLabel_e, hx, hy, spec_OwnersIn_e hk, Option.bind_some, Bool.not_true, cond_false]
  rw [decide_eq_true (by unfold cap48; omega), cond_true, spec_LabelOf_e hk (Ok.small 18 (by simp; omega)), Option.bind_some, label_join hx hy]
abbrev PSt := List T_impl_Sent × List Int × List Int
def stp (vals : List Int) (o : T_impl_Op) (v b : List Int) : List Int × List Int :=
  bif o.f0 == 1 then (v.set o.f1.toNat (valV vals o.f2), b.set o.f1.toNat (2 ^ o.f2.toNat))
  else bif o.f0 == 2 then (v.set o.f1.toNat o.f2, b.set o.f1.toNat 0)
  else bif o.f0 == 3 then (v.set o.f1.toNat ((rd_i64 v o.f2 + rd_i64 v o.f3).tmod 1000), b.set o.f1.toNat (orL (rd_i64 b o.f2) (rd_i64 b o.f3)))
  else bif o.f0 == 4 then ((bif (rd_i64 v o.f2).tmod 2 == 0 then v.set o.f1.toNat (rd_i64 v o.f3) else v), b.set o.f1.toNat (orL (orL (rd_i64 b o.f1) (rd_i64 b o.f2)) (rd_i64 b o.f3)))
  else (v, b)
def snt (o : T_impl_Op) (v b : List Int) : List T_impl_Sent := bif o.f0 == 5 then [⟨o.f2, rd_i64 v o.f1, rd_i64 b o.f1⟩] else []
def runF (vals : List Int) (s : PSt) (o : T_impl_Op) : PSt := (s.1 ++ snt o s.2.1 s.2.2, stp vals o s.2.1 s.2.2)
def runV (vals : List Int) (l : List T_impl_Op) : PSt := l.foldl (runF vals) ([], zeros, zeros)
structure Regs (v b : List Int) : Prop where
  vl : v.length = 6
  bl : b.length = 6
  vr : ∀ x ∈ v, 0 ≤ x ∧ x ≤ 999
  br : ∀ x ∈ b, isLab x = true
theorem Regs.zero : Regs zeros zeros := ⟨rfl, rfl, by decide, by decide⟩
theorem rd_mem {l : List Int} {i : Int} (h : 0 ≤ i ∧ i < (l.length : Int)) : rd_i64 l i ∈ l := by
  obtain ⟨n, rfl⟩ := Int.eq_ofNat_of_zero_le h.1
  have hlt : n < l.length := by omega
  show l.getD n z_i64 ∈ l
  rw [List.getD_eq_getElem?_getD, List.getElem?_eq_getElem hlt]
  exact List.getElem_mem hlt
theorem Regs.val {v b : List Int} (h : Regs v b) {i : Int} (hi : inR i 0 5 = true) : 0 ≤ rd_i64 v i ∧ rd_i64 v i ≤ 999 := by
  have := inR_true.1 hi
  have h6 := h.vl
  exact h.vr _ (rd_mem (by omega))
theorem Regs.lab {v b : List Int} (h : Regs v b) {i : Int} (hi : inR i 0 5 = true) : isLab (rd_i64 b i) = true := by
  have := inR_true.1 hi
  have h6 := h.bl
  exact h.br _ (rd_mem (by omega))
theorem mem_set_or {α : Type} {l : List α} {n : Nat} {x y : α} (h : y ∈ l.set n x) : y ∈ l ∨ y = x := List.mem_or_eq_of_mem_set h
theorem Regs.set {v b : List Int} (h : Regs v b) (n m : Nat) {x y : Int} (hx : 0 ≤ x ∧ x ≤ 999) (hy : isLab y = true) : Regs (v.set n x) (b.set m y) :=
  ⟨by rw [List.length_set, h.vl], by rw [List.length_set, h.bl], fun z hz => (mem_set_or hz).elim (h.vr z) fun e => e ▸ hx, fun z hz => (mem_set_or hz).elim (h.br z) fun e => e ▸ hy⟩
theorem Regs.setb {v b : List Int} (h : Regs v b) (m : Nat) {y : Int} (hy : isLab y = true) : Regs v (b.set m y) :=
  ⟨h.vl, by rw [List.length_set, h.bl], h.vr, fun z hz => (mem_set_or hz).elim (h.br z) fun e => e ▸ hy⟩
/-- What a step is, by its kind. -/
theorem op_cases {o : T_impl_Op} (h : opOk o = true) : inR o.f1 0 5 = true ∧ ((o.f0 = 1 ∧ inR o.f2 1 9 = true) ∨ (o.f0 = 2 ∧ inR o.f2 0 999 = true) ∨ (o.f0 = 3 ∧ inR o.f2 0 5 = true ∧ inR o.f3 0 5 = true) ∨ (o.f0 = 4 ∧ inR o.f2 0 5 = true ∧ inR o.f3 0 5 = true) ∨ (o.f0 = 5 ∧ inR o.f2 1 9 = true)) := by
  unfold opOk isOpV at h
  rw [Bool.and_eq_true] at h
  refine ⟨h.1, ?_⟩
  have h2 := h.2
  split at h2
  · rename_i h3
    rw [Bool.and_eq_true] at h2
    rcases h3 with h3 | h3
    · exact .inl ⟨h3, h2.1⟩
    · exact .inr (.inr (.inr (.inr ⟨h3, h2.1⟩)))
  · split at h2
    · rename_i h3
      rw [Bool.and_eq_true] at h2
      exact .inr (.inl ⟨h3, h2.1⟩)
    · split at h2
      · rename_i h3
        rw [Bool.and_eq_true] at h2
        rcases h3 with h3 | h3
        · exact .inr (.inr (.inl ⟨h3, h2.1, h2.2⟩))
        · exact .inr (.inr (.inr (.inl ⟨h3, h2.1, h2.2⟩)))
      · cases h2
theorem add_mod {x y : Int} (hx : 0 ≤ x ∧ x ≤ 999) (hy : 0 ≤ y ∧ y ≤ 999) : w64 (x + y) = x + y ∧ 0 ≤ (x + y).tmod 1000 ∧ (x + y).tmod 1000 ≤ 999 := by
  refine ⟨w64_id (by omega), ?_⟩
  rw [Int.tmod_eq_emod_of_nonneg (by omega)]
  omega
theorem Regs.step {v b : List Int} (h : Regs v b) (vals : List Int) {o : T_impl_Op} (ho : opOk o = true) : Regs (stp vals o v b).1 (stp vals o v b).2 := by
  obtain ⟨hA, hc⟩ := op_cases ho
  unfold stp
  rcases hc with ⟨e, h2⟩ | ⟨e, h2⟩ | ⟨e, h2, h3⟩ | ⟨e, h2, h3⟩ | ⟨e, h2⟩ <;> rw [e]
  · have := inR_true.1 h2
    exact h.set _ _ (valV_rg _ _) (label_one this.1 this.2).2
  · exact h.set _ _ (inR_true.1 h2) rfl
  · exact h.set _ _ (add_mod (h.val h2) (h.val h3)).2 (or_lab (h.lab h2) (h.lab h3))
  · have hl := or_lab (or_lab (h.lab hA) (h.lab h2)) (h.lab h3)
    show Regs (bif (rd_i64 v o.f2).tmod 2 == 0 then v.set o.f1.toNat (rd_i64 v o.f3) else v) _
    cases (rd_i64 v o.f2).tmod 2 == 0
    · exact h.setb _ hl
    · exact h.set _ _ (h.val h3) hl
  · exact h
theorem snt_len (o : T_impl_Op) (v b : List Int) : (snt o v b).length ≤ 1 := by
  unfold snt; cases o.f0 == 5 <;> simp
/-- A step is one of the list's. -/
theorem all_at {α : Type} {p : α → Bool} {l : List α} (h : l.all p = true) {i : Nat} {x : α} (hx : l[i]? = some x) : p x = true := by
  rw [List.all_eq_true] at h
  exact h x (List.mem_of_getElem? hx)
theorem spec_l21Step_e {k : Nat} (hk : Big k) {vals : List Int} (hv : Ok vals) {v b : List Int} (hr : Regs v b) {o : T_impl_Op} (ho : opOk o = true) :
    spec_l21Step.f k o.f0 o.f1 o.f2 o.f3 vals v b = some (bif o.f0 == 5 then (o.f2, rd_i64 v o.f1, rd_i64 b o.f1, true, v, b) else (0, 0, 0, false, (stp vals o v b).1, (stp vals o v b).2)) := by
  obtain ⟨hA, hc⟩ := op_cases ho
  have A1 := inR_true.1 hA
  have v6 := hr.vl
  have b6 := hr.bl
  have gA0 : decide (0 ≤ o.f1) = true := decide_eq_true A1.1
  have gA6 : decide (o.f1 < 6) = true := decide_eq_true (by omega)
  unfold spec_l21Step.f stp
  rcases hc with ⟨e, q2⟩ | ⟨e, q2⟩ | ⟨e, q2, q3⟩ | ⟨e, q2, q3⟩ | ⟨e, q2⟩
  · have B1 := inR_true.1 q2
    simp only [e, beq_self_eq_true, cond_true, spec_l21Value_e k hv B1.1, spec_LabelOf_e hk (Ok.small (l := [o.f2]) 1 (by simp)), (label_one B1.1 B1.2).1, Option.bind_some, v6, b6, gA0, gA6, Int.cast_ofNat_Int]
    rfl
  · simp [e, v6, b6, gA0, gA6]
  · have B1 := inR_true.1 q2
    have C1 := inR_true.1 q3
    have hm := (add_mod (hr.val q2) (hr.val q3)).1
    simp only [e, v6, b6, gA0, gA6, Int.cast_ofNat_Int, decide_eq_true B1.1, decide_eq_true C1.1, decide_eq_true (show o.f2 < 6 by omega), decide_eq_true (show o.f3 < 6 by omega), cond_true, hm, spec_JoinLabels_e hk (hr.lab q2) (hr.lab q3), Option.bind_some]
    rfl
  · have B1 := inR_true.1 q2
    have C1 := inR_true.1 q3
    simp only [e, v6, b6, gA0, gA6, Int.cast_ofNat_Int, decide_eq_true B1.1, decide_eq_true C1.1, decide_eq_true (show o.f2 < 6 by omega), decide_eq_true (show o.f3 < 6 by omega), cond_true, spec_JoinLabels_e hk (hr.lab q2) (hr.lab q3), spec_JoinLabels_e hk (hr.lab hA) (or_lab (hr.lab q2) (hr.lab q3)), Option.bind_some, orL_assoc (hr.lab hA) (hr.lab q2) (hr.lab q3)]
    cases (rd_i64 v o.f2).tmod 2 == 0 <;> rfl
  · simp [e, v6, b6, gA0, gA6]
theorem stp_send {vals : List Int} {o : T_impl_Op} {v b : List Int} (h : (o.f0 == 5) = true) : stp vals o v b = (v, b) := by
  have e := eq_of_beq h
  unfold stp
  rw [e]
  rfl
def hasF (l : List T_impl_Flow) (a b c : Int) : Bool := l.any fun x => (x.f0 == a) && ((x.f1 == b) && (x.f2 == c))
theorem spec_l20Has_e {k : Nat} (hk : Big k) {l : List T_impl_Flow} (hl : Ok l) (a b c : Int) : spec_l20Has.f k l a b c = some (hasF l a b c) := by
  unfold spec_l20Has.f hasF
  rw [loop_any (spec_l20Has.l2 k l a b c (fun y => some y) (fun _ => some false)) (fun x => (x.f0 == a) && ((x.f1 == b) && (x.f2 == c))) (some false) (some true) l (fun n i x hx => by
    obtain ⟨h1, h2, h3, h4⟩ := at_ hx (by have := hl.out; omega)
    simp only [spec_l20Has.l2, spec_l20Has.L2, rd_impl_Flow, h1, h2, h3, h4, cond_true]) (fun n => by simp only [spec_l20Has.l2, spec_l20Has.L2, end_, cond_false]) k (hk.lt hl)]
  cases l.any fun x => (x.f0 == a) && ((x.f1 == b) && (x.f2 == c)) <;> rfl
def isFlowV (a b c : Int) : Bool := inR a 1 5 && (inR b 1 9 && inR c 1 9)
def mayOne (l : List T_impl_Flow) (e t o : Int) : Bool := !(o != t) || (isFlowV e o t && hasF l e o t)
def mayV (l : List T_impl_Flow) (e x t : Int) : Bool := (ownersV x).all (mayOne l e t) && (isLab x && inR t 1 9)
theorem run_len (vals : List Int) : ∀ (l : List T_impl_Op) (s : PSt), (l.foldl (runF vals) s).1.length ≤ s.1.length + l.length
  | [], s => by simp
  | o :: l, s => by
    have h := run_len vals l (runF vals s o)
    have hn := snt_len o s.2.1 s.2.2
    have : (runF vals s o).1.length = s.1.length + (snt o s.2.1 s.2.2).length := by simp [runF]
    rw [List.foldl_cons, List.length_cons]
    omega
theorem areOps_all {l : List T_impl_Op} (h : areOps l = true) : l.all opOk = true ∧ l.length ≤ 16 := by
  unfold areOps at h
  rw [Bool.and_eq_true] at h
  exact ⟨h.1, of_decide_eq_true h.2⟩
theorem sents_len {vals : List Int} {l : List T_impl_Op} (h : areOps l = true) : (runV vals l).1.length ≤ 16 := by
  have := run_len vals l ([], zeros, zeros)
  have h2 := (areOps_all h).2
  unfold runV
  simp only [List.length_nil] at this
  omega
def mayS (fl : List T_impl_Flow) (e : Int) (s : T_impl_Sent) : Bool := mayV fl e s.f2 s.f0
def sentsV (l : List T_impl_Op) (vals : List Int) (fl : List T_impl_Flow) (e : Int) : List T_impl_Sent := bif areOps l then (runV vals l).1.filter (mayS fl e) else []
theorem sentsV_len (l : List T_impl_Op) (vals : List Int) (fl : List T_impl_Flow) (e : Int) : (sentsV l vals fl e).length ≤ 16 := by
  unfold sentsV
  cases h : areOps l with
  | false => simp
  | true => exact Nat.le_trans (List.length_filter_le _ _) (sents_len h)
def addOne (e t : Int) (out : List T_impl_Flow) (o : Int) : List T_impl_Flow := bif (o != t) && !hasF out e o t then out ++ [⟨e, o, t⟩] else out
def addS (e : Int) (out : List T_impl_Flow) (s : T_impl_Sent) : List T_impl_Flow := (ownersV s.f2).foldl (addOne e s.f0) out
def needsV (l : List T_impl_Op) (e : Int) : List T_impl_Flow := bif areOps l then (runV [] l).1.foldl (addS e) [] else []
theorem addOne_len (e t : Int) (out : List T_impl_Flow) (o : Int) : (addOne e t out o).length ≤ out.length + 1 := by
  unfold addOne
  cases (o != t) && !hasF out e o t <;> simp
theorem addO_len (e t : Int) : ∀ (L : List Int) (out : List T_impl_Flow), (L.foldl (addOne e t) out).length ≤ out.length + L.length
  | [], out => by simp
  | o :: L, out => by
    have h1 := addO_len e t L (addOne e t out o)
    have h2 := addOne_len e t out o
    rw [List.foldl_cons, List.length_cons]
    omega
theorem addS_len (e : Int) (out : List T_impl_Flow) (s : T_impl_Sent) : (addS e out s).length ≤ out.length + 9 := by
  have h1 := addO_len e s.f0 (ownersV s.f2) out
  have h2 := ownersV_len s.f2
  unfold addS
  omega
theorem addSs_len (e : Int) : ∀ (S : List T_impl_Sent) (out : List T_impl_Flow), (S.foldl (addS e) out).length ≤ out.length + 9 * S.length
  | [], out => by simp
  | s :: S, out => by
    have h1 := addSs_len e S (addS e out s)
    have h2 := addS_len e out s
    rw [List.foldl_cons, List.length_cons]
    omega
theorem needsV_len (l : List T_impl_Op) (e : Int) : (needsV l e).length ≤ 144 := by
  unfold needsV
  cases h : areOps l with
  | false => simp
  | true =>
    have h1 := addSs_len e (runV [] l).1 []
    have h2 := sents_len (vals := []) h
    simp only [List.length_nil] at h1
    simp only [cond_true]
    omega
theorem needsV_ok (l : List T_impl_Op) (e : Int) : Ok (needsV l e) := Ok.small 144 (needsV_len l e)
theorem spec_NeedsFlows_in {k : Nat} (hk : Big k) (e x5 : Int) (l : List T_impl_Op) (v b : List Int) (t a x : Int) {R : Type} (X : List T_impl_Flow → Option R) {L : List Int} (hL : L.length ≤ 9) {out : List T_impl_Flow} (ho : out.length ≤ 1000) :
    spec_NeedsFlows.l10 k e x5 true l v b t a x L X k 0 out = X (L.foldl (addOne e t) out) := by
  refine loop_fold (fun q i s => spec_NeedsFlows.l10 k e x5 true l v b t a x L X q i s) (addOne e t) (fun i s => s.length ≤ out.length + i) X L (fun n i o s hx hi => ?_) (fun i o s hx hi => ?_) (fun n s hi => ?_) k out (by have := hk.out; omega) (Nat.le_refl _)
  · have hlt := lt_of hx
    obtain ⟨h1, h2, h3, h4⟩ := at_ hx (by omega)
    have hi : s.length ≤ out.length + i := hi
    simp only [spec_NeedsFlows.l10, spec_NeedsFlows.L10, rd_i64, h1, h2, h3, h4, cond_true, spec_l20Has_e hk (Ok.small (l := s) 2000 (by omega)), Option.bind_some, addOne]
    rw [decide_eq_true (by unfold cap48; simp; omega), cond_true]
    cases o != t <;> cases hasF s e o t <;> rfl
  · have := addOne_len e t s o
    show (addOne e t s o).length ≤ out.length + (i + 1)
    have hi : s.length ≤ out.length + i := hi
    omega
  · simp only [spec_NeedsFlows.l10, spec_NeedsFlows.L10, end_, cond_false]
abbrev NSt := List T_impl_Flow × List Int × List Int
def runN (e : Int) (s : NSt) (o : T_impl_Op) : NSt := ((snt o s.2.1 s.2.2).foldl (addS e) s.1, stp [] o s.2.1 s.2.2)
theorem runN_fold (e : Int) : ∀ (l : List T_impl_Op) (s : PSt), l.foldl (runN e) (s.1.foldl (addS e) [], s.2) = ((l.foldl (runF []) s).1.foldl (addS e) [], (l.foldl (runF []) s).2)
  | [], s => rfl
  | o :: l, s => by
    rw [List.foldl_cons, List.foldl_cons, ← runN_fold e l]
    unfold runN runF
    rw [List.foldl_append]
theorem spec_NeedsFlows_e {k : Nat} (hk : Big k) {l : List T_impl_Op} (hl : Ok l) (e : Int) : spec_NeedsFlows.f k l e = some (needsV l e) := by
  have hl' := hl.out
  have hk' := hk.out
  unfold spec_NeedsFlows.f needsV
  simp only [spec_l21Zeros_e hk, Option.bind_some]
  cases h : areOps l with
  | false =>
    obtain ⟨q, hq⟩ : ∃ j, k = j + 1 := ⟨k - 1, by omega⟩
    rw [show ∀ a b, spec_NeedsFlows.l5 k e l (fun y => some y) k 0 [] a b = spec_NeedsFlows.l5 k e l (fun y => some y) (q + 1) 0 [] a b from fun a b => by rw [← hq]]
    simp only [spec_NeedsFlows.l5, spec_NeedsFlows.L5, spec_AreOps_e hk hl, h, Option.bind_some, cond_false]
    cases decide ((0 : Int) < (l.length : Int)) <;> rfl
  | true =>
    obtain ⟨ha, h16⟩ := areOps_all h
    have := loop_fold (fun q i (s : NSt) => spec_NeedsFlows.l5 k e l (fun y => some y) q i s.1 s.2.1 s.2.2) (runN e) (fun i s => s.1.length ≤ 9 * i ∧ Regs s.2.1 s.2.2) (fun s => some s.1) l (fun n i o s hx hi => by
      obtain ⟨s, v, b⟩ := s
      obtain ⟨hs, hr⟩ := hi
      have hlt := lt_of hx
      obtain ⟨h1, h2, h3, h4⟩ := at_ hx (by omega)
      have hs : s.length ≤ 9 * i := hs
      simp only [spec_NeedsFlows.l5, spec_NeedsFlows.L5, rd_impl_Op, h1, h2, h3, h4, cond_true, spec_AreOps_e hk hl, h, spec_l21Step_e hk (Ok.small (l := ([] : List Int)) 0 (by simp)) hr (all_at ha hx), Option.bind_some, runN, snt]
      cases h5 : o.f0 == 5 with
      | false =>
        simp only [cond_false, spec_OwnersIn_e hk, Option.bind_some]
        obtain ⟨q, rfl⟩ : ∃ j, k = j + 1 := ⟨k - 1, by omega⟩
        rw [show ownersV 0 = [] by decide]
        rfl
      | true =>
        rw [stp_send h5]
        simp only [cond_true, spec_OwnersIn_e hk, Option.bind_some]
        rw [spec_NeedsFlows_in hk _ _ _ _ _ _ _ _ _ (ownersV_len _) (by omega)]
        rfl) (fun i o s hx hi => by
      refine ⟨?_, hi.2.step [] (all_at ha hx)⟩
      have h9 := snt_len o s.2.1 s.2.2
      have h8 := addSs_len e (snt o s.2.1 s.2.2) s.1
      have h7 : s.1.length ≤ 9 * i := hi.1
      show ((snt o s.2.1 s.2.2).foldl (addS e) s.1).length ≤ 9 * (i + 1)
      omega) (fun n s hi => by simp only [spec_NeedsFlows.l5, spec_NeedsFlows.L5, end_, cond_false]) k ([], zeros, zeros) (hk.lt hl) ⟨Nat.le_refl 0, Regs.zero⟩
    have h2 := runN_fold e l ([], zeros, zeros)
    rw [show (([] : List T_impl_Sent).foldl (addS e) []) = [] from rfl] at h2
    rw [h2] at this
    exact this
theorem spec_l26Copy_e (k : Nat) (a b c : Int) {g : List T_impl_Grant} {f : List T_impl_Flow} {r : List T_impl_Rule} {o : List T_impl_Op} (d : Int) (hg : Ok g) (hf : Ok f) (hr : Ok r) (ho : Ok o) :
    spec_l26Copy.f k a b c g f r o d = some (a, b, c, d, g, f, r, o) := by
  have := hg.out; have := hf.out; have := hr.out; have := ho.out
  unfold spec_l26Copy.f
  rw [decide_eq_true (by unfold cap48; simp; omega), decide_eq_true (by unfold cap48; simp; omega), decide_eq_true (by unfold cap48; simp; omega), decide_eq_true (by unfold cap48; simp; omega)]
  rfl
theorem spec_IsValidKey_e (k : Nat) (n : Int) : spec_IsValidKey.f k n = some (inR n 1 2147483646) := by
  unfold spec_IsValidKey.f
  rw [spec_l1In_e, Option.bind_some]
def isPattern (a b : Int) : Bool := inR a 0 9 && inR b (-1) 9
theorem spec_IsPattern_e (k : Nat) (a b : Int) : spec_IsPattern.f k a b = some (isPattern a b) := by
  unfold spec_IsPattern.f isPattern
  simp only [spec_l1In_e, Option.bind_some]
  cases inR a 0 9 <;> simp
def isGrant (e a b kd f u : Int) : Bool := inR e 1 5 && (isPattern a b && (inR kd 1 4 && (decide (0 ≤ f) && (decide (f ≤ u) && decide (u ≤ 10000)))))
theorem spec_IsGrant_e (k : Nat) (e a b kd f u : Int) (cl : Bool) : spec_IsGrant.f k e a b kd f u cl = some (isGrant e a b kd f u) := by
  unfold spec_IsGrant.f isGrant
  simp only [spec_l1In_e, spec_IsPattern_e, Option.bind_some, ge_iff_le]
  cases inR e 1 5 <;> cases isPattern a b <;> cases inR kd 1 4 <;> by_cases h1 : 0 ≤ f <;> by_cases h2 : f ≤ u <;> simp [h1, h2]
theorem spec_IsFlow_e (k : Nat) (a b c : Int) : spec_IsFlow.f k a b c = some (isFlowV a b c) := by
  unfold spec_IsFlow.f isFlowV
  simp only [spec_l1In_e, Option.bind_some]
  cases inR a 1 5 <;> cases inR b 1 9 <;> simp
def isSiteV (a b : Int) : Bool := inR a 1 9 && inR b 0 9
theorem spec_IsSite_e (k : Nat) (a b : Int) : spec_IsSite.f k a b = some (isSiteV a b) := by
  unfold spec_IsSite.f isSiteV
  simp only [spec_l1In_e, Option.bind_some]
  cases inR a 1 9 <;> simp
def isRuleV (e o p q kd a s1 s2 : Int) : Bool := inR e 1 5 && (inR o 1 9 && (isPattern p q && (inR kd 0 4 && (inR a 1 3 && (if a = 3 then isSiteV s1 s2 else (s1 == 0 && s2 == 0))))))
theorem spec_IsRule_e (k : Nat) (e o p q kd a s1 s2 : Int) : spec_IsRule.f k e o p q kd a s1 s2 = some (isRuleV e o p q kd a s1 s2) := by
  unfold spec_IsRule.f isRuleV
  simp only [spec_l1In_e, spec_IsPattern_e, spec_IsSite_e, Option.bind_some]
  cases inR e 1 5 <;> cases inR o 1 9 <;> cases isPattern p q <;> cases inR kd 0 4 <;> cases inR a 1 3 <;> (by_cases h : a = 3 <;> cases isSiteV s1 s2 <;> first | (simp [h]; done) | simp [h, beqF h, bneT h])
def gAt (a : Int) (x : T_impl_Grant) : Bool := isGrant x.f0 x.f1.f0 x.f1.f1 x.f2 x.f3 x.f4 && x.f0 == a
def fAt (a : Int) (x : T_impl_Flow) : Bool := isFlowV x.f0 x.f1 x.f2 && x.f0 == a
def rAt (a : Int) (x : T_impl_Rule) : Bool := isRuleV x.f0 x.f1 x.f2.f0 x.f2.f1 x.f3 x.f4 x.f5.f0 x.f5.f1 && x.f0 == a
def isPk (a b c : Int) (g : List T_impl_Grant) (f : List T_impl_Flow) (r : List T_impl_Rule) (o : List T_impl_Op) : Bool :=
  inR a 1 5 && (inR b 1 9 && (inR c 1 999 && (decide (g.length ≤ 6) && (decide (f.length ≤ 6) && (decide (r.length ≤ 6) && (areOps o && (g.all (gAt a) && (f.all (fAt a) && r.all (rAt a)))))))))
theorem spec_IsPackage_e {k : Nat} (hk : Big k) (a b c : Int) {g : List T_impl_Grant} {f : List T_impl_Flow} {r : List T_impl_Rule} {o : List T_impl_Op} (d : Int) (hg : Ok g) (hf : Ok f) (hr : Ok r) (ho : Ok o) :
    spec_IsPackage.f k a b c g f r o d = some (isPk a b c g f r o) := by
  unfold spec_IsPackage.f isPk
  have t1 : ∀ X1, spec_IsPackage.l4 k g f r o a b c d (fun y => some y) X1 k 0 = bif g.all (gAt a) then X1 () else some false := fun X1 =>
    loop_all _ (gAt a) _ _ g (fun n i x hx => by
      obtain ⟨h1, h2, h3, h4⟩ := at_ hx (by have := hg.out; omega)
      simp only [spec_IsPackage.l4, spec_IsPackage.L4, rd_impl_Grant, h1, h2, h3, h4, spec_IsGrant_e, Option.bind_some, cond_true, gAt, bne]
      cases isGrant x.f0 x.f1.f0 x.f1.f1 x.f2 x.f3 x.f4 <;> cases (x.f0 == a) <;> rfl) (fun n => by simp only [spec_IsPackage.l4, spec_IsPackage.L4, end_, cond_false]) k (hk.lt hg)
  have t2 : ∀ X1, spec_IsPackage.l9 k g f r o a b c d (fun y => some y) X1 k 0 = bif f.all (fAt a) then X1 () else some false := fun X1 =>
    loop_all _ (fAt a) _ _ f (fun n i x hx => by
      obtain ⟨h1, h2, h3, h4⟩ := at_ hx (by have := hf.out; omega)
      simp only [spec_IsPackage.l9, spec_IsPackage.L9, rd_impl_Flow, h1, h2, h3, h4, spec_IsFlow_e, Option.bind_some, cond_true, fAt, bne]
      cases isFlowV x.f0 x.f1 x.f2 <;> cases (x.f0 == a) <;> rfl) (fun n => by simp only [spec_IsPackage.l9, spec_IsPackage.L9, end_, cond_false]) k (hk.lt hf)
  have t3 : ∀ X1, spec_IsPackage.l14 k g f r o a b c d (fun y => some y) X1 k 0 = bif r.all (rAt a) then X1 () else some false := fun X1 =>
    loop_all _ (rAt a) _ _ r (fun n i x hx => by
      obtain ⟨h1, h2, h3, h4⟩ := at_ hx (by have := hr.out; omega)
      simp only [spec_IsPackage.l14, spec_IsPackage.L14, rd_impl_Rule, h1, h2, h3, h4, spec_IsRule_e, Option.bind_some, cond_true, rAt, bne]
      cases isRuleV x.f0 x.f1 x.f2.f0 x.f2.f1 x.f3 x.f4 x.f5.f0 x.f5.f1 <;> cases (x.f0 == a) <;> rfl) (fun n => by simp only [spec_IsPackage.l14, spec_IsPackage.L14, end_, cond_false]) k (hk.lt hr)
  simp only [spec_l1In_e, Option.bind_some, spec_AreOps_e hk ho, t1, t2, t3]
  have e : ∀ n : Nat, decide ((n : Int) > 6) = !decide (n ≤ 6) := fun n => by by_cases h : n ≤ 6 <;> simp [h] <;> omega
  rw [e, e, e]
  cases inR a 1 5 <;> cases inR b 1 9 <;> cases inR c 1 999 <;> cases decide (g.length ≤ 6) <;> cases decide (f.length ≤ 6) <;> cases decide (r.length ≤ 6) <;> try rfl
  cases areOps o <;> cases g.all (gAt a) <;> cases f.all (fAt a) <;> cases r.all (rAt a) <;> rfl
def gInts (x : T_impl_Grant) : List Int := [x.f1.f0, x.f1.f1, x.f2, x.f3, x.f4, bif x.f5 then 1 else 0]
def fInts (x : T_impl_Flow) : List Int := [x.f1, x.f2]
def rInts (x : T_impl_Rule) : List Int := [x.f1, x.f2.f0, x.f2.f1, x.f3, x.f4, x.f5.f0, x.f5.f1]
def oInts (x : T_impl_Op) : List Int := [x.f0, x.f1, x.f2, x.f3]
def pkInts (a b c : Int) (g : List T_impl_Grant) (f : List T_impl_Flow) (r : List T_impl_Rule) (o : List T_impl_Op) : List Int :=
  ((((([a, b, c, (g.length : Int)] ++ g.flatMap gInts) ++ [(f.length : Int)]) ++ f.flatMap fInts) ++ [(r.length : Int)]) ++ r.flatMap rInts) ++ [(o.length : Int)] ++ o.flatMap oInts
theorem isPk_len {a b c : Int} {g : List T_impl_Grant} {f : List T_impl_Flow} {r : List T_impl_Rule} {o : List T_impl_Op} (h : isPk a b c g f r o = true) : g.length ≤ 6 ∧ f.length ≤ 6 ∧ r.length ≤ 6 ∧ o.length ≤ 16 := by
  unfold isPk areOps at h
  simp only [Bool.and_eq_true, decide_eq_true_eq] at h
  exact ⟨h.2.2.2.1, h.2.2.2.2.1, h.2.2.2.2.2.1, h.2.2.2.2.2.2.1.2⟩
theorem fm_len {α β : Type} (f : α → List β) (n : Nat) (h : ∀ x, (f x).length = n) (l : List α) : (l.flatMap f).length = l.length * n := by
  induction l with
  | nil => simp
  | cons x xs ih => simp [List.flatMap_cons, h, ih, Nat.add_mul]; omega
/-- A loop that appends to a list of numbers, within a bound. -/
theorem loop_app {α R : Type} (l : Nat → Int → List Int → Option R) (f : α → List Int) (m : Nat) (hm : ∀ x, (f x).length = m) (B : Nat) (X : List Int → Option R) (xs : List α)
    (hs : ∀ n (i : Nat) x s, xs[i]? = some x → s.length + m ≤ B → l (n + 1) (i : Int) s = l n ((i + 1 : Nat) : Int) (s ++ f x)) (he : ∀ n s, l (n + 1) (xs.length : Int) s = X s) (n : Nat) (s : List Int) (hn : xs.length < n) (hB : s.length + xs.length * m ≤ B) :
    l n 0 s = X (s ++ xs.flatMap f) := by
  have := loop_fold l (fun s x => s ++ f x) (fun i s => s.length + (xs.length - i) * m ≤ B) X xs (fun n i x s hx hi => hs n i x s hx (by
      have := lt_of hx
      have e : (xs.length - i) * m = (xs.length - i - 1) * m + m := by rw [← Nat.succ_mul]; congr 1; omega
      have hi : s.length + (xs.length - i) * m ≤ B := hi
      omega)) (fun i x s hx hi => by
      have := lt_of hx
      have e : (xs.length - i) * m = (xs.length - (i + 1)) * m + m := by rw [← Nat.succ_mul]; congr 1; omega
      have hi : s.length + (xs.length - i) * m ≤ B := hi
      show (s ++ f x).length + (xs.length - (i + 1)) * m ≤ B
      rw [List.length_append, hm]; omega) (fun n s _ => he n s) n s hn (by simpa using hB)
  rw [this, foldl_append]
theorem cap8 {a b : Nat} (h : a + b ≤ 1000000) : decide ((a + b) * 8 ≤ cap48) = true := decide_eq_true (by unfold cap48; omega)
theorem spec_PackageInts_e {k : Nat} (hk : Big k) (a b c : Int) {g : List T_impl_Grant} {f : List T_impl_Flow} {r : List T_impl_Rule} {o : List T_impl_Op} (d : Int) (hg : Ok g) (hf : Ok f) (hr : Ok r) (ho : Ok o) :
    spec_PackageInts.f k a b c g f r o d = some (bif isPk a b c g f r o then pkInts a b c g f r o else []) := by
  unfold spec_PackageInts.f
  simp only [spec_IsPackage_e hk a b c d hg hf hr ho, Option.bind_some]
  cases hp : isPk a b c g f r o with
  | false => rfl
  | true =>
    obtain ⟨l1, l2, l3, l4⟩ := isPk_len hp
    have t1 : ∀ (X : List Int → Option (List Int)) s, s.length ≤ 1000 → spec_PackageInts.l5 k g f r o a b c d X k 0 s = X (s ++ g.flatMap gInts) := fun X s hs =>
      loop_app _ gInts 6 (fun _ => rfl) 1040 X g (fun n i x s hx hb => by
        obtain ⟨h1, h2, h3, h4⟩ := at_ hx (by omega)
        simp only [spec_PackageInts.l5, spec_PackageInts.L5, rd_impl_Grant, h1, h2, h3, h4, cond_true]
        cases hc : x.f5 <;> simp only [cond_true, cond_false, gInts, hc] <;> rw [cap8 (by simp only [List.length_cons, List.length_nil]; omega)] <;> rfl) (fun n s => by simp only [spec_PackageInts.l5, spec_PackageInts.L5, end_, cond_false]) k s (hk.lt hg) (by omega)
    have t2 : ∀ (X : List Int → Option (List Int)) s, s.length ≤ 1100 → spec_PackageInts.l14 k g f r o a b c d X k 0 s = X (s ++ f.flatMap fInts) := fun X s hs =>
      loop_app _ fInts 2 (fun _ => rfl) 1140 X f (fun n i x s hx hb => by
        obtain ⟨h1, h2, h3, h4⟩ := at_ hx (by omega)
        simp only [spec_PackageInts.l14, spec_PackageInts.L14, rd_impl_Flow, h1, h2, h3, h4, cond_true, fInts]
        rw [cap8 (by simp only [List.length_cons, List.length_nil]; omega)]; rfl) (fun n s => by simp only [spec_PackageInts.l14, spec_PackageInts.L14, end_, cond_false]) k s (hk.lt hf) (by omega)
    have t3 : ∀ (X : List Int → Option (List Int)) s, s.length ≤ 1200 → spec_PackageInts.l19 k g f r o a b c d X k 0 s = X (s ++ r.flatMap rInts) := fun X s hs =>
      loop_app _ rInts 7 (fun _ => rfl) 1260 X r (fun n i x s hx hb => by
        obtain ⟨h1, h2, h3, h4⟩ := at_ hx (by omega)
        simp only [spec_PackageInts.l19, spec_PackageInts.L19, rd_impl_Rule, h1, h2, h3, h4, cond_true, rInts]
        rw [cap8 (by simp only [List.length_cons, List.length_nil]; omega)]; rfl) (fun n s => by simp only [spec_PackageInts.l19, spec_PackageInts.L19, end_, cond_false]) k s (hk.lt hr) (by omega)
    have t4 : ∀ (X : List Int → Option (List Int)) s, s.length ≤ 1300 → spec_PackageInts.l25 k g f r o a b c d X k 0 s = X (s ++ o.flatMap oInts) := fun X s hs =>
      loop_app _ oInts 4 (fun _ => rfl) 1400 X o (fun n i x s hx hb => by
        obtain ⟨h1, h2, h3, h4⟩ := at_ hx (by omega)
        simp only [spec_PackageInts.l25, spec_PackageInts.L25, rd_impl_Op, h1, h2, h3, h4, cond_true, oInts]
        rw [cap8 (by simp only [List.length_cons, List.length_nil]; omega)]; rfl) (fun n s => by simp only [spec_PackageInts.l25, spec_PackageInts.L25, end_, cond_false]) k s (hk.lt ho) (by omega)
    have n1 := fm_len gInts 6 (fun _ => rfl) g
    have n2 := fm_len fInts 2 (fun _ => rfl) f
    have n3 := fm_len rInts 7 (fun _ => rfl) r
    rw [Bool.not_true, cond_false, cond_true, t1 _ _ (by simp)]
    rw [cap8 (by simp only [List.length_append, List.length_cons, List.length_nil]; omega), cond_true, t2 _ _ (by simp only [List.length_append, List.length_cons, List.length_nil]; omega)]
    rw [cap8 (by simp only [List.length_append, List.length_cons, List.length_nil]; omega), cond_true, t3 _ _ (by simp only [List.length_append, List.length_cons, List.length_nil]; omega)]
    rw [cap8 (by simp only [List.length_append, List.length_cons, List.length_nil]; omega), cond_true, t4 _ _ (by simp only [List.length_append, List.length_cons, List.length_nil]; omega)]
    rfl
def M31 : Int := 2147483647
def fold1 (h v : Int) : Int := (w64 ((w64 ((w64 (h * (1000003 : Int))) + v % 2147483647)) + (13 : Int))).tmod (2147483647 : Int)
theorem tmod31 (a : Int) : -2147483647 < a.tmod 2147483647 ∧ a.tmod 2147483647 < 2147483647 := by
  constructor
  · have := Int.lt_tmod_of_pos a (show (0 : Int) < 2147483647 by decide); omega
  · exact Int.tmod_lt_of_pos a (by decide)
theorem tmod31_neg (a : Int) (h : a.tmod 2147483647 < 0) : a.tmod 2147483647 + 2147483647 = a % 2147483647 := by
  rw [Int.tmod_eq_emod] at h ⊢
  have h1 := Int.emod_nonneg a (show (2147483647 : Int) ≠ 0 by decide)
  split at h
  · omega
  · rename_i hn; rw [if_neg hn]; omega
theorem tmod31_nn (a : Int) (h : ¬ a.tmod 2147483647 < 0) : a.tmod 2147483647 = a % 2147483647 := by
  rw [Int.tmod_eq_emod] at h ⊢
  have h1 := Int.emod_lt_of_pos a (show (0 : Int) < 2147483647 by decide)
  split at h
  · rename_i hn; rw [if_pos hn]; omega
  · rename_i hn
    exfalso
    omega
theorem spec_Mod_e (k : Nat) (a : Int) : spec_Mod.f k a 2147483647 = some (a % 2147483647) := by
  unfold spec_Mod.f
  rw [spec_l1In_e, Option.bind_some, show inR 2147483647 1 1000000000000 = true from rfl]
  simp only [Bool.not_true, cond_false, show decide ((2147483647 : Int) = 0) = false from rfl, Option.some.injEq]
  have h0 := tmod31 a
  rw [w64_id (by omega)]
  by_cases h : a.tmod 2147483647 < 0
  · rw [tmod31_neg a h, Int.tmod_eq_of_lt (Int.emod_nonneg _ (by decide)) (Int.emod_lt_of_pos _ (by decide))]
  · have e := tmod31_nn a h
    rw [Int.tmod_eq_emod_of_nonneg (by omega), e]
    omega
theorem spec_Hash_e {k : Nat} (hk : Big k) {l : List Int} (hl : l.length ≤ 1100000) : spec_Hash.f k l = some (l.foldl fold1 11) := by
  unfold spec_Hash.f
  exact loop_fold (fun n i s => spec_Hash.l3 k l (fun y => some y) n s i) fold1 (fun _ _ => True) (fun y => some y) l (fun n i x s hx _ => by
    obtain ⟨h1, h2, h3, h4⟩ := at_ hx (by omega)
    simp only [spec_Hash.l3, spec_Hash.L3, rd_i64, h1, h2, h3, h4, cond_true, spec_Mod_e, Option.bind_some, fold1]) (fun _ _ _ _ _ => trivial)
    (fun n s _ => by simp only [spec_Hash.l3, spec_Hash.L3, end_, cond_false]) k 11 (by have := hk.out; omega) trivial
def keyed (key : Int) (l : List Int) : Int := (([key] ++ l) ++ [key]).foldl fold1 11
theorem spec_KeyedHash_e {k : Nat} (hk : Big k) (key : Int) {l : List Int} (hl : l.length ≤ 1000000) : spec_KeyedHash.f k key l = some (keyed key l) := by
  unfold spec_KeyedHash.f keyed
  have c1 : decide ((([key] : List Int).length + l.length) * 8 ≤ cap48) = true := decide_eq_true (by unfold cap48; simp; omega)
  have c2 : decide (((([key] : List Int) ++ l).length + ([key] : List Int).length) * 8 ≤ cap48) = true := decide_eq_true (by unfold cap48; simp; omega)
  rw [c1, c2, cond_true, cond_true, spec_Hash_e hk (by simp; omega), Option.bind_some]
def sealV (key a b c : Int) (g : List T_impl_Grant) (f : List T_impl_Flow) (r : List T_impl_Rule) (o : List T_impl_Op) : Int :=
  bif inR key 1 2147483646 && isPk a b c g f r o then keyed key (pkInts a b c g f r o) else 0
theorem pkInts_len {a b c : Int} {g : List T_impl_Grant} {f : List T_impl_Flow} {r : List T_impl_Rule} {o : List T_impl_Op} (h : isPk a b c g f r o = true) : (pkInts a b c g f r o).length ≤ 1000000 := by
  obtain ⟨l1, l2, l3, l4⟩ := isPk_len h
  have n1 := fm_len gInts 6 (fun _ => rfl) g
  have n2 := fm_len fInts 2 (fun _ => rfl) f
  have n3 := fm_len rInts 7 (fun _ => rfl) r
  have n4 := fm_len oInts 4 (fun _ => rfl) o
  unfold pkInts
  simp only [List.length_append, List.length_cons, List.length_nil]
  omega
theorem spec_SealPackage_e {k : Nat} (hk : Big k) (key a b c : Int) {g : List T_impl_Grant} {f : List T_impl_Flow} {r : List T_impl_Rule} {o : List T_impl_Op} (d : Int) (hg : Ok g) (hf : Ok f) (hr : Ok r) (ho : Ok o) :
    spec_SealPackage.f k key a b c g f r o d = some (a, b, c, sealV key a b c g f r o, g, f, r, o) := by
  unfold spec_SealPackage.f sealV
  simp only [spec_l26Copy_e k a b c d hg hf hr ho, spec_IsValidKey_e, spec_IsPackage_e hk a b c d hg hf hr ho, spec_PackageInts_e hk a b c d hg hf hr ho, Option.bind_some]
  cases inR key 1 2147483646 with
  | false => rfl
  | true =>
    cases hp : isPk a b c g f r o with
    | false => rfl
    | true =>
      simp only [cond_true, Bool.true_and, spec_KeyedHash_e hk key (pkInts_len hp), Option.bind_some]
theorem rd_zeros (i : Int) : rd_i64 zeros i = 0 := by
  show zeros.getD i.toNat z_i64 = 0
  have : i.toNat = 0 ∨ i.toNat = 1 ∨ i.toNat = 2 ∨ i.toNat = 3 ∨ i.toNat = 4 ∨ i.toNat = 5 ∨ 6 ≤ i.toNat := by omega
  rcases this with e | e | e | e | e | e | e
  · rw [e]; rfl
  · rw [e]; rfl
  · rw [e]; rfl
  · rw [e]; rfl
  · rw [e]; rfl
  · rw [e]; rfl
  · rw [List.getD_eq_getElem?_getD, List.getElem?_eq_none (by simpa [zeros] using e)]; rfl
theorem needs_short {l : List T_impl_Op} (e : Int) (h : l.length ≤ 1) : needsV l e = [] := by
  unfold needsV
  cases areOps l with
  | false => rfl
  | true =>
    match l, h with
    | [], _ => rfl
    | [o], _ =>
      show (([] : List T_impl_Sent) ++ snt o zeros zeros).foldl (addS e) [] = []
      unfold snt
      cases o.f0 == 5 with
      | false => rfl
      | true =>
        show addS e [] ⟨o.f2, rd_i64 zeros o.f1, rd_i64 zeros o.f1⟩ = []
        unfold addS
        simp only [rd_zeros]
        rw [show ownersV 0 = [] by decide]
        rfl
    | _ :: _ :: _, h => simp at h
theorem needs_two {l : List T_impl_Op} (e : Int) (h : l.length ≤ 2) : (needsV l e).length ≤ 18 := by
  unfold needsV
  cases ha : areOps l with
  | false => simp
  | true =>
    have h1 := addSs_len e (runV [] l).1 []
    have h2 := run_len [] l ([], zeros, zeros)
    simp only [List.length_nil] at h1 h2
    simp only [cond_true]
    unfold runV at h1 ⊢
    omega
def Small (g : List T_impl_Grant) (f : List T_impl_Flow) (r : List T_impl_Rule) (o : List T_impl_Op) : Prop := g.length ≤ 21 ∧ f.length ≤ 21 ∧ r.length ≤ 21 ∧ o.length ≤ 21
theorem spec_l27Fine_l4 (k : Nat) {l : List Int} (x1 c0 c1 c2 c3 d0 d1 d2 d3 e0 e1 : Int) (g1 : List T_impl_Grant) (f1 : List T_impl_Flow) (r1 : List T_impl_Rule) (o1 : List T_impl_Op) (f2 : List T_impl_Flow) (r2 : List T_impl_Rule) (o2 : List T_impl_Op) {R : Type} (X : Int → Int → List T_impl_Grant → Option R) (Q : R → Prop)
    (hX : ∀ p h g, Pos l p → g.length = 4 → Ret' (X p h g) Q) {p : Int} (h : Int) (hp : Pos l p) {q : Nat} (hq : 5 ≤ q) : Ret' (spec_l27Fine.l4 k x1 l c0 c1 c2 c3 d0 d1 d2 d3 e0 e1 g1 f1 r1 o1 f2 r2 o2 X q 1 p h []) Q := by
  have step : ∀ (n : Nat) (x p h : Int) (s : List T_impl_Grant), 0 ≤ x → x ≤ 4 → Pos l p → s.length ≤ 10 → (∀ p' h' y, Pos l p' → Ret' (spec_l27Fine.l4 k x1 l c0 c1 c2 c3 d0 d1 d2 d3 e0 e1 g1 f1 r1 o1 f2 r2 o2 X n (x + 1) p' h' (s ++ [y])) Q) →
      Ret' (spec_l27Fine.l4 k x1 l c0 c1 c2 c3 d0 d1 d2 d3 e0 e1 g1 f1 r1 o1 f2 r2 o2 X (n + 1) x p h s) Q := fun n x p h s h0 h4 hp hs ih => by
    simp only [spec_l27Fine.l4, spec_l27Fine.L4]
    rw [decide_eq_true h4, cond_true, w64_id (n := x + 1) (by omega)]
    refine (spec_l1Below_t k h hp 20 (by decide)).bind fun t ⟨q, _⟩ => ?_
    rw [decide_eq_true (by unfold cap48; simp; omega), cond_true]
    exact ih _ _ _ q
  obtain ⟨q, rfl⟩ : ∃ j, q = j + 5 := ⟨q - 5, by omega⟩
  refine step _ _ _ _ _ (by decide) (by decide) hp (by simp) fun p h y1 hp => step _ _ _ _ _ (by decide) (by decide) hp (by simp) fun p h y2 hp => step _ _ _ _ _ (by decide) (by decide) hp (by simp) fun p h y3 hp => step _ _ _ _ _ (by decide) (by decide) hp (by simp) fun p h y4 hp => ?_
  simp only [spec_l27Fine.l4, spec_l27Fine.L4]
  exact hX p h _ hp rfl
theorem spec_l27Fine_l8 (k : Nat) {l : List Int} (hk : Big k) (x1 c0 c1 c2 c3 d0 d1 d2 d3 : Int) (g1 : List T_impl_Grant) (f1 : List T_impl_Flow) (r1 : List T_impl_Rule) (o1 : List T_impl_Op) (g2 : List T_impl_Grant) (f2 : List T_impl_Flow) (o2 : List T_impl_Op) {R : Type} (X : Int → Int → List T_impl_Rule → Option R) (Q : R → Prop)
    (hX : ∀ p h r, Pos l p → r.length ≤ 20 → Ret' (X p h r) Q) {p : Int} (h : Int) (hp : Pos l p) {n : Int} (h0 : 0 ≤ n) (h3 : n < 3) : Ret' (spec_l27Fine.l8 k x1 l c0 c1 c2 c3 d0 d1 d2 d3 g1 f1 r1 o1 g2 f2 o2 X k n p h []) Q := by
  have hk' := hk.out
  obtain ⟨n, rfl⟩ := Int.eq_ofNat_of_zero_le h0
  refine loop_down (spec_l27Fine.l8 k x1 l c0 c1 c2 c3 d0 d1 d2 d3 g1 f1 r1 o1 g2 f2 o2 X) 20 (Pos l) _ (fun q n p h s hp hb ih => ?_) (fun q p h s hp hf => ?_) n k _ _ [] (by omega) hp (by simp; omega)
  · simp only [spec_l27Fine.l8, spec_l27Fine.L8, down_gt, cond_true, down1 n (by omega)]
    refine (spec_l13Draw_t k h hp).bind fun t q => ?_
    rw [decide_eq_true (by unfold cap48; simp; omega), cond_true]
    exact ih _ _ _ q
  · simp only [spec_l27Fine.l8, spec_l27Fine.L8]
    exact hX p h s hp hf
def FineP (l : List Int) (t : Int × Int × Int × Int × Int × Int × List T_impl_Grant × List T_impl_Flow × List T_impl_Rule × List T_impl_Op) : Prop := Pos l t.2.2.2.2.1 ∧ 1 ≤ t.2.2.2.2.2.2.1.length ∧ t.2.2.2.2.2.2.1.length ≤ 20 ∧ t.2.2.2.2.2.2.2.1.length ≤ 20 ∧ t.2.2.2.2.2.2.2.2.1.length ≤ 20 ∧ t.2.2.2.2.2.2.2.2.2.length ≤ 20
theorem fine_seal {k : Nat} (hk : Big k) {l : List Int} (key a b c : Int) {g : List T_impl_Grant} {f : List T_impl_Flow} {r : List T_impl_Rule} {o : List T_impl_Op} (d : Int) {p : Int} (h : Int) (hp : Pos l p) (hg1 : 1 ≤ g.length) (hg : g.length ≤ 20) (hf : f.length ≤ 20) (hr : r.length ≤ 20) (ho : o.length ≤ 20) :
    Ret' ((spec_SealPackage.f k key a b c g f r o d).bind fun t => some (t.1, t.2.1, t.2.2.1, t.2.2.2.1, p, h, t.2.2.2.2.1, t.2.2.2.2.2.1, t.2.2.2.2.2.2.1, t.2.2.2.2.2.2.2)) (FineP l) := by
  rw [spec_SealPackage_e hk key a b c d (Ok.small 20 hg) (Ok.small 20 hf) (Ok.small 20 hr) (Ok.small 20 ho), Option.bind_some]
  exact .some ⟨hp, hg1, hg, hf, hr, ho⟩
theorem spec_l27Fine_t {k : Nat} (hk : Big k) {l : List Int} {p : Int} (h : Int) (hp : Pos l p) (e : Int) : Ret' (spec_l27Fine.f k l p h e) (FineP l) := by
  have hk' := hk.out
  unfold spec_l27Fine.f
  refine (spec_l1Below_t k h hp 3 (by decide)).bind fun t1 ⟨q, _⟩ => (spec_l1Below_t k _ q 3 (by decide)).bind fun t2 ⟨q, _⟩ => (spec_l21Ops_t hk _ q).bind fun t3 ⟨q, ho⟩ => ?_
  refine spec_l27Fine_l4 k _ _ _ _ _ _ _ _ _ _ _ _ _ _ _ _ _ _ _ _ (fun p h g hp hg => ?_) _ q (by omega)
  refine (spec_l1Below_t k h hp 3 (by decide)).bind fun t9 ⟨q, b0, b1⟩ => spec_l27Fine_l8 k hk _ _ _ _ _ _ _ _ _ _ _ _ _ _ _ _ _ _ (fun p h r hp hr => ?_) _ q b0 b1
  rw [spec_NeedsFlows_e hk (Ok.small 20 ho), Option.bind_some]
  have g0 : decide ((0 : Int) < (g.length : Int)) = true := decide_eq_true (by omega)
  have g2 : decide ((2 : Int) < (g.length : Int)) = true := decide_eq_true (by omega)
  have g3 : decide ((2 : Int) ≤ (g.length : Int)) = true := decide_eq_true (by omega)
  have hset : ∀ (i : Nat) (x : T_impl_Grant), (g.set i x).length = 4 := fun i x => by rw [List.length_set, hg]
  have htk : ((g.take ((2 : Int)).toNat).drop ((0 : Int)).toNat).length = 2 := by simp [hg]
  generalize t3.2.2 = ops at ho
  refine .bif (fun c => ?_) fun c => ?_
  · have c := of_decide_eq_true c
    have h2 : 2 ≤ ops.length := by
      by_cases h2 : 2 ≤ ops.length
      · exact h2
      · rw [needs_short e (by omega)] at c
        simp at c
    have ho2 : ((ops.take ((2 : Int)).toNat).drop ((0 : Int)).toNat).length = 2 := by simp; omega
    rw [decide_eq_true (show (2 : Int) ≤ (ops.length : Int) by omega)]
    simp only [show decide ((0 : Int) ≤ 2) = true from rfl, show decide ((0 : Int) ≤ 0) = true from rfl, cond_true]
    rw [spec_NeedsFlows_e hk (Ok.small 2 (by omega)), Option.bind_some]
    have hn := needs_two (l := (ops.take ((2 : Int)).toNat).drop ((0 : Int)).toNat) e (by omega)
    refine (spec_l1Below_t k _ hp 8 (by decide)).bind fun t17 ⟨q, _⟩ => ?_
    simp only [g0, g2, g3, cond_true]
    exact .bif (fun _ => fine_seal hk _ _ _ _ _ _ q (by rw [hset]; decide) (by rw [hset]; decide) (by omega) hr (by omega)) fun _ => .bif (fun _ => fine_seal hk _ _ _ _ _ _ q (by rw [hset]; decide) (by rw [hset]; decide) (by omega) hr (by omega)) fun _ =>
      .bif (fun _ => fine_seal hk _ _ _ _ _ _ q (by omega) (by omega) (by simp) hr (by omega)) fun _ => .bif (fun _ => fine_seal hk _ _ _ _ _ _ q (by omega) (by omega) (by omega) hr (by omega)) fun _ => fine_seal hk _ _ _ _ _ _ q (by omega) (by omega) (by omega) hr (by omega)
  · have c := of_decide_eq_false c
    have hn : (needsV ops e).length ≤ 6 := by omega
    refine (spec_l1Below_t k _ hp 8 (by decide)).bind fun t17 ⟨q, _⟩ => ?_
    simp only [show decide ((0 : Int) ≤ 2) = true from rfl, show decide ((0 : Int) ≤ 0) = true from rfl, g0, g2, g3, cond_true]
    exact .bif (fun _ => fine_seal hk _ _ _ _ _ _ q (by rw [hset]; decide) (by rw [hset]; decide) (by omega) hr (by omega)) fun _ => .bif (fun _ => fine_seal hk _ _ _ _ _ _ q (by rw [hset]; decide) (by rw [hset]; decide) (by omega) hr (by omega)) fun _ =>
      .bif (fun _ => fine_seal hk _ _ _ _ _ _ q (by omega) (by omega) (by simp) hr (by omega)) fun _ => .bif (fun _ => fine_seal hk _ _ _ _ _ _ q (by omega) (by omega) (by omega) hr (by omega)) fun _ => fine_seal hk _ _ _ _ _ _ q (by omega) (by omega) (by omega) hr (by omega)
def PairP (l : List Int) (t : Int × Int × Int × Int × Int × Int × Int × Int × Int × Int × List T_impl_Grant × List T_impl_Flow × List T_impl_Rule × List T_impl_Op × List T_impl_Grant × List T_impl_Flow × List T_impl_Rule × List T_impl_Op) : Prop :=
  Pos l t.2.2.2.2.2.2.2.2.1 ∧ Small t.2.2.2.2.2.2.2.2.2.2.1 t.2.2.2.2.2.2.2.2.2.2.2.1 t.2.2.2.2.2.2.2.2.2.2.2.2.1 t.2.2.2.2.2.2.2.2.2.2.2.2.2.1 ∧ Small t.2.2.2.2.2.2.2.2.2.2.2.2.2.2.1 t.2.2.2.2.2.2.2.2.2.2.2.2.2.2.2.1 t.2.2.2.2.2.2.2.2.2.2.2.2.2.2.2.2.1 t.2.2.2.2.2.2.2.2.2.2.2.2.2.2.2.2.2
theorem pair_seal {k : Nat} (hk : Big k) {l : List Int} (key a b c : Int) {g : List T_impl_Grant} {f : List T_impl_Flow} {r : List T_impl_Rule} {o : List T_impl_Op} (d : Int) (a' b' c' d' : Int) {g' : List T_impl_Grant} {f' : List T_impl_Flow} {r' : List T_impl_Rule} {o' : List T_impl_Op} {p : Int} (h : Int) (hp : Pos l p) (hS : Small g' f' r' o') (hg : g.length ≤ 21) (hf : f.length ≤ 21) (hr : r.length ≤ 21) (ho : o.length ≤ 21) :
    Ret' ((spec_SealPackage.f k key a b c g f r o d).bind fun t => some (a', b', c', d', t.1, t.2.1, t.2.2.1, t.2.2.2.1, p, h, g', f', r', o', t.2.2.2.2.1, t.2.2.2.2.2.1, t.2.2.2.2.2.2.1, t.2.2.2.2.2.2.2)) (PairP l) := by
  rw [spec_SealPackage_e hk key a b c d (Ok.small 21 hg) (Ok.small 21 hf) (Ok.small 21 hr) (Ok.small 21 ho), Option.bind_some]
  exact .some ⟨hp, hS, hg, hf, hr, ho⟩
theorem spec_l28Pair_t {k : Nat} (hk : Big k) {l : List Int} {p : Int} (h : Int) (hp : Pos l p) : Ret' (spec_l28Pair.f k l p h) (PairP l) := by
  unfold spec_l28Pair.f
  refine (spec_l1Below_t k h hp 3 (by decide)).bind fun t1 ⟨q, _⟩ => (spec_l27Fine_t hk _ q _).bind fun t2 ht => ?_
  obtain ⟨a, b, c, d, p, h, g, f, r, o⟩ := t2
  obtain ⟨q, hg1, h1, h2, h3, h4⟩ := ht
  have h1 : g.length ≤ 20 := h1
  have h2 : f.length ≤ 20 := h2
  have h3 : r.length ≤ 20 := h3
  have h4 : o.length ≤ 20 := h4
  have hg1 : 1 ≤ g.length := hg1
  have hS : Small g f r o := ⟨by omega, by omega, by omega, by omega⟩
  simp only
  rw [spec_l26Copy_e k a b c d (Ok.small 20 h1) (Ok.small 20 h2) (Ok.small 20 h3) (Ok.small 20 h4), Option.bind_some]
  refine (spec_l1Below_t k _ q 8 (by decide)).bind fun t4 ⟨q, _⟩ => ?_
  have g0 : decide ((0 : Int) < (g.length : Int)) = true := decide_eq_true (by omega)
  have hset : ∀ (i : Nat) (x : T_impl_Grant), (g.set i x).length ≤ 21 := fun i x => by rw [List.length_set]; omega
  have hc : decide ((f.length + 1) * 24 ≤ cap48) = true := decide_eq_true (by unfold cap48; omega)
  simp only [show decide ((0 : Int) ≤ 0) = true from rfl, g0, cond_true, List.length_cons, List.length_nil, Nat.zero_add, hc]
  exact .bif (fun _ => pair_seal hk _ _ _ _ _ _ _ _ _ _ q hS (by omega) (by omega) (by omega) (by omega)) fun _ => .bif (fun _ => pair_seal hk _ _ _ _ _ _ _ _ _ _ q hS (hset _ _) (by omega) (by omega) (by omega)) fun _ => .bif (fun _ => pair_seal hk _ _ _ _ _ _ _ _ _ _ q hS (by omega) (by omega) (by omega) (by omega)) fun _ =>
    .bif (fun _ => pair_seal hk _ _ _ _ _ _ _ _ _ _ q hS (by omega) (by simp; omega) (by omega) (by omega)) fun _ => .bif (fun _ => pair_seal hk _ _ _ _ _ _ _ _ _ _ q hS (hset _ _) (by omega) (by omega) (by omega)) fun _ => .bif (fun _ => pair_seal hk _ _ _ _ _ _ _ _ _ _ q hS (by omega) (by omega) (by omega) (by omega)) fun _ => pair_seal hk _ _ _ _ _ _ _ _ _ _ q hS (by omega) (by omega) (by omega) (by omega)
theorem spec_l1Int_m (k : Nat) {l : List Int} {p : Int} (h : Int) (hp : Pos l p) (xs : List Int) (hx : 0 < (xs.length : Int)) : Ret' (spec_l1Int.f k l p h xs) fun t => Pos l t.2.1 ∧ t.1 ∈ xs := by
  unfold spec_l1Int.f
  refine (spec_l1Below_t k h hp _ hx).bind fun t ⟨q, b0, b1⟩ => ?_
  rw [decide_eq_true b0, cond_true, decide_eq_true b1, cond_true]
  refine .some ⟨q, ?_⟩
  obtain ⟨n, hn⟩ := Int.eq_ofNat_of_zero_le b0
  have hlt : n < xs.length := by omega
  simp only [rd_i64, hn]
  show xs.getD n z_i64 ∈ xs
  rw [List.getD_eq_getElem?_getD, List.getElem?_eq_getElem hlt]
  exact List.getElem_mem hlt
theorem spec_l1Once_t (k : Nat) {l : List Int} {p : Int} (h : Int) (hp : Pos l p) (a : Int) (ha : 0 < a) : Ret' (spec_l1Once.f k l p h a) fun t => Pos l t.2.1 := by
  unfold spec_l1Once.f
  exact (spec_l1Below_t k h hp a ha).bind fun t ⟨q, _⟩ => .some q
theorem spec_DrawUpdateCode_t {k : Nat} (hk : Big k) {l : List Int} (hl : Ok l) : Ret' (spec_DrawUpdateCode.f k l) fun t => Small t.2.2.2.2.2.2.2.2.2.2.1 t.2.2.2.2.2.2.2.2.2.2.2.1 t.2.2.2.2.2.2.2.2.2.2.2.2.1 t.2.2.2.2.2.2.2.2.2.2.2.2.2.1 ∧ Small t.2.2.2.2.2.2.2.2.2.2.2.2.2.2.1 t.2.2.2.2.2.2.2.2.2.2.2.2.2.2.2.1 t.2.2.2.2.2.2.2.2.2.2.2.2.2.2.2.2.1 t.2.2.2.2.2.2.2.2.2.2.2.2.2.2.2.2.2 := by
  unfold spec_DrawUpdateCode.f
  exact (spec_l1New_t hk hl).bind fun t1 q => (spec_l28Pair_t hk _ q).bind fun t2 ⟨q, h1, h2⟩ => (spec_l1Int_m k _ q _ (by decide)).bind fun t3 ⟨q, _⟩ => (spec_l1Once_t k _ q 2 (by decide)).bind fun t4 q => .some ⟨h1, h2⟩
theorem spec_DrawUpdatePackage_t {k : Nat} (hk : Big k) {l : List Int} (hl : Ok l) : Ret' (spec_DrawUpdatePackage.f k l) fun t => Small t.2.2.2.2.2.2.2.2.2.2.1 t.2.2.2.2.2.2.2.2.2.2.2.1 t.2.2.2.2.2.2.2.2.2.2.2.2.1 t.2.2.2.2.2.2.2.2.2.2.2.2.2.1 ∧ Small t.2.2.2.2.2.2.2.2.2.2.2.2.2.2.1 t.2.2.2.2.2.2.2.2.2.2.2.2.2.2.2.1 t.2.2.2.2.2.2.2.2.2.2.2.2.2.2.2.2.1 t.2.2.2.2.2.2.2.2.2.2.2.2.2.2.2.2.2 := by
  unfold spec_DrawUpdatePackage.f
  exact (spec_DrawUpdateCode_t hk hl).bind fun t1 h => .some h
theorem spec_DrawIsWider_t {k : Nat} (hk : Big k) {l : List Int} (hl : Ok l) : Ret' (spec_DrawIsWider.f k l) fun t => Small t.2.2.2.2.2.2.2.2.1 t.2.2.2.2.2.2.2.2.2.1 t.2.2.2.2.2.2.2.2.2.2.1 t.2.2.2.2.2.2.2.2.2.2.2.1 ∧ Small t.2.2.2.2.2.2.2.2.2.2.2.2.1 t.2.2.2.2.2.2.2.2.2.2.2.2.2.1 t.2.2.2.2.2.2.2.2.2.2.2.2.2.2.1 t.2.2.2.2.2.2.2.2.2.2.2.2.2.2.2 := by
  unfold spec_DrawIsWider.f
  exact (spec_l1New_t hk hl).bind fun t1 q => (spec_l28Pair_t hk _ q).bind fun t2 ⟨q, h1, h2⟩ => .some ⟨h1, h2⟩
theorem impl_InRange_e (k : Nat) (n a b : Int) : impl_InRange.f k n a b = some (inR n a b) := by
  unfold impl_InRange.f inR
  by_cases h : a ≤ n <;> simp [h]
theorem impl_IsPattern_e (k : Nat) (a b : Int) : impl_IsPattern.f k a b = some (isPattern a b) := by
  unfold impl_IsPattern.f isPattern
  simp only [impl_InRange_e, Option.bind_some]
  cases inR a 0 9 <;> simp
theorem impl_IsGrant_e (k : Nat) (e a b kd f u : Int) (cl : Bool) : impl_IsGrant.f k e a b kd f u cl = some (isGrant e a b kd f u) := by
  unfold impl_IsGrant.f isGrant
  simp only [impl_InRange_e, impl_IsPattern_e, Option.bind_some, ge_iff_le]
  cases inR e 1 5 <;> cases isPattern a b <;> cases inR kd 1 4 <;> by_cases h1 : 0 ≤ f <;> by_cases h2 : f ≤ u <;> simp [h1, h2]
theorem impl_IsFlow_e (k : Nat) (a b c : Int) : impl_IsFlow.f k a b c = some (isFlowV a b c) := by
  unfold impl_IsFlow.f isFlowV
  simp only [impl_InRange_e, Option.bind_some]
  cases inR a 1 5 <;> cases inR b 1 9 <;> simp
theorem impl_IsSite_e (k : Nat) (a b : Int) : impl_IsSite.f k a b = some (isSiteV a b) := by
  unfold impl_IsSite.f isSiteV
  simp only [impl_InRange_e, Option.bind_some]
  cases inR a 1 9 <;> simp
theorem impl_IsRule_e (k : Nat) (e o p q kd a s1 s2 : Int) : impl_IsRule.f k e o p q kd a s1 s2 = some (isRuleV e o p q kd a s1 s2) := by
  unfold impl_IsRule.f isRuleV
  simp only [impl_InRange_e, impl_IsPattern_e, impl_IsSite_e, Option.bind_some]
  cases inR e 1 5 <;> cases inR o 1 9 <;> cases isPattern p q <;> cases inR kd 0 4 <;> try simp
  by_cases h1 : a = 1
  · subst h1; simp [inR]
  · by_cases h2 : a = 2
    · subst h2; simp [inR]
    · by_cases h3 : a = 3
      · subst h3; simp [inR]
      · rw [show inR a 1 3 = false from inR_false.2 (by omega)]
        simp [h1, h2, h3, beqF h1, beqF h2, beqF h3]
theorem impl_isRegister_e (k : Nat) (n : Int) : impl_isRegister.f k n = some (inR n 0 5) := by
  unfold impl_isRegister.f
  rw [impl_InRange_e, Option.bind_some]
theorem impl_isOp_e (k : Nat) (kd a b c : Int) : impl_isOp.f k kd a b c = some (isOpV kd a b c) := by
  unfold impl_isOp.f isOpV
  simp only [impl_isRegister_e, impl_InRange_e, Option.bind_some]
  cases inR a 0 5 <;>
  · by_cases h1 : kd = 1
    · subst h1; cases inR b 1 9 <;> simp
    · by_cases h5 : kd = 5
      · subst h5; cases inR b 1 9 <;> simp
      · by_cases h2 : kd = 2
        · subst h2; cases inR b 0 999 <;> simp
        · by_cases h3 : kd = 3
          · subst h3; cases inR b 0 5 <;> simp
          · by_cases h4 : kd = 4
            · subst h4; cases inR b 0 5 <;> simp
            · simp [h1, h2, h3, h4, h5, beqF h1, beqF h2, beqF h3, beqF h4, beqF h5]
theorem impl_AreOps_e {k : Nat} (hk : Big k) {l : List T_impl_Op} (hl : Ok l) : impl_AreOps.f k l = some (areOps l) := by
  unfold impl_AreOps.f areOps
  rw [loop_all (impl_AreOps.l4 k (l.length : Int) l (fun y => some y) (fun _ => some true)) opOk (some true) (some false) l (fun n i x hx => by
    obtain ⟨h1, h2, h3, h4⟩ := at_ hx (by have := hl.out; omega)
    simp only [impl_AreOps.l4, impl_AreOps.L4, rd_impl_Op, h1, h2, h3, h4, impl_isOp_e, Option.bind_some, cond_true]
    cases hp : opOk x <;> simp only [opOk] at hp <;> rw [hp] <;> rfl) (fun n => by simp only [impl_AreOps.l4, impl_AreOps.L4, end_, cond_false]) k (hk.lt hl)]
  by_cases h : l.length ≤ 16
  · rw [decide_eq_false (show ¬ ((l.length : Int) > 16) by omega), decide_eq_true h]
    cases l.all opOk <;> rfl
  · rw [decide_eq_true (show (l.length : Int) > 16 by omega), decide_eq_false h]
    simp
theorem impl_IsPackage_e {k : Nat} (hk : Big k) (a b c : Int) {g : List T_impl_Grant} {f : List T_impl_Flow} {r : List T_impl_Rule} {o : List T_impl_Op} (d : Int) (hg : Ok g) (hf : Ok f) (hr : Ok r) (ho : Ok o) :
    impl_IsPackage.f k a b c g f r o d = some (isPk a b c g f r o) := by
  unfold impl_IsPackage.f isPk
  have t1 : ∀ X1, impl_IsPackage.l4 k (g.length : Int) g f r o a b c d (fun y => some y) X1 k 0 = bif g.all (gAt a) then X1 () else some false := fun X1 =>
    loop_all _ (gAt a) _ _ g (fun n i x hx => by
      obtain ⟨h1, h2, h3, h4⟩ := at_ hx (by have := hg.out; omega)
      simp only [impl_IsPackage.l4, impl_IsPackage.L4, rd_impl_Grant, h1, h2, h3, h4, impl_IsGrant_e, Option.bind_some, cond_true, gAt, bne]
      cases isGrant x.f0 x.f1.f0 x.f1.f1 x.f2 x.f3 x.f4 <;> cases (x.f0 == a) <;> rfl) (fun n => by simp only [impl_IsPackage.l4, impl_IsPackage.L4, end_, cond_false]) k (hk.lt hg)
  have t2 : ∀ X1, impl_IsPackage.l10 k (f.length : Int) g f r o a b c d (fun y => some y) X1 k 0 = bif f.all (fAt a) then X1 () else some false := fun X1 =>
    loop_all _ (fAt a) _ _ f (fun n i x hx => by
      obtain ⟨h1, h2, h3, h4⟩ := at_ hx (by have := hf.out; omega)
      simp only [impl_IsPackage.l10, impl_IsPackage.L10, rd_impl_Flow, h1, h2, h3, h4, impl_IsFlow_e, Option.bind_some, cond_true, fAt, bne]
      cases isFlowV x.f0 x.f1 x.f2 <;> cases (x.f0 == a) <;> rfl) (fun n => by simp only [impl_IsPackage.l10, impl_IsPackage.L10, end_, cond_false]) k (hk.lt hf)
  have t3 : ∀ X1, impl_IsPackage.l16 k (r.length : Int) g f r o a b c d (fun y => some y) X1 k 0 = bif r.all (rAt a) then X1 () else some false := fun X1 =>
    loop_all _ (rAt a) _ _ r (fun n i x hx => by
      obtain ⟨h1, h2, h3, h4⟩ := at_ hx (by have := hr.out; omega)
      simp only [impl_IsPackage.l16, impl_IsPackage.L16, rd_impl_Rule, h1, h2, h3, h4, impl_IsRule_e, Option.bind_some, cond_true, rAt, bne]
      cases isRuleV x.f0 x.f1 x.f2.f0 x.f2.f1 x.f3 x.f4 x.f5.f0 x.f5.f1 <;> cases (x.f0 == a) <;> rfl) (fun n => by simp only [impl_IsPackage.l16, impl_IsPackage.L16, end_, cond_false]) k (hk.lt hr)
  simp only [impl_InRange_e, Option.bind_some, impl_AreOps_e hk ho, t1, t2, t3]
  have e : ∀ n : Nat, decide ((n : Int) > 6) = !decide (n ≤ 6) := fun n => by by_cases h : n ≤ 6 <;> simp [h] <;> omega
  rw [e, e, e]
  cases inR a 1 5 <;> cases inR b 1 9 <;> cases inR c 1 999 <;> cases decide (g.length ≤ 6) <;> cases decide (f.length ≤ 6) <;> cases decide (r.length ≤ 6) <;> try rfl
  all_goals first | rfl | (cases areOps o <;> cases g.all (gAt a) <;> cases f.all (fAt a) <;> cases r.all (rAt a) <;> rfl) | simp
theorem impl_IsValidKey_e (k : Nat) (n : Int) : impl_IsValidKey.f k n = some (inR n 1 2147483646) := by
  unfold impl_IsValidKey.f
  rw [impl_InRange_e, Option.bind_some]
theorem impl_bit_e (k : Nat) (b : Bool) : impl_bit.f k b = some (bif b then 1 else 0) := by unfold impl_bit.f; cases b <;> rfl
theorem impl_PackageInts_e {k : Nat} (hk : Big k) (a b c : Int) {g : List T_impl_Grant} {f : List T_impl_Flow} {r : List T_impl_Rule} {o : List T_impl_Op} (d : Int) (hg : Ok g) (hf : Ok f) (hr : Ok r) (ho : Ok o) :
    impl_PackageInts.f k a b c g f r o d = some (bif isPk a b c g f r o then pkInts a b c g f r o else []) := by
  unfold impl_PackageInts.f
  simp only [impl_IsPackage_e hk a b c d hg hf hr ho, Option.bind_some]
  cases hp : isPk a b c g f r o with
  | false => rfl
  | true =>
    obtain ⟨l1, l2, l3, l4⟩ := isPk_len hp
    have t1 : ∀ (X : List Int → Option (List Int)) s, s.length ≤ 1000 → impl_PackageInts.l5 k (g.length : Int) g f r o a b c d X k 0 s = X (s ++ g.flatMap gInts) := fun X s hs =>
      loop_app _ gInts 6 (fun _ => rfl) 1040 X g (fun n i x s hx hb => by
        obtain ⟨h1, h2, h3, h4⟩ := at_ hx (by omega)
        simp only [impl_PackageInts.l5, impl_PackageInts.L5, rd_impl_Grant, h1, h2, h3, h4, cond_true, impl_bit_e, Option.bind_some, gInts]
        rw [cap8 (by simp only [List.length_cons, List.length_nil]; omega)]; rfl) (fun n s => by simp only [impl_PackageInts.l5, impl_PackageInts.L5, end_, cond_false]) k s (hk.lt hg) (by omega)
    have t2 : ∀ (X : List Int → Option (List Int)) s, s.length ≤ 1100 → impl_PackageInts.l11 k (f.length : Int) g f r o a b c d X k 0 s = X (s ++ f.flatMap fInts) := fun X s hs =>
      loop_app _ fInts 2 (fun _ => rfl) 1140 X f (fun n i x s hx hb => by
        obtain ⟨h1, h2, h3, h4⟩ := at_ hx (by omega)
        simp only [impl_PackageInts.l11, impl_PackageInts.L11, rd_impl_Flow, h1, h2, h3, h4, cond_true, fInts]
        rw [cap8 (by simp only [List.length_cons, List.length_nil]; omega)]; rfl) (fun n s => by simp only [impl_PackageInts.l11, impl_PackageInts.L11, end_, cond_false]) k s (hk.lt hf) (by omega)
    have t3 : ∀ (X : List Int → Option (List Int)) s, s.length ≤ 1200 → impl_PackageInts.l17 k (r.length : Int) g f r o a b c d X k 0 s = X (s ++ r.flatMap rInts) := fun X s hs =>
      loop_app _ rInts 7 (fun _ => rfl) 1260 X r (fun n i x s hx hb => by
        obtain ⟨h1, h2, h3, h4⟩ := at_ hx (by omega)
        simp only [impl_PackageInts.l17, impl_PackageInts.L17, rd_impl_Rule, h1, h2, h3, h4, cond_true, rInts]
        rw [cap8 (by simp only [List.length_cons, List.length_nil]; omega)]; rfl) (fun n s => by simp only [impl_PackageInts.l17, impl_PackageInts.L17, end_, cond_false]) k s (hk.lt hr) (by omega)
    have t4 : ∀ (X : List Int → Option (List Int)) s, s.length ≤ 1300 → impl_PackageInts.l23 k (o.length : Int) g f r o X k 0 s = X (s ++ o.flatMap oInts) := fun X s hs =>
      loop_app _ oInts 4 (fun _ => rfl) 1400 X o (fun n i x s hx hb => by
        obtain ⟨h1, h2, h3, h4⟩ := at_ hx (by omega)
        simp only [impl_PackageInts.l23, impl_PackageInts.L23, rd_impl_Op, h1, h2, h3, h4, cond_true, oInts]
        rw [cap8 (by simp only [List.length_cons, List.length_nil]; omega)]; rfl) (fun n s => by simp only [impl_PackageInts.l23, impl_PackageInts.L23, end_, cond_false]) k s (hk.lt ho) (by omega)
    have n1 := fm_len gInts 6 (fun _ => rfl) g
    have n2 := fm_len fInts 2 (fun _ => rfl) f
    have n3 := fm_len rInts 7 (fun _ => rfl) r
    rw [Bool.not_true, cond_false, cond_true, t1 _ _ (by simp)]
    rw [cap8 (by simp only [List.length_append, List.length_cons, List.length_nil]; omega), cond_true, t2 _ _ (by simp only [List.length_append, List.length_cons, List.length_nil]; omega)]
    rw [cap8 (by simp only [List.length_append, List.length_cons, List.length_nil]; omega), cond_true, t3 _ _ (by simp only [List.length_append, List.length_cons, List.length_nil]; omega)]
    rw [cap8 (by simp only [List.length_append, List.length_cons, List.length_nil]; omega), cond_true, t4 _ _ (by simp only [List.length_append, List.length_cons, List.length_nil]; omega)]
    rfl
theorem impl_Mod_e (k : Nat) (a : Int) : impl_Mod.f k a 2147483647 = some (a % 2147483647) := by
  unfold impl_Mod.f
  rw [impl_InRange_e, Option.bind_some, show inR 2147483647 1 1000000000000 = true from rfl]
  simp only [Bool.not_true, cond_false, show decide ((2147483647 : Int) = 0) = false from rfl]
  have h0 := tmod31 a
  by_cases h : a.tmod 2147483647 < 0
  · rw [decide_eq_true h, cond_true, w64_id (by omega), tmod31_neg a h]
  · rw [decide_eq_false h, cond_false, tmod31_nn a h]
theorem impl_fold_e (k : Nat) (h v : Int) : impl_fold.f k h v = some (fold1 h v) := by
  unfold impl_fold.f fold1
  rw [impl_Mod_e, Option.bind_some]
theorem impl_KeyedHash_e {k : Nat} (hk : Big k) (key : Int) {l : List Int} (hl : l.length ≤ 1000000) : impl_KeyedHash.f k key l = some (keyed key l) := by
  unfold impl_KeyedHash.f keyed
  rw [impl_fold_e, Option.bind_some]
  have := loop_fold (fun n i s => impl_KeyedHash.l3 k key (l.length : Int) l (fun (y3 : Int) => (impl_fold.f k y3 key).bind fun t4 => some t4) n s i) fold1 (fun _ _ => True) (fun (y3 : Int) => (impl_fold.f k y3 key).bind fun t4 => some t4) l (fun n i x s hx _ => by
    obtain ⟨h1, h2, h3, h4⟩ := at_ hx (by omega)
    simp only [impl_KeyedHash.l3, impl_KeyedHash.L3, rd_i64, h1, h2, h3, h4, cond_true, impl_fold_e, Option.bind_some]) (fun _ _ _ _ _ => trivial)
    (fun n s _ => by simp only [impl_KeyedHash.l3, impl_KeyedHash.L3, end_, cond_false]) k (fold1 11 key) (by have := hk.out; omega) trivial
  rw [this, impl_fold_e, Option.bind_some]
  simp
theorem impl_sealOf_e {k : Nat} (hk : Big k) (key a b c : Int) {g : List T_impl_Grant} {f : List T_impl_Flow} {r : List T_impl_Rule} {o : List T_impl_Op} (d : Int) (hg : Ok g) (hf : Ok f) (hr : Ok r) (ho : Ok o) :
    impl_sealOf.f k key a b c g f r o d = some (sealV key a b c g f r o) := by
  unfold impl_sealOf.f sealV
  simp only [impl_IsValidKey_e, impl_IsPackage_e hk a b c d hg hf hr ho, impl_PackageInts_e hk a b c d hg hf hr ho, Option.bind_some]
  cases inR key 1 2147483646 with
  | false => rfl
  | true =>
    cases hp : isPk a b c g f r o with
    | false => rfl
    | true =>
      simp only [Bool.not_true, cond_false, cond_true, Bool.true_and, impl_KeyedHash_e hk key (pkInts_len hp), Option.bind_some]
theorem impl_IsSealed_e {k : Nat} (hk : Big k) (key a b c : Int) {g : List T_impl_Grant} {f : List T_impl_Flow} {r : List T_impl_Rule} {o : List T_impl_Op} (d : Int) (hg : Ok g) (hf : Ok f) (hr : Ok r) (ho : Ok o) :
    impl_IsSealed.f k key a b c g f r o d = some (isPk a b c g f r o && (inR key 1 2147483646 && (sealV key a b c g f r o == d))) := by
  unfold impl_IsSealed.f
  simp only [impl_sealOf_e hk key a b c d hg hf hr ho, impl_IsValidKey_e, impl_IsPackage_e hk a b c d hg hf hr ho, Option.bind_some]
  cases isPk a b c g f r o <;> cases inR key 1 2147483646 <;> try rfl
  simp only [cond_true, Bool.true_and]
  rw [Bool.beq_comm]
def isNarrow (a b c d : Int) : Bool := isPattern a b && (isPattern c d && ((c == 0 || a == c) && (d == -1 || b == d)))
theorem impl_IsNarrower_e (k : Nat) (a b c d : Int) : impl_IsNarrower.f k a b c d = some (isNarrow a b c d) := by
  unfold impl_IsNarrower.f isNarrow
  simp only [impl_IsPattern_e, Option.bind_some]
  cases isPattern a b <;> cases isPattern c d <;> cases (c == 0) <;> cases (a == c) <;> cases (d == -1) <;> rfl
def coverOne (r : T_impl_Rule) (g : T_impl_Grant) : Bool := (g.f2 == 3) && isNarrow r.f2.f0 r.f2.f1 g.f1.f0 g.f1.f1
def rulesV (g : List T_impl_Grant) (r : List T_impl_Rule) : Bool := r.all fun x => g.any (coverOne x)
theorem impl_covered_e {k : Nat} (hk : Big k) {g : List T_impl_Grant} (hg : Ok g) (x : T_impl_Rule) : impl_covered.f k g x.f2.f0 x.f2.f1 = some (g.any (coverOne x)) := by
  unfold impl_covered.f
  rw [loop_any (impl_covered.l2 k (g.length : Int) g x.f2.f0 x.f2.f1 (fun y => some y) (fun _ => some false)) (coverOne x) (some false) (some true) g (fun n i y hx => by
    obtain ⟨h1, h2, h3, h4⟩ := at_ hx (by have := hg.out; omega)
    simp only [impl_covered.l2, impl_covered.L2, rd_impl_Grant, h1, h2, h3, h4, cond_true, impl_IsNarrower_e, Option.bind_some, coverOne]
    cases y.f2 == 3 <;> rfl) (fun n => by simp only [impl_covered.l2, impl_covered.L2, end_, cond_false]) k (hk.lt hg)]
  cases g.any (coverOne x) <;> rfl
abbrev Asc (l : List Int) : Prop := l.Pairwise (· < ·)
theorem asc_ext : ∀ {l m : List Int}, Asc l → Asc m → (∀ y, y ∈ l ↔ y ∈ m) → l = m
  | [], [], _, _, _ => rfl
  | [], y :: m, _, _, h => by have := (h y).2 (List.mem_cons_self ..); cases this
  | x :: l, [], _, _, h => by have := (h x).1 (List.mem_cons_self ..); cases this
  | x :: l, y :: m, hl, hm, h => by
    obtain ⟨h1, h2⟩ := List.pairwise_cons.1 hl
    obtain ⟨h3, h4⟩ := List.pairwise_cons.1 hm
    have e : x = y := by
      rcases List.mem_cons.1 ((h x).1 (List.mem_cons_self ..)) with e | e
      · exact e
      · rcases List.mem_cons.1 ((h y).2 (List.mem_cons_self ..)) with e' | e'
        · exact e'.symm
        · have := h1 _ e'; have := h3 _ e; omega
    subst e
    rw [asc_ext h2 h4 fun z => ?_]
    constructor
    · intro hz
      rcases List.mem_cons.1 ((h z).1 (List.mem_cons_of_mem _ hz)) with e | e
      · have := h1 _ hz; omega
      · exact e
    · intro hz
      rcases List.mem_cons.1 ((h z).2 (List.mem_cons_of_mem _ hz)) with e | e
      · have := h3 _ hz; omega
      · exact e
def leB (x y : Int) : Bool := decide (x ≤ y)
def ordV (l : List Int) : List Int := Go.Lib.compact (l.mergeSort fun x y => decide (x ≤ y))
theorem compact_up {d : Array Int} (hd : ∀ i j, i ≤ j → j < d.size → d[i]! ≤ d[j]!) : ∀ m, m ≤ d.size → Asc (Go.Lib.compactUpTo d m) ∧ (∀ y ∈ Go.Lib.compactUpTo d m, ∃ j, j < m ∧ d[j]! = y) ∧ ∀ j, j < m → d[j]! ∈ Go.Lib.compactUpTo d m
  | 0, _ => ⟨by unfold Go.Lib.compactUpTo; simp, fun y hy => by unfold Go.Lib.compactUpTo at hy; simp at hy, fun j hj => by omega⟩
  | m + 1, hm => by
    obtain ⟨h1, h2, h3⟩ := compact_up hd m (by omega)
    rw [Go.Lib.compactUpTo_succ]
    cases hk : Go.Lib.keeps d m with
    | true =>
      rw [if_pos rfl]
      refine ⟨?_, fun y hy => ?_, fun j hj => ?_⟩
      · refine List.pairwise_append.2 ⟨h1, List.pairwise_singleton _ _, fun a ha b hb => ?_⟩
        obtain rfl := List.mem_singleton.1 hb
        obtain ⟨j, hj, rfl⟩ := h2 a ha
        unfold Go.Lib.keeps at hk
        rcases of_decide_eq_true hk with h0 | hne
        · omega
        · have q1 := hd j (m - 1) (by omega) (by omega)
          have q2 := hd (m - 1) m (by omega) (by omega)
          omega
      · rcases List.mem_append.1 hy with h | h
        · obtain ⟨j, hj, e⟩ := h2 y h
          exact ⟨j, by omega, e⟩
        · exact ⟨m, by omega, (List.mem_singleton.1 h).symm⟩
      · by_cases e : j = m
        · subst e; exact List.mem_append.2 (.inr (List.mem_singleton.2 rfl))
        · exact List.mem_append.2 (.inl (h3 j (by omega)))
    | false =>
      rw [if_neg (by simp), List.append_nil]
      refine ⟨h1, fun y hy => ?_, fun j hj => ?_⟩
      · obtain ⟨j, hj, e⟩ := h2 y hy
        exact ⟨j, by omega, e⟩
      · by_cases e : j = m
        · subst e
          unfold Go.Lib.keeps at hk
          have hn := of_decide_eq_false hk
          have e2 : d[j]! = d[j - 1]! := by
            by_cases e3 : d[j]! = d[j - 1]!
            · exact e3
            · exact absurd (.inr e3) hn
          have e4 : j ≠ 0 := fun e => hn (.inl e)
          rw [e2]
          exact h3 _ (by omega)
        · exact h3 j (by omega)
theorem ordV_spec (l : List Int) : Asc (ordV l) ∧ ∀ y, y ∈ ordV l ↔ y ∈ l := by
  unfold ordV Go.Lib.compact
  have hs : (l.mergeSort fun x y => decide (x ≤ y)).Pairwise fun a b => decide (a ≤ b) = true := List.pairwise_mergeSort (le := fun x y : Int => decide (x ≤ y)) (fun a b c h1 h2 => by simp at *; omega) (fun a b => by simp; omega) l
  have hm : ∀ y, y ∈ (l.mergeSort fun x y => decide (x ≤ y)) ↔ y ∈ l := fun y => (List.mergeSort_perm l _).mem_iff
  generalize l.mergeSort (fun x y => decide (x ≤ y)) = s at hs hm
  have hd : ∀ i j, i ≤ j → j < s.toArray.size → s.toArray[i]! ≤ s.toArray[j]! := by
    intro i j hij hj
    have hj' : j < s.length := by simpa using hj
    rw [getElem!_pos s.toArray i (by simpa using (show i < s.length by omega)), getElem!_pos s.toArray j hj]
    simp only [List.getElem_toArray]
    by_cases e : i = j
    · subst e; exact Int.le_refl _
    · have := List.pairwise_iff_getElem.1 hs i j (by omega) hj' (by omega)
      simpa using this
  obtain ⟨h1, h2, h3⟩ := compact_up hd s.length (by simp)
  refine ⟨h1, fun y => ?_⟩
  rw [← hm]
  constructor
  · intro hy
    obtain ⟨j, hj, rfl⟩ := h2 y hy
    rw [getElem!_pos s.toArray j (by simpa using hj)]
    simp
  · intro hy
    obtain ⟨j, hj, rfl⟩ := List.mem_iff_getElem.1 hy
    have := h3 j hj
    rw [getElem!_pos s.toArray j (by simpa using hj)] at this
    simpa using this
theorem ordV_len (l : List Int) : (ordV l).length ≤ l.length := by
  unfold ordV
  exact Nat.le_trans (compact_len _) (Nat.le_of_eq (List.length_mergeSort ..))
theorem impl_ordered_e (k : Nat) {l : List Int} (hl : Ok l) : impl_ordered.f k l = some (ordV l) := by
  have hl' := hl.out
  unfold impl_ordered.f slices_Sort_int.f slices_Compact_int.f sortF compactF ordV
  rw [decide_eq_true (by omega)]
  rfl
def below (x : Int) (l : List Int) : Nat := (l.takeWhile fun y => decide (y < x)).length
def putV (l : List Int) (x : Int) : List Int := bif decide (below x l < l.length) && (rd_i64 l (below x l : Int) == x) then l else l.take (below x l) ++ [x] ++ l.drop (below x l)
theorem mem_tw {α : Type} {p : α → Bool} : ∀ {l : List α} {y : α}, y ∈ l.takeWhile p → p y = true
  | [], y, h => by cases h
  | a :: l, y, h => by
    cases ha : p a with
    | false => rw [List.takeWhile_cons_of_neg (by simp [ha])] at h; cases h
    | true =>
      rw [List.takeWhile_cons_of_pos ha] at h
      rcases List.mem_cons.1 h with e | e
      · rw [e]; exact ha
      · exact mem_tw e
theorem hd_dw {α : Type} {p : α → Bool} : ∀ {l : List α} {y : α} {r : List α}, l.dropWhile p = y :: r → p y = false
  | [], y, r, h => by cases h
  | a :: l, y, r, h => by
    cases ha : p a with
    | false =>
      rw [List.dropWhile_cons_of_neg (by simp [ha])] at h
      obtain ⟨rfl, _⟩ := List.cons.inj h
      exact ha
    | true =>
      rw [List.dropWhile_cons_of_pos ha] at h
      exact hd_dw h
theorem below_le (x : Int) (l : List Int) : below x l ≤ l.length := by unfold below; exact (List.takeWhile_sublist _).length_le
theorem take_below (x : Int) (l : List Int) : l.take (below x l) = l.takeWhile fun y => decide (y < x) := by
  have h : l.takeWhile (fun y => decide (y < x)) ++ l.dropWhile (fun y => decide (y < x)) = l := List.takeWhile_append_dropWhile
  have := congrArg (List.take (below x l)) h
  rw [← this]
  exact List.take_left' rfl
theorem drop_below (x : Int) (l : List Int) : l.drop (below x l) = l.dropWhile fun y => decide (y < x) := by
  have h : l.takeWhile (fun y => decide (y < x)) ++ l.dropWhile (fun y => decide (y < x)) = l := List.takeWhile_append_dropWhile
  have := congrArg (List.drop (below x l)) h
  rw [← this]
  exact List.drop_left' rfl
theorem putV_spec {l : List Int} (h : Asc l) (x : Int) : Asc (putV l x) ∧ ∀ y, y ∈ putV l x ↔ y ∈ l ∨ y = x := by
  unfold putV
  cases hc : decide (below x l < l.length) && (rd_i64 l (below x l : Int) == x) with
  | true =>
    rw [Bool.and_eq_true] at hc
    refine ⟨h, fun y => ⟨fun hy => .inl hy, fun hy => hy.elim id fun e => ?_⟩⟩
    have hlt := of_decide_eq_true hc.1
    have e2 := eq_of_beq hc.2
    subst e
    rw [← e2]
    show l.getD (below y l) z_i64 ∈ l
    rw [List.getD_eq_getElem?_getD, List.getElem?_eq_getElem hlt]
    exact List.getElem_mem hlt
  | false =>
    rw [cond_false]
    have h0 : l.take (below x l) ++ l.drop (below x l) = l := List.take_append_drop _ _
    have ht : ∀ y ∈ l.take (below x l), y < x := by
      intro y hy
      rw [take_below] at hy
      exact of_decide_eq_true (mem_tw (p := fun y => decide (y < x)) hy)
    have hp : Asc (l.take (below x l) ++ l.drop (below x l)) := by rw [h0]; exact h
    obtain ⟨p1, p2, p3⟩ := List.pairwise_append.1 hp
    have hdr : ∀ y ∈ l.drop (below x l), x < y := by
      intro y hy
      have hlt : below x l < l.length := by
        have : 0 < (l.drop (below x l)).length := List.length_pos_of_mem hy
        simp at this; omega
      rw [decide_eq_true hlt, Bool.true_and] at hc
      have hne : l[below x l] ≠ x := by
        intro e
        have : rd_i64 l (below x l : Int) = x := by
          show l.getD (below x l) z_i64 = x
          rw [List.getD_eq_getElem?_getD, List.getElem?_eq_getElem hlt]
          exact e
        rw [this] at hc
        simp at hc
      have hge : x ≤ l[below x l] := by
        have hcons : l.drop (below x l) = l[below x l] :: l.drop (below x l + 1) := List.drop_eq_getElem_cons hlt
        have := hd_dw (p := fun y => decide (y < x)) ((drop_below x l).symm.trans hcons)
        have := of_decide_eq_false this
        omega
      have hcons : l.drop (below x l) = l[below x l] :: l.drop (below x l + 1) := List.drop_eq_getElem_cons hlt
      rw [hcons] at hy p2
      obtain ⟨q1, _⟩ := List.pairwise_cons.1 p2
      rcases List.mem_cons.1 hy with e | e
      · omega
      · have := q1 _ e; omega
    refine ⟨?_, fun y => ?_⟩
    · rw [List.append_assoc]
      refine List.pairwise_append.2 ⟨p1, List.pairwise_cons.2 ⟨hdr, p2⟩, fun a ha b hb => ?_⟩
      rcases List.mem_cons.1 hb with e | e
      · subst e; exact ht a ha
      · exact p3 a ha b e
    · rw [List.mem_append, List.mem_append, List.mem_singleton]
      have : y ∈ l ↔ y ∈ l.take (below x l) ∨ y ∈ l.drop (below x l) := by rw [← List.mem_append, h0]
      rw [this]
      constructor
      · rintro ((h | h) | h)
        · exact .inl (.inl h)
        · exact .inr h
        · exact .inl (.inr h)
      · rintro ((h | h) | h)
        · exact .inl (.inl h)
        · exact .inr h
        · exact .inl (.inr h)
theorem put_fold : ∀ (L s : List Int), Asc s → Asc (L.foldl putV s) ∧ ∀ y, y ∈ L.foldl putV s ↔ y ∈ s ∨ y ∈ L
  | [], s, h => ⟨h, fun y => by simp⟩
  | x :: L, s, h => by
    obtain ⟨h1, h2⟩ := putV_spec h x
    obtain ⟨h3, h4⟩ := put_fold L (putV s x) h1
    refine ⟨h3, fun y => ?_⟩
    rw [List.foldl_cons, h4, h2, List.mem_cons, or_assoc]
theorem put_ord (L : List Int) : L.foldl putV [] = ordV L := by
  obtain ⟨h1, h2⟩ := put_fold L [] List.Pairwise.nil
  obtain ⟨h3, h4⟩ := ordV_spec L
  exact asc_ext h1 h3 fun y => by rw [h2, h4]; simp
theorem putV_len (l : List Int) (x : Int) : (putV l x).length ≤ l.length + 1 := by
  unfold putV
  have := below_le x l
  cases decide (below x l < l.length) && (rd_i64 l (below x l : Int) == x) <;> simp <;> omega
def ownB (kd : Int) (l : List T_impl_Op) : List Int := (l.filter fun o => o.f0 == kd).map fun o => o.f2
theorem ownB_len (kd : Int) (l : List T_impl_Op) : (ownB kd l).length ≤ l.length := by unfold ownB; rw [List.length_map]; exact List.length_filter_le _ _
def ownersOfV (kd : Int) (l : List T_impl_Op) : List Int := bif areOps l then ordV (ownB kd l) else []
theorem ownersOfV_ok {kd : Int} {l : List T_impl_Op} (hl : Ok l) : Ok (ownersOfV kd l) := by
  unfold ownersOfV
  cases areOps l with
  | false => exact Ok.small 0 (by simp)
  | true => exact Nat.le_trans (ordV_len _) (Nat.le_trans (ownB_len _ _) hl)
theorem fold_own (kd : Int) : ∀ (l : List T_impl_Op) (s : List Int), l.foldl (fun s o => bif o.f0 == kd then putV s o.f2 else s) s = (ownB kd l).foldl putV s
  | [], s => rfl
  | o :: l, s => by
    rw [List.foldl_cons, fold_own kd l]
    unfold ownB
    cases h : o.f0 == kd <;> simp [h]
theorem fold_own2 (kd : Int) : ∀ (l : List T_impl_Op) (s : List Int), l.foldl (fun s o => bif o.f0 == kd then s ++ [o.f2] else s) s = s ++ ownB kd l
  | [], s => by simp [ownB]
  | o :: l, s => by
    rw [List.foldl_cons, fold_own2 kd l]
    unfold ownB
    cases h : o.f0 == kd <;> simp [h]
theorem impl_ownersOf_e {k : Nat} (hk : Big k) {l : List T_impl_Op} (hl : Ok l) (kd : Int) : impl_ownersOf.f k l kd = some (ownersOfV kd l) := by
  have hl' := hl.out
  unfold impl_ownersOf.f ownersOfV
  rw [impl_AreOps_e hk hl, Option.bind_some]
  cases h : areOps l with
  | false => rfl
  | true =>
    have hb := ownB_len kd l
    have := loop_fold (fun q i s => impl_ownersOf.l5 k kd (l.length : Int) l (fun y => (impl_ordered.f k y).bind fun t3 => some t3) q i s) (fun s o => bif o.f0 == kd then s ++ [o.f2] else s) (fun i s => s.length ≤ i) (fun y => (impl_ordered.f k y).bind fun t3 => some t3) l (fun n i o s hx hi => by
      have hlt := lt_of hx
      obtain ⟨h1, h2, h3, h4⟩ := at_ hx (by omega)
      have hi : s.length ≤ i := hi
      simp only [impl_ownersOf.l5, impl_ownersOf.L5, rd_impl_Op, h1, h2, h3, h4, cond_true]
      rw [decide_eq_true (by unfold cap48; simp; omega), cond_true]
      cases o.f0 == kd <;> rfl) (fun i o s hx hi => by
      have hi : s.length ≤ i := hi
      cases o.f0 == kd
      · show s.length ≤ i + 1; omega
      · show (s ++ [o.f2]).length ≤ i + 1; simp; omega) (fun n s hi => by simp only [impl_ownersOf.l5, impl_ownersOf.L5, end_, cond_false]) k [] (hk.lt hl) (Nat.le_refl 0)
    rw [fold_own2, List.nil_append, impl_ordered_e k (Ok.small 1048576 (by omega))] at this
    exact this
theorem impl_OwnersRead_e {k : Nat} (hk : Big k) {l : List T_impl_Op} (hl : Ok l) : impl_OwnersRead.f k l = some (ownersOfV 1 l) := by
  unfold impl_OwnersRead.f; rw [impl_ownersOf_e hk hl]; rfl
theorem impl_OwnersSent_e {k : Nat} (hk : Big k) {l : List T_impl_Op} (hl : Ok l) : impl_OwnersSent.f k l = some (ownersOfV 5 l) := by
  unfold impl_OwnersSent.f; rw [impl_ownersOf_e hk hl]; rfl
def gOk (x : T_impl_Grant) : Bool := isGrant x.f0 x.f1.f0 x.f1.f1 x.f2 x.f3 x.f4
def wOk (x y : T_impl_Grant) : Bool := gOk x && (gOk y && (x.f0 == y.f0 && (x.f2 == y.f2 && (isNarrow x.f1.f0 x.f1.f1 y.f1.f0 y.f1.f1 && (decide (y.f3 ≤ x.f3) && (decide (x.f4 ≤ y.f4) && (x.f5 || !y.f5)))))))
def within (l m : List T_impl_Grant) : Bool := l.all fun x => m.any (wOk x)
def forOne (kd o : Int) (x : T_impl_Grant) : Bool := gOk x && ((x.f2 == kd) && ((x.f1.f0 == o) || (x.f1.f0 == 0)))
def grantFor (l : List T_impl_Grant) (kd o : Int) : Bool := l.any (forOne kd o)
def allFor (l : List T_impl_Grant) (kd : Int) (os : List Int) : Bool := os.all (grantFor l kd)
theorem impl_HasGrantFor_e {k : Nat} (hk : Big k) {l : List T_impl_Grant} (hl : Ok l) (kd o : Int) : impl_HasGrantFor.f k l kd o = some (grantFor l kd o) := by
  unfold impl_HasGrantFor.f grantFor
  rw [loop_any (impl_HasGrantFor.l2 k kd o (l.length : Int) l (fun y => some y) (fun _ => some false)) (forOne kd o) (some false) (some true) l (fun n i x hx => by
    obtain ⟨h1, h2, h3, h4⟩ := at_ hx (by have := hl.out; omega)
    simp only [impl_HasGrantFor.l2, impl_HasGrantFor.L2, rd_impl_Grant, h1, h2, h3, h4, cond_true, impl_IsGrant_e, Option.bind_some, forOne, gOk]
    cases isGrant x.f0 x.f1.f0 x.f1.f1 x.f2 x.f3 x.f4 <;> cases x.f2 == kd <;> cases x.f1.f0 == o <;> cases x.f1.f0 == 0 <;> rfl) (fun n => by simp only [impl_HasGrantFor.l2, impl_HasGrantFor.L2, end_, cond_false]) k (hk.lt hl)]
  cases l.any (forOne kd o) <;> rfl
theorem impl_allGranted_e {k : Nat} (hk : Big k) {l : List T_impl_Grant} (hl : Ok l) (kd : Int) {os : List Int} (ho : Ok os) : impl_allGranted.f k l kd os = some (allFor l kd os) := by
  unfold impl_allGranted.f allFor
  rw [loop_all (impl_allGranted.l2 k kd (os.length : Int) l os (fun y => some y) (fun _ => some true)) (grantFor l kd) (some true) (some false) os (fun n i x hx => by
    obtain ⟨h1, h2, h3, h4⟩ := at_ hx (by have := ho.out; omega)
    simp only [impl_allGranted.l2, impl_allGranted.L2, rd_i64, h1, h2, h3, h4, cond_true, impl_HasGrantFor_e hk hl, Option.bind_some]
    cases grantFor l kd x <;> rfl) (fun n => by simp only [impl_allGranted.l2, impl_allGranted.L2, end_, cond_false]) k (hk.lt ho)]
  cases os.all (grantFor l kd) <;> rfl
theorem impl_valueOf_e (k : Nat) {l : List Int} (hl : Ok l) (o : Int) : impl_valueOf.f k l o = some (valV l o) := by
  have hl' := hl.out
  unfold impl_valueOf.f valV
  by_cases h1 : o < 1
  · rw [decide_eq_true h1, decide_eq_false (show ¬ (1 ≤ o ∧ o ≤ (l.length : Int)) by omega)]; rfl
  by_cases h : o > (l.length : Int)
  · rw [decide_eq_false h1, decide_eq_true h, decide_eq_false (show ¬ (1 ≤ o ∧ o ≤ (l.length : Int)) by omega)]; rfl
  · rw [decide_eq_false h1, decide_eq_false h, w64_id (by omega), decide_eq_true (show 0 ≤ o - 1 by omega), decide_eq_true (show o - 1 < (l.length : Int) by omega), decide_eq_true (show 1 ≤ o ∧ o ≤ (l.length : Int) by omega), impl_InRange_e, Option.bind_some]
    cases inR (rd_i64 l (o - 1)) 0 999 <;> rfl
theorem impl_executed_e {k : Nat} (hk : Big k) {l : List T_impl_Op} (hl : Ok l) {vals : List Int} (hv : Ok vals) (ha : l.all opOk = true) : impl_executed.f k l vals = some ((runV vals l).1, (runV vals l).2.2) := by
  have hl' := hl.out
  unfold impl_executed.f runV
  exact loop_fold (fun q i (s : PSt) => impl_executed.l3 k (l.length : Int) l vals (fun y z => some (y, z)) q i s.1 s.2.1 s.2.2) (runF vals) (fun i s => s.1.length ≤ i ∧ Regs s.2.1 s.2.2) (fun s => some (s.1, s.2.2)) l (fun n i o s hx hi => by
    obtain ⟨s, v, b⟩ := s
    obtain ⟨hs, hr⟩ := hi
    have hlt := lt_of hx
    obtain ⟨h1, h2, h3, h4⟩ := at_ hx (by omega)
    have ho := all_at ha hx
    obtain ⟨hA, hc⟩ := op_cases ho
    have A1 := inR_true.1 hA
    have v6 := hr.vl
    have b6 := hr.bl
    have gA0 : decide (0 ≤ o.f1) = true := decide_eq_true A1.1
    have gA6 : decide (o.f1 < 6) = true := decide_eq_true (by omega)
    simp only [impl_executed.l3, impl_executed.L3, rd_impl_Op, h1, h2, h3, h4, cond_true, runF, stp, snt]
    rcases hc with ⟨e, q2⟩ | ⟨e, q2⟩ | ⟨e, q2, q3⟩ | ⟨e, q2, q3⟩ | ⟨e, q2⟩
    · have B1 := inR_true.1 q2
      have hp := pow9 B1.1 B1.2
      simp only [e, beq_self_eq_true, cond_true, impl_valueOf_e k hv, Option.bind_some, v6, b6, gA0, gA6, Int.cast_ofNat_Int, decide_eq_false (show ¬ o.f2 < 0 by omega), cond_false]
      rw [Nat.min_eq_left (by omega), Int.one_mul, w64_id (by omega)]
      simp
    · simp [e, v6, b6, gA0, gA6]
    · have B1 := inR_true.1 q2
      have C1 := inR_true.1 q3
      have hm := (add_mod (hr.val q2) (hr.val q3)).1
      simp only [e, v6, b6, gA0, gA6, Int.cast_ofNat_Int, decide_eq_true B1.1, decide_eq_true C1.1, decide_eq_true (show o.f2 < 6 by omega), decide_eq_true (show o.f3 < 6 by omega), cond_true, hm, orL]
      simp
    · have B1 := inR_true.1 q2
      have C1 := inR_true.1 q3
      simp only [e, v6, b6, gA0, gA6, Int.cast_ofNat_Int, decide_eq_true B1.1, decide_eq_true C1.1, decide_eq_true (show o.f2 < 6 by omega), decide_eq_true (show o.f3 < 6 by omega), cond_true, orL]
      cases (rd_i64 v o.f2).tmod 2 == 0 <;> simp
    · have hcap : decide ((s.length + 1) * 24 ≤ cap48) = true := decide_eq_true (by unfold cap48; have : s.length ≤ i := hs; omega)
      simp only [e, v6, b6, gA0, gA6, Int.cast_ofNat_Int, cond_true, List.length_cons, List.length_nil, Nat.zero_add, hcap]
      simp) (fun i o s hx hi => by
    obtain ⟨s, v, b⟩ := s
    obtain ⟨hs, hr⟩ := hi
    have hn := snt_len o v b
    refine ⟨?_, hr.step vals (all_at ha hx)⟩
    show (s ++ snt o v b).length ≤ i + 1
    have : s.length ≤ i := hs
    simp; omega) (fun n s hi => by simp only [impl_executed.l3, impl_executed.L3, end_, cond_false]) k ([], zeros, zeros) (hk.lt hl) ⟨Nat.le_refl 0, Regs.zero⟩
theorem impl_IsLabel_e (k : Nat) (x : Int) : impl_IsLabel.f k x = some (isLab x) := by
  unfold impl_IsLabel.f isLab
  rw [impl_InRange_e, Option.bind_some]
  cases inR x 0 1022 <;> rfl
theorem impl_OwnersIn_e {k : Nat} (hk : Big k) (x : Int) : impl_OwnersIn.f k x = some (ownersV x) := by
  have hk' := hk.out
  unfold impl_OwnersIn.f ownersV
  rw [impl_IsLabel_e, Option.bind_some]
  cases h : isLab x with
  | false => rfl
  | true =>
    have := loop_fold (fun q i s => impl_OwnersIn.l5 k x (fun y3 => some y3) q (i + 1) s) (fun s o => bif bitO x o then s ++ [o] else s) (fun i s => s.length ≤ i) (fun s => some s) nine (fun n i o s hx hi => by
      obtain ⟨rfl, h9⟩ := nine_at hx
      have hp := pow9 (o := (i : Int) + 1) (by omega) (by omega)
      have hq := bit_q (o := (i : Int) + 1) h
      have hd : Int.fdiv x (2 ^ ((i : Int) + 1).toNat) = x / 2 ^ ((i : Int) + 1).toNat := Int.fdiv_eq_ediv_of_nonneg _ (by omega)
      simp only [impl_OwnersIn.l5, impl_OwnersIn.L5]
      rw [Nat.min_eq_left (by omega), hd, i64_and1 hq.1 hq.2, decide_eq_true (show (i : Int) + 1 ≤ 9 by omega), cond_true, decide_eq_false (by omega), cond_false, w64_id (by omega), decide_eq_true (by unfold cap48; simp; omega), cond_true]
      unfold bitO
      cases (x / 2 ^ ((i : Int) + 1).toNat % 2 == 1) <;> rfl) (fun i o s hx hi => by
      cases bitO x o
      · show s.length ≤ i + 1; omega
      · show (s ++ [o]).length ≤ i + 1; simp; omega) (fun n s hs => by
      simp only [impl_OwnersIn.l5, impl_OwnersIn.L5]
      rfl) k [] (by show 9 < k; omega) (Nat.le_refl 0)
    rw [foldl_filter] at this
    exact this
/-- A loop that gives the place where p holds first. -/
theorem loop_idx {α R : Type} (l : Nat → Int → Option R) (p : α → Bool) (X : R) (c : Int → Option R) (d : R → Bool) (xs : List α) (hX : d X = false) (hc : ∀ i : Nat, ∃ r, c (i : Int) = some r ∧ d r = true)
    (hs : ∀ n (i : Nat) x, xs[i]? = some x → l (n + 1) (i : Int) = bif p x then c (i : Int) else l n ((i + 1 : Nat) : Int)) (he : ∀ n, l (n + 1) (xs.length : Int) = some X) (n : Nat) (hn : xs.length < n) :
    ∃ r, l n 0 = some r ∧ d r = xs.any p := by
  have key : ∀ (suf pre : List α) n, xs = pre ++ suf → suf.length < n → ∃ r, l n (pre.length : Int) = some r ∧ d r = suf.any p := by
    intro suf
    induction suf with
    | nil =>
      intro pre n hx hn
      obtain ⟨n, rfl⟩ : ∃ q, n = q + 1 := ⟨n - 1, by simp at hn; omega⟩
      have e : pre.length = xs.length := by rw [hx]; simp
      rw [e, he n]
      exact ⟨X, rfl, hX⟩
    | cons x suf ih =>
      intro pre n hx hn
      obtain ⟨n, rfl⟩ : ∃ q, n = q + 1 := ⟨n - 1, by simp at hn; omega⟩
      have hg : xs[pre.length]? = some x := by rw [hx]; simp
      rw [hs n pre.length x hg, List.any_cons]
      cases hp : p x with
      | true =>
        obtain ⟨r, h1, h2⟩ := hc pre.length
        exact ⟨r, h1, h2⟩
      | false =>
        have := ih (pre ++ [x]) n (by rw [hx]; simp) (by simp at hn; omega)
        simpa using this
  exact key xs [] n rfl hn
theorem slices_Contains_Flow_e {k : Nat} (hk : Big k) {l : List T_impl_Flow} (hl : Ok l) (a b c : Int) : slices_Contains_Flow.f k l a b c = some (hasF l a b c) := by
  unfold slices_Contains_Flow.f slices_Index_Flow.f hasF
  obtain ⟨r, h1, h2⟩ := loop_idx (slices_Index_Flow.l2 k (l.length : Int) l a b c (fun y => some y) (fun _ => some (-1))) (fun x => (x.f0 == a) && ((x.f1 == b) && (x.f2 == c))) (-1) (fun i => some i) (fun r => decide (r ≥ 0)) l rfl (fun i => ⟨_, rfl, decide_eq_true (by omega)⟩) (fun n i x hx => by
    obtain ⟨h1, h2, h3, h4⟩ := at_ hx (by have := hl.out; omega)
    simp only [slices_Index_Flow.l2, slices_Index_Flow.L2, rd_impl_Flow, h1, h2, h3, h4, cond_true]
    rw [Bool.beq_comm (a := a), Bool.beq_comm (a := b), Bool.beq_comm (a := c)]) (fun n => by simp only [slices_Index_Flow.l2, slices_Index_Flow.L2, end_, cond_false]) k (hk.lt hl)
  rw [h1, Option.bind_some, h2]
theorem impl_NeedsFlows_in {k : Nat} (hk : Big k) (e x3 x4 : Int) (l : List T_impl_Op) (t v x : Int) (S : List T_impl_Sent) {R : Type} (X : List T_impl_Flow → Option R) {L : List Int} (hL : L.length ≤ 9) {out : List T_impl_Flow} (ho : out.length ≤ 1000) :
    impl_NeedsFlows.l9 k e x3 x4 (L.length : Int) l t v x S L X k 0 out = X (L.foldl (addOne e t) out) := by
  refine loop_fold (fun q i s => impl_NeedsFlows.l9 k e x3 x4 (L.length : Int) l t v x S L X q i s) (addOne e t) (fun i s => s.length ≤ out.length + i) X L (fun n i o s hx hi => ?_) (fun i o s hx hi => ?_) (fun n s hi => ?_) k out (by have := hk.out; omega) (Nat.le_refl _)
  · have hlt := lt_of hx
    obtain ⟨h1, h2, h3, h4⟩ := at_ hx (by omega)
    have hi : s.length ≤ out.length + i := hi
    simp only [impl_NeedsFlows.l9, impl_NeedsFlows.L9, rd_i64, h1, h2, h3, h4, cond_true, slices_Contains_Flow_e hk (Ok.small (l := s) 2000 (by omega)), Option.bind_some, addOne]
    rw [decide_eq_true (by unfold cap48; simp; omega), cond_true]
    cases o != t <;> cases hasF s e o t <;> rfl
  · have := addOne_len e t s o
    show (addOne e t s o).length ≤ out.length + (i + 1)
    have hi : s.length ≤ out.length + i := hi
    omega
  · simp only [impl_NeedsFlows.l9, impl_NeedsFlows.L9, end_, cond_false]
theorem impl_NeedsFlows_e {k : Nat} (hk : Big k) {l : List T_impl_Op} (hl : Ok l) (e : Int) : impl_NeedsFlows.f k l e = some (needsV l e) := by
  unfold impl_NeedsFlows.f needsV
  rw [impl_AreOps_e hk hl, Option.bind_some]
  cases h : areOps l with
  | false => rfl
  | true =>
    rw [impl_executed_e hk hl (Ok.small 0 (by simp)) (areOps_all h).1]
    have hs := sents_len (vals := []) h
    simp only [Bool.not_true, cond_false, cond_true, Option.bind_some]
    generalize (runV [] l).1 = S at hs
    exact loop_fold (fun q i s => impl_NeedsFlows.l6 k e (S.length : Int) l S (fun y => some y) q i s) (addS e) (fun i s => s.length ≤ 9 * i) (fun s => some s) S (fun n i x s hx hi => by
      have hlt := lt_of hx
      obtain ⟨h1, h2, h3, h4⟩ := at_ hx (by omega)
      have hi : s.length ≤ 9 * i := hi
      simp only [impl_NeedsFlows.l6, impl_NeedsFlows.L6, rd_impl_Sent, h1, h2, h3, h4, cond_true, impl_OwnersIn_e hk, Option.bind_some]
      rw [impl_NeedsFlows_in hk _ _ _ _ _ _ _ _ _ (ownersV_len x.f2) (by omega)]
      rfl) (fun i x s hx hi => by
      have := addS_len e s x
      show (addS e s x).length ≤ 9 * (i + 1)
      have hi : s.length ≤ 9 * i := hi
      omega) (fun n s hi => by simp only [impl_NeedsFlows.l6, impl_NeedsFlows.L6, end_, cond_false]) k [] (by have := hk.out; omega) (Nat.le_refl 0)
def withinF (l m : List T_impl_Flow) : Bool := l.all fun x => isFlowV x.f0 x.f1 x.f2 && hasF m x.f0 x.f1 x.f2
theorem impl_FlowsWithin_e {k : Nat} (hk : Big k) {l m : List T_impl_Flow} (hl : Ok l) (hm : Ok m) : impl_FlowsWithin.f k l m = some (withinF l m) := by
  unfold impl_FlowsWithin.f withinF
  rw [loop_all (impl_FlowsWithin.l2 k (l.length : Int) l m (fun y => some y) (fun _ => some true)) (fun x => isFlowV x.f0 x.f1 x.f2 && hasF m x.f0 x.f1 x.f2) (some true) (some false) l (fun n i x hx => by
    obtain ⟨h1, h2, h3, h4⟩ := at_ hx (by have := hl.out; omega)
    simp only [impl_FlowsWithin.l2, impl_FlowsWithin.L2, rd_impl_Flow, h1, h2, h3, h4, cond_true, impl_IsFlow_e, slices_Contains_Flow_e hk hm, Option.bind_some]
    cases isFlowV x.f0 x.f1 x.f2 <;> cases hasF m x.f0 x.f1 x.f2 <;> rfl) (fun n => by simp only [impl_FlowsWithin.l2, impl_FlowsWithin.L2, end_, cond_false]) k (hk.lt hl)]
  cases l.all fun x => isFlowV x.f0 x.f1 x.f2 && hasF m x.f0 x.f1 x.f2 <;> rfl
theorem impl_IsTightFor_e {k : Nat} (hk : Big k) {l : List T_impl_Op} (hl : Ok l) {f : List T_impl_Flow} (hf : Ok f) (e : Int) : impl_IsTightFor.f k l f e = some (areOps l && withinF (needsV l e) f) := by
  unfold impl_IsTightFor.f
  simp only [impl_AreOps_e hk hl, impl_NeedsFlows_e hk hl, impl_FlowsWithin_e hk (needsV_ok l e) hf, Option.bind_some]
  cases areOps l <;> rfl
def reviewV (key a b c d : Int) (g : List T_impl_Grant) (f : List T_impl_Flow) (r : List T_impl_Rule) (o : List T_impl_Op) : Int :=
  bif !isPk a b c g f r o then 1 else bif !(isPk a b c g f r o && (inR key 1 2147483646 && (sealV key a b c g f r o == d))) then 2 else bif !rulesV g r then 3 else bif !allFor g 1 (ownersOfV 1 o) then 4 else bif !allFor g 3 (ownersOfV 5 o) then 5 else bif !(areOps o && withinF (needsV o a) f) then 6 else 0
theorem impl_ReviewPackage_e {k : Nat} (hk : Big k) (key a b c d : Int) {g : List T_impl_Grant} {f : List T_impl_Flow} {r : List T_impl_Rule} {o : List T_impl_Op} (hg : Ok g) (hf : Ok f) (hr : Ok r) (ho : Ok o) :
    impl_ReviewPackage.f k key a b c g f r o d = some (reviewV key a b c d g f r o) := by
  unfold impl_ReviewPackage.f reviewV
  have loop : ∀ X1 : Unit → Option Int, impl_ReviewPackage.l6 k (r.length : Int) g f r o a b c d (fun y => some y) X1 k 0 = bif rulesV g r then X1 () else some 3 := fun X1 => by
    unfold rulesV
    exact loop_all (impl_ReviewPackage.l6 k (r.length : Int) g f r o a b c d (fun y => some y) X1) (fun x => g.any (coverOne x)) (X1 ()) (some 3) r (fun n i x hx => by
      obtain ⟨h1, h2, h3, h4⟩ := at_ hx (by have := hr.out; omega)
      simp only [impl_ReviewPackage.l6, impl_ReviewPackage.L6, rd_impl_Rule, h1, h2, h3, h4, cond_true, impl_covered_e hk hg x, Option.bind_some]
      cases g.any (coverOne x) <;> rfl) (fun n => by simp only [impl_ReviewPackage.l6, impl_ReviewPackage.L6, end_, cond_false]) k (hk.lt hr)
  rw [loop]
  simp only [impl_IsPackage_e hk a b c d hg hf hr ho, impl_IsSealed_e hk key a b c d hg hf hr ho, impl_OwnersRead_e hk ho, impl_OwnersSent_e hk ho, impl_allGranted_e hk hg 1 (ownersOfV_ok (kd := 1) ho), impl_allGranted_e hk hg 3 (ownersOfV_ok (kd := 5) ho), impl_IsTightFor_e hk ho hf, Option.bind_some]
  generalize (inR key 1 2147483646 && (sealV key a b c g f r o == d)) = p2
  generalize isPk a b c g f r o = p1, rulesV g r = p3, allFor g 1 (ownersOfV 1 o) = p4, allFor g 3 (ownersOfV 5 o) = p5, (areOps o && withinF (needsV o a) f) = p6
  cases p1 <;> cases p2 <;> cases p3 <;> cases p4 <;> cases p5 <;> cases p6 <;> rfl
theorem impl_IsWithinGrants_e {k : Nat} (hk : Big k) {l m : List T_impl_Grant} (hl : Ok l) (hm : Ok m) : impl_IsWithinGrants.f k l m = some (within l m) := by
  unfold impl_IsWithinGrants.f within
  have inner : ∀ {R : Type} (X : Bool → Option R) (a b : Int) (x : T_impl_Grant), impl_IsWithinGrants.l6 k false a b (m.length : Int) l m x.f0 x.f1.f0 x.f1.f1 x.f2 x.f3 x.f4 x.f5 X k 0 = bif m.any (wOk x) then X true else X false := by
    intro R X a b x
    exact loop_any _ (wOk x) (X false) (X true) m (fun q j y hy => by
      obtain ⟨g1, g2, g3, g4⟩ := at_ hy (by have := hm.out; omega)
      simp only [impl_IsWithinGrants.l6, impl_IsWithinGrants.L6, rd_impl_Grant, g1, g2, g3, g4, cond_true, impl_IsGrant_e, impl_IsNarrower_e, Option.bind_some, wOk, gOk]
      cases isGrant x.f0 x.f1.f0 x.f1.f1 x.f2 x.f3 x.f4 <;> cases isGrant y.f0 y.f1.f0 y.f1.f1 y.f2 y.f3 y.f4 <;> cases (x.f0 == y.f0) <;> cases (x.f2 == y.f2) <;> cases isNarrow x.f1.f0 x.f1.f1 y.f1.f0 y.f1.f1 <;> cases decide (y.f3 ≤ x.f3) <;> cases decide (x.f4 ≤ y.f4) <;> cases x.f5 <;> cases y.f5 <;> rfl) (fun q => by simp only [impl_IsWithinGrants.l6, impl_IsWithinGrants.L6, end_, cond_false]) k (hk.lt hm)
  rw [loop_all (impl_IsWithinGrants.l2 k (l.length : Int) l m (fun y => some y) (fun _ => some true)) (fun x => m.any (wOk x)) (some true) (some false) l (fun n i x hx => by
    obtain ⟨h1, h2, h3, h4⟩ := at_ hx (by have := hl.out; omega)
    simp only [impl_IsWithinGrants.l2, impl_IsWithinGrants.L2, rd_impl_Grant, h1, h2, h3, h4, cond_true, inner]
    cases m.any (wOk x) <;> rfl) (fun n => by simp only [impl_IsWithinGrants.l2, impl_IsWithinGrants.L2, end_, cond_false]) k (hk.lt hl)]
  cases l.all fun x => m.any (wOk x) <;> rfl
def widerV (g : List T_impl_Grant) (f : List T_impl_Flow) (g' : List T_impl_Grant) (f' : List T_impl_Flow) : Bool := !within g' g || !withinF f' f
def updateV (key a b c : Int) (g : List T_impl_Grant) (f : List T_impl_Flow) (r : List T_impl_Rule) (o : List T_impl_Op) (a' b' c' d' : Int) (g' : List T_impl_Grant) (f' : List T_impl_Flow) (r' : List T_impl_Rule) (o' : List T_impl_Op) (w : Bool) : Int :=
  bif !isPk a b c g f r o then 1 else bif reviewV key a' b' c' d' g' f' r' o' != 0 then 1 else bif a != a' then 1 else bif b != b' then 1 else bif decide (c' ≤ c) then 2 else bif widerV g f g' f' && !w then 3 else 0
theorem impl_IsWider_e {k : Nat} (hk : Big k) (a b c d : Int) {g : List T_impl_Grant} {f : List T_impl_Flow} (r : List T_impl_Rule) (o : List T_impl_Op) (a' b' c' d' : Int) {g' : List T_impl_Grant} {f' : List T_impl_Flow} (r' : List T_impl_Rule) (o' : List T_impl_Op) (hg : Ok g) (hf : Ok f) (hg' : Ok g') (hf' : Ok f') :
    impl_IsWider.f k a b c g f r o d a' b' c' g' f' r' o' d' = some (widerV g f g' f') := by
  unfold impl_IsWider.f widerV
  simp only [impl_IsWithinGrants_e hk hg' hg, impl_FlowsWithin_e hk hf' hf, Option.bind_some]
  cases within g' g <;> rfl
theorem impl_UpdateCode_e {k : Nat} (hk : Big k) (key a b c d : Int) {g : List T_impl_Grant} {f : List T_impl_Flow} {r : List T_impl_Rule} {o : List T_impl_Op} (a' b' c' d' : Int) {g' : List T_impl_Grant} {f' : List T_impl_Flow} {r' : List T_impl_Rule} {o' : List T_impl_Op} (w : Bool) (hg : Ok g) (hf : Ok f) (hr : Ok r) (ho : Ok o) (hg' : Ok g') (hf' : Ok f') (hr' : Ok r') (ho' : Ok o') :
    impl_UpdateCode.f k key a b c g f r o d a' b' c' g' f' r' o' d' w = some (updateV key a b c g f r o a' b' c' d' g' f' r' o' w) := by
  unfold impl_UpdateCode.f updateV
  simp only [impl_IsPackage_e hk a b c d hg hf hr ho, impl_ReviewPackage_e hk key a' b' c' d' hg' hf' hr' ho', impl_IsWider_e hk a b c d r o a' b' c' d' r' o' hg hf hg' hf', Option.bind_some]
  generalize isPk a b c g f r o = p1, (reviewV key a' b' c' d' g' f' r' o' != 0) = p2, (a != a') = p3, (b != b') = p4, decide (c' ≤ c) = p5, widerV g f g' f' = p6
  cases p1 <;> cases p2 <;> cases p3 <;> cases p4 <;> cases p5 <;> cases p6 <;> cases w <;> rfl
theorem impl_clonePackage_e (k : Nat) (a b c : Int) {g : List T_impl_Grant} {f : List T_impl_Flow} {r : List T_impl_Rule} {o : List T_impl_Op} (d : Int) (hg : Ok g) (hf : Ok f) (hr : Ok r) (ho : Ok o) :
    impl_clonePackage.f k a b c g f r o d = some (a, b, c, d, g, f, r, o) := by
  have := hg.out; have := hf.out; have := hr.out; have := ho.out
  have e1 : slices_Clone_Grant.f k g = some g := by
    show (bif decide ((0 + g.length) * 56 ≤ cap48) then some g else none) = some g
    rw [decide_eq_true (by unfold cap48; omega)]; rfl
  have e2 : slices_Clone_Flow.f k f = some f := by
    show (bif decide ((0 + f.length) * 24 ≤ cap48) then some f else none) = some f
    rw [decide_eq_true (by unfold cap48; omega)]; rfl
  have e3 : slices_Clone_Rule.f k r = some r := by
    show (bif decide ((0 + r.length) * 64 ≤ cap48) then some r else none) = some r
    rw [decide_eq_true (by unfold cap48; omega)]; rfl
  have e4 : slices_Clone_Op.f k o = some o := by
    show (bif decide ((0 + o.length) * 32 ≤ cap48) then some o else none) = some o
    rw [decide_eq_true (by unfold cap48; omega)]; rfl
  unfold impl_clonePackage.f
  rw [e1, Option.bind_some, e2, Option.bind_some, e3, Option.bind_some, e4, Option.bind_some]
theorem impl_UpdatePackage_e {k : Nat} (hk : Big k) (key a b c d : Int) {g : List T_impl_Grant} {f : List T_impl_Flow} {r : List T_impl_Rule} {o : List T_impl_Op} (a' b' c' d' : Int) {g' : List T_impl_Grant} {f' : List T_impl_Flow} {r' : List T_impl_Rule} {o' : List T_impl_Op} (w : Bool) (hg : Ok g) (hf : Ok f) (hr : Ok r) (ho : Ok o) (hg' : Ok g') (hf' : Ok f') (hr' : Ok r') (ho' : Ok o') :
    impl_UpdatePackage.f k key a b c g f r o d a' b' c' g' f' r' o' d' w = some (bif updateV key a b c g f r o a' b' c' d' g' f' r' o' w != 0 then (a, b, c, d, false, g, f, r, o) else (a', b', c', d', true, g', f', r', o')) := by
  unfold impl_UpdatePackage.f
  simp only [impl_UpdateCode_e hk key a b c d a' b' c' d' w hg hf hr ho hg' hf' hr' ho', impl_clonePackage_e k a b c d hg hf hr ho, impl_clonePackage_e k a' b' c' d' hg' hf' hr' ho', Option.bind_some]
  generalize (updateV key a b c g f r o a' b' c' d' g' f' r' o' w != 0) = p
  cases p <;> rfl
def eqZ {α : Type} (c : α → α → Bool) (l m : List α) : Bool := decide (l.length = m.length) && (l.zip m).all fun p => c p.1 p.2
theorem eqZ_refl {α : Type} {c : α → α → Bool} (h : ∀ x, c x x = true) (l : List α) : eqZ c l l = true := by
  unfold eqZ
  have : ∀ l : List α, ((l.zip l).all fun p => c p.1 p.2) = true := by
    intro l
    induction l with
    | nil => rfl
    | cons x xs ih => simp only [List.zip_cons_cons, List.all_cons, h, ih]; rfl
  rw [this]; simp
theorem eqZ_comm {α : Type} {c : α → α → Bool} (h : ∀ x y, c x y = c y x) (l m : List α) : eqZ c l m = eqZ c m l := by
  unfold eqZ
  have : ∀ l m : List α, ((l.zip m).all fun p => c p.1 p.2) = ((m.zip l).all fun p => c p.1 p.2) := by
    intro l
    induction l with
    | nil => intro m; cases m <;> rfl
    | cons x xs ih => intro m; cases m with
      | nil => rfl
      | cons y ys => simp only [List.zip_cons_cons, List.all_cons, h x y, ih ys]
  rw [this l m]
  congr 1
  rw [decide_eq_decide]; exact eq_comm
def cmpGrant (x y : T_impl_Grant) : Bool := (((x.f0) == (y.f0)) && (((x.f1.f0) == (y.f1.f0)) && (((x.f1.f1) == (y.f1.f1)) && (((x.f2) == (y.f2)) && (((x.f3) == (y.f3)) && (((x.f4) == (y.f4)) && ((x.f5) == (y.f5))))))))
theorem cmpGrant_refl (x : T_impl_Grant) : cmpGrant x x = true := by simp [cmpGrant]
theorem cmpGrant_comm (x y : T_impl_Grant) : cmpGrant x y = cmpGrant y x := by
  unfold cmpGrant
  simp only [Bool.beq_comm (b := y.f0)]
  congr 1
  all_goals simp only [Bool.beq_comm]
theorem slices_Equal_Grant_e {k : Nat} (hk : Big k) {l m : List T_impl_Grant} (hl : Ok l) : slices_Equal_Grant.f k l m = some (eqZ cmpGrant l m) := by
  have hl' := hl.out
  unfold slices_Equal_Grant.f eqZ
  by_cases hlen : l.length = m.length
  · rw [show ((l.length : Int) != (m.length : Int)) = false from by simp [hlen], cond_false, decide_eq_true hlen, Bool.true_and]
    have hz : (l.zip m).length = l.length := by simp [hlen]
    rw [show k = k from rfl, loop_all (slices_Equal_Grant.l4 k (l.length : Int) l m (fun y => some y) (fun _ => some true)) (fun p => cmpGrant p.1 p.2) (some true) (some false) (l.zip m) (fun n i p hp => by
      obtain ⟨hx, hy⟩ := List.getElem?_zip_eq_some.1 hp
      obtain ⟨h1, h2, h3, h4⟩ := at_ hx (by omega)
      obtain ⟨g1, g2, g3, g4⟩ := at_ hy (by omega)
      simp only [slices_Equal_Grant.l4, slices_Equal_Grant.L4, rd_impl_Grant, h1, h2, h3, h4, g1, g4, cond_true, cmpGrant]
      cases (((p.1.f0) == (p.2.f0)) && (((p.1.f1.f0) == (p.2.f1.f0)) && (((p.1.f1.f1) == (p.2.f1.f1)) && (((p.1.f2) == (p.2.f2)) && (((p.1.f3) == (p.2.f3)) && (((p.1.f4) == (p.2.f4)) && ((p.1.f5) == (p.2.f5)))))))) <;> rfl) (fun n => by rw [hz]; simp only [slices_Equal_Grant.l4, slices_Equal_Grant.L4, end_, cond_false]) k (by rw [hz]; exact hk.lt hl)]
    cases (l.zip m).all fun p => cmpGrant p.1 p.2 <;> rfl
  · rw [show ((l.length : Int) != (m.length : Int)) = true from by simp; omega, cond_true, decide_eq_false hlen, Bool.false_and]
def cmpFlow (x y : T_impl_Flow) : Bool := (((x.f0) == (y.f0)) && (((x.f1) == (y.f1)) && ((x.f2) == (y.f2))))
theorem cmpFlow_refl (x : T_impl_Flow) : cmpFlow x x = true := by simp [cmpFlow]
theorem cmpFlow_comm (x y : T_impl_Flow) : cmpFlow x y = cmpFlow y x := by
  unfold cmpFlow
  simp only [Bool.beq_comm (b := y.f0)]
  congr 1
  all_goals simp only [Bool.beq_comm]
theorem slices_Equal_Flow_e {k : Nat} (hk : Big k) {l m : List T_impl_Flow} (hl : Ok l) : slices_Equal_Flow.f k l m = some (eqZ cmpFlow l m) := by
  have hl' := hl.out
  unfold slices_Equal_Flow.f eqZ
  by_cases hlen : l.length = m.length
  · rw [show ((l.length : Int) != (m.length : Int)) = false from by simp [hlen], cond_false, decide_eq_true hlen, Bool.true_and]
    have hz : (l.zip m).length = l.length := by simp [hlen]
    rw [show k = k from rfl, loop_all (slices_Equal_Flow.l4 k (l.length : Int) l m (fun y => some y) (fun _ => some true)) (fun p => cmpFlow p.1 p.2) (some true) (some false) (l.zip m) (fun n i p hp => by
      obtain ⟨hx, hy⟩ := List.getElem?_zip_eq_some.1 hp
      obtain ⟨h1, h2, h3, h4⟩ := at_ hx (by omega)
      obtain ⟨g1, g2, g3, g4⟩ := at_ hy (by omega)
      simp only [slices_Equal_Flow.l4, slices_Equal_Flow.L4, rd_impl_Flow, h1, h2, h3, h4, g1, g4, cond_true, cmpFlow]
      cases (((p.1.f0) == (p.2.f0)) && (((p.1.f1) == (p.2.f1)) && ((p.1.f2) == (p.2.f2)))) <;> rfl) (fun n => by rw [hz]; simp only [slices_Equal_Flow.l4, slices_Equal_Flow.L4, end_, cond_false]) k (by rw [hz]; exact hk.lt hl)]
    cases (l.zip m).all fun p => cmpFlow p.1 p.2 <;> rfl
  · rw [show ((l.length : Int) != (m.length : Int)) = true from by simp; omega, cond_true, decide_eq_false hlen, Bool.false_and]
def cmpRule (x y : T_impl_Rule) : Bool := (((x.f0) == (y.f0)) && (((x.f1) == (y.f1)) && (((x.f2.f0) == (y.f2.f0)) && (((x.f2.f1) == (y.f2.f1)) && (((x.f3) == (y.f3)) && (((x.f4) == (y.f4)) && (((x.f5.f0) == (y.f5.f0)) && ((x.f5.f1) == (y.f5.f1)))))))))
theorem cmpRule_refl (x : T_impl_Rule) : cmpRule x x = true := by simp [cmpRule]
theorem cmpRule_comm (x y : T_impl_Rule) : cmpRule x y = cmpRule y x := by
  unfold cmpRule
  simp only [Bool.beq_comm (b := y.f0)]
  congr 1
  all_goals simp only [Bool.beq_comm]
theorem slices_Equal_Rule_e {k : Nat} (hk : Big k) {l m : List T_impl_Rule} (hl : Ok l) : slices_Equal_Rule.f k l m = some (eqZ cmpRule l m) := by
  have hl' := hl.out
  unfold slices_Equal_Rule.f eqZ
  by_cases hlen : l.length = m.length
  · rw [show ((l.length : Int) != (m.length : Int)) = false from by simp [hlen], cond_false, decide_eq_true hlen, Bool.true_and]
    have hz : (l.zip m).length = l.length := by simp [hlen]
    rw [show k = k from rfl, loop_all (slices_Equal_Rule.l4 k (l.length : Int) l m (fun y => some y) (fun _ => some true)) (fun p => cmpRule p.1 p.2) (some true) (some false) (l.zip m) (fun n i p hp => by
      obtain ⟨hx, hy⟩ := List.getElem?_zip_eq_some.1 hp
      obtain ⟨h1, h2, h3, h4⟩ := at_ hx (by omega)
      obtain ⟨g1, g2, g3, g4⟩ := at_ hy (by omega)
      simp only [slices_Equal_Rule.l4, slices_Equal_Rule.L4, rd_impl_Rule, h1, h2, h3, h4, g1, g4, cond_true, cmpRule]
      cases (((p.1.f0) == (p.2.f0)) && (((p.1.f1) == (p.2.f1)) && (((p.1.f2.f0) == (p.2.f2.f0)) && (((p.1.f2.f1) == (p.2.f2.f1)) && (((p.1.f3) == (p.2.f3)) && (((p.1.f4) == (p.2.f4)) && (((p.1.f5.f0) == (p.2.f5.f0)) && ((p.1.f5.f1) == (p.2.f5.f1))))))))) <;> rfl) (fun n => by rw [hz]; simp only [slices_Equal_Rule.l4, slices_Equal_Rule.L4, end_, cond_false]) k (by rw [hz]; exact hk.lt hl)]
    cases (l.zip m).all fun p => cmpRule p.1 p.2 <;> rfl
  · rw [show ((l.length : Int) != (m.length : Int)) = true from by simp; omega, cond_true, decide_eq_false hlen, Bool.false_and]
def cmpOp (x y : T_impl_Op) : Bool := (((x.f0) == (y.f0)) && (((x.f1) == (y.f1)) && (((x.f2) == (y.f2)) && ((x.f3) == (y.f3)))))
theorem cmpOp_refl (x : T_impl_Op) : cmpOp x x = true := by simp [cmpOp]
theorem cmpOp_comm (x y : T_impl_Op) : cmpOp x y = cmpOp y x := by
  unfold cmpOp
  simp only [Bool.beq_comm (b := y.f0)]
  congr 1
  all_goals simp only [Bool.beq_comm]
theorem slices_Equal_Op_e {k : Nat} (hk : Big k) {l m : List T_impl_Op} (hl : Ok l) : slices_Equal_Op.f k l m = some (eqZ cmpOp l m) := by
  have hl' := hl.out
  unfold slices_Equal_Op.f eqZ
  by_cases hlen : l.length = m.length
  · rw [show ((l.length : Int) != (m.length : Int)) = false from by simp [hlen], cond_false, decide_eq_true hlen, Bool.true_and]
    have hz : (l.zip m).length = l.length := by simp [hlen]
    rw [show k = k from rfl, loop_all (slices_Equal_Op.l4 k (l.length : Int) l m (fun y => some y) (fun _ => some true)) (fun p => cmpOp p.1 p.2) (some true) (some false) (l.zip m) (fun n i p hp => by
      obtain ⟨hx, hy⟩ := List.getElem?_zip_eq_some.1 hp
      obtain ⟨h1, h2, h3, h4⟩ := at_ hx (by omega)
      obtain ⟨g1, g2, g3, g4⟩ := at_ hy (by omega)
      simp only [slices_Equal_Op.l4, slices_Equal_Op.L4, rd_impl_Op, h1, h2, h3, h4, g1, g4, cond_true, cmpOp]
      cases (((p.1.f0) == (p.2.f0)) && (((p.1.f1) == (p.2.f1)) && (((p.1.f2) == (p.2.f2)) && ((p.1.f3) == (p.2.f3))))) <;> rfl) (fun n => by rw [hz]; simp only [slices_Equal_Op.l4, slices_Equal_Op.L4, end_, cond_false]) k (by rw [hz]; exact hk.lt hl)]
    cases (l.zip m).all fun p => cmpOp p.1 p.2 <;> rfl
  · rw [show ((l.length : Int) != (m.length : Int)) = true from by simp; omega, cond_true, decide_eq_false hlen, Bool.false_and]
def eqPkg (a b c d : Int) (g : List T_impl_Grant) (f : List T_impl_Flow) (r : List T_impl_Rule) (o : List T_impl_Op) (a' b' c' d' : Int) (g' : List T_impl_Grant) (f' : List T_impl_Flow) (r' : List T_impl_Rule) (o' : List T_impl_Op) : Bool :=
  (a == a') && ((b == b') && ((c == c') && ((d == d') && (eqZ cmpGrant g g' && (eqZ cmpFlow f f' && (eqZ cmpRule r r' && eqZ cmpOp o o'))))))
theorem impl_EqualPackages_e {k : Nat} (hk : Big k) (a b c d : Int) {g : List T_impl_Grant} {f : List T_impl_Flow} {r : List T_impl_Rule} {o : List T_impl_Op} (a' b' c' d' : Int) (g' : List T_impl_Grant) (f' : List T_impl_Flow) (r' : List T_impl_Rule) (o' : List T_impl_Op) (hg : Ok g) (hf : Ok f) (hr : Ok r) (ho : Ok o) :
    impl_EqualPackages.f k a b c g f r o d a' b' c' g' f' r' o' d' = some (eqPkg a b c d g f r o a' b' c' d' g' f' r' o') := by
  unfold impl_EqualPackages.f eqPkg
  simp only [slices_Equal_Grant_e hk hg, slices_Equal_Flow_e hk hf, slices_Equal_Rule_e hk hr, slices_Equal_Op_e hk ho, Option.bind_some]
  generalize eqZ cmpGrant g g' = p1, eqZ cmpFlow f f' = p2, eqZ cmpRule r r' = p3, eqZ cmpOp o o' = p4
  cases (a == a') <;> cases (b == b') <;> cases (c == c') <;> cases (d == d') <;> cases p1 <;> cases p2 <;> cases p3 <;> cases p4 <;> rfl
theorem eqPkg_refl (a b c d : Int) (g : List T_impl_Grant) (f : List T_impl_Flow) (r : List T_impl_Rule) (o : List T_impl_Op) : eqPkg a b c d g f r o a b c d g f r o = true := by
  unfold eqPkg
  simp [eqZ_refl cmpGrant_refl, eqZ_refl cmpFlow_refl, eqZ_refl cmpRule_refl, eqZ_refl cmpOp_refl]
theorem eqPkg_comm (a b c d : Int) (g : List T_impl_Grant) (f : List T_impl_Flow) (r : List T_impl_Rule) (o : List T_impl_Op) (a' b' c' d' : Int) (g' : List T_impl_Grant) (f' : List T_impl_Flow) (r' : List T_impl_Rule) (o' : List T_impl_Op) : eqPkg a b c d g f r o a' b' c' d' g' f' r' o' = eqPkg a' b' c' d' g' f' r' o' a b c d g f r o := by
  unfold eqPkg
  rw [Bool.beq_comm (a := a), Bool.beq_comm (a := b), Bool.beq_comm (a := c), Bool.beq_comm (a := d), eqZ_comm cmpGrant_comm g, eqZ_comm cmpFlow_comm f, eqZ_comm cmpRule_comm r, eqZ_comm cmpOp_comm o]
def widened (l m : List T_impl_Grant) : List T_impl_Grant := m.filter fun x => !(l.any (wOk x))
theorem take_drop_one {α : Type} {xs : List α} {i : Nat} {x : α} (h : xs[i]? = some x) : ((xs.take (((i + 1 : Nat) : Int)).toNat).drop ((i : Int)).toNat) = [x] := by
  have hi := lt_of h
  have hx : xs[i] = x := by
    rw [List.getElem?_eq_getElem hi] at h
    exact Option.some.inj h
  show (xs.take (i + 1)).drop i = [x]
  rw [List.take_succ_eq_append_getElem hi, List.drop_append_of_le_length (by rw [List.length_take]; omega), List.drop_eq_nil_of_le (by rw [List.length_take]; omega), hx]
  rfl
theorem impl_WidenedGrants_e {k : Nat} (hk : Big k) (a b c d a' b' c' d' : Int) {l m : List T_impl_Grant} (f f' : List T_impl_Flow) (r r' : List T_impl_Rule) (o o' : List T_impl_Op) (hl : Ok l) (hm : Ok m) : impl_WidenedGrants.f k a b c l f r o d a' b' c' m f' r' o' d' = some (widened l m) := by
  have hm' := hm.out
  unfold impl_WidenedGrants.f widened
  have := loop_fold (fun q i s => impl_WidenedGrants.l3 k (m.length : Int) l f r o m f' r' o' a b c d (fun y => some y) q i s) (fun s x => bif !(l.any (wOk x)) then s ++ [x] else s) (fun i s => s.length ≤ i) (fun y => some y) m (fun q i x s hx hs => by
    obtain ⟨h1, h2, h3, h4⟩ := at_ hx (by omega)
    have hi := lt_of hx
    have hs : s.length ≤ i := hs
    have g4 : decide ((s.length + ([x] : List T_impl_Grant).length) * 56 ≤ cap48) = true := decide_eq_true (by unfold cap48; simp; omega)
    simp only [impl_WidenedGrants.l3, impl_WidenedGrants.L3, rd_impl_Grant, h1, h2, h3, h4, cond_true, impl_IsWithinGrants_e hk (Ok.small (l := [x]) 1 (by simp)) hl, Option.bind_some, within, List.all_cons, List.all_nil, Bool.and_true]
    rw [g4]
    cases l.any (wOk x) <;> rfl) (fun i x s hx hs => by
    have hs : s.length ≤ i := hs
    show (bif !(l.any (wOk x)) then s ++ [x] else s).length ≤ i + 1
    cases l.any (wOk x) <;> simp <;> omega) (fun q s _ => by simp only [impl_WidenedGrants.l3, impl_WidenedGrants.L3, end_, cond_false]) k [] (hk.lt hm) (by simp)
  rw [this, foldl_filter]; rfl
theorem FnUpdated : ∀ (a0 : List Int), a0.length ≤ maxLen → (∀ x ∈ a0, likes (k_u8.enc k_u8.zero) (k_u8.enc x)) → ∃ k, laws_FnUpdated.f k a0 = some true := by
  intro l _ _
  obtain ⟨k, hk⟩ := big_some
  refine ⟨k, ?_⟩
  unfold laws_FnUpdated.f
  rw [laws_big_e, Option.bind_some]
  by_cases hbig : (l.length : Int) > 1048576
  · rw [decide_eq_true hbig]; rfl
  rw [decide_eq_false hbig, cond_false]
  have hl : Ok l := by unfold Ok; omega
  have hX : ((spec_DrawIsWider.f k l).bind fun t11 => (impl_IsWider.f k t11.1 t11.2.1 t11.2.2.1 t11.2.2.2.2.2.2.2.2.1 t11.2.2.2.2.2.2.2.2.2.1 t11.2.2.2.2.2.2.2.2.2.2.1 t11.2.2.2.2.2.2.2.2.2.2.2.1 t11.2.2.2.1 t11.2.2.2.2.1 t11.2.2.2.2.2.1 t11.2.2.2.2.2.2.1 t11.2.2.2.2.2.2.2.2.2.2.2.2.1 t11.2.2.2.2.2.2.2.2.2.2.2.2.2.1 t11.2.2.2.2.2.2.2.2.2.2.2.2.2.2.1 t11.2.2.2.2.2.2.2.2.2.2.2.2.2.2.2 t11.2.2.2.2.2.2.2.1).bind fun t12 => (bif t12 then some true else (impl_WidenedGrants.f k t11.1 t11.2.1 t11.2.2.1 t11.2.2.2.2.2.2.2.2.1 t11.2.2.2.2.2.2.2.2.2.1 t11.2.2.2.2.2.2.2.2.2.2.1 t11.2.2.2.2.2.2.2.2.2.2.2.1 t11.2.2.2.1 t11.2.2.2.2.1 t11.2.2.2.2.2.1 t11.2.2.2.2.2.2.1 t11.2.2.2.2.2.2.2.2.2.2.2.2.1 t11.2.2.2.2.2.2.2.2.2.2.2.2.2.1 t11.2.2.2.2.2.2.2.2.2.2.2.2.2.2.1 t11.2.2.2.2.2.2.2.2.2.2.2.2.2.2.2 t11.2.2.2.2.2.2.2.1).bind fun t13 => some ((t13.length : Int) == (0 : Int)))) = some true := by
    obtain ⟨⟨a, b, c, d, a', b', c', d', g, f, r, o, g', f', r', o'⟩, eW, ⟨z1, z2, z3, z4⟩, ⟨y1, y2, y3, y4⟩⟩ := spec_DrawIsWider_t hk hl
    rw [eW, Option.bind_some]
    simp only
    rw [impl_IsWider_e hk a b c d r o a' b' c' d' r' o' (Ok.small 21 z1) (Ok.small 21 z2) (Ok.small 21 y1) (Ok.small 21 y2), Option.bind_some, impl_WidenedGrants_e hk _ _ _ _ _ _ _ _ _ _ _ _ _ _ (Ok.small 21 z1) (Ok.small 21 y1), Option.bind_some]
    unfold widerV
    cases h : within g' g with
    | false => rfl
    | true =>
      have : widened g g' = [] := by
        unfold widened
        refine List.filter_eq_nil_iff.2 fun x hx => ?_
        have := List.all_eq_true.1 h x hx
        simp [this]
      rw [this]
      cases withinF f' f <;> rfl
  obtain ⟨⟨key, a, b, c, d, a', b', c', d', w, g, f, r, o, g', f', r', o'⟩, eD, ⟨z1, z2, z3, z4⟩, ⟨y1, y2, y3, y4⟩⟩ := spec_DrawUpdatePackage_t hk hl
  have hg : Ok g := Ok.small 21 z1
  have hf : Ok f := Ok.small 21 z2
  have hr : Ok r := Ok.small 21 z3
  have ho : Ok o := Ok.small 21 z4
  have hg' : Ok g' := Ok.small 21 y1
  have hf' : Ok f' := Ok.small 21 y2
  have hr' : Ok r' := Ok.small 21 y3
  have ho' : Ok o' := Ok.small 21 y4
  rw [hX, eD, Option.bind_some]
  simp only
  rw [impl_UpdatePackage_e hk key a b c d a' b' c' d' w hg hf hr ho hg' hf' hr' ho', Option.bind_some]
  simp only [impl_UpdateCode_e hk key a b c d a' b' c' d' w hg hf hr ho hg' hf' hr' ho', Option.bind_some]
  have hu : updateV key a b c g f r o a' b' c' d' g' f' r' o' w = 1 ∨ updateV key a b c g f r o a' b' c' d' g' f' r' o' w = 2 ∨ updateV key a b c g f r o a' b' c' d' g' f' r' o' w = 3 ∨ (updateV key a b c g f r o a' b' c' d' g' f' r' o' w = 0 ∧ (reviewV key a' b' c' d' g' f' r' o' != 0) = false ∧ (b != b') = false ∧ decide (c' ≤ c) = false ∧ (widerV g f g' f' && !w) = false) := by
    unfold updateV
    generalize isPk a b c g f r o = p1, (reviewV key a' b' c' d' g' f' r' o' != 0) = p2, (a != a') = p3, (b != b') = p4, decide (c' ≤ c) = p5, widerV g f g' f' = p6
    cases p1 <;> cases p2 <;> cases p3 <;> cases p4 <;> cases p5 <;> cases p6 <;> cases w <;> simp
  have E1 := impl_EqualPackages_e hk a b c d a b c d g f r o hg hf hr ho
  have E2 := impl_EqualPackages_e hk a' b' c' d' a' b' c' d' g' f' r' o' hg' hf' hr' ho'
  rw [eqPkg_refl] at E1 E2
  rcases hu with h0 | h0 | h0 | ⟨h0, h1, h2, h3, h4⟩
  · rw [h0]
    simp only [show ((1 : Int) != 0) = true from rfl, cond_true, E1, Option.bind_some]
    rw [show (false == ((1 : Int) == 0)) = true from rfl, Bool.not_true, cond_false]
    rw [show impl_UpdateName.f k 1 = some (ByteArray.mk #[102, 111, 114, 109]) from rfl, Option.bind_some, show ((ByteArray.mk #[102, 111, 114, 109]).toList == (ByteArray.mk #[]).toList) = false by kernel_rfl, cond_false]
    rfl
  · rw [h0]
    simp only [show ((2 : Int) != 0) = true from rfl, cond_true, E1, Option.bind_some]
    rw [show (false == ((2 : Int) == 0)) = true from rfl, Bool.not_true, cond_false]
    rw [show impl_UpdateName.f k 2 = some (ByteArray.mk #[111, 108, 100]) from rfl, Option.bind_some, show ((ByteArray.mk #[111, 108, 100]).toList == (ByteArray.mk #[]).toList) = false by kernel_rfl, cond_false]
    rfl
  · rw [h0]
    simp only [show ((3 : Int) != 0) = true from rfl, cond_true, E1, Option.bind_some]
    rw [show (false == ((3 : Int) == 0)) = true from rfl, Bool.not_true, cond_false]
    rw [show impl_UpdateName.f k 3 = some (ByteArray.mk #[99, 111, 110, 115, 101, 110, 116]) from rfl, Option.bind_some, show ((ByteArray.mk #[99, 111, 110, 115, 101, 110, 116]).toList == (ByteArray.mk #[]).toList) = false by kernel_rfl, cond_false]
    rfl
  · rw [h0]
    have h2' : (b' != b) = false := by rw [bne, Bool.beq_comm]; exact h2
    simp only [show ((0 : Int) != 0) = false from rfl, cond_false, E2, impl_ReviewPackage_e hk key a' b' c' d' hg' hf' hr' ho', h1, h2', h3, impl_IsWithinGrants_e hk hg' hg, impl_FlowsWithin_e hk hf' hf, Option.bind_some]
    rw [show (true == ((0 : Int) == 0)) = true from rfl, Bool.not_true, cond_false]
    rw [show impl_UpdateName.f k 0 = some (ByteArray.mk #[100, 111, 110, 101]) from rfl, Option.bind_some, show ((ByteArray.mk #[100, 111, 110, 101]).toList == (ByteArray.mk #[]).toList) = false by kernel_rfl, cond_false]
    cases w with
    | true => rfl
    | false =>
      unfold widerV at h4
      cases h5 : within g' g with
      | false => rw [h5] at h4; simp at h4
      | true =>
        cases h6 : withinF f' f with
        | false => rw [h5, h6] at h4; simp at h4
        | true => rfl
end Go.Proofs.YtoenilndklbceaaGreat.PFnUpdated.Pure
