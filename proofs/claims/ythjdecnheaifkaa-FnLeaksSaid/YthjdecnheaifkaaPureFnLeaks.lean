/- The law FnLeaks as a statement over numbers and lists, with its proof; no conditions but the bounds of the values' types and of the slices' lengths. -/
import Derived.Test.YthjdecnheaifkaaPFnLeaks5
set_option linter.unusedVariables false
set_option linter.unusedSimpArgs false
namespace Go.Proofs.Ythjdecnheaifkaa.PFnLeaks.Pure
open Go Go.Eng Go.Proofs
theorem laws_big_e (k : Nat) (l : List Int) : laws_big.f k l = some (decide ((l.length : Int) > 1048576)) := rfl
def Ret' {α : Type} (o : Option α) (P : α → Prop) : Prop := ∃ t, o = some t ∧ P t
theorem Ret'.bind {α β : Type} {o : Option α} {P : α → Prop} {f : α → Option β} {Q : β → Prop} (h : Ret' o P) (k : ∀ t, P t → Ret' (f t) Q) : Ret' (o.bind f) Q := by
  obtain ⟨t, rfl, ht⟩ := h
  exact k t ht
theorem Ret'.some {α : Type} {t : α} {P : α → Prop} (h : P t) : Ret' (Option.some t) P := ⟨t, rfl, h⟩
theorem Ret'.imp {α : Type} {o : Option α} {P Q : α → Prop} (h : Ret' o P) (k : ∀ t, P t → Q t) : Ret' o Q := by
  obtain ⟨t, e, ht⟩ := h
  exact ⟨t, e, k t ht⟩
theorem Ret'.bif {α : Type} {c : Bool} {x y : Option α} {P : α → Prop} (h : c = true → Ret' x P) (k : c = false → Ret' y P) : Ret' (bif c then x else y) P := by
  cases c
  · exact k rfl
  · exact h rfl
theorem i64_and255 (n : Int) : bitop .and .i64 n 255 = n % 256 := by
  have h127 : (BitVec.ofInt 64 255).toNat = 2 ^ 8 - 1 := by decide
  have key : (BitVec.ofInt 64 n &&& BitVec.ofInt 64 255).toNat = (n % ((2 ^ 64 : Nat) : Int)).toNat % 2 ^ 8 := by
    rw [BitVec.toNat_and, BitVec.toNat_ofInt, h127, Nat.and_two_pow_sub_one_eq_mod]
  show IntKind.i64.wrap ((BitVec.ofInt 64 n &&& BitVec.ofInt 64 255).toNat : Nat) = n % 256
  rw [key, show ∀ m : Int, IntKind.i64.wrap m = w64 m from fun _ => rfl, w64_id (by omega)]
  omega
def Pos (l : List Int) (p : Int) : Prop := 0 ≤ p ∧ p ≤ (l.length : Int) ∧ (l.length : Int) ≤ 1048576
theorem tmod_bd {b a : Int} (hb : 0 ≤ b) (ha : 0 < a) : 0 ≤ Int.tmod b a ∧ Int.tmod b a < a := by
  rw [Int.tmod_eq_emod_of_nonneg hb]
  exact ⟨Int.emod_nonneg _ (by omega), Int.emod_lt_of_pos _ ha⟩
theorem laws_at_t (k : Nat) {l : List Int} (hl : Ok l) (hb : ∀ x ∈ l, 0 ≤ x ∧ x ≤ 255) (i : Int) (hi : 0 ≤ i ∧ i ≤ 1000) : Ret' (laws_at.f k l i) fun v => 0 ≤ v ∧ v ≤ 255 := by
  have hl' := hl.out
  unfold laws_at.f
  refine .bif (fun c => ?_) fun c => ?_
  · rw [decide_eq_true hi.1, cond_true, c, cond_true]
    have c := of_decide_eq_true c
    obtain ⟨n, hn⟩ := Int.eq_ofNat_of_zero_le hi.1
    have hlt : n < l.length := by omega
    have hx : rd_u8 l i ∈ l := by
      rw [hn]
      show l.getD n z_u8 ∈ l
      rw [List.getD_eq_getElem?_getD, List.getElem?_eq_getElem hlt]
      exact List.getElem_mem hlt
    have := hb _ hx
    exact .some (by rw [w64_id (by omega)]; exact this)
  · have e1 : w64 (i * 31) = i * 31 := w64_id (by omega)
    have e2 : w64 ((l.length : Int) * 7) = (l.length : Int) * 7 := w64_id (by omega)
    rw [e1, e2, w64_id (by omega)]
    have := tmod_bd (show 0 ≤ i * 31 + (l.length : Int) * 7 by omega) (show (0 : Int) < 256 by decide)
    exact .some (by omega)
theorem spec_l1New_l {l : List Int} (hl : Ok l) (k : Nat) : ∀ (n q : Nat) (h : Int) (i : Nat), 4000 ≤ i + n → i ≤ 4000 → n < q → Ret' (spec_l1New.l3 k l (fun y => some ((0 : Int), y)) q h (i : Int)) fun t => t.1 = 0 := by
  have hl' := hl.out
  intro n
  induction n with
  | zero =>
    intro q h i h1 h2 hq
    obtain ⟨q, rfl⟩ : ∃ j, q = j + 1 := ⟨q - 1, by omega⟩
    simp only [spec_l1New.l3, spec_l1New.L3]
    refine Ret'.bif (fun c => ?_) (fun c => .some rfl)
    rw [decide_eq_false (show ¬ ((i : Int) < 4000) by omega)]
    exact .some rfl
  | succ n ih =>
    intro q h i h1 h2 hq
    obtain ⟨q, rfl⟩ : ∃ j, q = j + 1 := ⟨q - 1, by omega⟩
    simp only [spec_l1New.l3, spec_l1New.L3]
    refine Ret'.bif (fun c => ?_) (fun c => .some rfl)
    refine Ret'.bif (fun c2 => ?_) (fun c2 => .some rfl)
    have c2 := of_decide_eq_true c2
    rw [nn_, cond_true, c, cond_true, w64_id (n := (i : Int) + 1) (by omega)]
    exact ih q _ (i + 1) (by omega) (by omega) (by omega)
theorem spec_l1New_t {k : Nat} (hk : Big k) {l : List Int} (hl : Ok l) : Ret' (spec_l1New.f k l) fun t => Pos l t.1 := by
  have hl' := hl.out
  have hk' := hk.out
  unfold spec_l1New.f
  exact (spec_l1New_l hl k 4000 k _ 0 (by omega) (by omega) (by omega)).imp fun t ht => by rw [ht]; unfold Pos; omega
theorem spec_l1Byte_t (k : Nat) {l : List Int} {p : Int} (h : Int) (hp : Pos l p) : Ret' (spec_l1Byte.f k l p h) fun t => Pos l t.2.1 ∧ 0 ≤ t.1 ∧ t.1 ≤ 255 := by
  obtain ⟨h0, h1, h2⟩ := hp
  unfold spec_l1Byte.f
  simp only [i64_and255]
  refine Ret'.bif (fun c => ?_) (fun c => .some ⟨⟨h0, h1, h2⟩, by simp only; omega, by simp only; omega⟩)
  have c := of_decide_eq_true c
  rw [decide_eq_true h0, cond_true, decide_eq_true c, cond_true]
  exact .some ⟨by simp only; rw [w64_id (by omega)]; unfold Pos; omega, by simp only; omega, by simp only; omega⟩
theorem spec_l1Below_t (k : Nat) {l : List Int} {p : Int} (h : Int) (hp : Pos l p) (a : Int) (ha : 0 < a) : Ret' (spec_l1Below.f k l p h a) fun t => Pos l t.2.1 ∧ 0 ≤ t.1 ∧ t.1 < a := by
  unfold spec_l1Below.f
  rw [decide_eq_false (show ¬ a ≤ 0 by omega), cond_false]
  refine Ret'.bif (fun c => ?_) (fun c => ?_)
  · refine (spec_l1Byte_t k h hp).bind fun t ⟨q, b0, b1⟩ => ?_
    rw [decide_eq_false (show ¬ a = 0 by omega), cond_false]
    exact .some ⟨q, tmod_bd b0 ha⟩
  · refine (spec_l1Byte_t k h hp).bind fun t ⟨q, b0, b1⟩ => (spec_l1Byte_t k _ q).bind fun t2 ⟨q2, c0, c1⟩ => (spec_l1Byte_t k _ q2).bind fun t3 ⟨q3, d0, d1⟩ => ?_
    rw [decide_eq_false (show ¬ a = 0 by omega), cond_false, w64_id (n := t.1 * 65536) (by omega), w64_id (n := t2.1 * 256) (by omega), w64_id (n := t.1 * 65536 + t2.1 * 256) (by omega), w64_id (by omega)]
    exact .some ⟨q3, tmod_bd (by omega) ha⟩
theorem spec_l21Op_t (k : Nat) {l : List Int} {p : Int} (h : Int) (hp : Pos l p) : Ret' (spec_l21Op.f k l p h) fun t => Pos l t.2.2.2.2.1 := by
  unfold spec_l21Op.f
  exact (spec_l1Below_t k h hp 5 (by decide)).bind fun t ⟨q, _⟩ => (spec_l1Below_t k _ q 4 (by decide)).bind fun t ⟨q, _⟩ =>
    .bif (fun _ => (spec_l1Below_t k _ q 4 (by decide)).bind fun t ⟨q, _⟩ => .some q) fun _ => .bif (fun _ => (spec_l1Below_t k _ q 4 (by decide)).bind fun t ⟨q, _⟩ => .some q) fun _ => .bif (fun _ => (spec_l1Below_t k _ q 20 (by decide)).bind fun t ⟨q, _⟩ => .some q) fun _ =>
    (spec_l1Below_t k _ q 4 (by decide)).bind fun t ⟨q, _⟩ => (spec_l1Below_t k _ q 4 (by decide)).bind fun t ⟨q, _⟩ => .some q
theorem loop_down {σ R : Type} (l : Nat → Int → Int → Int → List σ → Option R) (B : Nat) (I : Int → Prop) (Q : R → Prop)
    (hs : ∀ q (n : Nat) p h s, I p → s.length + (n + 1) ≤ B → (∀ p' h' x, I p' → Ret' (l q (n : Int) p' h' (s ++ [x])) Q) → Ret' (l (q + 1) ((n + 1 : Nat) : Int) p h s) Q)
    (he : ∀ q p h s, I p → s.length ≤ B → Ret' (l (q + 1) 0 p h s) Q) : ∀ (n q : Nat) p h s, n < q → I p → s.length + n ≤ B → Ret' (l q (n : Int) p h s) Q := by
  intro n
  induction n with
  | zero =>
    intro q p h s hq hp hb
    obtain ⟨q, rfl⟩ : ∃ j, q = j + 1 := ⟨q - 1, by omega⟩
    exact he q p h s hp hb
  | succ n ih =>
    intro q p h s hq hp hb
    obtain ⟨q, rfl⟩ : ∃ j, q = j + 1 := ⟨q - 1, by omega⟩
    exact hs q n p h s hp hb fun p' h' x hp' => ih q p' h' (s ++ [x]) (by omega) hp' (by simp; omega)
theorem down1 (n : Nat) (hn : n ≤ 1000000) : w64 (((n + 1 : Nat) : Int) - 1) = (n : Int) := by rw [w64_id (by omega)]; omega
theorem down_gt (n : Nat) : decide (((n + 1 : Nat) : Int) > 0) = true := decide_eq_true (by omega)
theorem spec_l21Ops_t {k : Nat} (hk : Big k) {l : List Int} {p : Int} (h : Int) (hp : Pos l p) : Ret' (spec_l21Ops.f k l p h) fun t => Pos l t.1 ∧ t.2.2.length ≤ 20 := by
  have hk' := hk.out
  unfold spec_l21Ops.f
  refine (spec_l1Below_t k h hp 10 (by decide)).bind fun t ⟨q, b0, b1⟩ => ?_
  obtain ⟨n, hn⟩ := Int.eq_ofNat_of_zero_le b0
  rw [hn]
  refine loop_down (spec_l21Ops.l3 k l fun y4 y5 y6 => some (y4, y5, y6)) 20 (Pos l) _ (fun q n p h s hp hb ih => ?_) (fun q p h s hp hb => ?_) n k _ _ [] (by omega) q (by simp; omega)
  · simp only [spec_l21Ops.l3, spec_l21Ops.L3, down_gt, cond_true, down1 n (by omega)]
    refine (spec_l21Op_t k h hp).bind fun t q => ?_
    rw [decide_eq_true (by unfold cap48; simp; omega), cond_true]
    exact ih _ _ _ q
  · exact .some ⟨hp, hb⟩
theorem spec_l1Int_m (k : Nat) {l : List Int} {p : Int} (h : Int) (hp : Pos l p) (xs : List Int) (hx : 0 < (xs.length : Int)) : Ret' (spec_l1Int.f k l p h xs) fun t => Pos l t.2.1 ∧ t.1 ∈ xs := by
  unfold spec_l1Int.f
  refine (spec_l1Below_t k h hp _ hx).bind fun t ⟨q, b0, b1⟩ => ?_
  rw [decide_eq_true b0, cond_true, decide_eq_true b1, cond_true]
  refine .some ⟨q, ?_⟩
  obtain ⟨n, hn⟩ := Int.eq_ofNat_of_zero_le b0
  have hlt : n < xs.length := by omega
  simp only [rd_i64, hn]
  show xs.getD n z_i64 ∈ xs
  rw [List.getD_eq_getElem?_getD, List.getElem?_eq_getElem hlt]
  exact List.getElem_mem hlt
theorem spec_l9Raw_t (k : Nat) {l : List Int} {p : Int} (h : Int) (hp : Pos l p) : Ret' (spec_l9Raw.f k l p h) fun t => Pos l t.2.1 := by
  unfold spec_l9Raw.f
  exact (spec_l1Int_m k h hp _ (by decide)).bind fun t ⟨q, _⟩ => .some q
theorem spec_l21Any_l (k : Nat) (l : List Int) (a b : Int) : ∀ (n q : Nat) (s : List T_impl_Op), 17 ≤ s.length + n → s.length ≤ 20 → n < q → Ret' (spec_l21Any.l15 k a b l (fun y => some (a, b, y)) q s) fun t => t.1 = a ∧ t.2.2.length ≤ 20 := by
  intro n
  induction n with
  | zero =>
    intro q s h1 h2 hq
    obtain ⟨q, rfl⟩ : ∃ j, q = j + 1 := ⟨q - 1, by omega⟩
    simp only [spec_l21Any.l15, spec_l21Any.L15]
    rw [decide_eq_false (by omega)]
    exact .some ⟨rfl, h2⟩
  | succ n ih =>
    intro q s h1 h2 hq
    obtain ⟨q, rfl⟩ : ∃ j, q = j + 1 := ⟨q - 1, by omega⟩
    simp only [spec_l21Any.l15, spec_l21Any.L15]
    refine .bif (fun c => ?_) fun c => .some ⟨rfl, h2⟩
    have c := of_decide_eq_true c
    rw [decide_eq_true (by unfold cap48; simp; omega), cond_true]
    exact ih q _ (by simp; omega) (by simp; omega) (by omega)
theorem spec_l21Any_t {k : Nat} (hk : Big k) {l : List Int} {p : Int} (h : Int) (hp : Pos l p) : Ret' (spec_l21Any.f k l p h) fun t => Pos l t.1 ∧ t.2.2.length ≤ 20 := by
  have hk' := hk.out
  unfold spec_l21Any.f
  refine (spec_l21Ops_t hk h hp).bind fun t1 ⟨q, hl⟩ => .bif (fun _ => .some ⟨q, hl⟩) fun c => ?_
  have c : ¬ ((t1.2.2.length : Int) = 0) := by simpa using c
  have hset : ∀ (i : Nat) (x : T_impl_Op), (t1.2.2.set i x).length ≤ 20 := fun i x => by simpa using hl
  refine (spec_l1Below_t k _ q _ (by omega)).bind fun t2 ⟨q, b0, b1⟩ => (spec_l1Below_t k _ q 12 (by decide)).bind fun t3 ⟨q, _⟩ => ?_
  simp only [decide_eq_true b0, decide_eq_true b1, cond_true]
  exact .bif (fun _ => (spec_l1Int_m k _ q _ (by decide)).bind fun t q => .some ⟨q.1, hset _ _⟩) fun _ => .bif (fun _ => (spec_l1Int_m k _ q _ (by decide)).bind fun t q => .some ⟨q.1, hset _ _⟩) fun _ =>
    .bif (fun _ => (spec_l9Raw_t k _ q).bind fun t q => .some ⟨q, hset _ _⟩) fun _ => .bif (fun _ => (spec_l1Int_m k _ q _ (by decide)).bind fun t q => .some ⟨q.1, hset _ _⟩) fun _ =>
    .bif (fun _ => (spec_l21Any_l k l _ _ 17 k _ (by omega) hl (by omega)).imp fun t ht => ⟨by rw [ht.1]; exact q, ht.2⟩) fun _ => .some ⟨q, hl⟩
theorem spec_l21Values_t {k : Nat} (hk : Big k) {l : List Int} {p : Int} (h : Int) (hp : Pos l p) : Ret' (spec_l21Values.f k l p h) fun t => Pos l t.1 ∧ t.2.2.length ≤ 20 := by
  have hk' := hk.out
  unfold spec_l21Values.f
  refine (spec_l1Below_t k h hp 6 (by decide)).bind fun t ⟨q, b0, b1⟩ => ?_
  obtain ⟨n, hn⟩ := Int.eq_ofNat_of_zero_le b0
  rw [hn]
  refine loop_down (spec_l21Values.l3 k l fun y4 y5 y6 => some (y4, y5, y6)) 20 (Pos l) _ (fun q n p h s hp hb ih => ?_) (fun q p h s hp hb => ?_) n k _ _ [] (by omega) q (by simp; omega)
  · simp only [spec_l21Values.l3, spec_l21Values.L3, down_gt, cond_true, down1 n (by omega)]
    refine (spec_l1Below_t k h hp 50 (by decide)).bind fun t ⟨q, _⟩ => (spec_l1Int_m k _ q _ (by simp)).bind fun t2 ⟨q, _⟩ => ?_
    rw [decide_eq_true (by unfold cap48; simp; omega), cond_true]
    exact ih _ _ _ q
  · exact .some ⟨hp, hb⟩
theorem spec_l20Draw_t (k : Nat) {l : List Int} {p : Int} (h : Int) (hp : Pos l p) : Ret' (spec_l20Draw.f k l p h) fun t => Pos l t.2.2.2.1 := by
  unfold spec_l20Draw.f
  exact (spec_l1Below_t k h hp 3 (by decide)).bind fun t ⟨q, _⟩ => (spec_l1Below_t k _ q 4 (by decide)).bind fun t ⟨q, _⟩ => (spec_l1Below_t k _ q 4 (by decide)).bind fun t ⟨q, _⟩ => .some q
theorem spec_l20List_t {k : Nat} (hk : Big k) {l : List Int} {p : Int} (h : Int) (hp : Pos l p) : Ret' (spec_l20List.f k l p h) fun t => Pos l t.1 ∧ t.2.2.length ≤ 20 := by
  have hk' := hk.out
  unfold spec_l20List.f
  refine (spec_l1Below_t k h hp 8 (by decide)).bind fun t ⟨q, b0, b1⟩ => ?_
  obtain ⟨n, hn⟩ := Int.eq_ofNat_of_zero_le b0
  rw [hn]
  refine loop_down (spec_l20List.l3 k l fun y4 y5 y6 => some (y4, y5, y6)) 20 (Pos l) _ (fun q n p h s hp hb ih => ?_) (fun q p h s hp hb => ?_) n k _ _ [] (by omega) q (by simp; omega)
  · simp only [spec_l20List.l3, spec_l20List.L3, down_gt, cond_true, down1 n (by omega)]
    refine (spec_l20Draw_t k h hp).bind fun t q => ?_
    rw [decide_eq_true (by unfold cap48; simp; omega), cond_true]
    exact ih _ _ _ q
  · exact .some ⟨hp, hb⟩
theorem spec_DrawRunOps_t {k : Nat} (hk : Big k) {l : List Int} (hl : Ok l) : Ret' (spec_DrawRunOps.f k l) fun t => (1 ≤ t.1 ∧ t.1 ≤ 3) ∧ t.2.1.length ≤ 20 ∧ t.2.2.1.length ≤ 20 ∧ t.2.2.2.length ≤ 20 := by
  unfold spec_DrawRunOps.f
  exact (spec_l1New_t hk hl).bind fun t1 q => (spec_l21Any_t hk _ q).bind fun t2 ⟨q, h2⟩ => (spec_l21Values_t hk _ q).bind fun t3 ⟨q, h3⟩ => (spec_l20List_t hk _ q).bind fun t4 ⟨q, h4⟩ => (spec_l1Below_t k _ q 3 (by decide)).bind fun t5 ⟨q, b0, b1⟩ => .some ⟨by simp only; rw [w64_id (by omega)]; omega, h2, h3, h4⟩
theorem spec_l1Once_t (k : Nat) {l : List Int} {p : Int} (h : Int) (hp : Pos l p) (a : Int) (ha : 0 < a) : Ret' (spec_l1Once.f k l p h a) fun t => Pos l t.2.1 := by
  unfold spec_l1Once.f
  exact (spec_l1Below_t k h hp a ha).bind fun t ⟨q, _⟩ => .some q
theorem spec_l1In_e (k : Nat) (n a b : Int) : spec_l1In.f k n a b = some (inR n a b) := by
  unfold spec_l1In.f inR
  by_cases h : a ≤ n <;> simp [h]
def isOpV (kd a b c : Int) : Bool := inR a 0 5 && (if kd = 1 ∨ kd = 5 then inR b 1 9 && c == 0 else if kd = 2 then inR b 0 999 && c == 0 else if kd = 3 ∨ kd = 4 then inR b 0 5 && inR c 0 5 else false)
theorem spec_l21Ok_e (k : Nat) (kd a b c : Int) : spec_l21Ok.f k kd a b c = some (isOpV kd a b c) := by
  unfold spec_l21Ok.f isOpV
  simp only [spec_l1In_e, Option.bind_some]
  cases inR a 0 5 <;>
  · by_cases h1 : kd = 1
    · subst h1; cases inR b 1 9 <;> simp
    · by_cases h5 : kd = 5
      · subst h5; cases inR b 1 9 <;> simp
      · by_cases h2 : kd = 2
        · subst h2; cases inR b 0 999 <;> simp
        · by_cases h3 : kd = 3
          · subst h3; cases inR b 0 5 <;> simp
          · by_cases h4 : kd = 4
            · subst h4; cases inR b 0 5 <;> simp
            · simp [h1, h2, h3, h4, h5, beqF h1, beqF h2, beqF h3, beqF h4, beqF h5]
def opOk (x : T_impl_Op) : Bool := isOpV x.f0 x.f1 x.f2 x.f3
def areOps (l : List T_impl_Op) : Bool := l.all opOk && decide (l.length ≤ 16)
theorem spec_AreOps_e {k : Nat} (hk : Big k) {l : List T_impl_Op} (hl : Ok l) : spec_AreOps.f k l = some (areOps l) := by
  unfold spec_AreOps.f areOps
  rw [loop_all (spec_AreOps.l2 k l (fun y => some y) (fun _ => some (decide ((l.length : Int) ≤ 16)))) opOk (some (decide ((l.length : Int) ≤ 16))) (some false) l (fun n i x hx => by
    obtain ⟨h1, h2, h3, h4⟩ := at_ hx (by have := hl.out; omega)
    simp only [spec_AreOps.l2, spec_AreOps.L2, rd_impl_Op, h1, h2, h3, h4, spec_l21Ok_e, Option.bind_some, cond_true]
    cases hp : opOk x <;> simp only [opOk] at hp <;> rw [hp] <;> rfl) (fun n => by simp only [spec_AreOps.l2, spec_AreOps.L2, end_, cond_false]) k (hk.lt hl)]
  have : decide ((l.length : Int) ≤ 16) = decide (l.length ≤ 16) := by rw [decide_eq_decide]; omega
  rw [this]
  cases l.all opOk <;> rfl
def zeros : List Int := [0, 0, 0, 0, 0, 0]
theorem spec_l21Zeros_e {k : Nat} (hk : Big k) : spec_l21Zeros.f k = some zeros := by
  have hk' := hk.out
  obtain ⟨q, rfl⟩ : ∃ j, k = j + 7 := ⟨k - 7, by omega⟩
  rfl
def valV (l : List Int) (o : Int) : Int := bif decide (1 ≤ o ∧ o ≤ (l.length : Int)) && inR (rd_i64 l (o - 1)) 0 999 then rd_i64 l (o - 1) else 0
theorem valV_rg (l : List Int) (o : Int) : 0 ≤ valV l o ∧ valV l o ≤ 999 := by
  unfold valV
  cases h : decide (1 ≤ o ∧ o ≤ (l.length : Int)) && inR (rd_i64 l (o - 1)) 0 999 with
  | false => exact ⟨Int.le_refl 0, show (0 : Int) ≤ 999 by decide⟩
  | true => rw [Bool.and_eq_true] at h; exact inR_true.1 h.2
theorem spec_l21Value_e (k : Nat) {l : List Int} (hl : Ok l) {o : Int} (h1 : 1 ≤ o) : spec_l21Value.f k l o = some (valV l o) := by
  have hl' := hl.out
  unfold spec_l21Value.f valV
  by_cases h : o > (l.length : Int)
  · rw [decide_eq_true h, decide_eq_false (show ¬ (1 ≤ o ∧ o ≤ (l.length : Int)) by omega)]; rfl
  · rw [decide_eq_false h, w64_id (by omega), decide_eq_true (show 0 ≤ o - 1 by omega), decide_eq_true (show o - 1 < (l.length : Int) by omega), decide_eq_true (show 1 ≤ o ∧ o ≤ (l.length : Int) by omega), spec_l1In_e, Option.bind_some]
    cases inR (rd_i64 l (o - 1)) 0 999 <;> rfl
def hasI (l : List Int) (o : Int) : Bool := l.any fun y => y == o
theorem spec_l7Has_e {k : Nat} (hk : Big k) {l : List Int} (hl : Ok l) (o : Int) : spec_l7Has.f k l o = some (hasI l o) := by
  unfold spec_l7Has.f hasI
  rw [loop_any (spec_l7Has.l2 k o l (fun y => some y) (fun _ => some false)) (fun y => y == o) (some false) (some true) l (fun n i x hx => by
    obtain ⟨h1, h2, h3, h4⟩ := at_ hx (by have := hl.out; omega)
    simp only [spec_l7Has.l2, spec_l7Has.L2, rd_i64, h1, h2, h3, h4, cond_true]) (fun n => by simp only [spec_l7Has.l2, spec_l7Has.L2, end_, cond_false]) k (hk.lt hl)]
  cases l.any fun y => y == o <;> rfl
theorem spec_l19Bit_l (k : Nat) : ∀ (n q : Nat) (o v i : Int), o - i = n → 0 ≤ i → n < q → 0 ≤ v → v * 2 ^ n ≤ 4611686018427387904 → o ≤ 100 → spec_l19Bit.l3 k o (fun y => some y) q v i = some (v * 2 ^ n) := by
  intro n
  induction n with
  | zero =>
    intro q o v i h h0 hq hv hb ho
    obtain ⟨q, rfl⟩ : ∃ j, q = j + 1 := ⟨q - 1, by omega⟩
    simp only [spec_l19Bit.l3, spec_l19Bit.L3]
    rw [decide_eq_false (by omega), cond_false]
    simp
  | succ n ih =>
    intro q o v i h h0 hq hv hb ho
    obtain ⟨q, rfl⟩ : ∃ j, q = j + 1 := ⟨q - 1, by omega⟩
    have e : v * 2 ^ (n + 1) = (2 * v) * 2 ^ n := by rw [Int.pow_succ]; rw [Int.mul_comm 2 v, Int.mul_assoc, Int.mul_comm 2]
    have hp : (1 : Int) ≤ 2 ^ n := Int.pow_pos (by omega)
    have h2 : 2 * v ≤ (2 * v) * 2 ^ n := by
      have := Int.mul_le_mul_of_nonneg_left hp (show 0 ≤ 2 * v by omega)
      omega
    rw [e] at hb ⊢
    simp only [spec_l19Bit.l3, spec_l19Bit.L3]
    rw [decide_eq_true (by omega), cond_true, w64_id (n := 2 * v) (by omega), w64_id (by omega)]
    exact ih q o (2 * v) (i + 1) (by omega) (by omega) (by omega) (by omega) hb ho
theorem spec_l19Bit_e {k : Nat} (hk : Big k) (o : Int) (h1 : 1 ≤ o) (h9 : o ≤ 9) : spec_l19Bit.f k o = some (2 ^ o.toNat) := by
  have hk' := hk.out
  unfold spec_l19Bit.f
  have hb : (1 : Int) * 2 ^ o.toNat ≤ 4611686018427387904 := by
    have : o = 1 ∨ o = 2 ∨ o = 3 ∨ o = 4 ∨ o = 5 ∨ o = 6 ∨ o = 7 ∨ o = 8 ∨ o = 9 := by omega
    rcases this with rfl | rfl | rfl | rfl | rfl | rfl | rfl | rfl | rfl <;> decide
  rw [spec_l19Bit_l k o.toNat k o 1 0 (by omega) (by omega) (by omega) (by omega) hb (by omega), Int.one_mul]
def isLab (x : Int) : Bool := inR x 0 1022 && x.tmod 2 == 0
def nine : List Int := [1, 2, 3, 4, 5, 6, 7, 8, 9]
def bitO (x o : Int) : Bool := x / 2 ^ o.toNat % 2 == 1
def ownersV (x : Int) : List Int := bif isLab x then nine.filter (bitO x) else []
theorem isLab_bd {x : Int} (h : isLab x = true) : 0 ≤ x ∧ x ≤ 1022 ∧ x % 2 = 0 := by
  unfold isLab at h
  rw [Bool.and_eq_true, inR_true, beq_iff_eq] at h
  rw [Int.tmod_eq_emod_of_nonneg h.1.1] at h
  exact ⟨h.1.1, h.1.2, h.2⟩
theorem isLab_of {x : Int} (h0 : 0 ≤ x) (h1 : x ≤ 1022) (h2 : x % 2 = 0) : isLab x = true := by
  unfold isLab
  rw [Int.tmod_eq_emod_of_nonneg h0, Bool.and_eq_true, inR_true, beq_iff_eq]
  exact ⟨⟨h0, h1⟩, h2⟩
theorem nine_at {i : Nat} {o : Int} (h : nine[i]? = some o) : o = (i : Int) + 1 ∧ i < 9 := by
  have hi : i < 9 := (List.getElem?_eq_some_iff.1 h).1
  refine ⟨?_, hi⟩
  have : i = 0 ∨ i = 1 ∨ i = 2 ∨ i = 3 ∨ i = 4 ∨ i = 5 ∨ i = 6 ∨ i = 7 ∨ i = 8 := by omega
  rcases this with rfl | rfl | rfl | rfl | rfl | rfl | rfl | rfl | rfl <;> simp [nine] at h <;> omega
theorem ownersV_len (x : Int) : (ownersV x).length ≤ 9 := by
  unfold ownersV
  cases isLab x
  · simp
  · exact Nat.le_trans (List.length_filter_le _ _) (by decide)
theorem ownersV_ok (x : Int) : Ok (ownersV x) := Ok.small 9 (ownersV_len x)
theorem foldl_filter {α : Type} (p : α → Bool) (xs : List α) : ∀ s : List α, xs.foldl (fun s x => bif p x then s ++ [x] else s) s = s ++ xs.filter p := by
  induction xs with
  | nil => intro s; simp
  | cons x xs ih => intro s; rw [List.foldl_cons, ih]; cases h : p x <;> simp [h]
theorem pow9 {o : Int} (h1 : 1 ≤ o) (h9 : o ≤ 9) : 2 ≤ (2 : Int) ^ o.toNat ∧ (2 : Int) ^ o.toNat ≤ 512 := by
  have : o = 1 ∨ o = 2 ∨ o = 3 ∨ o = 4 ∨ o = 5 ∨ o = 6 ∨ o = 7 ∨ o = 8 ∨ o = 9 := by omega
  rcases this with rfl | rfl | rfl | rfl | rfl | rfl | rfl | rfl | rfl <;> decide
theorem bit_q {x o : Int} (h : isLab x = true) : 0 ≤ x / 2 ^ o.toNat ∧ x / 2 ^ o.toNat ≤ 1022 := by
  have hb := isLab_bd h
  have hp : (0 : Int) < 2 ^ o.toNat := Int.pow_pos (by omega)
  exact ⟨Int.ediv_nonneg hb.1 (by omega), Int.le_trans (Int.ediv_le_self _ hb.1) hb.2.1⟩
def labelV (l : List Int) : Int := nine.foldl (fun s o => bif hasI l o then s + 2 ^ o.toNat else s) 0
theorem spec_LabelOf_e {k : Nat} (hk : Big k) {l : List Int} (hl : Ok l) : spec_LabelOf.f k l = some (labelV l) := by
  have hk' := hk.out
  unfold spec_LabelOf.f labelV
  exact loop_fold (fun q i s => spec_LabelOf.l3 k l (fun y3 => some y3) q s (i + 1)) (fun s o => bif hasI l o then s + 2 ^ o.toNat else s) (fun i s => 0 ≤ s ∧ s ≤ 512 * (i : Int)) (fun s => some s) nine (fun n i o s hx hi => by
    obtain ⟨rfl, h9⟩ := nine_at hx
    have hp := pow9 (o := (i : Int) + 1) (by omega) (by omega)
    simp only [spec_LabelOf.l3, spec_LabelOf.L3, spec_l7Has_e hk hl, Option.bind_some, spec_l19Bit_e hk _ (show 1 ≤ (i : Int) + 1 by omega) (by omega)]
    rw [decide_eq_true (show (i : Int) + 1 ≤ 9 by omega), cond_true, w64_id (n := s + _) (by omega), w64_id (by omega)]
    cases hasI l ((i : Int) + 1) <;> rfl) (fun i o s hx hi => by
    obtain ⟨rfl, h9⟩ := nine_at hx
    have hp := pow9 (o := (i : Int) + 1) (by omega) (by omega)
    cases hasI l ((i : Int) + 1)
    · show 0 ≤ s ∧ s ≤ 512 * ((i + 1 : Nat) : Int); omega
    · show 0 ≤ s + 2 ^ ((i : Int) + 1).toNat ∧ s + 2 ^ ((i : Int) + 1).toNat ≤ 512 * ((i + 1 : Nat) : Int); omega) (fun n s hs => by
    simp only [spec_LabelOf.l3, spec_LabelOf.L3]
    rfl) k 0 (by show 9 < k; omega) (by simp)
theorem spec_IsLabel_e (k : Nat) (x : Int) : spec_IsLabel.f k x = some (isLab x) := by
  unfold spec_IsLabel.f isLab
  rw [spec_l1In_e, Option.bind_some]
  cases inR x 0 1022 <;> rfl
theorem spec_OwnersIn_e {k : Nat} (hk : Big k) (x : Int) : spec_OwnersIn.f k x = some (ownersV x) := by
  have hk' := hk.out
  unfold spec_OwnersIn.f ownersV
  cases h : isLab x with
  | false =>
    obtain ⟨q, hq⟩ : ∃ j, k = j + 1 := ⟨k - 1, by omega⟩
    rw [show ∀ y, spec_OwnersIn.l3 k x (fun y3 => some y3) k 1 y = spec_OwnersIn.l3 k x (fun y3 => some y3) (q + 1) 1 y from fun y => by rw [← hq]]
    simp only [spec_OwnersIn.l3, spec_OwnersIn.L3, spec_IsLabel_e, h, Option.bind_some, cond_false]
    rfl
  | true =>
    have := loop_fold (fun q i s => spec_OwnersIn.l3 k x (fun y3 => some y3) q (i + 1) s) (fun s o => bif bitO x o then s ++ [o] else s) (fun i s => s.length ≤ i) (fun s => some s) nine (fun n i o s hx hi => by
      obtain ⟨rfl, h9⟩ := nine_at hx
      have hp := pow9 (o := (i : Int) + 1) (by omega) (by omega)
      have hq := bit_q (o := (i : Int) + 1) h
      have hd : Int.tdiv x (2 ^ ((i : Int) + 1).toNat) = x / 2 ^ ((i : Int) + 1).toNat := Int.tdiv_eq_ediv_of_nonneg (isLab_bd h).1
      simp only [spec_OwnersIn.l3, spec_OwnersIn.L3, spec_IsLabel_e, h, Option.bind_some, cond_true, spec_l19Bit_e hk _ (show 1 ≤ (i : Int) + 1 by omega) (by omega), hd]
      rw [decide_eq_true (show (i : Int) + 1 ≤ 9 by omega), cond_true, decide_eq_false (by omega), cond_false, w64_id (n := x / _) (by omega), w64_id (by omega), Int.tmod_eq_emod_of_nonneg hq.1, decide_eq_true (by unfold cap48; simp; omega), cond_true]
      unfold bitO
      cases (x / 2 ^ ((i : Int) + 1).toNat % 2 == 1) <;> rfl) (fun i o s hx hi => by
      cases bitO x o
      · show s.length ≤ i + 1; omega
      · show (s ++ [o]).length ≤ i + 1; simp; omega) (fun n s hs => by
      simp only [spec_OwnersIn.l3, spec_OwnersIn.L3]
      rfl) k [] (by show 9 < k; omega) (Nat.le_refl 0)
    rw [foldl_filter] at this
    exact this
theorem i64_and1 {n : Int} (h0 : 0 ≤ n) (h1 : n ≤ 1022) : bitop .and .i64 n 1 = n % 2 := by
  obtain ⟨m, rfl⟩ := Int.eq_ofNat_of_zero_le h0
  have h127 : (BitVec.ofInt 64 1).toNat = 2 ^ 1 - 1 := by decide
  have key : (BitVec.ofInt 64 (m : Int) &&& BitVec.ofInt 64 1).toNat = ((m : Int) % ((2 ^ 64 : Nat) : Int)).toNat % 2 ^ 1 := by
    rw [BitVec.toNat_and, BitVec.toNat_ofInt, h127, Nat.and_two_pow_sub_one_eq_mod]
  show IntKind.i64.wrap ((BitVec.ofInt 64 (m : Int) &&& BitVec.ofInt 64 1).toNat : Nat) = (m : Int) % 2
  rw [key, show ∀ m : Int, IntKind.i64.wrap m = w64 m from fun _ => rfl, w64_id (by omega)]
  omega
theorem i64_or {a b : Nat} (ha : a < 1024) (hb : b < 1024) : bitop .or .i64 (a : Int) (b : Int) = ((a ||| b : Nat) : Int) := by
  have key : (BitVec.ofInt 64 (a : Int) ||| BitVec.ofInt 64 (b : Int)).toNat = a ||| b := by
    rw [BitVec.toNat_or, BitVec.toNat_ofInt, BitVec.toNat_ofInt]
    congr 1 <;> omega
  have hlt : a ||| b < 2 ^ 10 := Nat.or_lt_two_pow (by omega) (by omega)
  show IntKind.i64.wrap ((BitVec.ofInt 64 (a : Int) ||| BitVec.ofInt 64 (b : Int)).toNat : Nat) = _
  rw [key, show ∀ m : Int, IntKind.i64.wrap m = w64 m from fun _ => rfl, w64_id (by omega)]
theorem or_step (a b : Nat) : a ||| b = 2 * (a / 2 ||| b / 2) + (bif (a % 2 == 1) || (b % 2 == 1) then 1 else 0) := by
  have h1 : (a ||| b) / 2 = a / 2 ||| b / 2 := Nat.or_div_two
  have h2 : (a ||| b) % 2 = bif (a % 2 == 1) || (b % 2 == 1) then 1 else 0 := by
    have ha : a % 2 = 0 ∨ a % 2 = 1 := by omega
    have hb : b % 2 = 0 ∨ b % 2 = 1 := by omega
    have h3 := Nat.or_mod_two_pow (a := a) (b := b) (n := 1)
    simp only [Nat.pow_one] at h3
    rw [h3]
    rcases ha with h | h <;> rcases hb with g | g <;> rw [h, g] <;> rfl
  rw [← h1, ← h2]
  omega
def bitN (a n : Nat) : Bool := a / 2 ^ n % 2 == 1
theorem or_bits {a b : Nat} (ha : a < 1024) (hb : b < 1024) (a0 : a % 2 = 0) (b0 : b % 2 = 0) : a ||| b = (bif bitN a 1 || bitN b 1 then 2 else 0) + (bif bitN a 2 || bitN b 2 then 4 else 0) + (bif bitN a 3 || bitN b 3 then 8 else 0) + (bif bitN a 4 || bitN b 4 then 16 else 0) + (bif bitN a 5 || bitN b 5 then 32 else 0) + (bif bitN a 6 || bitN b 6 then 64 else 0) + (bif bitN a 7 || bitN b 7 then 128 else 0) + (bif bitN a 8 || bitN b 8 then 256 else 0) + (bif bitN a 9 || bitN b 9 then 512 else 0) := by
  have hz : (a / 2 / 2 / 2 / 2 / 2 / 2 / 2 / 2 / 2 / 2 ||| b / 2 / 2 / 2 / 2 / 2 / 2 / 2 / 2 / 2 / 2) = 0 := by
    rw [show a / 2 / 2 / 2 / 2 / 2 / 2 / 2 / 2 / 2 / 2 = 0 by omega, show b / 2 / 2 / 2 / 2 / 2 / 2 / 2 / 2 / 2 / 2 = 0 by omega]; rfl
  rw [or_step a b, or_step (a / 2), or_step (a / 2 / 2), or_step (a / 2 / 2 / 2), or_step (a / 2 / 2 / 2 / 2), or_step (a / 2 / 2 / 2 / 2 / 2), or_step (a / 2 / 2 / 2 / 2 / 2 / 2), or_step (a / 2 / 2 / 2 / 2 / 2 / 2 / 2), or_step (a / 2 / 2 / 2 / 2 / 2 / 2 / 2 / 2), or_step (a / 2 / 2 / 2 / 2 / 2 / 2 / 2 / 2 / 2), hz]
  simp only [a0, b0, Nat.div_div_eq_div_mul, bitN]
  simp only [show (2 * 2 * 2 * 2 * 2 * 2 * 2 * 2 * 2 : Nat) = 2 ^ 9 from rfl, show (2 * 2 * 2 * 2 * 2 * 2 * 2 * 2 : Nat) = 2 ^ 8 from rfl, show (2 * 2 * 2 * 2 * 2 * 2 * 2 : Nat) = 2 ^ 7 from rfl, show (2 * 2 * 2 * 2 * 2 * 2 : Nat) = 2 ^ 6 from rfl, show (2 * 2 * 2 * 2 * 2 : Nat) = 2 ^ 5 from rfl, show (2 * 2 * 2 * 2 : Nat) = 2 ^ 4 from rfl, show (2 * 2 * 2 : Nat) = 2 ^ 3 from rfl, show (2 * 2 : Nat) = 2 ^ 2 from rfl, show (a / 2 : Nat) = a / 2 ^ 1 from rfl, show (b / 2 : Nat) = b / 2 ^ 1 from rfl]
  generalize (a / 2 ^ 1 % 2 == 1 || b / 2 ^ 1 % 2 == 1) = c1, (a / 2 ^ 2 % 2 == 1 || b / 2 ^ 2 % 2 == 1) = c2, (a / 2 ^ 3 % 2 == 1 || b / 2 ^ 3 % 2 == 1) = c3, (a / 2 ^ 4 % 2 == 1 || b / 2 ^ 4 % 2 == 1) = c4, (a / 2 ^ 5 % 2 == 1 || b / 2 ^ 5 % 2 == 1) = c5, (a / 2 ^ 6 % 2 == 1 || b / 2 ^ 6 % 2 == 1) = c6, (a / 2 ^ 7 % 2 == 1 || b / 2 ^ 7 % 2 == 1) = c7, (a / 2 ^ 8 % 2 == 1 || b / 2 ^ 8 % 2 == 1) = c8, (a / 2 ^ 9 % 2 == 1 || b / 2 ^ 9 % 2 == 1) = c9
  clear hz ha hb a0 b0
  revert c1 c2 c3 c4 c5 c6 c7 c8 c9
  decide
theorem bitO_nat (a n : Nat) : bitO (a : Int) ((n : Nat) : Int) = bitN a n := by
  unfold bitO bitN
  rw [Int.toNat_natCast, Bool.eq_iff_iff, beq_iff_eq, beq_iff_eq]
  have : ((a : Int) / 2 ^ n % 2) = ((a / 2 ^ n % 2 : Nat) : Int) := by norm_cast
  rw [this]
  omega
theorem hasI_owners {x : Int} (h : isLab x = true) (o : Int) (ho : o ∈ nine) : hasI (ownersV x) o = bitO x o := by
  unfold hasI ownersV
  rw [h, cond_true, Bool.eq_iff_iff, List.any_eq_true]
  constructor
  · rintro ⟨y, hy, e⟩
    obtain rfl := eq_of_beq e
    exact (List.mem_filter.1 hy).2
  · intro hb
    exact ⟨o, List.mem_filter.2 ⟨ho, hb⟩, beq_self_eq_true o⟩
theorem hasI_append (l m : List Int) (o : Int) : hasI (l ++ m) o = (hasI l o || hasI m o) := by simp [hasI]
def orL (x y : Int) : Int := bitop .or .i64 x y
theorem label_join {x y : Int} (hx : isLab x = true) (hy : isLab y = true) : labelV (ownersV x ++ ownersV y) = orL x y := by
  obtain ⟨x0, x1, x2⟩ := isLab_bd hx
  obtain ⟨y0, y1, y2⟩ := isLab_bd hy
  obtain ⟨a, rfl⟩ := Int.eq_ofNat_of_zero_le x0
  obtain ⟨b, rfl⟩ := Int.eq_ofNat_of_zero_le y0
  unfold orL
  rw [i64_or (by omega) (by omega), or_bits (by omega) (by omega) (by omega) (by omega)]
  unfold labelV
  have H : ∀ n : Nat, (n : Int) ∈ nine → hasI (ownersV (a : Int) ++ ownersV (b : Int)) ((n : Nat) : Int) = (bitN a n || bitN b n) := fun n hn => by rw [hasI_append, hasI_owners hx _ hn, hasI_owners hy _ hn, bitO_nat, bitO_nat]
  have h1 := H 1 (by decide)
  have h2 := H 2 (by decide)
  have h3 := H 3 (by decide)
  have h4 := H 4 (by decide)
  have h5 := H 5 (by decide)
  have h6 := H 6 (by decide)
  have h7 := H 7 (by decide)
  have h8 := H 8 (by decide)
  have h9 := H 9 (by decide)
  generalize ownersV (a : Int) ++ ownersV (b : Int) = L at *
  clear H
  simp only [Int.ofNat_eq_natCast, Int.cast_ofNat_Int] at h1 h2 h3 h4 h5 h6 h7 h8 h9
  simp only [nine, List.foldl_cons, List.foldl_nil]
  rw [show hasI L 1 = _ from h1, show hasI L 2 = _ from h2, show hasI L 3 = _ from h3, show hasI L 4 = _ from h4, show hasI L 5 = _ from h5, show hasI L 6 = _ from h6, show hasI L 7 = _ from h7, show hasI L 8 = _ from h8, show hasI L 9 = _ from h9]
  generalize (bitN a 1 || bitN b 1) = c1, (bitN a 2 || bitN b 2) = c2, (bitN a 3 || bitN b 3) = c3, (bitN a 4 || bitN b 4) = c4, (bitN a 5 || bitN b 5) = c5, (bitN a 6 || bitN b 6) = c6, (bitN a 7 || bitN b 7) = c7, (bitN a 8 || bitN b 8) = c8, (bitN a 9 || bitN b 9) = c9
  clear h1 h2 h3 h4 h5 h6 h7 h8 h9 hx hy x0 x1 x2 y0 y1 y2
  revert c1 c2 c3 c4 c5 c6 c7 c8 c9
  decide
theorem or_lab {x y : Int} (hx : isLab x = true) (hy : isLab y = true) : isLab (orL x y) = true := by
  obtain ⟨x0, x1, x2⟩ := isLab_bd hx
  obtain ⟨y0, y1, y2⟩ := isLab_bd hy
  obtain ⟨a, rfl⟩ := Int.eq_ofNat_of_zero_le x0
  obtain ⟨b, rfl⟩ := Int.eq_ofNat_of_zero_le y0
  unfold orL
  rw [i64_or (by omega) (by omega)]
  have h1 : a ||| b < 2 ^ 10 := Nat.or_lt_two_pow (by omega) (by omega)
  have h2 := or_step a b
  have h3 : (bif (a % 2 == 1) || (b % 2 == 1) then 1 else 0 : Nat) = 0 := by rw [show a % 2 = 0 by omega, show b % 2 = 0 by omega]; rfl
  rw [h3] at h2
  exact isLab_of (by omega) (by omega) (by omega)
theorem orL_assoc {x y z : Int} (hx : isLab x = true) (hy : isLab y = true) (hz : isLab z = true) : orL x (orL y z) = orL (orL x y) z := by
  have h1 := or_lab hx hy
  have h2 := or_lab hy hz
  obtain ⟨x0, x1, x2⟩ := isLab_bd hx
  obtain ⟨y0, y1, y2⟩ := isLab_bd hy
  obtain ⟨z0, z1, z2⟩ := isLab_bd hz
  obtain ⟨a, rfl⟩ := Int.eq_ofNat_of_zero_le x0
  obtain ⟨b, rfl⟩ := Int.eq_ofNat_of_zero_le y0
  obtain ⟨c, rfl⟩ := Int.eq_ofNat_of_zero_le z0
  unfold orL
  have g1 : a ||| b < 2 ^ 10 := Nat.or_lt_two_pow (by omega) (by omega)
  have g2 : b ||| c < 2 ^ 10 := Nat.or_lt_two_pow (by omega) (by omega)
  rw [i64_or (a := b) (by omega) (by omega), i64_or (a := a) (b := b) (by omega) (by omega), i64_or (by omega) (by omega), i64_or (by omega) (by omega), Nat.or_assoc]
theorem label_one {o : Int} (h1 : 1 ≤ o) (h9 : o ≤ 9) : labelV [o] = 2 ^ o.toNat ∧ isLab (2 ^ o.toNat) = true := by
  have : o = 1 ∨ o = 2 ∨ o = 3 ∨ o = 4 ∨ o = 5 ∨ o = 6 ∨ o = 7 ∨ o = 8 ∨ o = 9 := by omega
  rcases this with rfl | rfl | rfl | rfl | rfl | rfl | rfl | rfl | rfl <;> exact ⟨by decide, by decide⟩
theorem spec_JoinLabels_e {k : Nat} (hk : Big k) {x y : Int} (hx : isLab x = true) (hy : isLab y = true) : spec_JoinLabels.f k x y = some (orL x y) := by
  unfold spec_JoinLabels.f
  have h1 := ownersV_len x
  have h2 := ownersV_len y
  simp only [spec_IsLabel_e, hx, hy, spec_OwnersIn_e hk, Option.bind_some, Bool.not_true, cond_false]
  rw [decide_eq_true (by unfold cap48; omega), cond_true, spec_LabelOf_e hk (Ok.small 18 (by simp; omega)), Option.bind_some, label_join hx hy]
abbrev PSt := List T_impl_Sent × List Int × List Int
def stp (vals : List Int) (o : T_impl_Op) (v b : List Int) : List Int × List Int :=
  bif o.f0 == 1 then (v.set o.f1.toNat (valV vals o.f2), b.set o.f1.toNat (2 ^ o.f2.toNat))
  else bif o.f0 == 2 then (v.set o.f1.toNat o.f2, b.set o.f1.toNat 0)
  else bif o.f0 == 3 then (v.set o.f1.toNat ((rd_i64 v o.f2 + rd_i64 v o.f3).tmod 1000), b.set o.f1.toNat (orL (rd_i64 b o.f2) (rd_i64 b o.f3)))
  else bif o.f0 == 4 then ((bif (rd_i64 v o.f2).tmod 2 == 0 then v.set o.f1.toNat (rd_i64 v o.f3) else v), b.set o.f1.toNat (orL (orL (rd_i64 b o.f1) (rd_i64 b o.f2)) (rd_i64 b o.f3)))
  else (v, b)
def snt (o : T_impl_Op) (v b : List Int) : List T_impl_Sent := bif o.f0 == 5 then [⟨o.f2, rd_i64 v o.f1, rd_i64 b o.f1⟩] else []
def runF (vals : List Int) (s : PSt) (o : T_impl_Op) : PSt := (s.1 ++ snt o s.2.1 s.2.2, stp vals o s.2.1 s.2.2)
def runV (vals : List Int) (l : List T_impl_Op) : PSt := l.foldl (runF vals) ([], zeros, zeros)
structure Regs (v b : List Int) : Prop where
  vl : v.length = 6
  bl : b.length = 6
  vr : ∀ x ∈ v, 0 ≤ x ∧ x ≤ 999
  br : ∀ x ∈ b, isLab x = true
theorem Regs.zero : Regs zeros zeros := ⟨rfl, rfl, by decide, by decide⟩
theorem rd_mem {l : List Int} {i : Int} (h : 0 ≤ i ∧ i < (l.length : Int)) : rd_i64 l i ∈ l := by
  obtain ⟨n, rfl⟩ := Int.eq_ofNat_of_zero_le h.1
  have hlt : n < l.length := by omega
  show l.getD n z_i64 ∈ l
  rw [List.getD_eq_getElem?_getD, List.getElem?_eq_getElem hlt]
  exact List.getElem_mem hlt
theorem Regs.val {v b : List Int} (h : Regs v b) {i : Int} (hi : inR i 0 5 = true) : 0 ≤ rd_i64 v i ∧ rd_i64 v i ≤ 999 := by
  have := inR_true.1 hi
  have h6 := h.vl
  exact h.vr _ (rd_mem (by omega))
theorem Regs.lab {v b : List Int} (h : Regs v b) {i : Int} (hi : inR i 0 5 = true) : isLab (rd_i64 b i) = true := by
  have := inR_true.1 hi
  have h6 := h.bl
  exact h.br _ (rd_mem (by omega))
theorem mem_set_or {α : Type} {l : List α} {n : Nat} {x y : α} (h : y ∈ l.set n x) : y ∈ l ∨ y = x := List.mem_or_eq_of_mem_set h
theorem Regs.set {v b : List Int} (h : Regs v b) (n m : Nat) {x y : Int} (hx : 0 ≤ x ∧ x ≤ 999) (hy : isLab y = true) : Regs (v.set n x) (b.set m y) :=
  ⟨by rw [List.length_set, h.vl], by rw [List.length_set, h.bl], fun z hz => (mem_set_or hz).elim (h.vr z) fun e => e ▸ hx, fun z hz => (mem_set_or hz).elim (h.br z) fun e => e ▸ hy⟩
theorem Regs.setb {v b : List Int} (h : Regs v b) (m : Nat) {y : Int} (hy : isLab y = true) : Regs v (b.set m y) :=
  ⟨h.vl, by rw [List.length_set, h.bl], h.vr, fun z hz => (mem_set_or hz).elim (h.br z) fun e => e ▸ hy⟩
/-- What a step is, by its kind. -/
theorem op_cases {o : T_impl_Op} (h : opOk o = true) : inR o.f1 0 5 = true ∧ ((o.f0 = 1 ∧ inR o.f2 1 9 = true) ∨ (o.f0 = 2 ∧ inR o.f2 0 999 = true) ∨ (o.f0 = 3 ∧ inR o.f2 0 5 = true ∧ inR o.f3 0 5 = true) ∨ (o.f0 = 4 ∧ inR o.f2 0 5 = true ∧ inR o.f3 0 5 = true) ∨ (o.f0 = 5 ∧ inR o.f2 1 9 = true)) := by
  unfold opOk isOpV at h
  rw [Bool.and_eq_true] at h
  refine ⟨h.1, ?_⟩
  have h2 := h.2
  split at h2
  · rename_i h3
    rw [Bool.and_eq_true] at h2
    rcases h3 with h3 | h3
    · exact .inl ⟨h3, h2.1⟩
    · exact .inr (.inr (.inr (.inr ⟨h3, h2.1⟩)))
  · split at h2
    · rename_i h3
      rw [Bool.and_eq_true] at h2
      exact .inr (.inl ⟨h3, h2.1⟩)
    · split at h2
      · rename_i h3
        rw [Bool.and_eq_true] at h2
        rcases h3 with h3 | h3
        · exact .inr (.inr (.inl ⟨h3, h2.1, h2.2⟩))
        · exact .inr (.inr (.inr (.inl ⟨h3, h2.1, h2.2⟩)))
      · cases h2
theorem add_mod {x y : Int} (hx : 0 ≤ x ∧ x ≤ 999) (hy : 0 ≤ y ∧ y ≤ 999) : w64 (x + y) = x + y ∧ 0 ≤ (x + y).tmod 1000 ∧ (x + y).tmod 1000 ≤ 999 := by
  refine ⟨w64_id (by omega), ?_⟩
  rw [Int.tmod_eq_emod_of_nonneg (by omega)]
  omega
theorem Regs.step {v b : List Int} (h : Regs v b) (vals : List Int) {o : T_impl_Op} (ho : opOk o = true) : Regs (stp vals o v b).1 (stp vals o v b).2 := by
  obtain ⟨hA, hc⟩ := op_cases ho
  unfold stp
  rcases hc with ⟨e, h2⟩ | ⟨e, h2⟩ | ⟨e, h2, h3⟩ | ⟨e, h2, h3⟩ | ⟨e, h2⟩ <;> rw [e]
  · have := inR_true.1 h2
    exact h.set _ _ (valV_rg _ _) (label_one this.1 this.2).2
  · exact h.set _ _ (inR_true.1 h2) rfl
  · exact h.set _ _ (add_mod (h.val h2) (h.val h3)).2 (or_lab (h.lab h2) (h.lab h3))
  · have hl := or_lab (or_lab (h.lab hA) (h.lab h2)) (h.lab h3)
    show Regs (bif (rd_i64 v o.f2).tmod 2 == 0 then v.set o.f1.toNat (rd_i64 v o.f3) else v) _
    cases (rd_i64 v o.f2).tmod 2 == 0
    · exact h.setb _ hl
    · exact h.set _ _ (h.val h3) hl
  · exact h
theorem snt_len (o : T_impl_Op) (v b : List Int) : (snt o v b).length ≤ 1 := by
  unfold snt; cases o.f0 == 5 <;> simp
/-- A step is one of the list's. -/
theorem all_at {α : Type} {p : α → Bool} {l : List α} (h : l.all p = true) {i : Nat} {x : α} (hx : l[i]? = some x) : p x = true := by
  rw [List.all_eq_true] at h
  exact h x (List.mem_of_getElem? hx)
theorem spec_l21Step_e {k : Nat} (hk : Big k) {vals : List Int} (hv : Ok vals) {v b : List Int} (hr : Regs v b) {o : T_impl_Op} (ho : opOk o = true) :
    spec_l21Step.f k o.f0 o.f1 o.f2 o.f3 vals v b = some (bif o.f0 == 5 then (o.f2, rd_i64 v o.f1, rd_i64 b o.f1, true, v, b) else (0, 0, 0, false, (stp vals o v b).1, (stp vals o v b).2)) := by
  obtain ⟨hA, hc⟩ := op_cases ho
  have A1 := inR_true.1 hA
  have v6 := hr.vl
  have b6 := hr.bl
  have gA0 : decide (0 ≤ o.f1) = true := decide_eq_true A1.1
  have gA6 : decide (o.f1 < 6) = true := decide_eq_true (by omega)
  unfold spec_l21Step.f stp
  rcases hc with ⟨e, q2⟩ | ⟨e, q2⟩ | ⟨e, q2, q3⟩ | ⟨e, q2, q3⟩ | ⟨e, q2⟩
  · have B1 := inR_true.1 q2
    simp only [e, beq_self_eq_true, cond_true, spec_l21Value_e k hv B1.1, spec_LabelOf_e hk (Ok.small (l := [o.f2]) 1 (by simp)), (label_one B1.1 B1.2).1, Option.bind_some, v6, b6, gA0, gA6, Int.cast_ofNat_Int]
    rfl
  · simp [e, v6, b6, gA0, gA6]
  · have B1 := inR_true.1 q2
    have C1 := inR_true.1 q3
    have hm := (add_mod (hr.val q2) (hr.val q3)).1
    simp only [e, v6, b6, gA0, gA6, Int.cast_ofNat_Int, decide_eq_true B1.1, decide_eq_true C1.1, decide_eq_true (show o.f2 < 6 by omega), decide_eq_true (show o.f3 < 6 by omega), cond_true, hm, spec_JoinLabels_e hk (hr.lab q2) (hr.lab q3), Option.bind_some]
    rfl
  · have B1 := inR_true.1 q2
    have C1 := inR_true.1 q3
    simp only [e, v6, b6, gA0, gA6, Int.cast_ofNat_Int, decide_eq_true B1.1, decide_eq_true C1.1, decide_eq_true (show o.f2 < 6 by omega), decide_eq_true (show o.f3 < 6 by omega), cond_true, spec_JoinLabels_e hk (hr.lab q2) (hr.lab q3), spec_JoinLabels_e hk (hr.lab hA) (or_lab (hr.lab q2) (hr.lab q3)), Option.bind_some, orL_assoc (hr.lab hA) (hr.lab q2) (hr.lab q3)]
    cases (rd_i64 v o.f2).tmod 2 == 0 <;> rfl
  · simp [e, v6, b6, gA0, gA6]
theorem stp_send {vals : List Int} {o : T_impl_Op} {v b : List Int} (h : (o.f0 == 5) = true) : stp vals o v b = (v, b) := by
  have e := eq_of_beq h
  unfold stp
  rw [e]
  rfl
def hasF (l : List T_impl_Flow) (a b c : Int) : Bool := l.any fun x => (x.f0 == a) && ((x.f1 == b) && (x.f2 == c))
theorem spec_l20Has_e {k : Nat} (hk : Big k) {l : List T_impl_Flow} (hl : Ok l) (a b c : Int) : spec_l20Has.f k l a b c = some (hasF l a b c) := by
  unfold spec_l20Has.f hasF
  rw [loop_any (spec_l20Has.l2 k l a b c (fun y => some y) (fun _ => some false)) (fun x => (x.f0 == a) && ((x.f1 == b) && (x.f2 == c))) (some false) (some true) l (fun n i x hx => by
    obtain ⟨h1, h2, h3, h4⟩ := at_ hx (by have := hl.out; omega)
    simp only [spec_l20Has.l2, spec_l20Has.L2, rd_impl_Flow, h1, h2, h3, h4, cond_true]) (fun n => by simp only [spec_l20Has.l2, spec_l20Has.L2, end_, cond_false]) k (hk.lt hl)]
  cases l.any fun x => (x.f0 == a) && ((x.f1 == b) && (x.f2 == c)) <;> rfl
def isFlowV (a b c : Int) : Bool := inR a 1 5 && (inR b 1 9 && inR c 1 9)
def mayOne (l : List T_impl_Flow) (e t o : Int) : Bool := !(o != t) || (isFlowV e o t && hasF l e o t)
def mayV (l : List T_impl_Flow) (e x t : Int) : Bool := (ownersV x).all (mayOne l e t) && (isLab x && inR t 1 9)
theorem run_len (vals : List Int) : ∀ (l : List T_impl_Op) (s : PSt), (l.foldl (runF vals) s).1.length ≤ s.1.length + l.length
  | [], s => by simp
  | o :: l, s => by
    have h := run_len vals l (runF vals s o)
    have hn := snt_len o s.2.1 s.2.2
    have : (runF vals s o).1.length = s.1.length + (snt o s.2.1 s.2.2).length := by simp [runF]
    rw [List.foldl_cons, List.length_cons]
    omega
theorem areOps_all {l : List T_impl_Op} (h : areOps l = true) : l.all opOk = true ∧ l.length ≤ 16 := by
  unfold areOps at h
  rw [Bool.and_eq_true] at h
  exact ⟨h.1, of_decide_eq_true h.2⟩
theorem sents_len {vals : List Int} {l : List T_impl_Op} (h : areOps l = true) : (runV vals l).1.length ≤ 16 := by
  have := run_len vals l ([], zeros, zeros)
  have h2 := (areOps_all h).2
  unfold runV
  simp only [List.length_nil] at this
  omega
def mayS (fl : List T_impl_Flow) (e : Int) (s : T_impl_Sent) : Bool := mayV fl e s.f2 s.f0
def sentsV (l : List T_impl_Op) (vals : List Int) (fl : List T_impl_Flow) (e : Int) : List T_impl_Sent := bif areOps l then (runV vals l).1.filter (mayS fl e) else []
theorem sentsV_len (l : List T_impl_Op) (vals : List Int) (fl : List T_impl_Flow) (e : Int) : (sentsV l vals fl e).length ≤ 16 := by
  unfold sentsV
  cases h : areOps l with
  | false => simp
  | true => exact Nat.le_trans (List.length_filter_le _ _) (sents_len h)
def addOne (e t : Int) (out : List T_impl_Flow) (o : Int) : List T_impl_Flow := bif (o != t) && !hasF out e o t then out ++ [⟨e, o, t⟩] else out
def addS (e : Int) (out : List T_impl_Flow) (s : T_impl_Sent) : List T_impl_Flow := (ownersV s.f2).foldl (addOne e s.f0) out
def needsV (l : List T_impl_Op) (e : Int) : List T_impl_Flow := bif areOps l then (runV [] l).1.foldl (addS e) [] else []
theorem addOne_len (e t : Int) (out : List T_impl_Flow) (o : Int) : (addOne e t out o).length ≤ out.length + 1 := by
  unfold addOne
  cases (o != t) && !hasF out e o t <;> simp
theorem addO_len (e t : Int) : ∀ (L : List Int) (out : List T_impl_Flow), (L.foldl (addOne e t) out).length ≤ out.length + L.length
  | [], out => by simp
  | o :: L, out => by
    have h1 := addO_len e t L (addOne e t out o)
    have h2 := addOne_len e t out o
    rw [List.foldl_cons, List.length_cons]
    omega
theorem addS_len (e : Int) (out : List T_impl_Flow) (s : T_impl_Sent) : (addS e out s).length ≤ out.length + 9 := by
  have h1 := addO_len e s.f0 (ownersV s.f2) out
  have h2 := ownersV_len s.f2
  unfold addS
  omega
theorem addSs_len (e : Int) : ∀ (S : List T_impl_Sent) (out : List T_impl_Flow), (S.foldl (addS e) out).length ≤ out.length + 9 * S.length
  | [], out => by simp
  | s :: S, out => by
    have h1 := addSs_len e S (addS e out s)
    have h2 := addS_len e out s
    rw [List.foldl_cons, List.length_cons]
    omega
theorem needsV_len (l : List T_impl_Op) (e : Int) : (needsV l e).length ≤ 144 := by
  unfold needsV
  cases h : areOps l with
  | false => simp
  | true =>
    have h1 := addSs_len e (runV [] l).1 []
    have h2 := sents_len (vals := []) h
    simp only [List.length_nil] at h1
    simp only [cond_true]
    omega
theorem needsV_ok (l : List T_impl_Op) (e : Int) : Ok (needsV l e) := Ok.small 144 (needsV_len l e)
theorem spec_NeedsFlows_in {k : Nat} (hk : Big k) (e x5 : Int) (l : List T_impl_Op) (v b : List Int) (t a x : Int) {R : Type} (X : List T_impl_Flow → Option R) {L : List Int} (hL : L.length ≤ 9) {out : List T_impl_Flow} (ho : out.length ≤ 1000) :
    spec_NeedsFlows.l10 k e x5 true l v b t a x L X k 0 out = X (L.foldl (addOne e t) out) := by
  refine loop_fold (fun q i s => spec_NeedsFlows.l10 k e x5 true l v b t a x L X q i s) (addOne e t) (fun i s => s.length ≤ out.length + i) X L (fun n i o s hx hi => ?_) (fun i o s hx hi => ?_) (fun n s hi => ?_) k out (by have := hk.out; omega) (Nat.le_refl _)
  · have hlt := lt_of hx
    obtain ⟨h1, h2, h3, h4⟩ := at_ hx (by omega)
    have hi : s.length ≤ out.length + i := hi
    simp only [spec_NeedsFlows.l10, spec_NeedsFlows.L10, rd_i64, h1, h2, h3, h4, cond_true, spec_l20Has_e hk (Ok.small (l := s) 2000 (by omega)), Option.bind_some, addOne]
    rw [decide_eq_true (by unfold cap48; simp; omega), cond_true]
    cases o != t <;> cases hasF s e o t <;> rfl
  · have := addOne_len e t s o
    show (addOne e t s o).length ≤ out.length + (i + 1)
    have hi : s.length ≤ out.length + i := hi
    omega
  · simp only [spec_NeedsFlows.l10, spec_NeedsFlows.L10, end_, cond_false]
abbrev NSt := List T_impl_Flow × List Int × List Int
def runN (e : Int) (s : NSt) (o : T_impl_Op) : NSt := ((snt o s.2.1 s.2.2).foldl (addS e) s.1, stp [] o s.2.1 s.2.2)
theorem runN_fold (e : Int) : ∀ (l : List T_impl_Op) (s : PSt), l.foldl (runN e) (s.1.foldl (addS e) [], s.2) = ((l.foldl (runF []) s).1.foldl (addS e) [], (l.foldl (runF []) s).2)
  | [], s => rfl
  | o :: l, s => by
    rw [List.foldl_cons, List.foldl_cons, ← runN_fold e l]
    unfold runN runF
    rw [List.foldl_append]
theorem spec_NeedsFlows_e {k : Nat} (hk : Big k) {l : List T_impl_Op} (hl : Ok l) (e : Int) : spec_NeedsFlows.f k l e = some (needsV l e) := by
  have hl' := hl.out
  have hk' := hk.out
  unfold spec_NeedsFlows.f needsV
  simp only [spec_l21Zeros_e hk, Option.bind_some]
  cases h : areOps l with
  | false =>
    obtain ⟨q, hq⟩ : ∃ j, k = j + 1 := ⟨k - 1, by omega⟩
    rw [show ∀ a b, spec_NeedsFlows.l5 k e l (fun y => some y) k 0 [] a b = spec_NeedsFlows.l5 k e l (fun y => some y) (q + 1) 0 [] a b from fun a b => by rw [← hq]]
    simp only [spec_NeedsFlows.l5, spec_NeedsFlows.L5, spec_AreOps_e hk hl, h, Option.bind_some, cond_false]
    cases decide ((0 : Int) < (l.length : Int)) <;> rfl
  | true =>
    obtain ⟨ha, h16⟩ := areOps_all h
    have := loop_fold (fun q i (s : NSt) => spec_NeedsFlows.l5 k e l (fun y => some y) q i s.1 s.2.1 s.2.2) (runN e) (fun i s => s.1.length ≤ 9 * i ∧ Regs s.2.1 s.2.2) (fun s => some s.1) l (fun n i o s hx hi => by
      obtain ⟨s, v, b⟩ := s
      obtain ⟨hs, hr⟩ := hi
      have hlt := lt_of hx
      obtain ⟨h1, h2, h3, h4⟩ := at_ hx (by omega)
      have hs : s.length ≤ 9 * i := hs
      simp only [spec_NeedsFlows.l5, spec_NeedsFlows.L5, rd_impl_Op, h1, h2, h3, h4, cond_true, spec_AreOps_e hk hl, h, spec_l21Step_e hk (Ok.small (l := ([] : List Int)) 0 (by simp)) hr (all_at ha hx), Option.bind_some, runN, snt]
      cases h5 : o.f0 == 5 with
      | false =>
        simp only [cond_false, spec_OwnersIn_e hk, Option.bind_some]
        obtain ⟨q, rfl⟩ : ∃ j, k = j + 1 := ⟨k - 1, by omega⟩
        rw [show ownersV 0 = [] by decide]
        rfl
      | true =>
        rw [stp_send h5]
        simp only [cond_true, spec_OwnersIn_e hk, Option.bind_some]
        rw [spec_NeedsFlows_in hk _ _ _ _ _ _ _ _ _ (ownersV_len _) (by omega)]
        rfl) (fun i o s hx hi => by
      refine ⟨?_, hi.2.step [] (all_at ha hx)⟩
      have h9 := snt_len o s.2.1 s.2.2
      have h8 := addSs_len e (snt o s.2.1 s.2.2) s.1
      have h7 : s.1.length ≤ 9 * i := hi.1
      show ((snt o s.2.1 s.2.2).foldl (addS e) s.1).length ≤ 9 * (i + 1)
      omega) (fun n s hi => by simp only [spec_NeedsFlows.l5, spec_NeedsFlows.L5, end_, cond_false]) k ([], zeros, zeros) (hk.lt hl) ⟨Nat.le_refl 0, Regs.zero⟩
    have h2 := runN_fold e l ([], zeros, zeros)
    rw [show (([] : List T_impl_Sent).foldl (addS e) []) = [] from rfl] at h2
    rw [h2] at this
    exact this
theorem spec_DrawIsTightFor_t {k : Nat} (hk : Big k) {l : List Int} (hl : Ok l) : Ret' (spec_DrawIsTightFor.f k l) fun t => Ok t.2.1 ∧ Ok t.2.2 := by
  unfold spec_DrawIsTightFor.f
  refine (spec_DrawRunOps_t hk hl).bind fun t1 ⟨_, h2, h3, h4⟩ => (spec_l1New_t hk hl).bind fun t2 q => (spec_l1Once_t k _ q 3 (by decide)).bind fun t3 q => .bif (fun _ => ?_) fun _ => .some ⟨Ok.small 20 h2, Ok.small 20 h4⟩
  rw [spec_NeedsFlows_e hk (Ok.small 20 h2)]
  exact .some ⟨Ok.small 20 h2, needsV_ok _ _⟩
theorem impl_InRange_e (k : Nat) (n a b : Int) : impl_InRange.f k n a b = some (inR n a b) := by
  unfold impl_InRange.f inR
  by_cases h : a ≤ n <;> simp [h]
theorem impl_isRegister_e (k : Nat) (n : Int) : impl_isRegister.f k n = some (inR n 0 5) := by
  unfold impl_isRegister.f
  rw [impl_InRange_e, Option.bind_some]
theorem impl_isOp_e (k : Nat) (kd a b c : Int) : impl_isOp.f k kd a b c = some (isOpV kd a b c) := by
  unfold impl_isOp.f isOpV
  simp only [impl_isRegister_e, impl_InRange_e, Option.bind_some]
  cases inR a 0 5 <;>
  · by_cases h1 : kd = 1
    · subst h1; cases inR b 1 9 <;> simp
    · by_cases h5 : kd = 5
      · subst h5; cases inR b 1 9 <;> simp
      · by_cases h2 : kd = 2
        · subst h2; cases inR b 0 999 <;> simp
        · by_cases h3 : kd = 3
          · subst h3; cases inR b 0 5 <;> simp
          · by_cases h4 : kd = 4
            · subst h4; cases inR b 0 5 <;> simp
            · simp [h1, h2, h3, h4, h5, beqF h1, beqF h2, beqF h3, beqF h4, beqF h5]
theorem impl_AreOps_e {k : Nat} (hk : Big k) {l : List T_impl_Op} (hl : Ok l) : impl_AreOps.f k l = some (areOps l) := by
  unfold impl_AreOps.f areOps
  rw [loop_all (impl_AreOps.l4 k (l.length : Int) l (fun y => some y) (fun _ => some true)) opOk (some true) (some false) l (fun n i x hx => by
    obtain ⟨h1, h2, h3, h4⟩ := at_ hx (by have := hl.out; omega)
    simp only [impl_AreOps.l4, impl_AreOps.L4, rd_impl_Op, h1, h2, h3, h4, impl_isOp_e, Option.bind_some, cond_true]
    cases hp : opOk x <;> simp only [opOk] at hp <;> rw [hp] <;> rfl) (fun n => by simp only [impl_AreOps.l4, impl_AreOps.L4, end_, cond_false]) k (hk.lt hl)]
  by_cases h : l.length ≤ 16
  · rw [decide_eq_false (show ¬ ((l.length : Int) > 16) by omega), decide_eq_true h]
    cases l.all opOk <;> rfl
  · rw [decide_eq_true (show (l.length : Int) > 16 by omega), decide_eq_false h]
    simp
theorem impl_valueOf_e (k : Nat) {l : List Int} (hl : Ok l) (o : Int) : impl_valueOf.f k l o = some (valV l o) := by
  have hl' := hl.out
  unfold impl_valueOf.f valV
  by_cases h1 : o < 1
  · rw [decide_eq_true h1, decide_eq_false (show ¬ (1 ≤ o ∧ o ≤ (l.length : Int)) by omega)]; rfl
  by_cases h : o > (l.length : Int)
  · rw [decide_eq_false h1, decide_eq_true h, decide_eq_false (show ¬ (1 ≤ o ∧ o ≤ (l.length : Int)) by omega)]; rfl
  · rw [decide_eq_false h1, decide_eq_false h, w64_id (by omega), decide_eq_true (show 0 ≤ o - 1 by omega), decide_eq_true (show o - 1 < (l.length : Int) by omega), decide_eq_true (show 1 ≤ o ∧ o ≤ (l.length : Int) by omega), impl_InRange_e, Option.bind_some]
    cases inR (rd_i64 l (o - 1)) 0 999 <;> rfl
theorem impl_executed_e {k : Nat} (hk : Big k) {l : List T_impl_Op} (hl : Ok l) {vals : List Int} (hv : Ok vals) (ha : l.all opOk = true) : impl_executed.f k l vals = some ((runV vals l).1, (runV vals l).2.2) := by
  have hl' := hl.out
  unfold impl_executed.f runV
  exact loop_fold (fun q i (s : PSt) => impl_executed.l3 k (l.length : Int) l vals (fun y z => some (y, z)) q i s.1 s.2.1 s.2.2) (runF vals) (fun i s => s.1.length ≤ i ∧ Regs s.2.1 s.2.2) (fun s => some (s.1, s.2.2)) l (fun n i o s hx hi => by
    obtain ⟨s, v, b⟩ := s
    obtain ⟨hs, hr⟩ := hi
    have hlt := lt_of hx
    obtain ⟨h1, h2, h3, h4⟩ := at_ hx (by omega)
    have ho := all_at ha hx
    obtain ⟨hA, hc⟩ := op_cases ho
    have A1 := inR_true.1 hA
    have v6 := hr.vl
    have b6 := hr.bl
    have gA0 : decide (0 ≤ o.f1) = true := decide_eq_true A1.1
    have gA6 : decide (o.f1 < 6) = true := decide_eq_true (by omega)
    simp only [impl_executed.l3, impl_executed.L3, rd_impl_Op, h1, h2, h3, h4, cond_true, runF, stp, snt]
    rcases hc with ⟨e, q2⟩ | ⟨e, q2⟩ | ⟨e, q2, q3⟩ | ⟨e, q2, q3⟩ | ⟨e, q2⟩
    · have B1 := inR_true.1 q2
      have hp := pow9 B1.1 B1.2
      simp only [e, beq_self_eq_true, cond_true, impl_valueOf_e k hv, Option.bind_some, v6, b6, gA0, gA6, Int.cast_ofNat_Int, decide_eq_false (show ¬ o.f2 < 0 by omega), cond_false]
      rw [Nat.min_eq_left (by omega), Int.one_mul, w64_id (by omega)]
      simp
    · simp [e, v6, b6, gA0, gA6]
    · have B1 := inR_true.1 q2
      have C1 := inR_true.1 q3
      have hm := (add_mod (hr.val q2) (hr.val q3)).1
      simp only [e, v6, b6, gA0, gA6, Int.cast_ofNat_Int, decide_eq_true B1.1, decide_eq_true C1.1, decide_eq_true (show o.f2 < 6 by omega), decide_eq_true (show o.f3 < 6 by omega), cond_true, hm, orL]
      simp
    · have B1 := inR_true.1 q2
      have C1 := inR_true.1 q3
      simp only [e, v6, b6, gA0, gA6, Int.cast_ofNat_Int, decide_eq_true B1.1, decide_eq_true C1.1, decide_eq_true (show o.f2 < 6 by omega), decide_eq_true (show o.f3 < 6 by omega), cond_true, orL]
      cases (rd_i64 v o.f2).tmod 2 == 0 <;> simp
    · have hcap : decide ((s.length + 1) * 24 ≤ cap48) = true := decide_eq_true (by unfold cap48; have : s.length ≤ i := hs; omega)
      simp only [e, v6, b6, gA0, gA6, Int.cast_ofNat_Int, cond_true, List.length_cons, List.length_nil, Nat.zero_add, hcap]
      simp) (fun i o s hx hi => by
    obtain ⟨s, v, b⟩ := s
    obtain ⟨hs, hr⟩ := hi
    have hn := snt_len o v b
    refine ⟨?_, hr.step vals (all_at ha hx)⟩
    show (s ++ snt o v b).length ≤ i + 1
    have : s.length ≤ i := hs
    simp; omega) (fun n s hi => by simp only [impl_executed.l3, impl_executed.L3, end_, cond_false]) k ([], zeros, zeros) (hk.lt hl) ⟨Nat.le_refl 0, Regs.zero⟩
theorem impl_IsLabel_e (k : Nat) (x : Int) : impl_IsLabel.f k x = some (isLab x) := by
  unfold impl_IsLabel.f isLab
  rw [impl_InRange_e, Option.bind_some]
  cases inR x 0 1022 <;> rfl
theorem impl_OwnersIn_e {k : Nat} (hk : Big k) (x : Int) : impl_OwnersIn.f k x = some (ownersV x) := by
  have hk' := hk.out
  unfold impl_OwnersIn.f ownersV
  rw [impl_IsLabel_e, Option.bind_some]
  cases h : isLab x with
  | false => rfl
  | true =>
    have := loop_fold (fun q i s => impl_OwnersIn.l5 k x (fun y3 => some y3) q (i + 1) s) (fun s o => bif bitO x o then s ++ [o] else s) (fun i s => s.length ≤ i) (fun s => some s) nine (fun n i o s hx hi => by
      obtain ⟨rfl, h9⟩ := nine_at hx
      have hp := pow9 (o := (i : Int) + 1) (by omega) (by omega)
      have hq := bit_q (o := (i : Int) + 1) h
      have hd : Int.fdiv x (2 ^ ((i : Int) + 1).toNat) = x / 2 ^ ((i : Int) + 1).toNat := Int.fdiv_eq_ediv_of_nonneg _ (by omega)
      simp only [impl_OwnersIn.l5, impl_OwnersIn.L5]
      rw [Nat.min_eq_left (by omega), hd, i64_and1 hq.1 hq.2, decide_eq_true (show (i : Int) + 1 ≤ 9 by omega), cond_true, decide_eq_false (by omega), cond_false, w64_id (by omega), decide_eq_true (by unfold cap48; simp; omega), cond_true]
      unfold bitO
      cases (x / 2 ^ ((i : Int) + 1).toNat % 2 == 1) <;> rfl) (fun i o s hx hi => by
      cases bitO x o
      · show s.length ≤ i + 1; omega
      · show (s ++ [o]).length ≤ i + 1; simp; omega) (fun n s hs => by
      simp only [impl_OwnersIn.l5, impl_OwnersIn.L5]
      rfl) k [] (by show 9 < k; omega) (Nat.le_refl 0)
    rw [foldl_filter] at this
    exact this
theorem impl_IsFlow_e (k : Nat) (a b c : Int) : impl_IsFlow.f k a b c = some (isFlowV a b c) := by
  unfold impl_IsFlow.f isFlowV
  simp only [impl_InRange_e, Option.bind_some]
  cases inR a 1 5 <;> cases inR b 1 9 <;> simp
/-- A loop that gives the place where p holds first. -/
theorem loop_idx {α R : Type} (l : Nat → Int → Option R) (p : α → Bool) (X : R) (c : Int → Option R) (d : R → Bool) (xs : List α) (hX : d X = false) (hc : ∀ i : Nat, ∃ r, c (i : Int) = some r ∧ d r = true)
    (hs : ∀ n (i : Nat) x, xs[i]? = some x → l (n + 1) (i : Int) = bif p x then c (i : Int) else l n ((i + 1 : Nat) : Int)) (he : ∀ n, l (n + 1) (xs.length : Int) = some X) (n : Nat) (hn : xs.length < n) :
    ∃ r, l n 0 = some r ∧ d r = xs.any p := by
  have key : ∀ (suf pre : List α) n, xs = pre ++ suf → suf.length < n → ∃ r, l n (pre.length : Int) = some r ∧ d r = suf.any p := by
    intro suf
    induction suf with
    | nil =>
      intro pre n hx hn
      obtain ⟨n, rfl⟩ : ∃ q, n = q + 1 := ⟨n - 1, by simp at hn; omega⟩
      have e : pre.length = xs.length := by rw [hx]; simp
      rw [e, he n]
      exact ⟨X, rfl, hX⟩
    | cons x suf ih =>
      intro pre n hx hn
      obtain ⟨n, rfl⟩ : ∃ q, n = q + 1 := ⟨n - 1, by simp at hn; omega⟩
      have hg : xs[pre.length]? = some x := by rw [hx]; simp
      rw [hs n pre.length x hg, List.any_cons]
      cases hp : p x with
      | true =>
        obtain ⟨r, h1, h2⟩ := hc pre.length
        exact ⟨r, h1, h2⟩
      | false =>
        have := ih (pre ++ [x]) n (by rw [hx]; simp) (by simp at hn; omega)
        simpa using this
  exact key xs [] n rfl hn
theorem slices_Contains_Flow_e {k : Nat} (hk : Big k) {l : List T_impl_Flow} (hl : Ok l) (a b c : Int) : slices_Contains_Flow.f k l a b c = some (hasF l a b c) := by
  unfold slices_Contains_Flow.f slices_Index_Flow.f hasF
  obtain ⟨r, h1, h2⟩ := loop_idx (slices_Index_Flow.l2 k (l.length : Int) l a b c (fun y => some y) (fun _ => some (-1))) (fun x => (x.f0 == a) && ((x.f1 == b) && (x.f2 == c))) (-1) (fun i => some i) (fun r => decide (r ≥ 0)) l rfl (fun i => ⟨_, rfl, decide_eq_true (by omega)⟩) (fun n i x hx => by
    obtain ⟨h1, h2, h3, h4⟩ := at_ hx (by have := hl.out; omega)
    simp only [slices_Index_Flow.l2, slices_Index_Flow.L2, rd_impl_Flow, h1, h2, h3, h4, cond_true]
    rw [Bool.beq_comm (a := a), Bool.beq_comm (a := b), Bool.beq_comm (a := c)]) (fun n => by simp only [slices_Index_Flow.l2, slices_Index_Flow.L2, end_, cond_false]) k (hk.lt hl)
  rw [h1, Option.bind_some, h2]
theorem impl_MayFlow_e {k : Nat} (hk : Big k) {l : List T_impl_Flow} (hl : Ok l) (e x t : Int) : impl_MayFlow.f k l e x t = some (mayV l e x t) := by
  unfold impl_MayFlow.f mayV
  simp only [impl_IsLabel_e, impl_InRange_e, impl_OwnersIn_e hk, Option.bind_some]
  have hO := ownersV_ok x
  generalize ownersV x = L at hO
  rw [loop_all (impl_MayFlow.l4 k e t (L.length : Int) l L (fun y => some y) (fun _ => some true)) (mayOne l e t) (some true) (some false) L (fun n i o hx => by
    obtain ⟨h1, h2, h3, h4⟩ := at_ hx (by have := hO.out; omega)
    simp only [impl_MayFlow.l4, impl_MayFlow.L4, rd_i64, h1, h2, h3, h4, cond_true, impl_IsFlow_e, slices_Contains_Flow_e hk hl, Option.bind_some, mayOne]
    cases o != t <;> cases isFlowV e o t <;> cases hasF l e o t <;> rfl) (fun n => by
    simp only [impl_MayFlow.l4, impl_MayFlow.L4, end_, cond_false]) k (hk.lt hO)]
  cases L.all (mayOne l e t) <;> cases isLab x <;> cases inR t 1 9 <;> rfl
theorem impl_RunOps_e {k : Nat} (hk : Big k) {l : List T_impl_Op} (hl : Ok l) {vals : List Int} (hv : Ok vals) {fl : List T_impl_Flow} (hf : Ok fl) (e : Int) : impl_RunOps.f k l vals fl e = some (sentsV l vals fl e) := by
  unfold impl_RunOps.f sentsV
  rw [impl_AreOps_e hk hl, Option.bind_some]
  cases h : areOps l with
  | false => rfl
  | true =>
    rw [impl_executed_e hk hl hv (areOps_all h).1]
    have hs := sents_len (vals := vals) h
    simp only [Bool.not_true, cond_false, cond_true, Option.bind_some]
    generalize (runV vals l).1 = S at hs
    have := loop_fold (fun q i s => impl_RunOps.l6 k e (S.length : Int) l vals fl S (fun y => some y) q i s) (fun s x => bif mayS fl e x then s ++ [x] else s) (fun i s => s.length ≤ i) (fun s => some s) S (fun n i x s hx hi => by
      have hlt := lt_of hx
      obtain ⟨h1, h2, h3, h4⟩ := at_ hx (by omega)
      simp only [impl_RunOps.l6, impl_RunOps.L6, rd_impl_Sent, h1, h2, h3, h4, cond_true, impl_MayFlow_e hk hf, Option.bind_some, mayS]
      rw [decide_eq_true (by unfold cap48; simp; omega), cond_true]
      cases mayV fl e x.f2 x.f0 <;> rfl) (fun i x s hx hi => by
      cases mayS fl e x
      · show s.length ≤ i + 1; omega
      · show (s ++ [x]).length ≤ i + 1; simp; omega) (fun n s hi => by simp only [impl_RunOps.l6, impl_RunOps.L6, end_, cond_false]) k [] (by have := hk.out; omega) (Nat.le_refl 0)
    rw [foldl_filter] at this
    exact this
def changeV (l : List Int) (a v : Int) : List Int := bif inR a 1 9 && inR v 0 999 then (nine.map (valV l)).set (a - 1).toNat v else nine.map (valV l)
theorem changeV_len (l : List Int) (a v : Int) : (changeV l a v).length = 9 := by
  unfold changeV
  cases inR a 1 9 && inR v 0 999
  · rfl
  · rw [cond_true, List.length_set]; rfl
theorem nine_get {n : Nat} (h : n < 9) : nine[n]? = some ((n : Int) + 1) := by
  have : n = 0 ∨ n = 1 ∨ n = 2 ∨ n = 3 ∨ n = 4 ∨ n = 5 ∨ n = 6 ∨ n = 7 ∨ n = 8 := by omega
  rcases this with rfl | rfl | rfl | rfl | rfl | rfl | rfl | rfl | rfl <;> rfl
theorem changeV_val (l : List Int) {a v o : Int} (h1 : 1 ≤ o) (h9 : o ≤ 9) (hne : o ≠ a) : valV (changeV l a v) o = valV l o := by
  have hget : rd_i64 (changeV l a v) (o - 1) = valV l o := by
    obtain ⟨n, hn⟩ := Int.eq_ofNat_of_zero_le (show 0 ≤ o - 1 by omega)
    have hn9 : n < 9 := by omega
    rw [hn]
    show (changeV l a v).getD n z_i64 = valV l o
    have hm : (nine.map (valV l))[n]? = some (valV l o) := by rw [List.getElem?_map, nine_get hn9]; simp only [Option.map_some]; congr 2; omega
    unfold changeV
    cases h : inR a 1 9 && inR v 0 999 with
    | false => rw [cond_false, List.getD_eq_getElem?_getD, hm]; rfl
    | true =>
      rw [Bool.and_eq_true] at h
      have := inR_true.1 h.1
      rw [cond_true, List.getD_eq_getElem?_getD, List.getElem?_set_ne (by omega), hm]
      rfl
  have hr := valV_rg l o
  generalize hw : valV l o = w at hget hr
  unfold valV
  rw [hget, changeV_len, decide_eq_true (show 1 ≤ o ∧ o ≤ ((9 : Nat) : Int) by omega), inR_true.2 hr]
  rfl
theorem impl_ChangeValue_e {k : Nat} (hk : Big k) {l : List Int} (hl : Ok l) (a v : Int) : impl_ChangeValue.f k l a v = some (changeV l a v) := by
  have hk' := hk.out
  have key : ∀ X : List Int → Option (List Int), impl_ChangeValue.l3 k a v 9 l X k 0 (List.replicate 9 z_i64) = X (nine.map (valV l)) := fun X => by
    refine loop_map (impl_ChangeValue.l3 k a v 9 l X) (valV l) X nine (fun n i x ys hx hy => ?_) (fun n ys hy => ?_) k _ (by show 9 < k; omega) rfl
    · obtain ⟨rfl, h9⟩ := nine_at hx
      have hy9 : ys.length = 9 := hy
      simp only [impl_ChangeValue.l3, impl_ChangeValue.L3]
      rw [w64_id (by omega), impl_valueOf_e k hl, Option.bind_some, nn_, cond_true, decide_eq_true (show (i : Int) < 9 by omega), cond_true, hy9, decide_eq_true (show (i : Int) < ((9 : Nat) : Int) by omega), cond_true]
      rfl
    · simp only [impl_ChangeValue.l3, impl_ChangeValue.L3]
      rfl
  unfold impl_ChangeValue.f changeV
  rw [show ((List.replicate ((9 : Int)).toNat z_i64).length : Int) = 9 from rfl, show List.replicate ((9 : Int)).toNat z_i64 = List.replicate 9 z_i64 from rfl, key]
  simp only [impl_InRange_e, Option.bind_some]
  cases h1 : inR a 1 9 with
  | false => rfl
  | true =>
    cases h2 : inR v 0 999 with
    | false => rfl
    | true =>
      have := inR_true.1 h1
      rw [w64_id (by omega), show ((nine.map (valV l)).length : Int) = 9 from rfl, decide_eq_true (show 0 ≤ a - 1 by omega), decide_eq_true (show a - 1 < 9 by omega)]
      rfl
theorem slices_Contains_int_e {k : Nat} (hk : Big k) {l : List Int} (hl : Ok l) (a : Int) : slices_Contains_int.f k l a = some (hasI l a) := by
  unfold slices_Contains_int.f slices_Index_int.f hasI
  obtain ⟨r, h1, h2⟩ := loop_idx (slices_Index_int.l2 k a (l.length : Int) l (fun y => some y) (fun _ => some (-1))) (fun y => y == a) (-1) (fun i => some i) (fun r => decide (r ≥ 0)) l rfl (fun i => ⟨_, rfl, decide_eq_true (by omega)⟩) (fun n i x hx => by
    obtain ⟨h1, h2, h3, h4⟩ := at_ hx (by have := hl.out; omega)
    simp only [slices_Index_int.l2, slices_Index_int.L2, rd_i64, h1, h2, h3, h4, cond_true]
    rw [Bool.beq_comm (a := a)]) (fun n => by simp only [slices_Index_int.l2, slices_Index_int.L2, end_, cond_false]) k (hk.lt hl)
  rw [h1, Option.bind_some, h2]
theorem impl_hasOwner_e {k : Nat} (hk : Big k) (x o : Int) : impl_hasOwner.f k x o = some (hasI (ownersV x) o) := by
  unfold impl_hasOwner.f
  rw [impl_OwnersIn_e hk, Option.bind_some, slices_Contains_int_e hk (ownersV_ok x), Option.bind_some]
def sameOne (o : Int) (p : T_impl_Sent × T_impl_Sent) : Bool := (p.1.f0 == p.2.f0) && ((p.1.f2 == p.2.f2) && ((p.1.f1 == p.2.f1) || hasI (ownersV p.1.f2) o))
def sameV (a b : List T_impl_Sent) (o : Int) : Bool := decide (a.length = b.length) && (a.zip b).all (sameOne o)
theorem impl_SameSent_e {k : Nat} (hk : Big k) {l m : List T_impl_Sent} (hl : Ok l) (o : Int) : impl_SameSent.f k l m o = some (sameV l m o) := by
  have hl' := hl.out
  unfold impl_SameSent.f sameV
  by_cases hlen : l.length = m.length
  · rw [show ((l.length : Int) != (m.length : Int)) = false from by simp [hlen], cond_false, decide_eq_true hlen, Bool.true_and]
    have hz : (l.zip m).length = l.length := by simp [hlen]
    rw [loop_all (impl_SameSent.l4 k o (l.length : Int) l m (fun y => some y) (fun _ => some true)) (sameOne o) (some true) (some false) (l.zip m) (fun n i p hp => by
      obtain ⟨hx, hy⟩ := List.getElem?_zip_eq_some.1 hp
      obtain ⟨h1, h2, h3, h4⟩ := at_ hx (by omega)
      obtain ⟨g1, g2, g3, g4⟩ := at_ hy (by omega)
      simp only [impl_SameSent.l4, impl_SameSent.L4, rd_impl_Sent, h1, h2, h3, h4, g1, g4, cond_true, impl_hasOwner_e hk, Option.bind_some, sameOne, bne]
      cases p.1.f0 == p.2.f0 <;> cases p.1.f2 == p.2.f2 <;> cases p.1.f1 == p.2.f1 <;> cases hasI (ownersV p.1.f2) o <;> rfl) (fun n => by rw [hz]; simp only [impl_SameSent.l4, impl_SameSent.L4, end_, cond_false]) k (by rw [hz]; exact hk.lt hl)]
    cases (l.zip m).all (sameOne o) <;> rfl
  · rw [show ((l.length : Int) != (m.length : Int)) = true from by simp; omega, cond_true, decide_eq_false hlen, Bool.false_and]
def depV (l : List T_impl_Op) (fl : List T_impl_Flow) (e o : Int) : Bool := (sentsV l [] fl e).any fun s => hasI (ownersV s.f2) o
theorem impl_Depends_e {k : Nat} (hk : Big k) {l : List T_impl_Op} (hl : Ok l) {fl : List T_impl_Flow} (hf : Ok fl) (e o : Int) : impl_Depends.f k l fl e o = some (depV l fl e o) := by
  unfold impl_Depends.f depV
  rw [impl_RunOps_e hk hl (Ok.small 0 (by simp)) hf, Option.bind_some]
  have h16 := sentsV_len l [] fl e
  generalize sentsV l [] fl e = S at h16
  rw [loop_any (impl_Depends.l2 k o (S.length : Int) l fl S (fun y => some y) (fun _ => some false)) (fun s => hasI (ownersV s.f2) o) (some false) (some true) S (fun n i x hx => by
    obtain ⟨h1, h2, h3, h4⟩ := at_ hx (by omega)
    simp only [impl_Depends.l2, impl_Depends.L2, rd_impl_Sent, h1, h2, h3, h4, cond_true, impl_hasOwner_e hk, Option.bind_some]) (fun n => by simp only [impl_Depends.l2, impl_Depends.L2, end_, cond_false]) k (by have := hk.out; omega)]
  cases S.any fun s => hasI (ownersV s.f2) o <;> rfl
abbrev Asc (l : List Int) : Prop := l.Pairwise (· < ·)
theorem asc_ext : ∀ {l m : List Int}, Asc l → Asc m → (∀ y, y ∈ l ↔ y ∈ m) → l = m
  | [], [], _, _, _ => rfl
  | [], y :: m, _, _, h => by have := (h y).2 (List.mem_cons_self ..); cases this
  | x :: l, [], _, _, h => by have := (h x).1 (List.mem_cons_self ..); cases this
  | x :: l, y :: m, hl, hm, h => by
    obtain ⟨h1, h2⟩ := List.pairwise_cons.1 hl
    obtain ⟨h3, h4⟩ := List.pairwise_cons.1 hm
    have e : x = y := by
      rcases List.mem_cons.1 ((h x).1 (List.mem_cons_self ..)) with e | e
      · exact e
      · rcases List.mem_cons.1 ((h y).2 (List.mem_cons_self ..)) with e' | e'
        · exact e'.symm
        · have := h1 _ e'; have := h3 _ e; omega
    subst e
    rw [asc_ext h2 h4 fun z => ?_]
    constructor
    · intro hz
      rcases List.mem_cons.1 ((h z).1 (List.mem_cons_of_mem _ hz)) with e | e
      · have := h1 _ hz; omega
      · exact e
    · intro hz
      rcases List.mem_cons.1 ((h z).2 (List.mem_cons_of_mem _ hz)) with e | e
      · have := h3 _ hz; omega
      · exact e
def leB (x y : Int) : Bool := decide (x ≤ y)
def ordV (l : List Int) : List Int := Go.Lib.compact (l.mergeSort fun x y => decide (x ≤ y))
theorem compact_up {d : Array Int} (hd : ∀ i j, i ≤ j → j < d.size → d[i]! ≤ d[j]!) : ∀ m, m ≤ d.size → Asc (Go.Lib.compactUpTo d m) ∧ (∀ y ∈ Go.Lib.compactUpTo d m, ∃ j, j < m ∧ d[j]! = y) ∧ ∀ j, j < m → d[j]! ∈ Go.Lib.compactUpTo d m
  | 0, _ => ⟨by unfold Go.Lib.compactUpTo; simp, fun y hy => by unfold Go.Lib.compactUpTo at hy; simp at hy, fun j hj => by omega⟩
  | m + 1, hm => by
    obtain ⟨h1, h2, h3⟩ := compact_up hd m (by omega)
    rw [Go.Lib.compactUpTo_succ]
    cases hk : Go.Lib.keeps d m with
    | true =>
      rw [if_pos rfl]
      refine ⟨?_, fun y hy => ?_, fun j hj => ?_⟩
      · refine List.pairwise_append.2 ⟨h1, List.pairwise_singleton _ _, fun a ha b hb => ?_⟩
        obtain rfl := List.mem_singleton.1 hb
        obtain ⟨j, hj, rfl⟩ := h2 a ha
        unfold Go.Lib.keeps at hk
        rcases of_decide_eq_true hk with h0 | hne
        · omega
        · have q1 := hd j (m - 1) (by omega) (by omega)
          have q2 := hd (m - 1) m (by omega) (by omega)
          omega
      · rcases List.mem_append.1 hy with h | h
        · obtain ⟨j, hj, e⟩ := h2 y h
          exact ⟨j, by omega, e⟩
        · exact ⟨m, by omega, (List.mem_singleton.1 h).symm⟩
      · by_cases e : j = m
        · subst e; exact List.mem_append.2 (.inr (List.mem_singleton.2 rfl))
        · exact List.mem_append.2 (.inl (h3 j (by omega)))
    | false =>
      rw [if_neg (by simp), List.append_nil]
      refine ⟨h1, fun y hy => ?_, fun j hj => ?_⟩
      · obtain ⟨j, hj, e⟩ := h2 y hy
        exact ⟨j, by omega, e⟩
      · by_cases e : j = m
        · subst e
          unfold Go.Lib.keeps at hk
          have hn := of_decide_eq_false hk
          have e2 : d[j]! = d[j - 1]! := by
            by_cases e3 : d[j]! = d[j - 1]!
            · exact e3
            · exact absurd (.inr e3) hn
          have e4 : j ≠ 0 := fun e => hn (.inl e)
          rw [e2]
          exact h3 _ (by omega)
        · exact h3 j (by omega)
theorem ordV_spec (l : List Int) : Asc (ordV l) ∧ ∀ y, y ∈ ordV l ↔ y ∈ l := by
  unfold ordV Go.Lib.compact
  have hs : (l.mergeSort fun x y => decide (x ≤ y)).Pairwise fun a b => decide (a ≤ b) = true := List.pairwise_mergeSort (le := fun x y : Int => decide (x ≤ y)) (fun a b c h1 h2 => by simp at *; omega) (fun a b => by simp; omega) l
  have hm : ∀ y, y ∈ (l.mergeSort fun x y => decide (x ≤ y)) ↔ y ∈ l := fun y => (List.mergeSort_perm l _).mem_iff
  generalize l.mergeSort (fun x y => decide (x ≤ y)) = s at hs hm
  have hd : ∀ i j, i ≤ j → j < s.toArray.size → s.toArray[i]! ≤ s.toArray[j]! := by
    intro i j hij hj
    have hj' : j < s.length := by simpa using hj
    rw [getElem!_pos s.toArray i (by simpa using (show i < s.length by omega)), getElem!_pos s.toArray j hj]
    simp only [List.getElem_toArray]
    by_cases e : i = j
    · subst e; exact Int.le_refl _
    · have := List.pairwise_iff_getElem.1 hs i j (by omega) hj' (by omega)
      simpa using this
  obtain ⟨h1, h2, h3⟩ := compact_up hd s.length (by simp)
  refine ⟨h1, fun y => ?_⟩
  rw [← hm]
  constructor
  · intro hy
    obtain ⟨j, hj, rfl⟩ := h2 y hy
    rw [getElem!_pos s.toArray j (by simpa using hj)]
    simp
  · intro hy
    obtain ⟨j, hj, rfl⟩ := List.mem_iff_getElem.1 hy
    have := h3 j hj
    rw [getElem!_pos s.toArray j (by simpa using hj)] at this
    simpa using this
theorem ordV_len (l : List Int) : (ordV l).length ≤ l.length := by
  unfold ordV
  exact Nat.le_trans (compact_len _) (Nat.le_of_eq (List.length_mergeSort ..))
theorem impl_ordered_e (k : Nat) {l : List Int} (hl : Ok l) : impl_ordered.f k l = some (ordV l) := by
  have hl' := hl.out
  unfold impl_ordered.f slices_Sort_int.f slices_Compact_int.f sortF compactF ordV
  rw [decide_eq_true (by omega)]
  rfl
def leakL (l : List T_impl_Op) (fl : List T_impl_Flow) (e o : Int) : List Int := ((sentsV l [] fl e).filter fun s => hasI (ownersV s.f2) o).map fun s => s.f0
theorem leakL_len (l : List T_impl_Op) (fl : List T_impl_Flow) (e o : Int) : (leakL l fl e o).length ≤ 16 := by
  unfold leakL
  rw [List.length_map]
  exact Nat.le_trans (List.length_filter_le _ _) (sentsV_len l [] fl e)
theorem fold_leak (p : T_impl_Sent → Bool) : ∀ (l : List T_impl_Sent) (s : List Int), l.foldl (fun s x => bif p x then s ++ [x.f0] else s) s = s ++ (l.filter p).map fun s => s.f0
  | [], s => by simp
  | o :: l, s => by
    rw [List.foldl_cons, fold_leak p l]
    cases h : p o <;> simp [h]
theorem impl_LeakTo_e {k : Nat} (hk : Big k) {l : List T_impl_Op} (hl : Ok l) {fl : List T_impl_Flow} (hf : Ok fl) (e o : Int) : impl_LeakTo.f k l fl e o = some (ordV (leakL l fl e o)) := by
  have hlen := leakL_len l fl e o
  unfold impl_LeakTo.f
  unfold leakL at hlen ⊢
  rw [impl_RunOps_e hk hl (Ok.small 0 (by simp)) hf, Option.bind_some]
  have h16 := sentsV_len l [] fl e
  generalize sentsV l [] fl e = S at h16 hlen
  have := loop_fold (fun q i s => impl_LeakTo.l3 k o (S.length : Int) l fl S (fun y => (impl_ordered.f k y).bind fun t4 => some t4) q i s) (fun s x => bif hasI (ownersV x.f2) o then s ++ [x.f0] else s) (fun i s => s.length ≤ i) (fun y => (impl_ordered.f k y).bind fun t4 => some t4) S (fun n i x s hx hi => by
    have hlt := lt_of hx
    obtain ⟨h1, h2, h3, h4⟩ := at_ hx (by omega)
    have hi : s.length ≤ i := hi
    simp only [impl_LeakTo.l3, impl_LeakTo.L3, rd_impl_Sent, h1, h2, h3, h4, cond_true, impl_hasOwner_e hk, Option.bind_some]
    rw [decide_eq_true (by unfold cap48; simp; omega), cond_true]
    cases hasI (ownersV x.f2) o <;> rfl) (fun i x s hx hi => by
    have hi : s.length ≤ i := hi
    cases hasI (ownersV x.f2) o
    · show s.length ≤ i + 1; omega
    · show (s ++ [x.f0]).length ≤ i + 1; simp; omega) (fun n s hi => by simp only [impl_LeakTo.l3, impl_LeakTo.L3, end_, cond_false]) k [] (by have := hk.out; omega) (Nat.le_refl 0)
  rw [fold_leak (fun s => hasI (ownersV s.f2) o), List.nil_append, impl_ordered_e k (Ok.small 16 hlen)] at this
  exact this
theorem impl_LabelOf_one {k : Nat} (hk : Big k) {o : Int} (h1 : 1 ≤ o) (h9 : o ≤ 9) : impl_LabelOf.f k [o] = some (2 ^ o.toNat) := by
  have hk' := hk.out
  unfold impl_LabelOf.f
  obtain ⟨q, hq⟩ : ∃ j, k = j + 2 := ⟨k - 2, by omega⟩
  rw [show impl_LabelOf.l3 k ([o].length : Int) [o] (fun y2 => some y2) k 0 0 = impl_LabelOf.l3 k 1 [o] (fun y2 => some y2) (q + 2) 0 0 by rw [← hq]; rfl]
  simp only [impl_LabelOf.l3, impl_LabelOf.L3, impl_InRange_e, Option.bind_some, show rd_i64 [o] 0 = o from rfl, inR_true.2 (show 1 ≤ o ∧ o ≤ 9 from ⟨h1, h9⟩), decide_eq_false (show ¬ o < 0 by omega)]
  have : o = 1 ∨ o = 2 ∨ o = 3 ∨ o = 4 ∨ o = 5 ∨ o = 6 ∨ o = 7 ∨ o = 8 ∨ o = 9 := by omega
  rcases this with rfl | rfl | rfl | rfl | rfl | rfl | rfl | rfl | rfl <;> rfl
theorem impl_NeedsFlows_in {k : Nat} (hk : Big k) (e x3 x4 : Int) (l : List T_impl_Op) (t v x : Int) (S : List T_impl_Sent) {R : Type} (X : List T_impl_Flow → Option R) {L : List Int} (hL : L.length ≤ 9) {out : List T_impl_Flow} (ho : out.length ≤ 1000) :
    impl_NeedsFlows.l9 k e x3 x4 (L.length : Int) l t v x S L X k 0 out = X (L.foldl (addOne e t) out) := by
  refine loop_fold (fun q i s => impl_NeedsFlows.l9 k e x3 x4 (L.length : Int) l t v x S L X q i s) (addOne e t) (fun i s => s.length ≤ out.length + i) X L (fun n i o s hx hi => ?_) (fun i o s hx hi => ?_) (fun n s hi => ?_) k out (by have := hk.out; omega) (Nat.le_refl _)
  · have hlt := lt_of hx
    obtain ⟨h1, h2, h3, h4⟩ := at_ hx (by omega)
    have hi : s.length ≤ out.length + i := hi
    simp only [impl_NeedsFlows.l9, impl_NeedsFlows.L9, rd_i64, h1, h2, h3, h4, cond_true, slices_Contains_Flow_e hk (Ok.small (l := s) 2000 (by omega)), Option.bind_some, addOne]
    rw [decide_eq_true (by unfold cap48; simp; omega), cond_true]
    cases o != t <;> cases hasF s e o t <;> rfl
  · have := addOne_len e t s o
    show (addOne e t s o).length ≤ out.length + (i + 1)
    have hi : s.length ≤ out.length + i := hi
    omega
  · simp only [impl_NeedsFlows.l9, impl_NeedsFlows.L9, end_, cond_false]
theorem impl_NeedsFlows_e {k : Nat} (hk : Big k) {l : List T_impl_Op} (hl : Ok l) (e : Int) : impl_NeedsFlows.f k l e = some (needsV l e) := by
  unfold impl_NeedsFlows.f needsV
  rw [impl_AreOps_e hk hl, Option.bind_some]
  cases h : areOps l with
  | false => rfl
  | true =>
    rw [impl_executed_e hk hl (Ok.small 0 (by simp)) (areOps_all h).1]
    have hs := sents_len (vals := []) h
    simp only [Bool.not_true, cond_false, cond_true, Option.bind_some]
    generalize (runV [] l).1 = S at hs
    exact loop_fold (fun q i s => impl_NeedsFlows.l6 k e (S.length : Int) l S (fun y => some y) q i s) (addS e) (fun i s => s.length ≤ 9 * i) (fun s => some s) S (fun n i x s hx hi => by
      have hlt := lt_of hx
      obtain ⟨h1, h2, h3, h4⟩ := at_ hx (by omega)
      have hi : s.length ≤ 9 * i := hi
      simp only [impl_NeedsFlows.l6, impl_NeedsFlows.L6, rd_impl_Sent, h1, h2, h3, h4, cond_true, impl_OwnersIn_e hk, Option.bind_some]
      rw [impl_NeedsFlows_in hk _ _ _ _ _ _ _ _ _ (ownersV_len x.f2) (by omega)]
      rfl) (fun i x s hx hi => by
      have := addS_len e s x
      show (addS e s x).length ≤ 9 * (i + 1)
      have hi : s.length ≤ 9 * i := hi
      omega) (fun n s hi => by simp only [impl_NeedsFlows.l6, impl_NeedsFlows.L6, end_, cond_false]) k [] (by have := hk.out; omega) (Nat.le_refl 0)
def withinF (l m : List T_impl_Flow) : Bool := l.all fun x => isFlowV x.f0 x.f1 x.f2 && hasF m x.f0 x.f1 x.f2
theorem impl_FlowsWithin_e {k : Nat} (hk : Big k) {l m : List T_impl_Flow} (hl : Ok l) (hm : Ok m) : impl_FlowsWithin.f k l m = some (withinF l m) := by
  unfold impl_FlowsWithin.f withinF
  rw [loop_all (impl_FlowsWithin.l2 k (l.length : Int) l m (fun y => some y) (fun _ => some true)) (fun x => isFlowV x.f0 x.f1 x.f2 && hasF m x.f0 x.f1 x.f2) (some true) (some false) l (fun n i x hx => by
    obtain ⟨h1, h2, h3, h4⟩ := at_ hx (by have := hl.out; omega)
    simp only [impl_FlowsWithin.l2, impl_FlowsWithin.L2, rd_impl_Flow, h1, h2, h3, h4, cond_true, impl_IsFlow_e, slices_Contains_Flow_e hk hm, Option.bind_some]
    cases isFlowV x.f0 x.f1 x.f2 <;> cases hasF m x.f0 x.f1 x.f2 <;> rfl) (fun n => by simp only [impl_FlowsWithin.l2, impl_FlowsWithin.L2, end_, cond_false]) k (hk.lt hl)]
  cases l.all fun x => isFlowV x.f0 x.f1 x.f2 && hasF m x.f0 x.f1 x.f2 <;> rfl
theorem impl_IsTightFor_e {k : Nat} (hk : Big k) {l : List T_impl_Op} (hl : Ok l) {f : List T_impl_Flow} (hf : Ok f) (e : Int) : impl_IsTightFor.f k l f e = some (areOps l && withinF (needsV l e) f) := by
  unfold impl_IsTightFor.f
  simp only [impl_AreOps_e hk hl, impl_NeedsFlows_e hk hl, impl_FlowsWithin_e hk (needsV_ok l e) hf, Option.bind_some]
  cases areOps l <;> rfl
def keyS (s : T_impl_Sent) : Int × Int := (s.f0, s.f2)
theorem stp_lab (vals vals' : List Int) (o : T_impl_Op) (v v' b : List Int) : (stp vals o v b).2 = (stp vals' o v' b).2 := by
  unfold stp
  cases o.f0 == 1 <;> cases o.f0 == 2 <;> cases o.f0 == 3 <;> cases o.f0 == 4 <;> rfl
theorem snt_key (o : T_impl_Op) (v v' b : List Int) : (snt o v b).map keyS = (snt o v' b).map keyS := by
  unfold snt
  cases o.f0 == 5 <;> rfl
theorem run_key (vals vals' : List Int) : ∀ (l : List T_impl_Op) (s s' : PSt), s.1.map keyS = s'.1.map keyS → s.2.2 = s'.2.2 → (l.foldl (runF vals) s).1.map keyS = (l.foldl (runF vals') s').1.map keyS ∧ (l.foldl (runF vals) s).2.2 = (l.foldl (runF vals') s').2.2
  | [], s, s', h1, h2 => ⟨h1, h2⟩
  | o :: l, s, s', h1, h2 => by
    rw [List.foldl_cons, List.foldl_cons]
    refine run_key vals vals' l _ _ ?_ ?_
    · show (s.1 ++ snt o s.2.1 s.2.2).map keyS = (s'.1 ++ snt o s'.2.1 s'.2.2).map keyS
      rw [List.map_append, List.map_append, h1, h2, snt_key o s.2.1 s'.2.1]
    · show (stp vals o s.2.1 s.2.2).2 = (stp vals' o s'.2.1 s'.2.2).2
      rw [h2]
      exact stp_lab _ _ _ _ _ _
theorem runV_key (vals vals' : List Int) (l : List T_impl_Op) : (runV vals l).1.map keyS = (runV vals' l).1.map keyS := (run_key vals vals' l _ _ rfl rfl).1
theorem runV_labs (vals vals' : List Int) (l : List T_impl_Op) : (runV vals l).2.2 = (runV vals' l).2.2 := (run_key vals vals' l ([], zeros, zeros) ([], zeros, zeros) rfl rfl).2
def sentOk (s : T_impl_Sent) : Prop := (0 ≤ s.f1 ∧ s.f1 ≤ 999) ∧ isLab s.f2 = true ∧ 1 ≤ s.f0 ∧ s.f0 ≤ 9
theorem run_ok (vals : List Int) : ∀ (l : List T_impl_Op) (s : PSt), l.all opOk = true → Regs s.2.1 s.2.2 → (∀ x ∈ s.1, sentOk x) → ∀ x ∈ (l.foldl (runF vals) s).1, sentOk x
  | [], s, _, _, h => h
  | o :: l, s, ha, hr, h => by
    rw [List.all_cons, Bool.and_eq_true] at ha
    obtain ⟨hA, hc⟩ := op_cases ha.1
    rw [List.foldl_cons]
    refine run_ok vals l _ ha.2 (hr.step vals ha.1) fun x hx => ?_
    rcases List.mem_append.1 hx with hx | hx
    · exact h x hx
    · unfold snt at hx
      cases h5 : o.f0 == 5 with
      | false => rw [h5] at hx; cases hx
      | true =>
        rw [h5] at hx
        obtain rfl := List.mem_singleton.1 hx
        have e5 := eq_of_beq h5
        refine ⟨hr.val hA, hr.lab hA, ?_⟩
        rcases hc with ⟨e, _⟩ | ⟨e, _⟩ | ⟨e, _⟩ | ⟨e, _⟩ | ⟨_, h2⟩
        · omega
        · omega
        · omega
        · omega
        · exact inR_true.1 h2
theorem runV_ok {l : List T_impl_Op} (vals : List Int) (h : areOps l = true) : ∀ x ∈ (runV vals l).1, sentOk x := run_ok vals l ([], zeros, zeros) (areOps_all h).1 Regs.zero fun x hx => by cases hx
theorem run_count (vals : List Int) : ∀ (l : List T_impl_Op) (s : PSt), (l.foldl (runF vals) s).1.length = s.1.length + (l.filter fun o => o.f0 == 5).length
  | [], s => by simp
  | o :: l, s => by
    rw [List.foldl_cons, run_count vals l]
    have : (runF vals s o).1.length = s.1.length + (snt o s.2.1 s.2.2).length := by simp [runF]
    rw [this]
    unfold snt
    cases h : o.f0 == 5 <;> simp [h] <;> omega
theorem count_fold (p : T_impl_Op → Bool) : ∀ (l : List T_impl_Op) (s : Int), l.foldl (fun s o => bif p o then s + 1 else s) s = s + ((l.filter p).length : Int)
  | [], s => by simp
  | o :: l, s => by
    rw [List.foldl_cons, count_fold p l]
    cases h : p o <;> simp [h] <;> omega
theorem bitN_test (a n : Nat) : bitN a n = a.testBit n := by
  unfold bitN
  rw [Nat.testBit_eq_decide_div_mod_eq]
  by_cases h : a / 2 ^ n % 2 = 1 <;> simp [h]
theorem bit_or {x y : Int} (hx : isLab x = true) (hy : isLab y = true) {o : Int} (ho : 0 ≤ o) : bitO (orL x y) o = (bitO x o || bitO y o) := by
  obtain ⟨x0, x1, x2⟩ := isLab_bd hx
  obtain ⟨y0, y1, y2⟩ := isLab_bd hy
  obtain ⟨a, rfl⟩ := Int.eq_ofNat_of_zero_le x0
  obtain ⟨b, rfl⟩ := Int.eq_ofNat_of_zero_le y0
  obtain ⟨n, rfl⟩ := Int.eq_ofNat_of_zero_le ho
  unfold orL
  rw [i64_or (by omega) (by omega)]
  show bitO ((a ||| b : Nat) : Int) (n : Int) = (bitO (a : Int) (n : Int) || bitO (b : Int) (n : Int))
  rw [bitO_nat, bitO_nat, bitO_nat, bitN_test, bitN_test, bitN_test, Nat.testBit_or]
theorem bit_own {o : Int} (h1 : 1 ≤ o) (h9 : o ≤ 9) : bitO (2 ^ o.toNat) o = true ∧ ownersV (2 ^ o.toNat) = [o] := by
  have : o = 1 ∨ o = 2 ∨ o = 3 ∨ o = 4 ∨ o = 5 ∨ o = 6 ∨ o = 7 ∨ o = 8 ∨ o = 9 := by omega
  rcases this with rfl | rfl | rfl | rfl | rfl | rfl | rfl | rfl | rfl <;> exact ⟨by decide, by decide⟩
/-- Registers whose label has not the owner are alike. -/
def Alike (o : Int) (v v' b : List Int) : Prop := ∀ r, inR r 0 5 = true → bitO (rd_i64 b r) o = false → rd_i64 v r = rd_i64 v' r
theorem rd_set {l : List Int} {a r : Int} {x : Int} (ha : 0 ≤ a ∧ a < (l.length : Int)) (hr : 0 ≤ r) : rd_i64 (l.set a.toNat x) r = if r = a then x else rd_i64 l r := by
  obtain ⟨n, rfl⟩ := Int.eq_ofNat_of_zero_le ha.1
  obtain ⟨m, rfl⟩ := Int.eq_ofNat_of_zero_le hr
  have hlt : n < l.length := by omega
  show (l.set n x).getD m z_i64 = if (m : Int) = (n : Int) then x else l.getD m z_i64
  rw [List.getD_eq_getElem?_getD, List.getD_eq_getElem?_getD]
  by_cases e : m = n
  · subst e
    rw [List.getElem?_set_self hlt, if_pos rfl]; rfl
  · rw [List.getElem?_set_ne (by omega), if_neg (by omega)]
theorem Alike.step {o : Int} (h1 : 1 ≤ o) (h9 : o ≤ 9) {vals w : Int} {V : List Int} {v v' b : List Int} (hr : Regs v b) (hr' : Regs v' b) (h : Alike o v v' b) {x : T_impl_Op} (hx : opOk x = true) : Alike o (stp V x v b).1 (stp (changeV V o w) x v' b).1 (stp V x v b).2 := by
  obtain ⟨hA, hc⟩ := op_cases hx
  have A1 := inR_true.1 hA
  have v6 := hr.vl
  have b6 := hr.bl
  have v6' := hr'.vl
  have ra : 0 ≤ x.f1 ∧ x.f1 < (v.length : Int) := by omega
  have ra' : 0 ≤ x.f1 ∧ x.f1 < (v'.length : Int) := by omega
  have rb : 0 ≤ x.f1 ∧ x.f1 < (b.length : Int) := by omega
  intro r hr0 hb
  have R1 := inR_true.1 hr0
  have h0 := h r hr0
  unfold stp at hb ⊢
  rcases hc with ⟨e, q2⟩ | ⟨e, q2⟩ | ⟨e, q2, q3⟩ | ⟨e, q2, q3⟩ | ⟨e, q2⟩ <;> rw [e] at hb ⊢
  · have B1 := inR_true.1 q2
    change bitO (rd_i64 (b.set x.f1.toNat (2 ^ x.f2.toNat)) r) o = false at hb
    show rd_i64 (v.set x.f1.toNat (valV V x.f2)) r = rd_i64 (v'.set x.f1.toNat (valV (changeV V o w) x.f2)) r
    rw [rd_set rb R1.1] at hb
    rw [rd_set ra R1.1, rd_set ra' R1.1]
    by_cases er : r = x.f1
    · rw [if_pos er] at hb
      rw [if_pos er, if_pos er]
      have hne : x.f2 ≠ o := by
        intro e2
        rw [e2, (bit_own h1 h9).1] at hb
        cases hb
      exact (changeV_val V B1.1 B1.2 hne).symm
    · rw [if_neg er] at hb
      rw [if_neg er, if_neg er]
      exact h0 hb
  · change bitO (rd_i64 (b.set x.f1.toNat 0) r) o = false at hb
    show rd_i64 (v.set x.f1.toNat x.f2) r = rd_i64 (v'.set x.f1.toNat x.f2) r
    rw [rd_set rb R1.1] at hb
    rw [rd_set ra R1.1, rd_set ra' R1.1]
    by_cases er : r = x.f1
    · rw [if_pos er, if_pos er]
    · rw [if_neg er] at hb
      rw [if_neg er, if_neg er]
      exact h0 hb
  · change bitO (rd_i64 (b.set x.f1.toNat (orL (rd_i64 b x.f2) (rd_i64 b x.f3))) r) o = false at hb
    show rd_i64 (v.set x.f1.toNat ((rd_i64 v x.f2 + rd_i64 v x.f3).tmod 1000)) r = rd_i64 (v'.set x.f1.toNat ((rd_i64 v' x.f2 + rd_i64 v' x.f3).tmod 1000)) r
    rw [rd_set rb R1.1] at hb
    rw [rd_set ra R1.1, rd_set ra' R1.1]
    by_cases er : r = x.f1
    · rw [if_pos er, bit_or (hr.lab q2) (hr.lab q3) (by omega), Bool.or_eq_false_iff] at hb
      rw [if_pos er, if_pos er, h _ q2 hb.1, h _ q3 hb.2]
    · rw [if_neg er] at hb
      rw [if_neg er, if_neg er]
      exact h0 hb
  · change bitO (rd_i64 (b.set x.f1.toNat (orL (orL (rd_i64 b x.f1) (rd_i64 b x.f2)) (rd_i64 b x.f3))) r) o = false at hb
    show rd_i64 (bif (rd_i64 v x.f2).tmod 2 == 0 then v.set x.f1.toNat (rd_i64 v x.f3) else v) r = rd_i64 (bif (rd_i64 v' x.f2).tmod 2 == 0 then v'.set x.f1.toNat (rd_i64 v' x.f3) else v') r
    rw [rd_set rb R1.1] at hb
    by_cases er : r = x.f1
    · rw [if_pos er, bit_or (or_lab (hr.lab hA) (hr.lab q2)) (hr.lab q3) (by omega), bit_or (hr.lab hA) (hr.lab q2) (by omega), Bool.or_eq_false_iff, Bool.or_eq_false_iff] at hb
      rw [h _ q2 hb.1.2]
      cases (rd_i64 v' x.f2).tmod 2 == 0
      · rw [cond_false, cond_false, er]; exact h _ hA hb.1.1
      · rw [cond_true, cond_true, rd_set ra R1.1, rd_set ra' R1.1, if_pos er, if_pos er]; exact h _ q3 hb.2
    · rw [if_neg er] at hb
      have e1 : ∀ (c : Bool) (u : List Int) (y : Int), u.length = 6 → rd_i64 (bif c then u.set x.f1.toNat y else u) r = rd_i64 u r := by
        intro c u y hu
        cases c
        · rfl
        · rw [cond_true, rd_set (by omega) R1.1, if_neg er]
      rw [e1 _ _ _ v6, e1 _ _ _ v6']
      exact h0 hb
  · exact h0 hb
/-- Two sends that differ in their value alone, and only if the label has the owner. -/
def AlikeS (o : Int) (p : T_impl_Sent × T_impl_Sent) : Prop := p.1.f0 = p.2.f0 ∧ p.1.f2 = p.2.f2 ∧ (bitO p.1.f2 o = false → p.1.f1 = p.2.f1)
theorem quiet {o : Int} (h1 : 1 ≤ o) (h9 : o ≤ 9) (w : Int) (V : List Int) : ∀ (l : List T_impl_Op) (s s' : PSt), l.all opOk = true → Regs s.2.1 s.2.2 → Regs s'.2.1 s.2.2 → s.2.2 = s'.2.2 → Alike o s.2.1 s'.2.1 s.2.2 → s.1.length = s'.1.length → (∀ p ∈ s.1.zip s'.1, AlikeS o p) →
    (l.foldl (runF V) s).1.length = (l.foldl (runF (changeV V o w)) s').1.length ∧ ∀ p ∈ (l.foldl (runF V) s).1.zip (l.foldl (runF (changeV V o w)) s').1, AlikeS o p
  | [], s, s', _, _, _, _, _, hl, hp => ⟨hl, hp⟩
  | x :: l, s, s', ha, hr, hr', hb, hA, hl, hp => by
    rw [List.all_cons, Bool.and_eq_true] at ha
    have hA1 := (op_cases ha.1).1
    rw [List.foldl_cons, List.foldl_cons]
    have eLb : (stp V x s.2.1 s.2.2).2 = (stp (changeV V o w) x s'.2.1 s.2.2).2 := stp_lab _ _ _ _ _ _
    have h5 : (snt x s.2.1 s.2.2).length = (snt x s'.2.1 s.2.2).length := by unfold snt; cases x.f0 == 5 <;> rfl
    refine quiet h1 h9 w V l _ _ ha.2 (hr.step V ha.1) ?_ ?_ ?_ ?_ ?_
    · show Regs (stp (changeV V o w) x s'.2.1 s'.2.2).1 (stp V x s.2.1 s.2.2).2
      rw [eLb, ← hb]
      exact hr'.step _ ha.1
    · show (stp V x s.2.1 s.2.2).2 = (stp (changeV V o w) x s'.2.1 s'.2.2).2
      rw [← hb, eLb]
    · show Alike o (stp V x s.2.1 s.2.2).1 (stp (changeV V o w) x s'.2.1 s'.2.2).1 (stp V x s.2.1 s.2.2).2
      rw [← hb]
      exact Alike.step (vals := 0) h1 h9 hr hr' hA ha.1
    · show (s.1 ++ snt x s.2.1 s.2.2).length = (s'.1 ++ snt x s'.2.1 s'.2.2).length
      rw [← hb, List.length_append, List.length_append, hl, h5]
    · intro p hpm
      have hpm : p ∈ (s.1 ++ snt x s.2.1 s.2.2).zip (s'.1 ++ snt x s'.2.1 s'.2.2) := hpm
      rw [← hb, List.zip_append hl] at hpm
      rcases List.mem_append.1 hpm with h | h
      · exact hp p h
      · unfold snt at h
        cases h6 : x.f0 == 5 with
        | false => rw [h6] at h; cases h
        | true =>
          rw [h6] at h
          obtain rfl := List.mem_singleton.1 h
          exact ⟨rfl, rfl, fun hq => hA _ hA1 hq⟩
theorem zip_filter {α : Type} {p : α → Bool} : ∀ {l m : List α}, l.length = m.length → (∀ q ∈ l.zip m, p q.1 = p q.2) → (l.filter p).length = (m.filter p).length ∧ (l.filter p).zip (m.filter p) = (l.zip m).filter fun q => p q.1
  | [], [], _, _ => ⟨rfl, rfl⟩
  | x :: l, y :: m, hl, h => by
    obtain ⟨h1, h2⟩ := zip_filter (l := l) (m := m) (by simpa using hl) fun q hq => h q (List.mem_cons_of_mem _ hq)
    have e := h (x, y) (List.mem_cons_self ..)
    simp only at e
    cases hx : p x with
    | false => rw [hx] at e; simp [hx, ← e, h1, h2]
    | true => rw [hx] at e; simp [hx, ← e, h1, h2]
theorem quietS {l : List T_impl_Op} (ha : areOps l = true) (V : List Int) (fl : List T_impl_Flow) (e : Int) {o : Int} (h1 : 1 ≤ o) (h9 : o ≤ 9) (w : Int) :
    (sentsV l V fl e).length = (sentsV l (changeV V o w) fl e).length ∧ ∀ p ∈ (sentsV l V fl e).zip (sentsV l (changeV V o w) fl e), AlikeS o p := by
  obtain ⟨hq1, hq2⟩ := quiet h1 h9 w V l ([], zeros, zeros) ([], zeros, zeros) (areOps_all ha).1 Regs.zero Regs.zero rfl (fun r _ _ => rfl) rfl (fun p h => by cases h)
  have hz := zip_filter (p := mayS fl e) hq1 fun q hq => by
    obtain ⟨e1, e2, _⟩ := hq2 q hq
    unfold mayS; rw [e1, e2]
  unfold sentsV
  rw [ha, cond_true, cond_true]
  refine ⟨hz.1, fun p hp => ?_⟩
  have hp : p ∈ ((runV V l).1.filter (mayS fl e)).zip ((runV (changeV V o w) l).1.filter (mayS fl e)) := hp
  unfold runV at hp
  rw [hz.2] at hp
  exact hq2 p (List.mem_filter.1 hp).1
theorem sents_key {l : List T_impl_Op} (V V' : List Int) (fl : List T_impl_Flow) (e : Int) : (sentsV l V fl e).map keyS = (sentsV l V' fl e).map keyS := by
  unfold sentsV
  cases h : areOps l with
  | false => rfl
  | true =>
    have key := runV_key V V' l
    rw [cond_true, cond_true]
    generalize (runV V l).1 = A at key
    generalize (runV V' l).1 = B at key
    have : ∀ A : List T_impl_Sent, (A.filter (mayS fl e)).map keyS = (A.map keyS).filter fun q => mayV fl e q.2 q.1 := by
      intro A
      induction A with
      | nil => rfl
      | cons a A ih =>
        have e1 : mayS fl e a = mayV fl e (keyS a).2 (keyS a).1 := rfl
        rw [List.map_cons, List.filter_cons, List.filter_cons, ← e1]
        cases mayS fl e a <;> simp [ih]
    rw [this, this, key]
def eqZ {α : Type} (c : α → α → Bool) (l m : List α) : Bool := decide (l.length = m.length) && (l.zip m).all fun p => c p.1 p.2
theorem eqZ_refl {α : Type} {c : α → α → Bool} (h : ∀ x, c x x = true) (l : List α) : eqZ c l l = true := by
  unfold eqZ
  have : ∀ l : List α, ((l.zip l).all fun p => c p.1 p.2) = true := by
    intro l
    induction l with
    | nil => rfl
    | cons x xs ih => simp only [List.zip_cons_cons, List.all_cons, h, ih]; rfl
  rw [this]; simp
theorem eqZ_comm {α : Type} {c : α → α → Bool} (h : ∀ x y, c x y = c y x) (l m : List α) : eqZ c l m = eqZ c m l := by
  unfold eqZ
  have : ∀ l m : List α, ((l.zip m).all fun p => c p.1 p.2) = ((m.zip l).all fun p => c p.1 p.2) := by
    intro l
    induction l with
    | nil => intro m; cases m <;> rfl
    | cons x xs ih => intro m; cases m with
      | nil => rfl
      | cons y ys => simp only [List.zip_cons_cons, List.all_cons, h x y, ih ys]
  rw [this l m]
  congr 1
  rw [decide_eq_decide]; exact eq_comm
def cmpSent (x y : T_impl_Sent) : Bool := (((x.f0) == (y.f0)) && (((x.f1) == (y.f1)) && ((x.f2) == (y.f2))))
theorem cmpSent_refl (x : T_impl_Sent) : cmpSent x x = true := by simp [cmpSent]
theorem cmpSent_comm (x y : T_impl_Sent) : cmpSent x y = cmpSent y x := by
  unfold cmpSent
  simp only [Bool.beq_comm (b := y.f0)]
  congr 1
  all_goals simp only [Bool.beq_comm]
theorem slices_Equal_Sent_e {k : Nat} (hk : Big k) {l m : List T_impl_Sent} (hl : Ok l) : slices_Equal_Sent.f k l m = some (eqZ cmpSent l m) := by
  have hl' := hl.out
  unfold slices_Equal_Sent.f eqZ
  by_cases hlen : l.length = m.length
  · rw [show ((l.length : Int) != (m.length : Int)) = false from by simp [hlen], cond_false, decide_eq_true hlen, Bool.true_and]
    have hz : (l.zip m).length = l.length := by simp [hlen]
    rw [show k = k from rfl, loop_all (slices_Equal_Sent.l4 k (l.length : Int) l m (fun y => some y) (fun _ => some true)) (fun p => cmpSent p.1 p.2) (some true) (some false) (l.zip m) (fun n i p hp => by
      obtain ⟨hx, hy⟩ := List.getElem?_zip_eq_some.1 hp
      obtain ⟨h1, h2, h3, h4⟩ := at_ hx (by omega)
      obtain ⟨g1, g2, g3, g4⟩ := at_ hy (by omega)
      simp only [slices_Equal_Sent.l4, slices_Equal_Sent.L4, rd_impl_Sent, h1, h2, h3, h4, g1, g4, cond_true, cmpSent]
      cases (((p.1.f0) == (p.2.f0)) && (((p.1.f1) == (p.2.f1)) && ((p.1.f2) == (p.2.f2)))) <;> rfl) (fun n => by rw [hz]; simp only [slices_Equal_Sent.l4, slices_Equal_Sent.L4, end_, cond_false]) k (by rw [hz]; exact hk.lt hl)]
    cases (l.zip m).all fun p => cmpSent p.1 p.2 <;> rfl
  · rw [show ((l.length : Int) != (m.length : Int)) = true from by simp; omega, cond_true, decide_eq_false hlen, Bool.false_and]
theorem mem_nine {o : Int} (h1 : 1 ≤ o) (h9 : o ≤ 9) : o ∈ nine := by
  have : o = 1 ∨ o = 2 ∨ o = 3 ∨ o = 4 ∨ o = 5 ∨ o = 6 ∨ o = 7 ∨ o = 8 ∨ o = 9 := by omega
  rcases this with rfl | rfl | rfl | rfl | rfl | rfl | rfl | rfl | rfl <;> decide
theorem sents_ok {l : List T_impl_Op} {V : List Int} {fl : List T_impl_Flow} {e : Int} : ∀ s ∈ sentsV l V fl e, sentOk s ∧ mayS fl e s = true := by
  intro s hs
  unfold sentsV at hs
  cases h : areOps l with
  | false => rw [h] at hs; cases hs
  | true =>
    rw [h, cond_true] at hs
    obtain ⟨h1, h2⟩ := List.mem_filter.1 hs
    exact ⟨runV_ok V h s h1, h2⟩
theorem leak_same (l : List T_impl_Op) (V : List Int) (fl : List T_impl_Flow) (e : Int) {o : Int} (h1 : 1 ≤ o) (h9 : o ≤ 9) (w : Int) :
    sameV (sentsV l V fl e) (sentsV l (changeV V o w) fl e) o = true ∧ (depV l fl e o = false → eqZ cmpSent (sentsV l V fl e) (sentsV l (changeV V o w) fl e) = true) := by
  cases h : areOps l with
  | false =>
    have e1 : ∀ V, sentsV l V fl e = [] := fun V => by unfold sentsV; rw [h]; rfl
    rw [e1, e1]
    exact ⟨rfl, fun _ => rfl⟩
  | true =>
    obtain ⟨hlen, hp⟩ := quietS h V fl e h1 h9 w
    have hq : ∀ p ∈ (sentsV l V fl e).zip (sentsV l (changeV V o w) fl e), hasI (ownersV p.1.f2) o = bitO p.1.f2 o := fun p hpm => hasI_owners (sents_ok p.1 (List.of_mem_zip hpm).1).1.2.1 o (mem_nine h1 h9)
    refine ⟨?_, fun hd => ?_⟩
    · unfold sameV
      rw [decide_eq_true hlen, Bool.true_and]
      refine List.all_eq_true.2 fun p hpm => ?_
      obtain ⟨e1, e2, e3⟩ := hp p hpm
      unfold sameOne
      rw [hq p hpm, e1, e2, beq_self_eq_true, beq_self_eq_true, Bool.true_and, Bool.true_and]
      rw [e2] at e3
      cases hb : bitO p.2.f2 o with
      | true => simp
      | false => rw [e3 hb]; simp
    · unfold eqZ
      rw [decide_eq_true hlen, Bool.true_and]
      refine List.all_eq_true.2 fun p hpm => ?_
      obtain ⟨e1, e2, e3⟩ := hp p hpm
      have hk : keyS p.1 ∈ (sentsV l [] fl e).map keyS := by rw [← sents_key V []]; exact List.mem_map.2 ⟨p.1, (List.of_mem_zip hpm).1, rfl⟩
      obtain ⟨s0, hs0, ek⟩ := List.mem_map.1 hk
      have ek2 : s0.f2 = p.1.f2 := (Prod.mk.inj ek).2
      have hno : hasI (ownersV p.1.f2) o = false := by
        unfold depV at hd
        have := List.any_eq_false.1 hd s0 hs0
        rw [ek2] at this
        simpa using this
      rw [hq p hpm] at hno
      unfold cmpSent
      rw [e1, e2, e3 hno]
      simp
theorem leak_dep (l : List T_impl_Op) (fl : List T_impl_Flow) (e o : Int) : (depV l fl e o == decide (((ordV (leakL l fl e o)).length : Int) > 0)) = true := by
  obtain ⟨_, hm⟩ := ordV_spec (leakL l fl e o)
  have hle := ordV_len (leakL l fl e o)
  unfold depV
  unfold leakL at hm hle ⊢
  cases h : (sentsV l [] fl e).any fun s => hasI (ownersV s.f2) o with
  | true =>
    obtain ⟨s, hs, hp⟩ := List.any_eq_true.1 h
    have hin := (hm s.f0).2 (List.mem_map.2 ⟨s, List.mem_filter.2 ⟨hs, hp⟩, rfl⟩)
    have := List.length_pos_of_mem hin
    rw [decide_eq_true (by omega)]; rfl
  | false =>
    have e0 : (sentsV l [] fl e).filter (fun s => hasI (ownersV s.f2) o) = [] := List.filter_eq_nil_iff.2 fun s hs => List.any_eq_false.1 h s hs
    rw [e0] at hle ⊢
    simp only [List.map_nil, List.length_nil] at hle ⊢
    rw [decide_eq_false (by omega)]; rfl
theorem leak_may {l : List T_impl_Op} {fl : List T_impl_Flow} {e o : Int} (h1 : 1 ≤ o) (h9 : o ≤ 9) : ∀ t ∈ ordV (leakL l fl e o), mayV fl e (2 ^ o.toNat) t = true := by
  intro t ht
  obtain ⟨_, hm⟩ := ordV_spec (leakL l fl e o)
  have ht := (hm t).1 ht
  unfold leakL at ht
  obtain ⟨s, hs, rfl⟩ := List.mem_map.1 ht
  obtain ⟨hs, hp⟩ := List.mem_filter.1 hs
  obtain ⟨h2, h3⟩ := sents_ok s hs
  unfold mayS mayV at h3
  rw [Bool.and_eq_true, Bool.and_eq_true] at h3
  have hin : o ∈ ownersV s.f2 := by
    unfold hasI at hp
    obtain ⟨y, hy, e2⟩ := List.any_eq_true.1 hp
    rw [← eq_of_beq e2]; exact hy
  have hone := List.all_eq_true.1 h3.1 o hin
  unfold mayV
  rw [(bit_own h1 h9).2, (label_one h1 h9).2, h3.2.2, Bool.and_self, Bool.and_true]
  simp [hone]
def five : List Int := [1, 2, 3, 4, 5]
theorem five_at {i : Nat} {o : Int} (h : five[i]? = some o) : o = (i : Int) + 1 ∧ i < 5 := by
  have hi : i < 5 := (List.getElem?_eq_some_iff.1 h).1
  refine ⟨?_, hi⟩
  have : i = 0 ∨ i = 1 ∨ i = 2 ∨ i = 3 ∨ i = 4 := by omega
  rcases this with rfl | rfl | rfl | rfl | rfl <;> simp [five] at h <;> omega
theorem FnLeaks : ∀ (a0 : List Int), a0.length ≤ maxLen → (∀ x ∈ a0, likes (k_u8.enc k_u8.zero) (k_u8.enc x)) → ∃ k, laws_FnLeaks.f k a0 = some true := by
  intro l _ hl8
  obtain ⟨k, hk⟩ := big_some
  refine ⟨k, ?_⟩
  have hbyte : ∀ x ∈ l, 0 ≤ x ∧ x ≤ 255 := by
    intro x hx
    have := (hl8 x hx).1.2
    simp [Lit.wf, IntKind.min, IntKind.max, IntKind.bits, IntKind.signed] at this
    omega
  unfold laws_FnLeaks.f
  rw [laws_big_e, Option.bind_some]
  by_cases hbig : (l.length : Int) > 1048576
  · rw [decide_eq_true hbig]; rfl
  rw [decide_eq_false hbig, cond_false]
  have hl : Ok l := by unfold Ok; omega
  have hk' := hk.out
  obtain ⟨⟨e, ops, vals, fl⟩, eD, he, s1, s2, s3⟩ := spec_DrawRunOps_t hk hl
  obtain ⟨⟨c, a, b⟩, eT, ga, gb⟩ := spec_DrawIsTightFor_t hk hl
  have ho : Ok ops := Ok.small 20 s1
  have hv : Ok vals := Ok.small 20 s2
  have hf : Ok fl := Ok.small 20 s3
  have ga : Ok a := ga
  have gb : Ok b := gb
  rw [eD, Option.bind_some]
  simp only
  rw [impl_RunOps_e hk ho hv hf, Option.bind_some]
  have hS : Ok (sentsV ops vals fl e) := Ok.small 16 (sentsV_len _ _ _ _)
  have key : ∀ X1 : Unit → Option Bool, laws_FnLeaks.l6 k e l ops vals fl (sentsV ops vals fl e) (fun y => some y) X1 k 1 = X1 () := fun X1 => by
    refine (loop_all (fun n i => laws_FnLeaks.l6 k e l ops vals fl (sentsV ops vals fl e) (fun y => some y) X1 n (i + 1)) (fun _ => true) (X1 ()) (some false) five (fun n i o hx => ?_) (fun n => ?_) k (by show 5 < k; omega)).trans ?_
    · obtain ⟨rfl, h5⟩ := five_at hx
      obtain ⟨v, eA, v0, v1⟩ := laws_at_t k hl hbyte ((i : Int) + 1) (by omega)
      simp only [laws_FnLeaks.l6, laws_FnLeaks.L6]
      rw [decide_eq_true (show (i : Int) + 1 ≤ 5 by omega), cond_true, eA, Option.bind_some]
      generalize (w64 (w64 (7 * ((i : Int) + 1)) + v)).tmod 1000 = w
      obtain ⟨L1, L2⟩ := leak_same ops vals fl e (o := (i : Int) + 1) (by omega) (by omega) w
      have L3 := leak_dep ops fl e ((i : Int) + 1)
      have L4 := leak_may (l := ops) (fl := fl) (e := e) (o := (i : Int) + 1) (by omega) (by omega)
      have hC : Ok (changeV vals ((i : Int) + 1) w) := Ok.small 9 (Nat.le_of_eq (changeV_len _ _ _))
      have hLk : (ordV (leakL ops fl e ((i : Int) + 1))).length ≤ 16 := Nat.le_trans (ordV_len _) (leakL_len _ _ _ _)
      simp only [impl_ChangeValue_e hk hv, impl_RunOps_e hk ho hC hf, impl_SameSent_e hk hS, impl_Depends_e hk ho hf, impl_LeakTo_e hk ho hf, impl_EqualSent.f, slices_Equal_Sent_e hk hS, Option.bind_some, L1, L3, Bool.not_true, cond_false, cond_true]
      generalize ordV (leakL ops fl e ((i : Int) + 1)) = T at hLk L4
      have inner : ∀ (X0 : Bool → Option Bool) (X1 : Unit → Option Bool), laws_FnLeaks.l16 k e ((i : Int) + 1) l ops vals fl (sentsV ops vals fl e) T X0 X1 k 0 = X1 () := fun X0 X1 => by
        refine (loop_all (laws_FnLeaks.l16 k e ((i : Int) + 1) l ops vals fl (sentsV ops vals fl e) T X0 X1) (fun t => mayV fl e (2 ^ ((i : Int) + 1).toNat) t) (X1 ()) (X0 false) T (fun n j t ht => by
          obtain ⟨h1, h2, h3, h4⟩ := at_ ht (by omega)
          simp only [laws_FnLeaks.l16, laws_FnLeaks.L16, rd_i64, h1, h2, h3, h4, cond_true, impl_LabelOf_one hk (show 1 ≤ (i : Int) + 1 by omega) (by omega), impl_MayFlow_e hk hf, Option.bind_some]
          cases mayV fl e (2 ^ ((i : Int) + 1).toNat) t <;> rfl) (fun n => by simp only [laws_FnLeaks.l16, laws_FnLeaks.L16, end_, cond_false]) k (by omega)).trans ?_
        rw [List.all_eq_true.2 L4]; rfl
      rw [inner, w64_id (n := (i : Int) + 1 + 1) (by omega)]
      cases hd : depV ops fl e ((i : Int) + 1) with
      | true => rfl
      | false => rw [L2 hd]; rfl
    · simp only [laws_FnLeaks.l6, laws_FnLeaks.L6]
      rfl
    · rw [List.all_eq_true.2 (fun _ _ => rfl)]; rfl
  rw [key, eT, Option.bind_some]
  simp only
  simp only [impl_IsTightFor_e hk ga gb, impl_AreOps_e hk ga, impl_NeedsFlows_e hk ga, impl_FlowsWithin_e hk (needsV_ok a c) gb, impl_ChangeValue_e hk hv, Option.bind_some, changeV_len]
  cases areOps a <;> cases withinF (needsV a c) b <;> rfl
end Go.Proofs.Ythjdecnheaifkaa.PFnLeaks.Pure
