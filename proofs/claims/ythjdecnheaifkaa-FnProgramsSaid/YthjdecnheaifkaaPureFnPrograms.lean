/- The law FnPrograms as a statement over numbers and lists, with its proof; no conditions but the bounds of the values' types and of the slices' lengths. -/
import Derived.Test.YthjdecnheaifkaaPFnPrograms3
set_option linter.unusedVariables false
set_option linter.unusedSimpArgs false
namespace Go.Proofs.Ythjdecnheaifkaa.PFnPrograms.Pure
open Go Go.Eng Go.Proofs
theorem laws_big_e (k : Nat) (l : List Int) : laws_big.f k l = some (decide ((l.length : Int) > 1048576)) := rfl
def Ret' {α : Type} (o : Option α) (P : α → Prop) : Prop := ∃ t, o = some t ∧ P t
theorem Ret'.bind {α β : Type} {o : Option α} {P : α → Prop} {f : α → Option β} {Q : β → Prop} (h : Ret' o P) (k : ∀ t, P t → Ret' (f t) Q) : Ret' (o.bind f) Q := by
  obtain ⟨t, rfl, ht⟩ := h
  exact k t ht
theorem Ret'.some {α : Type} {t : α} {P : α → Prop} (h : P t) : Ret' (Option.some t) P := ⟨t, rfl, h⟩
theorem Ret'.imp {α : Type} {o : Option α} {P Q : α → Prop} (h : Ret' o P) (k : ∀ t, P t → Q t) : Ret' o Q := by
  obtain ⟨t, e, ht⟩ := h
  exact ⟨t, e, k t ht⟩
theorem Ret'.bif {α : Type} {c : Bool} {x y : Option α} {P : α → Prop} (h : c = true → Ret' x P) (k : c = false → Ret' y P) : Ret' (bif c then x else y) P := by
  cases c
  · exact k rfl
  · exact h rfl
theorem i64_and255 (n : Int) : bitop .and .i64 n 255 = n % 256 := by
  have h127 : (BitVec.ofInt 64 255).toNat = 2 ^ 8 - 1 := by decide
  have key : (BitVec.ofInt 64 n &&& BitVec.ofInt 64 255).toNat = (n % ((2 ^ 64 : Nat) : Int)).toNat % 2 ^ 8 := by
    rw [BitVec.toNat_and, BitVec.toNat_ofInt, h127, Nat.and_two_pow_sub_one_eq_mod]
  show IntKind.i64.wrap ((BitVec.ofInt 64 n &&& BitVec.ofInt 64 255).toNat : Nat) = n % 256
  rw [key, show ∀ m : Int, IntKind.i64.wrap m = w64 m from fun _ => rfl, w64_id (by omega)]
  omega
def Pos (l : List Int) (p : Int) : Prop := 0 ≤ p ∧ p ≤ (l.length : Int) ∧ (l.length : Int) ≤ 1048576
theorem tmod_bd {b a : Int} (hb : 0 ≤ b) (ha : 0 < a) : 0 ≤ Int.tmod b a ∧ Int.tmod b a < a := by
  rw [Int.tmod_eq_emod_of_nonneg hb]
  exact ⟨Int.emod_nonneg _ (by omega), Int.emod_lt_of_pos _ ha⟩
theorem spec_l1New_l {l : List Int} (hl : Ok l) (k : Nat) : ∀ (n q : Nat) (h : Int) (i : Nat), 4000 ≤ i + n → i ≤ 4000 → n < q → Ret' (spec_l1New.l3 k l (fun y => some ((0 : Int), y)) q h (i : Int)) fun t => t.1 = 0 := by
  have hl' := hl.out
  intro n
  induction n with
  | zero =>
    intro q h i h1 h2 hq
    obtain ⟨q, rfl⟩ : ∃ j, q = j + 1 := ⟨q - 1, by omega⟩
    simp only [spec_l1New.l3, spec_l1New.L3]
    refine Ret'.bif (fun c => ?_) (fun c => .some rfl)
    rw [decide_eq_false (show ¬ ((i : Int) < 4000) by omega)]
    exact .some rfl
  | succ n ih =>
    intro q h i h1 h2 hq
    obtain ⟨q, rfl⟩ : ∃ j, q = j + 1 := ⟨q - 1, by omega⟩
    simp only [spec_l1New.l3, spec_l1New.L3]
    refine Ret'.bif (fun c => ?_) (fun c => .some rfl)
    refine Ret'.bif (fun c2 => ?_) (fun c2 => .some rfl)
    have c2 := of_decide_eq_true c2
    rw [nn_, cond_true, c, cond_true, w64_id (n := (i : Int) + 1) (by omega)]
    exact ih q _ (i + 1) (by omega) (by omega) (by omega)
theorem spec_l1New_t {k : Nat} (hk : Big k) {l : List Int} (hl : Ok l) : Ret' (spec_l1New.f k l) fun t => Pos l t.1 := by
  have hl' := hl.out
  have hk' := hk.out
  unfold spec_l1New.f
  exact (spec_l1New_l hl k 4000 k _ 0 (by omega) (by omega) (by omega)).imp fun t ht => by rw [ht]; unfold Pos; omega
theorem spec_l1Byte_t (k : Nat) {l : List Int} {p : Int} (h : Int) (hp : Pos l p) : Ret' (spec_l1Byte.f k l p h) fun t => Pos l t.2.1 ∧ 0 ≤ t.1 ∧ t.1 ≤ 255 := by
  obtain ⟨h0, h1, h2⟩ := hp
  unfold spec_l1Byte.f
  simp only [i64_and255]
  refine Ret'.bif (fun c => ?_) (fun c => .some ⟨⟨h0, h1, h2⟩, by simp only; omega, by simp only; omega⟩)
  have c := of_decide_eq_true c
  rw [decide_eq_true h0, cond_true, decide_eq_true c, cond_true]
  exact .some ⟨by simp only; rw [w64_id (by omega)]; unfold Pos; omega, by simp only; omega, by simp only; omega⟩
theorem spec_l1Below_t (k : Nat) {l : List Int} {p : Int} (h : Int) (hp : Pos l p) (a : Int) (ha : 0 < a) : Ret' (spec_l1Below.f k l p h a) fun t => Pos l t.2.1 ∧ 0 ≤ t.1 ∧ t.1 < a := by
  unfold spec_l1Below.f
  rw [decide_eq_false (show ¬ a ≤ 0 by omega), cond_false]
  refine Ret'.bif (fun c => ?_) (fun c => ?_)
  · refine (spec_l1Byte_t k h hp).bind fun t ⟨q, b0, b1⟩ => ?_
    rw [decide_eq_false (show ¬ a = 0 by omega), cond_false]
    exact .some ⟨q, tmod_bd b0 ha⟩
  · refine (spec_l1Byte_t k h hp).bind fun t ⟨q, b0, b1⟩ => (spec_l1Byte_t k _ q).bind fun t2 ⟨q2, c0, c1⟩ => (spec_l1Byte_t k _ q2).bind fun t3 ⟨q3, d0, d1⟩ => ?_
    rw [decide_eq_false (show ¬ a = 0 by omega), cond_false, w64_id (n := t.1 * 65536) (by omega), w64_id (n := t2.1 * 256) (by omega), w64_id (n := t.1 * 65536 + t2.1 * 256) (by omega), w64_id (by omega)]
    exact .some ⟨q3, tmod_bd (by omega) ha⟩
theorem spec_l21Op_t (k : Nat) {l : List Int} {p : Int} (h : Int) (hp : Pos l p) : Ret' (spec_l21Op.f k l p h) fun t => Pos l t.2.2.2.2.1 := by
  unfold spec_l21Op.f
  exact (spec_l1Below_t k h hp 5 (by decide)).bind fun t ⟨q, _⟩ => (spec_l1Below_t k _ q 4 (by decide)).bind fun t ⟨q, _⟩ =>
    .bif (fun _ => (spec_l1Below_t k _ q 4 (by decide)).bind fun t ⟨q, _⟩ => .some q) fun _ => .bif (fun _ => (spec_l1Below_t k _ q 4 (by decide)).bind fun t ⟨q, _⟩ => .some q) fun _ => .bif (fun _ => (spec_l1Below_t k _ q 20 (by decide)).bind fun t ⟨q, _⟩ => .some q) fun _ =>
    (spec_l1Below_t k _ q 4 (by decide)).bind fun t ⟨q, _⟩ => (spec_l1Below_t k _ q 4 (by decide)).bind fun t ⟨q, _⟩ => .some q
theorem loop_down {σ R : Type} (l : Nat → Int → Int → Int → List σ → Option R) (B : Nat) (I : Int → Prop) (Q : R → Prop)
    (hs : ∀ q (n : Nat) p h s, I p → s.length + (n + 1) ≤ B → (∀ p' h' x, I p' → Ret' (l q (n : Int) p' h' (s ++ [x])) Q) → Ret' (l (q + 1) ((n + 1 : Nat) : Int) p h s) Q)
    (he : ∀ q p h s, I p → s.length ≤ B → Ret' (l (q + 1) 0 p h s) Q) : ∀ (n q : Nat) p h s, n < q → I p → s.length + n ≤ B → Ret' (l q (n : Int) p h s) Q := by
  intro n
  induction n with
  | zero =>
    intro q p h s hq hp hb
    obtain ⟨q, rfl⟩ : ∃ j, q = j + 1 := ⟨q - 1, by omega⟩
    exact he q p h s hp hb
  | succ n ih =>
    intro q p h s hq hp hb
    obtain ⟨q, rfl⟩ : ∃ j, q = j + 1 := ⟨q - 1, by omega⟩
    exact hs q n p h s hp hb fun p' h' x hp' => ih q p' h' (s ++ [x]) (by omega) hp' (by simp; omega)
theorem down1 (n : Nat) (hn : n ≤ 1000000) : w64 (((n + 1 : Nat) : Int) - 1) = (n : Int) := by rw [w64_id (by omega)]; omega
theorem down_gt (n : Nat) : decide (((n + 1 : Nat) : Int) > 0) = true := decide_eq_true (by omega)
theorem spec_l21Ops_t {k : Nat} (hk : Big k) {l : List Int} {p : Int} (h : Int) (hp : Pos l p) : Ret' (spec_l21Ops.f k l p h) fun t => Pos l t.1 ∧ t.2.2.length ≤ 20 := by
  have hk' := hk.out
  unfold spec_l21Ops.f
  refine (spec_l1Below_t k h hp 10 (by decide)).bind fun t ⟨q, b0, b1⟩ => ?_
  obtain ⟨n, hn⟩ := Int.eq_ofNat_of_zero_le b0
  rw [hn]
  refine loop_down (spec_l21Ops.l3 k l fun y4 y5 y6 => some (y4, y5, y6)) 20 (Pos l) _ (fun q n p h s hp hb ih => ?_) (fun q p h s hp hb => ?_) n k _ _ [] (by omega) q (by simp; omega)
  · simp only [spec_l21Ops.l3, spec_l21Ops.L3, down_gt, cond_true, down1 n (by omega)]
    refine (spec_l21Op_t k h hp).bind fun t q => ?_
    rw [decide_eq_true (by unfold cap48; simp; omega), cond_true]
    exact ih _ _ _ q
  · exact .some ⟨hp, hb⟩
theorem spec_l1Int_m (k : Nat) {l : List Int} {p : Int} (h : Int) (hp : Pos l p) (xs : List Int) (hx : 0 < (xs.length : Int)) : Ret' (spec_l1Int.f k l p h xs) fun t => Pos l t.2.1 ∧ t.1 ∈ xs := by
  unfold spec_l1Int.f
  refine (spec_l1Below_t k h hp _ hx).bind fun t ⟨q, b0, b1⟩ => ?_
  rw [decide_eq_true b0, cond_true, decide_eq_true b1, cond_true]
  refine .some ⟨q, ?_⟩
  obtain ⟨n, hn⟩ := Int.eq_ofNat_of_zero_le b0
  have hlt : n < xs.length := by omega
  simp only [rd_i64, hn]
  show xs.getD n z_i64 ∈ xs
  rw [List.getD_eq_getElem?_getD, List.getElem?_eq_getElem hlt]
  exact List.getElem_mem hlt
theorem spec_l9Raw_t (k : Nat) {l : List Int} {p : Int} (h : Int) (hp : Pos l p) : Ret' (spec_l9Raw.f k l p h) fun t => Pos l t.2.1 := by
  unfold spec_l9Raw.f
  exact (spec_l1Int_m k h hp _ (by decide)).bind fun t ⟨q, _⟩ => .some q
theorem spec_l21Any_l (k : Nat) (l : List Int) (a b : Int) : ∀ (n q : Nat) (s : List T_impl_Op), 17 ≤ s.length + n → s.length ≤ 20 → n < q → Ret' (spec_l21Any.l15 k a b l (fun y => some (a, b, y)) q s) fun t => t.1 = a ∧ t.2.2.length ≤ 20 := by
  intro n
  induction n with
  | zero =>
    intro q s h1 h2 hq
    obtain ⟨q, rfl⟩ : ∃ j, q = j + 1 := ⟨q - 1, by omega⟩
    simp only [spec_l21Any.l15, spec_l21Any.L15]
    rw [decide_eq_false (by omega)]
    exact .some ⟨rfl, h2⟩
  | succ n ih =>
    intro q s h1 h2 hq
    obtain ⟨q, rfl⟩ : ∃ j, q = j + 1 := ⟨q - 1, by omega⟩
    simp only [spec_l21Any.l15, spec_l21Any.L15]
    refine .bif (fun c => ?_) fun c => .some ⟨rfl, h2⟩
    have c := of_decide_eq_true c
    rw [decide_eq_true (by unfold cap48; simp; omega), cond_true]
    exact ih q _ (by simp; omega) (by simp; omega) (by omega)
theorem spec_l21Any_t {k : Nat} (hk : Big k) {l : List Int} {p : Int} (h : Int) (hp : Pos l p) : Ret' (spec_l21Any.f k l p h) fun t => Pos l t.1 ∧ t.2.2.length ≤ 20 := by
  have hk' := hk.out
  unfold spec_l21Any.f
  refine (spec_l21Ops_t hk h hp).bind fun t1 ⟨q, hl⟩ => .bif (fun _ => .some ⟨q, hl⟩) fun c => ?_
  have c : ¬ ((t1.2.2.length : Int) = 0) := by simpa using c
  have hset : ∀ (i : Nat) (x : T_impl_Op), (t1.2.2.set i x).length ≤ 20 := fun i x => by simpa using hl
  refine (spec_l1Below_t k _ q _ (by omega)).bind fun t2 ⟨q, b0, b1⟩ => (spec_l1Below_t k _ q 12 (by decide)).bind fun t3 ⟨q, _⟩ => ?_
  simp only [decide_eq_true b0, decide_eq_true b1, cond_true]
  exact .bif (fun _ => (spec_l1Int_m k _ q _ (by decide)).bind fun t q => .some ⟨q.1, hset _ _⟩) fun _ => .bif (fun _ => (spec_l1Int_m k _ q _ (by decide)).bind fun t q => .some ⟨q.1, hset _ _⟩) fun _ =>
    .bif (fun _ => (spec_l9Raw_t k _ q).bind fun t q => .some ⟨q, hset _ _⟩) fun _ => .bif (fun _ => (spec_l1Int_m k _ q _ (by decide)).bind fun t q => .some ⟨q.1, hset _ _⟩) fun _ =>
    .bif (fun _ => (spec_l21Any_l k l _ _ 17 k _ (by omega) hl (by omega)).imp fun t ht => ⟨by rw [ht.1]; exact q, ht.2⟩) fun _ => .some ⟨q, hl⟩
theorem spec_l21Values_t {k : Nat} (hk : Big k) {l : List Int} {p : Int} (h : Int) (hp : Pos l p) : Ret' (spec_l21Values.f k l p h) fun t => Pos l t.1 ∧ t.2.2.length ≤ 20 := by
  have hk' := hk.out
  unfold spec_l21Values.f
  refine (spec_l1Below_t k h hp 6 (by decide)).bind fun t ⟨q, b0, b1⟩ => ?_
  obtain ⟨n, hn⟩ := Int.eq_ofNat_of_zero_le b0
  rw [hn]
  refine loop_down (spec_l21Values.l3 k l fun y4 y5 y6 => some (y4, y5, y6)) 20 (Pos l) _ (fun q n p h s hp hb ih => ?_) (fun q p h s hp hb => ?_) n k _ _ [] (by omega) q (by simp; omega)
  · simp only [spec_l21Values.l3, spec_l21Values.L3, down_gt, cond_true, down1 n (by omega)]
    refine (spec_l1Below_t k h hp 50 (by decide)).bind fun t ⟨q, _⟩ => (spec_l1Int_m k _ q _ (by simp)).bind fun t2 ⟨q, _⟩ => ?_
    rw [decide_eq_true (by unfold cap48; simp; omega), cond_true]
    exact ih _ _ _ q
  · exact .some ⟨hp, hb⟩
theorem spec_l20Draw_t (k : Nat) {l : List Int} {p : Int} (h : Int) (hp : Pos l p) : Ret' (spec_l20Draw.f k l p h) fun t => Pos l t.2.2.2.1 := by
  unfold spec_l20Draw.f
  exact (spec_l1Below_t k h hp 3 (by decide)).bind fun t ⟨q, _⟩ => (spec_l1Below_t k _ q 4 (by decide)).bind fun t ⟨q, _⟩ => (spec_l1Below_t k _ q 4 (by decide)).bind fun t ⟨q, _⟩ => .some q
theorem spec_l20List_t {k : Nat} (hk : Big k) {l : List Int} {p : Int} (h : Int) (hp : Pos l p) : Ret' (spec_l20List.f k l p h) fun t => Pos l t.1 ∧ t.2.2.length ≤ 20 := by
  have hk' := hk.out
  unfold spec_l20List.f
  refine (spec_l1Below_t k h hp 8 (by decide)).bind fun t ⟨q, b0, b1⟩ => ?_
  obtain ⟨n, hn⟩ := Int.eq_ofNat_of_zero_le b0
  rw [hn]
  refine loop_down (spec_l20List.l3 k l fun y4 y5 y6 => some (y4, y5, y6)) 20 (Pos l) _ (fun q n p h s hp hb ih => ?_) (fun q p h s hp hb => ?_) n k _ _ [] (by omega) q (by simp; omega)
  · simp only [spec_l20List.l3, spec_l20List.L3, down_gt, cond_true, down1 n (by omega)]
    refine (spec_l20Draw_t k h hp).bind fun t q => ?_
    rw [decide_eq_true (by unfold cap48; simp; omega), cond_true]
    exact ih _ _ _ q
  · exact .some ⟨hp, hb⟩
theorem spec_DrawRunOps_t {k : Nat} (hk : Big k) {l : List Int} (hl : Ok l) : Ret' (spec_DrawRunOps.f k l) fun t => (1 ≤ t.1 ∧ t.1 ≤ 3) ∧ t.2.1.length ≤ 20 ∧ t.2.2.1.length ≤ 20 ∧ t.2.2.2.length ≤ 20 := by
  unfold spec_DrawRunOps.f
  exact (spec_l1New_t hk hl).bind fun t1 q => (spec_l21Any_t hk _ q).bind fun t2 ⟨q, h2⟩ => (spec_l21Values_t hk _ q).bind fun t3 ⟨q, h3⟩ => (spec_l20List_t hk _ q).bind fun t4 ⟨q, h4⟩ => (spec_l1Below_t k _ q 3 (by decide)).bind fun t5 ⟨q, b0, b1⟩ => .some ⟨by simp only; rw [w64_id (by omega)]; omega, h2, h3, h4⟩
theorem spec_l1In_e (k : Nat) (n a b : Int) : spec_l1In.f k n a b = some (inR n a b) := by
  unfold spec_l1In.f inR
  by_cases h : a ≤ n <;> simp [h]
def isOpV (kd a b c : Int) : Bool := inR a 0 5 && (if kd = 1 ∨ kd = 5 then inR b 1 9 && c == 0 else if kd = 2 then inR b 0 999 && c == 0 else if kd = 3 ∨ kd = 4 then inR b 0 5 && inR c 0 5 else false)
theorem spec_l21Ok_e (k : Nat) (kd a b c : Int) : spec_l21Ok.f k kd a b c = some (isOpV kd a b c) := by
  unfold spec_l21Ok.f isOpV
  simp only [spec_l1In_e, Option.bind_some]
  cases inR a 0 5 <;>
  · by_cases h1 : kd = 1
    · subst h1; cases inR b 1 9 <;> simp
    · by_cases h5 : kd = 5
      · subst h5; cases inR b 1 9 <;> simp
      · by_cases h2 : kd = 2
        · subst h2; cases inR b 0 999 <;> simp
        · by_cases h3 : kd = 3
          · subst h3; cases inR b 0 5 <;> simp
          · by_cases h4 : kd = 4
            · subst h4; cases inR b 0 5 <;> simp
            · simp [h1, h2, h3, h4, h5, beqF h1, beqF h2, beqF h3, beqF h4, beqF h5]
def opOk (x : T_impl_Op) : Bool := isOpV x.f0 x.f1 x.f2 x.f3
def areOps (l : List T_impl_Op) : Bool := l.all opOk && decide (l.length ≤ 16)
theorem spec_AreOps_e {k : Nat} (hk : Big k) {l : List T_impl_Op} (hl : Ok l) : spec_AreOps.f k l = some (areOps l) := by
  unfold spec_AreOps.f areOps
  rw [loop_all (spec_AreOps.l2 k l (fun y => some y) (fun _ => some (decide ((l.length : Int) ≤ 16)))) opOk (some (decide ((l.length : Int) ≤ 16))) (some false) l (fun n i x hx => by
    obtain ⟨h1, h2, h3, h4⟩ := at_ hx (by have := hl.out; omega)
    simp only [spec_AreOps.l2, spec_AreOps.L2, rd_impl_Op, h1, h2, h3, h4, spec_l21Ok_e, Option.bind_some, cond_true]
    cases hp : opOk x <;> simp only [opOk] at hp <;> rw [hp] <;> rfl) (fun n => by simp only [spec_AreOps.l2, spec_AreOps.L2, end_, cond_false]) k (hk.lt hl)]
  have : decide ((l.length : Int) ≤ 16) = decide (l.length ≤ 16) := by rw [decide_eq_decide]; omega
  rw [this]
  cases l.all opOk <;> rfl
theorem impl_InRange_e (k : Nat) (n a b : Int) : impl_InRange.f k n a b = some (inR n a b) := by
  unfold impl_InRange.f inR
  by_cases h : a ≤ n <;> simp [h]
theorem impl_isRegister_e (k : Nat) (n : Int) : impl_isRegister.f k n = some (inR n 0 5) := by
  unfold impl_isRegister.f
  rw [impl_InRange_e, Option.bind_some]
theorem impl_isOp_e (k : Nat) (kd a b c : Int) : impl_isOp.f k kd a b c = some (isOpV kd a b c) := by
  unfold impl_isOp.f isOpV
  simp only [impl_isRegister_e, impl_InRange_e, Option.bind_some]
  cases inR a 0 5 <;>
  · by_cases h1 : kd = 1
    · subst h1; cases inR b 1 9 <;> simp
    · by_cases h5 : kd = 5
      · subst h5; cases inR b 1 9 <;> simp
      · by_cases h2 : kd = 2
        · subst h2; cases inR b 0 999 <;> simp
        · by_cases h3 : kd = 3
          · subst h3; cases inR b 0 5 <;> simp
          · by_cases h4 : kd = 4
            · subst h4; cases inR b 0 5 <;> simp
            · simp [h1, h2, h3, h4, h5, beqF h1, beqF h2, beqF h3, beqF h4, beqF h5]
theorem impl_AreOps_e {k : Nat} (hk : Big k) {l : List T_impl_Op} (hl : Ok l) : impl_AreOps.f k l = some (areOps l) := by
  unfold impl_AreOps.f areOps
  rw [loop_all (impl_AreOps.l4 k (l.length : Int) l (fun y => some y) (fun _ => some true)) opOk (some true) (some false) l (fun n i x hx => by
    obtain ⟨h1, h2, h3, h4⟩ := at_ hx (by have := hl.out; omega)
    simp only [impl_AreOps.l4, impl_AreOps.L4, rd_impl_Op, h1, h2, h3, h4, impl_isOp_e, Option.bind_some, cond_true]
    cases hp : opOk x <;> simp only [opOk] at hp <;> rw [hp] <;> rfl) (fun n => by simp only [impl_AreOps.l4, impl_AreOps.L4, end_, cond_false]) k (hk.lt hl)]
  by_cases h : l.length ≤ 16
  · rw [decide_eq_false (show ¬ ((l.length : Int) > 16) by omega), decide_eq_true h]
    cases l.all opOk <;> rfl
  · rw [decide_eq_true (show (l.length : Int) > 16 by omega), decide_eq_false h]
    simp
def valV (l : List Int) (o : Int) : Int := bif decide (1 ≤ o ∧ o ≤ (l.length : Int)) && inR (rd_i64 l (o - 1)) 0 999 then rd_i64 l (o - 1) else 0
theorem valV_rg (l : List Int) (o : Int) : 0 ≤ valV l o ∧ valV l o ≤ 999 := by
  unfold valV
  cases h : decide (1 ≤ o ∧ o ≤ (l.length : Int)) && inR (rd_i64 l (o - 1)) 0 999 with
  | false => exact ⟨Int.le_refl 0, show (0 : Int) ≤ 999 by decide⟩
  | true => rw [Bool.and_eq_true] at h; exact inR_true.1 h.2
theorem impl_valueOf_e (k : Nat) {l : List Int} (hl : Ok l) (o : Int) : impl_valueOf.f k l o = some (valV l o) := by
  have hl' := hl.out
  unfold impl_valueOf.f valV
  by_cases h1 : o < 1
  · rw [decide_eq_true h1, decide_eq_false (show ¬ (1 ≤ o ∧ o ≤ (l.length : Int)) by omega)]; rfl
  by_cases h : o > (l.length : Int)
  · rw [decide_eq_false h1, decide_eq_true h, decide_eq_false (show ¬ (1 ≤ o ∧ o ≤ (l.length : Int)) by omega)]; rfl
  · rw [decide_eq_false h1, decide_eq_false h, w64_id (by omega), decide_eq_true (show 0 ≤ o - 1 by omega), decide_eq_true (show o - 1 < (l.length : Int) by omega), decide_eq_true (show 1 ≤ o ∧ o ≤ (l.length : Int) by omega), impl_InRange_e, Option.bind_some]
    cases inR (rd_i64 l (o - 1)) 0 999 <;> rfl
theorem foldl_filter {α : Type} (p : α → Bool) (xs : List α) : ∀ s : List α, xs.foldl (fun s x => bif p x then s ++ [x] else s) s = s ++ xs.filter p := by
  induction xs with
  | nil => intro s; simp
  | cons x xs ih => intro s; rw [List.foldl_cons, ih]; cases h : p x <;> simp [h]
def isLab (x : Int) : Bool := inR x 0 1022 && x.tmod 2 == 0
def nine : List Int := [1, 2, 3, 4, 5, 6, 7, 8, 9]
def bitO (x o : Int) : Bool := x / 2 ^ o.toNat % 2 == 1
def ownersV (x : Int) : List Int := bif isLab x then nine.filter (bitO x) else []
theorem isLab_bd {x : Int} (h : isLab x = true) : 0 ≤ x ∧ x ≤ 1022 ∧ x % 2 = 0 := by
  unfold isLab at h
  rw [Bool.and_eq_true, inR_true, beq_iff_eq] at h
  rw [Int.tmod_eq_emod_of_nonneg h.1.1] at h
  exact ⟨h.1.1, h.1.2, h.2⟩
theorem isLab_of {x : Int} (h0 : 0 ≤ x) (h1 : x ≤ 1022) (h2 : x % 2 = 0) : isLab x = true := by
  unfold isLab
  rw [Int.tmod_eq_emod_of_nonneg h0, Bool.and_eq_true, inR_true, beq_iff_eq]
  exact ⟨⟨h0, h1⟩, h2⟩
theorem nine_at {i : Nat} {o : Int} (h : nine[i]? = some o) : o = (i : Int) + 1 ∧ i < 9 := by
  have hi : i < 9 := (List.getElem?_eq_some_iff.1 h).1
  refine ⟨?_, hi⟩
  have : i = 0 ∨ i = 1 ∨ i = 2 ∨ i = 3 ∨ i = 4 ∨ i = 5 ∨ i = 6 ∨ i = 7 ∨ i = 8 := by omega
  rcases this with rfl | rfl | rfl | rfl | rfl | rfl | rfl | rfl | rfl <;> simp [nine] at h <;> omega
theorem ownersV_len (x : Int) : (ownersV x).length ≤ 9 := by
  unfold ownersV
  cases isLab x
  · simp
  · exact Nat.le_trans (List.length_filter_le _ _) (by decide)
theorem ownersV_ok (x : Int) : Ok (ownersV x) := Ok.small 9 (ownersV_len x)
theorem pow9 {o : Int} (h1 : 1 ≤ o) (h9 : o ≤ 9) : 2 ≤ (2 : Int) ^ o.toNat ∧ (2 : Int) ^ o.toNat ≤ 512 := by
  have : o = 1 ∨ o = 2 ∨ o = 3 ∨ o = 4 ∨ o = 5 ∨ o = 6 ∨ o = 7 ∨ o = 8 ∨ o = 9 := by omega
  rcases this with rfl | rfl | rfl | rfl | rfl | rfl | rfl | rfl | rfl <;> decide
theorem bit_q {x o : Int} (h : isLab x = true) : 0 ≤ x / 2 ^ o.toNat ∧ x / 2 ^ o.toNat ≤ 1022 := by
  have hb := isLab_bd h
  have hp : (0 : Int) < 2 ^ o.toNat := Int.pow_pos (by omega)
  exact ⟨Int.ediv_nonneg hb.1 (by omega), Int.le_trans (Int.ediv_le_self _ hb.1) hb.2.1⟩
def hasI (l : List Int) (o : Int) : Bool := l.any fun y => y == o
def labelV (l : List Int) : Int := nine.foldl (fun s o => bif hasI l o then s + 2 ^ o.toNat else s) 0
theorem i64_and1 {n : Int} (h0 : 0 ≤ n) (h1 : n ≤ 1022) : bitop .and .i64 n 1 = n % 2 := by
  obtain ⟨m, rfl⟩ := Int.eq_ofNat_of_zero_le h0
  have h127 : (BitVec.ofInt 64 1).toNat = 2 ^ 1 - 1 := by decide
  have key : (BitVec.ofInt 64 (m : Int) &&& BitVec.ofInt 64 1).toNat = ((m : Int) % ((2 ^ 64 : Nat) : Int)).toNat % 2 ^ 1 := by
    rw [BitVec.toNat_and, BitVec.toNat_ofInt, h127, Nat.and_two_pow_sub_one_eq_mod]
  show IntKind.i64.wrap ((BitVec.ofInt 64 (m : Int) &&& BitVec.ofInt 64 1).toNat : Nat) = (m : Int) % 2
  rw [key, show ∀ m : Int, IntKind.i64.wrap m = w64 m from fun _ => rfl, w64_id (by omega)]
  omega
theorem i64_or {a b : Nat} (ha : a < 1024) (hb : b < 1024) : bitop .or .i64 (a : Int) (b : Int) = ((a ||| b : Nat) : Int) := by
  have key : (BitVec.ofInt 64 (a : Int) ||| BitVec.ofInt 64 (b : Int)).toNat = a ||| b := by
    rw [BitVec.toNat_or, BitVec.toNat_ofInt, BitVec.toNat_ofInt]
    congr 1 <;> omega
  have hlt : a ||| b < 2 ^ 10 := Nat.or_lt_two_pow (by omega) (by omega)
  show IntKind.i64.wrap ((BitVec.ofInt 64 (a : Int) ||| BitVec.ofInt 64 (b : Int)).toNat : Nat) = _
  rw [key, show ∀ m : Int, IntKind.i64.wrap m = w64 m from fun _ => rfl, w64_id (by omega)]
theorem or_step (a b : Nat) : a ||| b = 2 * (a / 2 ||| b / 2) + (bif (a % 2 == 1) || (b % 2 == 1) then 1 else 0) := by
  have h1 : (a ||| b) / 2 = a / 2 ||| b / 2 := Nat.or_div_two
  have h2 : (a ||| b) % 2 = bif (a % 2 == 1) || (b % 2 == 1) then 1 else 0 := by
    have ha : a % 2 = 0 ∨ a % 2 = 1 := by omega
    have hb : b % 2 = 0 ∨ b % 2 = 1 := by omega
    have h3 := Nat.or_mod_two_pow (a := a) (b := b) (n := 1)
    simp only [Nat.pow_one] at h3
    rw [h3]
    rcases ha with h | h <;> rcases hb with g | g <;> rw [h, g] <;> rfl
  rw [← h1, ← h2]
  omega
def bitN (a n : Nat) : Bool := a / 2 ^ n % 2 == 1
theorem or_bits {a b : Nat} (ha : a < 1024) (hb : b < 1024) (a0 : a % 2 = 0) (b0 : b % 2 = 0) : a ||| b = (bif bitN a 1 || bitN b 1 then 2 else 0) + (bif bitN a 2 || bitN b 2 then 4 else 0) + (bif bitN a 3 || bitN b 3 then 8 else 0) + (bif bitN a 4 || bitN b 4 then 16 else 0) + (bif bitN a 5 || bitN b 5 then 32 else 0) + (bif bitN a 6 || bitN b 6 then 64 else 0) + (bif bitN a 7 || bitN b 7 then 128 else 0) + (bif bitN a 8 || bitN b 8 then 256 else 0) + (bif bitN a 9 || bitN b 9 then 512 else 0) := by
  have hz : (a / 2 / 2 / 2 / 2 / 2 / 2 / 2 / 2 / 2 / 2 ||| b / 2 / 2 / 2 / 2 / 2 / 2 / 2 / 2 / 2 / 2) = 0 := by
    rw [show a / 2 / 2 / 2 / 2 / 2 / 2 / 2 / 2 / 2 / 2 = 0 by omega, show b / 2 / 2 / 2 / 2 / 2 / 2 / 2 / 2 / 2 / 2 = 0 by omega]; rfl
  rw [or_step a b, or_step (a / 2), or_step (a / 2 / 2), or_step (a / 2 / 2 / 2), or_step (a / 2 / 2 / 2 / 2), or_step (a / 2 / 2 / 2 / 2 / 2), or_step (a / 2 / 2 / 2 / 2 / 2 / 2), or_step (a / 2 / 2 / 2 / 2 / 2 / 2 / 2), or_step (a / 2 / 2 / 2 / 2 / 2 / 2 / 2 / 2), or_step (a / 2 / 2 / 2 / 2 / 2 / 2 / 2 / 2 / 2), hz]
  simp only [a0, b0, Nat.div_div_eq_div_mul, bitN]
  simp only [show (2 * 2 * 2 * 2 * 2 * 2 * 2 * 2 * 2 : Nat) = 2 ^ 9 from rfl, show (2 * 2 * 2 * 2 * 2 * 2 * 2 * 2 : Nat) = 2 ^ 8 from rfl, show (2 * 2 * 2 * 2 * 2 * 2 * 2 : Nat) = 2 ^ 7 from rfl, show (2 * 2 * 2 * 2 * 2 * 2 : Nat) = 2 ^ 6 from rfl, show (2 * 2 * 2 * 2 * 2 : Nat) = 2 ^ 5 from rfl, show (2 * 2 * 2 * 2 : Nat) = 2 ^ 4 from rfl, show (2 * 2 * 2 : Nat) = 2 ^ 3 from rfl, show (2 * 2 : Nat) = 2 ^ 2 from rfl, show (a / 2 : Nat) = a / 2 ^ 1 from rfl, show (b / 2 : Nat) = b / 2 ^ 1 from rfl]
  generalize (a / 2 ^ 1 % 2 == 1 || b / 2 ^ 1 % 2 == 1) = c1, (a / 2 ^ 2 % 2 == 1 || b / 2 ^ 2 % 2 == 1) = c2, (a / 2 ^ 3 % 2 == 1 || b / 2 ^ 3 % 2 == 1) = c3, (a / 2 ^ 4 % 2 == 1 || b / 2 ^ 4 % 2 == 1) = c4, (a / 2 ^ 5 % 2 == 1 || b / 2 ^ 5 % 2 == 1) = c5, (a / 2 ^ 6 % 2 == 1 || b / 2 ^ 6 % 2 == 1) = c6, (a / 2 ^ 7 % 2 == 1 || b / 2 ^ 7 % 2 == 1) = c7, (a / 2 ^ 8 % 2 == 1 || b / 2 ^ 8 % 2 == 1) = c8, (a / 2 ^ 9 % 2 == 1 || b / 2 ^ 9 % 2 == 1) = c9
  clear hz ha hb a0 b0
  revert c1 c2 c3 c4 c5 c6 c7 c8 c9
  decide
theorem bitO_nat (a n : Nat) : bitO (a : Int) ((n : Nat) : Int) = bitN a n := by
  unfold bitO bitN
  rw [Int.toNat_natCast, Bool.eq_iff_iff, beq_iff_eq, beq_iff_eq]
  have : ((a : Int) / 2 ^ n % 2) = ((a / 2 ^ n % 2 : Nat) : Int) := by norm_cast
  rw [this]
  omega
theorem hasI_owners {x : Int} (h : isLab x = true) (o : Int) (ho : o ∈ nine) : hasI (ownersV x) o = bitO x o := by
  unfold hasI ownersV
  rw [h, cond_true, Bool.eq_iff_iff, List.any_eq_true]
  constructor
  · rintro ⟨y, hy, e⟩
    obtain rfl := eq_of_beq e
    exact (List.mem_filter.1 hy).2
  · intro hb
    exact ⟨o, List.mem_filter.2 ⟨ho, hb⟩, beq_self_eq_true o⟩
theorem hasI_append (l m : List Int) (o : Int) : hasI (l ++ m) o = (hasI l o || hasI m o) := by simp [hasI]
def orL (x y : Int) : Int := bitop .or .i64 x y
theorem label_join {x y : Int} (hx : isLab x = true) (hy : isLab y = true) : labelV (ownersV x ++ ownersV y) = orL x y := by
  obtain ⟨x0, x1, x2⟩ := isLab_bd hx
  obtain ⟨y0, y1, y2⟩ := isLab_bd hy
  obtain ⟨a, rfl⟩ := Int.eq_ofNat_of_zero_le x0
  obtain ⟨b, rfl⟩ := Int.eq_ofNat_of_zero_le y0
  unfold orL
  rw [i64_or (by omega) (by omega), or_bits (by omega) (by omega) (by omega) (by omega)]
  unfold labelV
  have H : ∀ n : Nat, (n : Int) ∈ nine → hasI (ownersV (a : Int) ++ ownersV (b : Int)) ((n : Nat) : Int) = (bitN a n || bitN b n) := fun n hn => by rw [hasI_append, hasI_owners hx _ hn, hasI_owners hy _ hn, bitO_nat, bitO_nat]
  have h1 := H 1 (by decide)
  have h2 := H 2 (by decide)
  have h3 := H 3 (by decide)
  have h4 := H 4 (by decide)
  have h5 := H 5 (by decide)
  have h6 := H 6 (by decide)
  have h7 := H 7 (by decide)
  have h8 := H 8 (by decide)
  have h9 := H 9 (by decide)
  generalize ownersV (a : Int) ++ ownersV (b : Int) = L at *
  clear H
  simp only [Int.ofNat_eq_natCast, Int.cast_ofNat_Int] at h1 h2 h3 h4 h5 h6 h7 h8 h9
  simp only [nine, List.foldl_cons, List.foldl_nil]
  rw [show hasI L 1 = _ from h1, show hasI L 2 = _ from h2, show hasI L 3 = _ from h3, show hasI L 4 = _ from h4, show hasI L 5 = _ from h5, show hasI L 6 = _ from h6, show hasI L 7 = _ from h7, show hasI L 8 = _ from h8, show hasI L 9 = _ from h9]
  generalize (bitN a 1 || bitN b 1) = c1, (bitN a 2 || bitN b 2) = c2, (bitN a 3 || bitN b 3) = c3, (bitN a 4 || bitN b 4) = c4, (bitN a 5 || bitN b 5) = c5, (bitN a 6 || bitN b 6) = c6, (bitN a 7 || bitN b 7) = c7, (bitN a 8 || bitN b 8) = c8, (bitN a 9 || bitN b 9) = c9
  clear h1 h2 h3 h4 h5 h6 h7 h8 h9 hx hy x0 x1 x2 y0 y1 y2
  revert c1 c2 c3 c4 c5 c6 c7 c8 c9
  decide
theorem or_lab {x y : Int} (hx : isLab x = true) (hy : isLab y = true) : isLab (orL x y) = true := by
  obtain ⟨x0, x1, x2⟩ := isLab_bd hx
  obtain ⟨y0, y1, y2⟩ := isLab_bd hy
  obtain ⟨a, rfl⟩ := Int.eq_ofNat_of_zero_le x0
  obtain ⟨b, rfl⟩ := Int.eq_ofNat_of_zero_le y0
  unfold orL
  rw [i64_or (by omega) (by omega)]
  have h1 : a ||| b < 2 ^ 10 := Nat.or_lt_two_pow (by omega) (by omega)
  have h2 := or_step a b
  have h3 : (bif (a % 2 == 1) || (b % 2 == 1) then 1 else 0 : Nat) = 0 := by rw [show a % 2 = 0 by omega, show b % 2 = 0 by omega]; rfl
  rw [h3] at h2
  exact isLab_of (by omega) (by omega) (by omega)
theorem orL_assoc {x y z : Int} (hx : isLab x = true) (hy : isLab y = true) (hz : isLab z = true) : orL x (orL y z) = orL (orL x y) z := by
  have h1 := or_lab hx hy
  have h2 := or_lab hy hz
  obtain ⟨x0, x1, x2⟩ := isLab_bd hx
  obtain ⟨y0, y1, y2⟩ := isLab_bd hy
  obtain ⟨z0, z1, z2⟩ := isLab_bd hz
  obtain ⟨a, rfl⟩ := Int.eq_ofNat_of_zero_le x0
  obtain ⟨b, rfl⟩ := Int.eq_ofNat_of_zero_le y0
  obtain ⟨c, rfl⟩ := Int.eq_ofNat_of_zero_le z0
  unfold orL
  have g1 : a ||| b < 2 ^ 10 := Nat.or_lt_two_pow (by omega) (by omega)
  have g2 : b ||| c < 2 ^ 10 := Nat.or_lt_two_pow (by omega) (by omega)
  rw [i64_or (a := b) (by omega) (by omega), i64_or (a := a) (b := b) (by omega) (by omega), i64_or (by omega) (by omega), i64_or (by omega) (by omega), Nat.or_assoc]
theorem label_one {o : Int} (h1 : 1 ≤ o) (h9 : o ≤ 9) : labelV [o] = 2 ^ o.toNat ∧ isLab (2 ^ o.toNat) = true := by
  have : o = 1 ∨ o = 2 ∨ o = 3 ∨ o = 4 ∨ o = 5 ∨ o = 6 ∨ o = 7 ∨ o = 8 ∨ o = 9 := by omega
  rcases this with rfl | rfl | rfl | rfl | rfl | rfl | rfl | rfl | rfl <;> exact ⟨by decide, by decide⟩
def zeros : List Int := [0, 0, 0, 0, 0, 0]
abbrev PSt := List T_impl_Sent × List Int × List Int
def stp (vals : List Int) (o : T_impl_Op) (v b : List Int) : List Int × List Int :=
  bif o.f0 == 1 then (v.set o.f1.toNat (valV vals o.f2), b.set o.f1.toNat (2 ^ o.f2.toNat))
  else bif o.f0 == 2 then (v.set o.f1.toNat o.f2, b.set o.f1.toNat 0)
  else bif o.f0 == 3 then (v.set o.f1.toNat ((rd_i64 v o.f2 + rd_i64 v o.f3).tmod 1000), b.set o.f1.toNat (orL (rd_i64 b o.f2) (rd_i64 b o.f3)))
  else bif o.f0 == 4 then ((bif (rd_i64 v o.f2).tmod 2 == 0 then v.set o.f1.toNat (rd_i64 v o.f3) else v), b.set o.f1.toNat (orL (orL (rd_i64 b o.f1) (rd_i64 b o.f2)) (rd_i64 b o.f3)))
  else (v, b)
def snt (o : T_impl_Op) (v b : List Int) : List T_impl_Sent := bif o.f0 == 5 then [⟨o.f2, rd_i64 v o.f1, rd_i64 b o.f1⟩] else []
def runF (vals : List Int) (s : PSt) (o : T_impl_Op) : PSt := (s.1 ++ snt o s.2.1 s.2.2, stp vals o s.2.1 s.2.2)
def runV (vals : List Int) (l : List T_impl_Op) : PSt := l.foldl (runF vals) ([], zeros, zeros)
structure Regs (v b : List Int) : Prop where
  vl : v.length = 6
  bl : b.length = 6
  vr : ∀ x ∈ v, 0 ≤ x ∧ x ≤ 999
  br : ∀ x ∈ b, isLab x = true
theorem Regs.zero : Regs zeros zeros := ⟨rfl, rfl, by decide, by decide⟩
theorem rd_mem {l : List Int} {i : Int} (h : 0 ≤ i ∧ i < (l.length : Int)) : rd_i64 l i ∈ l := by
  obtain ⟨n, rfl⟩ := Int.eq_ofNat_of_zero_le h.1
  have hlt : n < l.length := by omega
  show l.getD n z_i64 ∈ l
  rw [List.getD_eq_getElem?_getD, List.getElem?_eq_getElem hlt]
  exact List.getElem_mem hlt
theorem Regs.val {v b : List Int} (h : Regs v b) {i : Int} (hi : inR i 0 5 = true) : 0 ≤ rd_i64 v i ∧ rd_i64 v i ≤ 999 := by
  have := inR_true.1 hi
  have h6 := h.vl
  exact h.vr _ (rd_mem (by omega))
theorem Regs.lab {v b : List Int} (h : Regs v b) {i : Int} (hi : inR i 0 5 = true) : isLab (rd_i64 b i) = true := by
  have := inR_true.1 hi
  have h6 := h.bl
  exact h.br _ (rd_mem (by omega))
theorem mem_set_or {α : Type} {l : List α} {n : Nat} {x y : α} (h : y ∈ l.set n x) : y ∈ l ∨ y = x := List.mem_or_eq_of_mem_set h
theorem Regs.set {v b : List Int} (h : Regs v b) (n m : Nat) {x y : Int} (hx : 0 ≤ x ∧ x ≤ 999) (hy : isLab y = true) : Regs (v.set n x) (b.set m y) :=
  ⟨by rw [List.length_set, h.vl], by rw [List.length_set, h.bl], fun z hz => (mem_set_or hz).elim (h.vr z) fun e => e ▸ hx, fun z hz => (mem_set_or hz).elim (h.br z) fun e => e ▸ hy⟩
theorem Regs.setb {v b : List Int} (h : Regs v b) (m : Nat) {y : Int} (hy : isLab y = true) : Regs v (b.set m y) :=
  ⟨h.vl, by rw [List.length_set, h.bl], h.vr, fun z hz => (mem_set_or hz).elim (h.br z) fun e => e ▸ hy⟩
/-- What a step is, by its kind. -/
theorem op_cases {o : T_impl_Op} (h : opOk o = true) : inR o.f1 0 5 = true ∧ ((o.f0 = 1 ∧ inR o.f2 1 9 = true) ∨ (o.f0 = 2 ∧ inR o.f2 0 999 = true) ∨ (o.f0 = 3 ∧ inR o.f2 0 5 = true ∧ inR o.f3 0 5 = true) ∨ (o.f0 = 4 ∧ inR o.f2 0 5 = true ∧ inR o.f3 0 5 = true) ∨ (o.f0 = 5 ∧ inR o.f2 1 9 = true)) := by
  unfold opOk isOpV at h
  rw [Bool.and_eq_true] at h
  refine ⟨h.1, ?_⟩
  have h2 := h.2
  split at h2
  · rename_i h3
    rw [Bool.and_eq_true] at h2
    rcases h3 with h3 | h3
    · exact .inl ⟨h3, h2.1⟩
    · exact .inr (.inr (.inr (.inr ⟨h3, h2.1⟩)))
  · split at h2
    · rename_i h3
      rw [Bool.and_eq_true] at h2
      exact .inr (.inl ⟨h3, h2.1⟩)
    · split at h2
      · rename_i h3
        rw [Bool.and_eq_true] at h2
        rcases h3 with h3 | h3
        · exact .inr (.inr (.inl ⟨h3, h2.1, h2.2⟩))
        · exact .inr (.inr (.inr (.inl ⟨h3, h2.1, h2.2⟩)))
      · cases h2
theorem add_mod {x y : Int} (hx : 0 ≤ x ∧ x ≤ 999) (hy : 0 ≤ y ∧ y ≤ 999) : w64 (x + y) = x + y ∧ 0 ≤ (x + y).tmod 1000 ∧ (x + y).tmod 1000 ≤ 999 := by
  refine ⟨w64_id (by omega), ?_⟩
  rw [Int.tmod_eq_emod_of_nonneg (by omega)]
  omega
theorem Regs.step {v b : List Int} (h : Regs v b) (vals : List Int) {o : T_impl_Op} (ho : opOk o = true) : Regs (stp vals o v b).1 (stp vals o v b).2 := by
  obtain ⟨hA, hc⟩ := op_cases ho
  unfold stp
  rcases hc with ⟨e, h2⟩ | ⟨e, h2⟩ | ⟨e, h2, h3⟩ | ⟨e, h2, h3⟩ | ⟨e, h2⟩ <;> rw [e]
  · have := inR_true.1 h2
    exact h.set _ _ (valV_rg _ _) (label_one this.1 this.2).2
  · exact h.set _ _ (inR_true.1 h2) rfl
  · exact h.set _ _ (add_mod (h.val h2) (h.val h3)).2 (or_lab (h.lab h2) (h.lab h3))
  · have hl := or_lab (or_lab (h.lab hA) (h.lab h2)) (h.lab h3)
    show Regs (bif (rd_i64 v o.f2).tmod 2 == 0 then v.set o.f1.toNat (rd_i64 v o.f3) else v) _
    cases (rd_i64 v o.f2).tmod 2 == 0
    · exact h.setb _ hl
    · exact h.set _ _ (h.val h3) hl
  · exact h
theorem snt_len (o : T_impl_Op) (v b : List Int) : (snt o v b).length ≤ 1 := by
  unfold snt; cases o.f0 == 5 <;> simp
/-- A step is one of the list's. -/
theorem all_at {α : Type} {p : α → Bool} {l : List α} (h : l.all p = true) {i : Nat} {x : α} (hx : l[i]? = some x) : p x = true := by
  rw [List.all_eq_true] at h
  exact h x (List.mem_of_getElem? hx)
theorem impl_executed_e {k : Nat} (hk : Big k) {l : List T_impl_Op} (hl : Ok l) {vals : List Int} (hv : Ok vals) (ha : l.all opOk = true) : impl_executed.f k l vals = some ((runV vals l).1, (runV vals l).2.2) := by
  have hl' := hl.out
  unfold impl_executed.f runV
  exact loop_fold (fun q i (s : PSt) => impl_executed.l3 k (l.length : Int) l vals (fun y z => some (y, z)) q i s.1 s.2.1 s.2.2) (runF vals) (fun i s => s.1.length ≤ i ∧ Regs s.2.1 s.2.2) (fun s => some (s.1, s.2.2)) l (fun n i o s hx hi => by
    obtain ⟨s, v, b⟩ := s
    obtain ⟨hs, hr⟩ := hi
    have hlt := lt_of hx
    obtain ⟨h1, h2, h3, h4⟩ := at_ hx (by omega)
    have ho := all_at ha hx
    obtain ⟨hA, hc⟩ := op_cases ho
    have A1 := inR_true.1 hA
    have v6 := hr.vl
    have b6 := hr.bl
    have gA0 : decide (0 ≤ o.f1) = true := decide_eq_true A1.1
    have gA6 : decide (o.f1 < 6) = true := decide_eq_true (by omega)
    simp only [impl_executed.l3, impl_executed.L3, rd_impl_Op, h1, h2, h3, h4, cond_true, runF, stp, snt]
    rcases hc with ⟨e, q2⟩ | ⟨e, q2⟩ | ⟨e, q2, q3⟩ | ⟨e, q2, q3⟩ | ⟨e, q2⟩
    · have B1 := inR_true.1 q2
      have hp := pow9 B1.1 B1.2
      simp only [e, beq_self_eq_true, cond_true, impl_valueOf_e k hv, Option.bind_some, v6, b6, gA0, gA6, Int.cast_ofNat_Int, decide_eq_false (show ¬ o.f2 < 0 by omega), cond_false]
      rw [Nat.min_eq_left (by omega), Int.one_mul, w64_id (by omega)]
      simp
    · simp [e, v6, b6, gA0, gA6]
    · have B1 := inR_true.1 q2
      have C1 := inR_true.1 q3
      have hm := (add_mod (hr.val q2) (hr.val q3)).1
      simp only [e, v6, b6, gA0, gA6, Int.cast_ofNat_Int, decide_eq_true B1.1, decide_eq_true C1.1, decide_eq_true (show o.f2 < 6 by omega), decide_eq_true (show o.f3 < 6 by omega), cond_true, hm, orL]
      simp
    · have B1 := inR_true.1 q2
      have C1 := inR_true.1 q3
      simp only [e, v6, b6, gA0, gA6, Int.cast_ofNat_Int, decide_eq_true B1.1, decide_eq_true C1.1, decide_eq_true (show o.f2 < 6 by omega), decide_eq_true (show o.f3 < 6 by omega), cond_true, orL]
      cases (rd_i64 v o.f2).tmod 2 == 0 <;> simp
    · have hcap : decide ((s.length + 1) * 24 ≤ cap48) = true := decide_eq_true (by unfold cap48; have : s.length ≤ i := hs; omega)
      simp only [e, v6, b6, gA0, gA6, Int.cast_ofNat_Int, cond_true, List.length_cons, List.length_nil, Nat.zero_add, hcap]
      simp) (fun i o s hx hi => by
    obtain ⟨s, v, b⟩ := s
    obtain ⟨hs, hr⟩ := hi
    have hn := snt_len o v b
    refine ⟨?_, hr.step vals (all_at ha hx)⟩
    show (s ++ snt o v b).length ≤ i + 1
    have : s.length ≤ i := hs
    simp; omega) (fun n s hi => by simp only [impl_executed.l3, impl_executed.L3, end_, cond_false]) k ([], zeros, zeros) (hk.lt hl) ⟨Nat.le_refl 0, Regs.zero⟩
theorem impl_IsLabel_e (k : Nat) (x : Int) : impl_IsLabel.f k x = some (isLab x) := by
  unfold impl_IsLabel.f isLab
  rw [impl_InRange_e, Option.bind_some]
  cases inR x 0 1022 <;> rfl
theorem impl_OwnersIn_e {k : Nat} (hk : Big k) (x : Int) : impl_OwnersIn.f k x = some (ownersV x) := by
  have hk' := hk.out
  unfold impl_OwnersIn.f ownersV
  rw [impl_IsLabel_e, Option.bind_some]
  cases h : isLab x with
  | false => rfl
  | true =>
    have := loop_fold (fun q i s => impl_OwnersIn.l5 k x (fun y3 => some y3) q (i + 1) s) (fun s o => bif bitO x o then s ++ [o] else s) (fun i s => s.length ≤ i) (fun s => some s) nine (fun n i o s hx hi => by
      obtain ⟨rfl, h9⟩ := nine_at hx
      have hp := pow9 (o := (i : Int) + 1) (by omega) (by omega)
      have hq := bit_q (o := (i : Int) + 1) h
      have hd : Int.fdiv x (2 ^ ((i : Int) + 1).toNat) = x / 2 ^ ((i : Int) + 1).toNat := Int.fdiv_eq_ediv_of_nonneg _ (by omega)
      simp only [impl_OwnersIn.l5, impl_OwnersIn.L5]
      rw [Nat.min_eq_left (by omega), hd, i64_and1 hq.1 hq.2, decide_eq_true (show (i : Int) + 1 ≤ 9 by omega), cond_true, decide_eq_false (by omega), cond_false, w64_id (by omega), decide_eq_true (by unfold cap48; simp; omega), cond_true]
      unfold bitO
      cases (x / 2 ^ ((i : Int) + 1).toNat % 2 == 1) <;> rfl) (fun i o s hx hi => by
      cases bitO x o
      · show s.length ≤ i + 1; omega
      · show (s ++ [o]).length ≤ i + 1; simp; omega) (fun n s hs => by
      simp only [impl_OwnersIn.l5, impl_OwnersIn.L5]
      rfl) k [] (by show 9 < k; omega) (Nat.le_refl 0)
    rw [foldl_filter] at this
    exact this
def isFlowV (a b c : Int) : Bool := inR a 1 5 && (inR b 1 9 && inR c 1 9)
theorem impl_IsFlow_e (k : Nat) (a b c : Int) : impl_IsFlow.f k a b c = some (isFlowV a b c) := by
  unfold impl_IsFlow.f isFlowV
  simp only [impl_InRange_e, Option.bind_some]
  cases inR a 1 5 <;> cases inR b 1 9 <;> simp
def hasF (l : List T_impl_Flow) (a b c : Int) : Bool := l.any fun x => (x.f0 == a) && ((x.f1 == b) && (x.f2 == c))
/-- A loop that gives the place where p holds first. -/
theorem loop_idx {α R : Type} (l : Nat → Int → Option R) (p : α → Bool) (X : R) (c : Int → Option R) (d : R → Bool) (xs : List α) (hX : d X = false) (hc : ∀ i : Nat, ∃ r, c (i : Int) = some r ∧ d r = true)
    (hs : ∀ n (i : Nat) x, xs[i]? = some x → l (n + 1) (i : Int) = bif p x then c (i : Int) else l n ((i + 1 : Nat) : Int)) (he : ∀ n, l (n + 1) (xs.length : Int) = some X) (n : Nat) (hn : xs.length < n) :
    ∃ r, l n 0 = some r ∧ d r = xs.any p := by
  have key : ∀ (suf pre : List α) n, xs = pre ++ suf → suf.length < n → ∃ r, l n (pre.length : Int) = some r ∧ d r = suf.any p := by
    intro suf
    induction suf with
    | nil =>
      intro pre n hx hn
      obtain ⟨n, rfl⟩ : ∃ q, n = q + 1 := ⟨n - 1, by simp at hn; omega⟩
      have e : pre.length = xs.length := by rw [hx]; simp
      rw [e, he n]
      exact ⟨X, rfl, hX⟩
    | cons x suf ih =>
      intro pre n hx hn
      obtain ⟨n, rfl⟩ : ∃ q, n = q + 1 := ⟨n - 1, by simp at hn; omega⟩
      have hg : xs[pre.length]? = some x := by rw [hx]; simp
      rw [hs n pre.length x hg, List.any_cons]
      cases hp : p x with
      | true =>
        obtain ⟨r, h1, h2⟩ := hc pre.length
        exact ⟨r, h1, h2⟩
      | false =>
        have := ih (pre ++ [x]) n (by rw [hx]; simp) (by simp at hn; omega)
        simpa using this
  exact key xs [] n rfl hn
theorem slices_Contains_Flow_e {k : Nat} (hk : Big k) {l : List T_impl_Flow} (hl : Ok l) (a b c : Int) : slices_Contains_Flow.f k l a b c = some (hasF l a b c) := by
  unfold slices_Contains_Flow.f slices_Index_Flow.f hasF
  obtain ⟨r, h1, h2⟩ := loop_idx (slices_Index_Flow.l2 k (l.length : Int) l a b c (fun y => some y) (fun _ => some (-1))) (fun x => (x.f0 == a) && ((x.f1 == b) && (x.f2 == c))) (-1) (fun i => some i) (fun r => decide (r ≥ 0)) l rfl (fun i => ⟨_, rfl, decide_eq_true (by omega)⟩) (fun n i x hx => by
    obtain ⟨h1, h2, h3, h4⟩ := at_ hx (by have := hl.out; omega)
    simp only [slices_Index_Flow.l2, slices_Index_Flow.L2, rd_impl_Flow, h1, h2, h3, h4, cond_true]
    rw [Bool.beq_comm (a := a), Bool.beq_comm (a := b), Bool.beq_comm (a := c)]) (fun n => by simp only [slices_Index_Flow.l2, slices_Index_Flow.L2, end_, cond_false]) k (hk.lt hl)
  rw [h1, Option.bind_some, h2]
def mayOne (l : List T_impl_Flow) (e t o : Int) : Bool := !(o != t) || (isFlowV e o t && hasF l e o t)
def mayV (l : List T_impl_Flow) (e x t : Int) : Bool := (ownersV x).all (mayOne l e t) && (isLab x && inR t 1 9)
theorem impl_MayFlow_e {k : Nat} (hk : Big k) {l : List T_impl_Flow} (hl : Ok l) (e x t : Int) : impl_MayFlow.f k l e x t = some (mayV l e x t) := by
  unfold impl_MayFlow.f mayV
  simp only [impl_IsLabel_e, impl_InRange_e, impl_OwnersIn_e hk, Option.bind_some]
  have hO := ownersV_ok x
  generalize ownersV x = L at hO
  rw [loop_all (impl_MayFlow.l4 k e t (L.length : Int) l L (fun y => some y) (fun _ => some true)) (mayOne l e t) (some true) (some false) L (fun n i o hx => by
    obtain ⟨h1, h2, h3, h4⟩ := at_ hx (by have := hO.out; omega)
    simp only [impl_MayFlow.l4, impl_MayFlow.L4, rd_i64, h1, h2, h3, h4, cond_true, impl_IsFlow_e, slices_Contains_Flow_e hk hl, Option.bind_some, mayOne]
    cases o != t <;> cases isFlowV e o t <;> cases hasF l e o t <;> rfl) (fun n => by
    simp only [impl_MayFlow.l4, impl_MayFlow.L4, end_, cond_false]) k (hk.lt hO)]
  cases L.all (mayOne l e t) <;> cases isLab x <;> cases inR t 1 9 <;> rfl
theorem run_len (vals : List Int) : ∀ (l : List T_impl_Op) (s : PSt), (l.foldl (runF vals) s).1.length ≤ s.1.length + l.length
  | [], s => by simp
  | o :: l, s => by
    have h := run_len vals l (runF vals s o)
    have hn := snt_len o s.2.1 s.2.2
    have : (runF vals s o).1.length = s.1.length + (snt o s.2.1 s.2.2).length := by simp [runF]
    rw [List.foldl_cons, List.length_cons]
    omega
theorem areOps_all {l : List T_impl_Op} (h : areOps l = true) : l.all opOk = true ∧ l.length ≤ 16 := by
  unfold areOps at h
  rw [Bool.and_eq_true] at h
  exact ⟨h.1, of_decide_eq_true h.2⟩
theorem sents_len {vals : List Int} {l : List T_impl_Op} (h : areOps l = true) : (runV vals l).1.length ≤ 16 := by
  have := run_len vals l ([], zeros, zeros)
  have h2 := (areOps_all h).2
  unfold runV
  simp only [List.length_nil] at this
  omega
def mayS (fl : List T_impl_Flow) (e : Int) (s : T_impl_Sent) : Bool := mayV fl e s.f2 s.f0
def sentsV (l : List T_impl_Op) (vals : List Int) (fl : List T_impl_Flow) (e : Int) : List T_impl_Sent := bif areOps l then (runV vals l).1.filter (mayS fl e) else []
theorem sentsV_len (l : List T_impl_Op) (vals : List Int) (fl : List T_impl_Flow) (e : Int) : (sentsV l vals fl e).length ≤ 16 := by
  unfold sentsV
  cases h : areOps l with
  | false => simp
  | true => exact Nat.le_trans (List.length_filter_le _ _) (sents_len h)
theorem impl_RunOps_e {k : Nat} (hk : Big k) {l : List T_impl_Op} (hl : Ok l) {vals : List Int} (hv : Ok vals) {fl : List T_impl_Flow} (hf : Ok fl) (e : Int) : impl_RunOps.f k l vals fl e = some (sentsV l vals fl e) := by
  unfold impl_RunOps.f sentsV
  rw [impl_AreOps_e hk hl, Option.bind_some]
  cases h : areOps l with
  | false => rfl
  | true =>
    rw [impl_executed_e hk hl hv (areOps_all h).1]
    have hs := sents_len (vals := vals) h
    simp only [Bool.not_true, cond_false, cond_true, Option.bind_some]
    generalize (runV vals l).1 = S at hs
    have := loop_fold (fun q i s => impl_RunOps.l6 k e (S.length : Int) l vals fl S (fun y => some y) q i s) (fun s x => bif mayS fl e x then s ++ [x] else s) (fun i s => s.length ≤ i) (fun s => some s) S (fun n i x s hx hi => by
      have hlt := lt_of hx
      obtain ⟨h1, h2, h3, h4⟩ := at_ hx (by omega)
      simp only [impl_RunOps.l6, impl_RunOps.L6, rd_impl_Sent, h1, h2, h3, h4, cond_true, impl_MayFlow_e hk hf, Option.bind_some, mayS]
      rw [decide_eq_true (by unfold cap48; simp; omega), cond_true]
      cases mayV fl e x.f2 x.f0 <;> rfl) (fun i x s hx hi => by
      cases mayS fl e x
      · show s.length ≤ i + 1; omega
      · show (s ++ [x]).length ≤ i + 1; simp; omega) (fun n s hi => by simp only [impl_RunOps.l6, impl_RunOps.L6, end_, cond_false]) k [] (by have := hk.out; omega) (Nat.le_refl 0)
    rw [foldl_filter] at this
    exact this
theorem impl_LabelsAfter_e {k : Nat} (hk : Big k) {l : List T_impl_Op} (hl : Ok l) : impl_LabelsAfter.f k l = some (bif areOps l then (runV [] l).2.2 else []) := by
  unfold impl_LabelsAfter.f
  rw [impl_AreOps_e hk hl, Option.bind_some]
  cases h : areOps l with
  | false => rfl
  | true =>
    have ha : l.all opOk = true := by unfold areOps at h; rw [Bool.and_eq_true] at h; exact h.1
    rw [impl_executed_e hk hl (Ok.small 0 (by simp)) ha]
    rfl
theorem run_regs (vals : List Int) : ∀ (l : List T_impl_Op) (s : PSt), l.all opOk = true → Regs s.2.1 s.2.2 → Regs (l.foldl (runF vals) s).2.1 (l.foldl (runF vals) s).2.2
  | [], s, _, h => h
  | o :: l, s, ha, h => by
    rw [List.all_cons, Bool.and_eq_true] at ha
    exact run_regs vals l _ ha.2 (h.step vals ha.1)
def addOne (e t : Int) (out : List T_impl_Flow) (o : Int) : List T_impl_Flow := bif (o != t) && !hasF out e o t then out ++ [⟨e, o, t⟩] else out
def addS (e : Int) (out : List T_impl_Flow) (s : T_impl_Sent) : List T_impl_Flow := (ownersV s.f2).foldl (addOne e s.f0) out
def needsV (l : List T_impl_Op) (e : Int) : List T_impl_Flow := bif areOps l then (runV [] l).1.foldl (addS e) [] else []
theorem addOne_len (e t : Int) (out : List T_impl_Flow) (o : Int) : (addOne e t out o).length ≤ out.length + 1 := by
  unfold addOne
  cases (o != t) && !hasF out e o t <;> simp
theorem addO_len (e t : Int) : ∀ (L : List Int) (out : List T_impl_Flow), (L.foldl (addOne e t) out).length ≤ out.length + L.length
  | [], out => by simp
  | o :: L, out => by
    have h1 := addO_len e t L (addOne e t out o)
    have h2 := addOne_len e t out o
    rw [List.foldl_cons, List.length_cons]
    omega
theorem addS_len (e : Int) (out : List T_impl_Flow) (s : T_impl_Sent) : (addS e out s).length ≤ out.length + 9 := by
  have h1 := addO_len e s.f0 (ownersV s.f2) out
  have h2 := ownersV_len s.f2
  unfold addS
  omega
theorem addSs_len (e : Int) : ∀ (S : List T_impl_Sent) (out : List T_impl_Flow), (S.foldl (addS e) out).length ≤ out.length + 9 * S.length
  | [], out => by simp
  | s :: S, out => by
    have h1 := addSs_len e S (addS e out s)
    have h2 := addS_len e out s
    rw [List.foldl_cons, List.length_cons]
    omega
theorem needsV_len (l : List T_impl_Op) (e : Int) : (needsV l e).length ≤ 144 := by
  unfold needsV
  cases h : areOps l with
  | false => simp
  | true =>
    have h1 := addSs_len e (runV [] l).1 []
    have h2 := sents_len (vals := []) h
    simp only [List.length_nil] at h1
    simp only [cond_true]
    omega
theorem needsV_ok (l : List T_impl_Op) (e : Int) : Ok (needsV l e) := Ok.small 144 (needsV_len l e)
theorem impl_NeedsFlows_in {k : Nat} (hk : Big k) (e x3 x4 : Int) (l : List T_impl_Op) (t v x : Int) (S : List T_impl_Sent) {R : Type} (X : List T_impl_Flow → Option R) {L : List Int} (hL : L.length ≤ 9) {out : List T_impl_Flow} (ho : out.length ≤ 1000) :
    impl_NeedsFlows.l9 k e x3 x4 (L.length : Int) l t v x S L X k 0 out = X (L.foldl (addOne e t) out) := by
  refine loop_fold (fun q i s => impl_NeedsFlows.l9 k e x3 x4 (L.length : Int) l t v x S L X q i s) (addOne e t) (fun i s => s.length ≤ out.length + i) X L (fun n i o s hx hi => ?_) (fun i o s hx hi => ?_) (fun n s hi => ?_) k out (by have := hk.out; omega) (Nat.le_refl _)
  · have hlt := lt_of hx
    obtain ⟨h1, h2, h3, h4⟩ := at_ hx (by omega)
    have hi : s.length ≤ out.length + i := hi
    simp only [impl_NeedsFlows.l9, impl_NeedsFlows.L9, rd_i64, h1, h2, h3, h4, cond_true, slices_Contains_Flow_e hk (Ok.small (l := s) 2000 (by omega)), Option.bind_some, addOne]
    rw [decide_eq_true (by unfold cap48; simp; omega), cond_true]
    cases o != t <;> cases hasF s e o t <;> rfl
  · have := addOne_len e t s o
    show (addOne e t s o).length ≤ out.length + (i + 1)
    have hi : s.length ≤ out.length + i := hi
    omega
  · simp only [impl_NeedsFlows.l9, impl_NeedsFlows.L9, end_, cond_false]
theorem impl_NeedsFlows_e {k : Nat} (hk : Big k) {l : List T_impl_Op} (hl : Ok l) (e : Int) : impl_NeedsFlows.f k l e = some (needsV l e) := by
  unfold impl_NeedsFlows.f needsV
  rw [impl_AreOps_e hk hl, Option.bind_some]
  cases h : areOps l with
  | false => rfl
  | true =>
    rw [impl_executed_e hk hl (Ok.small 0 (by simp)) (areOps_all h).1]
    have hs := sents_len (vals := []) h
    simp only [Bool.not_true, cond_false, cond_true, Option.bind_some]
    generalize (runV [] l).1 = S at hs
    exact loop_fold (fun q i s => impl_NeedsFlows.l6 k e (S.length : Int) l S (fun y => some y) q i s) (addS e) (fun i s => s.length ≤ 9 * i) (fun s => some s) S (fun n i x s hx hi => by
      have hlt := lt_of hx
      obtain ⟨h1, h2, h3, h4⟩ := at_ hx (by omega)
      have hi : s.length ≤ 9 * i := hi
      simp only [impl_NeedsFlows.l6, impl_NeedsFlows.L6, rd_impl_Sent, h1, h2, h3, h4, cond_true, impl_OwnersIn_e hk, Option.bind_some]
      rw [impl_NeedsFlows_in hk _ _ _ _ _ _ _ _ _ (ownersV_len x.f2) (by omega)]
      rfl) (fun i x s hx hi => by
      have := addS_len e s x
      show (addS e s x).length ≤ 9 * (i + 1)
      have hi : s.length ≤ 9 * i := hi
      omega) (fun n s hi => by simp only [impl_NeedsFlows.l6, impl_NeedsFlows.L6, end_, cond_false]) k [] (by have := hk.out; omega) (Nat.le_refl 0)
def eqZ {α : Type} (c : α → α → Bool) (l m : List α) : Bool := decide (l.length = m.length) && (l.zip m).all fun p => c p.1 p.2
theorem eqZ_refl {α : Type} {c : α → α → Bool} (h : ∀ x, c x x = true) (l : List α) : eqZ c l l = true := by
  unfold eqZ
  have : ∀ l : List α, ((l.zip l).all fun p => c p.1 p.2) = true := by
    intro l
    induction l with
    | nil => rfl
    | cons x xs ih => simp only [List.zip_cons_cons, List.all_cons, h, ih]; rfl
  rw [this]; simp
theorem eqZ_comm {α : Type} {c : α → α → Bool} (h : ∀ x y, c x y = c y x) (l m : List α) : eqZ c l m = eqZ c m l := by
  unfold eqZ
  have : ∀ l m : List α, ((l.zip m).all fun p => c p.1 p.2) = ((m.zip l).all fun p => c p.1 p.2) := by
    intro l
    induction l with
    | nil => intro m; cases m <;> rfl
    | cons x xs ih => intro m; cases m with
      | nil => rfl
      | cons y ys => simp only [List.zip_cons_cons, List.all_cons, h x y, ih ys]
  rw [this l m]
  congr 1
  rw [decide_eq_decide]; exact eq_comm
def cmpSent (x y : T_impl_Sent) : Bool := (((x.f0) == (y.f0)) && (((x.f1) == (y.f1)) && ((x.f2) == (y.f2))))
theorem cmpSent_refl (x : T_impl_Sent) : cmpSent x x = true := by simp [cmpSent]
theorem cmpSent_comm (x y : T_impl_Sent) : cmpSent x y = cmpSent y x := by
  unfold cmpSent
  simp only [Bool.beq_comm (b := y.f0)]
  congr 1
  all_goals simp only [Bool.beq_comm]
theorem slices_Equal_Sent_e {k : Nat} (hk : Big k) {l m : List T_impl_Sent} (hl : Ok l) : slices_Equal_Sent.f k l m = some (eqZ cmpSent l m) := by
  have hl' := hl.out
  unfold slices_Equal_Sent.f eqZ
  by_cases hlen : l.length = m.length
  · rw [show ((l.length : Int) != (m.length : Int)) = false from by simp [hlen], cond_false, decide_eq_true hlen, Bool.true_and]
    have hz : (l.zip m).length = l.length := by simp [hlen]
    rw [show k = k from rfl, loop_all (slices_Equal_Sent.l4 k (l.length : Int) l m (fun y => some y) (fun _ => some true)) (fun p => cmpSent p.1 p.2) (some true) (some false) (l.zip m) (fun n i p hp => by
      obtain ⟨hx, hy⟩ := List.getElem?_zip_eq_some.1 hp
      obtain ⟨h1, h2, h3, h4⟩ := at_ hx (by omega)
      obtain ⟨g1, g2, g3, g4⟩ := at_ hy (by omega)
      simp only [slices_Equal_Sent.l4, slices_Equal_Sent.L4, rd_impl_Sent, h1, h2, h3, h4, g1, g4, cond_true, cmpSent]
      cases (((p.1.f0) == (p.2.f0)) && (((p.1.f1) == (p.2.f1)) && ((p.1.f2) == (p.2.f2)))) <;> rfl) (fun n => by rw [hz]; simp only [slices_Equal_Sent.l4, slices_Equal_Sent.L4, end_, cond_false]) k (by rw [hz]; exact hk.lt hl)]
    cases (l.zip m).all fun p => cmpSent p.1 p.2 <;> rfl
  · rw [show ((l.length : Int) != (m.length : Int)) = true from by simp; omega, cond_true, decide_eq_false hlen, Bool.false_and]
def keyS (s : T_impl_Sent) : Int × Int := (s.f0, s.f2)
theorem stp_lab (vals vals' : List Int) (o : T_impl_Op) (v v' b : List Int) : (stp vals o v b).2 = (stp vals' o v' b).2 := by
  unfold stp
  cases o.f0 == 1 <;> cases o.f0 == 2 <;> cases o.f0 == 3 <;> cases o.f0 == 4 <;> rfl
theorem snt_key (o : T_impl_Op) (v v' b : List Int) : (snt o v b).map keyS = (snt o v' b).map keyS := by
  unfold snt
  cases o.f0 == 5 <;> rfl
theorem run_key (vals vals' : List Int) : ∀ (l : List T_impl_Op) (s s' : PSt), s.1.map keyS = s'.1.map keyS → s.2.2 = s'.2.2 → (l.foldl (runF vals) s).1.map keyS = (l.foldl (runF vals') s').1.map keyS ∧ (l.foldl (runF vals) s).2.2 = (l.foldl (runF vals') s').2.2
  | [], s, s', h1, h2 => ⟨h1, h2⟩
  | o :: l, s, s', h1, h2 => by
    rw [List.foldl_cons, List.foldl_cons]
    refine run_key vals vals' l _ _ ?_ ?_
    · show (s.1 ++ snt o s.2.1 s.2.2).map keyS = (s'.1 ++ snt o s'.2.1 s'.2.2).map keyS
      rw [List.map_append, List.map_append, h1, h2, snt_key o s.2.1 s'.2.1]
    · show (stp vals o s.2.1 s.2.2).2 = (stp vals' o s'.2.1 s'.2.2).2
      rw [h2]
      exact stp_lab _ _ _ _ _ _
theorem runV_key (vals vals' : List Int) (l : List T_impl_Op) : (runV vals l).1.map keyS = (runV vals' l).1.map keyS := (run_key vals vals' l _ _ rfl rfl).1
theorem runV_labs (vals vals' : List Int) (l : List T_impl_Op) : (runV vals l).2.2 = (runV vals' l).2.2 := (run_key vals vals' l ([], zeros, zeros) ([], zeros, zeros) rfl rfl).2
def sentOk (s : T_impl_Sent) : Prop := (0 ≤ s.f1 ∧ s.f1 ≤ 999) ∧ isLab s.f2 = true ∧ 1 ≤ s.f0 ∧ s.f0 ≤ 9
theorem run_ok (vals : List Int) : ∀ (l : List T_impl_Op) (s : PSt), l.all opOk = true → Regs s.2.1 s.2.2 → (∀ x ∈ s.1, sentOk x) → ∀ x ∈ (l.foldl (runF vals) s).1, sentOk x
  | [], s, _, _, h => h
  | o :: l, s, ha, hr, h => by
    rw [List.all_cons, Bool.and_eq_true] at ha
    obtain ⟨hA, hc⟩ := op_cases ha.1
    rw [List.foldl_cons]
    refine run_ok vals l _ ha.2 (hr.step vals ha.1) fun x hx => ?_
    rcases List.mem_append.1 hx with hx | hx
    · exact h x hx
    · unfold snt at hx
      cases h5 : o.f0 == 5 with
      | false => rw [h5] at hx; cases hx
      | true =>
        rw [h5] at hx
        obtain rfl := List.mem_singleton.1 hx
        have e5 := eq_of_beq h5
        refine ⟨hr.val hA, hr.lab hA, ?_⟩
        rcases hc with ⟨e, _⟩ | ⟨e, _⟩ | ⟨e, _⟩ | ⟨e, _⟩ | ⟨_, h2⟩
        · omega
        · omega
        · omega
        · omega
        · exact inR_true.1 h2
theorem runV_ok {l : List T_impl_Op} (vals : List Int) (h : areOps l = true) : ∀ x ∈ (runV vals l).1, sentOk x := run_ok vals l ([], zeros, zeros) (areOps_all h).1 Regs.zero fun x hx => by cases hx
theorem run_count (vals : List Int) : ∀ (l : List T_impl_Op) (s : PSt), (l.foldl (runF vals) s).1.length = s.1.length + (l.filter fun o => o.f0 == 5).length
  | [], s => by simp
  | o :: l, s => by
    rw [List.foldl_cons, run_count vals l]
    have : (runF vals s o).1.length = s.1.length + (snt o s.2.1 s.2.2).length := by simp [runF]
    rw [this]
    unfold snt
    cases h : o.f0 == 5 <;> simp [h] <;> omega
theorem count_fold (p : T_impl_Op → Bool) : ∀ (l : List T_impl_Op) (s : Int), l.foldl (fun s o => bif p o then s + 1 else s) s = s + ((l.filter p).length : Int)
  | [], s => by simp
  | o :: l, s => by
    rw [List.foldl_cons, count_fold p l]
    cases h : p o <;> simp [h] <;> omega
theorem hasF_app (l m : List T_impl_Flow) (a b c : Int) : hasF (l ++ m) a b c = (hasF l a b c || hasF m a b c) := by simp [hasF]
theorem addOne_mono {e t : Int} {out : List T_impl_Flow} {o a b c : Int} (h : hasF out a b c = true) : hasF (addOne e t out o) a b c = true := by
  unfold addOne
  cases (o != t) && !hasF out e o t
  · exact h
  · rw [cond_true, hasF_app, h]; rfl
theorem addOne_has {e t : Int} {out : List T_impl_Flow} {o : Int} (ho : o ≠ t) : hasF (addOne e t out o) e o t = true := by
  unfold addOne
  rw [bneT ho, Bool.true_and]
  cases h : hasF out e o t
  · rw [Bool.not_false, cond_true, hasF_app]; simp [hasF]
  · exact h
theorem addO_mono {e t a b c : Int} : ∀ (L : List Int) (out : List T_impl_Flow), hasF out a b c = true → hasF (L.foldl (addOne e t) out) a b c = true
  | [], _, h => h
  | o :: L, out, h => addO_mono L _ (addOne_mono h)
theorem addO_has {e t : Int} : ∀ (L : List Int) (out : List T_impl_Flow) (o : Int), o ∈ L → o ≠ t → hasF (L.foldl (addOne e t) out) e o t = true
  | x :: L, out, o, h, ho => by
    rw [List.foldl_cons]
    rcases List.mem_cons.1 h with rfl | h
    · exact addO_mono L _ (addOne_has ho)
    · exact addO_has L _ o h ho
theorem addS_mono {e a b c : Int} : ∀ (S : List T_impl_Sent) (out : List T_impl_Flow), hasF out a b c = true → hasF (S.foldl (addS e) out) a b c = true
  | [], _, h => h
  | s :: S, out, h => addS_mono S _ (addO_mono _ _ h)
theorem addS_has {e : Int} : ∀ (S : List T_impl_Sent) (out : List T_impl_Flow) (s : T_impl_Sent) (o : Int), s ∈ S → o ∈ ownersV s.f2 → o ≠ s.f0 → hasF (S.foldl (addS e) out) e o s.f0 = true
  | x :: S, out, s, o, h, ho, hne => by
    rw [List.foldl_cons]
    rcases List.mem_cons.1 h with rfl | h
    · exact addS_mono S _ (addO_has _ _ o ho hne)
    · exact addS_has S _ s o h ho hne
theorem owners_rg {x o : Int} (h : o ∈ ownersV x) : 1 ≤ o ∧ o ≤ 9 := by
  unfold ownersV at h
  cases hx : isLab x with
  | false => rw [hx] at h; cases h
  | true =>
    rw [hx, cond_true] at h
    have := (List.mem_filter.1 h).1
    simp [nine] at this
    omega
theorem may_need {l : List T_impl_Op} {vals : List Int} {e : Int} (h : areOps l = true) (he : 1 ≤ e ∧ e ≤ 5) : ∀ s ∈ (runV vals l).1, mayS (needsV l e) e s = true := by
  intro s hs
  obtain ⟨_, h2, h3⟩ := runV_ok vals h s hs
  have hk : keyS s ∈ (runV [] l).1.map keyS := by rw [← runV_key vals []]; exact List.mem_map.2 ⟨s, hs, rfl⟩
  obtain ⟨s2, hs2, e2⟩ := List.mem_map.1 hk
  obtain ⟨e3, e4⟩ := Prod.mk.inj e2
  unfold mayS mayV
  rw [Bool.and_eq_true, Bool.and_eq_true]
  refine ⟨List.all_eq_true.2 fun o ho => ?_, h2, inR_true.2 h3⟩
  unfold mayOne
  by_cases hne : o = s.f0
  · rw [hne]; simp
  · rw [bneT hne, Bool.not_true, Bool.false_or, Bool.and_eq_true]
    refine ⟨?_, ?_⟩
    · unfold isFlowV
      rw [Bool.and_eq_true, Bool.and_eq_true]
      exact ⟨inR_true.2 he, inR_true.2 (owners_rg ho), inR_true.2 h3⟩
    · unfold needsV
      rw [h, cond_true, ← e3]
      exact addS_has _ _ s2 o hs2 (by rw [e4]; exact ho) (by rw [e3]; exact hne)
theorem filter_all {α : Type} {p : α → Bool} {l : List α} (h : ∀ x ∈ l, p x = true) : l.filter p = l := List.filter_eq_self.2 h
theorem FnPrograms : ∀ (a0 : List Int), a0.length ≤ maxLen → (∀ x ∈ a0, likes (k_u8.enc k_u8.zero) (k_u8.enc x)) → ∃ k, laws_FnPrograms.f k a0 = some true := by
  intro l _ _
  obtain ⟨k, hk⟩ := big_some
  refine ⟨k, ?_⟩
  unfold laws_FnPrograms.f
  rw [laws_big_e, Option.bind_some]
  by_cases hbig : (l.length : Int) > 1048576
  · rw [decide_eq_true hbig]; rfl
  rw [decide_eq_false hbig, cond_false]
  have hl : Ok l := by unfold Ok; omega
  obtain ⟨⟨e, ops, vals, fl⟩, eD, he, s1, s2, s3⟩ := spec_DrawRunOps_t hk hl
  have ho : Ok ops := Ok.small 20 s1
  have hv : Ok vals := Ok.small 20 s2
  have hf : Ok fl := Ok.small 20 s3
  rw [eD, Option.bind_some]
  simp only
  simp only [impl_RunOps_e hk ho hv hf, impl_AreOps_e hk ho, spec_AreOps_e hk ho, impl_LabelsAfter_e hk ho, impl_NeedsFlows_e hk ho, impl_RunOps_e hk ho hv (needsV_ok ops e), Option.bind_some, beq_self_eq_true, Bool.not_true, cond_false]
  cases h : areOps ops with
  | false =>
    unfold sentsV needsV
    rw [h]
    rfl
  | true =>
    obtain ⟨ha, h16⟩ := areOps_all h
    have hS16 := sentsV_len ops vals fl e
    have hokS : ∀ s ∈ sentsV ops vals fl e, (mayS fl e s && (!decide (s.f1 < 0) && !decide (s.f1 > 999))) = true := by
      intro s hs
      unfold sentsV at hs
      rw [h, cond_true] at hs
      obtain ⟨h1, h2⟩ := List.mem_filter.1 hs
      obtain ⟨h3, _⟩ := runV_ok vals h s h1
      rw [h2, decide_eq_false (by omega), decide_eq_false (by omega)]; rfl
    have hcount : (sentsV ops vals fl e).length ≤ (ops.filter fun o => o.f0 == 5).length := by
      unfold sentsV
      rw [h, cond_true]
      have h1 := run_count vals ops ([], zeros, zeros)
      have h2 := List.length_filter_le (mayS fl e) (runV vals ops).1
      unfold runV at h2 ⊢
      simp only [List.length_nil, Nat.zero_add] at h1
      omega
    have hneed : (sentsV ops vals (needsV ops e) e).length = (ops.filter fun o => o.f0 == 5).length := by
      unfold sentsV
      rw [h, cond_true, filter_all (may_need h (by omega))]
      have h1 := run_count vals ops ([], zeros, zeros)
      simpa [runV] using h1
    have hB := run_regs [] ops ([], zeros, zeros) ha Regs.zero
    have hb6 := hB.bl
    simp only [Bool.not_true, cond_false, cond_true]
    have hSok : Ok (sentsV ops vals fl e) := Ok.small 16 hS16
    generalize hSe : sentsV ops vals fl e = S at hS16 hokS hcount hSok
    generalize hcn : (ops.filter fun o => o.f0 == 5).length = cn at hcount hneed
    have hcn20 : cn ≤ 20 := by rw [← hcn]; exact Nat.le_trans (List.length_filter_le _ _) s1
    change ((runV [] ops).2.2).length = 6 at hb6
    have hbr : ∀ x ∈ (runV [] ops).2.2, isLab x = true := hB.br
    generalize (runV [] ops).2.2 = bb at hb6 hbr
    rw [loop_all (laws_FnPrograms.l10 k e l ops vals fl S (fun y => some y) _) (fun s => mayS fl e s && (!decide (s.f1 < 0) && !decide (s.f1 > 999))) _ (some false) S (fun n i x hx => by
      obtain ⟨h1, h2, h3, h4⟩ := at_ hx (by omega)
      simp only [laws_FnPrograms.l10, laws_FnPrograms.L10, rd_impl_Sent, h1, h2, h3, h4, cond_true, impl_MayFlow_e hk hf, Option.bind_some, mayS]
      cases mayV fl e x.f2 x.f0 <;> cases decide (x.f1 < 0) <;> cases decide (x.f1 > 999) <;> rfl) (fun n => by simp only [laws_FnPrograms.l10, laws_FnPrograms.L10, end_, cond_false]; rfl) k (by have := hk.out; omega), List.all_eq_true.2 hokS, cond_true]
    refine (loop_fold (fun q i s => laws_FnPrograms.l16 k e l ops vals fl S _ q s i) (fun s o => bif o.f0 == 5 then s + 1 else s) (fun i s => 0 ≤ s ∧ s ≤ (i : Int)) _ ops (fun n i o s hx hi => by
      have hlt := lt_of hx
      obtain ⟨h1, h2, h3, h4⟩ := at_ hx (by omega)
      simp only [laws_FnPrograms.l16, laws_FnPrograms.L16, rd_impl_Op, h1, h2, h3, h4, cond_true]
      rw [w64_id (by omega)]
      cases o.f0 == 5 <;> rfl) (fun i o s hx hi => by
      cases o.f0 == 5
      · show 0 ≤ s ∧ s ≤ ((i + 1 : Nat) : Int); omega
      · show 0 ≤ s + 1 ∧ s + 1 ≤ ((i + 1 : Nat) : Int); omega) (fun n s hi => by simp only [laws_FnPrograms.l16, laws_FnPrograms.L16, end_, cond_false]; rfl) k 0 (by have := hk.out; omega) ⟨Int.le_refl 0, Int.le_refl 0⟩).trans ?_
    rw [count_fold, hcn, Int.zero_add]
    refine (loop_all (laws_FnPrograms.l22 k e (cn : Int) l ops vals fl S bb (fun y => some y) _) isLab _ (some false) bb (fun n i x hx => by
      obtain ⟨h1, h2, h3, h4⟩ := at_ hx (by omega)
      simp only [laws_FnPrograms.l22, laws_FnPrograms.L22, rd_i64, h1, h2, h3, h4, cond_true, impl_IsLabel_e, Option.bind_some]
      cases isLab x <;> rfl) (fun n => by simp only [laws_FnPrograms.l22, laws_FnPrograms.L22, end_, cond_false]; rfl) k (by have := hk.out; omega)).trans ?_
    rw [List.all_eq_true.2 hbr, cond_true, decide_eq_true (show (S.length : Int) ≤ (cn : Int) by omega), hneed, hb6]
    unfold impl_EqualSent.f
    simp only [slices_Equal_Sent_e hk hSok, eqZ_refl cmpSent_refl, Option.bind_some, beq_self_eq_true, cond_true]
    rfl
end Go.Proofs.Ythjdecnheaifkaa.PFnPrograms.Pure
