/- The law FnRolledBack as a statement over numbers and lists, with its proof; no conditions but the bounds of the values' types and of the slices' lengths. -/
import Derived.Test.YtmjflahlhgibnaaGreatDoorPFnRolledBack11
set_option linter.unusedVariables false
set_option linter.unusedSimpArgs false
namespace Go.Proofs.YtmjflahlhgibnaaGreatDoor.PFnRolledBack.Pure
open Go Go.Eng Go.Proofs
theorem laws_big_e (k : Nat) (l : List Int) : laws_big.f k l = some (decide ((l.length : Int) > 1048576)) := rfl
def Ret' {α : Type} (o : Option α) (P : α → Prop) : Prop := ∃ t, o = some t ∧ P t
theorem Ret'.bind {α β : Type} {o : Option α} {P : α → Prop} {f : α → Option β} {Q : β → Prop} (h : Ret' o P) (k : ∀ t, P t → Ret' (f t) Q) : Ret' (o.bind f) Q := by
  obtain ⟨t, rfl, ht⟩ := h
  exact k t ht
theorem Ret'.some {α : Type} {t : α} {P : α → Prop} (h : P t) : Ret' (Option.some t) P := ⟨t, rfl, h⟩
theorem Ret'.imp {α : Type} {o : Option α} {P Q : α → Prop} (h : Ret' o P) (k : ∀ t, P t → Q t) : Ret' o Q := by
  obtain ⟨t, e, ht⟩ := h
  exact ⟨t, e, k t ht⟩
theorem Ret'.bif {α : Type} {c : Bool} {x y : Option α} {P : α → Prop} (h : c = true → Ret' x P) (k : c = false → Ret' y P) : Ret' (bif c then x else y) P := by
  cases c
  · exact k rfl
  · exact h rfl
theorem i64_and255 (n : Int) : bitop .and .i64 n 255 = n % 256 := by
  have h127 : (BitVec.ofInt 64 255).toNat = 2 ^ 8 - 1 := by decide
  have key : (BitVec.ofInt 64 n &&& BitVec.ofInt 64 255).toNat = (n % ((2 ^ 64 : Nat) : Int)).toNat % 2 ^ 8 := by
    rw [BitVec.toNat_and, BitVec.toNat_ofInt, h127, Nat.and_two_pow_sub_one_eq_mod]
  show IntKind.i64.wrap ((BitVec.ofInt 64 n &&& BitVec.ofInt 64 255).toNat : Nat) = n % 256
  rw [key, show ∀ m : Int, IntKind.i64.wrap m = w64 m from fun _ => rfl, w64_id (by omega)]
  omega
def Pos (l : List Int) (p : Int) : Prop := 0 ≤ p ∧ p ≤ (l.length : Int) ∧ (l.length : Int) ≤ 1048576
theorem tmod_bd {b a : Int} (hb : 0 ≤ b) (ha : 0 < a) : 0 ≤ Int.tmod b a ∧ Int.tmod b a < a := by
  rw [Int.tmod_eq_emod_of_nonneg hb]
  exact ⟨Int.emod_nonneg _ (by omega), Int.emod_lt_of_pos _ ha⟩
theorem spec_l1New_l {l : List Int} (hl : Ok l) (k : Nat) : ∀ (n q : Nat) (h : Int) (i : Nat), 4000 ≤ i + n → i ≤ 4000 → n < q → Ret' (spec_l1New.l3 k l (fun y => some ((0 : Int), y)) q h (i : Int)) fun t => t.1 = 0 := by
  have hl' := hl.out
  intro n
  induction n with
  | zero =>
    intro q h i h1 h2 hq
    obtain ⟨q, rfl⟩ : ∃ j, q = j + 1 := ⟨q - 1, by omega⟩
    simp only [spec_l1New.l3, spec_l1New.L3]
    refine Ret'.bif (fun c => ?_) (fun c => .some rfl)
    rw [decide_eq_false (show ¬ ((i : Int) < 4000) by omega)]
    exact .some rfl
  | succ n ih =>
    intro q h i h1 h2 hq
    obtain ⟨q, rfl⟩ : ∃ j, q = j + 1 := ⟨q - 1, by omega⟩
    simp only [spec_l1New.l3, spec_l1New.L3]
    refine Ret'.bif (fun c => ?_) (fun c => .some rfl)
    refine Ret'.bif (fun c2 => ?_) (fun c2 => .some rfl)
    have c2 := of_decide_eq_true c2
    rw [nn_, cond_true, c, cond_true, w64_id (n := (i : Int) + 1) (by omega)]
    exact ih q _ (i + 1) (by omega) (by omega) (by omega)
theorem spec_l1New_t {k : Nat} (hk : Big k) {l : List Int} (hl : Ok l) : Ret' (spec_l1New.f k l) fun t => Pos l t.1 := by
  have hl' := hl.out
  have hk' := hk.out
  unfold spec_l1New.f
  exact (spec_l1New_l hl k 4000 k _ 0 (by omega) (by omega) (by omega)).imp fun t ht => by rw [ht]; unfold Pos; omega
theorem spec_l1Byte_t (k : Nat) {l : List Int} {p : Int} (h : Int) (hp : Pos l p) : Ret' (spec_l1Byte.f k l p h) fun t => Pos l t.2.1 ∧ 0 ≤ t.1 ∧ t.1 ≤ 255 := by
  obtain ⟨h0, h1, h2⟩ := hp
  unfold spec_l1Byte.f
  simp only [i64_and255]
  refine Ret'.bif (fun c => ?_) (fun c => .some ⟨⟨h0, h1, h2⟩, by simp only; omega, by simp only; omega⟩)
  have c := of_decide_eq_true c
  rw [decide_eq_true h0, cond_true, decide_eq_true c, cond_true]
  exact .some ⟨by simp only; rw [w64_id (by omega)]; unfold Pos; omega, by simp only; omega, by simp only; omega⟩
theorem spec_l1Below_t (k : Nat) {l : List Int} {p : Int} (h : Int) (hp : Pos l p) (a : Int) (ha : 0 < a) : Ret' (spec_l1Below.f k l p h a) fun t => Pos l t.2.1 ∧ 0 ≤ t.1 ∧ t.1 < a := by
  unfold spec_l1Below.f
  rw [decide_eq_false (show ¬ a ≤ 0 by omega), cond_false]
  refine Ret'.bif (fun c => ?_) (fun c => ?_)
  · refine (spec_l1Byte_t k h hp).bind fun t ⟨q, b0, b1⟩ => ?_
    rw [decide_eq_false (show ¬ a = 0 by omega), cond_false]
    exact .some ⟨q, tmod_bd b0 ha⟩
  · refine (spec_l1Byte_t k h hp).bind fun t ⟨q, b0, b1⟩ => (spec_l1Byte_t k _ q).bind fun t2 ⟨q2, c0, c1⟩ => (spec_l1Byte_t k _ q2).bind fun t3 ⟨q3, d0, d1⟩ => ?_
    rw [decide_eq_false (show ¬ a = 0 by omega), cond_false, w64_id (n := t.1 * 65536) (by omega), w64_id (n := t2.1 * 256) (by omega), w64_id (n := t.1 * 65536 + t2.1 * 256) (by omega), w64_id (by omega)]
    exact .some ⟨q3, tmod_bd (by omega) ha⟩
theorem spec_l9Pattern_t (k : Nat) {l : List Int} {p : Int} (h : Int) (hp : Pos l p) : Ret' (spec_l9Pattern.f k l p h) fun t => Pos l t.2.2.1 := by
  unfold spec_l9Pattern.f
  exact (spec_l1Below_t k h hp 5 (by decide)).bind fun t ⟨q, _⟩ => (spec_l1Below_t k _ q 4 (by decide)).bind fun t ⟨q, _⟩ => .some q
theorem spec_l1Once_t (k : Nat) {l : List Int} {p : Int} (h : Int) (hp : Pos l p) (a : Int) (ha : 0 < a) : Ret' (spec_l1Once.f k l p h a) fun t => Pos l t.2.1 := by
  unfold spec_l1Once.f
  exact (spec_l1Below_t k h hp a ha).bind fun t ⟨q, _⟩ => .some q
theorem spec_l10Draw_t (k : Nat) {l : List Int} {p : Int} (h : Int) (hp : Pos l p) : Ret' (spec_l10Draw.f k l p h) fun t => Pos l t.2.2.2.2.2.2.2.1 := by
  unfold spec_l10Draw.f
  exact (spec_l1Below_t k h hp 9 (by decide)).bind fun t ⟨q, _⟩ => (spec_l1Below_t k _ q 3 (by decide)).bind fun t ⟨q, _⟩ => (spec_l9Pattern_t k _ q).bind fun t q => (spec_l1Below_t k _ q 4 (by decide)).bind fun t ⟨q, _⟩ => (spec_l1Below_t k _ q 12 (by decide)).bind fun t ⟨q, _⟩ => (spec_l1Once_t k _ q 4 (by decide)).bind fun t q => .some q
theorem spec_l20Draw_t (k : Nat) {l : List Int} {p : Int} (h : Int) (hp : Pos l p) : Ret' (spec_l20Draw.f k l p h) fun t => Pos l t.2.2.2.1 := by
  unfold spec_l20Draw.f
  exact (spec_l1Below_t k h hp 3 (by decide)).bind fun t ⟨q, _⟩ => (spec_l1Below_t k _ q 4 (by decide)).bind fun t ⟨q, _⟩ => (spec_l1Below_t k _ q 4 (by decide)).bind fun t ⟨q, _⟩ => .some q
theorem spec_l9Site_t (k : Nat) {l : List Int} {p : Int} (h : Int) (hp : Pos l p) : Ret' (spec_l9Site.f k l p h) fun t => Pos l t.2.2.1 := by
  unfold spec_l9Site.f
  exact (spec_l1Below_t k h hp 4 (by decide)).bind fun t ⟨q, _⟩ => (spec_l1Below_t k _ q 3 (by decide)).bind fun t ⟨q, _⟩ => .some q
theorem spec_l13Draw_t (k : Nat) {l : List Int} {p : Int} (h : Int) (hp : Pos l p) : Ret' (spec_l13Draw.f k l p h) fun t => Pos l t.2.2.2.2.2.2.2.2.1 := by
  unfold spec_l13Draw.f
  exact (spec_l1Below_t k h hp 3 (by decide)).bind fun t ⟨q, _⟩ => (spec_l1Below_t k _ q 3 (by decide)).bind fun t ⟨q, _⟩ => (spec_l9Pattern_t k _ q).bind fun t q => (spec_l1Below_t k _ q 3 (by decide)).bind fun t ⟨q, _⟩ => (spec_l1Below_t k _ q 3 (by decide)).bind fun t ⟨q, _⟩ =>
    .bif (fun _ => (spec_l9Site_t k _ q).bind fun t q => .some q) fun _ => .some q
theorem spec_l21Op_t (k : Nat) {l : List Int} {p : Int} (h : Int) (hp : Pos l p) : Ret' (spec_l21Op.f k l p h) fun t => Pos l t.2.2.2.2.1 := by
  unfold spec_l21Op.f
  exact (spec_l1Below_t k h hp 5 (by decide)).bind fun t ⟨q, _⟩ => (spec_l1Below_t k _ q 4 (by decide)).bind fun t ⟨q, _⟩ =>
    .bif (fun _ => (spec_l1Below_t k _ q 4 (by decide)).bind fun t ⟨q, _⟩ => .some q) fun _ => .bif (fun _ => (spec_l1Below_t k _ q 4 (by decide)).bind fun t ⟨q, _⟩ => .some q) fun _ => .bif (fun _ => (spec_l1Below_t k _ q 20 (by decide)).bind fun t ⟨q, _⟩ => .some q) fun _ =>
    (spec_l1Below_t k _ q 4 (by decide)).bind fun t ⟨q, _⟩ => (spec_l1Below_t k _ q 4 (by decide)).bind fun t ⟨q, _⟩ => .some q
theorem loop_down {σ R : Type} (l : Nat → Int → Int → Int → List σ → Option R) (B : Nat) (I : Int → Prop) (Q : R → Prop)
    (hs : ∀ q (n : Nat) p h s, I p → s.length + (n + 1) ≤ B → (∀ p' h' x, I p' → Ret' (l q (n : Int) p' h' (s ++ [x])) Q) → Ret' (l (q + 1) ((n + 1 : Nat) : Int) p h s) Q)
    (he : ∀ q p h s, I p → s.length ≤ B → Ret' (l (q + 1) 0 p h s) Q) : ∀ (n q : Nat) p h s, n < q → I p → s.length + n ≤ B → Ret' (l q (n : Int) p h s) Q := by
  intro n
  induction n with
  | zero =>
    intro q p h s hq hp hb
    obtain ⟨q, rfl⟩ : ∃ j, q = j + 1 := ⟨q - 1, by omega⟩
    exact he q p h s hp hb
  | succ n ih =>
    intro q p h s hq hp hb
    obtain ⟨q, rfl⟩ : ∃ j, q = j + 1 := ⟨q - 1, by omega⟩
    exact hs q n p h s hp hb fun p' h' x hp' => ih q p' h' (s ++ [x]) (by omega) hp' (by simp; omega)
theorem down1 (n : Nat) (hn : n ≤ 1000000) : w64 (((n + 1 : Nat) : Int) - 1) = (n : Int) := by rw [w64_id (by omega)]; omega
theorem down_gt (n : Nat) : decide (((n + 1 : Nat) : Int) > 0) = true := decide_eq_true (by omega)
theorem spec_l21Ops_t {k : Nat} (hk : Big k) {l : List Int} {p : Int} (h : Int) (hp : Pos l p) : Ret' (spec_l21Ops.f k l p h) fun t => Pos l t.1 ∧ t.2.2.length ≤ 20 := by
  have hk' := hk.out
  unfold spec_l21Ops.f
  refine (spec_l1Below_t k h hp 10 (by decide)).bind fun t ⟨q, b0, b1⟩ => ?_
  obtain ⟨n, hn⟩ := Int.eq_ofNat_of_zero_le b0
  rw [hn]
  refine loop_down (spec_l21Ops.l3 k l fun y4 y5 y6 => some (y4, y5, y6)) 20 (Pos l) _ (fun q n p h s hp hb ih => ?_) (fun q p h s hp hb => ?_) n k _ _ [] (by omega) q (by simp; omega)
  · simp only [spec_l21Ops.l3, spec_l21Ops.L3, down_gt, cond_true, down1 n (by omega)]
    refine (spec_l21Op_t k h hp).bind fun t q => ?_
    rw [decide_eq_true (by unfold cap48; simp; omega), cond_true]
    exact ih _ _ _ q
  · exact .some ⟨hp, hb⟩
theorem spec_l26Copy_e (k : Nat) (a b c : Int) {g : List T_impl_Grant} {f : List T_impl_Flow} {r : List T_impl_Rule} {o : List T_impl_Op} (d : Int) (hg : Ok g) (hf : Ok f) (hr : Ok r) (ho : Ok o) :
    spec_l26Copy.f k a b c g f r o d = some (a, b, c, d, g, f, r, o) := by
  have := hg.out; have := hf.out; have := hr.out; have := ho.out
  unfold spec_l26Copy.f
  rw [decide_eq_true (by unfold cap48; simp; omega), decide_eq_true (by unfold cap48; simp; omega), decide_eq_true (by unfold cap48; simp; omega), decide_eq_true (by unfold cap48; simp; omega)]
  rfl
theorem spec_l1In_e (k : Nat) (n a b : Int) : spec_l1In.f k n a b = some (inR n a b) := by
  unfold spec_l1In.f inR
  by_cases h : a ≤ n <;> simp [h]
theorem spec_IsValidKey_e (k : Nat) (n : Int) : spec_IsValidKey.f k n = some (inR n 1 2147483646) := by
  unfold spec_IsValidKey.f
  rw [spec_l1In_e, Option.bind_some]
def isPattern (a b : Int) : Bool := inR a 0 9 && inR b (-1) 9
theorem spec_IsPattern_e (k : Nat) (a b : Int) : spec_IsPattern.f k a b = some (isPattern a b) := by
  unfold spec_IsPattern.f isPattern
  simp only [spec_l1In_e, Option.bind_some]
  cases inR a 0 9 <;> simp
def isGrant (e a b kd f u : Int) : Bool := inR e 1 5 && (isPattern a b && (inR kd 1 4 && (decide (0 ≤ f) && (decide (f ≤ u) && decide (u ≤ 10000)))))
theorem spec_IsGrant_e (k : Nat) (e a b kd f u : Int) (cl : Bool) : spec_IsGrant.f k e a b kd f u cl = some (isGrant e a b kd f u) := by
  unfold spec_IsGrant.f isGrant
  simp only [spec_l1In_e, spec_IsPattern_e, Option.bind_some, ge_iff_le]
  cases inR e 1 5 <;> cases isPattern a b <;> cases inR kd 1 4 <;> by_cases h1 : 0 ≤ f <;> by_cases h2 : f ≤ u <;> simp [h1, h2]
def isFlowV (a b c : Int) : Bool := inR a 1 5 && (inR b 1 9 && inR c 1 9)
theorem spec_IsFlow_e (k : Nat) (a b c : Int) : spec_IsFlow.f k a b c = some (isFlowV a b c) := by
  unfold spec_IsFlow.f isFlowV
  simp only [spec_l1In_e, Option.bind_some]
  cases inR a 1 5 <;> cases inR b 1 9 <;> simp
def isSiteV (a b : Int) : Bool := inR a 1 9 && inR b 0 9
theorem spec_IsSite_e (k : Nat) (a b : Int) : spec_IsSite.f k a b = some (isSiteV a b) := by
  unfold spec_IsSite.f isSiteV
  simp only [spec_l1In_e, Option.bind_some]
  cases inR a 1 9 <;> simp
def isRuleV (e o p q kd a s1 s2 : Int) : Bool := inR e 1 5 && (inR o 1 9 && (isPattern p q && (inR kd 0 4 && (inR a 1 3 && (if a = 3 then isSiteV s1 s2 else (s1 == 0 && s2 == 0))))))
theorem spec_IsRule_e (k : Nat) (e o p q kd a s1 s2 : Int) : spec_IsRule.f k e o p q kd a s1 s2 = some (isRuleV e o p q kd a s1 s2) := by
  unfold spec_IsRule.f isRuleV
  simp only [spec_l1In_e, spec_IsPattern_e, spec_IsSite_e, Option.bind_some]
  cases inR e 1 5 <;> cases inR o 1 9 <;> cases isPattern p q <;> cases inR kd 0 4 <;> cases inR a 1 3 <;> (by_cases h : a = 3 <;> cases isSiteV s1 s2 <;> first | (simp [h]; done) | simp [h, beqF h, bneT h])
def isOpV (kd a b c : Int) : Bool := inR a 0 5 && (if kd = 1 ∨ kd = 5 then inR b 1 9 && c == 0 else if kd = 2 then inR b 0 999 && c == 0 else if kd = 3 ∨ kd = 4 then inR b 0 5 && inR c 0 5 else false)
theorem spec_l21Ok_e (k : Nat) (kd a b c : Int) : spec_l21Ok.f k kd a b c = some (isOpV kd a b c) := by
  unfold spec_l21Ok.f isOpV
  simp only [spec_l1In_e, Option.bind_some]
  cases inR a 0 5 <;>
  · by_cases h1 : kd = 1
    · subst h1; cases inR b 1 9 <;> simp
    · by_cases h5 : kd = 5
      · subst h5; cases inR b 1 9 <;> simp
      · by_cases h2 : kd = 2
        · subst h2; cases inR b 0 999 <;> simp
        · by_cases h3 : kd = 3
          · subst h3; cases inR b 0 5 <;> simp
          · by_cases h4 : kd = 4
            · subst h4; cases inR b 0 5 <;> simp
            · simp [h1, h2, h3, h4, h5, beqF h1, beqF h2, beqF h3, beqF h4, beqF h5]
def opOk (x : T_impl_Op) : Bool := isOpV x.f0 x.f1 x.f2 x.f3
def areOps (l : List T_impl_Op) : Bool := l.all opOk && decide (l.length ≤ 16)
theorem spec_AreOps_e {k : Nat} (hk : Big k) {l : List T_impl_Op} (hl : Ok l) : spec_AreOps.f k l = some (areOps l) := by
  unfold spec_AreOps.f areOps
  rw [loop_all (spec_AreOps.l2 k l (fun y => some y) (fun _ => some (decide ((l.length : Int) ≤ 16)))) opOk (some (decide ((l.length : Int) ≤ 16))) (some false) l (fun n i x hx => by
    obtain ⟨h1, h2, h3, h4⟩ := at_ hx (by have := hl.out; omega)
    simp only [spec_AreOps.l2, spec_AreOps.L2, rd_impl_Op, h1, h2, h3, h4, spec_l21Ok_e, Option.bind_some, cond_true]
    cases hp : opOk x <;> simp only [opOk] at hp <;> rw [hp] <;> rfl) (fun n => by simp only [spec_AreOps.l2, spec_AreOps.L2, end_, cond_false]) k (hk.lt hl)]
  have : decide ((l.length : Int) ≤ 16) = decide (l.length ≤ 16) := by rw [decide_eq_decide]; omega
  rw [this]
  cases l.all opOk <;> rfl
def gAt (a : Int) (x : T_impl_Grant) : Bool := isGrant x.f0 x.f1.f0 x.f1.f1 x.f2 x.f3 x.f4 && x.f0 == a
def fAt (a : Int) (x : T_impl_Flow) : Bool := isFlowV x.f0 x.f1 x.f2 && x.f0 == a
def rAt (a : Int) (x : T_impl_Rule) : Bool := isRuleV x.f0 x.f1 x.f2.f0 x.f2.f1 x.f3 x.f4 x.f5.f0 x.f5.f1 && x.f0 == a
def isPk (a b c : Int) (g : List T_impl_Grant) (f : List T_impl_Flow) (r : List T_impl_Rule) (o : List T_impl_Op) : Bool :=
  inR a 1 5 && (inR b 1 9 && (inR c 1 999 && (decide (g.length ≤ 6) && (decide (f.length ≤ 6) && (decide (r.length ≤ 6) && (areOps o && (g.all (gAt a) && (f.all (fAt a) && r.all (rAt a)))))))))
theorem spec_IsPackage_e {k : Nat} (hk : Big k) (a b c : Int) {g : List T_impl_Grant} {f : List T_impl_Flow} {r : List T_impl_Rule} {o : List T_impl_Op} (d : Int) (hg : Ok g) (hf : Ok f) (hr : Ok r) (ho : Ok o) :
    spec_IsPackage.f k a b c g f r o d = some (isPk a b c g f r o) := by
  unfold spec_IsPackage.f isPk
  have t1 : ∀ X1, spec_IsPackage.l4 k g f r o a b c d (fun y => some y) X1 k 0 = bif g.all (gAt a) then X1 () else some false := fun X1 =>
    loop_all _ (gAt a) _ _ g (fun n i x hx => by
      obtain ⟨h1, h2, h3, h4⟩ := at_ hx (by have := hg.out; omega)
      simp only [spec_IsPackage.l4, spec_IsPackage.L4, rd_impl_Grant, h1, h2, h3, h4, spec_IsGrant_e, Option.bind_some, cond_true, gAt, bne]
      cases isGrant x.f0 x.f1.f0 x.f1.f1 x.f2 x.f3 x.f4 <;> cases (x.f0 == a) <;> rfl) (fun n => by simp only [spec_IsPackage.l4, spec_IsPackage.L4, end_, cond_false]) k (hk.lt hg)
  have t2 : ∀ X1, spec_IsPackage.l9 k g f r o a b c d (fun y => some y) X1 k 0 = bif f.all (fAt a) then X1 () else some false := fun X1 =>
    loop_all _ (fAt a) _ _ f (fun n i x hx => by
      obtain ⟨h1, h2, h3, h4⟩ := at_ hx (by have := hf.out; omega)
      simp only [spec_IsPackage.l9, spec_IsPackage.L9, rd_impl_Flow, h1, h2, h3, h4, spec_IsFlow_e, Option.bind_some, cond_true, fAt, bne]
      cases isFlowV x.f0 x.f1 x.f2 <;> cases (x.f0 == a) <;> rfl) (fun n => by simp only [spec_IsPackage.l9, spec_IsPackage.L9, end_, cond_false]) k (hk.lt hf)
  have t3 : ∀ X1, spec_IsPackage.l14 k g f r o a b c d (fun y => some y) X1 k 0 = bif r.all (rAt a) then X1 () else some false := fun X1 =>
    loop_all _ (rAt a) _ _ r (fun n i x hx => by
      obtain ⟨h1, h2, h3, h4⟩ := at_ hx (by have := hr.out; omega)
      simp only [spec_IsPackage.l14, spec_IsPackage.L14, rd_impl_Rule, h1, h2, h3, h4, spec_IsRule_e, Option.bind_some, cond_true, rAt, bne]
      cases isRuleV x.f0 x.f1 x.f2.f0 x.f2.f1 x.f3 x.f4 x.f5.f0 x.f5.f1 <;> cases (x.f0 == a) <;> rfl) (fun n => by simp only [spec_IsPackage.l14, spec_IsPackage.L14, end_, cond_false]) k (hk.lt hr)
  simp only [spec_l1In_e, Option.bind_some, spec_AreOps_e hk ho, t1, t2, t3]
  have e : ∀ n : Nat, decide ((n : Int) > 6) = !decide (n ≤ 6) := fun n => by by_cases h : n ≤ 6 <;> simp [h] <;> omega
  rw [e, e, e]
  cases inR a 1 5 <;> cases inR b 1 9 <;> cases inR c 1 999 <;> cases decide (g.length ≤ 6) <;> cases decide (f.length ≤ 6) <;> cases decide (r.length ≤ 6) <;> try rfl
  cases areOps o <;> cases g.all (gAt a) <;> cases f.all (fAt a) <;> cases r.all (rAt a) <;> rfl
def gInts (x : T_impl_Grant) : List Int := [x.f1.f0, x.f1.f1, x.f2, x.f3, x.f4, bif x.f5 then 1 else 0]
def fInts (x : T_impl_Flow) : List Int := [x.f1, x.f2]
def rInts (x : T_impl_Rule) : List Int := [x.f1, x.f2.f0, x.f2.f1, x.f3, x.f4, x.f5.f0, x.f5.f1]
def oInts (x : T_impl_Op) : List Int := [x.f0, x.f1, x.f2, x.f3]
def pkInts (a b c : Int) (g : List T_impl_Grant) (f : List T_impl_Flow) (r : List T_impl_Rule) (o : List T_impl_Op) : List Int :=
  ((((([a, b, c, (g.length : Int)] ++ g.flatMap gInts) ++ [(f.length : Int)]) ++ f.flatMap fInts) ++ [(r.length : Int)]) ++ r.flatMap rInts) ++ [(o.length : Int)] ++ o.flatMap oInts
theorem isPk_len {a b c : Int} {g : List T_impl_Grant} {f : List T_impl_Flow} {r : List T_impl_Rule} {o : List T_impl_Op} (h : isPk a b c g f r o = true) : g.length ≤ 6 ∧ f.length ≤ 6 ∧ r.length ≤ 6 ∧ o.length ≤ 16 := by
  unfold isPk areOps at h
  simp only [Bool.and_eq_true, decide_eq_true_eq] at h
  exact ⟨h.2.2.2.1, h.2.2.2.2.1, h.2.2.2.2.2.1, h.2.2.2.2.2.2.1.2⟩
theorem fm_len {α β : Type} (f : α → List β) (n : Nat) (h : ∀ x, (f x).length = n) (l : List α) : (l.flatMap f).length = l.length * n := by
  induction l with
  | nil => simp
  | cons x xs ih => simp [List.flatMap_cons, h, ih, Nat.add_mul]; omega
/-- A loop that appends to a list of numbers, within a bound. -/
theorem loop_app {α R : Type} (l : Nat → Int → List Int → Option R) (f : α → List Int) (m : Nat) (hm : ∀ x, (f x).length = m) (B : Nat) (X : List Int → Option R) (xs : List α)
    (hs : ∀ n (i : Nat) x s, xs[i]? = some x → s.length + m ≤ B → l (n + 1) (i : Int) s = l n ((i + 1 : Nat) : Int) (s ++ f x)) (he : ∀ n s, l (n + 1) (xs.length : Int) s = X s) (n : Nat) (s : List Int) (hn : xs.length < n) (hB : s.length + xs.length * m ≤ B) :
    l n 0 s = X (s ++ xs.flatMap f) := by
  have := loop_fold l (fun s x => s ++ f x) (fun i s => s.length + (xs.length - i) * m ≤ B) X xs (fun n i x s hx hi => hs n i x s hx (by
      have := lt_of hx
      have e : (xs.length - i) * m = (xs.length - i - 1) * m + m := by rw [← Nat.succ_mul]; congr 1; omega
      have hi : s.length + (xs.length - i) * m ≤ B := hi
      omega)) (fun i x s hx hi => by
      have := lt_of hx
      have e : (xs.length - i) * m = (xs.length - (i + 1)) * m + m := by rw [← Nat.succ_mul]; congr 1; omega
      have hi : s.length + (xs.length - i) * m ≤ B := hi
      show (s ++ f x).length + (xs.length - (i + 1)) * m ≤ B
      rw [List.length_append, hm]; omega) (fun n s _ => he n s) n s hn (by simpa using hB)
  rw [this, foldl_append]
theorem cap8 {a b : Nat} (h : a + b ≤ 1000000) : decide ((a + b) * 8 ≤ cap48) = true := decide_eq_true (by unfold cap48; omega)
theorem spec_PackageInts_e {k : Nat} (hk : Big k) (a b c : Int) {g : List T_impl_Grant} {f : List T_impl_Flow} {r : List T_impl_Rule} {o : List T_impl_Op} (d : Int) (hg : Ok g) (hf : Ok f) (hr : Ok r) (ho : Ok o) :
    spec_PackageInts.f k a b c g f r o d = some (bif isPk a b c g f r o then pkInts a b c g f r o else []) := by
  unfold spec_PackageInts.f
  simp only [spec_IsPackage_e hk a b c d hg hf hr ho, Option.bind_some]
  cases hp : isPk a b c g f r o with
  | false => rfl
  | true =>
    obtain ⟨l1, l2, l3, l4⟩ := isPk_len hp
    have t1 : ∀ (X : List Int → Option (List Int)) s, s.length ≤ 1000 → spec_PackageInts.l5 k g f r o a b c d X k 0 s = X (s ++ g.flatMap gInts) := fun X s hs =>
      loop_app _ gInts 6 (fun _ => rfl) 1040 X g (fun n i x s hx hb => by
        obtain ⟨h1, h2, h3, h4⟩ := at_ hx (by omega)
        simp only [spec_PackageInts.l5, spec_PackageInts.L5, rd_impl_Grant, h1, h2, h3, h4, cond_true]
        cases hc : x.f5 <;> simp only [cond_true, cond_false, gInts, hc] <;> rw [cap8 (by simp only [List.length_cons, List.length_nil]; omega)] <;> rfl) (fun n s => by simp only [spec_PackageInts.l5, spec_PackageInts.L5, end_, cond_false]) k s (hk.lt hg) (by omega)
    have t2 : ∀ (X : List Int → Option (List Int)) s, s.length ≤ 1100 → spec_PackageInts.l14 k g f r o a b c d X k 0 s = X (s ++ f.flatMap fInts) := fun X s hs =>
      loop_app _ fInts 2 (fun _ => rfl) 1140 X f (fun n i x s hx hb => by
        obtain ⟨h1, h2, h3, h4⟩ := at_ hx (by omega)
        simp only [spec_PackageInts.l14, spec_PackageInts.L14, rd_impl_Flow, h1, h2, h3, h4, cond_true, fInts]
        rw [cap8 (by simp only [List.length_cons, List.length_nil]; omega)]; rfl) (fun n s => by simp only [spec_PackageInts.l14, spec_PackageInts.L14, end_, cond_false]) k s (hk.lt hf) (by omega)
    have t3 : ∀ (X : List Int → Option (List Int)) s, s.length ≤ 1200 → spec_PackageInts.l19 k g f r o a b c d X k 0 s = X (s ++ r.flatMap rInts) := fun X s hs =>
      loop_app _ rInts 7 (fun _ => rfl) 1260 X r (fun n i x s hx hb => by
        obtain ⟨h1, h2, h3, h4⟩ := at_ hx (by omega)
        simp only [spec_PackageInts.l19, spec_PackageInts.L19, rd_impl_Rule, h1, h2, h3, h4, cond_true, rInts]
        rw [cap8 (by simp only [List.length_cons, List.length_nil]; omega)]; rfl) (fun n s => by simp only [spec_PackageInts.l19, spec_PackageInts.L19, end_, cond_false]) k s (hk.lt hr) (by omega)
    have t4 : ∀ (X : List Int → Option (List Int)) s, s.length ≤ 1300 → spec_PackageInts.l25 k g f r o a b c d X k 0 s = X (s ++ o.flatMap oInts) := fun X s hs =>
      loop_app _ oInts 4 (fun _ => rfl) 1400 X o (fun n i x s hx hb => by
        obtain ⟨h1, h2, h3, h4⟩ := at_ hx (by omega)
        simp only [spec_PackageInts.l25, spec_PackageInts.L25, rd_impl_Op, h1, h2, h3, h4, cond_true, oInts]
        rw [cap8 (by simp only [List.length_cons, List.length_nil]; omega)]; rfl) (fun n s => by simp only [spec_PackageInts.l25, spec_PackageInts.L25, end_, cond_false]) k s (hk.lt ho) (by omega)
    have n1 := fm_len gInts 6 (fun _ => rfl) g
    have n2 := fm_len fInts 2 (fun _ => rfl) f
    have n3 := fm_len rInts 7 (fun _ => rfl) r
    rw [Bool.not_true, cond_false, cond_true, t1 _ _ (by simp)]
    rw [cap8 (by simp only [List.length_append, List.length_cons, List.length_nil]; omega), cond_true, t2 _ _ (by simp only [List.length_append, List.length_cons, List.length_nil]; omega)]
    rw [cap8 (by simp only [List.length_append, List.length_cons, List.length_nil]; omega), cond_true, t3 _ _ (by simp only [List.length_append, List.length_cons, List.length_nil]; omega)]
    rw [cap8 (by simp only [List.length_append, List.length_cons, List.length_nil]; omega), cond_true, t4 _ _ (by simp only [List.length_append, List.length_cons, List.length_nil]; omega)]
    rfl
def M31 : Int := 2147483647
def fold1 (h v : Int) : Int := (w64 ((w64 ((w64 (h * (1000003 : Int))) + v % 2147483647)) + (13 : Int))).tmod (2147483647 : Int)
theorem tmod31 (a : Int) : -2147483647 < a.tmod 2147483647 ∧ a.tmod 2147483647 < 2147483647 := by
  constructor
  · have := Int.lt_tmod_of_pos a (show (0 : Int) < 2147483647 by decide); omega
  · exact Int.tmod_lt_of_pos a (by decide)
theorem tmod31_neg (a : Int) (h : a.tmod 2147483647 < 0) : a.tmod 2147483647 + 2147483647 = a % 2147483647 := by
  rw [Int.tmod_eq_emod] at h ⊢
  have h1 := Int.emod_nonneg a (show (2147483647 : Int) ≠ 0 by decide)
  split at h
  · omega
  · rename_i hn; rw [if_neg hn]; omega
theorem tmod31_nn (a : Int) (h : ¬ a.tmod 2147483647 < 0) : a.tmod 2147483647 = a % 2147483647 := by
  rw [Int.tmod_eq_emod] at h ⊢
  have h1 := Int.emod_lt_of_pos a (show (0 : Int) < 2147483647 by decide)
  split at h
  · rename_i hn; rw [if_pos hn]; omega
  · rename_i hn
    exfalso
    omega
theorem spec_Mod_e (k : Nat) (a : Int) : spec_Mod.f k a 2147483647 = some (a % 2147483647) := by
  unfold spec_Mod.f
  rw [spec_l1In_e, Option.bind_some, show inR 2147483647 1 1000000000000 = true from rfl]
  simp only [Bool.not_true, cond_false, show decide ((2147483647 : Int) = 0) = false from rfl, Option.some.injEq]
  have h0 := tmod31 a
  rw [w64_id (by omega)]
  by_cases h : a.tmod 2147483647 < 0
  · rw [tmod31_neg a h, Int.tmod_eq_of_lt (Int.emod_nonneg _ (by decide)) (Int.emod_lt_of_pos _ (by decide))]
  · have e := tmod31_nn a h
    rw [Int.tmod_eq_emod_of_nonneg (by omega), e]
    omega
theorem spec_Hash_e {k : Nat} (hk : Big k) {l : List Int} (hl : l.length ≤ 1100000) : spec_Hash.f k l = some (l.foldl fold1 11) := by
  unfold spec_Hash.f
  exact loop_fold (fun n i s => spec_Hash.l3 k l (fun y => some y) n s i) fold1 (fun _ _ => True) (fun y => some y) l (fun n i x s hx _ => by
    obtain ⟨h1, h2, h3, h4⟩ := at_ hx (by omega)
    simp only [spec_Hash.l3, spec_Hash.L3, rd_i64, h1, h2, h3, h4, cond_true, spec_Mod_e, Option.bind_some, fold1]) (fun _ _ _ _ _ => trivial)
    (fun n s _ => by simp only [spec_Hash.l3, spec_Hash.L3, end_, cond_false]) k 11 (by have := hk.out; omega) trivial
def keyed (key : Int) (l : List Int) : Int := (([key] ++ l) ++ [key]).foldl fold1 11
theorem spec_KeyedHash_e {k : Nat} (hk : Big k) (key : Int) {l : List Int} (hl : l.length ≤ 1000000) : spec_KeyedHash.f k key l = some (keyed key l) := by
  unfold spec_KeyedHash.f keyed
  have c1 : decide ((([key] : List Int).length + l.length) * 8 ≤ cap48) = true := decide_eq_true (by unfold cap48; simp; omega)
  have c2 : decide (((([key] : List Int) ++ l).length + ([key] : List Int).length) * 8 ≤ cap48) = true := decide_eq_true (by unfold cap48; simp; omega)
  rw [c1, c2, cond_true, cond_true, spec_Hash_e hk (by simp; omega), Option.bind_some]
def sealV (key a b c : Int) (g : List T_impl_Grant) (f : List T_impl_Flow) (r : List T_impl_Rule) (o : List T_impl_Op) : Int :=
  bif inR key 1 2147483646 && isPk a b c g f r o then keyed key (pkInts a b c g f r o) else 0
theorem pkInts_len {a b c : Int} {g : List T_impl_Grant} {f : List T_impl_Flow} {r : List T_impl_Rule} {o : List T_impl_Op} (h : isPk a b c g f r o = true) : (pkInts a b c g f r o).length ≤ 1000000 := by
  obtain ⟨l1, l2, l3, l4⟩ := isPk_len h
  have n1 := fm_len gInts 6 (fun _ => rfl) g
  have n2 := fm_len fInts 2 (fun _ => rfl) f
  have n3 := fm_len rInts 7 (fun _ => rfl) r
  have n4 := fm_len oInts 4 (fun _ => rfl) o
  unfold pkInts
  simp only [List.length_append, List.length_cons, List.length_nil]
  omega
theorem spec_SealPackage_e {k : Nat} (hk : Big k) (key a b c : Int) {g : List T_impl_Grant} {f : List T_impl_Flow} {r : List T_impl_Rule} {o : List T_impl_Op} (d : Int) (hg : Ok g) (hf : Ok f) (hr : Ok r) (ho : Ok o) :
    spec_SealPackage.f k key a b c g f r o d = some (a, b, c, sealV key a b c g f r o, g, f, r, o) := by
  unfold spec_SealPackage.f sealV
  simp only [spec_l26Copy_e k a b c d hg hf hr ho, spec_IsValidKey_e, spec_IsPackage_e hk a b c d hg hf hr ho, spec_PackageInts_e hk a b c d hg hf hr ho, Option.bind_some]
  cases inR key 1 2147483646 with
  | false => rfl
  | true =>
    cases hp : isPk a b c g f r o with
    | false => rfl
    | true =>
      simp only [cond_true, Bool.true_and, spec_KeyedHash_e hk key (pkInts_len hp), Option.bind_some]
def R64 (n : Int) : Prop := -9223372036854775808 ≤ n ∧ n ≤ 9223372036854775807
theorem spec_l26Draw_r {k : Nat} (hk : Big k) {l : List Int} {p : Int} (h : Int) (hp : Pos l p) (e : Int) : Ret' (spec_l26Draw.f k l p h e) fun t => t.1 = e ∧ R64 t.2.2.1 ∧ Pos l t.2.2.2.2.1 ∧ t.2.2.2.2.2.2.1.length ≤ 20 ∧ t.2.2.2.2.2.2.2.1.length ≤ 20 ∧ t.2.2.2.2.2.2.2.2.1.length ≤ 20 ∧ t.2.2.2.2.2.2.2.2.2.length ≤ 20 := by
  have hk' := hk.out
  unfold spec_l26Draw.f
  refine (spec_l1Below_t k h hp 3 (by decide)).bind fun t1 ⟨q, _⟩ => (spec_l1Below_t k _ q 3 (by decide)).bind fun t2 ⟨q, _⟩ => (spec_l21Ops_t hk _ q).bind fun t3 ⟨q, ho⟩ => (spec_l1Below_t k _ q 4 (by decide)).bind fun t4 ⟨q, b0, b1⟩ => ?_
  obtain ⟨n, hn⟩ := Int.eq_ofNat_of_zero_le b0
  rw [hn]
  refine loop_down (spec_l26Draw.l3 k _ l _ _ _ _ _ _ _ _ _ _ _ _ _ _ _ _) 20 (Pos l) _ (fun q n p h s hp hb ih => ?_) (fun q p h s hp hg => ?_) n k _ _ [] (by omega) q (by simp; omega)
  · simp only [spec_l26Draw.l3, spec_l26Draw.L3, down_gt, cond_true, down1 n (by omega)]
    refine (spec_l10Draw_t k h hp).bind fun t q => ?_
    rw [decide_eq_true (by unfold cap48; simp; omega), cond_true]
    exact ih _ _ _ q
  show Ret' ((spec_l1Below.f k l p h 4).bind _) _
  refine (spec_l1Below_t k h hp 4 (by decide)).bind fun t5 ⟨q, b0, b1⟩ => ?_
  obtain ⟨n, hn⟩ := Int.eq_ofNat_of_zero_le b0
  rw [hn]
  refine loop_down (spec_l26Draw.l9 k _ l _ _ _ _ _ _ _ _ _ _ _ _ _ _ _ _) 20 (Pos l) _ (fun q n p h s hp hb ih => ?_) (fun q p h s hp hf => ?_) n k _ _ [] (by omega) q (by simp; omega)
  · simp only [spec_l26Draw.l9, spec_l26Draw.L9, down_gt, cond_true, down1 n (by omega)]
    refine (spec_l20Draw_t k h hp).bind fun t q => ?_
    rw [decide_eq_true (by unfold cap48; simp; omega), cond_true]
    exact ih _ _ _ q
  show Ret' ((spec_l1Below.f k l p h 3).bind _) _
  refine (spec_l1Below_t k h hp 3 (by decide)).bind fun t6 ⟨q, b0, b1⟩ => ?_
  obtain ⟨n, hn⟩ := Int.eq_ofNat_of_zero_le b0
  rw [hn]
  refine loop_down (spec_l26Draw.l15 k _ l _ _ _ _ _ _ _ _ _ _ _ _ _ _ _ _) 20 (Pos l) _ (fun q n p h s hp hb ih => ?_) (fun q p h s hp hr => ?_) n k _ _ [] (by omega) q (by simp; omega)
  · simp only [spec_l26Draw.l15, spec_l26Draw.L15, down_gt, cond_true, down1 n (by omega)]
    refine (spec_l13Draw_t k h hp).bind fun t q => ?_
    rw [decide_eq_true (by unfold cap48; simp; omega), cond_true]
    exact ih _ _ _ q
  show Ret' ((spec_SealPackage.f k _ _ _ _ _ _ _ _ _).bind _) _
  rw [spec_SealPackage_e hk _ _ _ _ _ (Ok.small 20 hg) (Ok.small 20 hf) (Ok.small 20 hr) (Ok.small 20 ho), Option.bind_some]
  exact .some ⟨rfl, w64_bd _, hp, hg, hf, hr, ho⟩
theorem spec_l1Int_m (k : Nat) {l : List Int} {p : Int} (h : Int) (hp : Pos l p) (xs : List Int) (hx : 0 < (xs.length : Int)) : Ret' (spec_l1Int.f k l p h xs) fun t => Pos l t.2.1 ∧ t.1 ∈ xs := by
  unfold spec_l1Int.f
  refine (spec_l1Below_t k h hp _ hx).bind fun t ⟨q, b0, b1⟩ => ?_
  rw [decide_eq_true b0, cond_true, decide_eq_true b1, cond_true]
  refine .some ⟨q, ?_⟩
  obtain ⟨n, hn⟩ := Int.eq_ofNat_of_zero_le b0
  have hlt : n < xs.length := by omega
  simp only [rd_i64, hn]
  show xs.getD n z_i64 ∈ xs
  rw [List.getD_eq_getElem?_getD, List.getElem?_eq_getElem hlt]
  exact List.getElem_mem hlt
theorem spec_l9Raw_m (k : Nat) {l : List Int} {p : Int} (h : Int) (hp : Pos l p) : Ret' (spec_l9Raw.f k l p h) fun t => Pos l t.2.1 ∧ R64 t.1 := by
  unfold spec_l9Raw.f
  exact (spec_l1Int_m k h hp _ (by decide)).bind fun t ⟨q, m⟩ => .some ⟨q, by simp at m; unfold R64; simp only; omega⟩
theorem spec_l9Raw_t (k : Nat) {l : List Int} {p : Int} (h : Int) (hp : Pos l p) : Ret' (spec_l9Raw.f k l p h) fun t => Pos l t.2.1 := by
  unfold spec_l9Raw.f
  exact (spec_l1Int_m k h hp _ (by decide)).bind fun t ⟨q, _⟩ => .some q
theorem spec_l9Any_t (k : Nat) {l : List Int} {p : Int} (h : Int) (hp : Pos l p) : Ret' (spec_l9Any.f k l p h) fun t => Pos l t.2.2.1 := by
  unfold spec_l9Any.f
  exact (spec_l9Pattern_t k h hp).bind fun t q => (spec_l1Below_t k _ q 10 (by decide)).bind fun t2 ⟨q, _⟩ =>
    .bif (fun _ => (spec_l9Raw_t k _ q).bind fun t q => .some q) fun _ => .bif (fun _ => (spec_l9Raw_t k _ q).bind fun t q => .some q) fun _ => .some q
theorem spec_l10Any_t (k : Nat) {l : List Int} {p : Int} (h : Int) (hp : Pos l p) : Ret' (spec_l10Any.f k l p h) fun t => Pos l t.2.2.2.2.2.2.2.1 := by
  unfold spec_l10Any.f
  exact (spec_l10Draw_t k h hp).bind fun t q => (spec_l1Below_t k _ q 12 (by decide)).bind fun t2 ⟨q, _⟩ =>
    .bif (fun _ => (spec_l9Raw_t k _ q).bind fun t q => .some q) fun _ => .bif (fun _ => (spec_l1Int_m k _ q _ (by decide)).bind fun t q => .some q.1) fun _ => .bif (fun _ => (spec_l1Int_m k _ q _ (by decide)).bind fun t q => .some q.1) fun _ =>
    .bif (fun _ => (spec_l1Int_m k _ q _ (by decide)).bind fun t q => .some q.1) fun _ => .bif (fun _ => (spec_l9Any_t k _ q).bind fun t q => .some q) fun _ => .some q
theorem spec_l13Any_t (k : Nat) {l : List Int} {p : Int} (h : Int) (hp : Pos l p) : Ret' (spec_l13Any.f k l p h) fun t => Pos l t.2.2.2.2.2.2.2.2.1 := by
  unfold spec_l13Any.f
  exact (spec_l13Draw_t k h hp).bind fun t q => (spec_l1Below_t k _ q 12 (by decide)).bind fun t2 ⟨q, _⟩ =>
    .bif (fun _ => (spec_l9Raw_t k _ q).bind fun t q => .some q) fun _ => .bif (fun _ => (spec_l1Int_m k _ q _ (by decide)).bind fun t q => .some q.1) fun _ => .bif (fun _ => (spec_l9Any_t k _ q).bind fun t q => .some q) fun _ =>
    .bif (fun _ => (spec_l1Int_m k _ q _ (by decide)).bind fun t q => .some q.1) fun _ => .bif (fun _ => (spec_l1Int_m k _ q _ (by decide)).bind fun t q => .some q.1) fun _ => .bif (fun _ => (spec_l9Raw_t k _ q).bind fun t q => .some q) fun _ => .some q
theorem spec_l21Any_l (k : Nat) (l : List Int) (a b : Int) : ∀ (n q : Nat) (s : List T_impl_Op), 17 ≤ s.length + n → s.length ≤ 20 → n < q → Ret' (spec_l21Any.l15 k a b l (fun y => some (a, b, y)) q s) fun t => t.1 = a ∧ t.2.2.length ≤ 20 := by
  intro n
  induction n with
  | zero =>
    intro q s h1 h2 hq
    obtain ⟨q, rfl⟩ : ∃ j, q = j + 1 := ⟨q - 1, by omega⟩
    simp only [spec_l21Any.l15, spec_l21Any.L15]
    rw [decide_eq_false (by omega)]
    exact .some ⟨rfl, h2⟩
  | succ n ih =>
    intro q s h1 h2 hq
    obtain ⟨q, rfl⟩ : ∃ j, q = j + 1 := ⟨q - 1, by omega⟩
    simp only [spec_l21Any.l15, spec_l21Any.L15]
    refine .bif (fun c => ?_) fun c => .some ⟨rfl, h2⟩
    have c := of_decide_eq_true c
    rw [decide_eq_true (by unfold cap48; simp; omega), cond_true]
    exact ih q _ (by simp; omega) (by simp; omega) (by omega)
theorem spec_l21Any_t {k : Nat} (hk : Big k) {l : List Int} {p : Int} (h : Int) (hp : Pos l p) : Ret' (spec_l21Any.f k l p h) fun t => Pos l t.1 ∧ t.2.2.length ≤ 20 := by
  have hk' := hk.out
  unfold spec_l21Any.f
  refine (spec_l21Ops_t hk h hp).bind fun t1 ⟨q, hl⟩ => .bif (fun _ => .some ⟨q, hl⟩) fun c => ?_
  have c : ¬ ((t1.2.2.length : Int) = 0) := by simpa using c
  have hset : ∀ (i : Nat) (x : T_impl_Op), (t1.2.2.set i x).length ≤ 20 := fun i x => by simpa using hl
  refine (spec_l1Below_t k _ q _ (by omega)).bind fun t2 ⟨q, b0, b1⟩ => (spec_l1Below_t k _ q 12 (by decide)).bind fun t3 ⟨q, _⟩ => ?_
  simp only [decide_eq_true b0, decide_eq_true b1, cond_true]
  exact .bif (fun _ => (spec_l1Int_m k _ q _ (by decide)).bind fun t q => .some ⟨q.1, hset _ _⟩) fun _ => .bif (fun _ => (spec_l1Int_m k _ q _ (by decide)).bind fun t q => .some ⟨q.1, hset _ _⟩) fun _ =>
    .bif (fun _ => (spec_l9Raw_t k _ q).bind fun t q => .some ⟨q, hset _ _⟩) fun _ => .bif (fun _ => (spec_l1Int_m k _ q _ (by decide)).bind fun t q => .some ⟨q.1, hset _ _⟩) fun _ =>
    .bif (fun _ => (spec_l21Any_l k l _ _ 17 k _ (by omega) hl (by omega)).imp fun t ht => ⟨by rw [ht.1]; exact q, ht.2⟩) fun _ => .some ⟨q, hl⟩
def Small (g : List T_impl_Grant) (f : List T_impl_Flow) (r : List T_impl_Rule) (o : List T_impl_Op) : Prop := g.length ≤ 21 ∧ f.length ≤ 21 ∧ r.length ≤ 21 ∧ o.length ≤ 21
theorem spec_l26Any_r {k : Nat} (hk : Big k) {l : List Int} {p : Int} (h : Int) (hp : Pos l p) : Ret' (spec_l26Any.f k l p h) fun t => R64 t.1 ∧ R64 t.2.2.1 ∧ Pos l t.2.2.2.2.1 ∧ Small t.2.2.2.2.2.2.1 t.2.2.2.2.2.2.2.1 t.2.2.2.2.2.2.2.2.1 t.2.2.2.2.2.2.2.2.2 := by
  unfold spec_l26Any.f
  refine (spec_l1Below_t k h hp 3 (by decide)).bind fun t1 ⟨q, _⟩ => (spec_l26Draw_r hk _ q _).bind fun t2 ⟨e1, v1, q, hg, hf, hr, ho⟩ => (spec_l1Below_t k _ q 14 (by decide)).bind fun t3 ⟨q, _⟩ => ?_
  have e2 : R64 t2.1 := by rw [e1]; exact w64_bd _
  have hS : Small t2.2.2.2.2.2.2.1 t2.2.2.2.2.2.2.2.1 t2.2.2.2.2.2.2.2.2.1 t2.2.2.2.2.2.2.2.2.2 := ⟨by omega, by omega, by omega, by omega⟩
  refine .bif (fun _ => (spec_l9Raw_m k _ q).bind fun t q => .some ⟨q.2, v1, q.1, hS⟩) fun _ => .bif (fun _ => (spec_l1Int_m k _ q _ (by decide)).bind fun t q => .some ⟨e2, v1, q.1, hS⟩) fun _ => .bif (fun _ => (spec_l1Int_m k _ q _ (by decide)).bind fun t q => .some ⟨e2, by have := q.2; simp at this; unfold R64; simp only; omega, q.1, hS⟩) fun _ =>
    .bif (fun _ => (spec_l10Any_t k _ q).bind fun t q => ?_) fun _ => .bif (fun _ => (spec_l20Draw_t k _ q).bind fun t q => ?_) fun _ => .bif (fun _ => (spec_l13Any_t k _ q).bind fun t q => ?_) fun _ =>
    .bif (fun _ => (spec_l21Any_t hk _ q).bind fun t q => .some ⟨e2, v1, q.1, ⟨by simp only; omega, by simp only; omega, by simp only; omega, by have := q.2; simp only; omega⟩⟩) fun _ => .bif (fun _ => .some ⟨e2, v1, q, hS⟩) fun _ => .some ⟨e2, v1, q, hS⟩
  · rw [decide_eq_true (by unfold cap48; simp; omega), cond_true]
    exact .some ⟨e2, v1, q, ⟨by simp; omega, by simp only; omega, by simp only; omega, by simp only; omega⟩⟩
  · rw [decide_eq_true (by unfold cap48; simp; omega), cond_true]
    exact .some ⟨e2, v1, q, ⟨by simp only; omega, by simp; omega, by simp only; omega, by simp only; omega⟩⟩
  · rw [decide_eq_true (by unfold cap48; simp; omega), cond_true]
    exact .some ⟨e2, v1, q, ⟨by simp only; omega, by simp only; omega, by simp; omega, by simp only; omega⟩⟩
def ltS (x y : T_impl_Stored) : Bool := decide (x.f0 < y.f0) || (decide (x.f0 = y.f0) && decide (x.f1 < y.f1))
def mtS (a b : Int) (x : T_impl_Stored) : Bool := (x.f0 == a) && (x.f1 == b)
def stOk (x : T_impl_Stored) : Bool := inR x.f0 1 5 && (inR x.f1 0 9 && (inR x.f2 0 999 && inR x.f3 1 999))
def prevOk (p : Option T_impl_Stored × T_impl_Stored) : Bool := stOk p.2 && (match p.1 with | none => true | some y => ltS y p.2)
def withPrev (l : List T_impl_Stored) : List (Option T_impl_Stored × T_impl_Stored) := (none :: l.map some).zip l
def storeV (l : List T_impl_Stored) : Bool := decide (l.length ≤ 24) && (withPrev l).all prevOk
abbrev AscS (l : List T_impl_Stored) : Prop := l.Pairwise fun x y => ltS x y = true
theorem ltS_iff {x y : T_impl_Stored} : ltS x y = true ↔ x.f0 < y.f0 ∨ (x.f0 = y.f0 ∧ x.f1 < y.f1) := by simp [ltS]
theorem ltS_no {x y : T_impl_Stored} : ltS x y = false ↔ ¬ (x.f0 < y.f0 ∨ (x.f0 = y.f0 ∧ x.f1 < y.f1)) := by rw [← ltS_iff]; simp
theorem mtS_iff {a b : Int} {x : T_impl_Stored} : mtS a b x = true ↔ x.f0 = a ∧ x.f1 = b := by simp [mtS]
theorem mtS_no {a b : Int} {x : T_impl_Stored} : mtS a b x = false ↔ ¬ (x.f0 = a ∧ x.f1 = b) := by rw [← mtS_iff]; simp
theorem ltS_trans {x y z : T_impl_Stored} (h : ltS x y = true) (k : ltS y z = true) : ltS x z = true := by rw [ltS_iff] at *; omega
theorem withPrev_len (l : List T_impl_Stored) : (withPrev l).length = l.length := by unfold withPrev; simp
theorem withPrev_at {l : List T_impl_Stored} {i : Nat} {p : Option T_impl_Stored × T_impl_Stored} (h : (withPrev l)[i]? = some p) : l[i]? = some p.2 ∧ (i = 0 ∧ p.1 = none ∨ ∃ j y, i = j + 1 ∧ l[j]? = some y ∧ p.1 = some y) := by
  unfold withPrev at h
  obtain ⟨h1, h2⟩ := List.getElem?_zip_eq_some.1 h
  refine ⟨h2, ?_⟩
  cases i with
  | zero => exact .inl ⟨rfl, (Option.some.inj h1).symm⟩
  | succ j =>
    rw [List.getElem?_cons_succ, List.getElem?_map] at h1
    obtain ⟨y, hy, e⟩ := Option.map_eq_some_iff.1 h1
    exact .inr ⟨j, y, rfl, hy, e.symm⟩
theorem prev_asc : ∀ (l : List T_impl_Stored) (o : Option T_impl_Stored), ((o :: l.map some).zip l).all prevOk = true → AscS l ∧ (∀ y, o = some y → ∀ x ∈ l, ltS y x = true) ∧ ∀ x ∈ l, stOk x = true
  | [], o, _ => ⟨List.Pairwise.nil, (fun _ _ x h => by simp at h), fun x h => by simp at h⟩
  | x :: l, o, h => by
    simp only [List.map_cons, List.zip_cons_cons, List.all_cons, Bool.and_eq_true] at h
    obtain ⟨h1, h2⟩ := h
    obtain ⟨q1, q2, q3⟩ := prev_asc l (some x) h2
    unfold prevOk at h1
    rw [Bool.and_eq_true] at h1
    refine ⟨List.pairwise_cons.2 ⟨fun y hy => q2 x rfl y hy, q1⟩, fun y hy z hz => ?_, fun z hz => ?_⟩
    · subst hy
      have h3 : ltS y x = true := h1.2
      rcases List.mem_cons.1 hz with rfl | hz
      · exact h3
      · exact ltS_trans h3 (q2 x rfl z hz)
    · rcases List.mem_cons.1 hz with rfl | hz
      · exact h1.1
      · exact q3 z hz
theorem store_asc {l : List T_impl_Stored} (h : storeV l = true) : AscS l ∧ (∀ x ∈ l, stOk x = true) ∧ l.length ≤ 24 := by
  unfold storeV at h
  rw [Bool.and_eq_true] at h
  obtain ⟨h1, _, h3⟩ := prev_asc l none h.2
  exact ⟨h1, h3, of_decide_eq_true h.1⟩
theorem asc_uniq {l : List T_impl_Stored} (h : AscS l) {x y : T_impl_Stored} (hx : x ∈ l) (hy : y ∈ l) (e0 : x.f0 = y.f0) (e1 : x.f1 = y.f1) : x = y := by
  obtain ⟨i, hi, rfl⟩ := List.mem_iff_getElem.1 hx
  obtain ⟨j, hj, rfl⟩ := List.mem_iff_getElem.1 hy
  by_cases hij : i = j
  · subst hij; rfl
  · rcases Nat.lt_or_gt_of_ne hij with h1 | h1
    · have := ltS_iff.1 (List.pairwise_iff_getElem.1 h i j hi hj h1); omega
    · have := ltS_iff.1 (List.pairwise_iff_getElem.1 h j i hj hi h1); omega
theorem perm_uniq : ∀ {l m : List T_impl_Stored}, AscS l → AscS m → l.Perm m → l = m := fun {l m} hl hm hp =>
  List.Perm.eq_of_pairwise (le := fun x y => ltS x y = true) (fun a b _ _ h1 h2 => by have := ltS_iff.1 h1; have := ltS_iff.1 h2; omega) hl hm hp
theorem spec_l24Less_e (k : Nat) (x y : T_impl_Stored) : spec_l24Less.f k x.f0 x.f1 x.f2 x.f3 y.f0 y.f1 y.f2 y.f3 = some (ltS x y) := by
  unfold spec_l24Less.f ltS
  by_cases h1 : x.f0 < y.f0
  · simp [h1]
  · by_cases h2 : x.f0 = y.f0
    · simp [h2]
    · rw [decide_eq_false h1, beqF h2, decide_eq_false h2]; rfl
theorem spec_IsStore_e {k : Nat} (hk : Big k) {l : List T_impl_Stored} (hl : Ok l) : spec_IsStore.f k l = some (storeV l) := by
  have hl' := hl.out
  unfold spec_IsStore.f storeV
  have hlen := withPrev_len l
  have := loop_all (spec_IsStore.l2 k l (fun y => some y) (fun _ => some (decide ((l.length : Int) ≤ 24)))) prevOk (some (decide ((l.length : Int) ≤ 24))) (some false) (withPrev l) (fun n i p hp => by
    obtain ⟨hx, hpr⟩ := withPrev_at hp
    obtain ⟨h1, h2, h3, h4⟩ := at_ hx (by omega)
    simp only [spec_IsStore.l2, spec_IsStore.L2, rd_impl_Stored, h1, h2, h3, h4, cond_true, spec_l1In_e, Option.bind_some]
    unfold prevOk stOk
    rcases hpr with ⟨rfl, e⟩ | ⟨j, y, rfl, hy, e⟩
    · rw [e, decide_eq_false (by omega)]
      cases inR p.2.f0 1 5 <;> cases inR p.2.f1 0 9 <;> cases inR p.2.f2 0 999 <;> cases inR p.2.f3 1 999 <;> rfl
    · obtain ⟨g1, g2, g3, g4⟩ := at_ hy (by omega)
      have hlt := lt_of hy
      rw [e, decide_eq_true (show ((j + 1 : Nat) : Int) > 0 by omega), w64_id (n := ((j + 1 : Nat) : Int) - 1) (by omega), show ((j + 1 : Nat) : Int) - 1 = (j : Int) by omega, g1, nn_]
      simp only [g4, spec_l24Less_e, Option.bind_some, cond_true]
      cases inR p.2.f0 1 5 <;> cases inR p.2.f1 0 9 <;> cases inR p.2.f2 0 999 <;> cases inR p.2.f3 1 999 <;> cases ltS y p.2 <;> rfl) (fun n => by rw [hlen]; simp only [spec_IsStore.l2, spec_IsStore.L2, end_, cond_false]) k (by rw [hlen]; exact hk.lt hl)
  rw [this, show decide ((l.length : Int) ≤ 24) = decide (l.length ≤ 24) by rw [decide_eq_decide]; omega]
  cases (withPrev l).all prevOk <;> cases decide (l.length ≤ 24) <;> rfl
theorem loop_tw {α R : Type} (l : Nat → Int → Option R) (p : α → Bool) (X : Int → Option R) (xs : List α)
    (hs : ∀ n (i : Nat) x, xs[i]? = some x → l (n + 1) (i : Int) = bif p x then l n ((i + 1 : Nat) : Int) else X (i : Int)) (he : ∀ n, l (n + 1) (xs.length : Int) = X (xs.length : Int)) (n : Nat) (hn : xs.length < n) :
    l n 0 = X ((xs.takeWhile p).length : Int) := by
  have key : ∀ (suf pre : List α) n, xs = pre ++ suf → suf.length < n → l n (pre.length : Int) = X ((pre.length + (suf.takeWhile p).length : Nat) : Int) := by
    intro suf
    induction suf with
    | nil =>
      intro pre n hx hn
      obtain ⟨n, rfl⟩ : ∃ q, n = q + 1 := ⟨n - 1, by simp at hn; omega⟩
      have e : pre.length = xs.length := by rw [hx]; simp
      rw [e, he n]
      rfl
    | cons x suf ih =>
      intro pre n hx hn
      obtain ⟨n, rfl⟩ : ∃ q, n = q + 1 := ⟨n - 1, by simp at hn; omega⟩
      have hg : xs[pre.length]? = some x := by rw [hx]; simp
      rw [hs n pre.length x hg]
      cases hp : p x with
      | true =>
        have := ih (pre ++ [x]) n (by rw [hx]; simp) (by simp at hn; omega)
        rw [List.takeWhile_cons_of_pos hp, cond_true]
        simp only [List.length_append, List.length_cons, List.length_nil] at this ⊢
        rw [this]
        congr 2
        omega
      | false =>
        rw [List.takeWhile_cons_of_neg (by simp [hp])]
        rfl
  have := key xs [] n rfl hn
  simpa using this
def plN (l : List T_impl_Stored) (a b : Int) : Nat := (l.takeWhile fun x => !mtS a b x).length
def plV (l : List T_impl_Stored) (a b : Int) : Int := bif decide (plN l a b < l.length) then (plN l a b : Int) else -1
theorem plN_le (l : List T_impl_Stored) (a b : Int) : plN l a b ≤ l.length := by unfold plN; exact (List.takeWhile_sublist _).length_le
theorem tw_split {α : Type} (p : α → Bool) : ∀ l : List α, (l.takeWhile p).length < l.length → ∃ A y B, l = A ++ y :: B ∧ A = l.takeWhile p ∧ p y = false ∧ B = l.drop ((l.takeWhile p).length + 1) ∧ ∀ a ∈ A, p a = true
  | [], h => by simp at h
  | x :: l, h => by
    cases hx : p x with
    | false =>
      rw [List.takeWhile_cons_of_neg (by simp [hx])]
      exact ⟨[], x, l, rfl, rfl, hx, rfl, fun a ha => by cases ha⟩
    | true =>
      rw [List.takeWhile_cons_of_pos hx] at h ⊢
      obtain ⟨A, y, B, e, e1, e2, e3, e4⟩ := tw_split p l (by simpa using h)
      refine ⟨x :: A, y, B, by rw [e]; rfl, by rw [← e1], e2, by simpa using e3, fun a ha => ?_⟩
      rcases List.mem_cons.1 ha with rfl | ha
      · exact hx
      · exact e4 a ha
theorem tw_all {α : Type} (p : α → Bool) : ∀ l : List α, (l.takeWhile p).length = l.length → ∀ a ∈ l, p a = true
  | [], _, a, ha => by cases ha
  | x :: l, h, a, ha => by
    cases hx : p x with
    | false => rw [List.takeWhile_cons_of_neg (by simp [hx])] at h; simp at h
    | true =>
      rw [List.takeWhile_cons_of_pos hx] at h
      rcases List.mem_cons.1 ha with rfl | ha
      · exact hx
      · exact tw_all p l (by simpa using h) a ha
theorem plN_at {l : List T_impl_Stored} {a b : Int} (h : plN l a b < l.length) : ∃ A y B, l = A ++ y :: B ∧ plN l a b = A.length ∧ y.f0 = a ∧ y.f1 = b ∧ rd_impl_Stored l (plN l a b : Int) = y := by
  obtain ⟨A, y, B, e, e1, e2, e3, e4⟩ := tw_split (fun x => !mtS a b x) l h
  have e2 := mtS_iff.1 (by simpa using e2 : mtS a b y = true)
  refine ⟨A, y, B, e, by unfold plN; rw [← e1], e2.1, e2.2, ?_⟩
  have hp : plN l a b = A.length := by unfold plN; rw [← e1]
  rw [hp]
  show l.getD A.length z_impl_Stored = y
  rw [List.getD_eq_getElem?_getD, e]
  simp
theorem plN_none {l : List T_impl_Stored} {a b : Int} (h : ¬ plN l a b < l.length) : ∀ y ∈ l, ¬ (y.f0 = a ∧ y.f1 = b) := fun y hy => by
  have := tw_all (fun x => !mtS a b x) l (by have := plN_le l a b; unfold plN at this h; omega) y hy
  exact mtS_no.1 (by simpa using this)
theorem spec_l24Find_e {k : Nat} (hk : Big k) {l : List T_impl_Stored} (hl : Ok l) (a b : Int) : spec_l24Find.f k l a b = some (plV l a b) := by
  have hl' := hl.out
  unfold spec_l24Find.f
  have := loop_tw (spec_l24Find.l2 k a b l (fun y => some y) (fun _ => some (-1))) (fun x => !mtS a b x) (fun i => bif decide (i < (l.length : Int)) then some i else some (-1)) l (fun n i x hx => by
    obtain ⟨h1, h2, h3, h4⟩ := at_ hx (by omega)
    simp only [spec_l24Find.l2, spec_l24Find.L2, rd_impl_Stored, h1, h2, h3, h4, cond_true, mtS]
    cases x.f0 == a <;> cases x.f1 == b <;> rfl) (fun n => by simp only [spec_l24Find.l2, spec_l24Find.L2, end_, cond_false]) k (hk.lt hl)
  rw [this]
  unfold plV plN
  rw [show decide ((((l.takeWhile fun x => !mtS a b x).length : Nat) : Int) < (l.length : Int)) = decide ((l.takeWhile fun x => !mtS a b x).length < l.length) by rw [decide_eq_decide]; omega]
  cases decide ((l.takeWhile fun x => !mtS a b x).length < l.length) <;> rfl
def setN (l : List T_impl_Stored) (x : T_impl_Stored) : Nat := (l.takeWhile fun y => ltS y x).length
def setV (l : List T_impl_Stored) (x : T_impl_Stored) : List T_impl_Stored := l.takeWhile (fun y => ltS y x) ++ [x] ++ (bif decide (setN l x < l.length) && !ltS x (rd_impl_Stored l (setN l x : Int)) then l.drop (setN l x + 1) else l.drop (setN l x))
theorem setN_le (l : List T_impl_Stored) (x : T_impl_Stored) : setN l x ≤ l.length := by unfold setN; exact (List.takeWhile_sublist _).length_le
theorem setV_len (l : List T_impl_Stored) (x : T_impl_Stored) : (setV l x).length ≤ l.length + 1 := by
  have h := setN_le l x
  have e : (l.takeWhile fun y => ltS y x).length = setN l x := rfl
  unfold setV
  cases decide (setN l x < l.length) && !ltS x (rd_impl_Stored l (setN l x : Int))
  · simp only [cond_false, List.length_append, List.length_cons, List.length_nil, List.length_drop, e]; omega
  · simp only [cond_true, List.length_append, List.length_cons, List.length_nil, List.length_drop, e]; omega
/-- A new entry: the list stays in order, and holds it too. -/
theorem setV_new {s : List T_impl_Stored} (h : AscS s) {x : T_impl_Stored} (hn : ∀ y ∈ s, ¬ (y.f0 = x.f0 ∧ y.f1 = x.f1)) : AscS (setV s x) ∧ (setV s x).Perm (s ++ [x]) := by
  unfold setV
  by_cases hlt : setN s x < s.length
  · obtain ⟨A, y, B, e, e1, e2, e3, e4⟩ := tw_split (fun y => ltS y x) s hlt
    have hN : setN s x = A.length := by unfold setN; rw [← e1]
    have hrd : rd_impl_Stored s (setN s x : Int) = y := by
      rw [hN]
      show s.getD A.length z_impl_Stored = y
      rw [List.getD_eq_getElem?_getD, e]; simp
    have hy : y ∈ s := by rw [e]; simp
    have hxy : ltS x y = true := by
      have h1 := ltS_no.1 e2
      have h2 := hn y hy
      rw [ltS_iff]; omega
    rw [decide_eq_true hlt, hrd, hxy, ← e1]
    have hd : s.drop (setN s x) = y :: B := by rw [hN, e]; simp
    simp only [Bool.not_true, Bool.and_false, cond_false, hd]
    rw [e] at h
    obtain ⟨p1, p2, p3⟩ := List.pairwise_append.1 h
    obtain ⟨p4, p5⟩ := List.pairwise_cons.1 p2
    refine ⟨?_, ?_⟩
    · rw [List.append_assoc]
      refine List.pairwise_append.2 ⟨p1, List.pairwise_cons.2 ⟨fun z hz => ?_, p2⟩, fun a ha z hz => ?_⟩
      · rcases List.mem_cons.1 hz with rfl | hz
        · exact hxy
        · exact ltS_trans hxy (p4 z hz)
      · rcases List.mem_cons.1 hz with rfl | hz
        · exact e4 a ha
        · exact p3 a ha z hz
    · rw [e, List.append_assoc, List.append_assoc]
      refine List.Perm.append_left A ?_
      rw [List.singleton_append]
      exact (List.perm_append_singleton x (y :: B)).symm
  · have hall := tw_all (fun y => ltS y x) s (by have := setN_le s x; unfold setN at this hlt; omega)
    have e1 : s.takeWhile (fun y => ltS y x) = s := (List.takeWhile_sublist _).eq_of_length (by have := setN_le s x; unfold setN at this hlt; omega)
    rw [decide_eq_false hlt, e1]
    have hd : s.drop (setN s x) = [] := List.drop_eq_nil_of_le (by omega)
    simp only [Bool.false_and, cond_false, hd, List.append_nil]
    refine ⟨List.pairwise_append.2 ⟨h, List.pairwise_singleton _ _, fun a ha z hz => ?_⟩, List.Perm.refl _⟩
    obtain rfl := List.mem_singleton.1 hz
    exact hall a ha
/-- An entry that is there already is put in its place. -/
theorem setV_old {s : List T_impl_Stored} (h : AscS s) {x y : T_impl_Stored} (hy : y ∈ s) (e0 : y.f0 = x.f0) (e1' : y.f1 = x.f1) : AscS (setV s x) ∧ ∃ A B, s = A ++ y :: B ∧ setV s x = A ++ x :: B := by
  have hyx : ltS y x = false := ltS_no.2 (by omega)
  have hlt : setN s x < s.length := by
    by_cases hlt : setN s x < s.length
    · exact hlt
    · have := tw_all (fun y => ltS y x) s (by have := setN_le s x; unfold setN at this hlt; omega) y hy
      rw [show ltS y x = true from this] at hyx
      cases hyx
  obtain ⟨A, z, B, e, e1, e2, e3, e4⟩ := tw_split (fun y => ltS y x) s hlt
  have hN : setN s x = A.length := by unfold setN; rw [← e1]
  rw [e] at h hy
  obtain ⟨p1, p2, p3⟩ := List.pairwise_append.1 h
  obtain ⟨p4, p5⟩ := List.pairwise_cons.1 p2
  have hyz : y = z := by
    rcases List.mem_append.1 hy with hy | hy
    · rw [show ltS y x = true from e4 y hy] at hyx; cases hyx
    · rcases List.mem_cons.1 hy with hy | hy
      · exact hy
      · have h3 := ltS_iff.1 (p4 y hy)
        have h4 := ltS_no.1 e2
        omega
  subst hyz
  have hrd : rd_impl_Stored s (setN s x : Int) = y := by
    rw [hN]
    show s.getD A.length z_impl_Stored = y
    rw [List.getD_eq_getElem?_getD, e]; simp
  have hxy : ltS x y = false := ltS_no.2 (by omega)
  have hs : setV s x = A ++ x :: B := by
    unfold setV
    have e3' : B = s.drop (setN s x + 1) := e3
    rw [decide_eq_true hlt, hrd, hxy, ← e1]
    simp only [Bool.not_false, Bool.and_true, cond_true, ← e3', List.append_assoc, List.singleton_append]
  refine ⟨?_, A, B, e, hs⟩
  rw [hs]
  refine List.pairwise_append.2 ⟨p1, List.pairwise_cons.2 ⟨fun w hw => ?_, p5⟩, fun a ha w hw => ?_⟩
  · have := ltS_iff.1 (p4 w hw); rw [ltS_iff]; omega
  · rcases List.mem_cons.1 hw with rfl | hw
    · exact e4 a ha
    · exact p3 a ha w (List.mem_cons_of_mem _ hw)
theorem loop_tw_acc {α R : Type} (l : Nat → Int → List α → Option R) (p : α → Bool) (X : Int → List α → Option R) (xs : List α)
    (hs : ∀ n (i : Nat) x acc, xs[i]? = some x → acc.length = i → l (n + 1) (i : Int) acc = bif p x then l n ((i + 1 : Nat) : Int) (acc ++ [x]) else X (i : Int) acc) (he : ∀ n acc, l (n + 1) (xs.length : Int) acc = X (xs.length : Int) acc) (n : Nat) (hn : xs.length < n) :
    l n 0 [] = X ((xs.takeWhile p).length : Int) (xs.takeWhile p) := by
  have key : ∀ (suf pre : List α) n, xs = pre ++ suf → suf.length < n → l n (pre.length : Int) pre = X ((pre.length + (suf.takeWhile p).length : Nat) : Int) (pre ++ suf.takeWhile p) := by
    intro suf
    induction suf with
    | nil =>
      intro pre n hx hn
      obtain ⟨n, rfl⟩ : ∃ q, n = q + 1 := ⟨n - 1, by simp at hn; omega⟩
      have e : pre.length = xs.length := by rw [hx]; simp
      rw [e, he n]
      simp
    | cons x suf ih =>
      intro pre n hx hn
      obtain ⟨n, rfl⟩ : ∃ q, n = q + 1 := ⟨n - 1, by simp at hn; omega⟩
      have hg : xs[pre.length]? = some x := by rw [hx]; simp
      rw [hs n pre.length x pre hg rfl]
      cases hp : p x with
      | true =>
        have := ih (pre ++ [x]) n (by rw [hx]; simp) (by simp at hn; omega)
        rw [List.takeWhile_cons_of_pos hp, cond_true]
        simp only [List.length_append, List.length_cons, List.length_nil, List.append_assoc, List.singleton_append] at this ⊢
        rw [this]
        congr 2
        omega
      | false =>
        rw [List.takeWhile_cons_of_neg (by simp [hp])]
        simp
  have := key xs [] n rfl hn
  simpa using this
theorem spec_l24Set_e {k : Nat} (hk : Big k) {l : List T_impl_Stored} (hl : Ok l) (x : T_impl_Stored) : spec_l24Set.f k l x.f0 x.f1 x.f2 x.f3 = some (setV l x) := by
  have hl' := hl.out
  have hN := setN_le l x
  have key : ∀ X : Int → List T_impl_Stored → Option (List T_impl_Stored), spec_l24Set.l3 k l x.f0 x.f1 x.f2 x.f3 X k 0 [] = X ((setN l x : Nat) : Int) (l.takeWhile fun y => ltS y x) := fun X => loop_tw_acc (fun q i s => spec_l24Set.l3 k l x.f0 x.f1 x.f2 x.f3 X q i s) (fun y => ltS y x) X l (fun n i y acc hy ha => by
    have hlt := lt_of hy
    obtain ⟨h1, h2, h3, h4⟩ := at_ hy (by omega)
    simp only [spec_l24Set.l3, spec_l24Set.L3, rd_impl_Stored, h1, h2, h3, h4, cond_true, spec_l24Less_e, Option.bind_some]
    rw [decide_eq_true (by unfold cap48; simp; omega), cond_true]) (fun n acc => by simp only [spec_l24Set.l3, spec_l24Set.L3, end_, cond_false]) k (hk.lt hl)
  unfold spec_l24Set.f
  rw [key]
  clear key
  unfold setV
  have hA : (l.takeWhile fun y => ltS y x).length = setN l x := rfl
  generalize (l.takeWhile fun y => ltS y x) = A at hA
  generalize setN l x = n at hA hN
  have g1 : decide ((A.length + ([(⟨x.f0, x.f1, x.f2, x.f3⟩ : T_impl_Stored)] : List T_impl_Stored).length) * 32 ≤ cap48) = true := decide_eq_true (by unfold cap48; simp; omega)
  have g2 : decide (((A ++ [(⟨x.f0, x.f1, x.f2, x.f3⟩ : T_impl_Stored)]).length + ((l.take l.length).drop (n + 1)).length) * 32 ≤ cap48) = true := decide_eq_true (by unfold cap48; simp; omega)
  have g3 : decide (((A ++ [(⟨x.f0, x.f1, x.f2, x.f3⟩ : T_impl_Stored)]).length + ((l.take l.length).drop n).length) * 32 ≤ cap48) = true := decide_eq_true (by unfold cap48; simp; omega)
  have w1 : w64 ((n : Int) + 1) = ((n + 1 : Nat) : Int) := by rw [w64_id (by omega)]; omega
  by_cases h : n < l.length
  · simp only [nn_, cond_true, Int.toNat_natCast, Int.le_refl, decide_true, decide_eq_true (show (n : Int) ≤ (l.length : Int) by omega), decide_eq_true (show (n : Int) < (l.length : Int) by omega), w1, decide_eq_true (show ((n + 1 : Nat) : Int) ≤ (l.length : Int) by omega), g1, g2, g3, decide_eq_true h, Bool.true_and, spec_l24Less_e, Option.bind_some]
    cases ltS x (rd_impl_Stored l (n : Int)) <;> simp [List.take_length]
  · simp only [nn_, cond_true, Int.toNat_natCast, Int.le_refl, decide_true, decide_eq_true (show (n : Int) ≤ (l.length : Int) by omega), decide_eq_false (show ¬ (n : Int) < (l.length : Int) by omega), cond_false, g1, g3, decide_eq_false h, Bool.false_and]
    simp [List.take_length]
theorem spec_PutStored_t {k : Nat} (hk : Big k) {l : List T_impl_Stored} (hl : l.length ≤ 1000000) (a b c : Int) : Ret' (spec_PutStored.f k l a b c) fun t => t.2.length ≤ l.length + 1 := by
  have ol : Ok l := by unfold Ok; omega
  have hcap : decide ((([] : List T_impl_Stored).length + l.length) * 32 ≤ cap48) = true := decide_eq_true (by unfold cap48; simp; omega)
  have hs : ∀ v, spec_l24Set.f k l a b c v = some (setV l ⟨a, b, c, v⟩) := fun v => spec_l24Set_e hk ol ⟨a, b, c, v⟩
  have oS : ∀ v, Ok (setV l ⟨a, b, c, v⟩) := fun v => by have := setV_len l ⟨a, b, c, v⟩; unfold Ok; omega
  unfold spec_PutStored.f
  rw [spec_IsStore_e hk ol, Option.bind_some, spec_l24Find_e hk ol, Option.bind_some]
  simp only [hcap, cond_true, hs, Option.bind_some, spec_IsStore_e hk (oS _)]
  unfold plV
  by_cases h : plN l a b < l.length
  · rw [decide_eq_true h, cond_true, decide_eq_true (show (plN l a b : Int) ≥ 0 by omega), decide_eq_true (show (plN l a b : Int) < (l.length : Int) by omega)]
    simp only [cond_true]
    exact .bif (fun _ => .some (by simp)) fun _ => .bif (fun _ => .some (by simp)) fun _ => .some (setV_len l _)
  · rw [decide_eq_false h, cond_false, decide_eq_false (show ¬ (-1 : Int) ≥ 0 by omega), cond_false]
    exact .bif (fun _ => .some (by simp)) fun _ => .bif (fun _ => .some (by simp)) fun _ => .some (setV_len l _)
theorem loop_dn {σ R : Type} (l : Nat → Int → σ → Option R) (I : Nat → σ → Prop) (Q : R → Prop) (hs : ∀ q (n : Nat) s, I (n + 1) s → (∀ s', I n s' → Ret' (l q (n : Int) s') Q) → Ret' (l (q + 1) ((n + 1 : Nat) : Int) s) Q)
    (he : ∀ q s, I 0 s → Ret' (l (q + 1) 0 s) Q) : ∀ (n q : Nat) s, n < q → I n s → Ret' (l q (n : Int) s) Q := by
  intro n
  induction n with
  | zero =>
    intro q s hq hI
    obtain ⟨q, rfl⟩ : ∃ j, q = j + 1 := ⟨q - 1, by omega⟩
    exact he q s hI
  | succ n ih =>
    intro q s hq hI
    obtain ⟨q, rfl⟩ : ∃ j, q = j + 1 := ⟨q - 1, by omega⟩
    exact hs q n s hI fun s' h' => ih q s' (by omega) h'
theorem spec_l24Draw_t {k : Nat} (hk : Big k) {l : List Int} {p : Int} (h : Int) (hp : Pos l p) : Ret' (spec_l24Draw.f k l p h) fun t => Pos l t.1 ∧ t.2.2.length ≤ 20 := by
  have hk' := hk.out
  unfold spec_l24Draw.f
  refine (spec_l1Below_t k h hp 9 (by decide)).bind fun t ⟨q, b0, b1⟩ => ?_
  obtain ⟨n, hn⟩ := Int.eq_ofNat_of_zero_le b0
  rw [hn]
  refine loop_dn (fun q i (s : Int × Int × List T_impl_Stored) => spec_l24Draw.l3 k l (fun y6 y7 y8 => some (y6, y7, y8)) q i s.1 s.2.1 s.2.2) (fun n s => Pos l s.1 ∧ s.2.2.length + n ≤ 20) _ (fun q n s hI ih => ?_) (fun q s hI => ?_) n k (t.2.1, t.2.2, []) (by omega) ⟨q, by simp; omega⟩
  · simp only [spec_l24Draw.l3, spec_l24Draw.L3, down_gt, cond_true, down1 n (by omega)]
    refine (spec_l1Below_t k _ hI.1 3 (by decide)).bind fun t1 ⟨q, _⟩ => (spec_l1Below_t k _ q 4 (by decide)).bind fun t2 ⟨q, _⟩ => (spec_l1Below_t k _ q 9 (by decide)).bind fun t3 ⟨q, _⟩ => (spec_PutStored_t hk (by omega) _ _ _).bind fun t4 h4 => ?_
    exact ih (t3.2.1, t3.2.2, t4.2) ⟨q, by simp only; omega⟩
  · exact .some ⟨hI.1, hI.2⟩
theorem spec_l24Any_t {k : Nat} (hk : Big k) {l : List Int} {p : Int} (h : Int) (hp : Pos l p) : Ret' (spec_l24Any.f k l p h) fun t => Pos l t.1 ∧ t.2.2.length ≤ 21 := by
  unfold spec_l24Any.f
  refine (spec_l24Draw_t hk h hp).bind fun t1 ⟨q, hl⟩ => .bif (fun _ => .some ⟨q, Nat.le_succ_of_le hl⟩) fun c => ?_
  have c : ¬ ((t1.2.2.length : Int) = 0) := by simpa using c
  have hset : ∀ (i : Nat) (x : T_impl_Stored), (t1.2.2.set i x).length ≤ 21 := fun i x => by simp; omega
  refine (spec_l1Below_t k _ q _ (by omega)).bind fun t2 ⟨q, b0, b1⟩ => (spec_l1Below_t k _ q 9 (by decide)).bind fun t3 ⟨q, _⟩ => ?_
  simp only [decide_eq_true b0, decide_eq_true b1, cond_true]
  exact .bif (fun _ => (spec_l9Raw_t k _ q).bind fun t q => .some ⟨q, hset _ _⟩) fun _ => .bif (fun _ => (spec_l1Int_m k _ q _ (by decide)).bind fun t q => .some ⟨q.1, hset _ _⟩) fun _ =>
    .bif (fun _ => (spec_l1Int_m k _ q _ (by decide)).bind fun t q => .some ⟨q.1, hset _ _⟩) fun _ => .bif (fun _ => by
      rw [decide_eq_true (show (0 : Int) ≤ 0 by omega), cond_true, decide_eq_true (by omega), cond_true, decide_eq_true (by unfold cap48; simp; omega), cond_true]
      exact .some ⟨q, by simp; omega⟩) fun _ => .some ⟨q, Nat.le_succ_of_le hl⟩
theorem spec_DrawTakeSnapshot_t {k : Nat} (hk : Big k) {l : List Int} (hl : Ok l) : Ret' (spec_DrawTakeSnapshot.f k l) fun t => R64 t.1 ∧ R64 t.2.2.1 ∧ Small t.2.2.2.2.1 t.2.2.2.2.2.1 t.2.2.2.2.2.2.1 t.2.2.2.2.2.2.2.1 ∧ t.2.2.2.2.2.2.2.2.length ≤ 21 := by
  unfold spec_DrawTakeSnapshot.f
  exact (spec_l1New_t hk hl).bind fun t1 q => (spec_l26Any_r hk _ q).bind fun t2 ⟨e1, v1, q, hS⟩ => (spec_l24Any_t hk _ q).bind fun t3 ⟨_, h3⟩ => .some ⟨e1, v1, hS, h3⟩
def isNarrow (a b c d : Int) : Bool := isPattern a b && (isPattern c d && ((c == 0 || a == c) && (d == -1 || b == d)))
def gOk (x : T_impl_Grant) : Bool := isGrant x.f0 x.f1.f0 x.f1.f1 x.f2 x.f3 x.f4
def wOk (x y : T_impl_Grant) : Bool := gOk x && (gOk y && (x.f0 == y.f0 && (x.f2 == y.f2 && (isNarrow x.f1.f0 x.f1.f1 y.f1.f0 y.f1.f1 && (decide (y.f3 ≤ x.f3) && (decide (x.f4 ≤ y.f4) && (x.f5 || !y.f5)))))))
def within (l m : List T_impl_Grant) : Bool := l.all fun x => m.any (wOk x)
theorem foldl_filter {α : Type} (p : α → Bool) (xs : List α) : ∀ s : List α, xs.foldl (fun s x => bif p x then s ++ [x] else s) s = s ++ xs.filter p := by
  induction xs with
  | nil => intro s; simp
  | cons x xs ih => intro s; rw [List.foldl_cons, ih]; cases h : p x <;> simp [h]
def widened (l m : List T_impl_Grant) : List T_impl_Grant := m.filter fun x => !(l.any (wOk x))
theorem take_drop_one {α : Type} {xs : List α} {i : Nat} {x : α} (h : xs[i]? = some x) : ((xs.take (((i + 1 : Nat) : Int)).toNat).drop ((i : Int)).toNat) = [x] := by
  have hi := lt_of h
  have hx : xs[i] = x := by
    rw [List.getElem?_eq_getElem hi] at h
    exact Option.some.inj h
  show (xs.take (i + 1)).drop i = [x]
  rw [List.take_succ_eq_append_getElem hi, List.drop_append_of_le_length (by rw [List.length_take]; omega), List.drop_eq_nil_of_le (by rw [List.length_take]; omega), hx]
  rfl
def entriesOf (e : Int) (l : List T_impl_Stored) : List T_impl_Stored := l.filter fun x => x.f0 == e
theorem spec_l30Entries_e {k : Nat} (hk : Big k) {l : List T_impl_Stored} (hl : Ok l) (e : Int) : spec_l30Entries.f k l e = some (entriesOf e l) := by
  have hl' := hl.out
  unfold spec_l30Entries.f entriesOf
  have := loop_fold (fun q i s => spec_l30Entries.l3 k e l (fun y => some y) q i s) (fun s x => bif (x.f0 == e) then s ++ [x] else s) (fun i s => s.length ≤ i) (fun y => some y) l (fun q i x s hx hs => by
    obtain ⟨h1, h2, h3, h4⟩ := at_ hx (by omega)
    have hi := lt_of hx
    have hs : s.length ≤ i := hs
    have g4 : decide ((s.length + ([x] : List T_impl_Stored).length) * 32 ≤ cap48) = true := decide_eq_true (by unfold cap48; simp; omega)
    simp only [spec_l30Entries.l3, spec_l30Entries.L3, rd_impl_Stored, h1, h2, h3, h4, cond_true]
    rw [g4]
    cases (x.f0 == e) <;> rfl) (fun i x s hx hs => by
    have hs : s.length ≤ i := hs
    show (bif (x.f0 == e) then s ++ [x] else s).length ≤ i + 1
    cases (x.f0 == e) <;> simp <;> omega) (fun q s _ => by simp only [spec_l30Entries.l3, spec_l30Entries.L3, end_, cond_false]) k [] (hk.lt hl) (by simp)
  rw [this, foldl_filter]; rfl
theorem spec_TakeSnapshot_e {k : Nat} (hk : Big k) (a b c : Int) {g : List T_impl_Grant} {f : List T_impl_Flow} {r : List T_impl_Rule} {o : List T_impl_Op} (d : Int) {l : List T_impl_Stored} (hg : Ok g) (hf : Ok f) (hr : Ok r) (ho : Ok o) (hl : Ok l) :
    spec_TakeSnapshot.f k a b c g f r o d l = some (a, b, c, d, g, f, r, o, entriesOf a l) := by
  unfold spec_TakeSnapshot.f
  rw [spec_l26Copy_e k a b c d hg hf hr ho, Option.bind_some, spec_l30Entries_e hk hl, Option.bind_some]
theorem drs_l {k : Nat} (hk : Big k) {l : List Int} (a0 a1 a2 a7 b0 b1 b2 b7 : Int) (g : List T_impl_Grant) (f : List T_impl_Flow) (r : List T_impl_Rule) (o : List T_impl_Op) (s : List T_impl_Stored) (g' : List T_impl_Grant) (f' : List T_impl_Flow) (r' : List T_impl_Rule) (o' : List T_impl_Op) (s' : List T_impl_Stored) {R : Type} (X : List T_impl_Stored → Int → Int → Option R) (Q : R → Prop)
    (hX : ∀ S p h, Pos l p → S.length ≤ 40 → Ret' (X S p h) Q) : ∀ (n q : Nat) (S : List T_impl_Stored) (p h : Int), n < q → n ≤ 100 → Pos l p → S.length + n ≤ 40 → Ret' (spec_DrawRestoreStore.l5 k l a0 a1 a2 a7 b0 b1 b2 b7 g f r o s g' f' r' o' s' X q (n : Int) S p h) Q := by
  intro n
  induction n with
  | zero =>
    intro q S p h hq _ hp hS
    obtain ⟨q, rfl⟩ : ∃ j, q = j + 1 := ⟨q - 1, by omega⟩
    exact hX S p h hp hS
  | succ n ih =>
    intro q S p h hq hn hp hS
    obtain ⟨q, rfl⟩ : ∃ j, q = j + 1 := ⟨q - 1, by omega⟩
    simp only [spec_DrawRestoreStore.l5, spec_DrawRestoreStore.L5, down_gt, cond_true, down1 n (by omega)]
    refine (spec_l1Below_t k _ hp 3 (by decide)).bind fun t1 ⟨q, _⟩ => (spec_l1Below_t k _ q 4 (by decide)).bind fun t2 ⟨q, _⟩ => (spec_l1Below_t k _ q 9 (by decide)).bind fun t3 ⟨q, _⟩ => (spec_PutStored_t hk (by omega) _ _ _).bind fun t4 h4 => ?_
    exact ih _ _ _ _ (by omega) (by omega) q (by omega)
theorem spec_DrawRestoreStore_t {k : Nat} (hk : Big k) {l : List Int} (hl : Ok l) : Ret' (spec_DrawRestoreStore.f k l) fun t => R64 t.1 ∧ R64 t.2.2.1 ∧ t.2.2.2.2.1.length ≤ 40 ∧ Small t.2.2.2.2.2.1 t.2.2.2.2.2.2.1 t.2.2.2.2.2.2.2.1 t.2.2.2.2.2.2.2.2.1 ∧ t.2.2.2.2.2.2.2.2.2.length ≤ 40 := by
  have hk' := hk.out
  unfold spec_DrawRestoreStore.f
  refine (spec_DrawTakeSnapshot_t hk hl).bind fun t1 ⟨e1, v1, hS, h1⟩ => (spec_l1New_t hk hl).bind fun t2 q => ?_
  rw [spec_TakeSnapshot_e hk _ _ _ _ (Ok.small 21 hS.1) (Ok.small 21 hS.2.1) (Ok.small 21 hS.2.2.1) (Ok.small 21 hS.2.2.2) (Ok.small 21 h1), Option.bind_some]
  refine (spec_l1Below_t k _ q 4 (by decide)).bind fun t4 ⟨q, b0, b1⟩ => ?_
  obtain ⟨n, hn⟩ := Int.eq_ofNat_of_zero_le b0
  rw [hn]
  have hen : (entriesOf t1.1 t1.2.2.2.2.2.2.2.2).length ≤ 21 := Nat.le_trans (List.length_filter_le _ _) h1
  refine drs_l hk _ _ _ _ _ _ _ _ _ _ _ _ _ _ _ _ _ _ _ _ (fun S p h hp hS' => ?_) n k _ _ _ (by omega) (by omega) q (by omega)
  exact (spec_l1Once_t k _ hp 8 (by decide)).bind fun t5 q => .bif (fun _ => (spec_l24Any_t hk _ q).bind fun t6 ⟨_, h6⟩ => .some ⟨e1, v1, hS', hS, by simp only; omega⟩) fun _ => .some ⟨e1, v1, hS', hS, by simp only; omega⟩
def zeros : List Int := [0, 0, 0, 0, 0, 0]
theorem spec_l21Zeros_e {k : Nat} (hk : Big k) : spec_l21Zeros.f k = some zeros := by
  have hk' := hk.out
  obtain ⟨q, rfl⟩ : ∃ j, k = j + 7 := ⟨k - 7, by omega⟩
  rfl
def valV (l : List Int) (o : Int) : Int := bif decide (1 ≤ o ∧ o ≤ (l.length : Int)) && inR (rd_i64 l (o - 1)) 0 999 then rd_i64 l (o - 1) else 0
theorem valV_rg (l : List Int) (o : Int) : 0 ≤ valV l o ∧ valV l o ≤ 999 := by
  unfold valV
  cases h : decide (1 ≤ o ∧ o ≤ (l.length : Int)) && inR (rd_i64 l (o - 1)) 0 999 with
  | false => exact ⟨Int.le_refl 0, show (0 : Int) ≤ 999 by decide⟩
  | true => rw [Bool.and_eq_true] at h; exact inR_true.1 h.2
theorem spec_l21Value_e (k : Nat) {l : List Int} (hl : Ok l) {o : Int} (h1 : 1 ≤ o) : spec_l21Value.f k l o = some (valV l o) := by
  have hl' := hl.out
  unfold spec_l21Value.f valV
  by_cases h : o > (l.length : Int)
  · rw [decide_eq_true h, decide_eq_false (show ¬ (1 ≤ o ∧ o ≤ (l.length : Int)) by omega)]; rfl
  · rw [decide_eq_false h, w64_id (by omega), decide_eq_true (show 0 ≤ o - 1 by omega), decide_eq_true (show o - 1 < (l.length : Int) by omega), decide_eq_true (show 1 ≤ o ∧ o ≤ (l.length : Int) by omega), spec_l1In_e, Option.bind_some]
    cases inR (rd_i64 l (o - 1)) 0 999 <;> rfl
def hasI (l : List Int) (o : Int) : Bool := l.any fun y => y == o
theorem spec_l7Has_e {k : Nat} (hk : Big k) {l : List Int} (hl : Ok l) (o : Int) : spec_l7Has.f k l o = some (hasI l o) := by
  unfold spec_l7Has.f hasI
  rw [loop_any (spec_l7Has.l2 k o l (fun y => some y) (fun _ => some false)) (fun y => y == o) (some false) (some true) l (fun n i x hx => by
    obtain ⟨h1, h2, h3, h4⟩ := at_ hx (by have := hl.out; omega)
    simp only [spec_l7Has.l2, spec_l7Has.L2, rd_i64, h1, h2, h3, h4, cond_true]) (fun n => by simp only [spec_l7Has.l2, spec_l7Has.L2, end_, cond_false]) k (hk.lt hl)]
  cases l.any fun y => y == o <;> rfl
theorem spec_l19Bit_l (k : Nat) : ∀ (n q : Nat) (o v i : Int), o - i = n → 0 ≤ i → n < q → 0 ≤ v → v * 2 ^ n ≤ 4611686018427387904 → o ≤ 100 → spec_l19Bit.l3 k o (fun y => some y) q v i = some (v * 2 ^ n) := by
  intro n
  induction n with
  | zero =>
    intro q o v i h h0 hq hv hb ho
    obtain ⟨q, rfl⟩ : ∃ j, q = j + 1 := ⟨q - 1, by omega⟩
    simp only [spec_l19Bit.l3, spec_l19Bit.L3]
    rw [decide_eq_false (by omega), cond_false]
    simp
  | succ n ih =>
    intro q o v i h h0 hq hv hb ho
    obtain ⟨q, rfl⟩ : ∃ j, q = j + 1 := ⟨q - 1, by omega⟩
    have e : v * 2 ^ (n + 1) = (2 * v) * 2 ^ n := by rw [Int.pow_succ]; rw [Int.mul_comm 2 v, Int.mul_assoc, Int.mul_comm 2]
    have hp : (1 : Int) ≤ 2 ^ n := Int.pow_pos (by omega)
    have h2 : 2 * v ≤ (2 * v) * 2 ^ n := by
      have := Int.mul_le_mul_of_nonneg_left hp (show 0 ≤ 2 * v by omega)
      omega
    rw [e] at hb ⊢
    simp only [spec_l19Bit.l3, spec_l19Bit.L3]
    rw [decide_eq_true (by omega), cond_true, w64_id (n := 2 * v) (by omega), w64_id (by omega)]
    exact ih q o (2 * v) (i + 1) (by omega) (by omega) (by omega) (by omega) hb ho
theorem spec_l19Bit_e {k : Nat} (hk : Big k) (o : Int) (h1 : 1 ≤ o) (h9 : o ≤ 9) : spec_l19Bit.f k o = some (2 ^ o.toNat) := by
  have hk' := hk.out
  unfold spec_l19Bit.f
  have hb : (1 : Int) * 2 ^ o.toNat ≤ 4611686018427387904 := by
    have : o = 1 ∨ o = 2 ∨ o = 3 ∨ o = 4 ∨ o = 5 ∨ o = 6 ∨ o = 7 ∨ o = 8 ∨ o = 9 := by omega
    rcases this with rfl | rfl | rfl | rfl | rfl | rfl | rfl | rfl | rfl <;> decide
  rw [spec_l19Bit_l k o.toNat k o 1 0 (by omega) (by omega) (by omega) (by omega) hb (by omega), Int.one_mul]
def isLab (x : Int) : Bool := inR x 0 1022 && x.tmod 2 == 0
def nine : List Int := [1, 2, 3, 4, 5, 6, 7, 8, 9]
def bitO (x o : Int) : Bool := x / 2 ^ o.toNat % 2 == 1
def ownersV (x : Int) : List Int := bif isLab x then nine.filter (bitO x) else []
theorem isLab_bd {x : Int} (h : isLab x = true) : 0 ≤ x ∧ x ≤ 1022 ∧ x % 2 = 0 := by
  unfold isLab at h
  rw [Bool.and_eq_true, inR_true, beq_iff_eq] at h
  rw [Int.tmod_eq_emod_of_nonneg h.1.1] at h
  exact ⟨h.1.1, h.1.2, h.2⟩
theorem isLab_of {x : Int} (h0 : 0 ≤ x) (h1 : x ≤ 1022) (h2 : x % 2 = 0) : isLab x = true := by
  unfold isLab
  rw [Int.tmod_eq_emod_of_nonneg h0, Bool.and_eq_true, inR_true, beq_iff_eq]
  exact ⟨⟨h0, h1⟩, h2⟩
theorem nine_at {i : Nat} {o : Int} (h : nine[i]? = some o) : o = (i : Int) + 1 ∧ i < 9 := by
  have hi : i < 9 := (List.getElem?_eq_some_iff.1 h).1
  refine ⟨?_, hi⟩
  have : i = 0 ∨ i = 1 ∨ i = 2 ∨ i = 3 ∨ i = 4 ∨ i = 5 ∨ i = 6 ∨ i = 7 ∨ i = 8 := by omega
  rcases this with rfl | rfl | rfl | rfl | rfl | rfl | rfl | rfl | rfl <;> simp [nine] at h <;> omega
theorem ownersV_len (x : Int) : (ownersV x).length ≤ 9 := by
  unfold ownersV
  cases isLab x
  · simp
  · exact Nat.le_trans (List.length_filter_le _ _) (by decide)
theorem ownersV_ok (x : Int) : Ok (ownersV x) := Ok.small 9 (ownersV_len x)
theorem pow9 {o : Int} (h1 : 1 ≤ o) (h9 : o ≤ 9) : 2 ≤ (2 : Int) ^ o.toNat ∧ (2 : Int) ^ o.toNat ≤ 512 := by
  have : o = 1 ∨ o = 2 ∨ o = 3 ∨ o = 4 ∨ o = 5 ∨ o = 6 ∨ o = 7 ∨ o = 8 ∨ o = 9 := by omega
  rcases this with rfl | rfl | rfl | rfl | rfl | rfl | rfl | rfl | rfl <;> decide
theorem bit_q {x o : Int} (h : isLab x = true) : 0 ≤ x / 2 ^ o.toNat ∧ x / 2 ^ o.toNat ≤ 1022 := by
  have hb := isLab_bd h
  have hp : (0 : Int) < 2 ^ o.toNat := Int.pow_pos (by omega)
  exact ⟨Int.ediv_nonneg hb.1 (by omega), Int.le_trans (Int.ediv_le_self _ hb.1) hb.2.1⟩
def labelV (l : List Int) : Int := nine.foldl (fun s o => bif hasI l o then s + 2 ^ o.toNat else s) 0
theorem spec_LabelOf_e {k : Nat} (hk : Big k) {l : List Int} (hl : Ok l) : spec_LabelOf.f k l = some (labelV l) := by
  have hk' := hk.out
  unfold spec_LabelOf.f labelV
  exact loop_fold (fun q i s => spec_LabelOf.l3 k l (fun y3 => some y3) q s (i + 1)) (fun s o => bif hasI l o then s + 2 ^ o.toNat else s) (fun i s => 0 ≤ s ∧ s ≤ 512 * (i : Int)) (fun s => some s) nine (fun n i o s hx hi => by
    obtain ⟨rfl, h9⟩ := nine_at hx
    have hp := pow9 (o := (i : Int) + 1) (by omega) (by omega)
    simp only [spec_LabelOf.l3, spec_LabelOf.L3, spec_l7Has_e hk hl, Option.bind_some, spec_l19Bit_e hk _ (show 1 ≤ (i : Int) + 1 by omega) (by omega)]
    rw [decide_eq_true (show (i : Int) + 1 ≤ 9 by omega), cond_true, w64_id (n := s + _) (by omega), w64_id (by omega)]
    cases hasI l ((i : Int) + 1) <;> rfl) (fun i o s hx hi => by
    obtain ⟨rfl, h9⟩ := nine_at hx
    have hp := pow9 (o := (i : Int) + 1) (by omega) (by omega)
    cases hasI l ((i : Int) + 1)
    · show 0 ≤ s ∧ s ≤ 512 * ((i + 1 : Nat) : Int); omega
    · show 0 ≤ s + 2 ^ ((i : Int) + 1).toNat ∧ s + 2 ^ ((i : Int) + 1).toNat ≤ 512 * ((i + 1 : Nat) : Int); omega) (fun n s hs => by
    simp only [spec_LabelOf.l3, spec_LabelOf.L3]
    rfl) k 0 (by show 9 < k; omega) (by simp)
theorem spec_IsLabel_e (k : Nat) (x : Int) : spec_IsLabel.f k x = some (isLab x) := by
  unfold spec_IsLabel.f isLab
  rw [spec_l1In_e, Option.bind_some]
  cases inR x 0 1022 <;> rfl
theorem spec_OwnersIn_e {k : Nat} (hk : Big k) (x : Int) : spec_OwnersIn.f k x = some (ownersV x) := by
  have hk' := hk.out
  unfold spec_OwnersIn.f ownersV
  cases h : isLab x with
  | false =>
    obtain ⟨q, hq⟩ : ∃ j, k = j + 1 := ⟨k - 1, by omega⟩
    rw [show ∀ y, spec_OwnersIn.l3 k x (fun y3 => some y3) k 1 y = spec_OwnersIn.l3 k x (fun y3 => some y3) (q + 1) 1 y from fun y => by rw [← hq]]
    simp only [spec_OwnersIn.l3, spec_OwnersIn.L3, spec_IsLabel_e, h, Option.bind_some, cond_false]
    rfl
  | true =>
    have := loop_fold (fun q i s => spec_OwnersIn.l3 k x (fun y3 => some y3) q (i + 1) s) (fun s o => bif bitO x o then s ++ [o] else s) (fun i s => s.length ≤ i) (fun s => some s) nine (fun n i o s hx hi => by
      obtain ⟨rfl, h9⟩ := nine_at hx
      have hp := pow9 (o := (i : Int) + 1) (by omega) (by omega)
      have hq := bit_q (o := (i : Int) + 1) h
      have hd : Int.tdiv x (2 ^ ((i : Int) + 1).toNat) = x / 2 ^ ((i : Int) + 1).toNat := Int.tdiv_eq_ediv_of_nonneg (isLab_bd h).1
      simp only [spec_OwnersIn.l3, spec_OwnersIn.L3, spec_IsLabel_e, h, Option.bind_some, cond_true, spec_l19Bit_e hk _ (show 1 ≤ (i : Int) + 1 by omega) (by omega), hd]
      rw [decide_eq_true (show (i : Int) + 1 ≤ 9 by omega), cond_true, decide_eq_false (by omega), cond_false, w64_id (n := x / _) (by omega), w64_id (by omega), Int.tmod_eq_emod_of_nonneg hq.1, decide_eq_true (by unfold cap48; simp; omega), cond_true]
      unfold bitO
      cases (x / 2 ^ ((i : Int) + 1).toNat % 2 == 1) <;> rfl) (fun i o s hx hi => by
      cases bitO x o
      · show s.length ≤ i + 1; omega
      · show (s ++ [o]).length ≤ i + 1; simp; omega) (fun n s hs => by
      simp only [spec_OwnersIn.l3, spec_OwnersIn.L3]
      rfl) k [] (by show 9 < k; omega) (Nat.le_refl 0)
    rw [foldl_filter] at this
    exact this
theorem i64_and1 {n : Int} (h0 : 0 ≤ n) (h1 : n ≤ 1022) : bitop .and .i64 n 1 = n % 2 := by
  obtain ⟨m, rfl⟩ := Int.eq_ofNat_of_zero_le h0
  have h127 : (BitVec.ofInt 64 1).toNat = 2 ^ 1 - 1 := by decide
  have key : (BitVec.ofInt 64 (m : Int) &&& BitVec.ofInt 64 1).toNat = ((m : Int) % ((2 ^ 64 : Nat) : Int)).toNat % 2 ^ 1 := by
    rw [BitVec.toNat_and, BitVec.toNat_ofInt, h127, Nat.and_two_pow_sub_one_eq_mod]
  show IntKind.i64.wrap ((BitVec.ofInt 64 (m : Int) &&& BitVec.ofInt 64 1).toNat : Nat) = (m : Int) % 2
  rw [key, show ∀ m : Int, IntKind.i64.wrap m = w64 m from fun _ => rfl, w64_id (by omega)]
  omega
theorem i64_or {a b : Nat} (ha : a < 1024) (hb : b < 1024) : bitop .or .i64 (a : Int) (b : Int) = ((a ||| b : Nat) : Int) := by
  have key : (BitVec.ofInt 64 (a : Int) ||| BitVec.ofInt 64 (b : Int)).toNat = a ||| b := by
    rw [BitVec.toNat_or, BitVec.toNat_ofInt, BitVec.toNat_ofInt]
    congr 1 <;> omega
  have hlt : a ||| b < 2 ^ 10 := Nat.or_lt_two_pow (by omega) (by omega)
  show IntKind.i64.wrap ((BitVec.ofInt 64 (a : Int) ||| BitVec.ofInt 64 (b : Int)).toNat : Nat) = _
  rw [key, show ∀ m : Int, IntKind.i64.wrap m = w64 m from fun _ => rfl, w64_id (by omega)]
theorem or_step (a b : Nat) : a ||| b = 2 * (a / 2 ||| b / 2) + (bif (a % 2 == 1) || (b % 2 == 1) then 1 else 0) := by
  have h1 : (a ||| b) / 2 = a / 2 ||| b / 2 := Nat.or_div_two
  have h2 : (a ||| b) % 2 = bif (a % 2 == 1) || (b % 2 == 1) then 1 else 0 := by
    have ha : a % 2 = 0 ∨ a % 2 = 1 := by omega
    have hb : b % 2 = 0 ∨ b % 2 = 1 := by omega
    have h3 := Nat.or_mod_two_pow (a := a) (b := b) (n := 1)
    simp only [Nat.pow_one] at h3
    rw [h3]
    rcases ha with h | h <;> rcases hb with g | g <;> rw [h, g] <;> rfl
  rw [← h1, ← h2]
  omega
def bitN (a n : Nat) : Bool := a / 2 ^ n % 2 == 1
theorem or_bits {a b : Nat} (ha : a < 1024) (hb : b < 1024) (a0 : a % 2 = 0) (b0 : b % 2 = 0) : a ||| b = (bif bitN a 1 || bitN b 1 then 2 else 0) + (bif bitN a 2 || bitN b 2 then 4 else 0) + (bif bitN a 3 || bitN b 3 then 8 else 0) + (bif bitN a 4 || bitN b 4 then 16 else 0) + (bif bitN a 5 || bitN b 5 then 32 else 0) + (bif bitN a 6 || bitN b 6 then 64 else 0) + (bif bitN a 7 || bitN b 7 then 128 else 0) + (bif bitN a 8 || bitN b 8 then 256 else 0) + (bif bitN a 9 || bitN b 9 then 512 else 0) := by
  have hz : (a / 2 / 2 / 2 / 2 / 2 / 2 / 2 / 2 / 2 / 2 ||| b / 2 / 2 / 2 / 2 / 2 / 2 / 2 / 2 / 2 / 2) = 0 := by
    rw [show a / 2 / 2 / 2 / 2 / 2 / 2 / 2 / 2 / 2 / 2 = 0 by omega, show b / 2 / 2 / 2 / 2 / 2 / 2 / 2 / 2 / 2 / 2 = 0 by omega]; rfl
  rw [or_step a b, or_step (a / 2), or_step (a / 2 / 2), or_step (a / 2 / 2 / 2), or_step (a / 2 / 2 / 2 / 2), or_step (a / 2 / 2 / 2 / 2 / 2), or_step (a / 2 / 2 / 2 / 2 / 2 / 2), or_step (a / 2 / 2 / 2 / 2 / 2 / 2 / 2), or_step (a / 2 / 2 / 2 / 2 / 2 / 2 / 2 / 2), or_step (a / 2 / 2 / 2 / 2 / 2 / 2 / 2 / 2 / 2), hz]
  simp only [a0, b0, Nat.div_div_eq_div_mul, bitN]
  simp only [show (2 * 2 * 2 * 2 * 2 * 2 * 2 * 2 * 2 : Nat) = 2 ^ 9 from rfl, show (2 * 2 * 2 * 2 * 2 * 2 * 2 * 2 : Nat) = 2 ^ 8 from rfl, show (2 * 2 * 2 * 2 * 2 * 2 * 2 : Nat) = 2 ^ 7 from rfl, show (2 * 2 * 2 * 2 * 2 * 2 : Nat) = 2 ^ 6 from rfl, show (2 * 2 * 2 * 2 * 2 : Nat) = 2 ^ 5 from rfl, show (2 * 2 * 2 * 2 : Nat) = 2 ^ 4 from rfl, show (2 * 2 * 2 : Nat) = 2 ^ 3 from rfl, show (2 * 2 : Nat) = 2 ^ 2 from rfl, show (a / 2 : Nat) = a / 2 ^ 1 from rfl, show (b / 2 : Nat) = b / 2 ^ 1 from rfl]
  generalize (a / 2 ^ 1 % 2 == 1 || b / 2 ^ 1 % 2 == 1) = c1, (a / 2 ^ 2 % 2 == 1 || b / 2 ^ 2 % 2 == 1) = c2, (a / 2 ^ 3 % 2 == 1 || b / 2 ^ 3 % 2 == 1) = c3, (a / 2 ^ 4 % 2 == 1 || b / 2 ^ 4 % 2 == 1) = c4, (a / 2 ^ 5 % 2 == 1 || b / 2 ^ 5 % 2 == 1) = c5, (a / 2 ^ 6 % 2 == 1 || b / 2 ^ 6 % 2 == 1) = c6, (a / 2 ^ 7 % 2 == 1 || b / 2 ^ 7 % 2 == 1) = c7, (a / 2 ^ 8 % 2 == 1 || b / 2 ^ 8 % 2 == 1) = c8, (a / 2 ^ 9 % 2 == 1 || b / 2 ^ 9 % 2 == 1) = c9
  clear hz ha hb a0 b0
  revert c1 c2 c3 c4 c5 c6 c7 c8 c9
  decide
theorem bitO_nat (a n : Nat) : bitO (a : Int) ((n : Nat) : Int) = bitN a n := by
  unfold bitO bitN
  rw [Int.toNat_natCast, Bool.eq_iff_iff, beq_iff_eq, beq_iff_eq]
  have : ((a : Int) / 2 ^ n % 2) = ((a / 2 ^ n % 2 : Nat) : Int) := by norm_cast
  rw [this]
  omega
theorem hasI_owners {x : Int} (h : isLab x = true) (o : Int) (ho : o ∈ nine) : hasI (ownersV x) o = bitO x o := by
  unfold hasI ownersV
  rw [h, cond_true, Bool.eq_iff_iff, List.any_eq_true]
  constructor
  · rintro ⟨y, hy, e⟩
    obtain rfl := eq_of_beq e
    exact (List.mem_filter.1 hy).2
  · intro hb
    exact ⟨o, List.mem_filter.2 ⟨ho, hb⟩, beq_self_eq_true o⟩
theorem hasI_append (l m : List Int) (o : Int) : hasI (l ++ m) o = (hasI l o || hasI m o) := by simp [hasI]
def orL (x y : Int) : Int := bitop .or .i64 x y
theorem label_join {x y : Int} (hx : isLab x = true) (hy : isLab y = true) : labelV (ownersV x ++ ownersV y) = orL x y := by
  obtain ⟨x0, x1, x2⟩ := isLab_bd hx
  obtain ⟨y0, y1, y2⟩ := isLab_bd hy
  obtain ⟨a, rfl⟩ := Int.eq_ofNat_of_zero_le x0
  obtain ⟨b, rfl⟩ := Int.eq_ofNat_of_zero_le y0
  unfold orL
  rw [i64_or (by omega) (by omega), or_bits (by omega) (by omega) (by omega) (by omega)]
  unfold labelV
  have H : ∀ n : Nat, (n : Int) ∈ nine → hasI (ownersV (a : Int) ++ ownersV (b : Int)) ((n : Nat) : Int) = (bitN a n || bitN b n) := fun n hn => by rw [hasI_append, hasI_owners hx _ hn, hasI_owners hy _ hn, bitO_nat, bitO_nat]
  have h1 := H 1 (by decide)
  have h2 := H 2 (by decide)
  have h3 := H 3 (by decide)
  have h4 := H 4 (by decide)
  have h5 := H 5 (by decide)
  have h6 := H 6 (by decide)
  have h7 := H 7 (by decide)
  have h8 := H 8 (by decide)
  have h9 := H 9 (by decide)
  generalize ownersV (a : Int) ++ ownersV (b : Int) = L at *
  clear H
  simp only [Int.ofNat_eq_natCast, Int.cast_ofNat_Int] at h1 h2 h3 h4 h5 h6 h7 h8 h9
  simp only [nine, List.foldl_cons, List.foldl_nil]
  rw [show hasI L 1 = _ from h1, show hasI L 2 = _ from h2, show hasI L 3 = _ from h3, show hasI L 4 = _ from h4, show hasI L 5 = _ from h5, show hasI L 6 = _ from h6, show hasI L 7 = _ from h7, show hasI L 8 = _ from h8, show hasI L 9 = _ from h9]
  generalize (bitN a 1 || bitN b 1) = c1, (bitN a 2 || bitN b 2) = c2, (bitN a 3 || bitN b 3) = c3, (bitN a 4 || bitN b 4) = c4, (bitN a 5 || bitN b 5) = c5, (bitN a 6 || bitN b 6) = c6, (bitN a 7 || bitN b 7) = c7, (bitN a 8 || bitN b 8) = c8, (bitN a 9 || bitN b 9) = c9
  clear h1 h2 h3 h4 h5 h6 h7 h8 h9 hx hy x0 x1 x2 y0 y1 y2
  revert c1 c2 c3 c4 c5 c6 c7 c8 c9
  decide
theorem or_lab {x y : Int} (hx : isLab x = true) (hy : isLab y = true) : isLab (orL x y) = true := by
  obtain ⟨x0, x1, x2⟩ := isLab_bd hx
  obtain ⟨y0, y1, y2⟩ := isLab_bd hy
  obtain ⟨a, rfl⟩ := Int.eq_ofNat_of_zero_le x0
  obtain ⟨b, rfl⟩ := Int.eq_ofNat_of_zero_le y0
  unfold orL
  rw [i64_or (by omega) (by omega)]
  have h1 : a ||| b < 2 ^ 10 := Nat.or_lt_two_pow (by omega) (by omega)
  have h2 := or_step a b
  have h3 : (bif (a % 2 == 1) || (b % 2 == 1) then 1 else 0 : Nat) = 0 := by rw [show a % 2 = 0 by omega, show b % 2 = 0 by omega]; rfl
  rw [h3] at h2
  exact isLab_of (by omega) (by omega) (by omega)
theorem orL_assoc {x y z : Int} (hx : isLab x = true) (hy : isLab y = true) (hz : isLab z = true) : orL x (orL y z) = orL (orL x y) z := by
  have h1 := or_lab hx hy
  have h2 := or_lab hy hz
  obtain ⟨x0, x1, x2⟩ := isLab_bd hx
  obtain ⟨y0, y1, y2⟩ := isLab_bd hy
  obtain ⟨z0, z1, z2⟩ := isLab_bd hz
  obtain ⟨a, rfl⟩ := Int.eq_ofNat_of_zero_le x0
  obtain ⟨b, rfl⟩ := Int.eq_ofNat_of_zero_le y0
  obtain ⟨c, rfl⟩ := Int.eq_ofNat_of_zero_le z0
  unfold orL
  have g1 : a ||| b < 2 ^ 10 := Nat.or_lt_two_pow (by omega) (by omega)
  have g2 : b ||| c < 2 ^ 10 := Nat.or_lt_two_pow (by omega) (by omega)
  rw [i64_or (a := b) (by omega) (by omega), i64_or (a := a) (b := b) (by omega) (by omega), i64_or (by omega) (by omega), i64_or (by omega) (by omega), Nat.or_assoc]
theorem label_one {o : Int} (h1 : 1 ≤ o) (h9 : o ≤ 9) : labelV [o] = 2 ^ o.toNat ∧ isLab (2 ^ o.toNat) = true := by
  have : o = 1 ∨ o = 2 ∨ o = 3 ∨ o = 4 ∨ o = 5 ∨ o = 6 ∨ o = 7 ∨ o = 8 ∨ o = 9 := by omega
  rcases this with rfl | rfl | rfl | rfl | rfl | rfl | rfl | rfl | rfl <;> exact ⟨by decide, by decide⟩
theorem spec_JoinLabels_e {k : Nat} (hk : Big k) {x y : Int} (hx : isLab x = true) (hy : isLab y = true) : spec_JoinLabels.f k x y = some (orL x y) := by
  unfold spec_JoinLabels.f
  have h1 := ownersV_len x
  have h2 := ownersV_len y
  simp only [spec_IsLabel_e, hx, hy, spec_OwnersIn_e hk, Option.bind_some, Bool.not_true, cond_false]
  rw [decide_eq_true (by unfold cap48; omega), cond_true, spec_LabelOf_e hk (Ok.small 18 (by simp; omega)), Option.bind_some, label_join hx hy]
abbrev PSt := List T_impl_Sent × List Int × List Int
def stp (vals : List Int) (o : T_impl_Op) (v b : List Int) : List Int × List Int :=
  bif o.f0 == 1 then (v.set o.f1.toNat (valV vals o.f2), b.set o.f1.toNat (2 ^ o.f2.toNat))
  else bif o.f0 == 2 then (v.set o.f1.toNat o.f2, b.set o.f1.toNat 0)
  else bif o.f0 == 3 then (v.set o.f1.toNat ((rd_i64 v o.f2 + rd_i64 v o.f3).tmod 1000), b.set o.f1.toNat (orL (rd_i64 b o.f2) (rd_i64 b o.f3)))
  else bif o.f0 == 4 then ((bif (rd_i64 v o.f2).tmod 2 == 0 then v.set o.f1.toNat (rd_i64 v o.f3) else v), b.set o.f1.toNat (orL (orL (rd_i64 b o.f1) (rd_i64 b o.f2)) (rd_i64 b o.f3)))
  else (v, b)
def snt (o : T_impl_Op) (v b : List Int) : List T_impl_Sent := bif o.f0 == 5 then [⟨o.f2, rd_i64 v o.f1, rd_i64 b o.f1⟩] else []
def runF (vals : List Int) (s : PSt) (o : T_impl_Op) : PSt := (s.1 ++ snt o s.2.1 s.2.2, stp vals o s.2.1 s.2.2)
def runV (vals : List Int) (l : List T_impl_Op) : PSt := l.foldl (runF vals) ([], zeros, zeros)
structure Regs (v b : List Int) : Prop where
  vl : v.length = 6
  bl : b.length = 6
  vr : ∀ x ∈ v, 0 ≤ x ∧ x ≤ 999
  br : ∀ x ∈ b, isLab x = true
theorem Regs.zero : Regs zeros zeros := ⟨rfl, rfl, by decide, by decide⟩
theorem rd_mem {l : List Int} {i : Int} (h : 0 ≤ i ∧ i < (l.length : Int)) : rd_i64 l i ∈ l := by
  obtain ⟨n, rfl⟩ := Int.eq_ofNat_of_zero_le h.1
  have hlt : n < l.length := by omega
  show l.getD n z_i64 ∈ l
  rw [List.getD_eq_getElem?_getD, List.getElem?_eq_getElem hlt]
  exact List.getElem_mem hlt
theorem Regs.val {v b : List Int} (h : Regs v b) {i : Int} (hi : inR i 0 5 = true) : 0 ≤ rd_i64 v i ∧ rd_i64 v i ≤ 999 := by
  have := inR_true.1 hi
  have h6 := h.vl
  exact h.vr _ (rd_mem (by omega))
theorem Regs.lab {v b : List Int} (h : Regs v b) {i : Int} (hi : inR i 0 5 = true) : isLab (rd_i64 b i) = true := by
  have := inR_true.1 hi
  have h6 := h.bl
  exact h.br _ (rd_mem (by omega))
theorem mem_set_or {α : Type} {l : List α} {n : Nat} {x y : α} (h : y ∈ l.set n x) : y ∈ l ∨ y = x := List.mem_or_eq_of_mem_set h
theorem Regs.set {v b : List Int} (h : Regs v b) (n m : Nat) {x y : Int} (hx : 0 ≤ x ∧ x ≤ 999) (hy : isLab y = true) : Regs (v.set n x) (b.set m y) :=
  ⟨by rw [List.length_set, h.vl], by rw [List.length_set, h.bl], fun z hz => (mem_set_or hz).elim (h.vr z) fun e => e ▸ hx, fun z hz => (mem_set_or hz).elim (h.br z) fun e => e ▸ hy⟩
theorem Regs.setb {v b : List Int} (h : Regs v b) (m : Nat) {y : Int} (hy : isLab y = true) : Regs v (b.set m y) :=
  ⟨h.vl, by rw [List.length_set, h.bl], h.vr, fun z hz => (mem_set_or hz).elim (h.br z) fun e => e ▸ hy⟩
/-- What a step is, by its kind. -/
theorem op_cases {o : T_impl_Op} (h : opOk o = true) : inR o.f1 0 5 = true ∧ ((o.f0 = 1 ∧ inR o.f2 1 9 = true) ∨ (o.f0 = 2 ∧ inR o.f2 0 999 = true) ∨ (o.f0 = 3 ∧ inR o.f2 0 5 = true ∧ inR o.f3 0 5 = true) ∨ (o.f0 = 4 ∧ inR o.f2 0 5 = true ∧ inR o.f3 0 5 = true) ∨ (o.f0 = 5 ∧ inR o.f2 1 9 = true)) := by
  unfold opOk isOpV at h
  rw [Bool.and_eq_true] at h
  refine ⟨h.1, ?_⟩
  have h2 := h.2
  split at h2
  · rename_i h3
    rw [Bool.and_eq_true] at h2
    rcases h3 with h3 | h3
    · exact .inl ⟨h3, h2.1⟩
    · exact .inr (.inr (.inr (.inr ⟨h3, h2.1⟩)))
  · split at h2
    · rename_i h3
      rw [Bool.and_eq_true] at h2
      exact .inr (.inl ⟨h3, h2.1⟩)
    · split at h2
      · rename_i h3
        rw [Bool.and_eq_true] at h2
        rcases h3 with h3 | h3
        · exact .inr (.inr (.inl ⟨h3, h2.1, h2.2⟩))
        · exact .inr (.inr (.inr (.inl ⟨h3, h2.1, h2.2⟩)))
      · cases h2
theorem add_mod {x y : Int} (hx : 0 ≤ x ∧ x ≤ 999) (hy : 0 ≤ y ∧ y ≤ 999) : w64 (x + y) = x + y ∧ 0 ≤ (x + y).tmod 1000 ∧ (x + y).tmod 1000 ≤ 999 := by
  refine ⟨w64_id (by omega), ?_⟩
  rw [Int.tmod_eq_emod_of_nonneg (by omega)]
  omega
theorem Regs.step {v b : List Int} (h : Regs v b) (vals : List Int) {o : T_impl_Op} (ho : opOk o = true) : Regs (stp vals o v b).1 (stp vals o v b).2 := by
  obtain ⟨hA, hc⟩ := op_cases ho
  unfold stp
  rcases hc with ⟨e, h2⟩ | ⟨e, h2⟩ | ⟨e, h2, h3⟩ | ⟨e, h2, h3⟩ | ⟨e, h2⟩ <;> rw [e]
  · have := inR_true.1 h2
    exact h.set _ _ (valV_rg _ _) (label_one this.1 this.2).2
  · exact h.set _ _ (inR_true.1 h2) rfl
  · exact h.set _ _ (add_mod (h.val h2) (h.val h3)).2 (or_lab (h.lab h2) (h.lab h3))
  · have hl := or_lab (or_lab (h.lab hA) (h.lab h2)) (h.lab h3)
    show Regs (bif (rd_i64 v o.f2).tmod 2 == 0 then v.set o.f1.toNat (rd_i64 v o.f3) else v) _
    cases (rd_i64 v o.f2).tmod 2 == 0
    · exact h.setb _ hl
    · exact h.set _ _ (h.val h3) hl
  · exact h
theorem snt_len (o : T_impl_Op) (v b : List Int) : (snt o v b).length ≤ 1 := by
  unfold snt; cases o.f0 == 5 <;> simp
/-- A step is one of the list's. -/
theorem all_at {α : Type} {p : α → Bool} {l : List α} (h : l.all p = true) {i : Nat} {x : α} (hx : l[i]? = some x) : p x = true := by
  rw [List.all_eq_true] at h
  exact h x (List.mem_of_getElem? hx)
theorem spec_l21Step_e {k : Nat} (hk : Big k) {vals : List Int} (hv : Ok vals) {v b : List Int} (hr : Regs v b) {o : T_impl_Op} (ho : opOk o = true) :
    spec_l21Step.f k o.f0 o.f1 o.f2 o.f3 vals v b = some (bif o.f0 == 5 then (o.f2, rd_i64 v o.f1, rd_i64 b o.f1, true, v, b) else (0, 0, 0, false, (stp vals o v b).1, (stp vals o v b).2)) := by
  obtain ⟨hA, hc⟩ := op_cases ho
  have A1 := inR_true.1 hA
  have v6 := hr.vl
  have b6 := hr.bl
  have gA0 : decide (0 ≤ o.f1) = true := decide_eq_true A1.1
  have gA6 : decide (o.f1 < 6) = true := decide_eq_true (by omega)
  unfold spec_l21Step.f stp
  rcases hc with ⟨e, q2⟩ | ⟨e, q2⟩ | ⟨e, q2, q3⟩ | ⟨e, q2, q3⟩ | ⟨e, q2⟩
  · have B1 := inR_true.1 q2
    simp only [e, beq_self_eq_true, cond_true, spec_l21Value_e k hv B1.1, spec_LabelOf_e hk (Ok.small (l := [o.f2]) 1 (by simp)), (label_one B1.1 B1.2).1, Option.bind_some, v6, b6, gA0, gA6, Int.cast_ofNat_Int]
    rfl
  · simp [e, v6, b6, gA0, gA6]
  · have B1 := inR_true.1 q2
    have C1 := inR_true.1 q3
    have hm := (add_mod (hr.val q2) (hr.val q3)).1
    simp only [e, v6, b6, gA0, gA6, Int.cast_ofNat_Int, decide_eq_true B1.1, decide_eq_true C1.1, decide_eq_true (show o.f2 < 6 by omega), decide_eq_true (show o.f3 < 6 by omega), cond_true, hm, spec_JoinLabels_e hk (hr.lab q2) (hr.lab q3), Option.bind_some]
    rfl
  · have B1 := inR_true.1 q2
    have C1 := inR_true.1 q3
    simp only [e, v6, b6, gA0, gA6, Int.cast_ofNat_Int, decide_eq_true B1.1, decide_eq_true C1.1, decide_eq_true (show o.f2 < 6 by omega), decide_eq_true (show o.f3 < 6 by omega), cond_true, spec_JoinLabels_e hk (hr.lab q2) (hr.lab q3), spec_JoinLabels_e hk (hr.lab hA) (or_lab (hr.lab q2) (hr.lab q3)), Option.bind_some, orL_assoc (hr.lab hA) (hr.lab q2) (hr.lab q3)]
    cases (rd_i64 v o.f2).tmod 2 == 0 <;> rfl
  · simp [e, v6, b6, gA0, gA6]
theorem stp_send {vals : List Int} {o : T_impl_Op} {v b : List Int} (h : (o.f0 == 5) = true) : stp vals o v b = (v, b) := by
  have e := eq_of_beq h
  unfold stp
  rw [e]
  rfl
def hasF (l : List T_impl_Flow) (a b c : Int) : Bool := l.any fun x => (x.f0 == a) && ((x.f1 == b) && (x.f2 == c))
theorem spec_l20Has_e {k : Nat} (hk : Big k) {l : List T_impl_Flow} (hl : Ok l) (a b c : Int) : spec_l20Has.f k l a b c = some (hasF l a b c) := by
  unfold spec_l20Has.f hasF
  rw [loop_any (spec_l20Has.l2 k l a b c (fun y => some y) (fun _ => some false)) (fun x => (x.f0 == a) && ((x.f1 == b) && (x.f2 == c))) (some false) (some true) l (fun n i x hx => by
    obtain ⟨h1, h2, h3, h4⟩ := at_ hx (by have := hl.out; omega)
    simp only [spec_l20Has.l2, spec_l20Has.L2, rd_impl_Flow, h1, h2, h3, h4, cond_true]) (fun n => by simp only [spec_l20Has.l2, spec_l20Has.L2, end_, cond_false]) k (hk.lt hl)]
  cases l.any fun x => (x.f0 == a) && ((x.f1 == b) && (x.f2 == c)) <;> rfl
def mayOne (l : List T_impl_Flow) (e t o : Int) : Bool := !(o != t) || (isFlowV e o t && hasF l e o t)
def mayV (l : List T_impl_Flow) (e x t : Int) : Bool := (ownersV x).all (mayOne l e t) && (isLab x && inR t 1 9)
theorem run_len (vals : List Int) : ∀ (l : List T_impl_Op) (s : PSt), (l.foldl (runF vals) s).1.length ≤ s.1.length + l.length
  | [], s => by simp
  | o :: l, s => by
    have h := run_len vals l (runF vals s o)
    have hn := snt_len o s.2.1 s.2.2
    have : (runF vals s o).1.length = s.1.length + (snt o s.2.1 s.2.2).length := by simp [runF]
    rw [List.foldl_cons, List.length_cons]
    omega
theorem areOps_all {l : List T_impl_Op} (h : areOps l = true) : l.all opOk = true ∧ l.length ≤ 16 := by
  unfold areOps at h
  rw [Bool.and_eq_true] at h
  exact ⟨h.1, of_decide_eq_true h.2⟩
theorem sents_len {vals : List Int} {l : List T_impl_Op} (h : areOps l = true) : (runV vals l).1.length ≤ 16 := by
  have := run_len vals l ([], zeros, zeros)
  have h2 := (areOps_all h).2
  unfold runV
  simp only [List.length_nil] at this
  omega
def mayS (fl : List T_impl_Flow) (e : Int) (s : T_impl_Sent) : Bool := mayV fl e s.f2 s.f0
def sentsV (l : List T_impl_Op) (vals : List Int) (fl : List T_impl_Flow) (e : Int) : List T_impl_Sent := bif areOps l then (runV vals l).1.filter (mayS fl e) else []
theorem sentsV_len (l : List T_impl_Op) (vals : List Int) (fl : List T_impl_Flow) (e : Int) : (sentsV l vals fl e).length ≤ 16 := by
  unfold sentsV
  cases h : areOps l with
  | false => simp
  | true => exact Nat.le_trans (List.length_filter_le _ _) (sents_len h)
def addOne (e t : Int) (out : List T_impl_Flow) (o : Int) : List T_impl_Flow := bif (o != t) && !hasF out e o t then out ++ [⟨e, o, t⟩] else out
def addS (e : Int) (out : List T_impl_Flow) (s : T_impl_Sent) : List T_impl_Flow := (ownersV s.f2).foldl (addOne e s.f0) out
def needsV (l : List T_impl_Op) (e : Int) : List T_impl_Flow := bif areOps l then (runV [] l).1.foldl (addS e) [] else []
theorem addOne_len (e t : Int) (out : List T_impl_Flow) (o : Int) : (addOne e t out o).length ≤ out.length + 1 := by
  unfold addOne
  cases (o != t) && !hasF out e o t <;> simp
theorem addO_len (e t : Int) : ∀ (L : List Int) (out : List T_impl_Flow), (L.foldl (addOne e t) out).length ≤ out.length + L.length
  | [], out => by simp
  | o :: L, out => by
    have h1 := addO_len e t L (addOne e t out o)
    have h2 := addOne_len e t out o
    rw [List.foldl_cons, List.length_cons]
    omega
theorem addS_len (e : Int) (out : List T_impl_Flow) (s : T_impl_Sent) : (addS e out s).length ≤ out.length + 9 := by
  have h1 := addO_len e s.f0 (ownersV s.f2) out
  have h2 := ownersV_len s.f2
  unfold addS
  omega
theorem addSs_len (e : Int) : ∀ (S : List T_impl_Sent) (out : List T_impl_Flow), (S.foldl (addS e) out).length ≤ out.length + 9 * S.length
  | [], out => by simp
  | s :: S, out => by
    have h1 := addSs_len e S (addS e out s)
    have h2 := addS_len e out s
    rw [List.foldl_cons, List.length_cons]
    omega
theorem needsV_len (l : List T_impl_Op) (e : Int) : (needsV l e).length ≤ 144 := by
  unfold needsV
  cases h : areOps l with
  | false => simp
  | true =>
    have h1 := addSs_len e (runV [] l).1 []
    have h2 := sents_len (vals := []) h
    simp only [List.length_nil] at h1
    simp only [cond_true]
    omega
theorem needsV_ok (l : List T_impl_Op) (e : Int) : Ok (needsV l e) := Ok.small 144 (needsV_len l e)
theorem spec_NeedsFlows_in {k : Nat} (hk : Big k) (e x5 : Int) (l : List T_impl_Op) (v b : List Int) (t a x : Int) {R : Type} (X : List T_impl_Flow → Option R) {L : List Int} (hL : L.length ≤ 9) {out : List T_impl_Flow} (ho : out.length ≤ 1000) :
    spec_NeedsFlows.l10 k e x5 true l v b t a x L X k 0 out = X (L.foldl (addOne e t) out) := by
  refine loop_fold (fun q i s => spec_NeedsFlows.l10 k e x5 true l v b t a x L X q i s) (addOne e t) (fun i s => s.length ≤ out.length + i) X L (fun n i o s hx hi => ?_) (fun i o s hx hi => ?_) (fun n s hi => ?_) k out (by have := hk.out; omega) (Nat.le_refl _)
  · have hlt := lt_of hx
    obtain ⟨h1, h2, h3, h4⟩ := at_ hx (by omega)
    have hi : s.length ≤ out.length + i := hi
    simp only [spec_NeedsFlows.l10, spec_NeedsFlows.L10, rd_i64, h1, h2, h3, h4, cond_true, spec_l20Has_e hk (Ok.small (l := s) 2000 (by omega)), Option.bind_some, addOne]
    rw [decide_eq_true (by unfold cap48; simp; omega), cond_true]
    cases o != t <;> cases hasF s e o t <;> rfl
  · have := addOne_len e t s o
    show (addOne e t s o).length ≤ out.length + (i + 1)
    have hi : s.length ≤ out.length + i := hi
    omega
  · simp only [spec_NeedsFlows.l10, spec_NeedsFlows.L10, end_, cond_false]
abbrev NSt := List T_impl_Flow × List Int × List Int
def runN (e : Int) (s : NSt) (o : T_impl_Op) : NSt := ((snt o s.2.1 s.2.2).foldl (addS e) s.1, stp [] o s.2.1 s.2.2)
theorem runN_fold (e : Int) : ∀ (l : List T_impl_Op) (s : PSt), l.foldl (runN e) (s.1.foldl (addS e) [], s.2) = ((l.foldl (runF []) s).1.foldl (addS e) [], (l.foldl (runF []) s).2)
  | [], s => rfl
  | o :: l, s => by
    rw [List.foldl_cons, List.foldl_cons, ← runN_fold e l]
    unfold runN runF
    rw [List.foldl_append]
theorem spec_NeedsFlows_e {k : Nat} (hk : Big k) {l : List T_impl_Op} (hl : Ok l) (e : Int) : spec_NeedsFlows.f k l e = some (needsV l e) := by
  have hl' := hl.out
  have hk' := hk.out
  unfold spec_NeedsFlows.f needsV
  simp only [spec_l21Zeros_e hk, Option.bind_some]
  cases h : areOps l with
  | false =>
    obtain ⟨q, hq⟩ : ∃ j, k = j + 1 := ⟨k - 1, by omega⟩
    rw [show ∀ a b, spec_NeedsFlows.l5 k e l (fun y => some y) k 0 [] a b = spec_NeedsFlows.l5 k e l (fun y => some y) (q + 1) 0 [] a b from fun a b => by rw [← hq]]
    simp only [spec_NeedsFlows.l5, spec_NeedsFlows.L5, spec_AreOps_e hk hl, h, Option.bind_some, cond_false]
    cases decide ((0 : Int) < (l.length : Int)) <;> rfl
  | true =>
    obtain ⟨ha, h16⟩ := areOps_all h
    have := loop_fold (fun q i (s : NSt) => spec_NeedsFlows.l5 k e l (fun y => some y) q i s.1 s.2.1 s.2.2) (runN e) (fun i s => s.1.length ≤ 9 * i ∧ Regs s.2.1 s.2.2) (fun s => some s.1) l (fun n i o s hx hi => by
      obtain ⟨s, v, b⟩ := s
      obtain ⟨hs, hr⟩ := hi
      have hlt := lt_of hx
      obtain ⟨h1, h2, h3, h4⟩ := at_ hx (by omega)
      have hs : s.length ≤ 9 * i := hs
      simp only [spec_NeedsFlows.l5, spec_NeedsFlows.L5, rd_impl_Op, h1, h2, h3, h4, cond_true, spec_AreOps_e hk hl, h, spec_l21Step_e hk (Ok.small (l := ([] : List Int)) 0 (by simp)) hr (all_at ha hx), Option.bind_some, runN, snt]
      cases h5 : o.f0 == 5 with
      | false =>
        simp only [cond_false, spec_OwnersIn_e hk, Option.bind_some]
        obtain ⟨q, rfl⟩ : ∃ j, k = j + 1 := ⟨k - 1, by omega⟩
        rw [show ownersV 0 = [] by decide]
        rfl
      | true =>
        rw [stp_send h5]
        simp only [cond_true, spec_OwnersIn_e hk, Option.bind_some]
        rw [spec_NeedsFlows_in hk _ _ _ _ _ _ _ _ _ (ownersV_len _) (by omega)]
        rfl) (fun i o s hx hi => by
      refine ⟨?_, hi.2.step [] (all_at ha hx)⟩
      have h9 := snt_len o s.2.1 s.2.2
      have h8 := addSs_len e (snt o s.2.1 s.2.2) s.1
      have h7 : s.1.length ≤ 9 * i := hi.1
      show ((snt o s.2.1 s.2.2).foldl (addS e) s.1).length ≤ 9 * (i + 1)
      omega) (fun n s hi => by simp only [spec_NeedsFlows.l5, spec_NeedsFlows.L5, end_, cond_false]) k ([], zeros, zeros) (hk.lt hl) ⟨Nat.le_refl 0, Regs.zero⟩
    have h2 := runN_fold e l ([], zeros, zeros)
    rw [show (([] : List T_impl_Sent).foldl (addS e) []) = [] from rfl] at h2
    rw [h2] at this
    exact this
theorem rd_zeros (i : Int) : rd_i64 zeros i = 0 := by
  show zeros.getD i.toNat z_i64 = 0
  have : i.toNat = 0 ∨ i.toNat = 1 ∨ i.toNat = 2 ∨ i.toNat = 3 ∨ i.toNat = 4 ∨ i.toNat = 5 ∨ 6 ≤ i.toNat := by omega
  rcases this with e | e | e | e | e | e | e
  · rw [e]; rfl
  · rw [e]; rfl
  · rw [e]; rfl
  · rw [e]; rfl
  · rw [e]; rfl
  · rw [e]; rfl
  · rw [List.getD_eq_getElem?_getD, List.getElem?_eq_none (by simpa [zeros] using e)]; rfl
theorem needs_short {l : List T_impl_Op} (e : Int) (h : l.length ≤ 1) : needsV l e = [] := by
  unfold needsV
  cases areOps l with
  | false => rfl
  | true =>
    match l, h with
    | [], _ => rfl
    | [o], _ =>
      show (([] : List T_impl_Sent) ++ snt o zeros zeros).foldl (addS e) [] = []
      unfold snt
      cases o.f0 == 5 with
      | false => rfl
      | true =>
        show addS e [] ⟨o.f2, rd_i64 zeros o.f1, rd_i64 zeros o.f1⟩ = []
        unfold addS
        simp only [rd_zeros]
        rw [show ownersV 0 = [] by decide]
        rfl
    | _ :: _ :: _, h => simp at h
theorem needs_two {l : List T_impl_Op} (e : Int) (h : l.length ≤ 2) : (needsV l e).length ≤ 18 := by
  unfold needsV
  cases ha : areOps l with
  | false => simp
  | true =>
    have h1 := addSs_len e (runV [] l).1 []
    have h2 := run_len [] l ([], zeros, zeros)
    simp only [List.length_nil] at h1 h2
    simp only [cond_true]
    unfold runV at h1 ⊢
    omega
theorem spec_l27Fine_l4 (k : Nat) {l : List Int} (x1 c0 c1 c2 c3 d0 d1 d2 d3 e0 e1 : Int) (g1 : List T_impl_Grant) (f1 : List T_impl_Flow) (r1 : List T_impl_Rule) (o1 : List T_impl_Op) (f2 : List T_impl_Flow) (r2 : List T_impl_Rule) (o2 : List T_impl_Op) {R : Type} (X : Int → Int → List T_impl_Grant → Option R) (Q : R → Prop)
    (hX : ∀ p h g, Pos l p → g.length = 4 → Ret' (X p h g) Q) {p : Int} (h : Int) (hp : Pos l p) {q : Nat} (hq : 5 ≤ q) : Ret' (spec_l27Fine.l4 k x1 l c0 c1 c2 c3 d0 d1 d2 d3 e0 e1 g1 f1 r1 o1 f2 r2 o2 X q 1 p h []) Q := by
  have step : ∀ (n : Nat) (x p h : Int) (s : List T_impl_Grant), 0 ≤ x → x ≤ 4 → Pos l p → s.length ≤ 10 → (∀ p' h' y, Pos l p' → Ret' (spec_l27Fine.l4 k x1 l c0 c1 c2 c3 d0 d1 d2 d3 e0 e1 g1 f1 r1 o1 f2 r2 o2 X n (x + 1) p' h' (s ++ [y])) Q) →
      Ret' (spec_l27Fine.l4 k x1 l c0 c1 c2 c3 d0 d1 d2 d3 e0 e1 g1 f1 r1 o1 f2 r2 o2 X (n + 1) x p h s) Q := fun n x p h s h0 h4 hp hs ih => by
    simp only [spec_l27Fine.l4, spec_l27Fine.L4]
    rw [decide_eq_true h4, cond_true, w64_id (n := x + 1) (by omega)]
    refine (spec_l1Below_t k h hp 20 (by decide)).bind fun t ⟨q, _⟩ => ?_
    rw [decide_eq_true (by unfold cap48; simp; omega), cond_true]
    exact ih _ _ _ q
  obtain ⟨q, rfl⟩ : ∃ j, q = j + 5 := ⟨q - 5, by omega⟩
  refine step _ _ _ _ _ (by decide) (by decide) hp (by simp) fun p h y1 hp => step _ _ _ _ _ (by decide) (by decide) hp (by simp) fun p h y2 hp => step _ _ _ _ _ (by decide) (by decide) hp (by simp) fun p h y3 hp => step _ _ _ _ _ (by decide) (by decide) hp (by simp) fun p h y4 hp => ?_
  simp only [spec_l27Fine.l4, spec_l27Fine.L4]
  exact hX p h _ hp rfl
theorem spec_l27Fine_l8 (k : Nat) {l : List Int} (hk : Big k) (x1 c0 c1 c2 c3 d0 d1 d2 d3 : Int) (g1 : List T_impl_Grant) (f1 : List T_impl_Flow) (r1 : List T_impl_Rule) (o1 : List T_impl_Op) (g2 : List T_impl_Grant) (f2 : List T_impl_Flow) (o2 : List T_impl_Op) {R : Type} (X : Int → Int → List T_impl_Rule → Option R) (Q : R → Prop)
    (hX : ∀ p h r, Pos l p → r.length ≤ 20 → Ret' (X p h r) Q) {p : Int} (h : Int) (hp : Pos l p) {n : Int} (h0 : 0 ≤ n) (h3 : n < 3) : Ret' (spec_l27Fine.l8 k x1 l c0 c1 c2 c3 d0 d1 d2 d3 g1 f1 r1 o1 g2 f2 o2 X k n p h []) Q := by
  have hk' := hk.out
  obtain ⟨n, rfl⟩ := Int.eq_ofNat_of_zero_le h0
  refine loop_down (spec_l27Fine.l8 k x1 l c0 c1 c2 c3 d0 d1 d2 d3 g1 f1 r1 o1 g2 f2 o2 X) 20 (Pos l) _ (fun q n p h s hp hb ih => ?_) (fun q p h s hp hf => ?_) n k _ _ [] (by omega) hp (by simp; omega)
  · simp only [spec_l27Fine.l8, spec_l27Fine.L8, down_gt, cond_true, down1 n (by omega)]
    refine (spec_l13Draw_t k h hp).bind fun t q => ?_
    rw [decide_eq_true (by unfold cap48; simp; omega), cond_true]
    exact ih _ _ _ q
  · simp only [spec_l27Fine.l8, spec_l27Fine.L8]
    exact hX p h s hp hf
def FineP (l : List Int) (t : Int × Int × Int × Int × Int × Int × List T_impl_Grant × List T_impl_Flow × List T_impl_Rule × List T_impl_Op) : Prop := Pos l t.2.2.2.2.1 ∧ 1 ≤ t.2.2.2.2.2.2.1.length ∧ t.2.2.2.2.2.2.1.length ≤ 20 ∧ t.2.2.2.2.2.2.2.1.length ≤ 20 ∧ t.2.2.2.2.2.2.2.2.1.length ≤ 20 ∧ t.2.2.2.2.2.2.2.2.2.length ≤ 20
theorem fine_seal {k : Nat} (hk : Big k) {l : List Int} (key a b c : Int) {g : List T_impl_Grant} {f : List T_impl_Flow} {r : List T_impl_Rule} {o : List T_impl_Op} (d : Int) {p : Int} (h : Int) (hp : Pos l p) (hg1 : 1 ≤ g.length) (hg : g.length ≤ 20) (hf : f.length ≤ 20) (hr : r.length ≤ 20) (ho : o.length ≤ 20) :
    Ret' ((spec_SealPackage.f k key a b c g f r o d).bind fun t => some (t.1, t.2.1, t.2.2.1, t.2.2.2.1, p, h, t.2.2.2.2.1, t.2.2.2.2.2.1, t.2.2.2.2.2.2.1, t.2.2.2.2.2.2.2)) (FineP l) := by
  rw [spec_SealPackage_e hk key a b c d (Ok.small 20 hg) (Ok.small 20 hf) (Ok.small 20 hr) (Ok.small 20 ho), Option.bind_some]
  exact .some ⟨hp, hg1, hg, hf, hr, ho⟩
theorem spec_l27Fine_t {k : Nat} (hk : Big k) {l : List Int} {p : Int} (h : Int) (hp : Pos l p) (e : Int) : Ret' (spec_l27Fine.f k l p h e) (FineP l) := by
  have hk' := hk.out
  unfold spec_l27Fine.f
  refine (spec_l1Below_t k h hp 3 (by decide)).bind fun t1 ⟨q, _⟩ => (spec_l1Below_t k _ q 3 (by decide)).bind fun t2 ⟨q, _⟩ => (spec_l21Ops_t hk _ q).bind fun t3 ⟨q, ho⟩ => ?_
  refine spec_l27Fine_l4 k _ _ _ _ _ _ _ _ _ _ _ _ _ _ _ _ _ _ _ _ (fun p h g hp hg => ?_) _ q (by omega)
  refine (spec_l1Below_t k h hp 3 (by decide)).bind fun t9 ⟨q, b0, b1⟩ => spec_l27Fine_l8 k hk _ _ _ _ _ _ _ _ _ _ _ _ _ _ _ _ _ _ (fun p h r hp hr => ?_) _ q b0 b1
  rw [spec_NeedsFlows_e hk (Ok.small 20 ho), Option.bind_some]
  have g0 : decide ((0 : Int) < (g.length : Int)) = true := decide_eq_true (by omega)
  have g2 : decide ((2 : Int) < (g.length : Int)) = true := decide_eq_true (by omega)
  have g3 : decide ((2 : Int) ≤ (g.length : Int)) = true := decide_eq_true (by omega)
  have hset : ∀ (i : Nat) (x : T_impl_Grant), (g.set i x).length = 4 := fun i x => by rw [List.length_set, hg]
  have htk : ((g.take ((2 : Int)).toNat).drop ((0 : Int)).toNat).length = 2 := by simp [hg]
  generalize t3.2.2 = ops at ho
  refine .bif (fun c => ?_) fun c => ?_
  · have c := of_decide_eq_true c
    have h2 : 2 ≤ ops.length := by
      by_cases h2 : 2 ≤ ops.length
      · exact h2
      · rw [needs_short e (by omega)] at c
        simp at c
    have ho2 : ((ops.take ((2 : Int)).toNat).drop ((0 : Int)).toNat).length = 2 := by simp; omega
    rw [decide_eq_true (show (2 : Int) ≤ (ops.length : Int) by omega)]
    simp only [show decide ((0 : Int) ≤ 2) = true from rfl, show decide ((0 : Int) ≤ 0) = true from rfl, cond_true]
    rw [spec_NeedsFlows_e hk (Ok.small 2 (by omega)), Option.bind_some]
    have hn := needs_two (l := (ops.take ((2 : Int)).toNat).drop ((0 : Int)).toNat) e (by omega)
    refine (spec_l1Below_t k _ hp 8 (by decide)).bind fun t17 ⟨q, _⟩ => ?_
    simp only [g0, g2, g3, cond_true]
    exact .bif (fun _ => fine_seal hk _ _ _ _ _ _ q (by rw [hset]; decide) (by rw [hset]; decide) (by omega) hr (by omega)) fun _ => .bif (fun _ => fine_seal hk _ _ _ _ _ _ q (by rw [hset]; decide) (by rw [hset]; decide) (by omega) hr (by omega)) fun _ =>
      .bif (fun _ => fine_seal hk _ _ _ _ _ _ q (by omega) (by omega) (by simp) hr (by omega)) fun _ => .bif (fun _ => fine_seal hk _ _ _ _ _ _ q (by omega) (by omega) (by omega) hr (by omega)) fun _ => fine_seal hk _ _ _ _ _ _ q (by omega) (by omega) (by omega) hr (by omega)
  · have c := of_decide_eq_false c
    have hn : (needsV ops e).length ≤ 6 := by omega
    refine (spec_l1Below_t k _ hp 8 (by decide)).bind fun t17 ⟨q, _⟩ => ?_
    simp only [show decide ((0 : Int) ≤ 2) = true from rfl, show decide ((0 : Int) ≤ 0) = true from rfl, g0, g2, g3, cond_true]
    exact .bif (fun _ => fine_seal hk _ _ _ _ _ _ q (by rw [hset]; decide) (by rw [hset]; decide) (by omega) hr (by omega)) fun _ => .bif (fun _ => fine_seal hk _ _ _ _ _ _ q (by rw [hset]; decide) (by rw [hset]; decide) (by omega) hr (by omega)) fun _ =>
      .bif (fun _ => fine_seal hk _ _ _ _ _ _ q (by omega) (by omega) (by simp) hr (by omega)) fun _ => .bif (fun _ => fine_seal hk _ _ _ _ _ _ q (by omega) (by omega) (by omega) hr (by omega)) fun _ => fine_seal hk _ _ _ _ _ _ q (by omega) (by omega) (by omega) hr (by omega)
def PairP (l : List Int) (t : Int × Int × Int × Int × Int × Int × Int × Int × Int × Int × List T_impl_Grant × List T_impl_Flow × List T_impl_Rule × List T_impl_Op × List T_impl_Grant × List T_impl_Flow × List T_impl_Rule × List T_impl_Op) : Prop :=
  Pos l t.2.2.2.2.2.2.2.2.1 ∧ Small t.2.2.2.2.2.2.2.2.2.2.1 t.2.2.2.2.2.2.2.2.2.2.2.1 t.2.2.2.2.2.2.2.2.2.2.2.2.1 t.2.2.2.2.2.2.2.2.2.2.2.2.2.1 ∧ Small t.2.2.2.2.2.2.2.2.2.2.2.2.2.2.1 t.2.2.2.2.2.2.2.2.2.2.2.2.2.2.2.1 t.2.2.2.2.2.2.2.2.2.2.2.2.2.2.2.2.1 t.2.2.2.2.2.2.2.2.2.2.2.2.2.2.2.2.2
theorem pair_seal {k : Nat} (hk : Big k) {l : List Int} (key a b c : Int) {g : List T_impl_Grant} {f : List T_impl_Flow} {r : List T_impl_Rule} {o : List T_impl_Op} (d : Int) (a' b' c' d' : Int) {g' : List T_impl_Grant} {f' : List T_impl_Flow} {r' : List T_impl_Rule} {o' : List T_impl_Op} {p : Int} (h : Int) (hp : Pos l p) (hS : Small g' f' r' o') (hg : g.length ≤ 21) (hf : f.length ≤ 21) (hr : r.length ≤ 21) (ho : o.length ≤ 21) :
    Ret' ((spec_SealPackage.f k key a b c g f r o d).bind fun t => some (a', b', c', d', t.1, t.2.1, t.2.2.1, t.2.2.2.1, p, h, g', f', r', o', t.2.2.2.2.1, t.2.2.2.2.2.1, t.2.2.2.2.2.2.1, t.2.2.2.2.2.2.2)) (PairP l) := by
  rw [spec_SealPackage_e hk key a b c d (Ok.small 21 hg) (Ok.small 21 hf) (Ok.small 21 hr) (Ok.small 21 ho), Option.bind_some]
  exact .some ⟨hp, hS, hg, hf, hr, ho⟩
theorem spec_l28Pair_t {k : Nat} (hk : Big k) {l : List Int} {p : Int} (h : Int) (hp : Pos l p) : Ret' (spec_l28Pair.f k l p h) (PairP l) := by
  unfold spec_l28Pair.f
  refine (spec_l1Below_t k h hp 3 (by decide)).bind fun t1 ⟨q, _⟩ => (spec_l27Fine_t hk _ q _).bind fun t2 ht => ?_
  obtain ⟨a, b, c, d, p, h, g, f, r, o⟩ := t2
  obtain ⟨q, hg1, h1, h2, h3, h4⟩ := ht
  have h1 : g.length ≤ 20 := h1
  have h2 : f.length ≤ 20 := h2
  have h3 : r.length ≤ 20 := h3
  have h4 : o.length ≤ 20 := h4
  have hg1 : 1 ≤ g.length := hg1
  have hS : Small g f r o := ⟨by omega, by omega, by omega, by omega⟩
  simp only
  rw [spec_l26Copy_e k a b c d (Ok.small 20 h1) (Ok.small 20 h2) (Ok.small 20 h3) (Ok.small 20 h4), Option.bind_some]
  refine (spec_l1Below_t k _ q 8 (by decide)).bind fun t4 ⟨q, _⟩ => ?_
  have g0 : decide ((0 : Int) < (g.length : Int)) = true := decide_eq_true (by omega)
  have hset : ∀ (i : Nat) (x : T_impl_Grant), (g.set i x).length ≤ 21 := fun i x => by rw [List.length_set]; omega
  have hc : decide ((f.length + 1) * 24 ≤ cap48) = true := decide_eq_true (by unfold cap48; omega)
  simp only [show decide ((0 : Int) ≤ 0) = true from rfl, g0, cond_true, List.length_cons, List.length_nil, Nat.zero_add, hc]
  exact .bif (fun _ => pair_seal hk _ _ _ _ _ _ _ _ _ _ q hS (by omega) (by omega) (by omega) (by omega)) fun _ => .bif (fun _ => pair_seal hk _ _ _ _ _ _ _ _ _ _ q hS (hset _ _) (by omega) (by omega) (by omega)) fun _ => .bif (fun _ => pair_seal hk _ _ _ _ _ _ _ _ _ _ q hS (by omega) (by omega) (by omega) (by omega)) fun _ =>
    .bif (fun _ => pair_seal hk _ _ _ _ _ _ _ _ _ _ q hS (by omega) (by simp; omega) (by omega) (by omega)) fun _ => .bif (fun _ => pair_seal hk _ _ _ _ _ _ _ _ _ _ q hS (hset _ _) (by omega) (by omega) (by omega)) fun _ => .bif (fun _ => pair_seal hk _ _ _ _ _ _ _ _ _ _ q hS (by omega) (by omega) (by omega) (by omega)) fun _ => pair_seal hk _ _ _ _ _ _ _ _ _ _ q hS (by omega) (by omega) (by omega) (by omega)
theorem spec_DrawCanRollBack_t {k : Nat} (hk : Big k) {l : List Int} (hl : Ok l) : Ret' (spec_DrawCanRollBack.f k l) fun t => Small t.2.2.2.2.2.2.2.2.2.1 t.2.2.2.2.2.2.2.2.2.2.1 t.2.2.2.2.2.2.2.2.2.2.2.1 t.2.2.2.2.2.2.2.2.2.2.2.2.1 ∧ Small t.2.2.2.2.2.2.2.2.2.2.2.2.2.2.1 t.2.2.2.2.2.2.2.2.2.2.2.2.2.2.2.1 t.2.2.2.2.2.2.2.2.2.2.2.2.2.2.2.2.1 t.2.2.2.2.2.2.2.2.2.2.2.2.2.2.2.2.2 := by
  unfold spec_DrawCanRollBack.f
  refine (spec_l1New_t hk hl).bind fun t1 q => (spec_l28Pair_t hk _ q).bind fun t2 hP => ?_
  obtain ⟨q, hS, hS'⟩ := hP
  refine (spec_l1Int_m k _ q _ (by decide)).bind fun t3 _ => ?_
  rw [spec_TakeSnapshot_e hk _ _ _ _ (Ok.small 21 hS.1) (Ok.small 21 hS.2.1) (Ok.small 21 hS.2.2.1) (Ok.small 21 hS.2.2.2) (Ok.small 0 (Nat.le_refl _)), Option.bind_some]
  exact .some ⟨hS, hS'⟩
def dropV (l : List T_impl_Stored) (e : Int) : List T_impl_Stored := l.filter fun x => x.f0 != e
theorem impl_DropStored_e {k : Nat} (hk : Big k) {l : List T_impl_Stored} (hl : Ok l) (e : Int) : impl_DropStored.f k l e = some (dropV l e) := by
  have hl' := hl.out
  unfold impl_DropStored.f dropV
  have := loop_fold (fun q i s => impl_DropStored.l3 k e (l.length : Int) l (fun y => some y) q i s) (fun s x => bif x.f0 != e then s ++ [x] else s) (fun i s => s.length ≤ i) (fun s => some s) l (fun n i x s hx hi => by
    have hlt := lt_of hx
    obtain ⟨h1, h2, h3, h4⟩ := at_ hx (by omega)
    have hi : s.length ≤ i := hi
    simp only [impl_DropStored.l3, impl_DropStored.L3, rd_impl_Stored, h1, h2, h3, h4, cond_true]
    rw [decide_eq_true (by unfold cap48; simp; omega), cond_true]
    cases x.f0 != e <;> rfl) (fun i x s hx hi => by
    have hi : s.length ≤ i := hi
    cases x.f0 != e
    · show s.length ≤ i + 1; omega
    · show (s ++ [x]).length ≤ i + 1; simp; omega) (fun n s hi => by simp only [impl_DropStored.l3, impl_DropStored.L3, end_, cond_false]) k [] (hk.lt hl) (Nat.le_refl 0)
  rw [foldl_filter (fun x : T_impl_Stored => x.f0 != e)] at this
  exact this
theorem impl_InRange_e (k : Nat) (n a b : Int) : impl_InRange.f k n a b = some (inR n a b) := by
  unfold impl_InRange.f inR
  by_cases h : a ≤ n <;> simp [h]
def cmpS (x y : T_impl_Stored) : Int := bif decide (x.f0 < y.f0) then -1 else bif decide (x.f0 > y.f0) then 1 else bif decide (x.f1 < y.f1) then -1 else bif decide (x.f1 > y.f1) then 1 else 0
theorem impl_compareStored_e {k : Nat} (hk : Big k) (x y : T_impl_Stored) : ∃ n, impl_compareStored.f k x.f0 x.f1 x.f2 x.f3 y.f0 y.f1 y.f2 y.f3 = some n ∧ decide (n ≥ 0) = !ltS x y := by
  have hk' := hk.out
  obtain ⟨q, rfl⟩ : ∃ j, k = j + 3 := ⟨k - 3, by omega⟩
  refine ⟨cmpS x y, ?_, ?_⟩
  · unfold impl_compareStored.f cmp_Compare_int.f cmpS
    simp only [cmp_isNaN_int.f, bne_self_eq_false, Option.bind_some]
    cases decide (x.f0 < y.f0) <;> cases decide (x.f0 > y.f0) <;> cases decide (x.f1 < y.f1) <;> cases decide (x.f1 > y.f1) <;> rfl
  · unfold ltS cmpS
    by_cases h1 : x.f0 < y.f0
    · simp [h1]
    · by_cases h2 : x.f0 > y.f0
      · simp [h1, h2]; omega
      · have h3 : x.f0 = y.f0 := by omega
        by_cases h4 : x.f1 < y.f1
        · simp [h3, h4]
        · by_cases h5 : x.f1 > y.f1 <;> simp [h3, h4, h5]
theorem impl_IsStore_e {k : Nat} (hk : Big k) {l : List T_impl_Stored} (hl : Ok l) : impl_IsStore.f k l = some (storeV l) := by
  have hl' := hl.out
  unfold impl_IsStore.f storeV
  have hlen := withPrev_len l
  have := loop_all (impl_IsStore.l4 k (l.length : Int) l (fun y => some y) (fun _ => some true)) prevOk (some true) (some false) (withPrev l) (fun n i p hp => by
    obtain ⟨hx, hpr⟩ := withPrev_at hp
    obtain ⟨h1, h2, h3, h4⟩ := at_ hx (by omega)
    simp only [impl_IsStore.l4, impl_IsStore.L4, rd_impl_Stored, h1, h2, h3, h4, cond_true, impl_InRange_e, Option.bind_some]
    unfold prevOk stOk
    rcases hpr with ⟨rfl, e⟩ | ⟨j, y, rfl, hy, e⟩
    · rw [e, decide_eq_false (by omega)]
      cases inR p.2.f0 1 5 <;> cases inR p.2.f1 0 9 <;> cases inR p.2.f2 0 999 <;> cases inR p.2.f3 1 999 <;> rfl
    · obtain ⟨g1, g2, g3, g4⟩ := at_ hy (by omega)
      have hlt := lt_of hy
      obtain ⟨n9, c1, c2⟩ := impl_compareStored_e hk y p.2
      rw [e, decide_eq_true (show ((j + 1 : Nat) : Int) > 0 by omega), w64_id (n := ((j + 1 : Nat) : Int) - 1) (by omega), show ((j + 1 : Nat) : Int) - 1 = (j : Int) by omega, g1, nn_]
      simp only [g4, c1, c2, Option.bind_some, cond_true]
      cases inR p.2.f0 1 5 <;> cases inR p.2.f1 0 9 <;> cases inR p.2.f2 0 999 <;> cases inR p.2.f3 1 999 <;> cases ltS y p.2 <;> rfl) (fun n => by rw [hlen]; simp only [impl_IsStore.l4, impl_IsStore.L4, end_, cond_false]) k (by rw [hlen]; exact hk.lt hl)
  rw [this]
  by_cases h : l.length ≤ 24
  · rw [decide_eq_false (show ¬ (l.length : Int) > 24 by omega), decide_eq_true h]
    cases (withPrev l).all prevOk <;> rfl
  · rw [decide_eq_true (show (l.length : Int) > 24 by omega), decide_eq_false h]; rfl
theorem slices_Clone_Stored_e (k : Nat) {l : List T_impl_Stored} (hl : Ok l) : slices_Clone_Stored.f k l = some l := by
  have hl' := hl.out
  unfold slices_Clone_Stored.f cloneF
  rw [decide_eq_true (by unfold cap48; show (([] : List T_impl_Stored).length + l.length) * 32 ≤ _; simp; omega)]
  rfl
def restoreV (l : List T_impl_Stored) (e : Int) (s : List T_impl_Stored) : Bool × List T_impl_Stored :=
  bif storeV l && (storeV s && (storeV (s.foldl setV (dropV l e)) && s.all fun x => x.f0 == e)) then (true, s.foldl setV (dropV l e)) else (false, l)
theorem setV_fold_len : ∀ (b s : List T_impl_Stored), (b.foldl setV s).length ≤ s.length + b.length
  | [], s => by simp
  | x :: b, s => by
    have h1 := setV_fold_len b (setV s x)
    have h2 := setV_len s x
    rw [List.foldl_cons, List.length_cons]; omega
theorem dropV_len (l : List T_impl_Stored) (e : Int) : (dropV l e).length ≤ l.length := by unfold dropV; exact List.length_filter_le _ _
theorem set_fold : ∀ (b s : List T_impl_Stored), AscS s → AscS b → (∀ x ∈ b, ∀ y ∈ s, ¬ (y.f0 = x.f0 ∧ y.f1 = x.f1)) → AscS (b.foldl setV s) ∧ (b.foldl setV s).Perm (s ++ b)
  | [], s, hs, _, _ => ⟨hs, by simp⟩
  | x :: b, s, hs, hb, h => by
    obtain ⟨b1, b2⟩ := List.pairwise_cons.1 hb
    obtain ⟨h1, h2⟩ := setV_new hs (h x (List.mem_cons_self ..))
    obtain ⟨h3, h4⟩ := set_fold b (setV s x) h1 b2 fun z hz y hy => by
      rcases List.mem_append.1 (h2.mem_iff.1 hy) with hy | hy
      · exact h z (List.mem_cons_of_mem _ hz) y hy
      · obtain rfl := List.mem_singleton.1 hy
        have := ltS_iff.1 (b1 z hz)
        omega
    refine ⟨h3, h4.trans ?_⟩
    have := h2.append_right b
    simpa using this
theorem restore_perm {l s : List T_impl_Stored} {e : Int} (hl : AscS l) (hs : AscS s) (ha : (s.all fun x => x.f0 == e) = true) : AscS (s.foldl setV (dropV l e)) ∧ (dropV l e ++ s).Perm (s.foldl setV (dropV l e)) := by
  obtain ⟨h1, h2⟩ := set_fold s (dropV l e) (hl.sublist List.filter_sublist) hs fun x hx y hy => by
    have h3 := eq_of_beq (List.all_eq_true.1 ha x hx)
    have h4 := (List.mem_filter.1 hy).2
    simp only [bne_iff_ne, ne_eq] at h4
    omega
  exact ⟨h1, h2.symm⟩
theorem restoreV_ok {l : List T_impl_Stored} (hl : Ok l) (e : Int) (s : List T_impl_Stored) : Ok (restoreV l e s).2 := by
  unfold restoreV
  cases h : storeV l && (storeV s && (storeV (s.foldl setV (dropV l e)) && s.all fun x => x.f0 == e)) with
  | false => exact hl
  | true =>
    rw [Bool.and_eq_true, Bool.and_eq_true, Bool.and_eq_true] at h
    have := (store_asc h.2.2.1).2.2
    exact Ok.small 24 this
theorem sort_eq {s t : List T_impl_Stored} (hs : AscS s) (hp : t.Perm s) : sortBy z_impl_Stored (Go.Proofs.ltOf slices_SortFunc_Stored.cf) t = s := by
  have hlt : Go.Proofs.ltOf slices_SortFunc_Stored.cf = ltS := by funext x y; rw [slices_SortFunc_Stored.lt]; rfl
  obtain ⟨h1, h2⟩ := sortBy_spec z_impl_Stored slices_SortFunc_Stored.swo t
  rw [hlt] at h1 h2 ⊢
  refine perm_uniq ?_ hs (h1.trans hp)
  have hne : s.Pairwise fun x y => ¬ (x.f0 = y.f0 ∧ x.f1 = y.f1) := hs.imp fun {a b} h => by have := ltS_iff.1 h; omega
  have hne2 : (sortBy z_impl_Stored ltS t).Pairwise fun x y => ¬ (x.f0 = y.f0 ∧ x.f1 = y.f1) := ((h1.trans hp).pairwise_iff (fun {x y} h => by omega)).2 hne
  exact (h2.and hne2).imp fun {a b} ⟨h3, h4⟩ => by rw [ltS_no] at h3; rw [ltS_iff]; omega
theorem slices_SortFunc_Stored_e' (k : Nat) {s t : List T_impl_Stored} (ht : Ok t) (hs : AscS s) (hp : t.Perm s) : slices_SortFunc_Stored.f k t = some s := by
  have := ht.out
  unfold slices_SortFunc_Stored.f sortByF
  rw [decide_eq_true (by omega), cond_true, sort_eq hs hp]
theorem foldE_all {α σ ρ : Type} (p : α → Bool) (f : σ → α → σ) (r : ρ) : ∀ (l : List α) (s : σ), foldE (fun x s => bif p x then (.inl (f s x) : σ ⊕ ρ) else .inr r) l s = bif l.all p then .inl (l.foldl f s) else .inr r
  | [], s => rfl
  | x :: l, s => by
    have ih := foldE_all p f r l
    simp only [foldE, List.all_cons, List.foldl_cons]
    cases p x
    · rfl
    · simp only [cond_true, Bool.true_and]; exact ih _
theorem impl_RestoreStore_e {k : Nat} (hk : Big k) {l : List T_impl_Stored} (hl : Ok l) (e a b d : Int) (g : List T_impl_Grant) (f : List T_impl_Flow) (r : List T_impl_Rule) (o : List T_impl_Op) {s : List T_impl_Stored} (hs : Ok s) :
    impl_RestoreStore.f k l e a b g f r o d s = some (restoreV l e s) := by
  have hd := dropV_len l e
  unfold impl_RestoreStore.f restoreV
  simp only [impl_IsStore_e hk hl, impl_IsStore_e hk hs, slices_Clone_Stored_e k hl, impl_DropStored_e hk hl, Option.bind_some]
  cases h1 : storeV l with
  | false => rfl
  | true =>
    cases h2 : storeV s with
    | false => rfl
    | true =>
      obtain ⟨q1, _, a1⟩ := store_asc h1
      obtain ⟨q2, _, a2⟩ := store_asc h2
      simp only [Bool.not_true, cond_false, Bool.true_and]
      have key : ∀ X1 : List T_impl_Stored → Option (Bool × List T_impl_Stored), impl_RestoreStore.l5 k (s.length : Int) l g f r o s e a b d (fun y8 y9 y10 => some (y8, y9)) X1 k 0 (dropV l e) = bif s.all fun x => x.f0 == e then X1 (dropV l e ++ s) else some (false, l) := fun X1 => by
        have := loop_for (fun q (t : Int × List T_impl_Stored) => impl_RestoreStore.l5 k (s.length : Int) l g f r o s e a b d (fun y8 y9 y10 => some (y8, y9)) X1 q t.1 t.2) (fun i t => ((i : Int), t)) X1 (fun x t => bif x.f0 == e then .inl (t ++ [x]) else .inr (some (false, l))) (fun i t => t.length ≤ 24 + i) s (fun n i x t hx hi => by
          have hlt := lt_of hx
          obtain ⟨h1, h2, h3, h4⟩ := at_ hx (by omega)
          have hi : t.length ≤ 24 + i := hi
          simp only [impl_RestoreStore.l5, impl_RestoreStore.L5, rd_impl_Stored, h1, h2, h3, h4, cond_true, slices_Clone_Stored_e k hl, Option.bind_some, bne]
          rw [decide_eq_true (by unfold cap48; simp; omega), cond_true]
          cases x.f0 == e <;> rfl) (fun i x t t' hx hi h => by
          have hi : t.length ≤ 24 + i := hi
          cases hx0 : x.f0 == e with
          | false => rw [hx0] at h; cases h
          | true =>
            rw [hx0] at h
            obtain rfl := Sum.inl.inj h
            show (t ++ [x]).length ≤ 24 + (i + 1)
            simp; omega) (fun n t hi => by simp only [impl_RestoreStore.l5, impl_RestoreStore.L5, end_, cond_false]) k (dropV l e) (hk.lt hs) (by show (dropV l e).length ≤ 24 + 0; omega)
        rw [foldE_all (fun x : T_impl_Stored => x.f0 == e) (fun t x => t ++ [x])] at this
        have hfa : ∀ (ys t : List T_impl_Stored), ys.foldl (fun t x => t ++ [x]) t = t ++ ys := by
          intro ys
          induction ys with
          | nil => intro t; simp
          | cons y ys ih => intro t; rw [List.foldl_cons, ih]; simp
        rw [hfa] at this
        refine this.trans ?_
        cases (s.all fun x => x.f0 == e) <;> rfl
      rw [key]
      cases h3 : s.all fun x => x.f0 == e with
      | false => simp
      | true =>
        obtain ⟨p1, p2⟩ := restore_perm q1 q2 h3
        have hlen := setV_fold_len s (dropV l e)
        rw [cond_true, slices_SortFunc_Stored_e' k (Ok.small 48 (by simp; omega)) p1 p2, Option.bind_some, impl_IsStore_e hk (Ok.small (l := s.foldl setV (dropV l e)) 48 (by omega)), Option.bind_some]
        cases storeV (s.foldl setV (dropV l e)) <;> rfl
theorem slices_Equal_Stored_same {k : Nat} (hk : Big k) {l : List T_impl_Stored} (hl : Ok l) : slices_Equal_Stored.f k l l = some true := by
  have hl' := hl.out
  unfold slices_Equal_Stored.f
  rw [bne_self_eq_false, cond_false]
  have := loop_all (slices_Equal_Stored.l4 k (l.length : Int) l l (fun y => some y) (fun _ => some true)) (fun _ => true) (some true) (some false) l (fun n i x hx => by
    obtain ⟨h1, h2, h3, h4⟩ := at_ hx (by omega)
    simp only [slices_Equal_Stored.l4, slices_Equal_Stored.L4, rd_impl_Stored, h1, h2, h3, h4, cond_true, beq_self_eq_true, Bool.and_self, Bool.not_true, cond_false]) (fun n => by simp only [slices_Equal_Stored.l4, slices_Equal_Stored.L4, end_, cond_false]) k (hk.lt hl)
  rw [this, List.all_eq_true.2 fun _ _ => rfl]
  rfl
theorem impl_EqualStores_refl {k : Nat} (hk : Big k) {l : List T_impl_Stored} (hl : Ok l) : impl_EqualStores.f k l l = some true := by
  unfold impl_EqualStores.f
  rw [slices_Equal_Stored_same hk hl]; rfl
theorem impl_clonePackage_e (k : Nat) (a b c : Int) {g : List T_impl_Grant} {f : List T_impl_Flow} {r : List T_impl_Rule} {o : List T_impl_Op} (d : Int) (hg : Ok g) (hf : Ok f) (hr : Ok r) (ho : Ok o) :
    impl_clonePackage.f k a b c g f r o d = some (a, b, c, d, g, f, r, o) := by
  have := hg.out; have := hf.out; have := hr.out; have := ho.out
  have e1 : slices_Clone_Grant.f k g = some g := by
    show (bif decide ((0 + g.length) * 56 ≤ cap48) then some g else none) = some g
    rw [decide_eq_true (by unfold cap48; omega)]; rfl
  have e2 : slices_Clone_Flow.f k f = some f := by
    show (bif decide ((0 + f.length) * 24 ≤ cap48) then some f else none) = some f
    rw [decide_eq_true (by unfold cap48; omega)]; rfl
  have e3 : slices_Clone_Rule.f k r = some r := by
    show (bif decide ((0 + r.length) * 64 ≤ cap48) then some r else none) = some r
    rw [decide_eq_true (by unfold cap48; omega)]; rfl
  have e4 : slices_Clone_Op.f k o = some o := by
    show (bif decide ((0 + o.length) * 32 ≤ cap48) then some o else none) = some o
    rw [decide_eq_true (by unfold cap48; omega)]; rfl
  unfold impl_clonePackage.f
  rw [e1, Option.bind_some, e2, Option.bind_some, e3, Option.bind_some, e4, Option.bind_some]
theorem impl_TakeSnapshot_e {k : Nat} (hk : Big k) (a b c : Int) {g : List T_impl_Grant} {f : List T_impl_Flow} {r : List T_impl_Rule} {o : List T_impl_Op} (d : Int) {l : List T_impl_Stored} (hg : Ok g) (hf : Ok f) (hr : Ok r) (ho : Ok o) (hl : Ok l) :
    impl_TakeSnapshot.f k a b c g f r o d l = some (a, b, c, d, g, f, r, o, entriesOf a l) := by
  have hl' := hl.out
  unfold impl_TakeSnapshot.f entriesOf
  rw [impl_clonePackage_e k a b c d hg hf hr ho, Option.bind_some]
  refine (loop_fold (fun q i s => impl_TakeSnapshot.l3 k (l.length : Int) g f r o l a b c d 0 0 0 0 a b c d [] [] [] [] [] g f r o (fun y3 => some (a, b, c, d, g, f, r, o, y3)) q i s) (fun s x => bif (x.f0 == a) then s ++ [x] else s) (fun i s => s.length ≤ i) (fun y3 => some (a, b, c, d, g, f, r, o, y3)) l (fun q i x s hx hs => by
    obtain ⟨h1, h2, h3, h4⟩ := at_ hx (by omega)
    have hi := lt_of hx
    have hs : s.length ≤ i := hs
    have g4 : decide ((s.length + ([x] : List T_impl_Stored).length) * 32 ≤ cap48) = true := decide_eq_true (by unfold cap48; simp; omega)
    simp only [impl_TakeSnapshot.l3, impl_TakeSnapshot.L3, rd_impl_Stored, h1, h2, h3, h4, cond_true]
    rw [g4]
    cases (x.f0 == a) <;> rfl) (fun i x s hx hs => by
    have hs : s.length ≤ i := hs
    show (bif (x.f0 == a) then s ++ [x] else s).length ≤ i + 1
    cases (x.f0 == a) <;> simp <;> omega) (fun q s _ => by simp only [impl_TakeSnapshot.l3, impl_TakeSnapshot.L3, end_, cond_false]) k [] (hk.lt hl) (by simp)).trans ?_
  rw [foldl_filter]; rfl
def decT (m : Nat) : ByteArray := ⟨(Go.Lib.decDigits m).toArray⟩
def itoaT (n : Int) : ByteArray := ⟨(Go.Lib.itoa n).toArray⟩
theorem mk_append (a b : List UInt8) : (⟨a.toArray⟩ : ByteArray) ++ ⟨b.toArray⟩ = ⟨(a ++ b).toArray⟩ := by
  apply ByteArray.ext
  simp [ByteArray.data_append]
theorem ba_size (a : List UInt8) : (⟨a.toArray⟩ : ByteArray).size = a.length := by simp [ByteArray.size]
theorem nDigits_le : ∀ (j m : Nat), 0 < j → m < 10 ^ j → Go.Lib.nDigits m ≤ j
  | 0, m, h, _ => absurd h (by omega)
  | j + 1, m, _, h => by
    rw [Go.Lib.nDigits]
    split
    · omega
    · rename_i hm
      have hj : 0 < j := by
        rcases Nat.eq_zero_or_pos j with rfl | hj
        · simp at h; omega
        · exact hj
      have := nDigits_le j (m / 10) hj (by rw [Nat.pow_succ] at h; omega)
      omega
theorem itoaT_size {n : Int} (h : -9223372036854775808 ≤ n ∧ n ≤ 9223372036854775807) : (itoaT n).size ≤ 21 := by
  unfold itoaT Go.Lib.itoa
  rw [ba_size]
  split
  · have := nDigits_le 20 n.natAbs (by decide) (by have : (10 : Nat) ^ 20 = 100000000000000000000 := (by decide); omega)
    rw [List.length_cons, Go.Lib.decDigits_length]; omega
  · have := nDigits_le 20 n.toNat (by decide) (by have : (10 : Nat) ^ 20 = 100000000000000000000 := (by decide); omega)
    rw [Go.Lib.decDigits_length]; omega
theorem impl_FormatInt_e (k : Nat) {n : Int} (h : -9223372036854775808 ≤ n ∧ n ≤ 9223372036854775807) : impl_FormatInt.f k n = some (itoaT n) := by
  unfold impl_FormatInt.f strconv_Itoa.f itoaV
  rw [decide_eq_true h]
  rfl
def snapT (a b : Int) (c : Nat) : ByteArray := (((itoaT a ++ (ByteArray.mk #[32])) ++ itoaT b) ++ (ByteArray.mk #[32])) ++ itoaT (c : Int)
theorem ba_size_app (x y : ByteArray) : (x ++ y).size = x.size + y.size := by simp
theorem sz_no (x y : ByteArray) (h : x.size + y.size ≤ 1000) : decide (((x.size + y.size : Nat) : Int) > IntKind.i64.max) = false := decide_eq_false (by show ¬ ((x.size + y.size : Nat) : Int) > 9223372036854775807; omega)
theorem sz_1 : (ByteArray.mk #[32]).size = 1 := rfl
theorem impl_SnapshotText_e (k : Nat) {a b c d : Int} {g : List T_impl_Grant} {f : List T_impl_Flow} {r : List T_impl_Rule} {o : List T_impl_Op} {s : List T_impl_Stored} (ha : -9223372036854775808 ≤ a ∧ a ≤ 9223372036854775807) (hc : -9223372036854775808 ≤ c ∧ c ≤ 9223372036854775807) (hs : Ok s) :
    impl_SnapshotText.f k a b c g f r o d s = some (snapT a c s.length) := by
  have hs' := hs.out
  have hl : -9223372036854775808 ≤ (s.length : Int) ∧ (s.length : Int) ≤ 9223372036854775807 := by omega
  have z1 := itoaT_size ha
  have z2 := itoaT_size hc
  have z3 := itoaT_size hl
  unfold impl_SnapshotText.f snapT
  rw [impl_FormatInt_e k ha, Option.bind_some, sz_no _ _ (by rw [sz_1]; omega), cond_false, impl_FormatInt_e k hc, Option.bind_some, sz_no _ _ (by rw [ba_size_app, sz_1]; omega), cond_false, sz_no _ _ (by rw [ba_size_app, ba_size_app, sz_1]; omega), cond_false, impl_FormatInt_e k hl, Option.bind_some, sz_no _ _ (by rw [ba_size_app, ba_size_app, ba_size_app, sz_1]; omega), cond_false]
theorem impl_IsPattern_e (k : Nat) (a b : Int) : impl_IsPattern.f k a b = some (isPattern a b) := by
  unfold impl_IsPattern.f isPattern
  simp only [impl_InRange_e, Option.bind_some]
  cases inR a 0 9 <;> simp
theorem impl_IsGrant_e (k : Nat) (e a b kd f u : Int) (cl : Bool) : impl_IsGrant.f k e a b kd f u cl = some (isGrant e a b kd f u) := by
  unfold impl_IsGrant.f isGrant
  simp only [impl_InRange_e, impl_IsPattern_e, Option.bind_some, ge_iff_le]
  cases inR e 1 5 <;> cases isPattern a b <;> cases inR kd 1 4 <;> by_cases h1 : 0 ≤ f <;> by_cases h2 : f ≤ u <;> simp [h1, h2]
theorem impl_IsFlow_e (k : Nat) (a b c : Int) : impl_IsFlow.f k a b c = some (isFlowV a b c) := by
  unfold impl_IsFlow.f isFlowV
  simp only [impl_InRange_e, Option.bind_some]
  cases inR a 1 5 <;> cases inR b 1 9 <;> simp
theorem impl_IsSite_e (k : Nat) (a b : Int) : impl_IsSite.f k a b = some (isSiteV a b) := by
  unfold impl_IsSite.f isSiteV
  simp only [impl_InRange_e, Option.bind_some]
  cases inR a 1 9 <;> simp
theorem impl_IsRule_e (k : Nat) (e o p q kd a s1 s2 : Int) : impl_IsRule.f k e o p q kd a s1 s2 = some (isRuleV e o p q kd a s1 s2) := by
  unfold impl_IsRule.f isRuleV
  simp only [impl_InRange_e, impl_IsPattern_e, impl_IsSite_e, Option.bind_some]
  cases inR e 1 5 <;> cases inR o 1 9 <;> cases isPattern p q <;> cases inR kd 0 4 <;> try simp
  by_cases h1 : a = 1
  · subst h1; simp [inR]
  · by_cases h2 : a = 2
    · subst h2; simp [inR]
    · by_cases h3 : a = 3
      · subst h3; simp [inR]
      · rw [show inR a 1 3 = false from inR_false.2 (by omega)]
        simp [h1, h2, h3, beqF h1, beqF h2, beqF h3]
theorem impl_isRegister_e (k : Nat) (n : Int) : impl_isRegister.f k n = some (inR n 0 5) := by
  unfold impl_isRegister.f
  rw [impl_InRange_e, Option.bind_some]
theorem impl_isOp_e (k : Nat) (kd a b c : Int) : impl_isOp.f k kd a b c = some (isOpV kd a b c) := by
  unfold impl_isOp.f isOpV
  simp only [impl_isRegister_e, impl_InRange_e, Option.bind_some]
  cases inR a 0 5 <;>
  · by_cases h1 : kd = 1
    · subst h1; cases inR b 1 9 <;> simp
    · by_cases h5 : kd = 5
      · subst h5; cases inR b 1 9 <;> simp
      · by_cases h2 : kd = 2
        · subst h2; cases inR b 0 999 <;> simp
        · by_cases h3 : kd = 3
          · subst h3; cases inR b 0 5 <;> simp
          · by_cases h4 : kd = 4
            · subst h4; cases inR b 0 5 <;> simp
            · simp [h1, h2, h3, h4, h5, beqF h1, beqF h2, beqF h3, beqF h4, beqF h5]
theorem impl_AreOps_e {k : Nat} (hk : Big k) {l : List T_impl_Op} (hl : Ok l) : impl_AreOps.f k l = some (areOps l) := by
  unfold impl_AreOps.f areOps
  rw [loop_all (impl_AreOps.l4 k (l.length : Int) l (fun y => some y) (fun _ => some true)) opOk (some true) (some false) l (fun n i x hx => by
    obtain ⟨h1, h2, h3, h4⟩ := at_ hx (by have := hl.out; omega)
    simp only [impl_AreOps.l4, impl_AreOps.L4, rd_impl_Op, h1, h2, h3, h4, impl_isOp_e, Option.bind_some, cond_true]
    cases hp : opOk x <;> simp only [opOk] at hp <;> rw [hp] <;> rfl) (fun n => by simp only [impl_AreOps.l4, impl_AreOps.L4, end_, cond_false]) k (hk.lt hl)]
  by_cases h : l.length ≤ 16
  · rw [decide_eq_false (show ¬ ((l.length : Int) > 16) by omega), decide_eq_true h]
    cases l.all opOk <;> rfl
  · rw [decide_eq_true (show (l.length : Int) > 16 by omega), decide_eq_false h]
    simp
theorem impl_IsPackage_e {k : Nat} (hk : Big k) (a b c : Int) {g : List T_impl_Grant} {f : List T_impl_Flow} {r : List T_impl_Rule} {o : List T_impl_Op} (d : Int) (hg : Ok g) (hf : Ok f) (hr : Ok r) (ho : Ok o) :
    impl_IsPackage.f k a b c g f r o d = some (isPk a b c g f r o) := by
  unfold impl_IsPackage.f isPk
  have t1 : ∀ X1, impl_IsPackage.l4 k (g.length : Int) g f r o a b c d (fun y => some y) X1 k 0 = bif g.all (gAt a) then X1 () else some false := fun X1 =>
    loop_all _ (gAt a) _ _ g (fun n i x hx => by
      obtain ⟨h1, h2, h3, h4⟩ := at_ hx (by have := hg.out; omega)
      simp only [impl_IsPackage.l4, impl_IsPackage.L4, rd_impl_Grant, h1, h2, h3, h4, impl_IsGrant_e, Option.bind_some, cond_true, gAt, bne]
      cases isGrant x.f0 x.f1.f0 x.f1.f1 x.f2 x.f3 x.f4 <;> cases (x.f0 == a) <;> rfl) (fun n => by simp only [impl_IsPackage.l4, impl_IsPackage.L4, end_, cond_false]) k (hk.lt hg)
  have t2 : ∀ X1, impl_IsPackage.l10 k (f.length : Int) g f r o a b c d (fun y => some y) X1 k 0 = bif f.all (fAt a) then X1 () else some false := fun X1 =>
    loop_all _ (fAt a) _ _ f (fun n i x hx => by
      obtain ⟨h1, h2, h3, h4⟩ := at_ hx (by have := hf.out; omega)
      simp only [impl_IsPackage.l10, impl_IsPackage.L10, rd_impl_Flow, h1, h2, h3, h4, impl_IsFlow_e, Option.bind_some, cond_true, fAt, bne]
      cases isFlowV x.f0 x.f1 x.f2 <;> cases (x.f0 == a) <;> rfl) (fun n => by simp only [impl_IsPackage.l10, impl_IsPackage.L10, end_, cond_false]) k (hk.lt hf)
  have t3 : ∀ X1, impl_IsPackage.l16 k (r.length : Int) g f r o a b c d (fun y => some y) X1 k 0 = bif r.all (rAt a) then X1 () else some false := fun X1 =>
    loop_all _ (rAt a) _ _ r (fun n i x hx => by
      obtain ⟨h1, h2, h3, h4⟩ := at_ hx (by have := hr.out; omega)
      simp only [impl_IsPackage.l16, impl_IsPackage.L16, rd_impl_Rule, h1, h2, h3, h4, impl_IsRule_e, Option.bind_some, cond_true, rAt, bne]
      cases isRuleV x.f0 x.f1 x.f2.f0 x.f2.f1 x.f3 x.f4 x.f5.f0 x.f5.f1 <;> cases (x.f0 == a) <;> rfl) (fun n => by simp only [impl_IsPackage.l16, impl_IsPackage.L16, end_, cond_false]) k (hk.lt hr)
  simp only [impl_InRange_e, Option.bind_some, impl_AreOps_e hk ho, t1, t2, t3]
  have e : ∀ n : Nat, decide ((n : Int) > 6) = !decide (n ≤ 6) := fun n => by by_cases h : n ≤ 6 <;> simp [h] <;> omega
  rw [e, e, e]
  cases inR a 1 5 <;> cases inR b 1 9 <;> cases inR c 1 999 <;> cases decide (g.length ≤ 6) <;> cases decide (f.length ≤ 6) <;> cases decide (r.length ≤ 6) <;> try rfl
  all_goals first | rfl | (cases areOps o <;> cases g.all (gAt a) <;> cases f.all (fAt a) <;> cases r.all (rAt a) <;> rfl) | simp
theorem impl_IsValidKey_e (k : Nat) (n : Int) : impl_IsValidKey.f k n = some (inR n 1 2147483646) := by
  unfold impl_IsValidKey.f
  rw [impl_InRange_e, Option.bind_some]
theorem impl_bit_e (k : Nat) (b : Bool) : impl_bit.f k b = some (bif b then 1 else 0) := by unfold impl_bit.f; cases b <;> rfl
theorem impl_PackageInts_e {k : Nat} (hk : Big k) (a b c : Int) {g : List T_impl_Grant} {f : List T_impl_Flow} {r : List T_impl_Rule} {o : List T_impl_Op} (d : Int) (hg : Ok g) (hf : Ok f) (hr : Ok r) (ho : Ok o) :
    impl_PackageInts.f k a b c g f r o d = some (bif isPk a b c g f r o then pkInts a b c g f r o else []) := by
  unfold impl_PackageInts.f
  simp only [impl_IsPackage_e hk a b c d hg hf hr ho, Option.bind_some]
  cases hp : isPk a b c g f r o with
  | false => rfl
  | true =>
    obtain ⟨l1, l2, l3, l4⟩ := isPk_len hp
    have t1 : ∀ (X : List Int → Option (List Int)) s, s.length ≤ 1000 → impl_PackageInts.l5 k (g.length : Int) g f r o a b c d X k 0 s = X (s ++ g.flatMap gInts) := fun X s hs =>
      loop_app _ gInts 6 (fun _ => rfl) 1040 X g (fun n i x s hx hb => by
        obtain ⟨h1, h2, h3, h4⟩ := at_ hx (by omega)
        simp only [impl_PackageInts.l5, impl_PackageInts.L5, rd_impl_Grant, h1, h2, h3, h4, cond_true, impl_bit_e, Option.bind_some, gInts]
        rw [cap8 (by simp only [List.length_cons, List.length_nil]; omega)]; rfl) (fun n s => by simp only [impl_PackageInts.l5, impl_PackageInts.L5, end_, cond_false]) k s (hk.lt hg) (by omega)
    have t2 : ∀ (X : List Int → Option (List Int)) s, s.length ≤ 1100 → impl_PackageInts.l11 k (f.length : Int) g f r o a b c d X k 0 s = X (s ++ f.flatMap fInts) := fun X s hs =>
      loop_app _ fInts 2 (fun _ => rfl) 1140 X f (fun n i x s hx hb => by
        obtain ⟨h1, h2, h3, h4⟩ := at_ hx (by omega)
        simp only [impl_PackageInts.l11, impl_PackageInts.L11, rd_impl_Flow, h1, h2, h3, h4, cond_true, fInts]
        rw [cap8 (by simp only [List.length_cons, List.length_nil]; omega)]; rfl) (fun n s => by simp only [impl_PackageInts.l11, impl_PackageInts.L11, end_, cond_false]) k s (hk.lt hf) (by omega)
    have t3 : ∀ (X : List Int → Option (List Int)) s, s.length ≤ 1200 → impl_PackageInts.l17 k (r.length : Int) g f r o a b c d X k 0 s = X (s ++ r.flatMap rInts) := fun X s hs =>
      loop_app _ rInts 7 (fun _ => rfl) 1260 X r (fun n i x s hx hb => by
        obtain ⟨h1, h2, h3, h4⟩ := at_ hx (by omega)
        simp only [impl_PackageInts.l17, impl_PackageInts.L17, rd_impl_Rule, h1, h2, h3, h4, cond_true, rInts]
        rw [cap8 (by simp only [List.length_cons, List.length_nil]; omega)]; rfl) (fun n s => by simp only [impl_PackageInts.l17, impl_PackageInts.L17, end_, cond_false]) k s (hk.lt hr) (by omega)
    have t4 : ∀ (X : List Int → Option (List Int)) s, s.length ≤ 1300 → impl_PackageInts.l23 k (o.length : Int) g f r o X k 0 s = X (s ++ o.flatMap oInts) := fun X s hs =>
      loop_app _ oInts 4 (fun _ => rfl) 1400 X o (fun n i x s hx hb => by
        obtain ⟨h1, h2, h3, h4⟩ := at_ hx (by omega)
        simp only [impl_PackageInts.l23, impl_PackageInts.L23, rd_impl_Op, h1, h2, h3, h4, cond_true, oInts]
        rw [cap8 (by simp only [List.length_cons, List.length_nil]; omega)]; rfl) (fun n s => by simp only [impl_PackageInts.l23, impl_PackageInts.L23, end_, cond_false]) k s (hk.lt ho) (by omega)
    have n1 := fm_len gInts 6 (fun _ => rfl) g
    have n2 := fm_len fInts 2 (fun _ => rfl) f
    have n3 := fm_len rInts 7 (fun _ => rfl) r
    rw [Bool.not_true, cond_false, cond_true, t1 _ _ (by simp)]
    rw [cap8 (by simp only [List.length_append, List.length_cons, List.length_nil]; omega), cond_true, t2 _ _ (by simp only [List.length_append, List.length_cons, List.length_nil]; omega)]
    rw [cap8 (by simp only [List.length_append, List.length_cons, List.length_nil]; omega), cond_true, t3 _ _ (by simp only [List.length_append, List.length_cons, List.length_nil]; omega)]
    rw [cap8 (by simp only [List.length_append, List.length_cons, List.length_nil]; omega), cond_true, t4 _ _ (by simp only [List.length_append, List.length_cons, List.length_nil]; omega)]
    rfl
theorem impl_Mod_e (k : Nat) (a : Int) : impl_Mod.f k a 2147483647 = some (a % 2147483647) := by
  unfold impl_Mod.f
  rw [impl_InRange_e, Option.bind_some, show inR 2147483647 1 1000000000000 = true from rfl]
  simp only [Bool.not_true, cond_false, show decide ((2147483647 : Int) = 0) = false from rfl]
  have h0 := tmod31 a
  by_cases h : a.tmod 2147483647 < 0
  · rw [decide_eq_true h, cond_true, w64_id (by omega), tmod31_neg a h]
  · rw [decide_eq_false h, cond_false, tmod31_nn a h]
theorem impl_fold_e (k : Nat) (h v : Int) : impl_fold.f k h v = some (fold1 h v) := by
  unfold impl_fold.f fold1
  rw [impl_Mod_e, Option.bind_some]
theorem impl_KeyedHash_e {k : Nat} (hk : Big k) (key : Int) {l : List Int} (hl : l.length ≤ 1000000) : impl_KeyedHash.f k key l = some (keyed key l) := by
  unfold impl_KeyedHash.f keyed
  rw [impl_fold_e, Option.bind_some]
  have := loop_fold (fun n i s => impl_KeyedHash.l3 k key (l.length : Int) l (fun (y3 : Int) => (impl_fold.f k y3 key).bind fun t4 => some t4) n s i) fold1 (fun _ _ => True) (fun (y3 : Int) => (impl_fold.f k y3 key).bind fun t4 => some t4) l (fun n i x s hx _ => by
    obtain ⟨h1, h2, h3, h4⟩ := at_ hx (by omega)
    simp only [impl_KeyedHash.l3, impl_KeyedHash.L3, rd_i64, h1, h2, h3, h4, cond_true, impl_fold_e, Option.bind_some]) (fun _ _ _ _ _ => trivial)
    (fun n s _ => by simp only [impl_KeyedHash.l3, impl_KeyedHash.L3, end_, cond_false]) k (fold1 11 key) (by have := hk.out; omega) trivial
  rw [this, impl_fold_e, Option.bind_some]
  simp
theorem impl_sealOf_e {k : Nat} (hk : Big k) (key a b c : Int) {g : List T_impl_Grant} {f : List T_impl_Flow} {r : List T_impl_Rule} {o : List T_impl_Op} (d : Int) (hg : Ok g) (hf : Ok f) (hr : Ok r) (ho : Ok o) :
    impl_sealOf.f k key a b c g f r o d = some (sealV key a b c g f r o) := by
  unfold impl_sealOf.f sealV
  simp only [impl_IsValidKey_e, impl_IsPackage_e hk a b c d hg hf hr ho, impl_PackageInts_e hk a b c d hg hf hr ho, Option.bind_some]
  cases inR key 1 2147483646 with
  | false => rfl
  | true =>
    cases hp : isPk a b c g f r o with
    | false => rfl
    | true =>
      simp only [Bool.not_true, cond_false, cond_true, Bool.true_and, impl_KeyedHash_e hk key (pkInts_len hp), Option.bind_some]
theorem impl_IsSealed_e {k : Nat} (hk : Big k) (key a b c : Int) {g : List T_impl_Grant} {f : List T_impl_Flow} {r : List T_impl_Rule} {o : List T_impl_Op} (d : Int) (hg : Ok g) (hf : Ok f) (hr : Ok r) (ho : Ok o) :
    impl_IsSealed.f k key a b c g f r o d = some (isPk a b c g f r o && (inR key 1 2147483646 && (sealV key a b c g f r o == d))) := by
  unfold impl_IsSealed.f
  simp only [impl_sealOf_e hk key a b c d hg hf hr ho, impl_IsValidKey_e, impl_IsPackage_e hk a b c d hg hf hr ho, Option.bind_some]
  cases isPk a b c g f r o <;> cases inR key 1 2147483646 <;> try rfl
  simp only [cond_true, Bool.true_and]
  rw [Bool.beq_comm]
theorem impl_IsNarrower_e (k : Nat) (a b c d : Int) : impl_IsNarrower.f k a b c d = some (isNarrow a b c d) := by
  unfold impl_IsNarrower.f isNarrow
  simp only [impl_IsPattern_e, Option.bind_some]
  cases isPattern a b <;> cases isPattern c d <;> cases (c == 0) <;> cases (a == c) <;> cases (d == -1) <;> rfl
def coverOne (r : T_impl_Rule) (g : T_impl_Grant) : Bool := (g.f2 == 3) && isNarrow r.f2.f0 r.f2.f1 g.f1.f0 g.f1.f1
def rulesV (g : List T_impl_Grant) (r : List T_impl_Rule) : Bool := r.all fun x => g.any (coverOne x)
theorem impl_covered_e {k : Nat} (hk : Big k) {g : List T_impl_Grant} (hg : Ok g) (x : T_impl_Rule) : impl_covered.f k g x.f2.f0 x.f2.f1 = some (g.any (coverOne x)) := by
  unfold impl_covered.f
  rw [loop_any (impl_covered.l2 k (g.length : Int) g x.f2.f0 x.f2.f1 (fun y => some y) (fun _ => some false)) (coverOne x) (some false) (some true) g (fun n i y hx => by
    obtain ⟨h1, h2, h3, h4⟩ := at_ hx (by have := hg.out; omega)
    simp only [impl_covered.l2, impl_covered.L2, rd_impl_Grant, h1, h2, h3, h4, cond_true, impl_IsNarrower_e, Option.bind_some, coverOne]
    cases y.f2 == 3 <;> rfl) (fun n => by simp only [impl_covered.l2, impl_covered.L2, end_, cond_false]) k (hk.lt hg)]
  cases g.any (coverOne x) <;> rfl
abbrev Asc (l : List Int) : Prop := l.Pairwise (· < ·)
theorem asc_ext : ∀ {l m : List Int}, Asc l → Asc m → (∀ y, y ∈ l ↔ y ∈ m) → l = m
  | [], [], _, _, _ => rfl
  | [], y :: m, _, _, h => by have := (h y).2 (List.mem_cons_self ..); cases this
  | x :: l, [], _, _, h => by have := (h x).1 (List.mem_cons_self ..); cases this
  | x :: l, y :: m, hl, hm, h => by
    obtain ⟨h1, h2⟩ := List.pairwise_cons.1 hl
    obtain ⟨h3, h4⟩ := List.pairwise_cons.1 hm
    have e : x = y := by
      rcases List.mem_cons.1 ((h x).1 (List.mem_cons_self ..)) with e | e
      · exact e
      · rcases List.mem_cons.1 ((h y).2 (List.mem_cons_self ..)) with e' | e'
        · exact e'.symm
        · have := h1 _ e'; have := h3 _ e; omega
    subst e
    rw [asc_ext h2 h4 fun z => ?_]
    constructor
    · intro hz
      rcases List.mem_cons.1 ((h z).1 (List.mem_cons_of_mem _ hz)) with e | e
      · have := h1 _ hz; omega
      · exact e
    · intro hz
      rcases List.mem_cons.1 ((h z).2 (List.mem_cons_of_mem _ hz)) with e | e
      · have := h3 _ hz; omega
      · exact e
def leB (x y : Int) : Bool := decide (x ≤ y)
def ordV (l : List Int) : List Int := Go.Lib.compact (l.mergeSort fun x y => decide (x ≤ y))
theorem compact_up {d : Array Int} (hd : ∀ i j, i ≤ j → j < d.size → d[i]! ≤ d[j]!) : ∀ m, m ≤ d.size → Asc (Go.Lib.compactUpTo d m) ∧ (∀ y ∈ Go.Lib.compactUpTo d m, ∃ j, j < m ∧ d[j]! = y) ∧ ∀ j, j < m → d[j]! ∈ Go.Lib.compactUpTo d m
  | 0, _ => ⟨by unfold Go.Lib.compactUpTo; simp, fun y hy => by unfold Go.Lib.compactUpTo at hy; simp at hy, fun j hj => by omega⟩
  | m + 1, hm => by
    obtain ⟨h1, h2, h3⟩ := compact_up hd m (by omega)
    rw [Go.Lib.compactUpTo_succ]
    cases hk : Go.Lib.keeps d m with
    | true =>
      rw [if_pos rfl]
      refine ⟨?_, fun y hy => ?_, fun j hj => ?_⟩
      · refine List.pairwise_append.2 ⟨h1, List.pairwise_singleton _ _, fun a ha b hb => ?_⟩
        obtain rfl := List.mem_singleton.1 hb
        obtain ⟨j, hj, rfl⟩ := h2 a ha
        unfold Go.Lib.keeps at hk
        rcases of_decide_eq_true hk with h0 | hne
        · omega
        · have q1 := hd j (m - 1) (by omega) (by omega)
          have q2 := hd (m - 1) m (by omega) (by omega)
          omega
      · rcases List.mem_append.1 hy with h | h
        · obtain ⟨j, hj, e⟩ := h2 y h
          exact ⟨j, by omega, e⟩
        · exact ⟨m, by omega, (List.mem_singleton.1 h).symm⟩
      · by_cases e : j = m
        · subst e; exact List.mem_append.2 (.inr (List.mem_singleton.2 rfl))
        · exact List.mem_append.2 (.inl (h3 j (by omega)))
    | false =>
      rw [if_neg (by simp), List.append_nil]
      refine ⟨h1, fun y hy => ?_, fun j hj => ?_⟩
      · obtain ⟨j, hj, e⟩ := h2 y hy
        exact ⟨j, by omega, e⟩
      · by_cases e : j = m
        · subst e
          unfold Go.Lib.keeps at hk
          have hn := of_decide_eq_false hk
          have e2 : d[j]! = d[j - 1]! := by
            by_cases e3 : d[j]! = d[j - 1]!
            · exact e3
            · exact absurd (.inr e3) hn
          have e4 : j ≠ 0 := fun e => hn (.inl e)
          rw [e2]
          exact h3 _ (by omega)
        · exact h3 j (by omega)
theorem ordV_spec (l : List Int) : Asc (ordV l) ∧ ∀ y, y ∈ ordV l ↔ y ∈ l := by
  unfold ordV Go.Lib.compact
  have hs : (l.mergeSort fun x y => decide (x ≤ y)).Pairwise fun a b => decide (a ≤ b) = true := List.pairwise_mergeSort (le := fun x y : Int => decide (x ≤ y)) (fun a b c h1 h2 => by simp at *; omega) (fun a b => by simp; omega) l
  have hm : ∀ y, y ∈ (l.mergeSort fun x y => decide (x ≤ y)) ↔ y ∈ l := fun y => (List.mergeSort_perm l _).mem_iff
  generalize l.mergeSort (fun x y => decide (x ≤ y)) = s at hs hm
  have hd : ∀ i j, i ≤ j → j < s.toArray.size → s.toArray[i]! ≤ s.toArray[j]! := by
    intro i j hij hj
    have hj' : j < s.length := by simpa using hj
    rw [getElem!_pos s.toArray i (by simpa using (show i < s.length by omega)), getElem!_pos s.toArray j hj]
    simp only [List.getElem_toArray]
    by_cases e : i = j
    · subst e; exact Int.le_refl _
    · have := List.pairwise_iff_getElem.1 hs i j (by omega) hj' (by omega)
      simpa using this
  obtain ⟨h1, h2, h3⟩ := compact_up hd s.length (by simp)
  refine ⟨h1, fun y => ?_⟩
  rw [← hm]
  constructor
  · intro hy
    obtain ⟨j, hj, rfl⟩ := h2 y hy
    rw [getElem!_pos s.toArray j (by simpa using hj)]
    simp
  · intro hy
    obtain ⟨j, hj, rfl⟩ := List.mem_iff_getElem.1 hy
    have := h3 j hj
    rw [getElem!_pos s.toArray j (by simpa using hj)] at this
    simpa using this
theorem ordV_len (l : List Int) : (ordV l).length ≤ l.length := by
  unfold ordV
  exact Nat.le_trans (compact_len _) (Nat.le_of_eq (List.length_mergeSort ..))
theorem impl_ordered_e (k : Nat) {l : List Int} (hl : Ok l) : impl_ordered.f k l = some (ordV l) := by
  have hl' := hl.out
  unfold impl_ordered.f slices_Sort_int.f slices_Compact_int.f sortF compactF ordV
  rw [decide_eq_true (by omega)]
  rfl
def below (x : Int) (l : List Int) : Nat := (l.takeWhile fun y => decide (y < x)).length
def putV (l : List Int) (x : Int) : List Int := bif decide (below x l < l.length) && (rd_i64 l (below x l : Int) == x) then l else l.take (below x l) ++ [x] ++ l.drop (below x l)
theorem mem_tw {α : Type} {p : α → Bool} : ∀ {l : List α} {y : α}, y ∈ l.takeWhile p → p y = true
  | [], y, h => by cases h
  | a :: l, y, h => by
    cases ha : p a with
    | false => rw [List.takeWhile_cons_of_neg (by simp [ha])] at h; cases h
    | true =>
      rw [List.takeWhile_cons_of_pos ha] at h
      rcases List.mem_cons.1 h with e | e
      · rw [e]; exact ha
      · exact mem_tw e
theorem hd_dw {α : Type} {p : α → Bool} : ∀ {l : List α} {y : α} {r : List α}, l.dropWhile p = y :: r → p y = false
  | [], y, r, h => by cases h
  | a :: l, y, r, h => by
    cases ha : p a with
    | false =>
      rw [List.dropWhile_cons_of_neg (by simp [ha])] at h
      obtain ⟨rfl, _⟩ := List.cons.inj h
      exact ha
    | true =>
      rw [List.dropWhile_cons_of_pos ha] at h
      exact hd_dw h
theorem below_le (x : Int) (l : List Int) : below x l ≤ l.length := by unfold below; exact (List.takeWhile_sublist _).length_le
theorem take_below (x : Int) (l : List Int) : l.take (below x l) = l.takeWhile fun y => decide (y < x) := by
  have h : l.takeWhile (fun y => decide (y < x)) ++ l.dropWhile (fun y => decide (y < x)) = l := List.takeWhile_append_dropWhile
  have := congrArg (List.take (below x l)) h
  rw [← this]
  exact List.take_left' rfl
theorem drop_below (x : Int) (l : List Int) : l.drop (below x l) = l.dropWhile fun y => decide (y < x) := by
  have h : l.takeWhile (fun y => decide (y < x)) ++ l.dropWhile (fun y => decide (y < x)) = l := List.takeWhile_append_dropWhile
  have := congrArg (List.drop (below x l)) h
  rw [← this]
  exact List.drop_left' rfl
theorem putV_spec {l : List Int} (h : Asc l) (x : Int) : Asc (putV l x) ∧ ∀ y, y ∈ putV l x ↔ y ∈ l ∨ y = x := by
  unfold putV
  cases hc : decide (below x l < l.length) && (rd_i64 l (below x l : Int) == x) with
  | true =>
    rw [Bool.and_eq_true] at hc
    refine ⟨h, fun y => ⟨fun hy => .inl hy, fun hy => hy.elim id fun e => ?_⟩⟩
    have hlt := of_decide_eq_true hc.1
    have e2 := eq_of_beq hc.2
    subst e
    rw [← e2]
    show l.getD (below y l) z_i64 ∈ l
    rw [List.getD_eq_getElem?_getD, List.getElem?_eq_getElem hlt]
    exact List.getElem_mem hlt
  | false =>
    rw [cond_false]
    have h0 : l.take (below x l) ++ l.drop (below x l) = l := List.take_append_drop _ _
    have ht : ∀ y ∈ l.take (below x l), y < x := by
      intro y hy
      rw [take_below] at hy
      exact of_decide_eq_true (mem_tw (p := fun y => decide (y < x)) hy)
    have hp : Asc (l.take (below x l) ++ l.drop (below x l)) := by rw [h0]; exact h
    obtain ⟨p1, p2, p3⟩ := List.pairwise_append.1 hp
    have hdr : ∀ y ∈ l.drop (below x l), x < y := by
      intro y hy
      have hlt : below x l < l.length := by
        have : 0 < (l.drop (below x l)).length := List.length_pos_of_mem hy
        simp at this; omega
      rw [decide_eq_true hlt, Bool.true_and] at hc
      have hne : l[below x l] ≠ x := by
        intro e
        have : rd_i64 l (below x l : Int) = x := by
          show l.getD (below x l) z_i64 = x
          rw [List.getD_eq_getElem?_getD, List.getElem?_eq_getElem hlt]
          exact e
        rw [this] at hc
        simp at hc
      have hge : x ≤ l[below x l] := by
        have hcons : l.drop (below x l) = l[below x l] :: l.drop (below x l + 1) := List.drop_eq_getElem_cons hlt
        have := hd_dw (p := fun y => decide (y < x)) ((drop_below x l).symm.trans hcons)
        have := of_decide_eq_false this
        omega
      have hcons : l.drop (below x l) = l[below x l] :: l.drop (below x l + 1) := List.drop_eq_getElem_cons hlt
      rw [hcons] at hy p2
      obtain ⟨q1, _⟩ := List.pairwise_cons.1 p2
      rcases List.mem_cons.1 hy with e | e
      · omega
      · have := q1 _ e; omega
    refine ⟨?_, fun y => ?_⟩
    · rw [List.append_assoc]
      refine List.pairwise_append.2 ⟨p1, List.pairwise_cons.2 ⟨hdr, p2⟩, fun a ha b hb => ?_⟩
      rcases List.mem_cons.1 hb with e | e
      · subst e; exact ht a ha
      · exact p3 a ha b e
    · rw [List.mem_append, List.mem_append, List.mem_singleton]
      have : y ∈ l ↔ y ∈ l.take (below x l) ∨ y ∈ l.drop (below x l) := by rw [← List.mem_append, h0]
      rw [this]
      constructor
      · rintro ((h | h) | h)
        · exact .inl (.inl h)
        · exact .inr h
        · exact .inl (.inr h)
      · rintro ((h | h) | h)
        · exact .inl (.inl h)
        · exact .inr h
        · exact .inl (.inr h)
theorem put_fold : ∀ (L s : List Int), Asc s → Asc (L.foldl putV s) ∧ ∀ y, y ∈ L.foldl putV s ↔ y ∈ s ∨ y ∈ L
  | [], s, h => ⟨h, fun y => by simp⟩
  | x :: L, s, h => by
    obtain ⟨h1, h2⟩ := putV_spec h x
    obtain ⟨h3, h4⟩ := put_fold L (putV s x) h1
    refine ⟨h3, fun y => ?_⟩
    rw [List.foldl_cons, h4, h2, List.mem_cons, or_assoc]
theorem put_ord (L : List Int) : L.foldl putV [] = ordV L := by
  obtain ⟨h1, h2⟩ := put_fold L [] List.Pairwise.nil
  obtain ⟨h3, h4⟩ := ordV_spec L
  exact asc_ext h1 h3 fun y => by rw [h2, h4]; simp
theorem putV_len (l : List Int) (x : Int) : (putV l x).length ≤ l.length + 1 := by
  unfold putV
  have := below_le x l
  cases decide (below x l < l.length) && (rd_i64 l (below x l : Int) == x) <;> simp <;> omega
def ownB (kd : Int) (l : List T_impl_Op) : List Int := (l.filter fun o => o.f0 == kd).map fun o => o.f2
theorem ownB_len (kd : Int) (l : List T_impl_Op) : (ownB kd l).length ≤ l.length := by unfold ownB; rw [List.length_map]; exact List.length_filter_le _ _
def ownersOfV (kd : Int) (l : List T_impl_Op) : List Int := bif areOps l then ordV (ownB kd l) else []
theorem ownersOfV_ok {kd : Int} {l : List T_impl_Op} (hl : Ok l) : Ok (ownersOfV kd l) := by
  unfold ownersOfV
  cases areOps l with
  | false => exact Ok.small 0 (by simp)
  | true => exact Nat.le_trans (ordV_len _) (Nat.le_trans (ownB_len _ _) hl)
theorem fold_own (kd : Int) : ∀ (l : List T_impl_Op) (s : List Int), l.foldl (fun s o => bif o.f0 == kd then putV s o.f2 else s) s = (ownB kd l).foldl putV s
  | [], s => rfl
  | o :: l, s => by
    rw [List.foldl_cons, fold_own kd l]
    unfold ownB
    cases h : o.f0 == kd <;> simp [h]
theorem fold_own2 (kd : Int) : ∀ (l : List T_impl_Op) (s : List Int), l.foldl (fun s o => bif o.f0 == kd then s ++ [o.f2] else s) s = s ++ ownB kd l
  | [], s => by simp [ownB]
  | o :: l, s => by
    rw [List.foldl_cons, fold_own2 kd l]
    unfold ownB
    cases h : o.f0 == kd <;> simp [h]
theorem impl_ownersOf_e {k : Nat} (hk : Big k) {l : List T_impl_Op} (hl : Ok l) (kd : Int) : impl_ownersOf.f k l kd = some (ownersOfV kd l) := by
  have hl' := hl.out
  unfold impl_ownersOf.f ownersOfV
  rw [impl_AreOps_e hk hl, Option.bind_some]
  cases h : areOps l with
  | false => rfl
  | true =>
    have hb := ownB_len kd l
    have := loop_fold (fun q i s => impl_ownersOf.l5 k kd (l.length : Int) l (fun y => (impl_ordered.f k y).bind fun t3 => some t3) q i s) (fun s o => bif o.f0 == kd then s ++ [o.f2] else s) (fun i s => s.length ≤ i) (fun y => (impl_ordered.f k y).bind fun t3 => some t3) l (fun n i o s hx hi => by
      have hlt := lt_of hx
      obtain ⟨h1, h2, h3, h4⟩ := at_ hx (by omega)
      have hi : s.length ≤ i := hi
      simp only [impl_ownersOf.l5, impl_ownersOf.L5, rd_impl_Op, h1, h2, h3, h4, cond_true]
      rw [decide_eq_true (by unfold cap48; simp; omega), cond_true]
      cases o.f0 == kd <;> rfl) (fun i o s hx hi => by
      have hi : s.length ≤ i := hi
      cases o.f0 == kd
      · show s.length ≤ i + 1; omega
      · show (s ++ [o.f2]).length ≤ i + 1; simp; omega) (fun n s hi => by simp only [impl_ownersOf.l5, impl_ownersOf.L5, end_, cond_false]) k [] (hk.lt hl) (Nat.le_refl 0)
    rw [fold_own2, List.nil_append, impl_ordered_e k (Ok.small 1048576 (by omega))] at this
    exact this
theorem impl_OwnersRead_e {k : Nat} (hk : Big k) {l : List T_impl_Op} (hl : Ok l) : impl_OwnersRead.f k l = some (ownersOfV 1 l) := by
  unfold impl_OwnersRead.f; rw [impl_ownersOf_e hk hl]; rfl
theorem impl_OwnersSent_e {k : Nat} (hk : Big k) {l : List T_impl_Op} (hl : Ok l) : impl_OwnersSent.f k l = some (ownersOfV 5 l) := by
  unfold impl_OwnersSent.f; rw [impl_ownersOf_e hk hl]; rfl
def forOne (kd o : Int) (x : T_impl_Grant) : Bool := gOk x && ((x.f2 == kd) && ((x.f1.f0 == o) || (x.f1.f0 == 0)))
def grantFor (l : List T_impl_Grant) (kd o : Int) : Bool := l.any (forOne kd o)
def allFor (l : List T_impl_Grant) (kd : Int) (os : List Int) : Bool := os.all (grantFor l kd)
theorem impl_HasGrantFor_e {k : Nat} (hk : Big k) {l : List T_impl_Grant} (hl : Ok l) (kd o : Int) : impl_HasGrantFor.f k l kd o = some (grantFor l kd o) := by
  unfold impl_HasGrantFor.f grantFor
  rw [loop_any (impl_HasGrantFor.l2 k kd o (l.length : Int) l (fun y => some y) (fun _ => some false)) (forOne kd o) (some false) (some true) l (fun n i x hx => by
    obtain ⟨h1, h2, h3, h4⟩ := at_ hx (by have := hl.out; omega)
    simp only [impl_HasGrantFor.l2, impl_HasGrantFor.L2, rd_impl_Grant, h1, h2, h3, h4, cond_true, impl_IsGrant_e, Option.bind_some, forOne, gOk]
    cases isGrant x.f0 x.f1.f0 x.f1.f1 x.f2 x.f3 x.f4 <;> cases x.f2 == kd <;> cases x.f1.f0 == o <;> cases x.f1.f0 == 0 <;> rfl) (fun n => by simp only [impl_HasGrantFor.l2, impl_HasGrantFor.L2, end_, cond_false]) k (hk.lt hl)]
  cases l.any (forOne kd o) <;> rfl
theorem impl_allGranted_e {k : Nat} (hk : Big k) {l : List T_impl_Grant} (hl : Ok l) (kd : Int) {os : List Int} (ho : Ok os) : impl_allGranted.f k l kd os = some (allFor l kd os) := by
  unfold impl_allGranted.f allFor
  rw [loop_all (impl_allGranted.l2 k kd (os.length : Int) l os (fun y => some y) (fun _ => some true)) (grantFor l kd) (some true) (some false) os (fun n i x hx => by
    obtain ⟨h1, h2, h3, h4⟩ := at_ hx (by have := ho.out; omega)
    simp only [impl_allGranted.l2, impl_allGranted.L2, rd_i64, h1, h2, h3, h4, cond_true, impl_HasGrantFor_e hk hl, Option.bind_some]
    cases grantFor l kd x <;> rfl) (fun n => by simp only [impl_allGranted.l2, impl_allGranted.L2, end_, cond_false]) k (hk.lt ho)]
  cases os.all (grantFor l kd) <;> rfl
theorem impl_valueOf_e (k : Nat) {l : List Int} (hl : Ok l) (o : Int) : impl_valueOf.f k l o = some (valV l o) := by
  have hl' := hl.out
  unfold impl_valueOf.f valV
  by_cases h1 : o < 1
  · rw [decide_eq_true h1, decide_eq_false (show ¬ (1 ≤ o ∧ o ≤ (l.length : Int)) by omega)]; rfl
  by_cases h : o > (l.length : Int)
  · rw [decide_eq_false h1, decide_eq_true h, decide_eq_false (show ¬ (1 ≤ o ∧ o ≤ (l.length : Int)) by omega)]; rfl
  · rw [decide_eq_false h1, decide_eq_false h, w64_id (by omega), decide_eq_true (show 0 ≤ o - 1 by omega), decide_eq_true (show o - 1 < (l.length : Int) by omega), decide_eq_true (show 1 ≤ o ∧ o ≤ (l.length : Int) by omega), impl_InRange_e, Option.bind_some]
    cases inR (rd_i64 l (o - 1)) 0 999 <;> rfl
theorem impl_executed_e {k : Nat} (hk : Big k) {l : List T_impl_Op} (hl : Ok l) {vals : List Int} (hv : Ok vals) (ha : l.all opOk = true) : impl_executed.f k l vals = some ((runV vals l).1, (runV vals l).2.2) := by
  have hl' := hl.out
  unfold impl_executed.f runV
  exact loop_fold (fun q i (s : PSt) => impl_executed.l3 k (l.length : Int) l vals (fun y z => some (y, z)) q i s.1 s.2.1 s.2.2) (runF vals) (fun i s => s.1.length ≤ i ∧ Regs s.2.1 s.2.2) (fun s => some (s.1, s.2.2)) l (fun n i o s hx hi => by
    obtain ⟨s, v, b⟩ := s
    obtain ⟨hs, hr⟩ := hi
    have hlt := lt_of hx
    obtain ⟨h1, h2, h3, h4⟩ := at_ hx (by omega)
    have ho := all_at ha hx
    obtain ⟨hA, hc⟩ := op_cases ho
    have A1 := inR_true.1 hA
    have v6 := hr.vl
    have b6 := hr.bl
    have gA0 : decide (0 ≤ o.f1) = true := decide_eq_true A1.1
    have gA6 : decide (o.f1 < 6) = true := decide_eq_true (by omega)
    simp only [impl_executed.l3, impl_executed.L3, rd_impl_Op, h1, h2, h3, h4, cond_true, runF, stp, snt]
    rcases hc with ⟨e, q2⟩ | ⟨e, q2⟩ | ⟨e, q2, q3⟩ | ⟨e, q2, q3⟩ | ⟨e, q2⟩
    · have B1 := inR_true.1 q2
      have hp := pow9 B1.1 B1.2
      simp only [e, beq_self_eq_true, cond_true, impl_valueOf_e k hv, Option.bind_some, v6, b6, gA0, gA6, Int.cast_ofNat_Int, decide_eq_false (show ¬ o.f2 < 0 by omega), cond_false]
      rw [Nat.min_eq_left (by omega), Int.one_mul, w64_id (by omega)]
      simp
    · simp [e, v6, b6, gA0, gA6]
    · have B1 := inR_true.1 q2
      have C1 := inR_true.1 q3
      have hm := (add_mod (hr.val q2) (hr.val q3)).1
      simp only [e, v6, b6, gA0, gA6, Int.cast_ofNat_Int, decide_eq_true B1.1, decide_eq_true C1.1, decide_eq_true (show o.f2 < 6 by omega), decide_eq_true (show o.f3 < 6 by omega), cond_true, hm, orL]
      simp
    · have B1 := inR_true.1 q2
      have C1 := inR_true.1 q3
      simp only [e, v6, b6, gA0, gA6, Int.cast_ofNat_Int, decide_eq_true B1.1, decide_eq_true C1.1, decide_eq_true (show o.f2 < 6 by omega), decide_eq_true (show o.f3 < 6 by omega), cond_true, orL]
      cases (rd_i64 v o.f2).tmod 2 == 0 <;> simp
    · have hcap : decide ((s.length + 1) * 24 ≤ cap48) = true := decide_eq_true (by unfold cap48; have : s.length ≤ i := hs; omega)
      simp only [e, v6, b6, gA0, gA6, Int.cast_ofNat_Int, cond_true, List.length_cons, List.length_nil, Nat.zero_add, hcap]
      simp) (fun i o s hx hi => by
    obtain ⟨s, v, b⟩ := s
    obtain ⟨hs, hr⟩ := hi
    have hn := snt_len o v b
    refine ⟨?_, hr.step vals (all_at ha hx)⟩
    show (s ++ snt o v b).length ≤ i + 1
    have : s.length ≤ i := hs
    simp; omega) (fun n s hi => by simp only [impl_executed.l3, impl_executed.L3, end_, cond_false]) k ([], zeros, zeros) (hk.lt hl) ⟨Nat.le_refl 0, Regs.zero⟩
theorem impl_IsLabel_e (k : Nat) (x : Int) : impl_IsLabel.f k x = some (isLab x) := by
  unfold impl_IsLabel.f isLab
  rw [impl_InRange_e, Option.bind_some]
  cases inR x 0 1022 <;> rfl
theorem impl_OwnersIn_e {k : Nat} (hk : Big k) (x : Int) : impl_OwnersIn.f k x = some (ownersV x) := by
  have hk' := hk.out
  unfold impl_OwnersIn.f ownersV
  rw [impl_IsLabel_e, Option.bind_some]
  cases h : isLab x with
  | false => rfl
  | true =>
    have := loop_fold (fun q i s => impl_OwnersIn.l5 k x (fun y3 => some y3) q (i + 1) s) (fun s o => bif bitO x o then s ++ [o] else s) (fun i s => s.length ≤ i) (fun s => some s) nine (fun n i o s hx hi => by
      obtain ⟨rfl, h9⟩ := nine_at hx
      have hp := pow9 (o := (i : Int) + 1) (by omega) (by omega)
      have hq := bit_q (o := (i : Int) + 1) h
      have hd : Int.fdiv x (2 ^ ((i : Int) + 1).toNat) = x / 2 ^ ((i : Int) + 1).toNat := Int.fdiv_eq_ediv_of_nonneg _ (by omega)
      simp only [impl_OwnersIn.l5, impl_OwnersIn.L5]
      rw [Nat.min_eq_left (by omega), hd, i64_and1 hq.1 hq.2, decide_eq_true (show (i : Int) + 1 ≤ 9 by omega), cond_true, decide_eq_false (by omega), cond_false, w64_id (by omega), decide_eq_true (by unfold cap48; simp; omega), cond_true]
      unfold bitO
      cases (x / 2 ^ ((i : Int) + 1).toNat % 2 == 1) <;> rfl) (fun i o s hx hi => by
      cases bitO x o
      · show s.length ≤ i + 1; omega
      · show (s ++ [o]).length ≤ i + 1; simp; omega) (fun n s hs => by
      simp only [impl_OwnersIn.l5, impl_OwnersIn.L5]
      rfl) k [] (by show 9 < k; omega) (Nat.le_refl 0)
    rw [foldl_filter] at this
    exact this
/-- A loop that gives the place where p holds first. -/
theorem loop_idx {α R : Type} (l : Nat → Int → Option R) (p : α → Bool) (X : R) (c : Int → Option R) (d : R → Bool) (xs : List α) (hX : d X = false) (hc : ∀ i : Nat, ∃ r, c (i : Int) = some r ∧ d r = true)
    (hs : ∀ n (i : Nat) x, xs[i]? = some x → l (n + 1) (i : Int) = bif p x then c (i : Int) else l n ((i + 1 : Nat) : Int)) (he : ∀ n, l (n + 1) (xs.length : Int) = some X) (n : Nat) (hn : xs.length < n) :
    ∃ r, l n 0 = some r ∧ d r = xs.any p := by
  have key : ∀ (suf pre : List α) n, xs = pre ++ suf → suf.length < n → ∃ r, l n (pre.length : Int) = some r ∧ d r = suf.any p := by
    intro suf
    induction suf with
    | nil =>
      intro pre n hx hn
      obtain ⟨n, rfl⟩ : ∃ q, n = q + 1 := ⟨n - 1, by simp at hn; omega⟩
      have e : pre.length = xs.length := by rw [hx]; simp
      rw [e, he n]
      exact ⟨X, rfl, hX⟩
    | cons x suf ih =>
      intro pre n hx hn
      obtain ⟨n, rfl⟩ : ∃ q, n = q + 1 := ⟨n - 1, by simp at hn; omega⟩
      have hg : xs[pre.length]? = some x := by rw [hx]; simp
      rw [hs n pre.length x hg, List.any_cons]
      cases hp : p x with
      | true =>
        obtain ⟨r, h1, h2⟩ := hc pre.length
        exact ⟨r, h1, h2⟩
      | false =>
        have := ih (pre ++ [x]) n (by rw [hx]; simp) (by simp at hn; omega)
        simpa using this
  exact key xs [] n rfl hn
theorem slices_Contains_Flow_e {k : Nat} (hk : Big k) {l : List T_impl_Flow} (hl : Ok l) (a b c : Int) : slices_Contains_Flow.f k l a b c = some (hasF l a b c) := by
  unfold slices_Contains_Flow.f slices_Index_Flow.f hasF
  obtain ⟨r, h1, h2⟩ := loop_idx (slices_Index_Flow.l2 k (l.length : Int) l a b c (fun y => some y) (fun _ => some (-1))) (fun x => (x.f0 == a) && ((x.f1 == b) && (x.f2 == c))) (-1) (fun i => some i) (fun r => decide (r ≥ 0)) l rfl (fun i => ⟨_, rfl, decide_eq_true (by omega)⟩) (fun n i x hx => by
    obtain ⟨h1, h2, h3, h4⟩ := at_ hx (by have := hl.out; omega)
    simp only [slices_Index_Flow.l2, slices_Index_Flow.L2, rd_impl_Flow, h1, h2, h3, h4, cond_true]
    rw [Bool.beq_comm (a := a), Bool.beq_comm (a := b), Bool.beq_comm (a := c)]) (fun n => by simp only [slices_Index_Flow.l2, slices_Index_Flow.L2, end_, cond_false]) k (hk.lt hl)
  rw [h1, Option.bind_some, h2]
theorem impl_NeedsFlows_in {k : Nat} (hk : Big k) (e x3 x4 : Int) (l : List T_impl_Op) (t v x : Int) (S : List T_impl_Sent) {R : Type} (X : List T_impl_Flow → Option R) {L : List Int} (hL : L.length ≤ 9) {out : List T_impl_Flow} (ho : out.length ≤ 1000) :
    impl_NeedsFlows.l9 k e x3 x4 (L.length : Int) l t v x S L X k 0 out = X (L.foldl (addOne e t) out) := by
  refine loop_fold (fun q i s => impl_NeedsFlows.l9 k e x3 x4 (L.length : Int) l t v x S L X q i s) (addOne e t) (fun i s => s.length ≤ out.length + i) X L (fun n i o s hx hi => ?_) (fun i o s hx hi => ?_) (fun n s hi => ?_) k out (by have := hk.out; omega) (Nat.le_refl _)
  · have hlt := lt_of hx
    obtain ⟨h1, h2, h3, h4⟩ := at_ hx (by omega)
    have hi : s.length ≤ out.length + i := hi
    simp only [impl_NeedsFlows.l9, impl_NeedsFlows.L9, rd_i64, h1, h2, h3, h4, cond_true, slices_Contains_Flow_e hk (Ok.small (l := s) 2000 (by omega)), Option.bind_some, addOne]
    rw [decide_eq_true (by unfold cap48; simp; omega), cond_true]
    cases o != t <;> cases hasF s e o t <;> rfl
  · have := addOne_len e t s o
    show (addOne e t s o).length ≤ out.length + (i + 1)
    have hi : s.length ≤ out.length + i := hi
    omega
  · simp only [impl_NeedsFlows.l9, impl_NeedsFlows.L9, end_, cond_false]
theorem impl_NeedsFlows_e {k : Nat} (hk : Big k) {l : List T_impl_Op} (hl : Ok l) (e : Int) : impl_NeedsFlows.f k l e = some (needsV l e) := by
  unfold impl_NeedsFlows.f needsV
  rw [impl_AreOps_e hk hl, Option.bind_some]
  cases h : areOps l with
  | false => rfl
  | true =>
    rw [impl_executed_e hk hl (Ok.small 0 (by simp)) (areOps_all h).1]
    have hs := sents_len (vals := []) h
    simp only [Bool.not_true, cond_false, cond_true, Option.bind_some]
    generalize (runV [] l).1 = S at hs
    exact loop_fold (fun q i s => impl_NeedsFlows.l6 k e (S.length : Int) l S (fun y => some y) q i s) (addS e) (fun i s => s.length ≤ 9 * i) (fun s => some s) S (fun n i x s hx hi => by
      have hlt := lt_of hx
      obtain ⟨h1, h2, h3, h4⟩ := at_ hx (by omega)
      have hi : s.length ≤ 9 * i := hi
      simp only [impl_NeedsFlows.l6, impl_NeedsFlows.L6, rd_impl_Sent, h1, h2, h3, h4, cond_true, impl_OwnersIn_e hk, Option.bind_some]
      rw [impl_NeedsFlows_in hk _ _ _ _ _ _ _ _ _ (ownersV_len x.f2) (by omega)]
      rfl) (fun i x s hx hi => by
      have := addS_len e s x
      show (addS e s x).length ≤ 9 * (i + 1)
      have hi : s.length ≤ 9 * i := hi
      omega) (fun n s hi => by simp only [impl_NeedsFlows.l6, impl_NeedsFlows.L6, end_, cond_false]) k [] (by have := hk.out; omega) (Nat.le_refl 0)
def withinF (l m : List T_impl_Flow) : Bool := l.all fun x => isFlowV x.f0 x.f1 x.f2 && hasF m x.f0 x.f1 x.f2
theorem impl_FlowsWithin_e {k : Nat} (hk : Big k) {l m : List T_impl_Flow} (hl : Ok l) (hm : Ok m) : impl_FlowsWithin.f k l m = some (withinF l m) := by
  unfold impl_FlowsWithin.f withinF
  rw [loop_all (impl_FlowsWithin.l2 k (l.length : Int) l m (fun y => some y) (fun _ => some true)) (fun x => isFlowV x.f0 x.f1 x.f2 && hasF m x.f0 x.f1 x.f2) (some true) (some false) l (fun n i x hx => by
    obtain ⟨h1, h2, h3, h4⟩ := at_ hx (by have := hl.out; omega)
    simp only [impl_FlowsWithin.l2, impl_FlowsWithin.L2, rd_impl_Flow, h1, h2, h3, h4, cond_true, impl_IsFlow_e, slices_Contains_Flow_e hk hm, Option.bind_some]
    cases isFlowV x.f0 x.f1 x.f2 <;> cases hasF m x.f0 x.f1 x.f2 <;> rfl) (fun n => by simp only [impl_FlowsWithin.l2, impl_FlowsWithin.L2, end_, cond_false]) k (hk.lt hl)]
  cases l.all fun x => isFlowV x.f0 x.f1 x.f2 && hasF m x.f0 x.f1 x.f2 <;> rfl
theorem impl_IsTightFor_e {k : Nat} (hk : Big k) {l : List T_impl_Op} (hl : Ok l) {f : List T_impl_Flow} (hf : Ok f) (e : Int) : impl_IsTightFor.f k l f e = some (areOps l && withinF (needsV l e) f) := by
  unfold impl_IsTightFor.f
  simp only [impl_AreOps_e hk hl, impl_NeedsFlows_e hk hl, impl_FlowsWithin_e hk (needsV_ok l e) hf, Option.bind_some]
  cases areOps l <;> rfl
def reviewV (key a b c d : Int) (g : List T_impl_Grant) (f : List T_impl_Flow) (r : List T_impl_Rule) (o : List T_impl_Op) : Int :=
  bif !isPk a b c g f r o then 1 else bif !(isPk a b c g f r o && (inR key 1 2147483646 && (sealV key a b c g f r o == d))) then 2 else bif !rulesV g r then 3 else bif !allFor g 1 (ownersOfV 1 o) then 4 else bif !allFor g 3 (ownersOfV 5 o) then 5 else bif !(areOps o && withinF (needsV o a) f) then 6 else 0
theorem impl_ReviewPackage_e {k : Nat} (hk : Big k) (key a b c d : Int) {g : List T_impl_Grant} {f : List T_impl_Flow} {r : List T_impl_Rule} {o : List T_impl_Op} (hg : Ok g) (hf : Ok f) (hr : Ok r) (ho : Ok o) :
    impl_ReviewPackage.f k key a b c g f r o d = some (reviewV key a b c d g f r o) := by
  unfold impl_ReviewPackage.f reviewV
  have loop : ∀ X1 : Unit → Option Int, impl_ReviewPackage.l6 k (r.length : Int) g f r o a b c d (fun y => some y) X1 k 0 = bif rulesV g r then X1 () else some 3 := fun X1 => by
    unfold rulesV
    exact loop_all (impl_ReviewPackage.l6 k (r.length : Int) g f r o a b c d (fun y => some y) X1) (fun x => g.any (coverOne x)) (X1 ()) (some 3) r (fun n i x hx => by
      obtain ⟨h1, h2, h3, h4⟩ := at_ hx (by have := hr.out; omega)
      simp only [impl_ReviewPackage.l6, impl_ReviewPackage.L6, rd_impl_Rule, h1, h2, h3, h4, cond_true, impl_covered_e hk hg x, Option.bind_some]
      cases g.any (coverOne x) <;> rfl) (fun n => by simp only [impl_ReviewPackage.l6, impl_ReviewPackage.L6, end_, cond_false]) k (hk.lt hr)
  rw [loop]
  simp only [impl_IsPackage_e hk a b c d hg hf hr ho, impl_IsSealed_e hk key a b c d hg hf hr ho, impl_OwnersRead_e hk ho, impl_OwnersSent_e hk ho, impl_allGranted_e hk hg 1 (ownersOfV_ok (kd := 1) ho), impl_allGranted_e hk hg 3 (ownersOfV_ok (kd := 5) ho), impl_IsTightFor_e hk ho hf, Option.bind_some]
  generalize (inR key 1 2147483646 && (sealV key a b c g f r o == d)) = p2
  generalize isPk a b c g f r o = p1, rulesV g r = p3, allFor g 1 (ownersOfV 1 o) = p4, allFor g 3 (ownersOfV 5 o) = p5, (areOps o && withinF (needsV o a) f) = p6
  cases p1 <;> cases p2 <;> cases p3 <;> cases p4 <;> cases p5 <;> cases p6 <;> rfl
def rollV (key a b c d : Int) (g : List T_impl_Grant) (f : List T_impl_Flow) (r : List T_impl_Rule) (o : List T_impl_Op) (a' b' c' : Int) (g' : List T_impl_Grant) (f' : List T_impl_Flow) (r' : List T_impl_Rule) (o' : List T_impl_Op) : Bool :=
  (reviewV key a b c d g f r o == 0) && (isPk a' b' c' g' f' r' o' && ((a' == a) && decide (c' > c)))
theorem impl_CanRollBack_e {k : Nat} (hk : Big k) (key a b c d : Int) {g : List T_impl_Grant} {f : List T_impl_Flow} {r : List T_impl_Rule} {o : List T_impl_Op} (s : List T_impl_Stored) (a' b' c' d' : Int) {g' : List T_impl_Grant} {f' : List T_impl_Flow} {r' : List T_impl_Rule} {o' : List T_impl_Op} (hg : Ok g) (hf : Ok f) (hr : Ok r) (ho : Ok o) (hg' : Ok g') (hf' : Ok f') (hr' : Ok r') (ho' : Ok o') :
    impl_CanRollBack.f k key a b c g f r o d s a' b' c' g' f' r' o' d' = some (rollV key a b c d g f r o a' b' c' g' f' r' o') := by
  unfold impl_CanRollBack.f rollV
  simp only [impl_ReviewPackage_e hk key a b c d hg hf hr ho, impl_IsPackage_e hk a' b' c' d' hg' hf' hr' ho', Option.bind_some]
  generalize (reviewV key a b c d g f r o == 0) = p1, isPk a' b' c' g' f' r' o' = p2, (a' == a) = p3, decide (c' > c) = p4
  cases p1 <;> cases p2 <;> cases p3 <;> rfl
theorem restoreV_true {l s : List T_impl_Stored} {e : Int} (h : (restoreV l e s).1 = true) : storeV (restoreV l e s).2 = true ∧ entriesOf e (restoreV l e s).2 = s ∧ dropV (restoreV l e s).2 e = dropV l e := by
  unfold restoreV at h ⊢
  cases hc : storeV l && (storeV s && (storeV (s.foldl setV (dropV l e)) && s.all fun x => x.f0 == e)) with
  | false => rw [hc] at h; cases h
  | true =>
    simp only [Bool.and_eq_true] at hc
    obtain ⟨h1, h2, h3, h4⟩ := hc
    have hl := (store_asc h1).1
    have hs := (store_asc h2).1
    obtain ⟨p1, p2⟩ := restore_perm hl hs h4
    rw [cond_true]
    refine ⟨h3, ?_, ?_⟩
    · have hp := p2.filter fun x => x.f0 == e
      rw [List.filter_append] at hp
      have e1 : (dropV l e).filter (fun x => x.f0 == e) = [] := by
        unfold dropV
        rw [List.filter_filter, List.filter_eq_nil_iff]
        intro x _
        cases hx : x.f0 == e with
        | false => simp
        | true => rw [show (x.f0 != e) = !(x.f0 == e) from rfl, hx]; simp
      have e2 : s.filter (fun x => x.f0 == e) = s := List.filter_eq_self.2 (List.all_eq_true.1 h4)
      rw [e1, e2, List.nil_append] at hp
      exact (perm_uniq hs (p1.sublist List.filter_sublist) hp).symm
    · have hp := p2.filter fun x => x.f0 != e
      rw [List.filter_append] at hp
      have e1 : (dropV l e).filter (fun x => x.f0 != e) = dropV l e := List.filter_eq_self.2 fun x hx => (List.mem_filter.1 hx).2
      have e2 : s.filter (fun x => x.f0 != e) = [] := by
        rw [List.filter_eq_nil_iff]
        intro x hx
        have := List.all_eq_true.1 h4 x hx
        rw [show (x.f0 != e) = !(x.f0 == e) from rfl, this]; simp
      rw [e1, e2, List.append_nil] at hp
      exact (perm_uniq (hl.sublist List.filter_sublist) (p1.sublist List.filter_sublist) hp).symm
theorem restoreV_false {l s : List T_impl_Stored} {e : Int} (h : (restoreV l e s).1 = false) : (restoreV l e s).2 = l := by
  unfold restoreV at h ⊢
  cases hc : storeV l && (storeV s && (storeV (s.foldl setV (dropV l e)) && s.all fun x => x.f0 == e)) with
  | false => rfl
  | true => rw [hc] at h; cases h
theorem snapT_ne (a b : Int) (c : Nat) : ((snapT a b c).toList == (ByteArray.mk #[]).toList) = false := by
  refine beq_eq_false_iff_ne.2 fun e => ?_
  rw [ByteArray.toList_eq, show (ByteArray.mk #[]).toList = [] from ByteArray.toList_mk []] at e
  have h1 : (snapT a b c).size = 0 := by
    show (snapT a b c).data.size = 0
    rw [← Array.length_toList, e]; rfl
  unfold snapT at h1
  rw [ba_size_app, ba_size_app, sz_1] at h1
  omega
theorem FnRolledBack : ∀ (a0 : List Int), a0.length ≤ maxLen → (∀ x ∈ a0, likes (k_u8.enc k_u8.zero) (k_u8.enc x)) → ∃ k, laws_FnRolledBack.f k a0 = some true := by
  intro l hl _
  obtain ⟨k, hk⟩ := big_some
  refine ⟨k, ?_⟩
  unfold laws_FnRolledBack.f
  rw [laws_big_e, Option.bind_some]
  by_cases h0 : (l.length : Int) > 1048576
  · rw [decide_eq_true h0]; rfl
  rw [decide_eq_false h0, cond_false]
  have ol : Ok l := by unfold Ok; omega
  obtain ⟨⟨a, b, c, d, L, g, f, r, o, s⟩, e1, ra, rc, hL, ⟨hg, hf, hr, ho⟩, hs⟩ := spec_DrawRestoreStore_t hk ol
  obtain ⟨⟨key, a1, b1, c1, d1, a2, b2, c2, d2, g1, f1, r1, o1, s1, g2, f2, r2, o2⟩, e2, ⟨hg1, hf1, hr1, ho1⟩, ⟨hg2, hf2, hr2, ho2⟩⟩ := spec_DrawCanRollBack_t hk ol
  simp only at ra rc hL hg hf hr ho hs hg1 hf1 hr1 ho1 hg2 hf2 hr2 ho2
  have oL : Ok L := Ok.small 40 hL
  have os : Ok s := Ok.small 40 hs
  have og := Ok.small 21 hg
  have of := Ok.small 21 hf
  have or := Ok.small 21 hr
  have oo := Ok.small 21 ho
  have oX := restoreV_ok oL a s
  have hrs := impl_RestoreStore_e hk oL a b c d g f r o os
  simp only [e1, Option.bind_some, hrs]
  cases hM : (restoreV L a s).1 with
  | false =>
    rw [restoreV_false hM]
    simp only [Bool.not_false, cond_true, impl_EqualStores_refl hk oL, Option.bind_some]
  | true =>
    obtain ⟨m1, m2, m3⟩ := restoreV_true hM
    have oD : Ok (dropV L a) := oL.filter
    simp only [Bool.not_true, cond_false, impl_TakeSnapshot_e hk a b c d og of or oo oX, Option.bind_some, m2, impl_EqualStores_refl hk os, impl_DropStored_e hk oX, impl_DropStored_e hk oL, m3, impl_EqualStores_refl hk oD, impl_IsStore_e hk oX, m1, e2, impl_SnapshotText_e k ra rc os, snapT_ne, Bool.not_false, cond_true,
      impl_CanRollBack_e hk key a1 b1 c1 d1 s1 a2 b2 c2 d2 (Ok.small 21 hg1) (Ok.small 21 hf1) (Ok.small 21 hr1) (Ok.small 21 ho1) (Ok.small 21 hg2) (Ok.small 21 hf2) (Ok.small 21 hr2) (Ok.small 21 ho2), impl_ReviewPackage_e hk key a1 b1 c1 d1 (Ok.small 21 hg1) (Ok.small 21 hf1) (Ok.small 21 hr1) (Ok.small 21 ho1)]
    cases hv : rollV key a1 b1 c1 d1 g1 f1 r1 o1 a2 b2 c2 g2 f2 r2 o2 with
    | false => rfl
    | true =>
      unfold rollV at hv
      simp only [Bool.and_eq_true] at hv
      obtain ⟨v1, _, _, v4⟩ := hv
      rw [v4, v1]
      rfl
end Go.Proofs.YtmjflahlhgibnaaGreatDoor.PFnRolledBack.Pure
