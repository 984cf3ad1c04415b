/- The law FnTransferred as a statement over numbers and lists, with its proof; no conditions but the bounds of the values' types and of the slices' lengths. -/
import Derived.Test.YthingkcckjiniaaPFnTransferred7
set_option linter.unusedVariables false
set_option linter.unusedSimpArgs false
namespace Go.Proofs.Ythingkcckjiniaa.PFnTransferred.Pure
open Go Go.Eng Go.Proofs
theorem laws_big_e (k : Nat) (l : List Int) : laws_big.f k l = some (decide ((l.length : Int) > 1048576)) := rfl
def Ret' {α : Type} (o : Option α) (P : α → Prop) : Prop := ∃ t, o = some t ∧ P t
theorem Ret'.bind {α β : Type} {o : Option α} {P : α → Prop} {f : α → Option β} {Q : β → Prop} (h : Ret' o P) (k : ∀ t, P t → Ret' (f t) Q) : Ret' (o.bind f) Q := by
  obtain ⟨t, rfl, ht⟩ := h
  exact k t ht
theorem Ret'.some {α : Type} {t : α} {P : α → Prop} (h : P t) : Ret' (Option.some t) P := ⟨t, rfl, h⟩
theorem Ret'.imp {α : Type} {o : Option α} {P Q : α → Prop} (h : Ret' o P) (k : ∀ t, P t → Q t) : Ret' o Q := by
  obtain ⟨t, e, ht⟩ := h
  exact ⟨t, e, k t ht⟩
theorem Ret'.bif {α : Type} {c : Bool} {x y : Option α} {P : α → Prop} (h : c = true → Ret' x P) (k : c = false → Ret' y P) : Ret' (bif c then x else y) P := by
  cases c
  · exact k rfl
  · exact h rfl
theorem i64_and255 (n : Int) : bitop .and .i64 n 255 = n % 256 := by
  have h127 : (BitVec.ofInt 64 255).toNat = 2 ^ 8 - 1 := by decide
  have key : (BitVec.ofInt 64 n &&& BitVec.ofInt 64 255).toNat = (n % ((2 ^ 64 : Nat) : Int)).toNat % 2 ^ 8 := by
    rw [BitVec.toNat_and, BitVec.toNat_ofInt, h127, Nat.and_two_pow_sub_one_eq_mod]
  show IntKind.i64.wrap ((BitVec.ofInt 64 n &&& BitVec.ofInt 64 255).toNat : Nat) = n % 256
  rw [key, show ∀ m : Int, IntKind.i64.wrap m = w64 m from fun _ => rfl, w64_id (by omega)]
  omega
def Pos (l : List Int) (p : Int) : Prop := 0 ≤ p ∧ p ≤ (l.length : Int) ∧ (l.length : Int) ≤ 1048576
theorem tmod_bd {b a : Int} (hb : 0 ≤ b) (ha : 0 < a) : 0 ≤ Int.tmod b a ∧ Int.tmod b a < a := by
  rw [Int.tmod_eq_emod_of_nonneg hb]
  exact ⟨Int.emod_nonneg _ (by omega), Int.emod_lt_of_pos _ ha⟩
theorem spec_l1New_l {l : List Int} (hl : Ok l) (k : Nat) : ∀ (n q : Nat) (h : Int) (i : Nat), 4000 ≤ i + n → i ≤ 4000 → n < q → Ret' (spec_l1New.l3 k l (fun y => some ((0 : Int), y)) q h (i : Int)) fun t => t.1 = 0 := by
  have hl' := hl.out
  intro n
  induction n with
  | zero =>
    intro q h i h1 h2 hq
    obtain ⟨q, rfl⟩ : ∃ j, q = j + 1 := ⟨q - 1, by omega⟩
    simp only [spec_l1New.l3, spec_l1New.L3]
    refine Ret'.bif (fun c => ?_) (fun c => .some rfl)
    rw [decide_eq_false (show ¬ ((i : Int) < 4000) by omega)]
    exact .some rfl
  | succ n ih =>
    intro q h i h1 h2 hq
    obtain ⟨q, rfl⟩ : ∃ j, q = j + 1 := ⟨q - 1, by omega⟩
    simp only [spec_l1New.l3, spec_l1New.L3]
    refine Ret'.bif (fun c => ?_) (fun c => .some rfl)
    refine Ret'.bif (fun c2 => ?_) (fun c2 => .some rfl)
    have c2 := of_decide_eq_true c2
    rw [nn_, cond_true, c, cond_true, w64_id (n := (i : Int) + 1) (by omega)]
    exact ih q _ (i + 1) (by omega) (by omega) (by omega)
theorem spec_l1New_t {k : Nat} (hk : Big k) {l : List Int} (hl : Ok l) : Ret' (spec_l1New.f k l) fun t => Pos l t.1 := by
  have hl' := hl.out
  have hk' := hk.out
  unfold spec_l1New.f
  exact (spec_l1New_l hl k 4000 k _ 0 (by omega) (by omega) (by omega)).imp fun t ht => by rw [ht]; unfold Pos; omega
theorem spec_l1Byte_t (k : Nat) {l : List Int} {p : Int} (h : Int) (hp : Pos l p) : Ret' (spec_l1Byte.f k l p h) fun t => Pos l t.2.1 ∧ 0 ≤ t.1 ∧ t.1 ≤ 255 := by
  obtain ⟨h0, h1, h2⟩ := hp
  unfold spec_l1Byte.f
  simp only [i64_and255]
  refine Ret'.bif (fun c => ?_) (fun c => .some ⟨⟨h0, h1, h2⟩, by simp only; omega, by simp only; omega⟩)
  have c := of_decide_eq_true c
  rw [decide_eq_true h0, cond_true, decide_eq_true c, cond_true]
  exact .some ⟨by simp only; rw [w64_id (by omega)]; unfold Pos; omega, by simp only; omega, by simp only; omega⟩
theorem spec_l1Below_t (k : Nat) {l : List Int} {p : Int} (h : Int) (hp : Pos l p) (a : Int) (ha : 0 < a) : Ret' (spec_l1Below.f k l p h a) fun t => Pos l t.2.1 ∧ 0 ≤ t.1 ∧ t.1 < a := by
  unfold spec_l1Below.f
  rw [decide_eq_false (show ¬ a ≤ 0 by omega), cond_false]
  refine Ret'.bif (fun c => ?_) (fun c => ?_)
  · refine (spec_l1Byte_t k h hp).bind fun t ⟨q, b0, b1⟩ => ?_
    rw [decide_eq_false (show ¬ a = 0 by omega), cond_false]
    exact .some ⟨q, tmod_bd b0 ha⟩
  · refine (spec_l1Byte_t k h hp).bind fun t ⟨q, b0, b1⟩ => (spec_l1Byte_t k _ q).bind fun t2 ⟨q2, c0, c1⟩ => (spec_l1Byte_t k _ q2).bind fun t3 ⟨q3, d0, d1⟩ => ?_
    rw [decide_eq_false (show ¬ a = 0 by omega), cond_false, w64_id (n := t.1 * 65536) (by omega), w64_id (n := t2.1 * 256) (by omega), w64_id (n := t.1 * 65536 + t2.1 * 256) (by omega), w64_id (by omega)]
    exact .some ⟨q3, tmod_bd (by omega) ha⟩
theorem spec_l9Pattern_t (k : Nat) {l : List Int} {p : Int} (h : Int) (hp : Pos l p) : Ret' (spec_l9Pattern.f k l p h) fun t => Pos l t.2.2.1 := by
  unfold spec_l9Pattern.f
  exact (spec_l1Below_t k h hp 5 (by decide)).bind fun t ⟨q, _⟩ => (spec_l1Below_t k _ q 4 (by decide)).bind fun t ⟨q, _⟩ => .some q
theorem spec_l1Once_t (k : Nat) {l : List Int} {p : Int} (h : Int) (hp : Pos l p) (a : Int) (ha : 0 < a) : Ret' (spec_l1Once.f k l p h a) fun t => Pos l t.2.1 := by
  unfold spec_l1Once.f
  exact (spec_l1Below_t k h hp a ha).bind fun t ⟨q, _⟩ => .some q
theorem spec_l10Draw_t (k : Nat) {l : List Int} {p : Int} (h : Int) (hp : Pos l p) : Ret' (spec_l10Draw.f k l p h) fun t => Pos l t.2.2.2.2.2.2.2.1 := by
  unfold spec_l10Draw.f
  exact (spec_l1Below_t k h hp 9 (by decide)).bind fun t ⟨q, _⟩ => (spec_l1Below_t k _ q 3 (by decide)).bind fun t ⟨q, _⟩ => (spec_l9Pattern_t k _ q).bind fun t q => (spec_l1Below_t k _ q 4 (by decide)).bind fun t ⟨q, _⟩ => (spec_l1Below_t k _ q 12 (by decide)).bind fun t ⟨q, _⟩ => (spec_l1Once_t k _ q 4 (by decide)).bind fun t q => .some q
theorem spec_l20Draw_t (k : Nat) {l : List Int} {p : Int} (h : Int) (hp : Pos l p) : Ret' (spec_l20Draw.f k l p h) fun t => Pos l t.2.2.2.1 := by
  unfold spec_l20Draw.f
  exact (spec_l1Below_t k h hp 3 (by decide)).bind fun t ⟨q, _⟩ => (spec_l1Below_t k _ q 4 (by decide)).bind fun t ⟨q, _⟩ => (spec_l1Below_t k _ q 4 (by decide)).bind fun t ⟨q, _⟩ => .some q
theorem spec_l9Site_t (k : Nat) {l : List Int} {p : Int} (h : Int) (hp : Pos l p) : Ret' (spec_l9Site.f k l p h) fun t => Pos l t.2.2.1 := by
  unfold spec_l9Site.f
  exact (spec_l1Below_t k h hp 4 (by decide)).bind fun t ⟨q, _⟩ => (spec_l1Below_t k _ q 3 (by decide)).bind fun t ⟨q, _⟩ => .some q
theorem spec_l13Draw_t (k : Nat) {l : List Int} {p : Int} (h : Int) (hp : Pos l p) : Ret' (spec_l13Draw.f k l p h) fun t => Pos l t.2.2.2.2.2.2.2.2.1 := by
  unfold spec_l13Draw.f
  exact (spec_l1Below_t k h hp 3 (by decide)).bind fun t ⟨q, _⟩ => (spec_l1Below_t k _ q 3 (by decide)).bind fun t ⟨q, _⟩ => (spec_l9Pattern_t k _ q).bind fun t q => (spec_l1Below_t k _ q 3 (by decide)).bind fun t ⟨q, _⟩ => (spec_l1Below_t k _ q 3 (by decide)).bind fun t ⟨q, _⟩ =>
    .bif (fun _ => (spec_l9Site_t k _ q).bind fun t q => .some q) fun _ => .some q
theorem spec_l21Op_t (k : Nat) {l : List Int} {p : Int} (h : Int) (hp : Pos l p) : Ret' (spec_l21Op.f k l p h) fun t => Pos l t.2.2.2.2.1 := by
  unfold spec_l21Op.f
  exact (spec_l1Below_t k h hp 5 (by decide)).bind fun t ⟨q, _⟩ => (spec_l1Below_t k _ q 4 (by decide)).bind fun t ⟨q, _⟩ =>
    .bif (fun _ => (spec_l1Below_t k _ q 4 (by decide)).bind fun t ⟨q, _⟩ => .some q) fun _ => .bif (fun _ => (spec_l1Below_t k _ q 4 (by decide)).bind fun t ⟨q, _⟩ => .some q) fun _ => .bif (fun _ => (spec_l1Below_t k _ q 20 (by decide)).bind fun t ⟨q, _⟩ => .some q) fun _ =>
    (spec_l1Below_t k _ q 4 (by decide)).bind fun t ⟨q, _⟩ => (spec_l1Below_t k _ q 4 (by decide)).bind fun t ⟨q, _⟩ => .some q
theorem loop_down {σ R : Type} (l : Nat → Int → Int → Int → List σ → Option R) (B : Nat) (I : Int → Prop) (Q : R → Prop)
    (hs : ∀ q (n : Nat) p h s, I p → s.length + (n + 1) ≤ B → (∀ p' h' x, I p' → Ret' (l q (n : Int) p' h' (s ++ [x])) Q) → Ret' (l (q + 1) ((n + 1 : Nat) : Int) p h s) Q)
    (he : ∀ q p h s, I p → s.length ≤ B → Ret' (l (q + 1) 0 p h s) Q) : ∀ (n q : Nat) p h s, n < q → I p → s.length + n ≤ B → Ret' (l q (n : Int) p h s) Q := by
  intro n
  induction n with
  | zero =>
    intro q p h s hq hp hb
    obtain ⟨q, rfl⟩ : ∃ j, q = j + 1 := ⟨q - 1, by omega⟩
    exact he q p h s hp hb
  | succ n ih =>
    intro q p h s hq hp hb
    obtain ⟨q, rfl⟩ : ∃ j, q = j + 1 := ⟨q - 1, by omega⟩
    exact hs q n p h s hp hb fun p' h' x hp' => ih q p' h' (s ++ [x]) (by omega) hp' (by simp; omega)
theorem down1 (n : Nat) (hn : n ≤ 1000000) : w64 (((n + 1 : Nat) : Int) - 1) = (n : Int) := by rw [w64_id (by omega)]; omega
theorem down_gt (n : Nat) : decide (((n + 1 : Nat) : Int) > 0) = true := decide_eq_true (by omega)
theorem spec_l21Ops_t {k : Nat} (hk : Big k) {l : List Int} {p : Int} (h : Int) (hp : Pos l p) : Ret' (spec_l21Ops.f k l p h) fun t => Pos l t.1 ∧ t.2.2.length ≤ 20 := by
  have hk' := hk.out
  unfold spec_l21Ops.f
  refine (spec_l1Below_t k h hp 10 (by decide)).bind fun t ⟨q, b0, b1⟩ => ?_
  obtain ⟨n, hn⟩ := Int.eq_ofNat_of_zero_le b0
  rw [hn]
  refine loop_down (spec_l21Ops.l3 k l fun y4 y5 y6 => some (y4, y5, y6)) 20 (Pos l) _ (fun q n p h s hp hb ih => ?_) (fun q p h s hp hb => ?_) n k _ _ [] (by omega) q (by simp; omega)
  · simp only [spec_l21Ops.l3, spec_l21Ops.L3, down_gt, cond_true, down1 n (by omega)]
    refine (spec_l21Op_t k h hp).bind fun t q => ?_
    rw [decide_eq_true (by unfold cap48; simp; omega), cond_true]
    exact ih _ _ _ q
  · exact .some ⟨hp, hb⟩
theorem spec_l26Copy_e (k : Nat) (a b c : Int) {g : List T_impl_Grant} {f : List T_impl_Flow} {r : List T_impl_Rule} {o : List T_impl_Op} (d : Int) (hg : Ok g) (hf : Ok f) (hr : Ok r) (ho : Ok o) :
    spec_l26Copy.f k a b c g f r o d = some (a, b, c, d, g, f, r, o) := by
  have := hg.out; have := hf.out; have := hr.out; have := ho.out
  unfold spec_l26Copy.f
  rw [decide_eq_true (by unfold cap48; simp; omega), decide_eq_true (by unfold cap48; simp; omega), decide_eq_true (by unfold cap48; simp; omega), decide_eq_true (by unfold cap48; simp; omega)]
  rfl
theorem spec_l1In_e (k : Nat) (n a b : Int) : spec_l1In.f k n a b = some (inR n a b) := by
  unfold spec_l1In.f inR
  by_cases h : a ≤ n <;> simp [h]
theorem spec_IsValidKey_e (k : Nat) (n : Int) : spec_IsValidKey.f k n = some (inR n 1 2147483646) := by
  unfold spec_IsValidKey.f
  rw [spec_l1In_e, Option.bind_some]
def isPattern (a b : Int) : Bool := inR a 0 9 && inR b (-1) 9
theorem spec_IsPattern_e (k : Nat) (a b : Int) : spec_IsPattern.f k a b = some (isPattern a b) := by
  unfold spec_IsPattern.f isPattern
  simp only [spec_l1In_e, Option.bind_some]
  cases inR a 0 9 <;> simp
def isGrant (e a b kd f u : Int) : Bool := inR e 1 5 && (isPattern a b && (inR kd 1 4 && (decide (0 ≤ f) && (decide (f ≤ u) && decide (u ≤ 10000)))))
theorem spec_IsGrant_e (k : Nat) (e a b kd f u : Int) (cl : Bool) : spec_IsGrant.f k e a b kd f u cl = some (isGrant e a b kd f u) := by
  unfold spec_IsGrant.f isGrant
  simp only [spec_l1In_e, spec_IsPattern_e, Option.bind_some, ge_iff_le]
  cases inR e 1 5 <;> cases isPattern a b <;> cases inR kd 1 4 <;> by_cases h1 : 0 ≤ f <;> by_cases h2 : f ≤ u <;> simp [h1, h2]
def isFlowV (a b c : Int) : Bool := inR a 1 5 && (inR b 1 9 && inR c 1 9)
theorem spec_IsFlow_e (k : Nat) (a b c : Int) : spec_IsFlow.f k a b c = some (isFlowV a b c) := by
  unfold spec_IsFlow.f isFlowV
  simp only [spec_l1In_e, Option.bind_some]
  cases inR a 1 5 <;> cases inR b 1 9 <;> simp
def isSiteV (a b : Int) : Bool := inR a 1 9 && inR b 0 9
theorem spec_IsSite_e (k : Nat) (a b : Int) : spec_IsSite.f k a b = some (isSiteV a b) := by
  unfold spec_IsSite.f isSiteV
  simp only [spec_l1In_e, Option.bind_some]
  cases inR a 1 9 <;> simp
def isRuleV (e o p q kd a s1 s2 : Int) : Bool := inR e 1 5 && (inR o 1 9 && (isPattern p q && (inR kd 0 4 && (inR a 1 3 && (if a = 3 then isSiteV s1 s2 else (s1 == 0 && s2 == 0))))))
theorem spec_IsRule_e (k : Nat) (e o p q kd a s1 s2 : Int) : spec_IsRule.f k e o p q kd a s1 s2 = some (isRuleV e o p q kd a s1 s2) := by
  unfold spec_IsRule.f isRuleV
  simp only [spec_l1In_e, spec_IsPattern_e, spec_IsSite_e, Option.bind_some]
  cases inR e 1 5 <;> cases inR o 1 9 <;> cases isPattern p q <;> cases inR kd 0 4 <;> cases inR a 1 3 <;> (by_cases h : a = 3 <;> cases isSiteV s1 s2 <;> first | (simp [h]; done) | simp [h, beqF h, bneT h])
def isOpV (kd a b c : Int) : Bool := inR a 0 5 && (if kd = 1 ∨ kd = 5 then inR b 1 9 && c == 0 else if kd = 2 then inR b 0 999 && c == 0 else if kd = 3 ∨ kd = 4 then inR b 0 5 && inR c 0 5 else false)
theorem spec_l21Ok_e (k : Nat) (kd a b c : Int) : spec_l21Ok.f k kd a b c = some (isOpV kd a b c) := by
  unfold spec_l21Ok.f isOpV
  simp only [spec_l1In_e, Option.bind_some]
  cases inR a 0 5 <;>
  · by_cases h1 : kd = 1
    · subst h1; cases inR b 1 9 <;> simp
    · by_cases h5 : kd = 5
      · subst h5; cases inR b 1 9 <;> simp
      · by_cases h2 : kd = 2
        · subst h2; cases inR b 0 999 <;> simp
        · by_cases h3 : kd = 3
          · subst h3; cases inR b 0 5 <;> simp
          · by_cases h4 : kd = 4
            · subst h4; cases inR b 0 5 <;> simp
            · simp [h1, h2, h3, h4, h5, beqF h1, beqF h2, beqF h3, beqF h4, beqF h5]
def opOk (x : T_impl_Op) : Bool := isOpV x.f0 x.f1 x.f2 x.f3
def areOps (l : List T_impl_Op) : Bool := l.all opOk && decide (l.length ≤ 16)
theorem spec_AreOps_e {k : Nat} (hk : Big k) {l : List T_impl_Op} (hl : Ok l) : spec_AreOps.f k l = some (areOps l) := by
  unfold spec_AreOps.f areOps
  rw [loop_all (spec_AreOps.l2 k l (fun y => some y) (fun _ => some (decide ((l.length : Int) ≤ 16)))) opOk (some (decide ((l.length : Int) ≤ 16))) (some false) l (fun n i x hx => by
    obtain ⟨h1, h2, h3, h4⟩ := at_ hx (by have := hl.out; omega)
    simp only [spec_AreOps.l2, spec_AreOps.L2, rd_impl_Op, h1, h2, h3, h4, spec_l21Ok_e, Option.bind_some, cond_true]
    cases hp : opOk x <;> simp only [opOk] at hp <;> rw [hp] <;> rfl) (fun n => by simp only [spec_AreOps.l2, spec_AreOps.L2, end_, cond_false]) k (hk.lt hl)]
  have : decide ((l.length : Int) ≤ 16) = decide (l.length ≤ 16) := by rw [decide_eq_decide]; omega
  rw [this]
  cases l.all opOk <;> rfl
def gAt (a : Int) (x : T_impl_Grant) : Bool := isGrant x.f0 x.f1.f0 x.f1.f1 x.f2 x.f3 x.f4 && x.f0 == a
def fAt (a : Int) (x : T_impl_Flow) : Bool := isFlowV x.f0 x.f1 x.f2 && x.f0 == a
def rAt (a : Int) (x : T_impl_Rule) : Bool := isRuleV x.f0 x.f1 x.f2.f0 x.f2.f1 x.f3 x.f4 x.f5.f0 x.f5.f1 && x.f0 == a
def isPk (a b c : Int) (g : List T_impl_Grant) (f : List T_impl_Flow) (r : List T_impl_Rule) (o : List T_impl_Op) : Bool :=
  inR a 1 5 && (inR b 1 9 && (inR c 1 999 && (decide (g.length ≤ 6) && (decide (f.length ≤ 6) && (decide (r.length ≤ 6) && (areOps o && (g.all (gAt a) && (f.all (fAt a) && r.all (rAt a)))))))))
theorem spec_IsPackage_e {k : Nat} (hk : Big k) (a b c : Int) {g : List T_impl_Grant} {f : List T_impl_Flow} {r : List T_impl_Rule} {o : List T_impl_Op} (d : Int) (hg : Ok g) (hf : Ok f) (hr : Ok r) (ho : Ok o) :
    spec_IsPackage.f k a b c g f r o d = some (isPk a b c g f r o) := by
  unfold spec_IsPackage.f isPk
  have t1 : ∀ X1, spec_IsPackage.l4 k g f r o a b c d (fun y => some y) X1 k 0 = bif g.all (gAt a) then X1 () else some false := fun X1 =>
    loop_all _ (gAt a) _ _ g (fun n i x hx => by
      obtain ⟨h1, h2, h3, h4⟩ := at_ hx (by have := hg.out; omega)
      simp only [spec_IsPackage.l4, spec_IsPackage.L4, rd_impl_Grant, h1, h2, h3, h4, spec_IsGrant_e, Option.bind_some, cond_true, gAt, bne]
      cases isGrant x.f0 x.f1.f0 x.f1.f1 x.f2 x.f3 x.f4 <;> cases (x.f0 == a) <;> rfl) (fun n => by simp only [spec_IsPackage.l4, spec_IsPackage.L4, end_, cond_false]) k (hk.lt hg)
  have t2 : ∀ X1, spec_IsPackage.l9 k g f r o a b c d (fun y => some y) X1 k 0 = bif f.all (fAt a) then X1 () else some false := fun X1 =>
    loop_all _ (fAt a) _ _ f (fun n i x hx => by
      obtain ⟨h1, h2, h3, h4⟩ := at_ hx (by have := hf.out; omega)
      simp only [spec_IsPackage.l9, spec_IsPackage.L9, rd_impl_Flow, h1, h2, h3, h4, spec_IsFlow_e, Option.bind_some, cond_true, fAt, bne]
      cases isFlowV x.f0 x.f1 x.f2 <;> cases (x.f0 == a) <;> rfl) (fun n => by simp only [spec_IsPackage.l9, spec_IsPackage.L9, end_, cond_false]) k (hk.lt hf)
  have t3 : ∀ X1, spec_IsPackage.l14 k g f r o a b c d (fun y => some y) X1 k 0 = bif r.all (rAt a) then X1 () else some false := fun X1 =>
    loop_all _ (rAt a) _ _ r (fun n i x hx => by
      obtain ⟨h1, h2, h3, h4⟩ := at_ hx (by have := hr.out; omega)
      simp only [spec_IsPackage.l14, spec_IsPackage.L14, rd_impl_Rule, h1, h2, h3, h4, spec_IsRule_e, Option.bind_some, cond_true, rAt, bne]
      cases isRuleV x.f0 x.f1 x.f2.f0 x.f2.f1 x.f3 x.f4 x.f5.f0 x.f5.f1 <;> cases (x.f0 == a) <;> rfl) (fun n => by simp only [spec_IsPackage.l14, spec_IsPackage.L14, end_, cond_false]) k (hk.lt hr)
  simp only [spec_l1In_e, Option.bind_some, spec_AreOps_e hk ho, t1, t2, t3]
  have e : ∀ n : Nat, decide ((n : Int) > 6) = !decide (n ≤ 6) := fun n => by by_cases h : n ≤ 6 <;> simp [h] <;> omega
  rw [e, e, e]
  cases inR a 1 5 <;> cases inR b 1 9 <;> cases inR c 1 999 <;> cases decide (g.length ≤ 6) <;> cases decide (f.length ≤ 6) <;> cases decide (r.length ≤ 6) <;> try rfl
  cases areOps o <;> cases g.all (gAt a) <;> cases f.all (fAt a) <;> cases r.all (rAt a) <;> rfl
def gInts (x : T_impl_Grant) : List Int := [x.f1.f0, x.f1.f1, x.f2, x.f3, x.f4, bif x.f5 then 1 else 0]
def fInts (x : T_impl_Flow) : List Int := [x.f1, x.f2]
def rInts (x : T_impl_Rule) : List Int := [x.f1, x.f2.f0, x.f2.f1, x.f3, x.f4, x.f5.f0, x.f5.f1]
def oInts (x : T_impl_Op) : List Int := [x.f0, x.f1, x.f2, x.f3]
def pkInts (a b c : Int) (g : List T_impl_Grant) (f : List T_impl_Flow) (r : List T_impl_Rule) (o : List T_impl_Op) : List Int :=
  ((((([a, b, c, (g.length : Int)] ++ g.flatMap gInts) ++ [(f.length : Int)]) ++ f.flatMap fInts) ++ [(r.length : Int)]) ++ r.flatMap rInts) ++ [(o.length : Int)] ++ o.flatMap oInts
theorem isPk_len {a b c : Int} {g : List T_impl_Grant} {f : List T_impl_Flow} {r : List T_impl_Rule} {o : List T_impl_Op} (h : isPk a b c g f r o = true) : g.length ≤ 6 ∧ f.length ≤ 6 ∧ r.length ≤ 6 ∧ o.length ≤ 16 := by
  unfold isPk areOps at h
  simp only [Bool.and_eq_true, decide_eq_true_eq] at h
  exact ⟨h.2.2.2.1, h.2.2.2.2.1, h.2.2.2.2.2.1, h.2.2.2.2.2.2.1.2⟩
theorem fm_len {α β : Type} (f : α → List β) (n : Nat) (h : ∀ x, (f x).length = n) (l : List α) : (l.flatMap f).length = l.length * n := by
  induction l with
  | nil => simp
  | cons x xs ih => simp [List.flatMap_cons, h, ih, Nat.add_mul]; omega
/-- A loop that appends to a list of numbers, within a bound. -/
theorem loop_app {α R : Type} (l : Nat → Int → List Int → Option R) (f : α → List Int) (m : Nat) (hm : ∀ x, (f x).length = m) (B : Nat) (X : List Int → Option R) (xs : List α)
    (hs : ∀ n (i : Nat) x s, xs[i]? = some x → s.length + m ≤ B → l (n + 1) (i : Int) s = l n ((i + 1 : Nat) : Int) (s ++ f x)) (he : ∀ n s, l (n + 1) (xs.length : Int) s = X s) (n : Nat) (s : List Int) (hn : xs.length < n) (hB : s.length + xs.length * m ≤ B) :
    l n 0 s = X (s ++ xs.flatMap f) := by
  have := loop_fold l (fun s x => s ++ f x) (fun i s => s.length + (xs.length - i) * m ≤ B) X xs (fun n i x s hx hi => hs n i x s hx (by
      have := lt_of hx
      have e : (xs.length - i) * m = (xs.length - i - 1) * m + m := by rw [← Nat.succ_mul]; congr 1; omega
      have hi : s.length + (xs.length - i) * m ≤ B := hi
      omega)) (fun i x s hx hi => by
      have := lt_of hx
      have e : (xs.length - i) * m = (xs.length - (i + 1)) * m + m := by rw [← Nat.succ_mul]; congr 1; omega
      have hi : s.length + (xs.length - i) * m ≤ B := hi
      show (s ++ f x).length + (xs.length - (i + 1)) * m ≤ B
      rw [List.length_append, hm]; omega) (fun n s _ => he n s) n s hn (by simpa using hB)
  rw [this, foldl_append]
theorem cap8 {a b : Nat} (h : a + b ≤ 1000000) : decide ((a + b) * 8 ≤ cap48) = true := decide_eq_true (by unfold cap48; omega)
theorem spec_PackageInts_e {k : Nat} (hk : Big k) (a b c : Int) {g : List T_impl_Grant} {f : List T_impl_Flow} {r : List T_impl_Rule} {o : List T_impl_Op} (d : Int) (hg : Ok g) (hf : Ok f) (hr : Ok r) (ho : Ok o) :
    spec_PackageInts.f k a b c g f r o d = some (bif isPk a b c g f r o then pkInts a b c g f r o else []) := by
  unfold spec_PackageInts.f
  simp only [spec_IsPackage_e hk a b c d hg hf hr ho, Option.bind_some]
  cases hp : isPk a b c g f r o with
  | false => rfl
  | true =>
    obtain ⟨l1, l2, l3, l4⟩ := isPk_len hp
    have t1 : ∀ (X : List Int → Option (List Int)) s, s.length ≤ 1000 → spec_PackageInts.l5 k g f r o a b c d X k 0 s = X (s ++ g.flatMap gInts) := fun X s hs =>
      loop_app _ gInts 6 (fun _ => rfl) 1040 X g (fun n i x s hx hb => by
        obtain ⟨h1, h2, h3, h4⟩ := at_ hx (by omega)
        simp only [spec_PackageInts.l5, spec_PackageInts.L5, rd_impl_Grant, h1, h2, h3, h4, cond_true]
        cases hc : x.f5 <;> simp only [cond_true, cond_false, gInts, hc] <;> rw [cap8 (by simp only [List.length_cons, List.length_nil]; omega)] <;> rfl) (fun n s => by simp only [spec_PackageInts.l5, spec_PackageInts.L5, end_, cond_false]) k s (hk.lt hg) (by omega)
    have t2 : ∀ (X : List Int → Option (List Int)) s, s.length ≤ 1100 → spec_PackageInts.l14 k g f r o a b c d X k 0 s = X (s ++ f.flatMap fInts) := fun X s hs =>
      loop_app _ fInts 2 (fun _ => rfl) 1140 X f (fun n i x s hx hb => by
        obtain ⟨h1, h2, h3, h4⟩ := at_ hx (by omega)
        simp only [spec_PackageInts.l14, spec_PackageInts.L14, rd_impl_Flow, h1, h2, h3, h4, cond_true, fInts]
        rw [cap8 (by simp only [List.length_cons, List.length_nil]; omega)]; rfl) (fun n s => by simp only [spec_PackageInts.l14, spec_PackageInts.L14, end_, cond_false]) k s (hk.lt hf) (by omega)
    have t3 : ∀ (X : List Int → Option (List Int)) s, s.length ≤ 1200 → spec_PackageInts.l19 k g f r o a b c d X k 0 s = X (s ++ r.flatMap rInts) := fun X s hs =>
      loop_app _ rInts 7 (fun _ => rfl) 1260 X r (fun n i x s hx hb => by
        obtain ⟨h1, h2, h3, h4⟩ := at_ hx (by omega)
        simp only [spec_PackageInts.l19, spec_PackageInts.L19, rd_impl_Rule, h1, h2, h3, h4, cond_true, rInts]
        rw [cap8 (by simp only [List.length_cons, List.length_nil]; omega)]; rfl) (fun n s => by simp only [spec_PackageInts.l19, spec_PackageInts.L19, end_, cond_false]) k s (hk.lt hr) (by omega)
    have t4 : ∀ (X : List Int → Option (List Int)) s, s.length ≤ 1300 → spec_PackageInts.l25 k g f r o a b c d X k 0 s = X (s ++ o.flatMap oInts) := fun X s hs =>
      loop_app _ oInts 4 (fun _ => rfl) 1400 X o (fun n i x s hx hb => by
        obtain ⟨h1, h2, h3, h4⟩ := at_ hx (by omega)
        simp only [spec_PackageInts.l25, spec_PackageInts.L25, rd_impl_Op, h1, h2, h3, h4, cond_true, oInts]
        rw [cap8 (by simp only [List.length_cons, List.length_nil]; omega)]; rfl) (fun n s => by simp only [spec_PackageInts.l25, spec_PackageInts.L25, end_, cond_false]) k s (hk.lt ho) (by omega)
    have n1 := fm_len gInts 6 (fun _ => rfl) g
    have n2 := fm_len fInts 2 (fun _ => rfl) f
    have n3 := fm_len rInts 7 (fun _ => rfl) r
    rw [Bool.not_true, cond_false, cond_true, t1 _ _ (by simp)]
    rw [cap8 (by simp only [List.length_append, List.length_cons, List.length_nil]; omega), cond_true, t2 _ _ (by simp only [List.length_append, List.length_cons, List.length_nil]; omega)]
    rw [cap8 (by simp only [List.length_append, List.length_cons, List.length_nil]; omega), cond_true, t3 _ _ (by simp only [List.length_append, List.length_cons, List.length_nil]; omega)]
    rw [cap8 (by simp only [List.length_append, List.length_cons, List.length_nil]; omega), cond_true, t4 _ _ (by simp only [List.length_append, List.length_cons, List.length_nil]; omega)]
    rfl
def M31 : Int := 2147483647
def fold1 (h v : Int) : Int := (w64 ((w64 ((w64 (h * (1000003 : Int))) + v % 2147483647)) + (13 : Int))).tmod (2147483647 : Int)
theorem tmod31 (a : Int) : -2147483647 < a.tmod 2147483647 ∧ a.tmod 2147483647 < 2147483647 := by
  constructor
  · have := Int.lt_tmod_of_pos a (show (0 : Int) < 2147483647 by decide); omega
  · exact Int.tmod_lt_of_pos a (by decide)
theorem tmod31_neg (a : Int) (h : a.tmod 2147483647 < 0) : a.tmod 2147483647 + 2147483647 = a % 2147483647 := by
  rw [Int.tmod_eq_emod] at h ⊢
  have h1 := Int.emod_nonneg a (show (2147483647 : Int) ≠ 0 by decide)
  split at h
  · omega
  · rename_i hn; rw [if_neg hn]; omega
theorem tmod31_nn (a : Int) (h : ¬ a.tmod 2147483647 < 0) : a.tmod 2147483647 = a % 2147483647 := by
  rw [Int.tmod_eq_emod] at h ⊢
  have h1 := Int.emod_lt_of_pos a (show (0 : Int) < 2147483647 by decide)
  split at h
  · rename_i hn; rw [if_pos hn]; omega
  · rename_i hn
    exfalso
    omega
theorem spec_Mod_e (k : Nat) (a : Int) : spec_Mod.f k a 2147483647 = some (a % 2147483647) := by
  unfold spec_Mod.f
  rw [spec_l1In_e, Option.bind_some, show inR 2147483647 1 1000000000000 = true from rfl]
  simp only [Bool.not_true, cond_false, show decide ((2147483647 : Int) = 0) = false from rfl, Option.some.injEq]
  have h0 := tmod31 a
  rw [w64_id (by omega)]
  by_cases h : a.tmod 2147483647 < 0
  · rw [tmod31_neg a h, Int.tmod_eq_of_lt (Int.emod_nonneg _ (by decide)) (Int.emod_lt_of_pos _ (by decide))]
  · have e := tmod31_nn a h
    rw [Int.tmod_eq_emod_of_nonneg (by omega), e]
    omega
theorem spec_Hash_e {k : Nat} (hk : Big k) {l : List Int} (hl : l.length ≤ 1100000) : spec_Hash.f k l = some (l.foldl fold1 11) := by
  unfold spec_Hash.f
  exact loop_fold (fun n i s => spec_Hash.l3 k l (fun y => some y) n s i) fold1 (fun _ _ => True) (fun y => some y) l (fun n i x s hx _ => by
    obtain ⟨h1, h2, h3, h4⟩ := at_ hx (by omega)
    simp only [spec_Hash.l3, spec_Hash.L3, rd_i64, h1, h2, h3, h4, cond_true, spec_Mod_e, Option.bind_some, fold1]) (fun _ _ _ _ _ => trivial)
    (fun n s _ => by simp only [spec_Hash.l3, spec_Hash.L3, end_, cond_false]) k 11 (by have := hk.out; omega) trivial
def keyed (key : Int) (l : List Int) : Int := (([key] ++ l) ++ [key]).foldl fold1 11
theorem spec_KeyedHash_e {k : Nat} (hk : Big k) (key : Int) {l : List Int} (hl : l.length ≤ 1000000) : spec_KeyedHash.f k key l = some (keyed key l) := by
  unfold spec_KeyedHash.f keyed
  have c1 : decide ((([key] : List Int).length + l.length) * 8 ≤ cap48) = true := decide_eq_true (by unfold cap48; simp; omega)
  have c2 : decide (((([key] : List Int) ++ l).length + ([key] : List Int).length) * 8 ≤ cap48) = true := decide_eq_true (by unfold cap48; simp; omega)
  rw [c1, c2, cond_true, cond_true, spec_Hash_e hk (by simp; omega), Option.bind_some]
def sealV (key a b c : Int) (g : List T_impl_Grant) (f : List T_impl_Flow) (r : List T_impl_Rule) (o : List T_impl_Op) : Int :=
  bif inR key 1 2147483646 && isPk a b c g f r o then keyed key (pkInts a b c g f r o) else 0
theorem pkInts_len {a b c : Int} {g : List T_impl_Grant} {f : List T_impl_Flow} {r : List T_impl_Rule} {o : List T_impl_Op} (h : isPk a b c g f r o = true) : (pkInts a b c g f r o).length ≤ 1000000 := by
  obtain ⟨l1, l2, l3, l4⟩ := isPk_len h
  have n1 := fm_len gInts 6 (fun _ => rfl) g
  have n2 := fm_len fInts 2 (fun _ => rfl) f
  have n3 := fm_len rInts 7 (fun _ => rfl) r
  have n4 := fm_len oInts 4 (fun _ => rfl) o
  unfold pkInts
  simp only [List.length_append, List.length_cons, List.length_nil]
  omega
theorem spec_SealPackage_e {k : Nat} (hk : Big k) (key a b c : Int) {g : List T_impl_Grant} {f : List T_impl_Flow} {r : List T_impl_Rule} {o : List T_impl_Op} (d : Int) (hg : Ok g) (hf : Ok f) (hr : Ok r) (ho : Ok o) :
    spec_SealPackage.f k key a b c g f r o d = some (a, b, c, sealV key a b c g f r o, g, f, r, o) := by
  unfold spec_SealPackage.f sealV
  simp only [spec_l26Copy_e k a b c d hg hf hr ho, spec_IsValidKey_e, spec_IsPackage_e hk a b c d hg hf hr ho, spec_PackageInts_e hk a b c d hg hf hr ho, Option.bind_some]
  cases inR key 1 2147483646 with
  | false => rfl
  | true =>
    cases hp : isPk a b c g f r o with
    | false => rfl
    | true =>
      simp only [cond_true, Bool.true_and, spec_KeyedHash_e hk key (pkInts_len hp), Option.bind_some]
theorem spec_l26Draw_t {k : Nat} (hk : Big k) {l : List Int} {p : Int} (h : Int) (hp : Pos l p) (e : Int) : Ret' (spec_l26Draw.f k l p h e) fun t => Pos l t.2.2.2.2.1 ∧ t.2.2.2.2.2.2.1.length ≤ 20 ∧ t.2.2.2.2.2.2.2.1.length ≤ 20 ∧ t.2.2.2.2.2.2.2.2.1.length ≤ 20 ∧ t.2.2.2.2.2.2.2.2.2.length ≤ 20 := by
  have hk' := hk.out
  unfold spec_l26Draw.f
  refine (spec_l1Below_t k h hp 3 (by decide)).bind fun t1 ⟨q, _⟩ => (spec_l1Below_t k _ q 3 (by decide)).bind fun t2 ⟨q, _⟩ => (spec_l21Ops_t hk _ q).bind fun t3 ⟨q, ho⟩ => (spec_l1Below_t k _ q 4 (by decide)).bind fun t4 ⟨q, b0, b1⟩ => ?_
  obtain ⟨n, hn⟩ := Int.eq_ofNat_of_zero_le b0
  rw [hn]
  refine loop_down (spec_l26Draw.l3 k _ l _ _ _ _ _ _ _ _ _ _ _ _ _ _ _ _) 20 (Pos l) _ (fun q n p h s hp hb ih => ?_) (fun q p h s hp hg => ?_) n k _ _ [] (by omega) q (by simp; omega)
  · simp only [spec_l26Draw.l3, spec_l26Draw.L3, down_gt, cond_true, down1 n (by omega)]
    refine (spec_l10Draw_t k h hp).bind fun t q => ?_
    rw [decide_eq_true (by unfold cap48; simp; omega), cond_true]
    exact ih _ _ _ q
  show Ret' ((spec_l1Below.f k l p h 4).bind _) _
  refine (spec_l1Below_t k h hp 4 (by decide)).bind fun t5 ⟨q, b0, b1⟩ => ?_
  obtain ⟨n, hn⟩ := Int.eq_ofNat_of_zero_le b0
  rw [hn]
  refine loop_down (spec_l26Draw.l9 k _ l _ _ _ _ _ _ _ _ _ _ _ _ _ _ _ _) 20 (Pos l) _ (fun q n p h s hp hb ih => ?_) (fun q p h s hp hf => ?_) n k _ _ [] (by omega) q (by simp; omega)
  · simp only [spec_l26Draw.l9, spec_l26Draw.L9, down_gt, cond_true, down1 n (by omega)]
    refine (spec_l20Draw_t k h hp).bind fun t q => ?_
    rw [decide_eq_true (by unfold cap48; simp; omega), cond_true]
    exact ih _ _ _ q
  show Ret' ((spec_l1Below.f k l p h 3).bind _) _
  refine (spec_l1Below_t k h hp 3 (by decide)).bind fun t6 ⟨q, b0, b1⟩ => ?_
  obtain ⟨n, hn⟩ := Int.eq_ofNat_of_zero_le b0
  rw [hn]
  refine loop_down (spec_l26Draw.l15 k _ l _ _ _ _ _ _ _ _ _ _ _ _ _ _ _ _) 20 (Pos l) _ (fun q n p h s hp hb ih => ?_) (fun q p h s hp hr => ?_) n k _ _ [] (by omega) q (by simp; omega)
  · simp only [spec_l26Draw.l15, spec_l26Draw.L15, down_gt, cond_true, down1 n (by omega)]
    refine (spec_l13Draw_t k h hp).bind fun t q => ?_
    rw [decide_eq_true (by unfold cap48; simp; omega), cond_true]
    exact ih _ _ _ q
  show Ret' ((spec_SealPackage.f k _ _ _ _ _ _ _ _ _).bind _) _
  rw [spec_SealPackage_e hk _ _ _ _ _ (Ok.small 20 hg) (Ok.small 20 hf) (Ok.small 20 hr) (Ok.small 20 ho), Option.bind_some]
  exact .some ⟨hp, hg, hf, hr, ho⟩
theorem spec_l1Int_m (k : Nat) {l : List Int} {p : Int} (h : Int) (hp : Pos l p) (xs : List Int) (hx : 0 < (xs.length : Int)) : Ret' (spec_l1Int.f k l p h xs) fun t => Pos l t.2.1 ∧ t.1 ∈ xs := by
  unfold spec_l1Int.f
  refine (spec_l1Below_t k h hp _ hx).bind fun t ⟨q, b0, b1⟩ => ?_
  rw [decide_eq_true b0, cond_true, decide_eq_true b1, cond_true]
  refine .some ⟨q, ?_⟩
  obtain ⟨n, hn⟩ := Int.eq_ofNat_of_zero_le b0
  have hlt : n < xs.length := by omega
  simp only [rd_i64, hn]
  show xs.getD n z_i64 ∈ xs
  rw [List.getD_eq_getElem?_getD, List.getElem?_eq_getElem hlt]
  exact List.getElem_mem hlt
theorem spec_l9Raw_t (k : Nat) {l : List Int} {p : Int} (h : Int) (hp : Pos l p) : Ret' (spec_l9Raw.f k l p h) fun t => Pos l t.2.1 := by
  unfold spec_l9Raw.f
  exact (spec_l1Int_m k h hp _ (by decide)).bind fun t ⟨q, _⟩ => .some q
def deedSealV (key w a b c : Int) : Int := bif inR key 1 2147483646 then keyed key [w, a, b, c] else 0
def isDeedV (a b c s t k1 k2 : Int) : Bool := inR a 1 5 && (inR b 1 9 && (inR c 1 9 && ((b != c) && (inR k1 1 2147483646 && (inR k2 1 2147483646 && (deedSealV k1 1 a b c == s && deedSealV k2 2 a b c == t))))))
theorem spec_SealDeed_e {k : Nat} (hk : Big k) (a b c s t k1 k2 : Int) : spec_SealDeed.f k a b c s t k1 k2 = some (a, b, c, deedSealV k1 1 a b c, deedSealV k2 2 a b c) := by
  unfold spec_SealDeed.f deedSealV
  simp only [spec_IsValidKey_e, spec_KeyedHash_e hk k1 (l := [1, a, b, c]) (by simp), spec_KeyedHash_e hk k2 (l := [2, a, b, c]) (by simp), Option.bind_some]
  generalize inR k1 1 2147483646 = p1, inR k2 1 2147483646 = p2, keyed k1 [1, a, b, c] = q1, keyed k2 [2, a, b, c] = q2
  cases p1 <;> cases p2 <;> rfl
theorem spec_l29Draw_t {k : Nat} (hk : Big k) {l : List Int} {p : Int} (h : Int) (hp : Pos l p) : Ret' (spec_l29Draw.f k l p h) fun t => Pos l t.2.2.2.2.2.1 := by
  unfold spec_l29Draw.f
  refine (spec_l1Below_t k h hp 3 (by decide)).bind fun t1 ⟨q, _⟩ => (spec_l1Below_t k _ q 3 (by decide)).bind fun t2 ⟨q, _⟩ => (spec_l1Below_t k _ q 4 (by decide)).bind fun t3 ⟨q, _⟩ => ?_
  rw [spec_SealDeed_e hk, Option.bind_some]
  exact (spec_l1Below_t k _ q 8 (by decide)).bind fun t5 ⟨q, _⟩ => .bif (fun _ => (spec_l1Int_m k _ q _ (by decide)).bind fun t q => .some q.1) fun _ => .bif (fun _ => .some q) fun _ => .bif (fun _ => .some q) fun _ => .bif (fun _ => (spec_l9Raw_t k _ q).bind fun t q => .some q) fun _ => .some q
def Small (g : List T_impl_Grant) (f : List T_impl_Flow) (r : List T_impl_Rule) (o : List T_impl_Op) : Prop := g.length ≤ 21 ∧ f.length ≤ 21 ∧ r.length ≤ 21 ∧ o.length ≤ 21
theorem spec_DrawTransfer_t {k : Nat} (hk : Big k) {l : List Int} (hl : Ok l) : Ret' (spec_DrawTransfer.f k l) fun t => t.1 ∈ ([5, 5, 77] : List Int) ∧ t.2.2.2.2.2.2.2.2.2.2.1 = 11 ∧ t.2.2.2.2.2.2.2.2.2.2.2.1 ∈ ([12, 12, 12, 11] : List Int) ∧ Small t.2.2.2.2.2.2.2.2.2.2.2.2.1 t.2.2.2.2.2.2.2.2.2.2.2.2.2.1 t.2.2.2.2.2.2.2.2.2.2.2.2.2.2.1 t.2.2.2.2.2.2.2.2.2.2.2.2.2.2.2 := by
  unfold spec_DrawTransfer.f
  refine (spec_l1New_t hk hl).bind fun t1 q => (spec_l1Below_t k _ q 3 (by decide)).bind fun t2 ⟨q, _⟩ => (spec_l26Draw_t hk _ q _).bind fun t3 ⟨q, hg, hf, hr, ho⟩ => (spec_l1Below_t k _ q 4 (by decide)).bind fun t4 ⟨q, _⟩ => ?_
  rw [spec_SealDeed_e hk, Option.bind_some]
  have hS : Small t3.2.2.2.2.2.2.1 t3.2.2.2.2.2.2.2.1 t3.2.2.2.2.2.2.2.2.1 t3.2.2.2.2.2.2.2.2.2 := ⟨by omega, by omega, by omega, by omega⟩
  exact (spec_l1Once_t k _ q 4 (by decide)).bind fun t6 q => .bif (fun _ => (spec_l29Draw_t hk _ q).bind fun t7 q => (spec_l1Int_m k _ q _ (by decide)).bind fun t8 ⟨q, m1⟩ => (spec_l1Int_m k _ q _ (by decide)).bind fun t9 ⟨q, m2⟩ => .some ⟨m1, rfl, m2, hS⟩) fun _ =>
    (spec_l1Int_m k _ q _ (by decide)).bind fun t10 ⟨q, m1⟩ => (spec_l1Int_m k _ q _ (by decide)).bind fun t11 ⟨q, m2⟩ => .some ⟨m1, rfl, m2, hS⟩
theorem spec_DrawChain_t {k : Nat} (hk : Big k) {l : List Int} (hl : Ok l) : Ret' (spec_DrawChain.f k l) fun t => t.2.2.length ≤ 20 := by
  have hk' := hk.out
  unfold spec_DrawChain.f
  refine (spec_l1New_t hk hl).bind fun t1 q => (spec_l1Below_t k _ q 6 (by decide)).bind fun t2 ⟨q, b0, b1⟩ => ?_
  obtain ⟨n, hn⟩ := Int.eq_ofNat_of_zero_le b0
  rw [hn]
  refine loop_down (spec_DrawChain.l4 k l _) 20 (Pos l) _ (fun q n p h s hp hb ih => ?_) (fun q p h s hp hg => ?_) n k _ _ [] (by omega) q (by simp; omega)
  · simp only [spec_DrawChain.l4, spec_DrawChain.L4, down_gt, cond_true, down1 n (by omega)]
    refine (spec_l29Draw_t hk h hp).bind fun t q => ?_
    rw [decide_eq_true (by unfold cap48; simp; omega), cond_true]
    exact ih _ _ _ q
  · show Ret' ((spec_l1Below.f k l p h 3).bind _) _
    exact (spec_l1Below_t k h hp 3 (by decide)).bind fun t8 ⟨q, _⟩ => (spec_l1Below_t k _ q 3 (by decide)).bind fun t9 ⟨q, _⟩ => .some hg
theorem impl_clonePackage_e (k : Nat) (a b c : Int) {g : List T_impl_Grant} {f : List T_impl_Flow} {r : List T_impl_Rule} {o : List T_impl_Op} (d : Int) (hg : Ok g) (hf : Ok f) (hr : Ok r) (ho : Ok o) :
    impl_clonePackage.f k a b c g f r o d = some (a, b, c, d, g, f, r, o) := by
  have := hg.out; have := hf.out; have := hr.out; have := ho.out
  have e1 : slices_Clone_Grant.f k g = some g := by
    show (bif decide ((0 + g.length) * 56 ≤ cap48) then some g else none) = some g
    rw [decide_eq_true (by unfold cap48; omega)]; rfl
  have e2 : slices_Clone_Flow.f k f = some f := by
    show (bif decide ((0 + f.length) * 24 ≤ cap48) then some f else none) = some f
    rw [decide_eq_true (by unfold cap48; omega)]; rfl
  have e3 : slices_Clone_Rule.f k r = some r := by
    show (bif decide ((0 + r.length) * 64 ≤ cap48) then some r else none) = some r
    rw [decide_eq_true (by unfold cap48; omega)]; rfl
  have e4 : slices_Clone_Op.f k o = some o := by
    show (bif decide ((0 + o.length) * 32 ≤ cap48) then some o else none) = some o
    rw [decide_eq_true (by unfold cap48; omega)]; rfl
  unfold impl_clonePackage.f
  rw [e1, Option.bind_some, e2, Option.bind_some, e3, Option.bind_some, e4, Option.bind_some]
theorem impl_InRange_e (k : Nat) (n a b : Int) : impl_InRange.f k n a b = some (inR n a b) := by
  unfold impl_InRange.f inR
  by_cases h : a ≤ n <;> simp [h]
theorem impl_IsValidKey_e (k : Nat) (n : Int) : impl_IsValidKey.f k n = some (inR n 1 2147483646) := by
  unfold impl_IsValidKey.f
  rw [impl_InRange_e, Option.bind_some]
theorem impl_IsPattern_e (k : Nat) (a b : Int) : impl_IsPattern.f k a b = some (isPattern a b) := by
  unfold impl_IsPattern.f isPattern
  simp only [impl_InRange_e, Option.bind_some]
  cases inR a 0 9 <;> simp
theorem impl_IsGrant_e (k : Nat) (e a b kd f u : Int) (cl : Bool) : impl_IsGrant.f k e a b kd f u cl = some (isGrant e a b kd f u) := by
  unfold impl_IsGrant.f isGrant
  simp only [impl_InRange_e, impl_IsPattern_e, Option.bind_some, ge_iff_le]
  cases inR e 1 5 <;> cases isPattern a b <;> cases inR kd 1 4 <;> by_cases h1 : 0 ≤ f <;> by_cases h2 : f ≤ u <;> simp [h1, h2]
theorem impl_IsFlow_e (k : Nat) (a b c : Int) : impl_IsFlow.f k a b c = some (isFlowV a b c) := by
  unfold impl_IsFlow.f isFlowV
  simp only [impl_InRange_e, Option.bind_some]
  cases inR a 1 5 <;> cases inR b 1 9 <;> simp
theorem impl_IsSite_e (k : Nat) (a b : Int) : impl_IsSite.f k a b = some (isSiteV a b) := by
  unfold impl_IsSite.f isSiteV
  simp only [impl_InRange_e, Option.bind_some]
  cases inR a 1 9 <;> simp
theorem impl_IsRule_e (k : Nat) (e o p q kd a s1 s2 : Int) : impl_IsRule.f k e o p q kd a s1 s2 = some (isRuleV e o p q kd a s1 s2) := by
  unfold impl_IsRule.f isRuleV
  simp only [impl_InRange_e, impl_IsPattern_e, impl_IsSite_e, Option.bind_some]
  cases inR e 1 5 <;> cases inR o 1 9 <;> cases isPattern p q <;> cases inR kd 0 4 <;> try simp
  by_cases h1 : a = 1
  · subst h1; simp [inR]
  · by_cases h2 : a = 2
    · subst h2; simp [inR]
    · by_cases h3 : a = 3
      · subst h3; simp [inR]
      · rw [show inR a 1 3 = false from inR_false.2 (by omega)]
        simp [h1, h2, h3, beqF h1, beqF h2, beqF h3]
theorem impl_isRegister_e (k : Nat) (n : Int) : impl_isRegister.f k n = some (inR n 0 5) := by
  unfold impl_isRegister.f
  rw [impl_InRange_e, Option.bind_some]
theorem impl_isOp_e (k : Nat) (kd a b c : Int) : impl_isOp.f k kd a b c = some (isOpV kd a b c) := by
  unfold impl_isOp.f isOpV
  simp only [impl_isRegister_e, impl_InRange_e, Option.bind_some]
  cases inR a 0 5 <;>
  · by_cases h1 : kd = 1
    · subst h1; cases inR b 1 9 <;> simp
    · by_cases h5 : kd = 5
      · subst h5; cases inR b 1 9 <;> simp
      · by_cases h2 : kd = 2
        · subst h2; cases inR b 0 999 <;> simp
        · by_cases h3 : kd = 3
          · subst h3; cases inR b 0 5 <;> simp
          · by_cases h4 : kd = 4
            · subst h4; cases inR b 0 5 <;> simp
            · simp [h1, h2, h3, h4, h5, beqF h1, beqF h2, beqF h3, beqF h4, beqF h5]
theorem impl_AreOps_e {k : Nat} (hk : Big k) {l : List T_impl_Op} (hl : Ok l) : impl_AreOps.f k l = some (areOps l) := by
  unfold impl_AreOps.f areOps
  rw [loop_all (impl_AreOps.l4 k (l.length : Int) l (fun y => some y) (fun _ => some true)) opOk (some true) (some false) l (fun n i x hx => by
    obtain ⟨h1, h2, h3, h4⟩ := at_ hx (by have := hl.out; omega)
    simp only [impl_AreOps.l4, impl_AreOps.L4, rd_impl_Op, h1, h2, h3, h4, impl_isOp_e, Option.bind_some, cond_true]
    cases hp : opOk x <;> simp only [opOk] at hp <;> rw [hp] <;> rfl) (fun n => by simp only [impl_AreOps.l4, impl_AreOps.L4, end_, cond_false]) k (hk.lt hl)]
  by_cases h : l.length ≤ 16
  · rw [decide_eq_false (show ¬ ((l.length : Int) > 16) by omega), decide_eq_true h]
    cases l.all opOk <;> rfl
  · rw [decide_eq_true (show (l.length : Int) > 16 by omega), decide_eq_false h]
    simp
theorem impl_IsPackage_e {k : Nat} (hk : Big k) (a b c : Int) {g : List T_impl_Grant} {f : List T_impl_Flow} {r : List T_impl_Rule} {o : List T_impl_Op} (d : Int) (hg : Ok g) (hf : Ok f) (hr : Ok r) (ho : Ok o) :
    impl_IsPackage.f k a b c g f r o d = some (isPk a b c g f r o) := by
  unfold impl_IsPackage.f isPk
  have t1 : ∀ X1, impl_IsPackage.l4 k (g.length : Int) g f r o a b c d (fun y => some y) X1 k 0 = bif g.all (gAt a) then X1 () else some false := fun X1 =>
    loop_all _ (gAt a) _ _ g (fun n i x hx => by
      obtain ⟨h1, h2, h3, h4⟩ := at_ hx (by have := hg.out; omega)
      simp only [impl_IsPackage.l4, impl_IsPackage.L4, rd_impl_Grant, h1, h2, h3, h4, impl_IsGrant_e, Option.bind_some, cond_true, gAt, bne]
      cases isGrant x.f0 x.f1.f0 x.f1.f1 x.f2 x.f3 x.f4 <;> cases (x.f0 == a) <;> rfl) (fun n => by simp only [impl_IsPackage.l4, impl_IsPackage.L4, end_, cond_false]) k (hk.lt hg)
  have t2 : ∀ X1, impl_IsPackage.l10 k (f.length : Int) g f r o a b c d (fun y => some y) X1 k 0 = bif f.all (fAt a) then X1 () else some false := fun X1 =>
    loop_all _ (fAt a) _ _ f (fun n i x hx => by
      obtain ⟨h1, h2, h3, h4⟩ := at_ hx (by have := hf.out; omega)
      simp only [impl_IsPackage.l10, impl_IsPackage.L10, rd_impl_Flow, h1, h2, h3, h4, impl_IsFlow_e, Option.bind_some, cond_true, fAt, bne]
      cases isFlowV x.f0 x.f1 x.f2 <;> cases (x.f0 == a) <;> rfl) (fun n => by simp only [impl_IsPackage.l10, impl_IsPackage.L10, end_, cond_false]) k (hk.lt hf)
  have t3 : ∀ X1, impl_IsPackage.l16 k (r.length : Int) g f r o a b c d (fun y => some y) X1 k 0 = bif r.all (rAt a) then X1 () else some false := fun X1 =>
    loop_all _ (rAt a) _ _ r (fun n i x hx => by
      obtain ⟨h1, h2, h3, h4⟩ := at_ hx (by have := hr.out; omega)
      simp only [impl_IsPackage.l16, impl_IsPackage.L16, rd_impl_Rule, h1, h2, h3, h4, impl_IsRule_e, Option.bind_some, cond_true, rAt, bne]
      cases isRuleV x.f0 x.f1 x.f2.f0 x.f2.f1 x.f3 x.f4 x.f5.f0 x.f5.f1 <;> cases (x.f0 == a) <;> rfl) (fun n => by simp only [impl_IsPackage.l16, impl_IsPackage.L16, end_, cond_false]) k (hk.lt hr)
  simp only [impl_InRange_e, Option.bind_some, impl_AreOps_e hk ho, t1, t2, t3]
  have e : ∀ n : Nat, decide ((n : Int) > 6) = !decide (n ≤ 6) := fun n => by by_cases h : n ≤ 6 <;> simp [h] <;> omega
  rw [e, e, e]
  cases inR a 1 5 <;> cases inR b 1 9 <;> cases inR c 1 999 <;> cases decide (g.length ≤ 6) <;> cases decide (f.length ≤ 6) <;> cases decide (r.length ≤ 6) <;> try rfl
  all_goals first | rfl | (cases areOps o <;> cases g.all (gAt a) <;> cases f.all (fAt a) <;> cases r.all (rAt a) <;> rfl) | simp
theorem impl_bit_e (k : Nat) (b : Bool) : impl_bit.f k b = some (bif b then 1 else 0) := by unfold impl_bit.f; cases b <;> rfl
theorem impl_PackageInts_e {k : Nat} (hk : Big k) (a b c : Int) {g : List T_impl_Grant} {f : List T_impl_Flow} {r : List T_impl_Rule} {o : List T_impl_Op} (d : Int) (hg : Ok g) (hf : Ok f) (hr : Ok r) (ho : Ok o) :
    impl_PackageInts.f k a b c g f r o d = some (bif isPk a b c g f r o then pkInts a b c g f r o else []) := by
  unfold impl_PackageInts.f
  simp only [impl_IsPackage_e hk a b c d hg hf hr ho, Option.bind_some]
  cases hp : isPk a b c g f r o with
  | false => rfl
  | true =>
    obtain ⟨l1, l2, l3, l4⟩ := isPk_len hp
    have t1 : ∀ (X : List Int → Option (List Int)) s, s.length ≤ 1000 → impl_PackageInts.l5 k (g.length : Int) g f r o a b c d X k 0 s = X (s ++ g.flatMap gInts) := fun X s hs =>
      loop_app _ gInts 6 (fun _ => rfl) 1040 X g (fun n i x s hx hb => by
        obtain ⟨h1, h2, h3, h4⟩ := at_ hx (by omega)
        simp only [impl_PackageInts.l5, impl_PackageInts.L5, rd_impl_Grant, h1, h2, h3, h4, cond_true, impl_bit_e, Option.bind_some, gInts]
        rw [cap8 (by simp only [List.length_cons, List.length_nil]; omega)]; rfl) (fun n s => by simp only [impl_PackageInts.l5, impl_PackageInts.L5, end_, cond_false]) k s (hk.lt hg) (by omega)
    have t2 : ∀ (X : List Int → Option (List Int)) s, s.length ≤ 1100 → impl_PackageInts.l11 k (f.length : Int) g f r o a b c d X k 0 s = X (s ++ f.flatMap fInts) := fun X s hs =>
      loop_app _ fInts 2 (fun _ => rfl) 1140 X f (fun n i x s hx hb => by
        obtain ⟨h1, h2, h3, h4⟩ := at_ hx (by omega)
        simp only [impl_PackageInts.l11, impl_PackageInts.L11, rd_impl_Flow, h1, h2, h3, h4, cond_true, fInts]
        rw [cap8 (by simp only [List.length_cons, List.length_nil]; omega)]; rfl) (fun n s => by simp only [impl_PackageInts.l11, impl_PackageInts.L11, end_, cond_false]) k s (hk.lt hf) (by omega)
    have t3 : ∀ (X : List Int → Option (List Int)) s, s.length ≤ 1200 → impl_PackageInts.l17 k (r.length : Int) g f r o a b c d X k 0 s = X (s ++ r.flatMap rInts) := fun X s hs =>
      loop_app _ rInts 7 (fun _ => rfl) 1260 X r (fun n i x s hx hb => by
        obtain ⟨h1, h2, h3, h4⟩ := at_ hx (by omega)
        simp only [impl_PackageInts.l17, impl_PackageInts.L17, rd_impl_Rule, h1, h2, h3, h4, cond_true, rInts]
        rw [cap8 (by simp only [List.length_cons, List.length_nil]; omega)]; rfl) (fun n s => by simp only [impl_PackageInts.l17, impl_PackageInts.L17, end_, cond_false]) k s (hk.lt hr) (by omega)
    have t4 : ∀ (X : List Int → Option (List Int)) s, s.length ≤ 1300 → impl_PackageInts.l23 k (o.length : Int) g f r o X k 0 s = X (s ++ o.flatMap oInts) := fun X s hs =>
      loop_app _ oInts 4 (fun _ => rfl) 1400 X o (fun n i x s hx hb => by
        obtain ⟨h1, h2, h3, h4⟩ := at_ hx (by omega)
        simp only [impl_PackageInts.l23, impl_PackageInts.L23, rd_impl_Op, h1, h2, h3, h4, cond_true, oInts]
        rw [cap8 (by simp only [List.length_cons, List.length_nil]; omega)]; rfl) (fun n s => by simp only [impl_PackageInts.l23, impl_PackageInts.L23, end_, cond_false]) k s (hk.lt ho) (by omega)
    have n1 := fm_len gInts 6 (fun _ => rfl) g
    have n2 := fm_len fInts 2 (fun _ => rfl) f
    have n3 := fm_len rInts 7 (fun _ => rfl) r
    rw [Bool.not_true, cond_false, cond_true, t1 _ _ (by simp)]
    rw [cap8 (by simp only [List.length_append, List.length_cons, List.length_nil]; omega), cond_true, t2 _ _ (by simp only [List.length_append, List.length_cons, List.length_nil]; omega)]
    rw [cap8 (by simp only [List.length_append, List.length_cons, List.length_nil]; omega), cond_true, t3 _ _ (by simp only [List.length_append, List.length_cons, List.length_nil]; omega)]
    rw [cap8 (by simp only [List.length_append, List.length_cons, List.length_nil]; omega), cond_true, t4 _ _ (by simp only [List.length_append, List.length_cons, List.length_nil]; omega)]
    rfl
theorem impl_Mod_e (k : Nat) (a : Int) : impl_Mod.f k a 2147483647 = some (a % 2147483647) := by
  unfold impl_Mod.f
  rw [impl_InRange_e, Option.bind_some, show inR 2147483647 1 1000000000000 = true from rfl]
  simp only [Bool.not_true, cond_false, show decide ((2147483647 : Int) = 0) = false from rfl]
  have h0 := tmod31 a
  by_cases h : a.tmod 2147483647 < 0
  · rw [decide_eq_true h, cond_true, w64_id (by omega), tmod31_neg a h]
  · rw [decide_eq_false h, cond_false, tmod31_nn a h]
theorem impl_fold_e (k : Nat) (h v : Int) : impl_fold.f k h v = some (fold1 h v) := by
  unfold impl_fold.f fold1
  rw [impl_Mod_e, Option.bind_some]
theorem impl_KeyedHash_e {k : Nat} (hk : Big k) (key : Int) {l : List Int} (hl : l.length ≤ 1000000) : impl_KeyedHash.f k key l = some (keyed key l) := by
  unfold impl_KeyedHash.f keyed
  rw [impl_fold_e, Option.bind_some]
  have := loop_fold (fun n i s => impl_KeyedHash.l3 k key (l.length : Int) l (fun (y3 : Int) => (impl_fold.f k y3 key).bind fun t4 => some t4) n s i) fold1 (fun _ _ => True) (fun (y3 : Int) => (impl_fold.f k y3 key).bind fun t4 => some t4) l (fun n i x s hx _ => by
    obtain ⟨h1, h2, h3, h4⟩ := at_ hx (by omega)
    simp only [impl_KeyedHash.l3, impl_KeyedHash.L3, rd_i64, h1, h2, h3, h4, cond_true, impl_fold_e, Option.bind_some]) (fun _ _ _ _ _ => trivial)
    (fun n s _ => by simp only [impl_KeyedHash.l3, impl_KeyedHash.L3, end_, cond_false]) k (fold1 11 key) (by have := hk.out; omega) trivial
  rw [this, impl_fold_e, Option.bind_some]
  simp
theorem impl_sealOf_e {k : Nat} (hk : Big k) (key a b c : Int) {g : List T_impl_Grant} {f : List T_impl_Flow} {r : List T_impl_Rule} {o : List T_impl_Op} (d : Int) (hg : Ok g) (hf : Ok f) (hr : Ok r) (ho : Ok o) :
    impl_sealOf.f k key a b c g f r o d = some (sealV key a b c g f r o) := by
  unfold impl_sealOf.f sealV
  simp only [impl_IsValidKey_e, impl_IsPackage_e hk a b c d hg hf hr ho, impl_PackageInts_e hk a b c d hg hf hr ho, Option.bind_some]
  cases inR key 1 2147483646 with
  | false => rfl
  | true =>
    cases hp : isPk a b c g f r o with
    | false => rfl
    | true =>
      simp only [Bool.not_true, cond_false, cond_true, Bool.true_and, impl_KeyedHash_e hk key (pkInts_len hp), Option.bind_some]
theorem impl_SealPackage_e {k : Nat} (hk : Big k) (key a b c : Int) {g : List T_impl_Grant} {f : List T_impl_Flow} {r : List T_impl_Rule} {o : List T_impl_Op} (d : Int) (hg : Ok g) (hf : Ok f) (hr : Ok r) (ho : Ok o) :
    impl_SealPackage.f k key a b c g f r o d = some (a, b, c, sealV key a b c g f r o, g, f, r, o) := by
  unfold impl_SealPackage.f
  rw [impl_clonePackage_e k a b c d hg hf hr ho, Option.bind_some, impl_sealOf_e hk key a b c d hg hf hr ho, Option.bind_some]
theorem impl_IsSealed_e {k : Nat} (hk : Big k) (key a b c : Int) {g : List T_impl_Grant} {f : List T_impl_Flow} {r : List T_impl_Rule} {o : List T_impl_Op} (d : Int) (hg : Ok g) (hf : Ok f) (hr : Ok r) (ho : Ok o) :
    impl_IsSealed.f k key a b c g f r o d = some (isPk a b c g f r o && (inR key 1 2147483646 && (sealV key a b c g f r o == d))) := by
  unfold impl_IsSealed.f
  simp only [impl_sealOf_e hk key a b c d hg hf hr ho, impl_IsValidKey_e, impl_IsPackage_e hk a b c d hg hf hr ho, Option.bind_some]
  cases isPk a b c g f r o <;> cases inR key 1 2147483646 <;> try rfl
  simp only [cond_true, Bool.true_and]
  rw [Bool.beq_comm]
theorem impl_deedSeal_e {k : Nat} (hk : Big k) (key w a b c s t : Int) : impl_deedSeal.f k key w a b c s t = some (deedSealV key w a b c) := by
  unfold impl_deedSeal.f deedSealV
  simp only [impl_IsValidKey_e, impl_KeyedHash_e hk key (l := [w, a, b, c]) (by simp), Option.bind_some]
  generalize inR key 1 2147483646 = p1, keyed key [w, a, b, c] = q1
  cases p1 <;> rfl
theorem impl_SealDeed_e {k : Nat} (hk : Big k) (a b c s t k1 k2 : Int) : impl_SealDeed.f k a b c s t k1 k2 = some (a, b, c, deedSealV k1 1 a b c, deedSealV k2 2 a b c) := by
  unfold impl_SealDeed.f
  simp only [impl_deedSeal_e hk, Option.bind_some]
theorem impl_IsDeed_e {k : Nat} (hk : Big k) (a b c s t k1 k2 : Int) : impl_IsDeed.f k a b c s t k1 k2 = some (isDeedV a b c s t k1 k2) := by
  unfold impl_IsDeed.f isDeedV
  simp only [impl_InRange_e, impl_IsValidKey_e, impl_SealDeed_e hk, Option.bind_some, beq_self_eq_true, Bool.true_and]
  rw [Bool.beq_comm (a := s), Bool.beq_comm (a := t)]
  generalize (deedSealV k1 1 a b c == s) = p1, (deedSealV k2 2 a b c == t) = p2, inR a 1 5 = p3, inR b 1 9 = p4, inR c 1 9 = p5, (b != c) = p6, inR k1 1 2147483646 = p7, inR k2 1 2147483646 = p8
  revert p1 p2 p3 p4 p5 p6 p7 p8; decide
def mayMove (key a b c : Int) (g : List T_impl_Grant) (f : List T_impl_Flow) (r : List T_impl_Rule) (o : List T_impl_Op) (d e1 e2 e3 e4 e5 k1 k2 : Int) : Bool :=
  (isPk a b c g f r o && (inR key 1 2147483646 && (sealV key a b c g f r o == d))) && (isDeedV e1 e2 e3 e4 e5 k1 k2 && ((a == e1) && (b == e2)))
theorem impl_Transfer_e {k : Nat} (hk : Big k) (key a b c : Int) {g : List T_impl_Grant} {f : List T_impl_Flow} {r : List T_impl_Rule} {o : List T_impl_Op} (d e1 e2 e3 e4 e5 k1 k2 : Int) (hg : Ok g) (hf : Ok f) (hr : Ok r) (ho : Ok o) :
    impl_Transfer.f k key a b c g f r o d e1 e2 e3 e4 e5 k1 k2 = some (bif mayMove key a b c g f r o d e1 e2 e3 e4 e5 k1 k2 then (a, e3, c, sealV key a e3 c g f r o, true, g, f, r, o) else (a, b, c, d, false, g, f, r, o)) := by
  unfold impl_Transfer.f mayMove
  simp only [impl_clonePackage_e k a b c d hg hf hr ho, impl_IsSealed_e hk key a b c d hg hf hr ho, impl_IsDeed_e hk, impl_SealPackage_e hk key a e3 c d hg hf hr ho, Option.bind_some, bne]
  generalize (isPk a b c g f r o && (inR key 1 2147483646 && (sealV key a b c g f r o == d))) = p1, isDeedV e1 e2 e3 e4 e5 k1 k2 = p2, (a == e1) = p3, (b == e2) = p4, sealV key a e3 c g f r o = sv
  cases p1 <;> cases p2 <;> cases p3 <;> cases p4 <;> rfl
def eqZ {α : Type} (c : α → α → Bool) (l m : List α) : Bool := decide (l.length = m.length) && (l.zip m).all fun p => c p.1 p.2
theorem eqZ_refl {α : Type} {c : α → α → Bool} (h : ∀ x, c x x = true) (l : List α) : eqZ c l l = true := by
  unfold eqZ
  have : ∀ l : List α, ((l.zip l).all fun p => c p.1 p.2) = true := by
    intro l
    induction l with
    | nil => rfl
    | cons x xs ih => simp only [List.zip_cons_cons, List.all_cons, h, ih]; rfl
  rw [this]; simp
theorem eqZ_comm {α : Type} {c : α → α → Bool} (h : ∀ x y, c x y = c y x) (l m : List α) : eqZ c l m = eqZ c m l := by
  unfold eqZ
  have : ∀ l m : List α, ((l.zip m).all fun p => c p.1 p.2) = ((m.zip l).all fun p => c p.1 p.2) := by
    intro l
    induction l with
    | nil => intro m; cases m <;> rfl
    | cons x xs ih => intro m; cases m with
      | nil => rfl
      | cons y ys => simp only [List.zip_cons_cons, List.all_cons, h x y, ih ys]
  rw [this l m]
  congr 1
  rw [decide_eq_decide]; exact eq_comm
def cmpGrant (x y : T_impl_Grant) : Bool := (((x.f0) == (y.f0)) && (((x.f1.f0) == (y.f1.f0)) && (((x.f1.f1) == (y.f1.f1)) && (((x.f2) == (y.f2)) && (((x.f3) == (y.f3)) && (((x.f4) == (y.f4)) && ((x.f5) == (y.f5))))))))
theorem cmpGrant_refl (x : T_impl_Grant) : cmpGrant x x = true := by simp [cmpGrant]
theorem cmpGrant_comm (x y : T_impl_Grant) : cmpGrant x y = cmpGrant y x := by
  unfold cmpGrant
  simp only [Bool.beq_comm (b := y.f0)]
  congr 1
  all_goals simp only [Bool.beq_comm]
theorem slices_Equal_Grant_e {k : Nat} (hk : Big k) {l m : List T_impl_Grant} (hl : Ok l) : slices_Equal_Grant.f k l m = some (eqZ cmpGrant l m) := by
  have hl' := hl.out
  unfold slices_Equal_Grant.f eqZ
  by_cases hlen : l.length = m.length
  · rw [show ((l.length : Int) != (m.length : Int)) = false from by simp [hlen], cond_false, decide_eq_true hlen, Bool.true_and]
    have hz : (l.zip m).length = l.length := by simp [hlen]
    rw [show k = k from rfl, loop_all (slices_Equal_Grant.l4 k (l.length : Int) l m (fun y => some y) (fun _ => some true)) (fun p => cmpGrant p.1 p.2) (some true) (some false) (l.zip m) (fun n i p hp => by
      obtain ⟨hx, hy⟩ := List.getElem?_zip_eq_some.1 hp
      obtain ⟨h1, h2, h3, h4⟩ := at_ hx (by omega)
      obtain ⟨g1, g2, g3, g4⟩ := at_ hy (by omega)
      simp only [slices_Equal_Grant.l4, slices_Equal_Grant.L4, rd_impl_Grant, h1, h2, h3, h4, g1, g4, cond_true, cmpGrant]
      cases (((p.1.f0) == (p.2.f0)) && (((p.1.f1.f0) == (p.2.f1.f0)) && (((p.1.f1.f1) == (p.2.f1.f1)) && (((p.1.f2) == (p.2.f2)) && (((p.1.f3) == (p.2.f3)) && (((p.1.f4) == (p.2.f4)) && ((p.1.f5) == (p.2.f5)))))))) <;> rfl) (fun n => by rw [hz]; simp only [slices_Equal_Grant.l4, slices_Equal_Grant.L4, end_, cond_false]) k (by rw [hz]; exact hk.lt hl)]
    cases (l.zip m).all fun p => cmpGrant p.1 p.2 <;> rfl
  · rw [show ((l.length : Int) != (m.length : Int)) = true from by simp; omega, cond_true, decide_eq_false hlen, Bool.false_and]
def cmpFlow (x y : T_impl_Flow) : Bool := (((x.f0) == (y.f0)) && (((x.f1) == (y.f1)) && ((x.f2) == (y.f2))))
theorem cmpFlow_refl (x : T_impl_Flow) : cmpFlow x x = true := by simp [cmpFlow]
theorem cmpFlow_comm (x y : T_impl_Flow) : cmpFlow x y = cmpFlow y x := by
  unfold cmpFlow
  simp only [Bool.beq_comm (b := y.f0)]
  congr 1
  all_goals simp only [Bool.beq_comm]
theorem slices_Equal_Flow_e {k : Nat} (hk : Big k) {l m : List T_impl_Flow} (hl : Ok l) : slices_Equal_Flow.f k l m = some (eqZ cmpFlow l m) := by
  have hl' := hl.out
  unfold slices_Equal_Flow.f eqZ
  by_cases hlen : l.length = m.length
  · rw [show ((l.length : Int) != (m.length : Int)) = false from by simp [hlen], cond_false, decide_eq_true hlen, Bool.true_and]
    have hz : (l.zip m).length = l.length := by simp [hlen]
    rw [show k = k from rfl, loop_all (slices_Equal_Flow.l4 k (l.length : Int) l m (fun y => some y) (fun _ => some true)) (fun p => cmpFlow p.1 p.2) (some true) (some false) (l.zip m) (fun n i p hp => by
      obtain ⟨hx, hy⟩ := List.getElem?_zip_eq_some.1 hp
      obtain ⟨h1, h2, h3, h4⟩ := at_ hx (by omega)
      obtain ⟨g1, g2, g3, g4⟩ := at_ hy (by omega)
      simp only [slices_Equal_Flow.l4, slices_Equal_Flow.L4, rd_impl_Flow, h1, h2, h3, h4, g1, g4, cond_true, cmpFlow]
      cases (((p.1.f0) == (p.2.f0)) && (((p.1.f1) == (p.2.f1)) && ((p.1.f2) == (p.2.f2)))) <;> rfl) (fun n => by rw [hz]; simp only [slices_Equal_Flow.l4, slices_Equal_Flow.L4, end_, cond_false]) k (by rw [hz]; exact hk.lt hl)]
    cases (l.zip m).all fun p => cmpFlow p.1 p.2 <;> rfl
  · rw [show ((l.length : Int) != (m.length : Int)) = true from by simp; omega, cond_true, decide_eq_false hlen, Bool.false_and]
def cmpRule (x y : T_impl_Rule) : Bool := (((x.f0) == (y.f0)) && (((x.f1) == (y.f1)) && (((x.f2.f0) == (y.f2.f0)) && (((x.f2.f1) == (y.f2.f1)) && (((x.f3) == (y.f3)) && (((x.f4) == (y.f4)) && (((x.f5.f0) == (y.f5.f0)) && ((x.f5.f1) == (y.f5.f1)))))))))
theorem cmpRule_refl (x : T_impl_Rule) : cmpRule x x = true := by simp [cmpRule]
theorem cmpRule_comm (x y : T_impl_Rule) : cmpRule x y = cmpRule y x := by
  unfold cmpRule
  simp only [Bool.beq_comm (b := y.f0)]
  congr 1
  all_goals simp only [Bool.beq_comm]
theorem slices_Equal_Rule_e {k : Nat} (hk : Big k) {l m : List T_impl_Rule} (hl : Ok l) : slices_Equal_Rule.f k l m = some (eqZ cmpRule l m) := by
  have hl' := hl.out
  unfold slices_Equal_Rule.f eqZ
  by_cases hlen : l.length = m.length
  · rw [show ((l.length : Int) != (m.length : Int)) = false from by simp [hlen], cond_false, decide_eq_true hlen, Bool.true_and]
    have hz : (l.zip m).length = l.length := by simp [hlen]
    rw [show k = k from rfl, loop_all (slices_Equal_Rule.l4 k (l.length : Int) l m (fun y => some y) (fun _ => some true)) (fun p => cmpRule p.1 p.2) (some true) (some false) (l.zip m) (fun n i p hp => by
      obtain ⟨hx, hy⟩ := List.getElem?_zip_eq_some.1 hp
      obtain ⟨h1, h2, h3, h4⟩ := at_ hx (by omega)
      obtain ⟨g1, g2, g3, g4⟩ := at_ hy (by omega)
      simp only [slices_Equal_Rule.l4, slices_Equal_Rule.L4, rd_impl_Rule, h1, h2, h3, h4, g1, g4, cond_true, cmpRule]
      cases (((p.1.f0) == (p.2.f0)) && (((p.1.f1) == (p.2.f1)) && (((p.1.f2.f0) == (p.2.f2.f0)) && (((p.1.f2.f1) == (p.2.f2.f1)) && (((p.1.f3) == (p.2.f3)) && (((p.1.f4) == (p.2.f4)) && (((p.1.f5.f0) == (p.2.f5.f0)) && ((p.1.f5.f1) == (p.2.f5.f1))))))))) <;> rfl) (fun n => by rw [hz]; simp only [slices_Equal_Rule.l4, slices_Equal_Rule.L4, end_, cond_false]) k (by rw [hz]; exact hk.lt hl)]
    cases (l.zip m).all fun p => cmpRule p.1 p.2 <;> rfl
  · rw [show ((l.length : Int) != (m.length : Int)) = true from by simp; omega, cond_true, decide_eq_false hlen, Bool.false_and]
def cmpOp (x y : T_impl_Op) : Bool := (((x.f0) == (y.f0)) && (((x.f1) == (y.f1)) && (((x.f2) == (y.f2)) && ((x.f3) == (y.f3)))))
theorem cmpOp_refl (x : T_impl_Op) : cmpOp x x = true := by simp [cmpOp]
theorem cmpOp_comm (x y : T_impl_Op) : cmpOp x y = cmpOp y x := by
  unfold cmpOp
  simp only [Bool.beq_comm (b := y.f0)]
  congr 1
  all_goals simp only [Bool.beq_comm]
theorem slices_Equal_Op_e {k : Nat} (hk : Big k) {l m : List T_impl_Op} (hl : Ok l) : slices_Equal_Op.f k l m = some (eqZ cmpOp l m) := by
  have hl' := hl.out
  unfold slices_Equal_Op.f eqZ
  by_cases hlen : l.length = m.length
  · rw [show ((l.length : Int) != (m.length : Int)) = false from by simp [hlen], cond_false, decide_eq_true hlen, Bool.true_and]
    have hz : (l.zip m).length = l.length := by simp [hlen]
    rw [show k = k from rfl, loop_all (slices_Equal_Op.l4 k (l.length : Int) l m (fun y => some y) (fun _ => some true)) (fun p => cmpOp p.1 p.2) (some true) (some false) (l.zip m) (fun n i p hp => by
      obtain ⟨hx, hy⟩ := List.getElem?_zip_eq_some.1 hp
      obtain ⟨h1, h2, h3, h4⟩ := at_ hx (by omega)
      obtain ⟨g1, g2, g3, g4⟩ := at_ hy (by omega)
      simp only [slices_Equal_Op.l4, slices_Equal_Op.L4, rd_impl_Op, h1, h2, h3, h4, g1, g4, cond_true, cmpOp]
      cases (((p.1.f0) == (p.2.f0)) && (((p.1.f1) == (p.2.f1)) && (((p.1.f2) == (p.2.f2)) && ((p.1.f3) == (p.2.f3))))) <;> rfl) (fun n => by rw [hz]; simp only [slices_Equal_Op.l4, slices_Equal_Op.L4, end_, cond_false]) k (by rw [hz]; exact hk.lt hl)]
    cases (l.zip m).all fun p => cmpOp p.1 p.2 <;> rfl
  · rw [show ((l.length : Int) != (m.length : Int)) = true from by simp; omega, cond_true, decide_eq_false hlen, Bool.false_and]
def eqPkg (a b c d : Int) (g : List T_impl_Grant) (f : List T_impl_Flow) (r : List T_impl_Rule) (o : List T_impl_Op) (a' b' c' d' : Int) (g' : List T_impl_Grant) (f' : List T_impl_Flow) (r' : List T_impl_Rule) (o' : List T_impl_Op) : Bool :=
  (a == a') && ((b == b') && ((c == c') && ((d == d') && (eqZ cmpGrant g g' && (eqZ cmpFlow f f' && (eqZ cmpRule r r' && eqZ cmpOp o o'))))))
theorem impl_EqualPackages_e {k : Nat} (hk : Big k) (a b c d : Int) {g : List T_impl_Grant} {f : List T_impl_Flow} {r : List T_impl_Rule} {o : List T_impl_Op} (a' b' c' d' : Int) (g' : List T_impl_Grant) (f' : List T_impl_Flow) (r' : List T_impl_Rule) (o' : List T_impl_Op) (hg : Ok g) (hf : Ok f) (hr : Ok r) (ho : Ok o) :
    impl_EqualPackages.f k a b c g f r o d a' b' c' g' f' r' o' d' = some (eqPkg a b c d g f r o a' b' c' d' g' f' r' o') := by
  unfold impl_EqualPackages.f eqPkg
  simp only [slices_Equal_Grant_e hk hg, slices_Equal_Flow_e hk hf, slices_Equal_Rule_e hk hr, slices_Equal_Op_e hk ho, Option.bind_some]
  generalize eqZ cmpGrant g g' = p1, eqZ cmpFlow f f' = p2, eqZ cmpRule r r' = p3, eqZ cmpOp o o' = p4
  cases (a == a') <;> cases (b == b') <;> cases (c == c') <;> cases (d == d') <;> cases p1 <;> cases p2 <;> cases p3 <;> cases p4 <;> rfl
theorem eqPkg_refl (a b c d : Int) (g : List T_impl_Grant) (f : List T_impl_Flow) (r : List T_impl_Rule) (o : List T_impl_Op) : eqPkg a b c d g f r o a b c d g f r o = true := by
  unfold eqPkg
  simp [eqZ_refl cmpGrant_refl, eqZ_refl cmpFlow_refl, eqZ_refl cmpRule_refl, eqZ_refl cmpOp_refl]
theorem eqPkg_comm (a b c d : Int) (g : List T_impl_Grant) (f : List T_impl_Flow) (r : List T_impl_Rule) (o : List T_impl_Op) (a' b' c' d' : Int) (g' : List T_impl_Grant) (f' : List T_impl_Flow) (r' : List T_impl_Rule) (o' : List T_impl_Op) : eqPkg a b c d g f r o a' b' c' d' g' f' r' o' = eqPkg a' b' c' d' g' f' r' o' a b c d g f r o := by
  unfold eqPkg
  rw [Bool.beq_comm (a := a), Bool.beq_comm (a := b), Bool.beq_comm (a := c), Bool.beq_comm (a := d), eqZ_comm cmpGrant_comm g, eqZ_comm cmpFlow_comm f, eqZ_comm cmpRule_comm r, eqZ_comm cmpOp_comm o]
def chain1 (ext : Int) (h : Int) (x : T_impl_Deed) : Int := bif x.f0 == ext then (bif x.f1 == h then x.f2 else h) else h
theorem impl_Chain_e {k : Nat} (hk : Big k) {l : List T_impl_Deed} (hl : Ok l) (ext h : Int) : impl_Chain.f k l ext h = some (l.foldl (chain1 ext) h) := by
  have hl' := hl.out
  unfold impl_Chain.f
  exact loop_fold (fun q i s => impl_Chain.l2 k ext (l.length : Int) l (fun y => some y) q s i) (chain1 ext) (fun _ _ => True) (fun y => some y) l (fun n i x s hx _ => by
    obtain ⟨h1, h2, h3, h4⟩ := at_ hx (by omega)
    simp only [impl_Chain.l2, impl_Chain.L2, rd_impl_Deed, h1, h2, h3, h4, cond_true, chain1]
    cases (x.f0 == ext) <;> cases (x.f1 == s) <;> rfl) (fun _ _ _ _ _ => trivial) (fun n s _ => by simp only [impl_Chain.l2, impl_Chain.L2, end_, cond_false]) k h (hk.lt hl) trivial
theorem chain_split {l : List T_impl_Deed} (ext h : Int) (m : Nat) : ((l.take l.length).drop m).foldl (chain1 ext) ((l.take m).foldl (chain1 ext) h) = l.foldl (chain1 ext) h := by
  rw [List.take_length, ← List.foldl_append, List.take_append_drop]
theorem laws_at_t (k : Nat) {l : List Int} (hl : Ok l) (hb : ∀ x ∈ l, 0 ≤ x ∧ x ≤ 255) (i : Int) (hi : 0 ≤ i ∧ i ≤ 1000) : Ret' (laws_at.f k l i) fun v => 0 ≤ v ∧ v ≤ 255 := by
  have hl' := hl.out
  unfold laws_at.f
  refine .bif (fun c => ?_) fun c => ?_
  · rw [decide_eq_true hi.1, cond_true, c, cond_true]
    have c := of_decide_eq_true c
    obtain ⟨n, hn⟩ := Int.eq_ofNat_of_zero_le hi.1
    have hlt : n < l.length := by omega
    have hx : rd_u8 l i ∈ l := by
      rw [hn]
      show l.getD n z_u8 ∈ l
      rw [List.getD_eq_getElem?_getD, List.getElem?_eq_getElem hlt]
      exact List.getElem_mem hlt
    have := hb _ hx
    exact .some (by rw [w64_id (by omega)]; exact this)
  · have e1 : w64 (i * 31) = i * 31 := w64_id (by omega)
    have e2 : w64 ((l.length : Int) * 7) = (l.length : Int) * 7 := w64_id (by omega)
    rw [e1, e2, w64_id (by omega)]
    have := tmod_bd (show 0 ≤ i * 31 + (l.length : Int) * 7 by omega) (show (0 : Int) < 256 by decide)
    exact .some (by omega)
theorem fold1_eq {h : Int} (v : Int) (h0 : 0 ≤ h) (h1 : h < 2147483647) : fold1 h v = (h * 1000003 + v % 2147483647 + 13) % 2147483647 := by
  have v0 := Int.emod_nonneg v (show (2147483647 : Int) ≠ 0 by decide)
  have v1 := Int.emod_lt_of_pos v (show (0 : Int) < 2147483647 by decide)
  unfold fold1
  rw [w64_id (n := h * 1000003) (by omega), w64_id (n := h * 1000003 + v % 2147483647) (by omega), w64_id (by omega), Int.tmod_eq_emod_of_nonneg (by omega)]
theorem fold1_rg {h : Int} (v : Int) (h0 : 0 ≤ h) (h1 : h < 2147483647) : 0 ≤ fold1 h v ∧ fold1 h v < 2147483647 := by
  rw [fold1_eq v h0 h1]
  exact ⟨Int.emod_nonneg _ (by decide), Int.emod_lt_of_pos _ (by decide)⟩
theorem emod_lin (a b c : Int) (p : Int) : (a % p * b + c) % p = (a * b + c) % p := by
  rw [Int.add_emod, Int.mul_emod, Int.emod_emod_of_dvd _ (Int.dvd_refl p), ← Int.mul_emod, ← Int.add_emod]
theorem emod_lin3 (a b c d : Int) (p : Int) : (a % p * b + c + d) % p = (a * b + c + d) % p := by rw [Int.add_assoc, emod_lin, ← Int.add_assoc]
theorem foldl_lin : ∀ l : List Int, ∃ C : Int, ∀ h : Int, 0 ≤ h → h < 2147483647 → l.foldl fold1 h = (h * 1000003 ^ l.length + C) % 2147483647
  | [] => ⟨0, fun h h0 h1 => by simp; exact (Int.emod_eq_of_lt h0 h1).symm⟩
  | v :: l => by
    obtain ⟨C, hC⟩ := foldl_lin l
    refine ⟨(v % 2147483647 + 13) * 1000003 ^ l.length + C, fun h h0 h1 => ?_⟩
    obtain ⟨r0, r1⟩ := fold1_rg v h0 h1
    rw [List.foldl_cons, hC _ r0 r1, fold1_eq v h0 h1, emod_lin]
    congr 1
    rw [List.length_cons, Int.pow_succ, Int.add_assoc (h * 1000003), Int.add_mul, Int.mul_assoc h, Int.mul_comm 1000003, Int.add_assoc]
theorem inv_pow (n : Nat) : ((1000003 : Int) ^ n * (1523789695 : Int) ^ n) % 2147483647 = 1 := by
  rw [← Int.mul_pow]
  induction n with
  | zero => rfl
  | succ n ih => rw [Int.pow_succ, Int.mul_emod, ih]; rfl
theorem lin_inj {a b C : Int} (n : Nat) (a0 : 0 ≤ a) (a1 : a < 2147483647) (b0 : 0 ≤ b) (b1 : b < 2147483647) (h : (a * 1000003 ^ n + C) % 2147483647 = (b * 1000003 ^ n + C) % 2147483647) : a = b := by
  have e : ∀ x : Int, 0 ≤ x → x < 2147483647 → (((x * 1000003 ^ n + C) % 2147483647) * (1523789695 : Int) ^ n - C * (1523789695 : Int) ^ n) % 2147483647 = x := by
    intro x x0 x1
    rw [Int.sub_eq_add_neg, emod_lin, Int.add_mul, Int.mul_assoc x]
    rw [show x * (1000003 ^ n * (1523789695 : Int) ^ n) + C * (1523789695 : Int) ^ n + -(C * (1523789695 : Int) ^ n) = x * (1000003 ^ n * (1523789695 : Int) ^ n) by omega]
    rw [Int.mul_emod, inv_pow, Int.mul_one, Int.emod_emod_of_dvd _ (Int.dvd_refl _), Int.emod_eq_of_lt x0 x1]
  rw [← e a a0 a1, ← e b b0 b1, h]
/-- One number changed: another hash. -/
theorem hash_one (l1 l2 : List Int) (v v' : Int) (h0 : 0 ≤ v ∧ v < 2147483647) (h1 : 0 ≤ v' ∧ v' < 2147483647) (h : (l1 ++ v :: l2).foldl fold1 11 = (l1 ++ v' :: l2).foldl fold1 11) : v = v' := by
  rw [List.foldl_append, List.foldl_append, List.foldl_cons, List.foldl_cons] at h
  have hr : ∀ (l : List Int) (x : Int), 0 ≤ x → x < 2147483647 → 0 ≤ l.foldl fold1 x ∧ l.foldl fold1 x < 2147483647 := by
    intro l
    induction l with
    | nil => intro x x0 x1; exact ⟨x0, x1⟩
    | cons y l ih => intro x x0 x1; obtain ⟨r0, r1⟩ := fold1_rg y x0 x1; exact ih _ r0 r1
  obtain ⟨s0, s1⟩ := hr l1 11 (by decide) (by decide)
  generalize l1.foldl fold1 11 = s at h s0 s1
  obtain ⟨C, hC⟩ := foldl_lin l2
  obtain ⟨r0, r1⟩ := fold1_rg v s0 s1
  obtain ⟨r2, r3⟩ := fold1_rg v' s0 s1
  rw [hC _ r0 r1, hC _ r2 r3] at h
  have := lin_inj l2.length r0 r1 r2 r3 h
  rw [fold1_eq v s0 s1, fold1_eq v' s0 s1, Int.emod_eq_of_lt h0.1 h0.2, Int.emod_eq_of_lt h1.1 h1.2] at this
  omega
theorem pow_ne (n : Nat) (hn : n < 400) : ((1000003 : Int) ^ (n + 1) + 1) % 2147483647 ≠ 0 := by
  have h : ((List.range 400).all fun n => ((1000003 : Int) ^ (n + 1) + 1) % 2147483647 != 0) = true := by decide +kernel
  have := List.all_eq_true.1 h n (List.mem_range.2 hn)
  simpa using this
/-- The next key: another hash. -/
theorem keyed_ne (key : Int) (l : List Int) (hk : 1 ≤ key ∧ key ≤ 2147483645) (hl : l.length < 400) : keyed key l ≠ keyed (key + 1) l := by
  intro h
  unfold keyed at h
  rw [List.foldl_append, List.foldl_append, List.foldl_append, List.foldl_append] at h
  simp only [List.foldl_cons, List.foldl_nil] at h
  obtain ⟨C, hC⟩ := foldl_lin l
  obtain ⟨r0, r1⟩ := fold1_rg key (h := 11) (by decide) (by decide)
  obtain ⟨r2, r3⟩ := fold1_rg (key + 1) (h := 11) (by decide) (by decide)
  have g : ∀ x : Int, 0 ≤ x % 2147483647 ∧ x % 2147483647 < 2147483647 := fun x => ⟨Int.emod_nonneg _ (by decide), Int.emod_lt_of_pos _ (by decide)⟩
  rw [hC _ r0 r1, hC _ r2 r3, fold1_eq _ (g _).1 (g _).2, fold1_eq _ (g _).1 (g _).2, fold1_eq key (h := 11) (by decide) (by decide), fold1_eq (key + 1) (h := 11) (by decide) (by decide), Int.emod_eq_of_lt (a := key) (by omega) (by omega), Int.emod_eq_of_lt (a := key + 1) (by omega) (by omega), emod_lin, emod_lin] at h
  rw [emod_lin3, emod_lin3] at h
  have := pow_ne l.length hl
  rw [Int.pow_succ] at this
  generalize (1000003 : Int) ^ l.length = P at h this
  apply this
  have h2 := Int.emod_emod_of_dvd 0 (Int.dvd_refl 2147483647)
  have h3 : (((11 * 1000003 + (key + 1) + 13) * P + C) * 1000003 + (key + 1) + 13 - (((11 * 1000003 + key + 13) * P + C) * 1000003 + key + 13)) % 2147483647 = 0 := by
    rw [Int.sub_emod, ← h, Int.sub_self]; rfl
  rw [← h3]
  congr 1
  have e : (11 * 1000003 + (key + 1) + 13) * P = (11 * 1000003 + key + 13) * P + P := by
    rw [show (11 : Int) * 1000003 + (key + 1) + 13 = (11 * 1000003 + key + 13) + 1 by omega, Int.add_mul, Int.one_mul]
  rw [e]
  omega
theorem deed_to {k1 k2 a b c c' s t : Int} (h1 : isDeedV a b c (deedSealV k1 1 a b c) (deedSealV k2 2 a b c) k1 k2 = true) (h2 : isDeedV a b c' (deedSealV k1 1 a b c) (deedSealV k2 2 a b c) k1 k2 = true) : c' = c := by
  unfold isDeedV at h1 h2
  simp only [Bool.and_eq_true] at h1 h2
  have r1 := inR_true.1 h1.2.2.1
  have r2 := inR_true.1 h2.2.2.1
  have e := eq_of_beq h2.2.2.2.2.2.2.1
  unfold deedSealV keyed at e
  rw [h1.2.2.2.2.1] at e
  exact hash_one [k1, 1, a, b] [k1] c' c (by omega) (by omega) (by simpa using e)
theorem deed_keys {a b c : Int} (h : isDeedV a b c (deedSealV 11 1 a b c) (deedSealV 12 2 a b c) 12 11 = true) : False := by
  unfold isDeedV at h
  simp only [Bool.and_eq_true] at h
  have e := eq_of_beq h.2.2.2.2.2.2.1
  unfold deedSealV at e
  rw [show inR 12 1 2147483646 = true from rfl, show inR 11 1 2147483646 = true from rfl, cond_true, cond_true] at e
  exact keyed_ne 11 [1, a, b, c] (by decide) (by simp) e.symm
theorem pkInts_cons (a b c : Int) (g : List T_impl_Grant) (f : List T_impl_Flow) (r : List T_impl_Rule) (o : List T_impl_Op) : ∃ rest, ∀ a b c, pkInts a b c g f r o = a :: b :: c :: rest := by
  refine ⟨(((((([(g.length : Int)] ++ g.flatMap gInts) ++ [(f.length : Int)]) ++ f.flatMap fInts) ++ [(r.length : Int)]) ++ r.flatMap rInts) ++ [(o.length : Int)]) ++ o.flatMap oInts, fun a b c => ?_⟩
  unfold pkInts
  simp
theorem isPk_rg {a b c : Int} {g : List T_impl_Grant} {f : List T_impl_Flow} {r : List T_impl_Rule} {o : List T_impl_Op} (h : isPk a b c g f r o = true) : (1 ≤ a ∧ a ≤ 5) ∧ (1 ≤ b ∧ b ≤ 9) ∧ (1 ≤ c ∧ c ≤ 999) := by
  unfold isPk at h
  simp only [Bool.and_eq_true] at h
  exact ⟨inR_true.1 h.1, inR_true.1 h.2.1, inR_true.1 h.2.2.1⟩
theorem seal_ver {key a b c c' : Int} {g : List T_impl_Grant} {f : List T_impl_Flow} {r : List T_impl_Rule} {o : List T_impl_Op} (hk : inR key 1 2147483646 = true) (h : isPk a b c g f r o = true) (h' : isPk a b c' g f r o = true) (e : sealV key a b c' g f r o = sealV key a b c g f r o) : c' = c := by
  obtain ⟨rest, hr⟩ := pkInts_cons a b c g f r o
  have q := isPk_rg h
  have q' := isPk_rg h'
  unfold sealV keyed at e
  rw [hk, h, h', hr, hr] at e
  exact hash_one [key, a, b] (rest ++ [key]) c' c (by omega) (by omega) (by simpa using e)
theorem seal_aut {key a b b' c : Int} {g : List T_impl_Grant} {f : List T_impl_Flow} {r : List T_impl_Rule} {o : List T_impl_Op} (hk : inR key 1 2147483646 = true) (h : isPk a b c g f r o = true) (h' : isPk a b' c g f r o = true) (e : sealV key a b' c g f r o = sealV key a b c g f r o) : b' = b := by
  obtain ⟨rest, hr⟩ := pkInts_cons a b c g f r o
  have q := isPk_rg h
  have q' := isPk_rg h'
  unfold sealV keyed at e
  rw [hk, h, h', hr, hr] at e
  exact hash_one [key, a] (c :: rest ++ [key]) b' b (by omega) (by omega) (by simpa using e)
theorem pkInts_short {a b c : Int} {g : List T_impl_Grant} {f : List T_impl_Flow} {r : List T_impl_Rule} {o : List T_impl_Op} (h : isPk a b c g f r o = true) : (pkInts a b c g f r o).length < 400 ∧ 0 < (pkInts a b c g f r o).length := by
  obtain ⟨l1, l2, l3, l4⟩ := isPk_len h
  have n1 := fm_len gInts 6 (fun _ => rfl) g
  have n2 := fm_len fInts 2 (fun _ => rfl) f
  have n3 := fm_len rInts 7 (fun _ => rfl) r
  have n4 := fm_len oInts 4 (fun _ => rfl) o
  unfold pkInts
  simp only [List.length_append, List.length_cons, List.length_nil]
  omega
theorem seal_key {key a b c : Int} {g : List T_impl_Grant} {f : List T_impl_Flow} {r : List T_impl_Rule} {o : List T_impl_Op} (hk : 1 ≤ key ∧ key ≤ 1000) (h : isPk a b c g f r o = true) : sealV (key + 1) a b c g f r o ≠ sealV key a b c g f r o := by
  have h1 := inR_true.2 (show 1 ≤ key + 1 ∧ key + 1 ≤ 2147483646 by omega)
  have h2 := inR_true.2 (show 1 ≤ key ∧ key ≤ 2147483646 by omega)
  have h3 := (pkInts_short h).1
  unfold sealV
  rw [h, h1, h2, Bool.and_true, cond_true, cond_true]
  generalize pkInts a b c g f r o = L at h3
  exact fun e => keyed_ne key L (by omega) h3 e.symm
theorem tmod_next {n m : Int} (h : 1 ≤ n ∧ n ≤ m) (hm : 2 ≤ m) (hb : m ≤ 1000000) : w64 (n.tmod m + 1) ≠ n := by
  obtain ⟨h0, h1⟩ := tmod_bd (show 0 ≤ n by omega) (show 0 < m by omega)
  rw [w64_id (by omega)]
  rw [Int.tmod_eq_emod_of_nonneg (by omega)] at *
  by_cases e : n = m
  · subst e; rw [Int.emod_self]; omega
  · rw [Int.emod_eq_of_lt (by omega) (by omega)]; omega
theorem FnTransferred : ∀ (a0 : List Int), a0.length ≤ maxLen → (∀ x ∈ a0, likes (k_u8.enc k_u8.zero) (k_u8.enc x)) → ∃ k, laws_FnTransferred.f k a0 = some true := by
  intro l _ hl8
  obtain ⟨k, hk⟩ := big_some
  refine ⟨k, ?_⟩
  have hb : ∀ x ∈ l, 0 ≤ x ∧ x ≤ 255 := by
    intro x hx
    have := (hl8 x hx).1.2
    simp [Lit.wf, IntKind.min, IntKind.max, IntKind.bits, IntKind.signed] at this
    omega
  unfold laws_FnTransferred.f
  rw [laws_big_e, Option.bind_some]
  by_cases hbig : (l.length : Int) > 1048576
  · rw [decide_eq_true hbig]; rfl
  rw [decide_eq_false hbig, cond_false]
  have hl : Ok l := by unfold Ok; omega
  obtain ⟨⟨key, a, b, c, d, e1, e2, e3, e4, e5, k1, k2, g, f, r, o⟩, eT, hkey, hk1, hk2, s1, s2, s3, s4⟩ := spec_DrawTransfer_t hk hl
  obtain ⟨⟨ext, h0, L⟩, eC, hL⟩ := spec_DrawChain_t hk hl
  obtain ⟨v, eA, v0, v1⟩ := laws_at_t k hl hb 2 (by decide)
  have hg : Ok g := Ok.small 21 s1
  have hf : Ok f := Ok.small 21 s2
  have hr : Ok r := Ok.small 21 s3
  have ho : Ok o := Ok.small 21 s4
  have hLk : Ok L := Ok.small 20 hL
  have hT : ∀ n m : Nat, Ok ((L.take n).drop m) := fun n m => by unfold Ok; have : L.length ≤ 20 := hL; simp; omega
  simp only at hk1
  subst hk1
  have hk2' : k2 = 12 ∨ k2 = 11 := by simpa using hk2
  have hT0 : ∀ e h, impl_Chain.f k L e h = some (L.foldl (chain1 e) h) := impl_Chain_e hk hLk
  have tail : ∀ m : Nat, (L.foldl (chain1 ext) h0 == ((L.take L.length).drop m).foldl (chain1 ext) ((L.take m).foldl (chain1 ext) h0)) = true := fun m => by rw [chain_split, beq_self_eq_true]
  have T1 : ∀ m e h, impl_Chain.f k (L.take m) e h = some ((L.take m).foldl (chain1 e) h) := fun m e h => impl_Chain_e hk (by unfold Ok; have : L.length ≤ 20 := hL; simp; omega) e h
  have T2 : ∀ m e h, impl_Chain.f k ((L.take L.length).drop m) e h = some (((L.take L.length).drop m).foldl (chain1 e) h) := fun m e h => impl_Chain_e hk (hT _ _) e h
  obtain ⟨m, hm0, hm1⟩ : ∃ m : Nat, ((L.length : Int) ≠ 0 → v.tmod (L.length : Int) = (m : Int)) ∧ ((L.length : Int) ≠ 0 → m ≤ L.length) := by
    by_cases hz : (L.length : Int) = 0
    · exact ⟨0, fun h => absurd hz h, fun h => absurd hz h⟩
    · obtain ⟨b0, b1⟩ := tmod_bd v0 (show (0 : Int) < (L.length : Int) by omega)
      obtain ⟨m, hm⟩ := Int.eq_ofNat_of_zero_le b0
      exact ⟨m, fun _ => hm, fun _ => by omega⟩
  have hX : ((spec_DrawChain.f k l).bind fun t25 => (impl_Chain.f k t25.2.2 t25.1 t25.2.1).bind fun t26 => (bif decide ((t25.2.2.length : Int) > (0 : Int)) then (laws_at.f k l (2 : Int)).bind fun t27 => (bif decide ((t25.2.2.length : Int) = 0) then none else (bif decide (0 ≤ (t25.2.2.length : Int)) then (bif decide ((t25.2.2.length : Int) ≤ (t25.2.2.length : Int)) then (bif decide (0 ≤ (t27.tmod (t25.2.2.length : Int))) then (bif decide ((t27.tmod (t25.2.2.length : Int)) ≤ (t25.2.2.length : Int)) then (bif decide (0 ≤ (t27.tmod (t25.2.2.length : Int))) then (bif decide ((t27.tmod (t25.2.2.length : Int)) ≤ (t25.2.2.length : Int)) then (bif decide (0 ≤ (0 : Int)) then (bif decide ((0 : Int) ≤ (t27.tmod (t25.2.2.length : Int))) then (impl_Chain.f k ((t25.2.2.take ((t27.tmod (t25.2.2.length : Int))).toNat).drop ((0 : Int)).toNat) t25.1 t25.2.1).bind fun t28 => (impl_Chain.f k ((t25.2.2.take ((t25.2.2.length : Int)).toNat).drop ((t27.tmod (t25.2.2.length : Int))).toNat) t25.1 t28).bind fun t29 => some (t26 == t29) else none) else none) else none) else none) else none) else none) else none) else none)) else (bif decide (0 ≤ (t25.2.2.length : Int)) then (bif decide ((t25.2.2.length : Int) ≤ (t25.2.2.length : Int)) then (bif decide (0 ≤ (0 : Int)) then (bif decide ((0 : Int) ≤ (t25.2.2.length : Int)) then (bif decide (0 ≤ (0 : Int)) then (bif decide ((0 : Int) ≤ (t25.2.2.length : Int)) then (bif decide (0 ≤ (0 : Int)) then (bif decide ((0 : Int) ≤ (0 : Int)) then (impl_Chain.f k ((t25.2.2.take ((0 : Int)).toNat).drop ((0 : Int)).toNat) t25.1 t25.2.1).bind fun t30 => (impl_Chain.f k ((t25.2.2.take ((t25.2.2.length : Int)).toNat).drop ((0 : Int)).toNat) t25.1 t30).bind fun t31 => some (t26 == t31) else none) else none) else none) else none) else none) else none) else none) else none))) = some true := by
    rw [eC, Option.bind_some]
    simp only
    rw [hT0, Option.bind_some, eA]
    by_cases hz : (L.length : Int) = 0
    · rw [decide_eq_false (by omega), cond_false]
      simp only [Int.le_refl, decide_true, cond_true, nn_, Int.toNat_zero, List.drop_zero, Int.toNat_natCast, T1, Option.bind_some]
      have := tail 0
      simp only [List.drop_zero] at this
      rw [this]
    · rw [decide_eq_true (show (L.length : Int) > 0 by omega), cond_true, Option.bind_some, hm0 hz, decide_eq_false hz, cond_false]
      simp only [Int.le_refl, decide_true, cond_true, nn_, Int.toNat_zero, List.drop_zero, Int.toNat_natCast, T1, T2, Option.bind_some, decide_eq_true (show ((m : Nat) : Int) ≤ (L.length : Int) by have := hm1 hz; omega)]
      rw [tail]
  rw [hX]
  rw [eT, Option.bind_some]
  simp only
  rw [impl_Transfer_e hk _ _ _ _ _ _ _ _ _ _ _ _ hg hf hr ho, Option.bind_some]
  simp only [impl_SealDeed_e hk, impl_IsDeed_e hk, Option.bind_some]
  have D : isDeedV e1 e2 e3 (deedSealV 11 1 e1 e2 e3) (deedSealV k2 2 e1 e2 e3) 11 k2 = true → isDeedV e1 e2 (w64 (e3.tmod 9 + 1)) (deedSealV 11 1 e1 e2 e3) (deedSealV k2 2 e1 e2 e3) 11 k2 = false := fun h => by
    cases h' : isDeedV e1 e2 (w64 (e3.tmod 9 + 1)) (deedSealV 11 1 e1 e2 e3) (deedSealV k2 2 e1 e2 e3) 11 k2 with
    | false => rfl
    | true =>
      have h2 := h
      unfold isDeedV at h2
      simp only [Bool.and_eq_true] at h2
      exact absurd (deed_to (s := 0) (t := 0) h h') (tmod_next (inR_true.1 h2.2.2.1) (by decide) (by decide))
  have K : isDeedV e1 e2 e3 (deedSealV 11 1 e1 e2 e3) (deedSealV k2 2 e1 e2 e3) k2 11 = true → ((11 : Int) != k2) = false := fun h => by
    rcases hk2' with rfl | rfl
    · exact (deed_keys h).elim
    · rfl
  generalize isDeedV e1 e2 e3 (deedSealV 11 1 e1 e2 e3) (deedSealV k2 2 e1 e2 e3) 11 k2 = p1 at D
  generalize isDeedV e1 e2 (w64 (e3.tmod 9 + 1)) (deedSealV 11 1 e1 e2 e3) (deedSealV k2 2 e1 e2 e3) 11 k2 = p2 at D
  generalize isDeedV e1 e2 e3 (deedSealV 11 1 e1 e2 e3) (deedSealV k2 2 e1 e2 e3) k2 11 = p3 at K
  have EQ := impl_EqualPackages_e hk a b c d a b c d g f r o hg hf hr ho
  rw [eqPkg_refl] at EQ
  cases hm : mayMove key a b c g f r o d e1 e2 e3 e4 e5 11 k2 with
  | false =>
    simp only [cond_false, EQ, Option.bind_some]
    cases p1 with
    | false => rfl
    | true =>
      rw [D rfl]
      cases p3 with
      | false => rfl
      | true => rw [K rfl]; rfl
  | true =>
    unfold mayMove at hm
    simp only [Bool.and_eq_true] at hm
    obtain ⟨⟨m1, m2, m3⟩, m4, m5, m6⟩ := hm
    have q := m4
    unfold isDeedV at q
    simp only [Bool.and_eq_true] at q
    have hpk : isPk a e3 c g f r o = true := by
      unfold isPk at m1 ⊢
      simp only [Bool.and_eq_true] at m1 ⊢
      exact ⟨m1.1, q.2.2.1, m1.2.2⟩
    have hbne : (b != e2) = false := by rw [bne, m6]; rfl
    simp only [cond_true, m4, impl_IsSealed_e hk _ _ _ _ _ hg hf hr ho, hpk, m2, beq_self_eq_true, Bool.and_true, hbne, bne_self_eq_false, Option.bind_some]
    cases p1 with
    | false => rfl
    | true =>
      rw [D rfl]
      cases p3 with
      | false => rfl
      | true => rw [K rfl]; rfl
end Go.Proofs.Ythingkcckjiniaa.PFnTransferred.Pure
