/- The law FnExactCanRollBack as a statement over numbers and lists, with its proof; no conditions but the bounds of the values' types and of the slices' lengths. -/
import Derived.Test.YtoenilndklbceaaGreatPFnExactCanRollBack10
set_option linter.unusedVariables false
set_option linter.unusedSimpArgs false
namespace Go.Proofs.YtoenilndklbceaaGreat.PFnExactCanRollBack.Pure
open Go Go.Eng Go.Proofs
theorem spec_l1In_e (k : Nat) (n a b : Int) : spec_l1In.f k n a b = some (inR n a b) := by
  unfold spec_l1In.f inR
  by_cases h : a ≤ n <;> simp [h]
def isPattern (a b : Int) : Bool := inR a 0 9 && inR b (-1) 9
theorem spec_IsPattern_e (k : Nat) (a b : Int) : spec_IsPattern.f k a b = some (isPattern a b) := by
  unfold spec_IsPattern.f isPattern
  simp only [spec_l1In_e, Option.bind_some]
  cases inR a 0 9 <;> simp
def isGrant (e a b kd f u : Int) : Bool := inR e 1 5 && (isPattern a b && (inR kd 1 4 && (decide (0 ≤ f) && (decide (f ≤ u) && decide (u ≤ 10000)))))
theorem spec_IsGrant_e (k : Nat) (e a b kd f u : Int) (cl : Bool) : spec_IsGrant.f k e a b kd f u cl = some (isGrant e a b kd f u) := by
  unfold spec_IsGrant.f isGrant
  simp only [spec_l1In_e, spec_IsPattern_e, Option.bind_some, ge_iff_le]
  cases inR e 1 5 <;> cases isPattern a b <;> cases inR kd 1 4 <;> by_cases h1 : 0 ≤ f <;> by_cases h2 : f ≤ u <;> simp [h1, h2]
def isFlowV (a b c : Int) : Bool := inR a 1 5 && (inR b 1 9 && inR c 1 9)
theorem spec_IsFlow_e (k : Nat) (a b c : Int) : spec_IsFlow.f k a b c = some (isFlowV a b c) := by
  unfold spec_IsFlow.f isFlowV
  simp only [spec_l1In_e, Option.bind_some]
  cases inR a 1 5 <;> cases inR b 1 9 <;> simp
def isSiteV (a b : Int) : Bool := inR a 1 9 && inR b 0 9
theorem spec_IsSite_e (k : Nat) (a b : Int) : spec_IsSite.f k a b = some (isSiteV a b) := by
  unfold spec_IsSite.f isSiteV
  simp only [spec_l1In_e, Option.bind_some]
  cases inR a 1 9 <;> simp
def isRuleV (e o p q kd a s1 s2 : Int) : Bool := inR e 1 5 && (inR o 1 9 && (isPattern p q && (inR kd 0 4 && (inR a 1 3 && (if a = 3 then isSiteV s1 s2 else (s1 == 0 && s2 == 0))))))
theorem spec_IsRule_e (k : Nat) (e o p q kd a s1 s2 : Int) : spec_IsRule.f k e o p q kd a s1 s2 = some (isRuleV e o p q kd a s1 s2) := by
  unfold spec_IsRule.f isRuleV
  simp only [spec_l1In_e, spec_IsPattern_e, spec_IsSite_e, Option.bind_some]
  cases inR e 1 5 <;> cases inR o 1 9 <;> cases isPattern p q <;> cases inR kd 0 4 <;> cases inR a 1 3 <;> (by_cases h : a = 3 <;> cases isSiteV s1 s2 <;> first | (simp [h]; done) | simp [h, beqF h, bneT h])
def isOpV (kd a b c : Int) : Bool := inR a 0 5 && (if kd = 1 ∨ kd = 5 then inR b 1 9 && c == 0 else if kd = 2 then inR b 0 999 && c == 0 else if kd = 3 ∨ kd = 4 then inR b 0 5 && inR c 0 5 else false)
theorem spec_l21Ok_e (k : Nat) (kd a b c : Int) : spec_l21Ok.f k kd a b c = some (isOpV kd a b c) := by
  unfold spec_l21Ok.f isOpV
  simp only [spec_l1In_e, Option.bind_some]
  cases inR a 0 5 <;>
  · by_cases h1 : kd = 1
    · subst h1; cases inR b 1 9 <;> simp
    · by_cases h5 : kd = 5
      · subst h5; cases inR b 1 9 <;> simp
      · by_cases h2 : kd = 2
        · subst h2; cases inR b 0 999 <;> simp
        · by_cases h3 : kd = 3
          · subst h3; cases inR b 0 5 <;> simp
          · by_cases h4 : kd = 4
            · subst h4; cases inR b 0 5 <;> simp
            · simp [h1, h2, h3, h4, h5, beqF h1, beqF h2, beqF h3, beqF h4, beqF h5]
def opOk (x : T_impl_Op) : Bool := isOpV x.f0 x.f1 x.f2 x.f3
def areOps (l : List T_impl_Op) : Bool := l.all opOk && decide (l.length ≤ 16)
theorem spec_AreOps_e {k : Nat} (hk : Big k) {l : List T_impl_Op} (hl : Ok l) : spec_AreOps.f k l = some (areOps l) := by
  unfold spec_AreOps.f areOps
  rw [loop_all (spec_AreOps.l2 k l (fun y => some y) (fun _ => some (decide ((l.length : Int) ≤ 16)))) opOk (some (decide ((l.length : Int) ≤ 16))) (some false) l (fun n i x hx => by
    obtain ⟨h1, h2, h3, h4⟩ := at_ hx (by have := hl.out; omega)
    simp only [spec_AreOps.l2, spec_AreOps.L2, rd_impl_Op, h1, h2, h3, h4, spec_l21Ok_e, Option.bind_some, cond_true]
    cases hp : opOk x <;> simp only [opOk] at hp <;> rw [hp] <;> rfl) (fun n => by simp only [spec_AreOps.l2, spec_AreOps.L2, end_, cond_false]) k (hk.lt hl)]
  have : decide ((l.length : Int) ≤ 16) = decide (l.length ≤ 16) := by rw [decide_eq_decide]; omega
  rw [this]
  cases l.all opOk <;> rfl
def gAt (a : Int) (x : T_impl_Grant) : Bool := isGrant x.f0 x.f1.f0 x.f1.f1 x.f2 x.f3 x.f4 && x.f0 == a
def fAt (a : Int) (x : T_impl_Flow) : Bool := isFlowV x.f0 x.f1 x.f2 && x.f0 == a
def rAt (a : Int) (x : T_impl_Rule) : Bool := isRuleV x.f0 x.f1 x.f2.f0 x.f2.f1 x.f3 x.f4 x.f5.f0 x.f5.f1 && x.f0 == a
def isPk (a b c : Int) (g : List T_impl_Grant) (f : List T_impl_Flow) (r : List T_impl_Rule) (o : List T_impl_Op) : Bool :=
  inR a 1 5 && (inR b 1 9 && (inR c 1 999 && (decide (g.length ≤ 6) && (decide (f.length ≤ 6) && (decide (r.length ≤ 6) && (areOps o && (g.all (gAt a) && (f.all (fAt a) && r.all (rAt a)))))))))
theorem spec_IsPackage_e {k : Nat} (hk : Big k) (a b c : Int) {g : List T_impl_Grant} {f : List T_impl_Flow} {r : List T_impl_Rule} {o : List T_impl_Op} (d : Int) (hg : Ok g) (hf : Ok f) (hr : Ok r) (ho : Ok o) :
    spec_IsPackage.f k a b c g f r o d = some (isPk a b c g f r o) := by
  unfold spec_IsPackage.f isPk
  have t1 : ∀ X1, spec_IsPackage.l4 k g f r o a b c d (fun y => some y) X1 k 0 = bif g.all (gAt a) then X1 () else some false := fun X1 =>
    loop_all _ (gAt a) _ _ g (fun n i x hx => by
      obtain ⟨h1, h2, h3, h4⟩ := at_ hx (by have := hg.out; omega)
      simp only [spec_IsPackage.l4, spec_IsPackage.L4, rd_impl_Grant, h1, h2, h3, h4, spec_IsGrant_e, Option.bind_some, cond_true, gAt, bne]
      cases isGrant x.f0 x.f1.f0 x.f1.f1 x.f2 x.f3 x.f4 <;> cases (x.f0 == a) <;> rfl) (fun n => by simp only [spec_IsPackage.l4, spec_IsPackage.L4, end_, cond_false]) k (hk.lt hg)
  have t2 : ∀ X1, spec_IsPackage.l9 k g f r o a b c d (fun y => some y) X1 k 0 = bif f.all (fAt a) then X1 () else some false := fun X1 =>
    loop_all _ (fAt a) _ _ f (fun n i x hx => by
      obtain ⟨h1, h2, h3, h4⟩ := at_ hx (by have := hf.out; omega)
      simp only [spec_IsPackage.l9, spec_IsPackage.L9, rd_impl_Flow, h1, h2, h3, h4, spec_IsFlow_e, Option.bind_some, cond_true, fAt, bne]
      cases isFlowV x.f0 x.f1 x.f2 <;> cases (x.f0 == a) <;> rfl) (fun n => by simp only [spec_IsPackage.l9, spec_IsPackage.L9, end_, cond_false]) k (hk.lt hf)
  have t3 : ∀ X1, spec_IsPackage.l14 k g f r o a b c d (fun y => some y) X1 k 0 = bif r.all (rAt a) then X1 () else some false := fun X1 =>
    loop_all _ (rAt a) _ _ r (fun n i x hx => by
      obtain ⟨h1, h2, h3, h4⟩ := at_ hx (by have := hr.out; omega)
      simp only [spec_IsPackage.l14, spec_IsPackage.L14, rd_impl_Rule, h1, h2, h3, h4, spec_IsRule_e, Option.bind_some, cond_true, rAt, bne]
      cases isRuleV x.f0 x.f1 x.f2.f0 x.f2.f1 x.f3 x.f4 x.f5.f0 x.f5.f1 <;> cases (x.f0 == a) <;> rfl) (fun n => by simp only [spec_IsPackage.l14, spec_IsPackage.L14, end_, cond_false]) k (hk.lt hr)
  simp only [spec_l1In_e, Option.bind_some, spec_AreOps_e hk ho, t1, t2, t3]
  have e : ∀ n : Nat, decide ((n : Int) > 6) = !decide (n ≤ 6) := fun n => by by_cases h : n ≤ 6 <;> simp [h] <;> omega
  rw [e, e, e]
  cases inR a 1 5 <;> cases inR b 1 9 <;> cases inR c 1 999 <;> cases decide (g.length ≤ 6) <;> cases decide (f.length ≤ 6) <;> cases decide (r.length ≤ 6) <;> try rfl
  cases areOps o <;> cases g.all (gAt a) <;> cases f.all (fAt a) <;> cases r.all (rAt a) <;> rfl
theorem spec_l26Copy_e (k : Nat) (a b c : Int) {g : List T_impl_Grant} {f : List T_impl_Flow} {r : List T_impl_Rule} {o : List T_impl_Op} (d : Int) (hg : Ok g) (hf : Ok f) (hr : Ok r) (ho : Ok o) :
    spec_l26Copy.f k a b c g f r o d = some (a, b, c, d, g, f, r, o) := by
  have := hg.out; have := hf.out; have := hr.out; have := ho.out
  unfold spec_l26Copy.f
  rw [decide_eq_true (by unfold cap48; simp; omega), decide_eq_true (by unfold cap48; simp; omega), decide_eq_true (by unfold cap48; simp; omega), decide_eq_true (by unfold cap48; simp; omega)]
  rfl
theorem spec_IsValidKey_e (k : Nat) (n : Int) : spec_IsValidKey.f k n = some (inR n 1 2147483646) := by
  unfold spec_IsValidKey.f
  rw [spec_l1In_e, Option.bind_some]
def gInts (x : T_impl_Grant) : List Int := [x.f1.f0, x.f1.f1, x.f2, x.f3, x.f4, bif x.f5 then 1 else 0]
def fInts (x : T_impl_Flow) : List Int := [x.f1, x.f2]
def rInts (x : T_impl_Rule) : List Int := [x.f1, x.f2.f0, x.f2.f1, x.f3, x.f4, x.f5.f0, x.f5.f1]
def oInts (x : T_impl_Op) : List Int := [x.f0, x.f1, x.f2, x.f3]
def pkInts (a b c : Int) (g : List T_impl_Grant) (f : List T_impl_Flow) (r : List T_impl_Rule) (o : List T_impl_Op) : List Int :=
  ((((([a, b, c, (g.length : Int)] ++ g.flatMap gInts) ++ [(f.length : Int)]) ++ f.flatMap fInts) ++ [(r.length : Int)]) ++ r.flatMap rInts) ++ [(o.length : Int)] ++ o.flatMap oInts
theorem isPk_len {a b c : Int} {g : List T_impl_Grant} {f : List T_impl_Flow} {r : List T_impl_Rule} {o : List T_impl_Op} (h : isPk a b c g f r o = true) : g.length ≤ 6 ∧ f.length ≤ 6 ∧ r.length ≤ 6 ∧ o.length ≤ 16 := by
  unfold isPk areOps at h
  simp only [Bool.and_eq_true, decide_eq_true_eq] at h
  exact ⟨h.2.2.2.1, h.2.2.2.2.1, h.2.2.2.2.2.1, h.2.2.2.2.2.2.1.2⟩
theorem fm_len {α β : Type} (f : α → List β) (n : Nat) (h : ∀ x, (f x).length = n) (l : List α) : (l.flatMap f).length = l.length * n := by
  induction l with
  | nil => simp
  | cons x xs ih => simp [List.flatMap_cons, h, ih, Nat.add_mul]; omega
/-- A loop that appends to a list of numbers, within a bound. -/
theorem loop_app {α R : Type} (l : Nat → Int → List Int → Option R) (f : α → List Int) (m : Nat) (hm : ∀ x, (f x).length = m) (B : Nat) (X : List Int → Option R) (xs : List α)
    (hs : ∀ n (i : Nat) x s, xs[i]? = some x → s.length + m ≤ B → l (n + 1) (i : Int) s = l n ((i + 1 : Nat) : Int) (s ++ f x)) (he : ∀ n s, l (n + 1) (xs.length : Int) s = X s) (n : Nat) (s : List Int) (hn : xs.length < n) (hB : s.length + xs.length * m ≤ B) :
    l n 0 s = X (s ++ xs.flatMap f) := by
  have := loop_fold l (fun s x => s ++ f x) (fun i s => s.length + (xs.length - i) * m ≤ B) X xs (fun n i x s hx hi => hs n i x s hx (by
      have := lt_of hx
      have e : (xs.length - i) * m = (xs.length - i - 1) * m + m := by rw [← Nat.succ_mul]; congr 1; omega
      have hi : s.length + (xs.length - i) * m ≤ B := hi
      omega)) (fun i x s hx hi => by
      have := lt_of hx
      have e : (xs.length - i) * m = (xs.length - (i + 1)) * m + m := by rw [← Nat.succ_mul]; congr 1; omega
      have hi : s.length + (xs.length - i) * m ≤ B := hi
      show (s ++ f x).length + (xs.length - (i + 1)) * m ≤ B
      rw [List.length_append, hm]; omega) (fun n s _ => he n s) n s hn (by simpa using hB)
  rw [this, foldl_append]
theorem cap8 {a b : Nat} (h : a + b ≤ 1000000) : decide ((a + b) * 8 ≤ cap48) = true := decide_eq_true (by unfold cap48; omega)
theorem spec_PackageInts_e {k : Nat} (hk : Big k) (a b c : Int) {g : List T_impl_Grant} {f : List T_impl_Flow} {r : List T_impl_Rule} {o : List T_impl_Op} (d : Int) (hg : Ok g) (hf : Ok f) (hr : Ok r) (ho : Ok o) :
    spec_PackageInts.f k a b c g f r o d = some (bif isPk a b c g f r o then pkInts a b c g f r o else []) := by
  unfold spec_PackageInts.f
  simp only [spec_IsPackage_e hk a b c d hg hf hr ho, Option.bind_some]
  cases hp : isPk a b c g f r o with
  | false => rfl
  | true =>
    obtain ⟨l1, l2, l3, l4⟩ := isPk_len hp
    have t1 : ∀ (X : List Int → Option (List Int)) s, s.length ≤ 1000 → spec_PackageInts.l5 k g f r o a b c d X k 0 s = X (s ++ g.flatMap gInts) := fun X s hs =>
      loop_app _ gInts 6 (fun _ => rfl) 1040 X g (fun n i x s hx hb => by
        obtain ⟨h1, h2, h3, h4⟩ := at_ hx (by omega)
        simp only [spec_PackageInts.l5, spec_PackageInts.L5, rd_impl_Grant, h1, h2, h3, h4, cond_true]
        cases hc : x.f5 <;> simp only [cond_true, cond_false, gInts, hc] <;> rw [cap8 (by simp only [List.length_cons, List.length_nil]; omega)] <;> rfl) (fun n s => by simp only [spec_PackageInts.l5, spec_PackageInts.L5, end_, cond_false]) k s (hk.lt hg) (by omega)
    have t2 : ∀ (X : List Int → Option (List Int)) s, s.length ≤ 1100 → spec_PackageInts.l14 k g f r o a b c d X k 0 s = X (s ++ f.flatMap fInts) := fun X s hs =>
      loop_app _ fInts 2 (fun _ => rfl) 1140 X f (fun n i x s hx hb => by
        obtain ⟨h1, h2, h3, h4⟩ := at_ hx (by omega)
        simp only [spec_PackageInts.l14, spec_PackageInts.L14, rd_impl_Flow, h1, h2, h3, h4, cond_true, fInts]
        rw [cap8 (by simp only [List.length_cons, List.length_nil]; omega)]; rfl) (fun n s => by simp only [spec_PackageInts.l14, spec_PackageInts.L14, end_, cond_false]) k s (hk.lt hf) (by omega)
    have t3 : ∀ (X : List Int → Option (List Int)) s, s.length ≤ 1200 → spec_PackageInts.l19 k g f r o a b c d X k 0 s = X (s ++ r.flatMap rInts) := fun X s hs =>
      loop_app _ rInts 7 (fun _ => rfl) 1260 X r (fun n i x s hx hb => by
        obtain ⟨h1, h2, h3, h4⟩ := at_ hx (by omega)
        simp only [spec_PackageInts.l19, spec_PackageInts.L19, rd_impl_Rule, h1, h2, h3, h4, cond_true, rInts]
        rw [cap8 (by simp only [List.length_cons, List.length_nil]; omega)]; rfl) (fun n s => by simp only [spec_PackageInts.l19, spec_PackageInts.L19, end_, cond_false]) k s (hk.lt hr) (by omega)
    have t4 : ∀ (X : List Int → Option (List Int)) s, s.length ≤ 1300 → spec_PackageInts.l25 k g f r o a b c d X k 0 s = X (s ++ o.flatMap oInts) := fun X s hs =>
      loop_app _ oInts 4 (fun _ => rfl) 1400 X o (fun n i x s hx hb => by
        obtain ⟨h1, h2, h3, h4⟩ := at_ hx (by omega)
        simp only [spec_PackageInts.l25, spec_PackageInts.L25, rd_impl_Op, h1, h2, h3, h4, cond_true, oInts]
        rw [cap8 (by simp only [List.length_cons, List.length_nil]; omega)]; rfl) (fun n s => by simp only [spec_PackageInts.l25, spec_PackageInts.L25, end_, cond_false]) k s (hk.lt ho) (by omega)
    have n1 := fm_len gInts 6 (fun _ => rfl) g
    have n2 := fm_len fInts 2 (fun _ => rfl) f
    have n3 := fm_len rInts 7 (fun _ => rfl) r
    rw [Bool.not_true, cond_false, cond_true, t1 _ _ (by simp)]
    rw [cap8 (by simp only [List.length_append, List.length_cons, List.length_nil]; omega), cond_true, t2 _ _ (by simp only [List.length_append, List.length_cons, List.length_nil]; omega)]
    rw [cap8 (by simp only [List.length_append, List.length_cons, List.length_nil]; omega), cond_true, t3 _ _ (by simp only [List.length_append, List.length_cons, List.length_nil]; omega)]
    rw [cap8 (by simp only [List.length_append, List.length_cons, List.length_nil]; omega), cond_true, t4 _ _ (by simp only [List.length_append, List.length_cons, List.length_nil]; omega)]
    rfl
def M31 : Int := 2147483647
def fold1 (h v : Int) : Int := (w64 ((w64 ((w64 (h * (1000003 : Int))) + v % 2147483647)) + (13 : Int))).tmod (2147483647 : Int)
theorem tmod31 (a : Int) : -2147483647 < a.tmod 2147483647 ∧ a.tmod 2147483647 < 2147483647 := by
  constructor
  · have := Int.lt_tmod_of_pos a (show (0 : Int) < 2147483647 by decide); omega
  · exact Int.tmod_lt_of_pos a (by decide)
theorem tmod31_neg (a : Int) (h : a.tmod 2147483647 < 0) : a.tmod 2147483647 + 2147483647 = a % 2147483647 := by
  rw [Int.tmod_eq_emod] at h ⊢
  have h1 := Int.emod_nonneg a (show (2147483647 : Int) ≠ 0 by decide)
  split at h
  · omega
  · rename_i hn; rw [if_neg hn]; omega
theorem tmod31_nn (a : Int) (h : ¬ a.tmod 2147483647 < 0) : a.tmod 2147483647 = a % 2147483647 := by
  rw [Int.tmod_eq_emod] at h ⊢
  have h1 := Int.emod_lt_of_pos a (show (0 : Int) < 2147483647 by decide)
  split at h
  · rename_i hn; rw [if_pos hn]; omega
  · rename_i hn
    exfalso
    omega
theorem spec_Mod_e (k : Nat) (a : Int) : spec_Mod.f k a 2147483647 = some (a % 2147483647) := by
  unfold spec_Mod.f
  rw [spec_l1In_e, Option.bind_some, show inR 2147483647 1 1000000000000 = true from rfl]
  simp only [Bool.not_true, cond_false, show decide ((2147483647 : Int) = 0) = false from rfl, Option.some.injEq]
  have h0 := tmod31 a
  rw [w64_id (by omega)]
  by_cases h : a.tmod 2147483647 < 0
  · rw [tmod31_neg a h, Int.tmod_eq_of_lt (Int.emod_nonneg _ (by decide)) (Int.emod_lt_of_pos _ (by decide))]
  · have e := tmod31_nn a h
    rw [Int.tmod_eq_emod_of_nonneg (by omega), e]
    omega
theorem spec_Hash_e {k : Nat} (hk : Big k) {l : List Int} (hl : l.length ≤ 1100000) : spec_Hash.f k l = some (l.foldl fold1 11) := by
  unfold spec_Hash.f
  exact loop_fold (fun n i s => spec_Hash.l3 k l (fun y => some y) n s i) fold1 (fun _ _ => True) (fun y => some y) l (fun n i x s hx _ => by
    obtain ⟨h1, h2, h3, h4⟩ := at_ hx (by omega)
    simp only [spec_Hash.l3, spec_Hash.L3, rd_i64, h1, h2, h3, h4, cond_true, spec_Mod_e, Option.bind_some, fold1]) (fun _ _ _ _ _ => trivial)
    (fun n s _ => by simp only [spec_Hash.l3, spec_Hash.L3, end_, cond_false]) k 11 (by have := hk.out; omega) trivial
def keyed (key : Int) (l : List Int) : Int := (([key] ++ l) ++ [key]).foldl fold1 11
theorem spec_KeyedHash_e {k : Nat} (hk : Big k) (key : Int) {l : List Int} (hl : l.length ≤ 1000000) : spec_KeyedHash.f k key l = some (keyed key l) := by
  unfold spec_KeyedHash.f keyed
  have c1 : decide ((([key] : List Int).length + l.length) * 8 ≤ cap48) = true := decide_eq_true (by unfold cap48; simp; omega)
  have c2 : decide (((([key] : List Int) ++ l).length + ([key] : List Int).length) * 8 ≤ cap48) = true := decide_eq_true (by unfold cap48; simp; omega)
  rw [c1, c2, cond_true, cond_true, spec_Hash_e hk (by simp; omega), Option.bind_some]
def sealV (key a b c : Int) (g : List T_impl_Grant) (f : List T_impl_Flow) (r : List T_impl_Rule) (o : List T_impl_Op) : Int :=
  bif inR key 1 2147483646 && isPk a b c g f r o then keyed key (pkInts a b c g f r o) else 0
theorem pkInts_len {a b c : Int} {g : List T_impl_Grant} {f : List T_impl_Flow} {r : List T_impl_Rule} {o : List T_impl_Op} (h : isPk a b c g f r o = true) : (pkInts a b c g f r o).length ≤ 1000000 := by
  obtain ⟨l1, l2, l3, l4⟩ := isPk_len h
  have n1 := fm_len gInts 6 (fun _ => rfl) g
  have n2 := fm_len fInts 2 (fun _ => rfl) f
  have n3 := fm_len rInts 7 (fun _ => rfl) r
  have n4 := fm_len oInts 4 (fun _ => rfl) o
  unfold pkInts
  simp only [List.length_append, List.length_cons, List.length_nil]
  omega
theorem spec_SealPackage_e {k : Nat} (hk : Big k) (key a b c : Int) {g : List T_impl_Grant} {f : List T_impl_Flow} {r : List T_impl_Rule} {o : List T_impl_Op} (d : Int) (hg : Ok g) (hf : Ok f) (hr : Ok r) (ho : Ok o) :
    spec_SealPackage.f k key a b c g f r o d = some (a, b, c, sealV key a b c g f r o, g, f, r, o) := by
  unfold spec_SealPackage.f sealV
  simp only [spec_l26Copy_e k a b c d hg hf hr ho, spec_IsValidKey_e, spec_IsPackage_e hk a b c d hg hf hr ho, spec_PackageInts_e hk a b c d hg hf hr ho, Option.bind_some]
  cases inR key 1 2147483646 with
  | false => rfl
  | true =>
    cases hp : isPk a b c g f r o with
    | false => rfl
    | true =>
      simp only [cond_true, Bool.true_and, spec_KeyedHash_e hk key (pkInts_len hp), Option.bind_some]
theorem spec_IsSealed_e {k : Nat} (hk : Big k) (key a b c : Int) {g : List T_impl_Grant} {f : List T_impl_Flow} {r : List T_impl_Rule} {o : List T_impl_Op} (d : Int) (hg : Ok g) (hf : Ok f) (hr : Ok r) (ho : Ok o) :
    spec_IsSealed.f k key a b c g f r o d = some (isPk a b c g f r o && (inR key 1 2147483646 && (sealV key a b c g f r o == d))) := by
  unfold spec_IsSealed.f
  simp only [spec_SealPackage_e hk key a b c d hg hf hr ho, spec_IsValidKey_e, spec_IsPackage_e hk a b c d hg hf hr ho, Option.bind_some]
  cases isPk a b c g f r o <;> cases inR key 1 2147483646 <;> rfl
def isNarrow (a b c d : Int) : Bool := isPattern a b && (isPattern c d && ((c == 0 || a == c) && (d == -1 || b == d)))
theorem spec_IsNarrower_e (k : Nat) (a b c d : Int) : spec_IsNarrower.f k a b c d = some (isNarrow a b c d) := by
  unfold spec_IsNarrower.f isNarrow
  simp only [spec_IsPattern_e, Option.bind_some]
  cases isPattern a b <;> cases isPattern c d <;> cases (c == 0) <;> cases (a == c) <;> cases (d == -1) <;> rfl
def coverOne (r : T_impl_Rule) (g : T_impl_Grant) : Bool := (g.f2 == 3) && isNarrow r.f2.f0 r.f2.f1 g.f1.f0 g.f1.f1
def rulesV (g : List T_impl_Grant) (r : List T_impl_Rule) : Bool := r.all fun x => g.any (coverOne x)
theorem spec_l27Rules_e {k : Nat} (hk : Big k) (a b c d : Int) {g : List T_impl_Grant} {f : List T_impl_Flow} {r : List T_impl_Rule} {o : List T_impl_Op} (hg : Ok g) (hr : Ok r) : spec_l27Rules.f k a b c g f r o d = some (rulesV g r) := by
  unfold spec_l27Rules.f rulesV
  have inner : ∀ (X : Bool → Option Bool) (i : Nat) (x : T_impl_Rule), r[i]? = some x → spec_l27Rules.l6 k (i : Int) g f r o a b c d X k false 0 = X (g.any (coverOne x)) := by
    intro X i x hx
    obtain ⟨h1, h2, h3, h4⟩ := at_ hx (by have := hr.out; omega)
    have := loop_fold (fun q j s => spec_l27Rules.l6 k (i : Int) g f r o a b c d X q s j) (fun s y => s || coverOne x y) (fun _ _ => True) X g (fun q j y s hy _ => by
      obtain ⟨g1, g2, g3, g4⟩ := at_ hy (by have := hg.out; omega)
      simp only [spec_l27Rules.l6, spec_l27Rules.L6, rd_impl_Grant, rd_impl_Rule, h1, h2, h4, g1, g2, g3, g4, cond_true, spec_IsNarrower_e, Option.bind_some, coverOne]
      cases s <;> cases y.f2 == 3 <;> rfl) (fun _ _ _ _ _ => trivial) (fun q s _ => by simp only [spec_l27Rules.l6, spec_l27Rules.L6, end_, cond_false]) k false (hk.lt hg) trivial
    rw [this]
    have e : ∀ (ys : List T_impl_Grant) s, ys.foldl (fun s y => s || coverOne x y) s = (s || ys.any (coverOne x)) := by
      intro ys
      induction ys with
      | nil => intro s; simp
      | cons y ys ih => intro s; rw [List.foldl_cons, ih, List.any_cons, Bool.or_assoc]
    rw [e]; rfl
  rw [loop_all (spec_l27Rules.l2 k g f r o a b c d (fun y => some y) (fun _ => some true)) (fun x => g.any (coverOne x)) (some true) (some false) r (fun n i x hx => by
    obtain ⟨h1, h2, h3, h4⟩ := at_ hx (by have := hr.out; omega)
    simp only [spec_l27Rules.l2, spec_l27Rules.L2, h1, h3, cond_true, inner _ i x hx]
    cases g.any (coverOne x) <;> rfl) (fun n => by simp only [spec_l27Rules.l2, spec_l27Rules.L2, end_, cond_false]) k (hk.lt hr)]
  cases r.all fun x => g.any (coverOne x) <;> rfl
abbrev Asc (l : List Int) : Prop := l.Pairwise (· < ·)
theorem asc_ext : ∀ {l m : List Int}, Asc l → Asc m → (∀ y, y ∈ l ↔ y ∈ m) → l = m
  | [], [], _, _, _ => rfl
  | [], y :: m, _, _, h => by have := (h y).2 (List.mem_cons_self ..); cases this
  | x :: l, [], _, _, h => by have := (h x).1 (List.mem_cons_self ..); cases this
  | x :: l, y :: m, hl, hm, h => by
    obtain ⟨h1, h2⟩ := List.pairwise_cons.1 hl
    obtain ⟨h3, h4⟩ := List.pairwise_cons.1 hm
    have e : x = y := by
      rcases List.mem_cons.1 ((h x).1 (List.mem_cons_self ..)) with e | e
      · exact e
      · rcases List.mem_cons.1 ((h y).2 (List.mem_cons_self ..)) with e' | e'
        · exact e'.symm
        · have := h1 _ e'; have := h3 _ e; omega
    subst e
    rw [asc_ext h2 h4 fun z => ?_]
    constructor
    · intro hz
      rcases List.mem_cons.1 ((h z).1 (List.mem_cons_of_mem _ hz)) with e | e
      · have := h1 _ hz; omega
      · exact e
    · intro hz
      rcases List.mem_cons.1 ((h z).2 (List.mem_cons_of_mem _ hz)) with e | e
      · have := h3 _ hz; omega
      · exact e
def leB (x y : Int) : Bool := decide (x ≤ y)
def ordV (l : List Int) : List Int := Go.Lib.compact (l.mergeSort fun x y => decide (x ≤ y))
theorem compact_up {d : Array Int} (hd : ∀ i j, i ≤ j → j < d.size → d[i]! ≤ d[j]!) : ∀ m, m ≤ d.size → Asc (Go.Lib.compactUpTo d m) ∧ (∀ y ∈ Go.Lib.compactUpTo d m, ∃ j, j < m ∧ d[j]! = y) ∧ ∀ j, j < m → d[j]! ∈ Go.Lib.compactUpTo d m
  | 0, _ => ⟨by unfold Go.Lib.compactUpTo; simp, fun y hy => by unfold Go.Lib.compactUpTo at hy; simp at hy, fun j hj => by omega⟩
  | m + 1, hm => by
    obtain ⟨h1, h2, h3⟩ := compact_up hd m (by omega)
    rw [Go.Lib.compactUpTo_succ]
    cases hk : Go.Lib.keeps d m with
    | true =>
      rw [if_pos rfl]
      refine ⟨?_, fun y hy => ?_, fun j hj => ?_⟩
      · refine List.pairwise_append.2 ⟨h1, List.pairwise_singleton _ _, fun a ha b hb => ?_⟩
        obtain rfl := List.mem_singleton.1 hb
        obtain ⟨j, hj, rfl⟩ := h2 a ha
        unfold Go.Lib.keeps at hk
        rcases of_decide_eq_true hk with h0 | hne
        · omega
        · have q1 := hd j (m - 1) (by omega) (by omega)
          have q2 := hd (m - 1) m (by omega) (by omega)
          omega
      · rcases List.mem_append.1 hy with h | h
        · obtain ⟨j, hj, e⟩ := h2 y h
          exact ⟨j, by omega, e⟩
        · exact ⟨m, by omega, (List.mem_singleton.1 h).symm⟩
      · by_cases e : j = m
        · subst e; exact List.mem_append.2 (.inr (List.mem_singleton.2 rfl))
        · exact List.mem_append.2 (.inl (h3 j (by omega)))
    | false =>
      rw [if_neg (by simp), List.append_nil]
      refine ⟨h1, fun y hy => ?_, fun j hj => ?_⟩
      · obtain ⟨j, hj, e⟩ := h2 y hy
        exact ⟨j, by omega, e⟩
      · by_cases e : j = m
        · subst e
          unfold Go.Lib.keeps at hk
          have hn := of_decide_eq_false hk
          have e2 : d[j]! = d[j - 1]! := by
            by_cases e3 : d[j]! = d[j - 1]!
            · exact e3
            · exact absurd (.inr e3) hn
          have e4 : j ≠ 0 := fun e => hn (.inl e)
          rw [e2]
          exact h3 _ (by omega)
        · exact h3 j (by omega)
theorem ordV_spec (l : List Int) : Asc (ordV l) ∧ ∀ y, y ∈ ordV l ↔ y ∈ l := by
  unfold ordV Go.Lib.compact
  have hs : (l.mergeSort fun x y => decide (x ≤ y)).Pairwise fun a b => decide (a ≤ b) = true := List.pairwise_mergeSort (le := fun x y : Int => decide (x ≤ y)) (fun a b c h1 h2 => by simp at *; omega) (fun a b => by simp; omega) l
  have hm : ∀ y, y ∈ (l.mergeSort fun x y => decide (x ≤ y)) ↔ y ∈ l := fun y => (List.mergeSort_perm l _).mem_iff
  generalize l.mergeSort (fun x y => decide (x ≤ y)) = s at hs hm
  have hd : ∀ i j, i ≤ j → j < s.toArray.size → s.toArray[i]! ≤ s.toArray[j]! := by
    intro i j hij hj
    have hj' : j < s.length := by simpa using hj
    rw [getElem!_pos s.toArray i (by simpa using (show i < s.length by omega)), getElem!_pos s.toArray j hj]
    simp only [List.getElem_toArray]
    by_cases e : i = j
    · subst e; exact Int.le_refl _
    · have := List.pairwise_iff_getElem.1 hs i j (by omega) hj' (by omega)
      simpa using this
  obtain ⟨h1, h2, h3⟩ := compact_up hd s.length (by simp)
  refine ⟨h1, fun y => ?_⟩
  rw [← hm]
  constructor
  · intro hy
    obtain ⟨j, hj, rfl⟩ := h2 y hy
    rw [getElem!_pos s.toArray j (by simpa using hj)]
    simp
  · intro hy
    obtain ⟨j, hj, rfl⟩ := List.mem_iff_getElem.1 hy
    have := h3 j hj
    rw [getElem!_pos s.toArray j (by simpa using hj)] at this
    simpa using this
theorem ordV_len (l : List Int) : (ordV l).length ≤ l.length := by
  unfold ordV
  exact Nat.le_trans (compact_len _) (Nat.le_of_eq (List.length_mergeSort ..))
def below (x : Int) (l : List Int) : Nat := (l.takeWhile fun y => decide (y < x)).length
def putV (l : List Int) (x : Int) : List Int := bif decide (below x l < l.length) && (rd_i64 l (below x l : Int) == x) then l else l.take (below x l) ++ [x] ++ l.drop (below x l)
theorem mem_tw {α : Type} {p : α → Bool} : ∀ {l : List α} {y : α}, y ∈ l.takeWhile p → p y = true
  | [], y, h => by cases h
  | a :: l, y, h => by
    cases ha : p a with
    | false => rw [List.takeWhile_cons_of_neg (by simp [ha])] at h; cases h
    | true =>
      rw [List.takeWhile_cons_of_pos ha] at h
      rcases List.mem_cons.1 h with e | e
      · rw [e]; exact ha
      · exact mem_tw e
theorem hd_dw {α : Type} {p : α → Bool} : ∀ {l : List α} {y : α} {r : List α}, l.dropWhile p = y :: r → p y = false
  | [], y, r, h => by cases h
  | a :: l, y, r, h => by
    cases ha : p a with
    | false =>
      rw [List.dropWhile_cons_of_neg (by simp [ha])] at h
      obtain ⟨rfl, _⟩ := List.cons.inj h
      exact ha
    | true =>
      rw [List.dropWhile_cons_of_pos ha] at h
      exact hd_dw h
theorem below_le (x : Int) (l : List Int) : below x l ≤ l.length := by unfold below; exact (List.takeWhile_sublist _).length_le
theorem take_below (x : Int) (l : List Int) : l.take (below x l) = l.takeWhile fun y => decide (y < x) := by
  have h : l.takeWhile (fun y => decide (y < x)) ++ l.dropWhile (fun y => decide (y < x)) = l := List.takeWhile_append_dropWhile
  have := congrArg (List.take (below x l)) h
  rw [← this]
  exact List.take_left' rfl
theorem drop_below (x : Int) (l : List Int) : l.drop (below x l) = l.dropWhile fun y => decide (y < x) := by
  have h : l.takeWhile (fun y => decide (y < x)) ++ l.dropWhile (fun y => decide (y < x)) = l := List.takeWhile_append_dropWhile
  have := congrArg (List.drop (below x l)) h
  rw [← this]
  exact List.drop_left' rfl
theorem putV_spec {l : List Int} (h : Asc l) (x : Int) : Asc (putV l x) ∧ ∀ y, y ∈ putV l x ↔ y ∈ l ∨ y = x := by
  unfold putV
  cases hc : decide (below x l < l.length) && (rd_i64 l (below x l : Int) == x) with
  | true =>
    rw [Bool.and_eq_true] at hc
    refine ⟨h, fun y => ⟨fun hy => .inl hy, fun hy => hy.elim id fun e => ?_⟩⟩
    have hlt := of_decide_eq_true hc.1
    have e2 := eq_of_beq hc.2
    subst e
    rw [← e2]
    show l.getD (below y l) z_i64 ∈ l
    rw [List.getD_eq_getElem?_getD, List.getElem?_eq_getElem hlt]
    exact List.getElem_mem hlt
  | false =>
    rw [cond_false]
    have h0 : l.take (below x l) ++ l.drop (below x l) = l := List.take_append_drop _ _
    have ht : ∀ y ∈ l.take (below x l), y < x := by
      intro y hy
      rw [take_below] at hy
      exact of_decide_eq_true (mem_tw (p := fun y => decide (y < x)) hy)
    have hp : Asc (l.take (below x l) ++ l.drop (below x l)) := by rw [h0]; exact h
    obtain ⟨p1, p2, p3⟩ := List.pairwise_append.1 hp
    have hdr : ∀ y ∈ l.drop (below x l), x < y := by
      intro y hy
      have hlt : below x l < l.length := by
        have : 0 < (l.drop (below x l)).length := List.length_pos_of_mem hy
        simp at this; omega
      rw [decide_eq_true hlt, Bool.true_and] at hc
      have hne : l[below x l] ≠ x := by
        intro e
        have : rd_i64 l (below x l : Int) = x := by
          show l.getD (below x l) z_i64 = x
          rw [List.getD_eq_getElem?_getD, List.getElem?_eq_getElem hlt]
          exact e
        rw [this] at hc
        simp at hc
      have hge : x ≤ l[below x l] := by
        have hcons : l.drop (below x l) = l[below x l] :: l.drop (below x l + 1) := List.drop_eq_getElem_cons hlt
        have := hd_dw (p := fun y => decide (y < x)) ((drop_below x l).symm.trans hcons)
        have := of_decide_eq_false this
        omega
      have hcons : l.drop (below x l) = l[below x l] :: l.drop (below x l + 1) := List.drop_eq_getElem_cons hlt
      rw [hcons] at hy p2
      obtain ⟨q1, _⟩ := List.pairwise_cons.1 p2
      rcases List.mem_cons.1 hy with e | e
      · omega
      · have := q1 _ e; omega
    refine ⟨?_, fun y => ?_⟩
    · rw [List.append_assoc]
      refine List.pairwise_append.2 ⟨p1, List.pairwise_cons.2 ⟨hdr, p2⟩, fun a ha b hb => ?_⟩
      rcases List.mem_cons.1 hb with e | e
      · subst e; exact ht a ha
      · exact p3 a ha b e
    · rw [List.mem_append, List.mem_append, List.mem_singleton]
      have : y ∈ l ↔ y ∈ l.take (below x l) ∨ y ∈ l.drop (below x l) := by rw [← List.mem_append, h0]
      rw [this]
      constructor
      · rintro ((h | h) | h)
        · exact .inl (.inl h)
        · exact .inr h
        · exact .inl (.inr h)
      · rintro ((h | h) | h)
        · exact .inl (.inl h)
        · exact .inr h
        · exact .inl (.inr h)
theorem put_fold : ∀ (L s : List Int), Asc s → Asc (L.foldl putV s) ∧ ∀ y, y ∈ L.foldl putV s ↔ y ∈ s ∨ y ∈ L
  | [], s, h => ⟨h, fun y => by simp⟩
  | x :: L, s, h => by
    obtain ⟨h1, h2⟩ := putV_spec h x
    obtain ⟨h3, h4⟩ := put_fold L (putV s x) h1
    refine ⟨h3, fun y => ?_⟩
    rw [List.foldl_cons, h4, h2, List.mem_cons, or_assoc]
theorem put_ord (L : List Int) : L.foldl putV [] = ordV L := by
  obtain ⟨h1, h2⟩ := put_fold L [] List.Pairwise.nil
  obtain ⟨h3, h4⟩ := ordV_spec L
  exact asc_ext h1 h3 fun y => by rw [h2, h4]; simp
theorem putV_len (l : List Int) (x : Int) : (putV l x).length ≤ l.length + 1 := by
  unfold putV
  have := below_le x l
  cases decide (below x l < l.length) && (rd_i64 l (below x l : Int) == x) <;> simp <;> omega
theorem loop_tw {α R : Type} (l : Nat → Int → Option R) (p : α → Bool) (X : Int → Option R) (xs : List α)
    (hs : ∀ n (i : Nat) x, xs[i]? = some x → l (n + 1) (i : Int) = bif p x then l n ((i + 1 : Nat) : Int) else X (i : Int)) (he : ∀ n, l (n + 1) (xs.length : Int) = X (xs.length : Int)) (n : Nat) (hn : xs.length < n) :
    l n 0 = X ((xs.takeWhile p).length : Int) := by
  have key : ∀ (suf pre : List α) n, xs = pre ++ suf → suf.length < n → l n (pre.length : Int) = X ((pre.length + (suf.takeWhile p).length : Nat) : Int) := by
    intro suf
    induction suf with
    | nil =>
      intro pre n hx hn
      obtain ⟨n, rfl⟩ : ∃ q, n = q + 1 := ⟨n - 1, by simp at hn; omega⟩
      have e : pre.length = xs.length := by rw [hx]; simp
      rw [e, he n]
      rfl
    | cons x suf ih =>
      intro pre n hx hn
      obtain ⟨n, rfl⟩ : ∃ q, n = q + 1 := ⟨n - 1, by simp at hn; omega⟩
      have hg : xs[pre.length]? = some x := by rw [hx]; simp
      rw [hs n pre.length x hg]
      cases hp : p x with
      | true =>
        have := ih (pre ++ [x]) n (by rw [hx]; simp) (by simp at hn; omega)
        rw [List.takeWhile_cons_of_pos hp, cond_true]
        simp only [List.length_append, List.length_cons, List.length_nil] at this ⊢
        rw [this]
        congr 2
        omega
      | false =>
        rw [List.takeWhile_cons_of_neg (by simp [hp])]
        rfl
  have := key xs [] n rfl hn
  simpa using this
theorem spec_l6Put_e {k : Nat} (hk : Big k) {l : List Int} (hl : Ok l) (x : Int) : spec_l6Put.f k l x = some (putV l x) := by
  have hl' := hl.out
  have key : ∀ X : Int → Option (List Int), spec_l6Put.l2 k x l X k 0 = X ((below x l : Nat) : Int) := fun X => loop_tw (spec_l6Put.l2 k x l X) (fun y => decide (y < x)) X l (fun n i y hy => by
    obtain ⟨h1, h2, h3, h4⟩ := at_ hy (by omega)
    simp only [spec_l6Put.l2, spec_l6Put.L2, rd_i64, h1, h2, h3, h4, cond_true]) (fun n => by simp only [spec_l6Put.l2, spec_l6Put.L2, end_, cond_false]) k (hk.lt hl)
  unfold spec_l6Put.f
  rw [key]
  have hb := below_le x l
  unfold putV
  clear key
  generalize below x l = b at hb
  have g1 : decide ((([] : List Int).length + l.length) * 8 ≤ cap48) = true := decide_eq_true (by unfold cap48; simp; omega)
  have g2 : decide ((([] : List Int).length + ((l.take b).drop 0).length) * 8 ≤ cap48) = true := decide_eq_true (by unfold cap48; simp; omega)
  have g3 : decide ((([] ++ (l.take b).drop 0 : List Int).length + ([x] : List Int).length) * 8 ≤ cap48) = true := decide_eq_true (by unfold cap48; simp; omega)
  have g4 : decide ((([] ++ (l.take b).drop 0 ++ [x] : List Int).length + ((l.take l.length).drop b).length) * 8 ≤ cap48) = true := decide_eq_true (by unfold cap48; simp; omega)
  simp only [nn_, cond_true, Int.toNat_natCast, Int.toNat_zero, Int.le_refl, decide_true, decide_eq_true (show (b : Int) ≤ (l.length : Int) by omega), g1, g2, g3, g4]
  by_cases h : b < l.length
  · rw [decide_eq_true (show (b : Int) < (l.length : Int) by omega), decide_eq_true h, Bool.true_and, cond_true, cond_true]
    cases rd_i64 l (b : Int) == x
    · simp
    · rfl
  · rw [decide_eq_false (show ¬ (b : Int) < (l.length : Int) by omega), decide_eq_false h]
    simp
def ownB (kd : Int) (l : List T_impl_Op) : List Int := (l.filter fun o => o.f0 == kd).map fun o => o.f2
theorem ownB_len (kd : Int) (l : List T_impl_Op) : (ownB kd l).length ≤ l.length := by unfold ownB; rw [List.length_map]; exact List.length_filter_le _ _
def ownersOfV (kd : Int) (l : List T_impl_Op) : List Int := bif areOps l then ordV (ownB kd l) else []
theorem ownersOfV_ok {kd : Int} {l : List T_impl_Op} (hl : Ok l) : Ok (ownersOfV kd l) := by
  unfold ownersOfV
  cases areOps l with
  | false => exact Ok.small 0 (by simp)
  | true => exact Nat.le_trans (ordV_len _) (Nat.le_trans (ownB_len _ _) hl)
theorem fold_own (kd : Int) : ∀ (l : List T_impl_Op) (s : List Int), l.foldl (fun s o => bif o.f0 == kd then putV s o.f2 else s) s = (ownB kd l).foldl putV s
  | [], s => rfl
  | o :: l, s => by
    rw [List.foldl_cons, fold_own kd l]
    unfold ownB
    cases h : o.f0 == kd <;> simp [h]
theorem fold_own2 (kd : Int) : ∀ (l : List T_impl_Op) (s : List Int), l.foldl (fun s o => bif o.f0 == kd then s ++ [o.f2] else s) s = s ++ ownB kd l
  | [], s => by simp [ownB]
  | o :: l, s => by
    rw [List.foldl_cons, fold_own2 kd l]
    unfold ownB
    cases h : o.f0 == kd <;> simp [h]
theorem spec_l27Owners_e {k : Nat} (hk : Big k) {l : List T_impl_Op} (hl : Ok l) (kd : Int) : spec_l27Owners.f k l kd = some (ownersOfV kd l) := by
  have hl' := hl.out
  have hk' := hk.out
  unfold spec_l27Owners.f ownersOfV
  cases h : areOps l with
  | false =>
    obtain ⟨q, hq⟩ : ∃ j, k = j + 1 := ⟨k - 1, by omega⟩
    rw [show spec_l27Owners.l3 k kd l (fun y => some y) k 0 [] = spec_l27Owners.l3 k kd l (fun y => some y) (q + 1) 0 [] by rw [← hq]]
    simp only [spec_l27Owners.l3, spec_l27Owners.L3, spec_AreOps_e hk hl, h, Option.bind_some, cond_false]
    cases decide ((0 : Int) < (l.length : Int)) <;> rfl
  | true =>
    have := loop_fold (fun q i s => spec_l27Owners.l3 k kd l (fun y => some y) q i s) (fun s o => bif o.f0 == kd then putV s o.f2 else s) (fun i s => s.length ≤ i) (fun s => some s) l (fun n i o s hx hi => by
      have hlt := lt_of hx
      obtain ⟨h1, h2, h3, h4⟩ := at_ hx (by omega)
      have hi : s.length ≤ i := hi
      simp only [spec_l27Owners.l3, spec_l27Owners.L3, rd_impl_Op, h1, h2, h3, h4, cond_true, spec_AreOps_e hk hl, h, Option.bind_some, spec_l6Put_e hk (Ok.small (l := s) 1048576 (by omega))]
      cases o.f0 == kd <;> rfl) (fun i o s hx hi => by
      have hi : s.length ≤ i := hi
      have := putV_len s o.f2
      cases o.f0 == kd
      · show s.length ≤ i + 1; omega
      · show (putV s o.f2).length ≤ i + 1; omega) (fun n s hi => by simp only [spec_l27Owners.l3, spec_l27Owners.L3, end_, cond_false]) k [] (hk.lt hl) (Nat.le_refl 0)
    rw [fold_own, put_ord] at this
    exact this
theorem spec_OwnersRead_e {k : Nat} (hk : Big k) {l : List T_impl_Op} (hl : Ok l) : spec_OwnersRead.f k l = some (ownersOfV 1 l) := by
  unfold spec_OwnersRead.f; rw [spec_l27Owners_e hk hl]; rfl
theorem spec_OwnersSent_e {k : Nat} (hk : Big k) {l : List T_impl_Op} (hl : Ok l) : spec_OwnersSent.f k l = some (ownersOfV 5 l) := by
  unfold spec_OwnersSent.f; rw [spec_l27Owners_e hk hl]; rfl
def gOk (x : T_impl_Grant) : Bool := isGrant x.f0 x.f1.f0 x.f1.f1 x.f2 x.f3 x.f4
def wOk (x y : T_impl_Grant) : Bool := gOk x && (gOk y && (x.f0 == y.f0 && (x.f2 == y.f2 && (isNarrow x.f1.f0 x.f1.f1 y.f1.f0 y.f1.f1 && (decide (y.f3 ≤ x.f3) && (decide (x.f4 ≤ y.f4) && (x.f5 || !y.f5)))))))
def within (l m : List T_impl_Grant) : Bool := l.all fun x => m.any (wOk x)
def forOne (kd o : Int) (x : T_impl_Grant) : Bool := gOk x && ((x.f2 == kd) && ((x.f1.f0 == o) || (x.f1.f0 == 0)))
def grantFor (l : List T_impl_Grant) (kd o : Int) : Bool := l.any (forOne kd o)
def allFor (l : List T_impl_Grant) (kd : Int) (os : List Int) : Bool := os.all (grantFor l kd)
theorem spec_HasGrantFor_e {k : Nat} (hk : Big k) {l : List T_impl_Grant} (hl : Ok l) (kd o : Int) : spec_HasGrantFor.f k l kd o = some (grantFor l kd o) := by
  unfold spec_HasGrantFor.f grantFor
  rw [loop_any (spec_HasGrantFor.l2 k kd o l (fun y => some y) (fun _ => some false)) (forOne kd o) (some false) (some true) l (fun n i x hx => by
    obtain ⟨h1, h2, h3, h4⟩ := at_ hx (by have := hl.out; omega)
    simp only [spec_HasGrantFor.l2, spec_HasGrantFor.L2, rd_impl_Grant, h1, h2, h3, h4, cond_true, spec_IsGrant_e, Option.bind_some, forOne, gOk]
    cases isGrant x.f0 x.f1.f0 x.f1.f1 x.f2 x.f3 x.f4 <;> cases x.f2 == kd <;> cases x.f1.f0 == o <;> cases x.f1.f0 == 0 <;> rfl) (fun n => by simp only [spec_HasGrantFor.l2, spec_HasGrantFor.L2, end_, cond_false]) k (hk.lt hl)]
  cases l.any (forOne kd o) <;> rfl
theorem spec_l27All_e {k : Nat} (hk : Big k) {l : List T_impl_Grant} (hl : Ok l) (kd : Int) {os : List Int} (ho : Ok os) : spec_l27All.f k l kd os = some (allFor l kd os) := by
  unfold spec_l27All.f allFor
  rw [loop_all (spec_l27All.l2 k kd l os (fun y => some y) (fun _ => some true)) (grantFor l kd) (some true) (some false) os (fun n i x hx => by
    obtain ⟨h1, h2, h3, h4⟩ := at_ hx (by have := ho.out; omega)
    simp only [spec_l27All.l2, spec_l27All.L2, rd_i64, h1, h2, h3, h4, cond_true, spec_HasGrantFor_e hk hl, Option.bind_some]
    cases grantFor l kd x <;> rfl) (fun n => by simp only [spec_l27All.l2, spec_l27All.L2, end_, cond_false]) k (hk.lt ho)]
  cases os.all (grantFor l kd) <;> rfl
def zeros : List Int := [0, 0, 0, 0, 0, 0]
theorem spec_l21Zeros_e {k : Nat} (hk : Big k) : spec_l21Zeros.f k = some zeros := by
  have hk' := hk.out
  obtain ⟨q, rfl⟩ : ∃ j, k = j + 7 := ⟨k - 7, by omega⟩
  rfl
def valV (l : List Int) (o : Int) : Int := bif decide (1 ≤ o ∧ o ≤ (l.length : Int)) && inR (rd_i64 l (o - 1)) 0 999 then rd_i64 l (o - 1) else 0
theorem valV_rg (l : List Int) (o : Int) : 0 ≤ valV l o ∧ valV l o ≤ 999 := by
  unfold valV
  cases h : decide (1 ≤ o ∧ o ≤ (l.length : Int)) && inR (rd_i64 l (o - 1)) 0 999 with
  | false => exact ⟨Int.le_refl 0, show (0 : Int) ≤ 999 by decide⟩
  | true => rw [Bool.and_eq_true] at h; exact inR_true.1 h.2
theorem spec_l21Value_e (k : Nat) {l : List Int} (hl : Ok l) {o : Int} (h1 : 1 ≤ o) : spec_l21Value.f k l o = some (valV l o) := by
  have hl' := hl.out
  unfold spec_l21Value.f valV
  by_cases h : o > (l.length : Int)
  · rw [decide_eq_true h, decide_eq_false (show ¬ (1 ≤ o ∧ o ≤ (l.length : Int)) by omega)]; rfl
  · rw [decide_eq_false h, w64_id (by omega), decide_eq_true (show 0 ≤ o - 1 by omega), decide_eq_true (show o - 1 < (l.length : Int) by omega), decide_eq_true (show 1 ≤ o ∧ o ≤ (l.length : Int) by omega), spec_l1In_e, Option.bind_some]
    cases inR (rd_i64 l (o - 1)) 0 999 <;> rfl
def hasI (l : List Int) (o : Int) : Bool := l.any fun y => y == o
theorem spec_l7Has_e {k : Nat} (hk : Big k) {l : List Int} (hl : Ok l) (o : Int) : spec_l7Has.f k l o = some (hasI l o) := by
  unfold spec_l7Has.f hasI
  rw [loop_any (spec_l7Has.l2 k o l (fun y => some y) (fun _ => some false)) (fun y => y == o) (some false) (some true) l (fun n i x hx => by
    obtain ⟨h1, h2, h3, h4⟩ := at_ hx (by have := hl.out; omega)
    simp only [spec_l7Has.l2, spec_l7Has.L2, rd_i64, h1, h2, h3, h4, cond_true]) (fun n => by simp only [spec_l7Has.l2, spec_l7Has.L2, end_, cond_false]) k (hk.lt hl)]
  cases l.any fun y => y == o <;> rfl
theorem spec_l19Bit_l (k : Nat) : ∀ (n q : Nat) (o v i : Int), o - i = n → 0 ≤ i → n < q → 0 ≤ v → v * 2 ^ n ≤ 4611686018427387904 → o ≤ 100 → spec_l19Bit.l3 k o (fun y => some y) q v i = some (v * 2 ^ n) := by
  intro n
  induction n with
  | zero =>
    intro q o v i h h0 hq hv hb ho
    obtain ⟨q, rfl⟩ : ∃ j, q = j + 1 := ⟨q - 1, by omega⟩
    simp only [spec_l19Bit.l3, spec_l19Bit.L3]
    rw [decide_eq_false (by omega), cond_false]
    simp
  | succ n ih =>
    intro q o v i h h0 hq hv hb ho
    obtain ⟨q, rfl⟩ : ∃ j, q = j + 1 := ⟨q - 1, by omega⟩
    have e : v * 2 ^ (n + 1) = (2 * v) * 2 ^ n := by rw [Int.pow_succ]; rw [Int.mul_comm 2 v, Int.mul_assoc, Int.mul_comm 2]
    have hp : (1 : Int) ≤ 2 ^ n := Int.pow_pos (by omega)
    have h2 : 2 * v ≤ (2 * v) * 2 ^ n := by
      have := Int.mul_le_mul_of_nonneg_left hp (show 0 ≤ 2 * v by omega)
      omega
    rw [e] at hb ⊢
    simp only [spec_l19Bit.l3, spec_l19Bit.L3]
    rw [decide_eq_true (by omega), cond_true, w64_id (n := 2 * v) (by omega), w64_id (by omega)]
    exact ih q o (2 * v) (i + 1) (by omega) (by omega) (by omega) (by omega) hb ho
theorem spec_l19Bit_e {k : Nat} (hk : Big k) (o : Int) (h1 : 1 ≤ o) (h9 : o ≤ 9) : spec_l19Bit.f k o = some (2 ^ o.toNat) := by
  have hk' := hk.out
  unfold spec_l19Bit.f
  have hb : (1 : Int) * 2 ^ o.toNat ≤ 4611686018427387904 := by
    have : o = 1 ∨ o = 2 ∨ o = 3 ∨ o = 4 ∨ o = 5 ∨ o = 6 ∨ o = 7 ∨ o = 8 ∨ o = 9 := by omega
    rcases this with rfl | rfl | rfl | rfl | rfl | rfl | rfl | rfl | rfl <;> decide
  rw [spec_l19Bit_l k o.toNat k o 1 0 (by omega) (by omega) (by omega) (by omega) hb (by omega), Int.one_mul]
theorem foldl_filter {α : Type} (p : α → Bool) (xs : List α) : ∀ s : List α, xs.foldl (fun s x => bif p x then s ++ [x] else s) s = s ++ xs.filter p := by
  induction xs with
  | nil => intro s; simp
  | cons x xs ih => intro s; rw [List.foldl_cons, ih]; cases h : p x <;> simp [h]
def isLab (x : Int) : Bool := inR x 0 1022 && x.tmod 2 == 0
def nine : List Int := [1, 2, 3, 4, 5, 6, 7, 8, 9]
def bitO (x o : Int) : Bool := x / 2 ^ o.toNat % 2 == 1
def ownersV (x : Int) : List Int := bif isLab x then nine.filter (bitO x) else []
theorem isLab_bd {x : Int} (h : isLab x = true) : 0 ≤ x ∧ x ≤ 1022 ∧ x % 2 = 0 := by
  unfold isLab at h
  rw [Bool.and_eq_true, inR_true, beq_iff_eq] at h
  rw [Int.tmod_eq_emod_of_nonneg h.1.1] at h
  exact ⟨h.1.1, h.1.2, h.2⟩
theorem isLab_of {x : Int} (h0 : 0 ≤ x) (h1 : x ≤ 1022) (h2 : x % 2 = 0) : isLab x = true := by
  unfold isLab
  rw [Int.tmod_eq_emod_of_nonneg h0, Bool.and_eq_true, inR_true, beq_iff_eq]
  exact ⟨⟨h0, h1⟩, h2⟩
theorem nine_at {i : Nat} {o : Int} (h : nine[i]? = some o) : o = (i : Int) + 1 ∧ i < 9 := by
  have hi : i < 9 := (List.getElem?_eq_some_iff.1 h).1
  refine ⟨?_, hi⟩
  have : i = 0 ∨ i = 1 ∨ i = 2 ∨ i = 3 ∨ i = 4 ∨ i = 5 ∨ i = 6 ∨ i = 7 ∨ i = 8 := by omega
  rcases this with rfl | rfl | rfl | rfl | rfl | rfl | rfl | rfl | rfl <;> simp [nine] at h <;> omega
theorem ownersV_len (x : Int) : (ownersV x).length ≤ 9 := by
  unfold ownersV
  cases isLab x
  · simp
  · exact Nat.le_trans (List.length_filter_le _ _) (by decide)
theorem ownersV_ok (x : Int) : Ok (ownersV x) := Ok.small 9 (ownersV_len x)
theorem pow9 {o : Int} (h1 : 1 ≤ o) (h9 : o ≤ 9) : 2 ≤ (2 : Int) ^ o.toNat ∧ (2 : Int) ^ o.toNat ≤ 512 := by
  have : o = 1 ∨ o = 2 ∨ o = 3 ∨ o = 4 ∨ o = 5 ∨ o = 6 ∨ o = 7 ∨ o = 8 ∨ o = 9 := by omega
  rcases this with rfl | rfl | rfl | rfl | rfl | rfl | rfl | rfl | rfl <;> decide
theorem bit_q {x o : Int} (h : isLab x = true) : 0 ≤ x / 2 ^ o.toNat ∧ x / 2 ^ o.toNat ≤ 1022 := by
  have hb := isLab_bd h
  have hp : (0 : Int) < 2 ^ o.toNat := Int.pow_pos (by omega)
  exact ⟨Int.ediv_nonneg hb.1 (by omega), Int.le_trans (Int.ediv_le_self _ hb.1) hb.2.1⟩
def labelV (l : List Int) : Int := nine.foldl (fun s o => bif hasI l o then s + 2 ^ o.toNat else s) 0
theorem spec_LabelOf_e {k : Nat} (hk : Big k) {l : List Int} (hl : Ok l) : spec_LabelOf.f k l = some (labelV l) := by
  have hk' := hk.out
  unfold spec_LabelOf.f labelV
  exact loop_fold (fun q i s => spec_LabelOf.l3 k l (fun y3 => some y3) q s (i + 1)) (fun s o => bif hasI l o then s + 2 ^ o.toNat else s) (fun i s => 0 ≤ s ∧ s ≤ 512 * (i : Int)) (fun s => some s) nine (fun n i o s hx hi => by
    obtain ⟨rfl, h9⟩ := nine_at hx
    have hp := pow9 (o := (i : Int) + 1) (by omega) (by omega)
    simp only [spec_LabelOf.l3, spec_LabelOf.L3, spec_l7Has_e hk hl, Option.bind_some, spec_l19Bit_e hk _ (show 1 ≤ (i : Int) + 1 by omega) (by omega)]
    rw [decide_eq_true (show (i : Int) + 1 ≤ 9 by omega), cond_true, w64_id (n := s + _) (by omega), w64_id (by omega)]
    cases hasI l ((i : Int) + 1) <;> rfl) (fun i o s hx hi => by
    obtain ⟨rfl, h9⟩ := nine_at hx
    have hp := pow9 (o := (i : Int) + 1) (by omega) (by omega)
    cases hasI l ((i : Int) + 1)
    · show 0 ≤ s ∧ s ≤ 512 * ((i + 1 : Nat) : Int); omega
    · show 0 ≤ s + 2 ^ ((i : Int) + 1).toNat ∧ s + 2 ^ ((i : Int) + 1).toNat ≤ 512 * ((i + 1 : Nat) : Int); omega) (fun n s hs => by
    simp only [spec_LabelOf.l3, spec_LabelOf.L3]
    rfl) k 0 (by show 9 < k; omega) (by simp)
theorem spec_IsLabel_e (k : Nat) (x : Int) : spec_IsLabel.f k x = some (isLab x) := by
  unfold spec_IsLabel.f isLab
  rw [spec_l1In_e, Option.bind_some]
  cases inR x 0 1022 <;> rfl
theorem spec_OwnersIn_e {k : Nat} (hk : Big k) (x : Int) : spec_OwnersIn.f k x = some (ownersV x) := by
  have hk' := hk.out
  unfold spec_OwnersIn.f ownersV
  cases h : isLab x with
  | false =>
    obtain ⟨q, hq⟩ : ∃ j, k = j + 1 := ⟨k - 1, by omega⟩
    rw [show ∀ y, spec_OwnersIn.l3 k x (fun y3 => some y3) k 1 y = spec_OwnersIn.l3 k x (fun y3 => some y3) (q + 1) 1 y from fun y => by rw [← hq]]
    simp only [spec_OwnersIn.l3, spec_OwnersIn.L3, spec_IsLabel_e, h, Option.bind_some, cond_false]
    rfl
  | true =>
    have := loop_fold (fun q i s => spec_OwnersIn.l3 k x (fun y3 => some y3) q (i + 1) s) (fun s o => bif bitO x o then s ++ [o] else s) (fun i s => s.length ≤ i) (fun s => some s) nine (fun n i o s hx hi => by
      obtain ⟨rfl, h9⟩ := nine_at hx
      have hp := pow9 (o := (i : Int) + 1) (by omega) (by omega)
      have hq := bit_q (o := (i : Int) + 1) h
      have hd : Int.tdiv x (2 ^ ((i : Int) + 1).toNat) = x / 2 ^ ((i : Int) + 1).toNat := Int.tdiv_eq_ediv_of_nonneg (isLab_bd h).1
      simp only [spec_OwnersIn.l3, spec_OwnersIn.L3, spec_IsLabel_e, h, Option.bind_some, cond_true, spec_l19Bit_e hk _ (show 1 ≤ (i : Int) + 1 by omega) (by omega), hd]
      rw [decide_eq_true (show (i : Int) + 1 ≤ 9 by omega), cond_true, decide_eq_false (by omega), cond_false, w64_id (n := x / _) (by omega), w64_id (by omega), Int.tmod_eq_emod_of_nonneg hq.1, decide_eq_true (by unfold cap48; simp; omega), cond_true]
      unfold bitO
      cases (x / 2 ^ ((i : Int) + 1).toNat % 2 == 1) <;> rfl) (fun i o s hx hi => by
      cases bitO x o
      · show s.length ≤ i + 1; omega
      · show (s ++ [o]).length ≤ i + 1; simp; omega) (fun n s hs => by
      simp only [spec_OwnersIn.l3, spec_OwnersIn.L3]
      rfl) k [] (by show 9 < k; omega) (Nat.le_refl 0)
    rw [foldl_filter] at this
    exact this
theorem i64_and1 {n : Int} (h0 : 0 ≤ n) (h1 : n ≤ 1022) : bitop .and .i64 n 1 = n % 2 := by
  obtain ⟨m, rfl⟩ := Int.eq_ofNat_of_zero_le h0
  have h127 : (BitVec.ofInt 64 1).toNat = 2 ^ 1 - 1 := by decide
  have key : (BitVec.ofInt 64 (m : Int) &&& BitVec.ofInt 64 1).toNat = ((m : Int) % ((2 ^ 64 : Nat) : Int)).toNat % 2 ^ 1 := by
    rw [BitVec.toNat_and, BitVec.toNat_ofInt, h127, Nat.and_two_pow_sub_one_eq_mod]
  show IntKind.i64.wrap ((BitVec.ofInt 64 (m : Int) &&& BitVec.ofInt 64 1).toNat : Nat) = (m : Int) % 2
  rw [key, show ∀ m : Int, IntKind.i64.wrap m = w64 m from fun _ => rfl, w64_id (by omega)]
  omega
theorem i64_or {a b : Nat} (ha : a < 1024) (hb : b < 1024) : bitop .or .i64 (a : Int) (b : Int) = ((a ||| b : Nat) : Int) := by
  have key : (BitVec.ofInt 64 (a : Int) ||| BitVec.ofInt 64 (b : Int)).toNat = a ||| b := by
    rw [BitVec.toNat_or, BitVec.toNat_ofInt, BitVec.toNat_ofInt]
    congr 1 <;> omega
  have hlt : a ||| b < 2 ^ 10 := Nat.or_lt_two_pow (by omega) (by omega)
  show IntKind.i64.wrap ((BitVec.ofInt 64 (a : Int) ||| BitVec.ofInt 64 (b : Int)).toNat : Nat) = _
  rw [key, show ∀ m : Int, IntKind.i64.wrap m = w64 m from fun _ => rfl, w64_id (by omega)]
theorem or_step (a b : Nat) : a ||| b = 2 * (a / 2 ||| b / 2) + (bif (a % 2 == 1) || (b % 2 == 1) then 1 else 0) := by
  have h1 : (a ||| b) / 2 = a / 2 ||| b / 2 := Nat.or_div_two
  have h2 : (a ||| b) % 2 = bif (a % 2 == 1) || (b % 2 == 1) then 1 else 0 := by
    have ha : a % 2 = 0 ∨ a % 2 = 1 := by omega
    have hb : b % 2 = 0 ∨ b % 2 = 1 := by omega
    have h3 := Nat.or_mod_two_pow (a := a) (b := b) (n := 1)
    simp only [Nat.pow_one] at h3
    rw [h3]
    rcases ha with h | h <;> rcases hb with g | g <;> rw [h, g] <;> rfl
  rw [← h1, ← h2]
  omega
def bitN (a n : Nat) : Bool := a / 2 ^ n % 2 == 1
theorem or_bits {a b : Nat} (ha : a < 1024) (hb : b < 1024) (a0 : a % 2 = 0) (b0 : b % 2 = 0) : a ||| b = (bif bitN a 1 || bitN b 1 then 2 else 0) + (bif bitN a 2 || bitN b 2 then 4 else 0) + (bif bitN a 3 || bitN b 3 then 8 else 0) + (bif bitN a 4 || bitN b 4 then 16 else 0) + (bif bitN a 5 || bitN b 5 then 32 else 0) + (bif bitN a 6 || bitN b 6 then 64 else 0) + (bif bitN a 7 || bitN b 7 then 128 else 0) + (bif bitN a 8 || bitN b 8 then 256 else 0) + (bif bitN a 9 || bitN b 9 then 512 else 0) := by
  have hz : (a / 2 / 2 / 2 / 2 / 2 / 2 / 2 / 2 / 2 / 2 ||| b / 2 / 2 / 2 / 2 / 2 / 2 / 2 / 2 / 2 / 2) = 0 := by
    rw [show a / 2 / 2 / 2 / 2 / 2 / 2 / 2 / 2 / 2 / 2 = 0 by omega, show b / 2 / 2 / 2 / 2 / 2 / 2 / 2 / 2 / 2 / 2 = 0 by omega]; rfl
  rw [or_step a b, or_step (a / 2), or_step (a / 2 / 2), or_step (a / 2 / 2 / 2), or_step (a / 2 / 2 / 2 / 2), or_step (a / 2 / 2 / 2 / 2 / 2), or_step (a / 2 / 2 / 2 / 2 / 2 / 2), or_step (a / 2 / 2 / 2 / 2 / 2 / 2 / 2), or_step (a / 2 / 2 / 2 / 2 / 2 / 2 / 2 / 2), or_step (a / 2 / 2 / 2 / 2 / 2 / 2 / 2 / 2 / 2), hz]
  simp only [a0, b0, Nat.div_div_eq_div_mul, bitN]
  simp only [show (2 * 2 * 2 * 2 * 2 * 2 * 2 * 2 * 2 : Nat) = 2 ^ 9 from rfl, show (2 * 2 * 2 * 2 * 2 * 2 * 2 * 2 : Nat) = 2 ^ 8 from rfl, show (2 * 2 * 2 * 2 * 2 * 2 * 2 : Nat) = 2 ^ 7 from rfl, show (2 * 2 * 2 * 2 * 2 * 2 : Nat) = 2 ^ 6 from rfl, show (2 * 2 * 2 * 2 * 2 : Nat) = 2 ^ 5 from rfl, show (2 * 2 * 2 * 2 : Nat) = 2 ^ 4 from rfl, show (2 * 2 * 2 : Nat) = 2 ^ 3 from rfl, show (2 * 2 : Nat) = 2 ^ 2 from rfl, show (a / 2 : Nat) = a / 2 ^ 1 from rfl, show (b / 2 : Nat) = b / 2 ^ 1 from rfl]
  generalize (a / 2 ^ 1 % 2 == 1 || b / 2 ^ 1 % 2 == 1) = c1, (a / 2 ^ 2 % 2 == 1 || b / 2 ^ 2 % 2 == 1) = c2, (a / 2 ^ 3 % 2 == 1 || b / 2 ^ 3 % 2 == 1) = c3, (a / 2 ^ 4 % 2 == 1 || b / 2 ^ 4 % 2 == 1) = c4, (a / 2 ^ 5 % 2 == 1 || b / 2 ^ 5 % 2 == 1) = c5, (a / 2 ^ 6 % 2 == 1 || b / 2 ^ 6 % 2 == 1) = c6, (a / 2 ^ 7 % 2 == 1 || b / 2 ^ 7 % 2 == 1) = c7, (a / 2 ^ 8 % 2 == 1 || b / 2 ^ 8 % 2 == 1) = c8, (a / 2 ^ 9 % 2 == 1 || b / 2 ^ 9 % 2 == 1) = c9
  clear hz ha hb a0 b0
  revert c1 c2 c3 c4 c5 c6 c7 c8 c9
  decide
theorem bitO_nat (a n : Nat) : bitO (a : Int) ((n : Nat) : Int) = bitN a n := by
  unfold bitO bitN
  rw [Int.toNat_natCast, Bool.eq_iff_iff, beq_iff_eq, beq_iff_eq]
  have : ((a : Int) / 2 ^ n % 2) = ((a / 2 ^ n % 2 : Nat) : Int) := by norm_cast
  rw [this]
  omega
theorem hasI_owners {x : Int} (h : isLab x = true) (o : Int) (ho : o ∈ nine) : hasI (ownersV x) o = bitO x o := by
  unfold hasI ownersV
  rw [h, cond_true, Bool.eq_iff_iff, List.any_eq_true]
  constructor
  · rintro ⟨y, hy, e⟩
    obtain rfl := eq_of_beq e
    exact (List.mem_filter.1 hy).2
  · intro hb
    exact ⟨o, List.mem_filter.2 ⟨ho, hb⟩, beq_self_eq_true o⟩
theorem hasI_append (l m : List Int) (o : Int) : hasI (l ++ m) o = (hasI l o || hasI m o) := by simp [hasI]
def orL (x y : Int) : Int := bitop .or .i64 x y
theorem label_join {x y : Int} (hx : isLab x = true) (hy : isLab y = true) : labelV (ownersV x ++ ownersV y) = orL x y := by
  obtain ⟨x0, x1, x2⟩ := isLab_bd hx
  obtain ⟨y0, y1, y2⟩ := isLab_bd hy
  obtain ⟨a, rfl⟩ := Int.eq_ofNat_of_zero_le x0
  obtain ⟨b, rfl⟩ := Int.eq_ofNat_of_zero_le y0
  unfold orL
  rw [i64_or (by omega) (by omega), or_bits (by omega) (by omega) (by omega) (by omega)]
  unfold labelV
  have H : ∀ n : Nat, (n : Int) ∈ nine → hasI (ownersV (a : Int) ++ ownersV (b : Int)) ((n : Nat) : Int) = (bitN a n || bitN b n) := fun n hn => by rw [hasI_append, hasI_owners hx _ hn, hasI_owners hy _ hn, bitO_nat, bitO_nat]
  have h1 := H 1 (by decide)
  have h2 := H 2 (by decide)
  have h3 := H 3 (by decide)
  have h4 := H 4 (by decide)
  have h5 := H 5 (by decide)
  have h6 := H 6 (by decide)
  have h7 := H 7 (by decide)
  have h8 := H 8 (by decide)
  have h9 := H 9 (by decide)
  generalize ownersV (a : Int) ++ ownersV (b : Int) = L at *
  clear H
  simp only [Int.ofNat_eq_natCast, Int.cast_ofNat_Int] at h1 h2 h3 h4 h5 h6 h7 h8 h9
  simp only [nine, List.foldl_cons, List.foldl_nil]
  rw [show hasI L 1 = _ from h1, show hasI L 2 = _ from h2, show hasI L 3 = _ from h3, show hasI L 4 = _ from h4, show hasI L 5 = _ from h5, show hasI L 6 = _ from h6, show hasI L 7 = _ from h7, show hasI L 8 = _ from h8, show hasI L 9 = _ from h9]
  generalize (bitN a 1 || bitN b 1) = c1, (bitN a 2 || bitN b 2) = c2, (bitN a 3 || bitN b 3) = c3, (bitN a 4 || bitN b 4) = c4, (bitN a 5 || bitN b 5) = c5, (bitN a 6 || bitN b 6) = c6, (bitN a 7 || bitN b 7) = c7, (bitN a 8 || bitN b 8) = c8, (bitN a 9 || bitN b 9) = c9
  clear h1 h2 h3 h4 h5 h6 h7 h8 h9 hx hy x0 x1 x2 y0 y1 y2
  revert c1 c2 c3 c4 c5 c6 c7 c8 c9
  decide
theorem or_lab {x y : Int} (hx : isLab x = true) (hy : isLab y = true) : isLab (orL x y) = true := by
  obtain ⟨x0, x1, x2⟩ := isLab_bd hx
  obtain ⟨y0, y1, y2⟩ := isLab_bd hy
  obtain ⟨a, rfl⟩ := Int.eq_ofNat_of_zero_le x0
  obtain ⟨b, rfl⟩ := Int.eq_ofNat_of_zero_le y0
  unfold orL
  rw [i64_or (by omega) (by omega)]
  have h1 : a ||| b < 2 ^ 10 := Nat.or_lt_two_pow (by omega) (by omega)
  have h2 := or_step a b
  have h3 : (bif (a % 2 == 1) || (b % 2 == 1) then 1 else 0 : Nat) = 0 := by rw [show a % 2 = 0 by omega, show b % 2 = 0 by omega]; rfl
  rw [h3] at h2
  exact isLab_of (by omega) (by omega) (by omega)
theorem orL_assoc {x y z : Int} (hx : isLab x = true) (hy : isLab y = true) (hz : isLab z = true) : orL x (orL y z) = orL (orL x y) z := by
  have h1 := or_lab hx hy
  have h2 := or_lab hy hz
  obtain ⟨x0, x1, x2⟩ := isLab_bd hx
  obtain ⟨y0, y1, y2⟩ := isLab_bd hy
  obtain ⟨z0, z1, z2⟩ := isLab_bd hz
  obtain ⟨a, rfl⟩ := Int.eq_ofNat_of_zero_le x0
  obtain ⟨b, rfl⟩ := Int.eq_ofNat_of_zero_le y0
  obtain ⟨c, rfl⟩ := Int.eq_ofNat_of_zero_le z0
  unfold orL
  have g1 : a ||| b < 2 ^ 10 := Nat.or_lt_two_pow (by omega) (by omega)
  have g2 : b ||| c < 2 ^ 10 := Nat.or_lt_two_pow (by omega) (by omega)
  rw [i64_or (a := b) (by omega) (by omega), i64_or (a := a) (b := b) (by omega) (by omega), i64_or (by omega) (by omega), i64_or (by omega) (by omega), Nat.or_assoc]
theorem label_one {o : Int} (h1 : 1 ≤ o) (h9 : o ≤ 9) : labelV [o] = 2 ^ o.toNat ∧ isLab (2 ^ o.toNat) = true := by
  have : o = 1 ∨ o = 2 ∨ o = 3 ∨ o = 4 ∨ o = 5 ∨ o = 6 ∨ o = 7 ∨ o = 8 ∨ o = 9 := by omega
  rcases this with rfl | rfl | rfl | rfl | rfl | rfl | rfl | rfl | rfl <;> exact ⟨by decide, by decide⟩
theorem spec_JoinLabels_e {k : Nat} (hk : Big k) {x y : Int} (hx : isLab x = true) (hy : isLab y = true) : spec_JoinLabels.f k x y = some (orL x y) := by
  unfold spec_JoinLabels.f
  have h1 := ownersV_len x
  have h2 := ownersV_len y
  simp only [spec_IsLabel_e, hx, hy, spec_OwnersIn_e hk, Option.bind_some, Bool.not_true, cond_false]
  rw [decide_eq_true (by unfold cap48; omega), cond_true, spec_LabelOf_e hk (Ok.small 18 (by simp; omega)), Option.bind_some, label_join hx hy]
abbrev PSt := List T_impl_Sent × List Int × List Int
def stp (vals : List Int) (o : T_impl_Op) (v b : List Int) : List Int × List Int :=
  bif o.f0 == 1 then (v.set o.f1.toNat (valV vals o.f2), b.set o.f1.toNat (2 ^ o.f2.toNat))
  else bif o.f0 == 2 then (v.set o.f1.toNat o.f2, b.set o.f1.toNat 0)
  else bif o.f0 == 3 then (v.set o.f1.toNat ((rd_i64 v o.f2 + rd_i64 v o.f3).tmod 1000), b.set o.f1.toNat (orL (rd_i64 b o.f2) (rd_i64 b o.f3)))
  else bif o.f0 == 4 then ((bif (rd_i64 v o.f2).tmod 2 == 0 then v.set o.f1.toNat (rd_i64 v o.f3) else v), b.set o.f1.toNat (orL (orL (rd_i64 b o.f1) (rd_i64 b o.f2)) (rd_i64 b o.f3)))
  else (v, b)
def snt (o : T_impl_Op) (v b : List Int) : List T_impl_Sent := bif o.f0 == 5 then [⟨o.f2, rd_i64 v o.f1, rd_i64 b o.f1⟩] else []
def runF (vals : List Int) (s : PSt) (o : T_impl_Op) : PSt := (s.1 ++ snt o s.2.1 s.2.2, stp vals o s.2.1 s.2.2)
def runV (vals : List Int) (l : List T_impl_Op) : PSt := l.foldl (runF vals) ([], zeros, zeros)
structure Regs (v b : List Int) : Prop where
  vl : v.length = 6
  bl : b.length = 6
  vr : ∀ x ∈ v, 0 ≤ x ∧ x ≤ 999
  br : ∀ x ∈ b, isLab x = true
theorem Regs.zero : Regs zeros zeros := ⟨rfl, rfl, by decide, by decide⟩
theorem rd_mem {l : List Int} {i : Int} (h : 0 ≤ i ∧ i < (l.length : Int)) : rd_i64 l i ∈ l := by
  obtain ⟨n, rfl⟩ := Int.eq_ofNat_of_zero_le h.1
  have hlt : n < l.length := by omega
  show l.getD n z_i64 ∈ l
  rw [List.getD_eq_getElem?_getD, List.getElem?_eq_getElem hlt]
  exact List.getElem_mem hlt
theorem Regs.val {v b : List Int} (h : Regs v b) {i : Int} (hi : inR i 0 5 = true) : 0 ≤ rd_i64 v i ∧ rd_i64 v i ≤ 999 := by
  have := inR_true.1 hi
  have h6 := h.vl
  exact h.vr _ (rd_mem (by omega))
theorem Regs.lab {v b : List Int} (h : Regs v b) {i : Int} (hi : inR i 0 5 = true) : isLab (rd_i64 b i) = true := by
  have := inR_true.1 hi
  have h6 := h.bl
  exact h.br _ (rd_mem (by omega))
theorem mem_set_or {α : Type} {l : List α} {n : Nat} {x y : α} (h : y ∈ l.set n x) : y ∈ l ∨ y = x := List.mem_or_eq_of_mem_set h
theorem Regs.set {v b : List Int} (h : Regs v b) (n m : Nat) {x y : Int} (hx : 0 ≤ x ∧ x ≤ 999) (hy : isLab y = true) : Regs (v.set n x) (b.set m y) :=
  ⟨by rw [List.length_set, h.vl], by rw [List.length_set, h.bl], fun z hz => (mem_set_or hz).elim (h.vr z) fun e => e ▸ hx, fun z hz => (mem_set_or hz).elim (h.br z) fun e => e ▸ hy⟩
theorem Regs.setb {v b : List Int} (h : Regs v b) (m : Nat) {y : Int} (hy : isLab y = true) : Regs v (b.set m y) :=
  ⟨h.vl, by rw [List.length_set, h.bl], h.vr, fun z hz => (mem_set_or hz).elim (h.br z) fun e => e ▸ hy⟩
/-- What a step is, by its kind. -/
theorem op_cases {o : T_impl_Op} (h : opOk o = true) : inR o.f1 0 5 = true ∧ ((o.f0 = 1 ∧ inR o.f2 1 9 = true) ∨ (o.f0 = 2 ∧ inR o.f2 0 999 = true) ∨ (o.f0 = 3 ∧ inR o.f2 0 5 = true ∧ inR o.f3 0 5 = true) ∨ (o.f0 = 4 ∧ inR o.f2 0 5 = true ∧ inR o.f3 0 5 = true) ∨ (o.f0 = 5 ∧ inR o.f2 1 9 = true)) := by
  unfold opOk isOpV at h
  rw [Bool.and_eq_true] at h
  refine ⟨h.1, ?_⟩
  have h2 := h.2
  split at h2
  · rename_i h3
    rw [Bool.and_eq_true] at h2
    rcases h3 with h3 | h3
    · exact .inl ⟨h3, h2.1⟩
    · exact .inr (.inr (.inr (.inr ⟨h3, h2.1⟩)))
  · split at h2
    · rename_i h3
      rw [Bool.and_eq_true] at h2
      exact .inr (.inl ⟨h3, h2.1⟩)
    · split at h2
      · rename_i h3
        rw [Bool.and_eq_true] at h2
        rcases h3 with h3 | h3
        · exact .inr (.inr (.inl ⟨h3, h2.1, h2.2⟩))
        · exact .inr (.inr (.inr (.inl ⟨h3, h2.1, h2.2⟩)))
      · cases h2
theorem add_mod {x y : Int} (hx : 0 ≤ x ∧ x ≤ 999) (hy : 0 ≤ y ∧ y ≤ 999) : w64 (x + y) = x + y ∧ 0 ≤ (x + y).tmod 1000 ∧ (x + y).tmod 1000 ≤ 999 := by
  refine ⟨w64_id (by omega), ?_⟩
  rw [Int.tmod_eq_emod_of_nonneg (by omega)]
  omega
theorem Regs.step {v b : List Int} (h : Regs v b) (vals : List Int) {o : T_impl_Op} (ho : opOk o = true) : Regs (stp vals o v b).1 (stp vals o v b).2 := by
  obtain ⟨hA, hc⟩ := op_cases ho
  unfold stp
  rcases hc with ⟨e, h2⟩ | ⟨e, h2⟩ | ⟨e, h2, h3⟩ | ⟨e, h2, h3⟩ | ⟨e, h2⟩ <;> rw [e]
  · have := inR_true.1 h2
    exact h.set _ _ (valV_rg _ _) (label_one this.1 this.2).2
  · exact h.set _ _ (inR_true.1 h2) rfl
  · exact h.set _ _ (add_mod (h.val h2) (h.val h3)).2 (or_lab (h.lab h2) (h.lab h3))
  · have hl := or_lab (or_lab (h.lab hA) (h.lab h2)) (h.lab h3)
    show Regs (bif (rd_i64 v o.f2).tmod 2 == 0 then v.set o.f1.toNat (rd_i64 v o.f3) else v) _
    cases (rd_i64 v o.f2).tmod 2 == 0
    · exact h.setb _ hl
    · exact h.set _ _ (h.val h3) hl
  · exact h
theorem snt_len (o : T_impl_Op) (v b : List Int) : (snt o v b).length ≤ 1 := by
  unfold snt; cases o.f0 == 5 <;> simp
/-- A step is one of the list's. -/
theorem all_at {α : Type} {p : α → Bool} {l : List α} (h : l.all p = true) {i : Nat} {x : α} (hx : l[i]? = some x) : p x = true := by
  rw [List.all_eq_true] at h
  exact h x (List.mem_of_getElem? hx)
theorem spec_l21Step_e {k : Nat} (hk : Big k) {vals : List Int} (hv : Ok vals) {v b : List Int} (hr : Regs v b) {o : T_impl_Op} (ho : opOk o = true) :
    spec_l21Step.f k o.f0 o.f1 o.f2 o.f3 vals v b = some (bif o.f0 == 5 then (o.f2, rd_i64 v o.f1, rd_i64 b o.f1, true, v, b) else (0, 0, 0, false, (stp vals o v b).1, (stp vals o v b).2)) := by
  obtain ⟨hA, hc⟩ := op_cases ho
  have A1 := inR_true.1 hA
  have v6 := hr.vl
  have b6 := hr.bl
  have gA0 : decide (0 ≤ o.f1) = true := decide_eq_true A1.1
  have gA6 : decide (o.f1 < 6) = true := decide_eq_true (by omega)
  unfold spec_l21Step.f stp
  rcases hc with ⟨e, q2⟩ | ⟨e, q2⟩ | ⟨e, q2, q3⟩ | ⟨e, q2, q3⟩ | ⟨e, q2⟩
  · have B1 := inR_true.1 q2
    simp only [e, beq_self_eq_true, cond_true, spec_l21Value_e k hv B1.1, spec_LabelOf_e hk (Ok.small (l := [o.f2]) 1 (by simp)), (label_one B1.1 B1.2).1, Option.bind_some, v6, b6, gA0, gA6, Int.cast_ofNat_Int]
    rfl
  · simp [e, v6, b6, gA0, gA6]
  · have B1 := inR_true.1 q2
    have C1 := inR_true.1 q3
    have hm := (add_mod (hr.val q2) (hr.val q3)).1
    simp only [e, v6, b6, gA0, gA6, Int.cast_ofNat_Int, decide_eq_true B1.1, decide_eq_true C1.1, decide_eq_true (show o.f2 < 6 by omega), decide_eq_true (show o.f3 < 6 by omega), cond_true, hm, spec_JoinLabels_e hk (hr.lab q2) (hr.lab q3), Option.bind_some]
    rfl
  · have B1 := inR_true.1 q2
    have C1 := inR_true.1 q3
    simp only [e, v6, b6, gA0, gA6, Int.cast_ofNat_Int, decide_eq_true B1.1, decide_eq_true C1.1, decide_eq_true (show o.f2 < 6 by omega), decide_eq_true (show o.f3 < 6 by omega), cond_true, spec_JoinLabels_e hk (hr.lab q2) (hr.lab q3), spec_JoinLabels_e hk (hr.lab hA) (or_lab (hr.lab q2) (hr.lab q3)), Option.bind_some, orL_assoc (hr.lab hA) (hr.lab q2) (hr.lab q3)]
    cases (rd_i64 v o.f2).tmod 2 == 0 <;> rfl
  · simp [e, v6, b6, gA0, gA6]
theorem stp_send {vals : List Int} {o : T_impl_Op} {v b : List Int} (h : (o.f0 == 5) = true) : stp vals o v b = (v, b) := by
  have e := eq_of_beq h
  unfold stp
  rw [e]
  rfl
def hasF (l : List T_impl_Flow) (a b c : Int) : Bool := l.any fun x => (x.f0 == a) && ((x.f1 == b) && (x.f2 == c))
theorem spec_l20Has_e {k : Nat} (hk : Big k) {l : List T_impl_Flow} (hl : Ok l) (a b c : Int) : spec_l20Has.f k l a b c = some (hasF l a b c) := by
  unfold spec_l20Has.f hasF
  rw [loop_any (spec_l20Has.l2 k l a b c (fun y => some y) (fun _ => some false)) (fun x => (x.f0 == a) && ((x.f1 == b) && (x.f2 == c))) (some false) (some true) l (fun n i x hx => by
    obtain ⟨h1, h2, h3, h4⟩ := at_ hx (by have := hl.out; omega)
    simp only [spec_l20Has.l2, spec_l20Has.L2, rd_impl_Flow, h1, h2, h3, h4, cond_true]) (fun n => by simp only [spec_l20Has.l2, spec_l20Has.L2, end_, cond_false]) k (hk.lt hl)]
  cases l.any fun x => (x.f0 == a) && ((x.f1 == b) && (x.f2 == c)) <;> rfl
def mayOne (l : List T_impl_Flow) (e t o : Int) : Bool := !(o != t) || (isFlowV e o t && hasF l e o t)
def mayV (l : List T_impl_Flow) (e x t : Int) : Bool := (ownersV x).all (mayOne l e t) && (isLab x && inR t 1 9)
theorem run_len (vals : List Int) : ∀ (l : List T_impl_Op) (s : PSt), (l.foldl (runF vals) s).1.length ≤ s.1.length + l.length
  | [], s => by simp
  | o :: l, s => by
    have h := run_len vals l (runF vals s o)
    have hn := snt_len o s.2.1 s.2.2
    have : (runF vals s o).1.length = s.1.length + (snt o s.2.1 s.2.2).length := by simp [runF]
    rw [List.foldl_cons, List.length_cons]
    omega
theorem areOps_all {l : List T_impl_Op} (h : areOps l = true) : l.all opOk = true ∧ l.length ≤ 16 := by
  unfold areOps at h
  rw [Bool.and_eq_true] at h
  exact ⟨h.1, of_decide_eq_true h.2⟩
theorem sents_len {vals : List Int} {l : List T_impl_Op} (h : areOps l = true) : (runV vals l).1.length ≤ 16 := by
  have := run_len vals l ([], zeros, zeros)
  have h2 := (areOps_all h).2
  unfold runV
  simp only [List.length_nil] at this
  omega
def mayS (fl : List T_impl_Flow) (e : Int) (s : T_impl_Sent) : Bool := mayV fl e s.f2 s.f0
def sentsV (l : List T_impl_Op) (vals : List Int) (fl : List T_impl_Flow) (e : Int) : List T_impl_Sent := bif areOps l then (runV vals l).1.filter (mayS fl e) else []
theorem sentsV_len (l : List T_impl_Op) (vals : List Int) (fl : List T_impl_Flow) (e : Int) : (sentsV l vals fl e).length ≤ 16 := by
  unfold sentsV
  cases h : areOps l with
  | false => simp
  | true => exact Nat.le_trans (List.length_filter_le _ _) (sents_len h)
def addOne (e t : Int) (out : List T_impl_Flow) (o : Int) : List T_impl_Flow := bif (o != t) && !hasF out e o t then out ++ [⟨e, o, t⟩] else out
def addS (e : Int) (out : List T_impl_Flow) (s : T_impl_Sent) : List T_impl_Flow := (ownersV s.f2).foldl (addOne e s.f0) out
def needsV (l : List T_impl_Op) (e : Int) : List T_impl_Flow := bif areOps l then (runV [] l).1.foldl (addS e) [] else []
theorem addOne_len (e t : Int) (out : List T_impl_Flow) (o : Int) : (addOne e t out o).length ≤ out.length + 1 := by
  unfold addOne
  cases (o != t) && !hasF out e o t <;> simp
theorem addO_len (e t : Int) : ∀ (L : List Int) (out : List T_impl_Flow), (L.foldl (addOne e t) out).length ≤ out.length + L.length
  | [], out => by simp
  | o :: L, out => by
    have h1 := addO_len e t L (addOne e t out o)
    have h2 := addOne_len e t out o
    rw [List.foldl_cons, List.length_cons]
    omega
theorem addS_len (e : Int) (out : List T_impl_Flow) (s : T_impl_Sent) : (addS e out s).length ≤ out.length + 9 := by
  have h1 := addO_len e s.f0 (ownersV s.f2) out
  have h2 := ownersV_len s.f2
  unfold addS
  omega
theorem addSs_len (e : Int) : ∀ (S : List T_impl_Sent) (out : List T_impl_Flow), (S.foldl (addS e) out).length ≤ out.length + 9 * S.length
  | [], out => by simp
  | s :: S, out => by
    have h1 := addSs_len e S (addS e out s)
    have h2 := addS_len e out s
    rw [List.foldl_cons, List.length_cons]
    omega
theorem needsV_len (l : List T_impl_Op) (e : Int) : (needsV l e).length ≤ 144 := by
  unfold needsV
  cases h : areOps l with
  | false => simp
  | true =>
    have h1 := addSs_len e (runV [] l).1 []
    have h2 := sents_len (vals := []) h
    simp only [List.length_nil] at h1
    simp only [cond_true]
    omega
theorem needsV_ok (l : List T_impl_Op) (e : Int) : Ok (needsV l e) := Ok.small 144 (needsV_len l e)
theorem spec_NeedsFlows_in {k : Nat} (hk : Big k) (e x5 : Int) (l : List T_impl_Op) (v b : List Int) (t a x : Int) {R : Type} (X : List T_impl_Flow → Option R) {L : List Int} (hL : L.length ≤ 9) {out : List T_impl_Flow} (ho : out.length ≤ 1000) :
    spec_NeedsFlows.l10 k e x5 true l v b t a x L X k 0 out = X (L.foldl (addOne e t) out) := by
  refine loop_fold (fun q i s => spec_NeedsFlows.l10 k e x5 true l v b t a x L X q i s) (addOne e t) (fun i s => s.length ≤ out.length + i) X L (fun n i o s hx hi => ?_) (fun i o s hx hi => ?_) (fun n s hi => ?_) k out (by have := hk.out; omega) (Nat.le_refl _)
  · have hlt := lt_of hx
    obtain ⟨h1, h2, h3, h4⟩ := at_ hx (by omega)
    have hi : s.length ≤ out.length + i := hi
    simp only [spec_NeedsFlows.l10, spec_NeedsFlows.L10, rd_i64, h1, h2, h3, h4, cond_true, spec_l20Has_e hk (Ok.small (l := s) 2000 (by omega)), Option.bind_some, addOne]
    rw [decide_eq_true (by unfold cap48; simp; omega), cond_true]
    cases o != t <;> cases hasF s e o t <;> rfl
  · have := addOne_len e t s o
    show (addOne e t s o).length ≤ out.length + (i + 1)
    have hi : s.length ≤ out.length + i := hi
    omega
  · simp only [spec_NeedsFlows.l10, spec_NeedsFlows.L10, end_, cond_false]
abbrev NSt := List T_impl_Flow × List Int × List Int
def runN (e : Int) (s : NSt) (o : T_impl_Op) : NSt := ((snt o s.2.1 s.2.2).foldl (addS e) s.1, stp [] o s.2.1 s.2.2)
theorem runN_fold (e : Int) : ∀ (l : List T_impl_Op) (s : PSt), l.foldl (runN e) (s.1.foldl (addS e) [], s.2) = ((l.foldl (runF []) s).1.foldl (addS e) [], (l.foldl (runF []) s).2)
  | [], s => rfl
  | o :: l, s => by
    rw [List.foldl_cons, List.foldl_cons, ← runN_fold e l]
    unfold runN runF
    rw [List.foldl_append]
theorem spec_NeedsFlows_e {k : Nat} (hk : Big k) {l : List T_impl_Op} (hl : Ok l) (e : Int) : spec_NeedsFlows.f k l e = some (needsV l e) := by
  have hl' := hl.out
  have hk' := hk.out
  unfold spec_NeedsFlows.f needsV
  simp only [spec_l21Zeros_e hk, Option.bind_some]
  cases h : areOps l with
  | false =>
    obtain ⟨q, hq⟩ : ∃ j, k = j + 1 := ⟨k - 1, by omega⟩
    rw [show ∀ a b, spec_NeedsFlows.l5 k e l (fun y => some y) k 0 [] a b = spec_NeedsFlows.l5 k e l (fun y => some y) (q + 1) 0 [] a b from fun a b => by rw [← hq]]
    simp only [spec_NeedsFlows.l5, spec_NeedsFlows.L5, spec_AreOps_e hk hl, h, Option.bind_some, cond_false]
    cases decide ((0 : Int) < (l.length : Int)) <;> rfl
  | true =>
    obtain ⟨ha, h16⟩ := areOps_all h
    have := loop_fold (fun q i (s : NSt) => spec_NeedsFlows.l5 k e l (fun y => some y) q i s.1 s.2.1 s.2.2) (runN e) (fun i s => s.1.length ≤ 9 * i ∧ Regs s.2.1 s.2.2) (fun s => some s.1) l (fun n i o s hx hi => by
      obtain ⟨s, v, b⟩ := s
      obtain ⟨hs, hr⟩ := hi
      have hlt := lt_of hx
      obtain ⟨h1, h2, h3, h4⟩ := at_ hx (by omega)
      have hs : s.length ≤ 9 * i := hs
      simp only [spec_NeedsFlows.l5, spec_NeedsFlows.L5, rd_impl_Op, h1, h2, h3, h4, cond_true, spec_AreOps_e hk hl, h, spec_l21Step_e hk (Ok.small (l := ([] : List Int)) 0 (by simp)) hr (all_at ha hx), Option.bind_some, runN, snt]
      cases h5 : o.f0 == 5 with
      | false =>
        simp only [cond_false, spec_OwnersIn_e hk, Option.bind_some]
        obtain ⟨q, rfl⟩ : ∃ j, k = j + 1 := ⟨k - 1, by omega⟩
        rw [show ownersV 0 = [] by decide]
        rfl
      | true =>
        rw [stp_send h5]
        simp only [cond_true, spec_OwnersIn_e hk, Option.bind_some]
        rw [spec_NeedsFlows_in hk _ _ _ _ _ _ _ _ _ (ownersV_len _) (by omega)]
        rfl) (fun i o s hx hi => by
      refine ⟨?_, hi.2.step [] (all_at ha hx)⟩
      have h9 := snt_len o s.2.1 s.2.2
      have h8 := addSs_len e (snt o s.2.1 s.2.2) s.1
      have h7 : s.1.length ≤ 9 * i := hi.1
      show ((snt o s.2.1 s.2.2).foldl (addS e) s.1).length ≤ 9 * (i + 1)
      omega) (fun n s hi => by simp only [spec_NeedsFlows.l5, spec_NeedsFlows.L5, end_, cond_false]) k ([], zeros, zeros) (hk.lt hl) ⟨Nat.le_refl 0, Regs.zero⟩
    have h2 := runN_fold e l ([], zeros, zeros)
    rw [show (([] : List T_impl_Sent).foldl (addS e) []) = [] from rfl] at h2
    rw [h2] at this
    exact this
def withinF (l m : List T_impl_Flow) : Bool := l.all fun x => isFlowV x.f0 x.f1 x.f2 && hasF m x.f0 x.f1 x.f2
theorem spec_FlowsWithin_e {k : Nat} (hk : Big k) {l m : List T_impl_Flow} (hl : Ok l) (hm : Ok m) : spec_FlowsWithin.f k l m = some (withinF l m) := by
  unfold spec_FlowsWithin.f withinF
  rw [loop_all (spec_FlowsWithin.l2 k l m (fun y => some y) (fun _ => some true)) (fun x => isFlowV x.f0 x.f1 x.f2 && hasF m x.f0 x.f1 x.f2) (some true) (some false) l (fun n i x hx => by
    obtain ⟨h1, h2, h3, h4⟩ := at_ hx (by have := hl.out; omega)
    simp only [spec_FlowsWithin.l2, spec_FlowsWithin.L2, rd_impl_Flow, h1, h2, h3, h4, cond_true, spec_IsFlow_e, spec_l20Has_e hk hm, Option.bind_some]
    cases isFlowV x.f0 x.f1 x.f2 <;> cases hasF m x.f0 x.f1 x.f2 <;> rfl) (fun n => by simp only [spec_FlowsWithin.l2, spec_FlowsWithin.L2, end_, cond_false]) k (hk.lt hl)]
  cases l.all fun x => isFlowV x.f0 x.f1 x.f2 && hasF m x.f0 x.f1 x.f2 <;> rfl
theorem spec_IsTightFor_e {k : Nat} (hk : Big k) {l : List T_impl_Op} (hl : Ok l) {f : List T_impl_Flow} (hf : Ok f) (e : Int) : spec_IsTightFor.f k l f e = some (areOps l && withinF (needsV l e) f) := by
  unfold spec_IsTightFor.f
  simp only [spec_AreOps_e hk hl, spec_NeedsFlows_e hk hl, spec_FlowsWithin_e hk (needsV_ok l e) hf, Option.bind_some]
  cases areOps l <;> rfl
def reviewV (key a b c d : Int) (g : List T_impl_Grant) (f : List T_impl_Flow) (r : List T_impl_Rule) (o : List T_impl_Op) : Int :=
  bif !isPk a b c g f r o then 1 else bif !(isPk a b c g f r o && (inR key 1 2147483646 && (sealV key a b c g f r o == d))) then 2 else bif !rulesV g r then 3 else bif !allFor g 1 (ownersOfV 1 o) then 4 else bif !allFor g 3 (ownersOfV 5 o) then 5 else bif !(areOps o && withinF (needsV o a) f) then 6 else 0
theorem spec_ReviewPackage_e {k : Nat} (hk : Big k) (key a b c d : Int) {g : List T_impl_Grant} {f : List T_impl_Flow} {r : List T_impl_Rule} {o : List T_impl_Op} (hg : Ok g) (hf : Ok f) (hr : Ok r) (ho : Ok o) :
    spec_ReviewPackage.f k key a b c g f r o d = some (reviewV key a b c d g f r o) := by
  unfold spec_ReviewPackage.f reviewV
  simp only [spec_IsPackage_e hk a b c d hg hf hr ho, spec_IsSealed_e hk key a b c d hg hf hr ho, spec_l27Rules_e hk a b c d (f := f) (o := o) hg hr, spec_OwnersRead_e hk ho, spec_OwnersSent_e hk ho, spec_l27All_e hk hg 1 (ownersOfV_ok (kd := 1) ho), spec_l27All_e hk hg 3 (ownersOfV_ok (kd := 5) ho), spec_IsTightFor_e hk ho hf, Option.bind_some]
  generalize (inR key 1 2147483646 && (sealV key a b c g f r o == d)) = p2
  generalize isPk a b c g f r o = p1, rulesV g r = p3, allFor g 1 (ownersOfV 1 o) = p4, allFor g 3 (ownersOfV 5 o) = p5, (areOps o && withinF (needsV o a) f) = p6
  cases p1 <;> cases p2 <;> cases p3 <;> cases p4 <;> cases p5 <;> cases p6 <;> rfl
def rollV (key a b c d : Int) (g : List T_impl_Grant) (f : List T_impl_Flow) (r : List T_impl_Rule) (o : List T_impl_Op) (a' b' c' : Int) (g' : List T_impl_Grant) (f' : List T_impl_Flow) (r' : List T_impl_Rule) (o' : List T_impl_Op) : Bool :=
  (reviewV key a b c d g f r o == 0) && (isPk a' b' c' g' f' r' o' && ((a' == a) && decide (c' > c)))
theorem spec_CanRollBack_e {k : Nat} (hk : Big k) (key a b c d : Int) {g : List T_impl_Grant} {f : List T_impl_Flow} {r : List T_impl_Rule} {o : List T_impl_Op} (s : List T_impl_Stored) (a' b' c' d' : Int) {g' : List T_impl_Grant} {f' : List T_impl_Flow} {r' : List T_impl_Rule} {o' : List T_impl_Op} (hg : Ok g) (hf : Ok f) (hr : Ok r) (ho : Ok o) (hg' : Ok g') (hf' : Ok f') (hr' : Ok r') (ho' : Ok o') :
    spec_CanRollBack.f k key a b c g f r o d s a' b' c' g' f' r' o' d' = some (rollV key a b c d g f r o a' b' c' g' f' r' o') := by
  unfold spec_CanRollBack.f rollV
  simp only [spec_ReviewPackage_e hk key a b c d hg hf hr ho, spec_IsPackage_e hk a' b' c' d' hg' hf' hr' ho', Option.bind_some]
  generalize (reviewV key a b c d g f r o == 0) = p1, isPk a' b' c' g' f' r' o' = p2, (a' == a) = p3, decide (c' > c) = p4
  cases p1 <;> cases p2 <;> cases p3 <;> rfl
theorem impl_InRange_e (k : Nat) (n a b : Int) : impl_InRange.f k n a b = some (inR n a b) := by
  unfold impl_InRange.f inR
  by_cases h : a ≤ n <;> simp [h]
theorem impl_IsPattern_e (k : Nat) (a b : Int) : impl_IsPattern.f k a b = some (isPattern a b) := by
  unfold impl_IsPattern.f isPattern
  simp only [impl_InRange_e, Option.bind_some]
  cases inR a 0 9 <;> simp
theorem impl_IsGrant_e (k : Nat) (e a b kd f u : Int) (cl : Bool) : impl_IsGrant.f k e a b kd f u cl = some (isGrant e a b kd f u) := by
  unfold impl_IsGrant.f isGrant
  simp only [impl_InRange_e, impl_IsPattern_e, Option.bind_some, ge_iff_le]
  cases inR e 1 5 <;> cases isPattern a b <;> cases inR kd 1 4 <;> by_cases h1 : 0 ≤ f <;> by_cases h2 : f ≤ u <;> simp [h1, h2]
theorem impl_IsFlow_e (k : Nat) (a b c : Int) : impl_IsFlow.f k a b c = some (isFlowV a b c) := by
  unfold impl_IsFlow.f isFlowV
  simp only [impl_InRange_e, Option.bind_some]
  cases inR a 1 5 <;> cases inR b 1 9 <;> simp
theorem impl_IsSite_e (k : Nat) (a b : Int) : impl_IsSite.f k a b = some (isSiteV a b) := by
  unfold impl_IsSite.f isSiteV
  simp only [impl_InRange_e, Option.bind_some]
  cases inR a 1 9 <;> simp
theorem impl_IsRule_e (k : Nat) (e o p q kd a s1 s2 : Int) : impl_IsRule.f k e o p q kd a s1 s2 = some (isRuleV e o p q kd a s1 s2) := by
  unfold impl_IsRule.f isRuleV
  simp only [impl_InRange_e, impl_IsPattern_e, impl_IsSite_e, Option.bind_some]
  cases inR e 1 5 <;> cases inR o 1 9 <;> cases isPattern p q <;> cases inR kd 0 4 <;> try simp
  by_cases h1 : a = 1
  · subst h1; simp [inR]
  · by_cases h2 : a = 2
    · subst h2; simp [inR]
    · by_cases h3 : a = 3
      · subst h3; simp [inR]
      · rw [show inR a 1 3 = false from inR_false.2 (by omega)]
        simp [h1, h2, h3, beqF h1, beqF h2, beqF h3]
theorem impl_isRegister_e (k : Nat) (n : Int) : impl_isRegister.f k n = some (inR n 0 5) := by
  unfold impl_isRegister.f
  rw [impl_InRange_e, Option.bind_some]
theorem impl_isOp_e (k : Nat) (kd a b c : Int) : impl_isOp.f k kd a b c = some (isOpV kd a b c) := by
  unfold impl_isOp.f isOpV
  simp only [impl_isRegister_e, impl_InRange_e, Option.bind_some]
  cases inR a 0 5 <;>
  · by_cases h1 : kd = 1
    · subst h1; cases inR b 1 9 <;> simp
    · by_cases h5 : kd = 5
      · subst h5; cases inR b 1 9 <;> simp
      · by_cases h2 : kd = 2
        · subst h2; cases inR b 0 999 <;> simp
        · by_cases h3 : kd = 3
          · subst h3; cases inR b 0 5 <;> simp
          · by_cases h4 : kd = 4
            · subst h4; cases inR b 0 5 <;> simp
            · simp [h1, h2, h3, h4, h5, beqF h1, beqF h2, beqF h3, beqF h4, beqF h5]
theorem impl_AreOps_e {k : Nat} (hk : Big k) {l : List T_impl_Op} (hl : Ok l) : impl_AreOps.f k l = some (areOps l) := by
  unfold impl_AreOps.f areOps
  rw [loop_all (impl_AreOps.l4 k (l.length : Int) l (fun y => some y) (fun _ => some true)) opOk (some true) (some false) l (fun n i x hx => by
    obtain ⟨h1, h2, h3, h4⟩ := at_ hx (by have := hl.out; omega)
    simp only [impl_AreOps.l4, impl_AreOps.L4, rd_impl_Op, h1, h2, h3, h4, impl_isOp_e, Option.bind_some, cond_true]
    cases hp : opOk x <;> simp only [opOk] at hp <;> rw [hp] <;> rfl) (fun n => by simp only [impl_AreOps.l4, impl_AreOps.L4, end_, cond_false]) k (hk.lt hl)]
  by_cases h : l.length ≤ 16
  · rw [decide_eq_false (show ¬ ((l.length : Int) > 16) by omega), decide_eq_true h]
    cases l.all opOk <;> rfl
  · rw [decide_eq_true (show (l.length : Int) > 16 by omega), decide_eq_false h]
    simp
theorem impl_IsPackage_e {k : Nat} (hk : Big k) (a b c : Int) {g : List T_impl_Grant} {f : List T_impl_Flow} {r : List T_impl_Rule} {o : List T_impl_Op} (d : Int) (hg : Ok g) (hf : Ok f) (hr : Ok r) (ho : Ok o) :
    impl_IsPackage.f k a b c g f r o d = some (isPk a b c g f r o) := by
  unfold impl_IsPackage.f isPk
  have t1 : ∀ X1, impl_IsPackage.l4 k (g.length : Int) g f r o a b c d (fun y => some y) X1 k 0 = bif g.all (gAt a) then X1 () else some false := fun X1 =>
    loop_all _ (gAt a) _ _ g (fun n i x hx => by
      obtain ⟨h1, h2, h3, h4⟩ := at_ hx (by have := hg.out; omega)
      simp only [impl_IsPackage.l4, impl_IsPackage.L4, rd_impl_Grant, h1, h2, h3, h4, impl_IsGrant_e, Option.bind_some, cond_true, gAt, bne]
      cases isGrant x.f0 x.f1.f0 x.f1.f1 x.f2 x.f3 x.f4 <;> cases (x.f0 == a) <;> rfl) (fun n => by simp only [impl_IsPackage.l4, impl_IsPackage.L4, end_, cond_false]) k (hk.lt hg)
  have t2 : ∀ X1, impl_IsPackage.l10 k (f.length : Int) g f r o a b c d (fun y => some y) X1 k 0 = bif f.all (fAt a) then X1 () else some false := fun X1 =>
    loop_all _ (fAt a) _ _ f (fun n i x hx => by
      obtain ⟨h1, h2, h3, h4⟩ := at_ hx (by have := hf.out; omega)
      simp only [impl_IsPackage.l10, impl_IsPackage.L10, rd_impl_Flow, h1, h2, h3, h4, impl_IsFlow_e, Option.bind_some, cond_true, fAt, bne]
      cases isFlowV x.f0 x.f1 x.f2 <;> cases (x.f0 == a) <;> rfl) (fun n => by simp only [impl_IsPackage.l10, impl_IsPackage.L10, end_, cond_false]) k (hk.lt hf)
  have t3 : ∀ X1, impl_IsPackage.l16 k (r.length : Int) g f r o a b c d (fun y => some y) X1 k 0 = bif r.all (rAt a) then X1 () else some false := fun X1 =>
    loop_all _ (rAt a) _ _ r (fun n i x hx => by
      obtain ⟨h1, h2, h3, h4⟩ := at_ hx (by have := hr.out; omega)
      simp only [impl_IsPackage.l16, impl_IsPackage.L16, rd_impl_Rule, h1, h2, h3, h4, impl_IsRule_e, Option.bind_some, cond_true, rAt, bne]
      cases isRuleV x.f0 x.f1 x.f2.f0 x.f2.f1 x.f3 x.f4 x.f5.f0 x.f5.f1 <;> cases (x.f0 == a) <;> rfl) (fun n => by simp only [impl_IsPackage.l16, impl_IsPackage.L16, end_, cond_false]) k (hk.lt hr)
  simp only [impl_InRange_e, Option.bind_some, impl_AreOps_e hk ho, t1, t2, t3]
  have e : ∀ n : Nat, decide ((n : Int) > 6) = !decide (n ≤ 6) := fun n => by by_cases h : n ≤ 6 <;> simp [h] <;> omega
  rw [e, e, e]
  cases inR a 1 5 <;> cases inR b 1 9 <;> cases inR c 1 999 <;> cases decide (g.length ≤ 6) <;> cases decide (f.length ≤ 6) <;> cases decide (r.length ≤ 6) <;> try rfl
  all_goals first | rfl | (cases areOps o <;> cases g.all (gAt a) <;> cases f.all (fAt a) <;> cases r.all (rAt a) <;> rfl) | simp
theorem impl_IsValidKey_e (k : Nat) (n : Int) : impl_IsValidKey.f k n = some (inR n 1 2147483646) := by
  unfold impl_IsValidKey.f
  rw [impl_InRange_e, Option.bind_some]
theorem impl_bit_e (k : Nat) (b : Bool) : impl_bit.f k b = some (bif b then 1 else 0) := by unfold impl_bit.f; cases b <;> rfl
theorem impl_PackageInts_e {k : Nat} (hk : Big k) (a b c : Int) {g : List T_impl_Grant} {f : List T_impl_Flow} {r : List T_impl_Rule} {o : List T_impl_Op} (d : Int) (hg : Ok g) (hf : Ok f) (hr : Ok r) (ho : Ok o) :
    impl_PackageInts.f k a b c g f r o d = some (bif isPk a b c g f r o then pkInts a b c g f r o else []) := by
  unfold impl_PackageInts.f
  simp only [impl_IsPackage_e hk a b c d hg hf hr ho, Option.bind_some]
  cases hp : isPk a b c g f r o with
  | false => rfl
  | true =>
    obtain ⟨l1, l2, l3, l4⟩ := isPk_len hp
    have t1 : ∀ (X : List Int → Option (List Int)) s, s.length ≤ 1000 → impl_PackageInts.l5 k (g.length : Int) g f r o a b c d X k 0 s = X (s ++ g.flatMap gInts) := fun X s hs =>
      loop_app _ gInts 6 (fun _ => rfl) 1040 X g (fun n i x s hx hb => by
        obtain ⟨h1, h2, h3, h4⟩ := at_ hx (by omega)
        simp only [impl_PackageInts.l5, impl_PackageInts.L5, rd_impl_Grant, h1, h2, h3, h4, cond_true, impl_bit_e, Option.bind_some, gInts]
        rw [cap8 (by simp only [List.length_cons, List.length_nil]; omega)]; rfl) (fun n s => by simp only [impl_PackageInts.l5, impl_PackageInts.L5, end_, cond_false]) k s (hk.lt hg) (by omega)
    have t2 : ∀ (X : List Int → Option (List Int)) s, s.length ≤ 1100 → impl_PackageInts.l11 k (f.length : Int) g f r o a b c d X k 0 s = X (s ++ f.flatMap fInts) := fun X s hs =>
      loop_app _ fInts 2 (fun _ => rfl) 1140 X f (fun n i x s hx hb => by
        obtain ⟨h1, h2, h3, h4⟩ := at_ hx (by omega)
        simp only [impl_PackageInts.l11, impl_PackageInts.L11, rd_impl_Flow, h1, h2, h3, h4, cond_true, fInts]
        rw [cap8 (by simp only [List.length_cons, List.length_nil]; omega)]; rfl) (fun n s => by simp only [impl_PackageInts.l11, impl_PackageInts.L11, end_, cond_false]) k s (hk.lt hf) (by omega)
    have t3 : ∀ (X : List Int → Option (List Int)) s, s.length ≤ 1200 → impl_PackageInts.l17 k (r.length : Int) g f r o a b c d X k 0 s = X (s ++ r.flatMap rInts) := fun X s hs =>
      loop_app _ rInts 7 (fun _ => rfl) 1260 X r (fun n i x s hx hb => by
        obtain ⟨h1, h2, h3, h4⟩ := at_ hx (by omega)
        simp only [impl_PackageInts.l17, impl_PackageInts.L17, rd_impl_Rule, h1, h2, h3, h4, cond_true, rInts]
        rw [cap8 (by simp only [List.length_cons, List.length_nil]; omega)]; rfl) (fun n s => by simp only [impl_PackageInts.l17, impl_PackageInts.L17, end_, cond_false]) k s (hk.lt hr) (by omega)
    have t4 : ∀ (X : List Int → Option (List Int)) s, s.length ≤ 1300 → impl_PackageInts.l23 k (o.length : Int) g f r o X k 0 s = X (s ++ o.flatMap oInts) := fun X s hs =>
      loop_app _ oInts 4 (fun _ => rfl) 1400 X o (fun n i x s hx hb => by
        obtain ⟨h1, h2, h3, h4⟩ := at_ hx (by omega)
        simp only [impl_PackageInts.l23, impl_PackageInts.L23, rd_impl_Op, h1, h2, h3, h4, cond_true, oInts]
        rw [cap8 (by simp only [List.length_cons, List.length_nil]; omega)]; rfl) (fun n s => by simp only [impl_PackageInts.l23, impl_PackageInts.L23, end_, cond_false]) k s (hk.lt ho) (by omega)
    have n1 := fm_len gInts 6 (fun _ => rfl) g
    have n2 := fm_len fInts 2 (fun _ => rfl) f
    have n3 := fm_len rInts 7 (fun _ => rfl) r
    rw [Bool.not_true, cond_false, cond_true, t1 _ _ (by simp)]
    rw [cap8 (by simp only [List.length_append, List.length_cons, List.length_nil]; omega), cond_true, t2 _ _ (by simp only [List.length_append, List.length_cons, List.length_nil]; omega)]
    rw [cap8 (by simp only [List.length_append, List.length_cons, List.length_nil]; omega), cond_true, t3 _ _ (by simp only [List.length_append, List.length_cons, List.length_nil]; omega)]
    rw [cap8 (by simp only [List.length_append, List.length_cons, List.length_nil]; omega), cond_true, t4 _ _ (by simp only [List.length_append, List.length_cons, List.length_nil]; omega)]
    rfl
theorem impl_Mod_e (k : Nat) (a : Int) : impl_Mod.f k a 2147483647 = some (a % 2147483647) := by
  unfold impl_Mod.f
  rw [impl_InRange_e, Option.bind_some, show inR 2147483647 1 1000000000000 = true from rfl]
  simp only [Bool.not_true, cond_false, show decide ((2147483647 : Int) = 0) = false from rfl]
  have h0 := tmod31 a
  by_cases h : a.tmod 2147483647 < 0
  · rw [decide_eq_true h, cond_true, w64_id (by omega), tmod31_neg a h]
  · rw [decide_eq_false h, cond_false, tmod31_nn a h]
theorem impl_fold_e (k : Nat) (h v : Int) : impl_fold.f k h v = some (fold1 h v) := by
  unfold impl_fold.f fold1
  rw [impl_Mod_e, Option.bind_some]
theorem impl_KeyedHash_e {k : Nat} (hk : Big k) (key : Int) {l : List Int} (hl : l.length ≤ 1000000) : impl_KeyedHash.f k key l = some (keyed key l) := by
  unfold impl_KeyedHash.f keyed
  rw [impl_fold_e, Option.bind_some]
  have := loop_fold (fun n i s => impl_KeyedHash.l3 k key (l.length : Int) l (fun (y3 : Int) => (impl_fold.f k y3 key).bind fun t4 => some t4) n s i) fold1 (fun _ _ => True) (fun (y3 : Int) => (impl_fold.f k y3 key).bind fun t4 => some t4) l (fun n i x s hx _ => by
    obtain ⟨h1, h2, h3, h4⟩ := at_ hx (by omega)
    simp only [impl_KeyedHash.l3, impl_KeyedHash.L3, rd_i64, h1, h2, h3, h4, cond_true, impl_fold_e, Option.bind_some]) (fun _ _ _ _ _ => trivial)
    (fun n s _ => by simp only [impl_KeyedHash.l3, impl_KeyedHash.L3, end_, cond_false]) k (fold1 11 key) (by have := hk.out; omega) trivial
  rw [this, impl_fold_e, Option.bind_some]
  simp
theorem impl_sealOf_e {k : Nat} (hk : Big k) (key a b c : Int) {g : List T_impl_Grant} {f : List T_impl_Flow} {r : List T_impl_Rule} {o : List T_impl_Op} (d : Int) (hg : Ok g) (hf : Ok f) (hr : Ok r) (ho : Ok o) :
    impl_sealOf.f k key a b c g f r o d = some (sealV key a b c g f r o) := by
  unfold impl_sealOf.f sealV
  simp only [impl_IsValidKey_e, impl_IsPackage_e hk a b c d hg hf hr ho, impl_PackageInts_e hk a b c d hg hf hr ho, Option.bind_some]
  cases inR key 1 2147483646 with
  | false => rfl
  | true =>
    cases hp : isPk a b c g f r o with
    | false => rfl
    | true =>
      simp only [Bool.not_true, cond_false, cond_true, Bool.true_and, impl_KeyedHash_e hk key (pkInts_len hp), Option.bind_some]
theorem impl_IsSealed_e {k : Nat} (hk : Big k) (key a b c : Int) {g : List T_impl_Grant} {f : List T_impl_Flow} {r : List T_impl_Rule} {o : List T_impl_Op} (d : Int) (hg : Ok g) (hf : Ok f) (hr : Ok r) (ho : Ok o) :
    impl_IsSealed.f k key a b c g f r o d = some (isPk a b c g f r o && (inR key 1 2147483646 && (sealV key a b c g f r o == d))) := by
  unfold impl_IsSealed.f
  simp only [impl_sealOf_e hk key a b c d hg hf hr ho, impl_IsValidKey_e, impl_IsPackage_e hk a b c d hg hf hr ho, Option.bind_some]
  cases isPk a b c g f r o <;> cases inR key 1 2147483646 <;> try rfl
  simp only [cond_true, Bool.true_and]
  rw [Bool.beq_comm]
theorem impl_IsNarrower_e (k : Nat) (a b c d : Int) : impl_IsNarrower.f k a b c d = some (isNarrow a b c d) := by
  unfold impl_IsNarrower.f isNarrow
  simp only [impl_IsPattern_e, Option.bind_some]
  cases isPattern a b <;> cases isPattern c d <;> cases (c == 0) <;> cases (a == c) <;> cases (d == -1) <;> rfl
theorem impl_covered_e {k : Nat} (hk : Big k) {g : List T_impl_Grant} (hg : Ok g) (x : T_impl_Rule) : impl_covered.f k g x.f2.f0 x.f2.f1 = some (g.any (coverOne x)) := by
  unfold impl_covered.f
  rw [loop_any (impl_covered.l2 k (g.length : Int) g x.f2.f0 x.f2.f1 (fun y => some y) (fun _ => some false)) (coverOne x) (some false) (some true) g (fun n i y hx => by
    obtain ⟨h1, h2, h3, h4⟩ := at_ hx (by have := hg.out; omega)
    simp only [impl_covered.l2, impl_covered.L2, rd_impl_Grant, h1, h2, h3, h4, cond_true, impl_IsNarrower_e, Option.bind_some, coverOne]
    cases y.f2 == 3 <;> rfl) (fun n => by simp only [impl_covered.l2, impl_covered.L2, end_, cond_false]) k (hk.lt hg)]
  cases g.any (coverOne x) <;> rfl
theorem impl_ordered_e (k : Nat) {l : List Int} (hl : Ok l) : impl_ordered.f k l = some (ordV l) := by
  have hl' := hl.out
  unfold impl_ordered.f slices_Sort_int.f slices_Compact_int.f sortF compactF ordV
  rw [decide_eq_true (by omega)]
  rfl
theorem impl_ownersOf_e {k : Nat} (hk : Big k) {l : List T_impl_Op} (hl : Ok l) (kd : Int) : impl_ownersOf.f k l kd = some (ownersOfV kd l) := by
  have hl' := hl.out
  unfold impl_ownersOf.f ownersOfV
  rw [impl_AreOps_e hk hl, Option.bind_some]
  cases h : areOps l with
  | false => rfl
  | true =>
    have hb := ownB_len kd l
    have := loop_fold (fun q i s => impl_ownersOf.l5 k kd (l.length : Int) l (fun y => (impl_ordered.f k y).bind fun t3 => some t3) q i s) (fun s o => bif o.f0 == kd then s ++ [o.f2] else s) (fun i s => s.length ≤ i) (fun y => (impl_ordered.f k y).bind fun t3 => some t3) l (fun n i o s hx hi => by
      have hlt := lt_of hx
      obtain ⟨h1, h2, h3, h4⟩ := at_ hx (by omega)
      have hi : s.length ≤ i := hi
      simp only [impl_ownersOf.l5, impl_ownersOf.L5, rd_impl_Op, h1, h2, h3, h4, cond_true]
      rw [decide_eq_true (by unfold cap48; simp; omega), cond_true]
      cases o.f0 == kd <;> rfl) (fun i o s hx hi => by
      have hi : s.length ≤ i := hi
      cases o.f0 == kd
      · show s.length ≤ i + 1; omega
      · show (s ++ [o.f2]).length ≤ i + 1; simp; omega) (fun n s hi => by simp only [impl_ownersOf.l5, impl_ownersOf.L5, end_, cond_false]) k [] (hk.lt hl) (Nat.le_refl 0)
    rw [fold_own2, List.nil_append, impl_ordered_e k (Ok.small 1048576 (by omega))] at this
    exact this
theorem impl_OwnersRead_e {k : Nat} (hk : Big k) {l : List T_impl_Op} (hl : Ok l) : impl_OwnersRead.f k l = some (ownersOfV 1 l) := by
  unfold impl_OwnersRead.f; rw [impl_ownersOf_e hk hl]; rfl
theorem impl_OwnersSent_e {k : Nat} (hk : Big k) {l : List T_impl_Op} (hl : Ok l) : impl_OwnersSent.f k l = some (ownersOfV 5 l) := by
  unfold impl_OwnersSent.f; rw [impl_ownersOf_e hk hl]; rfl
theorem impl_HasGrantFor_e {k : Nat} (hk : Big k) {l : List T_impl_Grant} (hl : Ok l) (kd o : Int) : impl_HasGrantFor.f k l kd o = some (grantFor l kd o) := by
  unfold impl_HasGrantFor.f grantFor
  rw [loop_any (impl_HasGrantFor.l2 k kd o (l.length : Int) l (fun y => some y) (fun _ => some false)) (forOne kd o) (some false) (some true) l (fun n i x hx => by
    obtain ⟨h1, h2, h3, h4⟩ := at_ hx (by have := hl.out; omega)
    simp only [impl_HasGrantFor.l2, impl_HasGrantFor.L2, rd_impl_Grant, h1, h2, h3, h4, cond_true, impl_IsGrant_e, Option.bind_some, forOne, gOk]
    cases isGrant x.f0 x.f1.f0 x.f1.f1 x.f2 x.f3 x.f4 <;> cases x.f2 == kd <;> cases x.f1.f0 == o <;> cases x.f1.f0 == 0 <;> rfl) (fun n => by simp only [impl_HasGrantFor.l2, impl_HasGrantFor.L2, end_, cond_false]) k (hk.lt hl)]
  cases l.any (forOne kd o) <;> rfl
theorem impl_allGranted_e {k : Nat} (hk : Big k) {l : List T_impl_Grant} (hl : Ok l) (kd : Int) {os : List Int} (ho : Ok os) : impl_allGranted.f k l kd os = some (allFor l kd os) := by
  unfold impl_allGranted.f allFor
  rw [loop_all (impl_allGranted.l2 k kd (os.length : Int) l os (fun y => some y) (fun _ => some true)) (grantFor l kd) (some true) (some false) os (fun n i x hx => by
    obtain ⟨h1, h2, h3, h4⟩ := at_ hx (by have := ho.out; omega)
    simp only [impl_allGranted.l2, impl_allGranted.L2, rd_i64, h1, h2, h3, h4, cond_true, impl_HasGrantFor_e hk hl, Option.bind_some]
    cases grantFor l kd x <;> rfl) (fun n => by simp only [impl_allGranted.l2, impl_allGranted.L2, end_, cond_false]) k (hk.lt ho)]
  cases os.all (grantFor l kd) <;> rfl
theorem impl_valueOf_e (k : Nat) {l : List Int} (hl : Ok l) (o : Int) : impl_valueOf.f k l o = some (valV l o) := by
  have hl' := hl.out
  unfold impl_valueOf.f valV
  by_cases h1 : o < 1
  · rw [decide_eq_true h1, decide_eq_false (show ¬ (1 ≤ o ∧ o ≤ (l.length : Int)) by omega)]; rfl
  by_cases h : o > (l.length : Int)
  · rw [decide_eq_false h1, decide_eq_true h, decide_eq_false (show ¬ (1 ≤ o ∧ o ≤ (l.length : Int)) by omega)]; rfl
  · rw [decide_eq_false h1, decide_eq_false h, w64_id (by omega), decide_eq_true (show 0 ≤ o - 1 by omega), decide_eq_true (show o - 1 < (l.length : Int) by omega), decide_eq_true (show 1 ≤ o ∧ o ≤ (l.length : Int) by omega), impl_InRange_e, Option.bind_some]
    cases inR (rd_i64 l (o - 1)) 0 999 <;> rfl
theorem impl_executed_e {k : Nat} (hk : Big k) {l : List T_impl_Op} (hl : Ok l) {vals : List Int} (hv : Ok vals) (ha : l.all opOk = true) : impl_executed.f k l vals = some ((runV vals l).1, (runV vals l).2.2) := by
  have hl' := hl.out
  unfold impl_executed.f runV
  exact loop_fold (fun q i (s : PSt) => impl_executed.l3 k (l.length : Int) l vals (fun y z => some (y, z)) q i s.1 s.2.1 s.2.2) (runF vals) (fun i s => s.1.length ≤ i ∧ Regs s.2.1 s.2.2) (fun s => some (s.1, s.2.2)) l (fun n i o s hx hi => by
    obtain ⟨s, v, b⟩ := s
    obtain ⟨hs, hr⟩ := hi
    have hlt := lt_of hx
    obtain ⟨h1, h2, h3, h4⟩ := at_ hx (by omega)
    have ho := all_at ha hx
    obtain ⟨hA, hc⟩ := op_cases ho
    have A1 := inR_true.1 hA
    have v6 := hr.vl
    have b6 := hr.bl
    have gA0 : decide (0 ≤ o.f1) = true := decide_eq_true A1.1
    have gA6 : decide (o.f1 < 6) = true := decide_eq_true (by omega)
    simp only [impl_executed.l3, impl_executed.L3, rd_impl_Op, h1, h2, h3, h4, cond_true, runF, stp, snt]
    rcases hc with ⟨e, q2⟩ | ⟨e, q2⟩ | ⟨e, q2, q3⟩ | ⟨e, q2, q3⟩ | ⟨e, q2⟩
    · have B1 := inR_true.1 q2
      have hp := pow9 B1.1 B1.2
      simp only [e, beq_self_eq_true, cond_true, impl_valueOf_e k hv, Option.bind_some, v6, b6, gA0, gA6, Int.cast_ofNat_Int, decide_eq_false (show ¬ o.f2 < 0 by omega), cond_false]
      rw [Nat.min_eq_left (by omega), Int.one_mul, w64_id (by omega)]
      simp
    · simp [e, v6, b6, gA0, gA6]
    · have B1 := inR_true.1 q2
      have C1 := inR_true.1 q3
      have hm := (add_mod (hr.val q2) (hr.val q3)).1
      simp only [e, v6, b6, gA0, gA6, Int.cast_ofNat_Int, decide_eq_true B1.1, decide_eq_true C1.1, decide_eq_true (show o.f2 < 6 by omega), decide_eq_true (show o.f3 < 6 by omega), cond_true, hm, orL]
      simp
    · have B1 := inR_true.1 q2
      have C1 := inR_true.1 q3
      simp only [e, v6, b6, gA0, gA6, Int.cast_ofNat_Int, decide_eq_true B1.1, decide_eq_true C1.1, decide_eq_true (show o.f2 < 6 by omega), decide_eq_true (show o.f3 < 6 by omega), cond_true, orL]
      cases (rd_i64 v o.f2).tmod 2 == 0 <;> simp
    · have hcap : decide ((s.length + 1) * 24 ≤ cap48) = true := decide_eq_true (by unfold cap48; have : s.length ≤ i := hs; omega)
      simp only [e, v6, b6, gA0, gA6, Int.cast_ofNat_Int, cond_true, List.length_cons, List.length_nil, Nat.zero_add, hcap]
      simp) (fun i o s hx hi => by
    obtain ⟨s, v, b⟩ := s
    obtain ⟨hs, hr⟩ := hi
    have hn := snt_len o v b
    refine ⟨?_, hr.step vals (all_at ha hx)⟩
    show (s ++ snt o v b).length ≤ i + 1
    have : s.length ≤ i := hs
    simp; omega) (fun n s hi => by simp only [impl_executed.l3, impl_executed.L3, end_, cond_false]) k ([], zeros, zeros) (hk.lt hl) ⟨Nat.le_refl 0, Regs.zero⟩
theorem impl_IsLabel_e (k : Nat) (x : Int) : impl_IsLabel.f k x = some (isLab x) := by
  unfold impl_IsLabel.f isLab
  rw [impl_InRange_e, Option.bind_some]
  cases inR x 0 1022 <;> rfl
theorem impl_OwnersIn_e {k : Nat} (hk : Big k) (x : Int) : impl_OwnersIn.f k x = some (ownersV x) := by
  have hk' := hk.out
  unfold impl_OwnersIn.f ownersV
  rw [impl_IsLabel_e, Option.bind_some]
  cases h : isLab x with
  | false => rfl
  | true =>
    have := loop_fold (fun q i s => impl_OwnersIn.l5 k x (fun y3 => some y3) q (i + 1) s) (fun s o => bif bitO x o then s ++ [o] else s) (fun i s => s.length ≤ i) (fun s => some s) nine (fun n i o s hx hi => by
      obtain ⟨rfl, h9⟩ := nine_at hx
      have hp := pow9 (o := (i : Int) + 1) (by omega) (by omega)
      have hq := bit_q (o := (i : Int) + 1) h
      have hd : Int.fdiv x (2 ^ ((i : Int) + 1).toNat) = x / 2 ^ ((i : Int) + 1).toNat := Int.fdiv_eq_ediv_of_nonneg _ (by omega)
      simp only [impl_OwnersIn.l5, impl_OwnersIn.L5]
      rw [Nat.min_eq_left (by omega), hd, i64_and1 hq.1 hq.2, decide_eq_true (show (i : Int) + 1 ≤ 9 by omega), cond_true, decide_eq_false (by omega), cond_false, w64_id (by omega), decide_eq_true (by unfold cap48; simp; omega), cond_true]
      unfold bitO
      cases (x / 2 ^ ((i : Int) + 1).toNat % 2 == 1) <;> rfl) (fun i o s hx hi => by
      cases bitO x o
      · show s.length ≤ i + 1; omega
      · show (s ++ [o]).length ≤ i + 1; simp; omega) (fun n s hs => by
      simp only [impl_OwnersIn.l5, impl_OwnersIn.L5]
      rfl) k [] (by show 9 < k; omega) (Nat.le_refl 0)
    rw [foldl_filter] at this
    exact this
/-- A loop that gives the place where p holds first. -/
theorem loop_idx {α R : Type} (l : Nat → Int → Option R) (p : α → Bool) (X : R) (c : Int → Option R) (d : R → Bool) (xs : List α) (hX : d X = false) (hc : ∀ i : Nat, ∃ r, c (i : Int) = some r ∧ d r = true)
    (hs : ∀ n (i : Nat) x, xs[i]? = some x → l (n + 1) (i : Int) = bif p x then c (i : Int) else l n ((i + 1 : Nat) : Int)) (he : ∀ n, l (n + 1) (xs.length : Int) = some X) (n : Nat) (hn : xs.length < n) :
    ∃ r, l n 0 = some r ∧ d r = xs.any p := by
  have key : ∀ (suf pre : List α) n, xs = pre ++ suf → suf.length < n → ∃ r, l n (pre.length : Int) = some r ∧ d r = suf.any p := by
    intro suf
    induction suf with
    | nil =>
      intro pre n hx hn
      obtain ⟨n, rfl⟩ : ∃ q, n = q + 1 := ⟨n - 1, by simp at hn; omega⟩
      have e : pre.length = xs.length := by rw [hx]; simp
      rw [e, he n]
      exact ⟨X, rfl, hX⟩
    | cons x suf ih =>
      intro pre n hx hn
      obtain ⟨n, rfl⟩ : ∃ q, n = q + 1 := ⟨n - 1, by simp at hn; omega⟩
      have hg : xs[pre.length]? = some x := by rw [hx]; simp
      rw [hs n pre.length x hg, List.any_cons]
      cases hp : p x with
      | true =>
        obtain ⟨r, h1, h2⟩ := hc pre.length
        exact ⟨r, h1, h2⟩
      | false =>
        have := ih (pre ++ [x]) n (by rw [hx]; simp) (by simp at hn; omega)
        simpa using this
  exact key xs [] n rfl hn
theorem slices_Contains_Flow_e {k : Nat} (hk : Big k) {l : List T_impl_Flow} (hl : Ok l) (a b c : Int) : slices_Contains_Flow.f k l a b c = some (hasF l a b c) := by
  unfold slices_Contains_Flow.f slices_Index_Flow.f hasF
  obtain ⟨r, h1, h2⟩ := loop_idx (slices_Index_Flow.l2 k (l.length : Int) l a b c (fun y => some y) (fun _ => some (-1))) (fun x => (x.f0 == a) && ((x.f1 == b) && (x.f2 == c))) (-1) (fun i => some i) (fun r => decide (r ≥ 0)) l rfl (fun i => ⟨_, rfl, decide_eq_true (by omega)⟩) (fun n i x hx => by
    obtain ⟨h1, h2, h3, h4⟩ := at_ hx (by have := hl.out; omega)
    simp only [slices_Index_Flow.l2, slices_Index_Flow.L2, rd_impl_Flow, h1, h2, h3, h4, cond_true]
    rw [Bool.beq_comm (a := a), Bool.beq_comm (a := b), Bool.beq_comm (a := c)]) (fun n => by simp only [slices_Index_Flow.l2, slices_Index_Flow.L2, end_, cond_false]) k (hk.lt hl)
  rw [h1, Option.bind_some, h2]
theorem impl_NeedsFlows_in {k : Nat} (hk : Big k) (e x3 x4 : Int) (l : List T_impl_Op) (t v x : Int) (S : List T_impl_Sent) {R : Type} (X : List T_impl_Flow → Option R) {L : List Int} (hL : L.length ≤ 9) {out : List T_impl_Flow} (ho : out.length ≤ 1000) :
    impl_NeedsFlows.l9 k e x3 x4 (L.length : Int) l t v x S L X k 0 out = X (L.foldl (addOne e t) out) := by
  refine loop_fold (fun q i s => impl_NeedsFlows.l9 k e x3 x4 (L.length : Int) l t v x S L X q i s) (addOne e t) (fun i s => s.length ≤ out.length + i) X L (fun n i o s hx hi => ?_) (fun i o s hx hi => ?_) (fun n s hi => ?_) k out (by have := hk.out; omega) (Nat.le_refl _)
  · have hlt := lt_of hx
    obtain ⟨h1, h2, h3, h4⟩ := at_ hx (by omega)
    have hi : s.length ≤ out.length + i := hi
    simp only [impl_NeedsFlows.l9, impl_NeedsFlows.L9, rd_i64, h1, h2, h3, h4, cond_true, slices_Contains_Flow_e hk (Ok.small (l := s) 2000 (by omega)), Option.bind_some, addOne]
    rw [decide_eq_true (by unfold cap48; simp; omega), cond_true]
    cases o != t <;> cases hasF s e o t <;> rfl
  · have := addOne_len e t s o
    show (addOne e t s o).length ≤ out.length + (i + 1)
    have hi : s.length ≤ out.length + i := hi
    omega
  · simp only [impl_NeedsFlows.l9, impl_NeedsFlows.L9, end_, cond_false]
theorem impl_NeedsFlows_e {k : Nat} (hk : Big k) {l : List T_impl_Op} (hl : Ok l) (e : Int) : impl_NeedsFlows.f k l e = some (needsV l e) := by
  unfold impl_NeedsFlows.f needsV
  rw [impl_AreOps_e hk hl, Option.bind_some]
  cases h : areOps l with
  | false => rfl
  | true =>
    rw [impl_executed_e hk hl (Ok.small 0 (by simp)) (areOps_all h).1]
    have hs := sents_len (vals := []) h
    simp only [Bool.not_true, cond_false, cond_true, Option.bind_some]
    generalize (runV [] l).1 = S at hs
    exact loop_fold (fun q i s => impl_NeedsFlows.l6 k e (S.length : Int) l S (fun y => some y) q i s) (addS e) (fun i s => s.length ≤ 9 * i) (fun s => some s) S (fun n i x s hx hi => by
      have hlt := lt_of hx
      obtain ⟨h1, h2, h3, h4⟩ := at_ hx (by omega)
      have hi : s.length ≤ 9 * i := hi
      simp only [impl_NeedsFlows.l6, impl_NeedsFlows.L6, rd_impl_Sent, h1, h2, h3, h4, cond_true, impl_OwnersIn_e hk, Option.bind_some]
      rw [impl_NeedsFlows_in hk _ _ _ _ _ _ _ _ _ (ownersV_len x.f2) (by omega)]
      rfl) (fun i x s hx hi => by
      have := addS_len e s x
      show (addS e s x).length ≤ 9 * (i + 1)
      have hi : s.length ≤ 9 * i := hi
      omega) (fun n s hi => by simp only [impl_NeedsFlows.l6, impl_NeedsFlows.L6, end_, cond_false]) k [] (by have := hk.out; omega) (Nat.le_refl 0)
theorem impl_FlowsWithin_e {k : Nat} (hk : Big k) {l m : List T_impl_Flow} (hl : Ok l) (hm : Ok m) : impl_FlowsWithin.f k l m = some (withinF l m) := by
  unfold impl_FlowsWithin.f withinF
  rw [loop_all (impl_FlowsWithin.l2 k (l.length : Int) l m (fun y => some y) (fun _ => some true)) (fun x => isFlowV x.f0 x.f1 x.f2 && hasF m x.f0 x.f1 x.f2) (some true) (some false) l (fun n i x hx => by
    obtain ⟨h1, h2, h3, h4⟩ := at_ hx (by have := hl.out; omega)
    simp only [impl_FlowsWithin.l2, impl_FlowsWithin.L2, rd_impl_Flow, h1, h2, h3, h4, cond_true, impl_IsFlow_e, slices_Contains_Flow_e hk hm, Option.bind_some]
    cases isFlowV x.f0 x.f1 x.f2 <;> cases hasF m x.f0 x.f1 x.f2 <;> rfl) (fun n => by simp only [impl_FlowsWithin.l2, impl_FlowsWithin.L2, end_, cond_false]) k (hk.lt hl)]
  cases l.all fun x => isFlowV x.f0 x.f1 x.f2 && hasF m x.f0 x.f1 x.f2 <;> rfl
theorem impl_IsTightFor_e {k : Nat} (hk : Big k) {l : List T_impl_Op} (hl : Ok l) {f : List T_impl_Flow} (hf : Ok f) (e : Int) : impl_IsTightFor.f k l f e = some (areOps l && withinF (needsV l e) f) := by
  unfold impl_IsTightFor.f
  simp only [impl_AreOps_e hk hl, impl_NeedsFlows_e hk hl, impl_FlowsWithin_e hk (needsV_ok l e) hf, Option.bind_some]
  cases areOps l <;> rfl
theorem impl_ReviewPackage_e {k : Nat} (hk : Big k) (key a b c d : Int) {g : List T_impl_Grant} {f : List T_impl_Flow} {r : List T_impl_Rule} {o : List T_impl_Op} (hg : Ok g) (hf : Ok f) (hr : Ok r) (ho : Ok o) :
    impl_ReviewPackage.f k key a b c g f r o d = some (reviewV key a b c d g f r o) := by
  unfold impl_ReviewPackage.f reviewV
  have loop : ∀ X1 : Unit → Option Int, impl_ReviewPackage.l6 k (r.length : Int) g f r o a b c d (fun y => some y) X1 k 0 = bif rulesV g r then X1 () else some 3 := fun X1 => by
    unfold rulesV
    exact loop_all (impl_ReviewPackage.l6 k (r.length : Int) g f r o a b c d (fun y => some y) X1) (fun x => g.any (coverOne x)) (X1 ()) (some 3) r (fun n i x hx => by
      obtain ⟨h1, h2, h3, h4⟩ := at_ hx (by have := hr.out; omega)
      simp only [impl_ReviewPackage.l6, impl_ReviewPackage.L6, rd_impl_Rule, h1, h2, h3, h4, cond_true, impl_covered_e hk hg x, Option.bind_some]
      cases g.any (coverOne x) <;> rfl) (fun n => by simp only [impl_ReviewPackage.l6, impl_ReviewPackage.L6, end_, cond_false]) k (hk.lt hr)
  rw [loop]
  simp only [impl_IsPackage_e hk a b c d hg hf hr ho, impl_IsSealed_e hk key a b c d hg hf hr ho, impl_OwnersRead_e hk ho, impl_OwnersSent_e hk ho, impl_allGranted_e hk hg 1 (ownersOfV_ok (kd := 1) ho), impl_allGranted_e hk hg 3 (ownersOfV_ok (kd := 5) ho), impl_IsTightFor_e hk ho hf, Option.bind_some]
  generalize (inR key 1 2147483646 && (sealV key a b c g f r o == d)) = p2
  generalize isPk a b c g f r o = p1, rulesV g r = p3, allFor g 1 (ownersOfV 1 o) = p4, allFor g 3 (ownersOfV 5 o) = p5, (areOps o && withinF (needsV o a) f) = p6
  cases p1 <;> cases p2 <;> cases p3 <;> cases p4 <;> cases p5 <;> cases p6 <;> rfl
theorem impl_CanRollBack_e {k : Nat} (hk : Big k) (key a b c d : Int) {g : List T_impl_Grant} {f : List T_impl_Flow} {r : List T_impl_Rule} {o : List T_impl_Op} (s : List T_impl_Stored) (a' b' c' d' : Int) {g' : List T_impl_Grant} {f' : List T_impl_Flow} {r' : List T_impl_Rule} {o' : List T_impl_Op} (hg : Ok g) (hf : Ok f) (hr : Ok r) (ho : Ok o) (hg' : Ok g') (hf' : Ok f') (hr' : Ok r') (ho' : Ok o') :
    impl_CanRollBack.f k key a b c g f r o d s a' b' c' g' f' r' o' d' = some (rollV key a b c d g f r o a' b' c' g' f' r' o') := by
  unfold impl_CanRollBack.f rollV
  simp only [impl_ReviewPackage_e hk key a b c d hg hf hr ho, impl_IsPackage_e hk a' b' c' d' hg' hf' hr' ho', Option.bind_some]
  generalize (reviewV key a b c d g f r o == 0) = p1, isPk a' b' c' g' f' r' o' = p2, (a' == a) = p3, decide (c' > c) = p4
  cases p1 <;> cases p2 <;> cases p3 <;> rfl
theorem laws_szGrantS_e (k : Nat) {l : List T_laws_Grant} {n : Int} (hl : l.length ≤ maxLen) (hn : 0 ≤ n ∧ n ≤ 1048576) : laws_szGrantS.f k l n = some (bif decide (n - (l.length : Int) < 0) then -1 else n - (l.length : Int)) := by
  have h2 : l.length ≤ 9223372036854775807 := hl
  unfold laws_szGrantS.f
  rw [w64_id (by omega)]
  cases decide (n - (l.length : Int) < 0) <;> rfl
theorem laws_szFlowS_e (k : Nat) {l : List T_laws_Flow} {n : Int} (hl : l.length ≤ maxLen) (hn : 0 ≤ n ∧ n ≤ 1048576) : laws_szFlowS.f k l n = some (bif decide (n - (l.length : Int) < 0) then -1 else n - (l.length : Int)) := by
  have h2 : l.length ≤ 9223372036854775807 := hl
  unfold laws_szFlowS.f
  rw [w64_id (by omega)]
  cases decide (n - (l.length : Int) < 0) <;> rfl
theorem laws_szRuleS_e (k : Nat) {l : List T_laws_Rule} {n : Int} (hl : l.length ≤ maxLen) (hn : 0 ≤ n ∧ n ≤ 1048576) : laws_szRuleS.f k l n = some (bif decide (n - (l.length : Int) < 0) then -1 else n - (l.length : Int)) := by
  have h2 : l.length ≤ 9223372036854775807 := hl
  unfold laws_szRuleS.f
  rw [w64_id (by omega)]
  cases decide (n - (l.length : Int) < 0) <;> rfl
theorem laws_szOpS_e (k : Nat) {l : List T_laws_Op} {n : Int} (hl : l.length ≤ maxLen) (hn : 0 ≤ n ∧ n ≤ 1048576) : laws_szOpS.f k l n = some (bif decide (n - (l.length : Int) < 0) then -1 else n - (l.length : Int)) := by
  have h2 : l.length ≤ 9223372036854775807 := hl
  unfold laws_szOpS.f
  rw [w64_id (by omega)]
  cases decide (n - (l.length : Int) < 0) <;> rfl
theorem laws_szPackage_e (k : Nat) (a b c d : Int) {g : List T_laws_Grant} {f : List T_laws_Flow} {r : List T_laws_Rule} {o : List T_laws_Op} {n : Int} (hg : g.length ≤ maxLen) (hf : f.length ≤ maxLen) (hr : r.length ≤ maxLen) (ho : o.length ≤ maxLen) (hn : 0 ≤ n ∧ n ≤ 1048576) :
    ∃ t, laws_szPackage.f k a b c g f r o d n = some t ∧ t ≤ n ∧ (0 ≤ t → Ok g ∧ Ok f ∧ Ok r ∧ Ok o) := by
  unfold laws_szPackage.f
  rw [laws_szGrantS_e k hg hn, Option.bind_some]
  by_cases h1 : n - (g.length : Int) < 0
  · rw [decide_eq_true h1]; exact ⟨-1, rfl, by omega, fun h => by omega⟩
  rw [decide_eq_false h1, cond_false, decide_eq_false h1, cond_false, laws_szFlowS_e k hf (by omega), Option.bind_some]
  by_cases h2 : n - (g.length : Int) - (f.length : Int) < 0
  · rw [decide_eq_true h2]; exact ⟨-1, rfl, by omega, fun h => by omega⟩
  rw [decide_eq_false h2, cond_false, decide_eq_false h2, cond_false, laws_szRuleS_e k hr (by omega), Option.bind_some]
  by_cases h3 : n - (g.length : Int) - (f.length : Int) - (r.length : Int) < 0
  · rw [decide_eq_true h3]; exact ⟨-1, rfl, by omega, fun h => by omega⟩
  rw [decide_eq_false h3, cond_false, decide_eq_false h3, cond_false, laws_szOpS_e k ho (by omega), Option.bind_some]
  by_cases h4 : n - (g.length : Int) - (f.length : Int) - (r.length : Int) - (o.length : Int) < 0
  · rw [decide_eq_true h4]; exact ⟨-1, rfl, by omega, fun h => by omega⟩
  rw [decide_eq_false h4, cond_false, decide_eq_false h4, cond_false]
  exact ⟨_, rfl, by omega, fun _ => ⟨by unfold Ok; omega, by unfold Ok; omega, by unfold Ok; omega, by unfold Ok; omega⟩⟩
theorem laws_szStoredS_e (k : Nat) {l : List T_laws_Stored} {n : Int} (hl : l.length ≤ maxLen) (hn : 0 ≤ n ∧ n ≤ 1048576) : laws_szStoredS.f k l n = some (bif decide (n - (l.length : Int) < 0) then -1 else n - (l.length : Int)) := by
  have h2 : l.length ≤ 9223372036854775807 := hl
  unfold laws_szStoredS.f
  rw [w64_id (by omega)]
  cases decide (n - (l.length : Int) < 0) <;> rfl
def toStored (x : T_laws_Stored) : T_impl_Stored := ⟨x.f0, x.f1, x.f2, x.f3⟩
theorem laws_toStoredS_e {k : Nat} (hk : Big k) {l : List T_laws_Stored} (hl : Ok l) : laws_toStoredS.f k l = some (l.map toStored) := by
  have hl' := hl.out
  unfold laws_toStoredS.f
  rw [nn_, cond_true, decide_eq_true (by unfold cap48; simp; omega), cond_true]
  refine loop_map (laws_toStoredS.l3 k l (fun y => some y)) toStored (fun y => some y) l (fun n i x ys hx hy => ?_) (fun n ys hy => ?_) k _ (hk.lt hl) (by simp)
  · obtain ⟨h1, h2, h3, h4⟩ := at_ hx (by omega)
    have h5 : decide ((i : Int) < (ys.length : Int)) = true := by rw [hy]; exact h1
    simp only [laws_toStoredS.l3, laws_toStoredS.L3, rd_laws_Stored, h1, h2, h3, h4, h5, cond_true, laws_toStored.f, Option.bind_some, toStored]
    rfl
  · simp only [laws_toStoredS.l3, laws_toStoredS.L3, end_, cond_false]
def toGrant (x : T_laws_Grant) : T_impl_Grant := ⟨x.f0, ⟨x.f1.f0, x.f1.f1⟩, x.f2, x.f3, x.f4, x.f5⟩
theorem laws_toGrantS_e {k : Nat} (hk : Big k) {l : List T_laws_Grant} (hl : Ok l) : laws_toGrantS.f k l = some (l.map toGrant) := by
  have hl' := hl.out
  unfold laws_toGrantS.f
  rw [nn_, cond_true, decide_eq_true (by unfold cap48; simp; omega), cond_true]
  refine loop_map (laws_toGrantS.l3 k l (fun y => some y)) toGrant (fun y => some y) l (fun n i x ys hx hy => ?_) (fun n ys hy => ?_) k _ (hk.lt hl) (by simp)
  · obtain ⟨h1, h2, h3, h4⟩ := at_ hx (by omega)
    have h5 : decide ((i : Int) < (ys.length : Int)) = true := by rw [hy]; exact h1
    simp only [laws_toGrantS.l3, laws_toGrantS.L3, rd_laws_Grant, h1, h2, h3, h4, h5, cond_true, laws_toGrant.f, laws_toPattern.f, Option.bind_some, toGrant]
    rfl
  · simp only [laws_toGrantS.l3, laws_toGrantS.L3, end_, cond_false]
def toFlow (x : T_laws_Flow) : T_impl_Flow := ⟨x.f0, x.f1, x.f2⟩
theorem laws_toFlowS_e {k : Nat} (hk : Big k) {l : List T_laws_Flow} (hl : Ok l) : laws_toFlowS.f k l = some (l.map toFlow) := by
  have hl' := hl.out
  unfold laws_toFlowS.f
  rw [nn_, cond_true, decide_eq_true (by unfold cap48; simp; omega), cond_true]
  refine loop_map (laws_toFlowS.l3 k l (fun y => some y)) toFlow (fun y => some y) l (fun n i x ys hx hy => ?_) (fun n ys hy => ?_) k _ (hk.lt hl) (by simp)
  · obtain ⟨h1, h2, h3, h4⟩ := at_ hx (by omega)
    have h5 : decide ((i : Int) < (ys.length : Int)) = true := by rw [hy]; exact h1
    simp only [laws_toFlowS.l3, laws_toFlowS.L3, rd_laws_Flow, h1, h2, h3, h4, h5, cond_true, laws_toFlow.f, Option.bind_some, toFlow]
    rfl
  · simp only [laws_toFlowS.l3, laws_toFlowS.L3, end_, cond_false]
def toRule (x : T_laws_Rule) : T_impl_Rule := ⟨x.f0, x.f1, ⟨x.f2.f0, x.f2.f1⟩, x.f3, x.f4, ⟨x.f5.f0, x.f5.f1⟩⟩
theorem laws_toRuleS_e {k : Nat} (hk : Big k) {l : List T_laws_Rule} (hl : Ok l) : laws_toRuleS.f k l = some (l.map toRule) := by
  have hl' := hl.out
  unfold laws_toRuleS.f
  rw [nn_, cond_true, decide_eq_true (by unfold cap48; simp; omega), cond_true]
  refine loop_map (laws_toRuleS.l3 k l (fun y => some y)) toRule (fun y => some y) l (fun n i x ys hx hy => ?_) (fun n ys hy => ?_) k _ (hk.lt hl) (by simp)
  · obtain ⟨h1, h2, h3, h4⟩ := at_ hx (by omega)
    have h5 : decide ((i : Int) < (ys.length : Int)) = true := by rw [hy]; exact h1
    simp only [laws_toRuleS.l3, laws_toRuleS.L3, rd_laws_Rule, h1, h2, h3, h4, h5, cond_true, laws_toRule.f, laws_toPattern.f, laws_toSite.f, Option.bind_some, toRule]
    rfl
  · simp only [laws_toRuleS.l3, laws_toRuleS.L3, end_, cond_false]
def toOp (x : T_laws_Op) : T_impl_Op := ⟨x.f0, x.f1, x.f2, x.f3⟩
theorem laws_toOpS_e {k : Nat} (hk : Big k) {l : List T_laws_Op} (hl : Ok l) : laws_toOpS.f k l = some (l.map toOp) := by
  have hl' := hl.out
  unfold laws_toOpS.f
  rw [nn_, cond_true, decide_eq_true (by unfold cap48; simp; omega), cond_true]
  refine loop_map (laws_toOpS.l3 k l (fun y => some y)) toOp (fun y => some y) l (fun n i x ys hx hy => ?_) (fun n ys hy => ?_) k _ (hk.lt hl) (by simp)
  · obtain ⟨h1, h2, h3, h4⟩ := at_ hx (by omega)
    have h5 : decide ((i : Int) < (ys.length : Int)) = true := by rw [hy]; exact h1
    simp only [laws_toOpS.l3, laws_toOpS.L3, rd_laws_Op, h1, h2, h3, h4, h5, cond_true, laws_toOp.f, Option.bind_some, toOp]
    rfl
  · simp only [laws_toOpS.l3, laws_toOpS.L3, end_, cond_false]
theorem laws_toPackage_e {k : Nat} (hk : Big k) (a b c d : Int) {g : List T_laws_Grant} {f : List T_laws_Flow} {r : List T_laws_Rule} {o : List T_laws_Op} (hg : Ok g) (hf : Ok f) (hr : Ok r) (ho : Ok o) :
    laws_toPackage.f k a b c g f r o d = some (a, b, c, d, g.map toGrant, f.map toFlow, r.map toRule, o.map toOp) := by
  unfold laws_toPackage.f
  rw [laws_toGrantS_e hk hg, Option.bind_some, laws_toFlowS_e hk hf, Option.bind_some, laws_toRuleS_e hk hr, Option.bind_some, laws_toOpS_e hk ho, Option.bind_some]
theorem laws_eqGrant_refl (k : Nat) (x : T_impl_Grant) : laws_eqGrant.f k x.f0 x.f1.f0 x.f1.f1 x.f2 x.f3 x.f4 x.f5 x.f0 x.f1.f0 x.f1.f1 x.f2 x.f3 x.f4 x.f5 = some true := by
  simp [laws_eqGrant.f, laws_eqPattern.f, Option.bind_some]
theorem laws_eqGrantS_refl {k : Nat} (hk : Big k) {l : List T_impl_Grant} (hl : Ok l) : laws_eqGrantS.f k l l = some true := by
  have hl' := hl.out
  unfold laws_eqGrantS.f
  rw [show ((l.length : Int) != (l.length : Int)) = false from by simp, cond_false]
  rw [loop_all (laws_eqGrantS.l4 k l l (fun y => some y) (fun _ => some true)) (fun _ => true) (some true) (some false) l (fun n i x hx => by
    obtain ⟨h1, h2, h3, h4⟩ := at_ hx (by omega)
    simp only [laws_eqGrantS.l4, laws_eqGrantS.L4, rd_impl_Grant, h1, h2, h3, h4, cond_true, laws_eqGrant_refl, Option.bind_some]
    rfl) (fun n => by simp only [laws_eqGrantS.l4, laws_eqGrantS.L4, end_, cond_false]) k (hk.lt hl), List.all_eq_true.2 (fun _ _ => rfl)]
  rfl
theorem laws_eqFlow_refl (k : Nat) (x : T_impl_Flow) : laws_eqFlow.f k x.f0 x.f1 x.f2 x.f0 x.f1 x.f2 = some true := by
  simp [laws_eqFlow.f, Option.bind_some]
theorem laws_eqFlowS_refl {k : Nat} (hk : Big k) {l : List T_impl_Flow} (hl : Ok l) : laws_eqFlowS.f k l l = some true := by
  have hl' := hl.out
  unfold laws_eqFlowS.f
  rw [show ((l.length : Int) != (l.length : Int)) = false from by simp, cond_false]
  rw [loop_all (laws_eqFlowS.l4 k l l (fun y => some y) (fun _ => some true)) (fun _ => true) (some true) (some false) l (fun n i x hx => by
    obtain ⟨h1, h2, h3, h4⟩ := at_ hx (by omega)
    simp only [laws_eqFlowS.l4, laws_eqFlowS.L4, rd_impl_Flow, h1, h2, h3, h4, cond_true, laws_eqFlow_refl, Option.bind_some]
    rfl) (fun n => by simp only [laws_eqFlowS.l4, laws_eqFlowS.L4, end_, cond_false]) k (hk.lt hl), List.all_eq_true.2 (fun _ _ => rfl)]
  rfl
theorem laws_eqRule_refl (k : Nat) (x : T_impl_Rule) : laws_eqRule.f k x.f0 x.f1 x.f2.f0 x.f2.f1 x.f3 x.f4 x.f5.f0 x.f5.f1 x.f0 x.f1 x.f2.f0 x.f2.f1 x.f3 x.f4 x.f5.f0 x.f5.f1 = some true := by
  simp [laws_eqRule.f, laws_eqPattern.f, laws_eqSite.f, Option.bind_some]
theorem laws_eqRuleS_refl {k : Nat} (hk : Big k) {l : List T_impl_Rule} (hl : Ok l) : laws_eqRuleS.f k l l = some true := by
  have hl' := hl.out
  unfold laws_eqRuleS.f
  rw [show ((l.length : Int) != (l.length : Int)) = false from by simp, cond_false]
  rw [loop_all (laws_eqRuleS.l4 k l l (fun y => some y) (fun _ => some true)) (fun _ => true) (some true) (some false) l (fun n i x hx => by
    obtain ⟨h1, h2, h3, h4⟩ := at_ hx (by omega)
    simp only [laws_eqRuleS.l4, laws_eqRuleS.L4, rd_impl_Rule, h1, h2, h3, h4, cond_true, laws_eqRule_refl, Option.bind_some]
    rfl) (fun n => by simp only [laws_eqRuleS.l4, laws_eqRuleS.L4, end_, cond_false]) k (hk.lt hl), List.all_eq_true.2 (fun _ _ => rfl)]
  rfl
theorem laws_eqOp_refl (k : Nat) (x : T_impl_Op) : laws_eqOp.f k x.f0 x.f1 x.f2 x.f3 x.f0 x.f1 x.f2 x.f3 = some true := by
  simp [laws_eqOp.f, Option.bind_some]
theorem laws_eqOpS_refl {k : Nat} (hk : Big k) {l : List T_impl_Op} (hl : Ok l) : laws_eqOpS.f k l l = some true := by
  have hl' := hl.out
  unfold laws_eqOpS.f
  rw [show ((l.length : Int) != (l.length : Int)) = false from by simp, cond_false]
  rw [loop_all (laws_eqOpS.l4 k l l (fun y => some y) (fun _ => some true)) (fun _ => true) (some true) (some false) l (fun n i x hx => by
    obtain ⟨h1, h2, h3, h4⟩ := at_ hx (by omega)
    simp only [laws_eqOpS.l4, laws_eqOpS.L4, rd_impl_Op, h1, h2, h3, h4, cond_true, laws_eqOp_refl, Option.bind_some]
    rfl) (fun n => by simp only [laws_eqOpS.l4, laws_eqOpS.L4, end_, cond_false]) k (hk.lt hl), List.all_eq_true.2 (fun _ _ => rfl)]
  rfl
theorem laws_eqPackage_refl {k : Nat} (hk : Big k) (a b c d : Int) {g : List T_impl_Grant} {f : List T_impl_Flow} {r : List T_impl_Rule} {o : List T_impl_Op} (hg : Ok g) (hf : Ok f) (hr : Ok r) (ho : Ok o) :
    laws_eqPackage.f k a b c g f r o d a b c g f r o d = some true := by
  unfold laws_eqPackage.f
  simp [laws_eqGrantS_refl hk hg, laws_eqFlowS_refl hk hf, laws_eqRuleS_refl hk hr, laws_eqOpS_refl hk ho]
theorem laws_eqStored_refl (k : Nat) (x : T_impl_Stored) : laws_eqStored.f k x.f0 x.f1 x.f2 x.f3 x.f0 x.f1 x.f2 x.f3 = some true := by
  simp [laws_eqStored.f, Option.bind_some]
theorem laws_eqStoredS_refl {k : Nat} (hk : Big k) {l : List T_impl_Stored} (hl : Ok l) : laws_eqStoredS.f k l l = some true := by
  have hl' := hl.out
  unfold laws_eqStoredS.f
  rw [show ((l.length : Int) != (l.length : Int)) = false from by simp, cond_false]
  rw [loop_all (laws_eqStoredS.l4 k l l (fun y => some y) (fun _ => some true)) (fun _ => true) (some true) (some false) l (fun n i x hx => by
    obtain ⟨h1, h2, h3, h4⟩ := at_ hx (by omega)
    simp only [laws_eqStoredS.l4, laws_eqStoredS.L4, rd_impl_Stored, h1, h2, h3, h4, cond_true, laws_eqStored_refl, Option.bind_some]
    rfl) (fun n => by simp only [laws_eqStoredS.l4, laws_eqStoredS.L4, end_, cond_false]) k (hk.lt hl), List.all_eq_true.2 (fun _ _ => rfl)]
  rfl
theorem laws_eqSnapshot_refl {k : Nat} (hk : Big k) (a b c d : Int) {g : List T_impl_Grant} {f : List T_impl_Flow} {r : List T_impl_Rule} {o : List T_impl_Op} {l : List T_impl_Stored} (hg : Ok g) (hf : Ok f) (hr : Ok r) (ho : Ok o) (hl : Ok l) :
    laws_eqSnapshot.f k a b c g f r o d l a b c g f r o d l = some true := by
  unfold laws_eqSnapshot.f
  rw [laws_eqPackage_refl hk a b c d hg hf hr ho, Option.bind_some, laws_eqStoredS_refl hk hl, Option.bind_some]
  rfl
theorem FnExactCanRollBack : ∀ (a0 : Int) (a1_0 : Int) (a1_1 : Int) (a1_2 : Int) (a1_3 : List T_laws_Grant) (a1_4 : List T_laws_Flow) (a1_5 : List T_laws_Rule) (a1_6 : List T_laws_Op) (a1_7 : Int) (a1_8 : List T_laws_Stored) (a2_0 : Int) (a2_1 : Int) (a2_2 : Int) (a2_3 : List T_laws_Grant) (a2_4 : List T_laws_Flow) (a2_5 : List T_laws_Rule) (a2_6 : List T_laws_Op) (a2_7 : Int), (Lit.int .i64 a0).wf = true → (Lit.int .i64 a1_0).wf = true → (Lit.int .i64 a1_1).wf = true → (Lit.int .i64 a1_2).wf = true → a1_3.length ≤ maxLen → (∀ x ∈ a1_3, likes (k_laws_Grant.enc k_laws_Grant.zero) (k_laws_Grant.enc x)) → a1_4.length ≤ maxLen → (∀ x ∈ a1_4, likes (k_laws_Flow.enc k_laws_Flow.zero) (k_laws_Flow.enc x)) → a1_5.length ≤ maxLen → (∀ x ∈ a1_5, likes (k_laws_Rule.enc k_laws_Rule.zero) (k_laws_Rule.enc x)) → a1_6.length ≤ maxLen → (∀ x ∈ a1_6, likes (k_laws_Op.enc k_laws_Op.zero) (k_laws_Op.enc x)) → (Lit.int .i64 a1_7).wf = true → a1_8.length ≤ maxLen → (∀ x ∈ a1_8, likes (k_laws_Stored.enc k_laws_Stored.zero) (k_laws_Stored.enc x)) → (Lit.int .i64 a2_0).wf = true → (Lit.int .i64 a2_1).wf = true → (Lit.int .i64 a2_2).wf = true → a2_3.length ≤ maxLen → (∀ x ∈ a2_3, likes (k_laws_Grant.enc k_laws_Grant.zero) (k_laws_Grant.enc x)) → a2_4.length ≤ maxLen → (∀ x ∈ a2_4, likes (k_laws_Flow.enc k_laws_Flow.zero) (k_laws_Flow.enc x)) → a2_5.length ≤ maxLen → (∀ x ∈ a2_5, likes (k_laws_Rule.enc k_laws_Rule.zero) (k_laws_Rule.enc x)) → a2_6.length ≤ maxLen → (∀ x ∈ a2_6, likes (k_laws_Op.enc k_laws_Op.zero) (k_laws_Op.enc x)) → (Lit.int .i64 a2_7).wf = true → ∃ k, laws_FnExactCanRollBack.f k a0 a1_0 a1_1 a1_2 a1_3 a1_4 a1_5 a1_6 a1_7 a1_8 a2_0 a2_1 a2_2 a2_3 a2_4 a2_5 a2_6 a2_7 = some true := by
  intro key b0 b1 b2 g f r o b7 s c0 c1 c2 g' f' r' o' c7 w0 v0 v1 v2 hg _ hf _ hr _ ho _ v7 hs _ u0 u1 u2 hg' _ hf' _ hr' _ ho' _ u7
  obtain ⟨k, hk⟩ := big_some
  refine ⟨k, ?_⟩
  unfold laws_FnExactCanRollBack.f laws_szSnapshot.f
  obtain ⟨t, h1, h2, h3⟩ := laws_szPackage_e k b0 b1 b2 b7 hg hf hr ho (n := 1048576) (by omega)
  rw [h1, Option.bind_some]
  by_cases ht : t < 0
  · rw [decide_eq_true ht]; rfl
  obtain ⟨og, of, or, oo⟩ := h3 (by omega)
  rw [decide_eq_false ht, cond_false, laws_szStoredS_e k hs (by omega), Option.bind_some]
  by_cases hz : t - (s.length : Int) < 0
  · rw [decide_eq_true hz]; rfl
  have os : Ok s := by unfold Ok; omega
  rw [decide_eq_false hz, cond_false, decide_eq_false hz, cond_false, Option.bind_some, decide_eq_false hz, cond_false]
  obtain ⟨t', h1', h2', h3'⟩ := laws_szPackage_e k c0 c1 c2 c7 hg' hf' hr' ho' (n := t - (s.length : Int)) (by omega)
  rw [h1', Option.bind_some]
  by_cases ht' : t' < 0
  · rw [decide_eq_true ht']; rfl
  obtain ⟨og', of', or', oo'⟩ := h3' (by omega)
  rw [decide_eq_false ht', cond_false]
  simp only [laws_toSnapshot.f, laws_toPackage_e hk b0 b1 b2 b7 og of or oo, laws_toPackage_e hk c0 c1 c2 c7 og' of' or' oo', laws_toStoredS_e hk os, Option.bind_some, spec_CanRollBack_e hk key b0 b1 b2 b7 _ c0 c1 c2 c7 og.map of.map or.map oo.map og'.map of'.map or'.map oo'.map, impl_CanRollBack_e hk key b0 b1 b2 b7 _ c0 c1 c2 c7 og.map of.map or.map oo.map og'.map of'.map or'.map oo'.map,
    laws_eqPackage_refl hk c0 c1 c2 c7 og'.map of'.map or'.map oo'.map, laws_eqSnapshot_refl hk b0 b1 b2 b7 og.map of.map or.map oo.map os.map, beq_self_eq_true]
  rfl
end Go.Proofs.YtoenilndklbceaaGreat.PFnExactCanRollBack.Pure
