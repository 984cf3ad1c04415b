/- The law FnExactTransfer as a statement over numbers and lists, with its proof; no conditions but the bounds of the values' types and of the slices' lengths. -/
import Derived.Test.YtghflohdmnaopaaPFnExactTransfer8
set_option linter.unusedVariables false
set_option linter.unusedSimpArgs false
namespace Go.Proofs.Ytghflohdmnaopaa.PFnExactTransfer.Pure
open Go Go.Eng Go.Proofs
theorem spec_l26Copy_e (k : Nat) (a b c : Int) {g : List T_impl_Grant} {f : List T_impl_Flow} {r : List T_impl_Rule} {o : List T_impl_Op} (d : Int) (hg : Ok g) (hf : Ok f) (hr : Ok r) (ho : Ok o) :
    spec_l26Copy.f k a b c g f r o d = some (a, b, c, d, g, f, r, o) := by
  have := hg.out; have := hf.out; have := hr.out; have := ho.out
  unfold spec_l26Copy.f
  rw [decide_eq_true (by unfold cap48; simp; omega), decide_eq_true (by unfold cap48; simp; omega), decide_eq_true (by unfold cap48; simp; omega), decide_eq_true (by unfold cap48; simp; omega)]
  rfl
theorem spec_l1In_e (k : Nat) (n a b : Int) : spec_l1In.f k n a b = some (inR n a b) := by
  unfold spec_l1In.f inR
  by_cases h : a ≤ n <;> simp [h]
theorem spec_IsValidKey_e (k : Nat) (n : Int) : spec_IsValidKey.f k n = some (inR n 1 2147483646) := by
  unfold spec_IsValidKey.f
  rw [spec_l1In_e, Option.bind_some]
def isPattern (a b : Int) : Bool := inR a 0 9 && inR b (-1) 9
theorem spec_IsPattern_e (k : Nat) (a b : Int) : spec_IsPattern.f k a b = some (isPattern a b) := by
  unfold spec_IsPattern.f isPattern
  simp only [spec_l1In_e, Option.bind_some]
  cases inR a 0 9 <;> simp
def isGrant (e a b kd f u : Int) : Bool := inR e 1 5 && (isPattern a b && (inR kd 1 4 && (decide (0 ≤ f) && (decide (f ≤ u) && decide (u ≤ 10000)))))
theorem spec_IsGrant_e (k : Nat) (e a b kd f u : Int) (cl : Bool) : spec_IsGrant.f k e a b kd f u cl = some (isGrant e a b kd f u) := by
  unfold spec_IsGrant.f isGrant
  simp only [spec_l1In_e, spec_IsPattern_e, Option.bind_some, ge_iff_le]
  cases inR e 1 5 <;> cases isPattern a b <;> cases inR kd 1 4 <;> by_cases h1 : 0 ≤ f <;> by_cases h2 : f ≤ u <;> simp [h1, h2]
def isFlowV (a b c : Int) : Bool := inR a 1 5 && (inR b 1 9 && inR c 1 9)
theorem spec_IsFlow_e (k : Nat) (a b c : Int) : spec_IsFlow.f k a b c = some (isFlowV a b c) := by
  unfold spec_IsFlow.f isFlowV
  simp only [spec_l1In_e, Option.bind_some]
  cases inR a 1 5 <;> cases inR b 1 9 <;> simp
def isSiteV (a b : Int) : Bool := inR a 1 9 && inR b 0 9
theorem spec_IsSite_e (k : Nat) (a b : Int) : spec_IsSite.f k a b = some (isSiteV a b) := by
  unfold spec_IsSite.f isSiteV
  simp only [spec_l1In_e, Option.bind_some]
  cases inR a 1 9 <;> simp
def isRuleV (e o p q kd a s1 s2 : Int) : Bool := inR e 1 5 && (inR o 1 9 && (isPattern p q && (inR kd 0 4 && (inR a 1 3 && (if a = 3 then isSiteV s1 s2 else (s1 == 0 && s2 == 0))))))
theorem spec_IsRule_e (k : Nat) (e o p q kd a s1 s2 : Int) : spec_IsRule.f k e o p q kd a s1 s2 = some (isRuleV e o p q kd a s1 s2) := by
  unfold spec_IsRule.f isRuleV
  simp only [spec_l1In_e, spec_IsPattern_e, spec_IsSite_e, Option.bind_some]
  cases inR e 1 5 <;> cases inR o 1 9 <;> cases isPattern p q <;> cases inR kd 0 4 <;> cases inR a 1 3 <;> (by_cases h : a = 3 <;> cases isSiteV s1 s2 <;> first | (simp [h]; done) | simp [h, beqF h, bneT h])
def isOpV (kd a b c : Int) : Bool := inR a 0 5 && (if kd = 1 ∨ kd = 5 then inR b 1 9 && c == 0 else if kd = 2 then inR b 0 999 && c == 0 else if kd = 3 ∨ kd = 4 then inR b 0 5 && inR c 0 5 else false)
theorem spec_l21Ok_e (k : Nat) (kd a b c : Int) : spec_l21Ok.f k kd a b c = some (isOpV kd a b c) := by
  unfold spec_l21Ok.f isOpV
  simp only [spec_l1In_e, Option.bind_some]
  cases inR a 0 5 <;>
  · by_cases h1 : kd = 1
    · subst h1; cases inR b 1 9 <;> simp
    · by_cases h5 : kd = 5
      · subst h5; cases inR b 1 9 <;> simp
      · by_cases h2 : kd = 2
        · subst h2; cases inR b 0 999 <;> simp
        · by_cases h3 : kd = 3
          · subst h3; cases inR b 0 5 <;> simp
          · by_cases h4 : kd = 4
            · subst h4; cases inR b 0 5 <;> simp
            · simp [h1, h2, h3, h4, h5, beqF h1, beqF h2, beqF h3, beqF h4, beqF h5]
def opOk (x : T_impl_Op) : Bool := isOpV x.f0 x.f1 x.f2 x.f3
def areOps (l : List T_impl_Op) : Bool := l.all opOk && decide (l.length ≤ 16)
theorem spec_AreOps_e {k : Nat} (hk : Big k) {l : List T_impl_Op} (hl : Ok l) : spec_AreOps.f k l = some (areOps l) := by
  unfold spec_AreOps.f areOps
  rw [loop_all (spec_AreOps.l2 k l (fun y => some y) (fun _ => some (decide ((l.length : Int) ≤ 16)))) opOk (some (decide ((l.length : Int) ≤ 16))) (some false) l (fun n i x hx => by
    obtain ⟨h1, h2, h3, h4⟩ := at_ hx (by have := hl.out; omega)
    simp only [spec_AreOps.l2, spec_AreOps.L2, rd_impl_Op, h1, h2, h3, h4, spec_l21Ok_e, Option.bind_some, cond_true]
    cases hp : opOk x <;> simp only [opOk] at hp <;> rw [hp] <;> rfl) (fun n => by simp only [spec_AreOps.l2, spec_AreOps.L2, end_, cond_false]) k (hk.lt hl)]
  have : decide ((l.length : Int) ≤ 16) = decide (l.length ≤ 16) := by rw [decide_eq_decide]; omega
  rw [this]
  cases l.all opOk <;> rfl
def gAt (a : Int) (x : T_impl_Grant) : Bool := isGrant x.f0 x.f1.f0 x.f1.f1 x.f2 x.f3 x.f4 && x.f0 == a
def fAt (a : Int) (x : T_impl_Flow) : Bool := isFlowV x.f0 x.f1 x.f2 && x.f0 == a
def rAt (a : Int) (x : T_impl_Rule) : Bool := isRuleV x.f0 x.f1 x.f2.f0 x.f2.f1 x.f3 x.f4 x.f5.f0 x.f5.f1 && x.f0 == a
def isPk (a b c : Int) (g : List T_impl_Grant) (f : List T_impl_Flow) (r : List T_impl_Rule) (o : List T_impl_Op) : Bool :=
  inR a 1 5 && (inR b 1 9 && (inR c 1 999 && (decide (g.length ≤ 6) && (decide (f.length ≤ 6) && (decide (r.length ≤ 6) && (areOps o && (g.all (gAt a) && (f.all (fAt a) && r.all (rAt a)))))))))
theorem spec_IsPackage_e {k : Nat} (hk : Big k) (a b c : Int) {g : List T_impl_Grant} {f : List T_impl_Flow} {r : List T_impl_Rule} {o : List T_impl_Op} (d : Int) (hg : Ok g) (hf : Ok f) (hr : Ok r) (ho : Ok o) :
    spec_IsPackage.f k a b c g f r o d = some (isPk a b c g f r o) := by
  unfold spec_IsPackage.f isPk
  have t1 : ∀ X1, spec_IsPackage.l4 k g f r o a b c d (fun y => some y) X1 k 0 = bif g.all (gAt a) then X1 () else some false := fun X1 =>
    loop_all _ (gAt a) _ _ g (fun n i x hx => by
      obtain ⟨h1, h2, h3, h4⟩ := at_ hx (by have := hg.out; omega)
      simp only [spec_IsPackage.l4, spec_IsPackage.L4, rd_impl_Grant, h1, h2, h3, h4, spec_IsGrant_e, Option.bind_some, cond_true, gAt, bne]
      cases isGrant x.f0 x.f1.f0 x.f1.f1 x.f2 x.f3 x.f4 <;> cases (x.f0 == a) <;> rfl) (fun n => by simp only [spec_IsPackage.l4, spec_IsPackage.L4, end_, cond_false]) k (hk.lt hg)
  have t2 : ∀ X1, spec_IsPackage.l9 k g f r o a b c d (fun y => some y) X1 k 0 = bif f.all (fAt a) then X1 () else some false := fun X1 =>
    loop_all _ (fAt a) _ _ f (fun n i x hx => by
      obtain ⟨h1, h2, h3, h4⟩ := at_ hx (by have := hf.out; omega)
      simp only [spec_IsPackage.l9, spec_IsPackage.L9, rd_impl_Flow, h1, h2, h3, h4, spec_IsFlow_e, Option.bind_some, cond_true, fAt, bne]
      cases isFlowV x.f0 x.f1 x.f2 <;> cases (x.f0 == a) <;> rfl) (fun n => by simp only [spec_IsPackage.l9, spec_IsPackage.L9, end_, cond_false]) k (hk.lt hf)
  have t3 : ∀ X1, spec_IsPackage.l14 k g f r o a b c d (fun y => some y) X1 k 0 = bif r.all (rAt a) then X1 () else some false := fun X1 =>
    loop_all _ (rAt a) _ _ r (fun n i x hx => by
      obtain ⟨h1, h2, h3, h4⟩ := at_ hx (by have := hr.out; omega)
      simp only [spec_IsPackage.l14, spec_IsPackage.L14, rd_impl_Rule, h1, h2, h3, h4, spec_IsRule_e, Option.bind_some, cond_true, rAt, bne]
      cases isRuleV x.f0 x.f1 x.f2.f0 x.f2.f1 x.f3 x.f4 x.f5.f0 x.f5.f1 <;> cases (x.f0 == a) <;> rfl) (fun n => by simp only [spec_IsPackage.l14, spec_IsPackage.L14, end_, cond_false]) k (hk.lt hr)
  simp only [spec_l1In_e, Option.bind_some, spec_AreOps_e hk ho, t1, t2, t3]
  have e : ∀ n : Nat, decide ((n : Int) > 6) = !decide (n ≤ 6) := fun n => by by_cases h : n ≤ 6 <;> simp [h] <;> omega
  rw [e, e, e]
  cases inR a 1 5 <;> cases inR b 1 9 <;> cases inR c 1 999 <;> cases decide (g.length ≤ 6) <;> cases decide (f.length ≤ 6) <;> cases decide (r.length ≤ 6) <;> try rfl
  cases areOps o <;> cases g.all (gAt a) <;> cases f.all (fAt a) <;> cases r.all (rAt a) <;> rfl
def gInts (x : T_impl_Grant) : List Int := [x.f1.f0, x.f1.f1, x.f2, x.f3, x.f4, bif x.f5 then 1 else 0]
def fInts (x : T_impl_Flow) : List Int := [x.f1, x.f2]
def rInts (x : T_impl_Rule) : List Int := [x.f1, x.f2.f0, x.f2.f1, x.f3, x.f4, x.f5.f0, x.f5.f1]
def oInts (x : T_impl_Op) : List Int := [x.f0, x.f1, x.f2, x.f3]
def pkInts (a b c : Int) (g : List T_impl_Grant) (f : List T_impl_Flow) (r : List T_impl_Rule) (o : List T_impl_Op) : List Int :=
  ((((([a, b, c, (g.length : Int)] ++ g.flatMap gInts) ++ [(f.length : Int)]) ++ f.flatMap fInts) ++ [(r.length : Int)]) ++ r.flatMap rInts) ++ [(o.length : Int)] ++ o.flatMap oInts
theorem isPk_len {a b c : Int} {g : List T_impl_Grant} {f : List T_impl_Flow} {r : List T_impl_Rule} {o : List T_impl_Op} (h : isPk a b c g f r o = true) : g.length ≤ 6 ∧ f.length ≤ 6 ∧ r.length ≤ 6 ∧ o.length ≤ 16 := by
  unfold isPk areOps at h
  simp only [Bool.and_eq_true, decide_eq_true_eq] at h
  exact ⟨h.2.2.2.1, h.2.2.2.2.1, h.2.2.2.2.2.1, h.2.2.2.2.2.2.1.2⟩
theorem fm_len {α β : Type} (f : α → List β) (n : Nat) (h : ∀ x, (f x).length = n) (l : List α) : (l.flatMap f).length = l.length * n := by
  induction l with
  | nil => simp
  | cons x xs ih => simp [List.flatMap_cons, h, ih, Nat.add_mul]; omega
/-- A loop that appends to a list of numbers, within a bound. -/
theorem loop_app {α R : Type} (l : Nat → Int → List Int → Option R) (f : α → List Int) (m : Nat) (hm : ∀ x, (f x).length = m) (B : Nat) (X : List Int → Option R) (xs : List α)
    (hs : ∀ n (i : Nat) x s, xs[i]? = some x → s.length + m ≤ B → l (n + 1) (i : Int) s = l n ((i + 1 : Nat) : Int) (s ++ f x)) (he : ∀ n s, l (n + 1) (xs.length : Int) s = X s) (n : Nat) (s : List Int) (hn : xs.length < n) (hB : s.length + xs.length * m ≤ B) :
    l n 0 s = X (s ++ xs.flatMap f) := by
  have := loop_fold l (fun s x => s ++ f x) (fun i s => s.length + (xs.length - i) * m ≤ B) X xs (fun n i x s hx hi => hs n i x s hx (by
      have := lt_of hx
      have e : (xs.length - i) * m = (xs.length - i - 1) * m + m := by rw [← Nat.succ_mul]; congr 1; omega
      have hi : s.length + (xs.length - i) * m ≤ B := hi
      omega)) (fun i x s hx hi => by
      have := lt_of hx
      have e : (xs.length - i) * m = (xs.length - (i + 1)) * m + m := by rw [← Nat.succ_mul]; congr 1; omega
      have hi : s.length + (xs.length - i) * m ≤ B := hi
      show (s ++ f x).length + (xs.length - (i + 1)) * m ≤ B
      rw [List.length_append, hm]; omega) (fun n s _ => he n s) n s hn (by simpa using hB)
  rw [this, foldl_append]
theorem cap8 {a b : Nat} (h : a + b ≤ 1000000) : decide ((a + b) * 8 ≤ cap48) = true := decide_eq_true (by unfold cap48; omega)
theorem spec_PackageInts_e {k : Nat} (hk : Big k) (a b c : Int) {g : List T_impl_Grant} {f : List T_impl_Flow} {r : List T_impl_Rule} {o : List T_impl_Op} (d : Int) (hg : Ok g) (hf : Ok f) (hr : Ok r) (ho : Ok o) :
    spec_PackageInts.f k a b c g f r o d = some (bif isPk a b c g f r o then pkInts a b c g f r o else []) := by
  unfold spec_PackageInts.f
  simp only [spec_IsPackage_e hk a b c d hg hf hr ho, Option.bind_some]
  cases hp : isPk a b c g f r o with
  | false => rfl
  | true =>
    obtain ⟨l1, l2, l3, l4⟩ := isPk_len hp
    have t1 : ∀ (X : List Int → Option (List Int)) s, s.length ≤ 1000 → spec_PackageInts.l5 k g f r o a b c d X k 0 s = X (s ++ g.flatMap gInts) := fun X s hs =>
      loop_app _ gInts 6 (fun _ => rfl) 1040 X g (fun n i x s hx hb => by
        obtain ⟨h1, h2, h3, h4⟩ := at_ hx (by omega)
        simp only [spec_PackageInts.l5, spec_PackageInts.L5, rd_impl_Grant, h1, h2, h3, h4, cond_true]
        cases hc : x.f5 <;> simp only [cond_true, cond_false, gInts, hc] <;> rw [cap8 (by simp only [List.length_cons, List.length_nil]; omega)] <;> rfl) (fun n s => by simp only [spec_PackageInts.l5, spec_PackageInts.L5, end_, cond_false]) k s (hk.lt hg) (by omega)
    have t2 : ∀ (X : List Int → Option (List Int)) s, s.length ≤ 1100 → spec_PackageInts.l14 k g f r o a b c d X k 0 s = X (s ++ f.flatMap fInts) := fun X s hs =>
      loop_app _ fInts 2 (fun _ => rfl) 1140 X f (fun n i x s hx hb => by
        obtain ⟨h1, h2, h3, h4⟩ := at_ hx (by omega)
        simp only [spec_PackageInts.l14, spec_PackageInts.L14, rd_impl_Flow, h1, h2, h3, h4, cond_true, fInts]
        rw [cap8 (by simp only [List.length_cons, List.length_nil]; omega)]; rfl) (fun n s => by simp only [spec_PackageInts.l14, spec_PackageInts.L14, end_, cond_false]) k s (hk.lt hf) (by omega)
    have t3 : ∀ (X : List Int → Option (List Int)) s, s.length ≤ 1200 → spec_PackageInts.l19 k g f r o a b c d X k 0 s = X (s ++ r.flatMap rInts) := fun X s hs =>
      loop_app _ rInts 7 (fun _ => rfl) 1260 X r (fun n i x s hx hb => by
        obtain ⟨h1, h2, h3, h4⟩ := at_ hx (by omega)
        simp only [spec_PackageInts.l19, spec_PackageInts.L19, rd_impl_Rule, h1, h2, h3, h4, cond_true, rInts]
        rw [cap8 (by simp only [List.length_cons, List.length_nil]; omega)]; rfl) (fun n s => by simp only [spec_PackageInts.l19, spec_PackageInts.L19, end_, cond_false]) k s (hk.lt hr) (by omega)
    have t4 : ∀ (X : List Int → Option (List Int)) s, s.length ≤ 1300 → spec_PackageInts.l25 k g f r o a b c d X k 0 s = X (s ++ o.flatMap oInts) := fun X s hs =>
      loop_app _ oInts 4 (fun _ => rfl) 1400 X o (fun n i x s hx hb => by
        obtain ⟨h1, h2, h3, h4⟩ := at_ hx (by omega)
        simp only [spec_PackageInts.l25, spec_PackageInts.L25, rd_impl_Op, h1, h2, h3, h4, cond_true, oInts]
        rw [cap8 (by simp only [List.length_cons, List.length_nil]; omega)]; rfl) (fun n s => by simp only [spec_PackageInts.l25, spec_PackageInts.L25, end_, cond_false]) k s (hk.lt ho) (by omega)
    have n1 := fm_len gInts 6 (fun _ => rfl) g
    have n2 := fm_len fInts 2 (fun _ => rfl) f
    have n3 := fm_len rInts 7 (fun _ => rfl) r
    rw [Bool.not_true, cond_false, cond_true, t1 _ _ (by simp)]
    rw [cap8 (by simp only [List.length_append, List.length_cons, List.length_nil]; omega), cond_true, t2 _ _ (by simp only [List.length_append, List.length_cons, List.length_nil]; omega)]
    rw [cap8 (by simp only [List.length_append, List.length_cons, List.length_nil]; omega), cond_true, t3 _ _ (by simp only [List.length_append, List.length_cons, List.length_nil]; omega)]
    rw [cap8 (by simp only [List.length_append, List.length_cons, List.length_nil]; omega), cond_true, t4 _ _ (by simp only [List.length_append, List.length_cons, List.length_nil]; omega)]
    rfl
def M31 : Int := 2147483647
def fold1 (h v : Int) : Int := (w64 ((w64 ((w64 (h * (1000003 : Int))) + v % 2147483647)) + (13 : Int))).tmod (2147483647 : Int)
theorem tmod31 (a : Int) : -2147483647 < a.tmod 2147483647 ∧ a.tmod 2147483647 < 2147483647 := by
  constructor
  · have := Int.lt_tmod_of_pos a (show (0 : Int) < 2147483647 by decide); omega
  · exact Int.tmod_lt_of_pos a (by decide)
theorem tmod31_neg (a : Int) (h : a.tmod 2147483647 < 0) : a.tmod 2147483647 + 2147483647 = a % 2147483647 := by
  rw [Int.tmod_eq_emod] at h ⊢
  have h1 := Int.emod_nonneg a (show (2147483647 : Int) ≠ 0 by decide)
  split at h
  · omega
  · rename_i hn; rw [if_neg hn]; omega
theorem tmod31_nn (a : Int) (h : ¬ a.tmod 2147483647 < 0) : a.tmod 2147483647 = a % 2147483647 := by
  rw [Int.tmod_eq_emod] at h ⊢
  have h1 := Int.emod_lt_of_pos a (show (0 : Int) < 2147483647 by decide)
  split at h
  · rename_i hn; rw [if_pos hn]; omega
  · rename_i hn
    exfalso
    omega
theorem spec_Mod_e (k : Nat) (a : Int) : spec_Mod.f k a 2147483647 = some (a % 2147483647) := by
  unfold spec_Mod.f
  rw [spec_l1In_e, Option.bind_some, show inR 2147483647 1 1000000000000 = true from rfl]
  simp only [Bool.not_true, cond_false, show decide ((2147483647 : Int) = 0) = false from rfl, Option.some.injEq]
  have h0 := tmod31 a
  rw [w64_id (by omega)]
  by_cases h : a.tmod 2147483647 < 0
  · rw [tmod31_neg a h, Int.tmod_eq_of_lt (Int.emod_nonneg _ (by decide)) (Int.emod_lt_of_pos _ (by decide))]
  · have e := tmod31_nn a h
    rw [Int.tmod_eq_emod_of_nonneg (by omega), e]
    omega
theorem spec_Hash_e {k : Nat} (hk : Big k) {l : List Int} (hl : l.length ≤ 1100000) : spec_Hash.f k l = some (l.foldl fold1 11) := by
  unfold spec_Hash.f
  exact loop_fold (fun n i s => spec_Hash.l3 k l (fun y => some y) n s i) fold1 (fun _ _ => True) (fun y => some y) l (fun n i x s hx _ => by
    obtain ⟨h1, h2, h3, h4⟩ := at_ hx (by omega)
    simp only [spec_Hash.l3, spec_Hash.L3, rd_i64, h1, h2, h3, h4, cond_true, spec_Mod_e, Option.bind_some, fold1]) (fun _ _ _ _ _ => trivial)
    (fun n s _ => by simp only [spec_Hash.l3, spec_Hash.L3, end_, cond_false]) k 11 (by have := hk.out; omega) trivial
def keyed (key : Int) (l : List Int) : Int := (([key] ++ l) ++ [key]).foldl fold1 11
theorem spec_KeyedHash_e {k : Nat} (hk : Big k) (key : Int) {l : List Int} (hl : l.length ≤ 1000000) : spec_KeyedHash.f k key l = some (keyed key l) := by
  unfold spec_KeyedHash.f keyed
  have c1 : decide ((([key] : List Int).length + l.length) * 8 ≤ cap48) = true := decide_eq_true (by unfold cap48; simp; omega)
  have c2 : decide (((([key] : List Int) ++ l).length + ([key] : List Int).length) * 8 ≤ cap48) = true := decide_eq_true (by unfold cap48; simp; omega)
  rw [c1, c2, cond_true, cond_true, spec_Hash_e hk (by simp; omega), Option.bind_some]
def sealV (key a b c : Int) (g : List T_impl_Grant) (f : List T_impl_Flow) (r : List T_impl_Rule) (o : List T_impl_Op) : Int :=
  bif inR key 1 2147483646 && isPk a b c g f r o then keyed key (pkInts a b c g f r o) else 0
theorem pkInts_len {a b c : Int} {g : List T_impl_Grant} {f : List T_impl_Flow} {r : List T_impl_Rule} {o : List T_impl_Op} (h : isPk a b c g f r o = true) : (pkInts a b c g f r o).length ≤ 1000000 := by
  obtain ⟨l1, l2, l3, l4⟩ := isPk_len h
  have n1 := fm_len gInts 6 (fun _ => rfl) g
  have n2 := fm_len fInts 2 (fun _ => rfl) f
  have n3 := fm_len rInts 7 (fun _ => rfl) r
  have n4 := fm_len oInts 4 (fun _ => rfl) o
  unfold pkInts
  simp only [List.length_append, List.length_cons, List.length_nil]
  omega
theorem spec_SealPackage_e {k : Nat} (hk : Big k) (key a b c : Int) {g : List T_impl_Grant} {f : List T_impl_Flow} {r : List T_impl_Rule} {o : List T_impl_Op} (d : Int) (hg : Ok g) (hf : Ok f) (hr : Ok r) (ho : Ok o) :
    spec_SealPackage.f k key a b c g f r o d = some (a, b, c, sealV key a b c g f r o, g, f, r, o) := by
  unfold spec_SealPackage.f sealV
  simp only [spec_l26Copy_e k a b c d hg hf hr ho, spec_IsValidKey_e, spec_IsPackage_e hk a b c d hg hf hr ho, spec_PackageInts_e hk a b c d hg hf hr ho, Option.bind_some]
  cases inR key 1 2147483646 with
  | false => rfl
  | true =>
    cases hp : isPk a b c g f r o with
    | false => rfl
    | true =>
      simp only [cond_true, Bool.true_and, spec_KeyedHash_e hk key (pkInts_len hp), Option.bind_some]
theorem spec_IsSealed_e {k : Nat} (hk : Big k) (key a b c : Int) {g : List T_impl_Grant} {f : List T_impl_Flow} {r : List T_impl_Rule} {o : List T_impl_Op} (d : Int) (hg : Ok g) (hf : Ok f) (hr : Ok r) (ho : Ok o) :
    spec_IsSealed.f k key a b c g f r o d = some (isPk a b c g f r o && (inR key 1 2147483646 && (sealV key a b c g f r o == d))) := by
  unfold spec_IsSealed.f
  simp only [spec_SealPackage_e hk key a b c d hg hf hr ho, spec_IsValidKey_e, spec_IsPackage_e hk a b c d hg hf hr ho, Option.bind_some]
  cases isPk a b c g f r o <;> cases inR key 1 2147483646 <;> rfl
def deedSealV (key w a b c : Int) : Int := bif inR key 1 2147483646 then keyed key [w, a, b, c] else 0
def isDeedV (a b c s t k1 k2 : Int) : Bool := inR a 1 5 && (inR b 1 9 && (inR c 1 9 && ((b != c) && (inR k1 1 2147483646 && (inR k2 1 2147483646 && (deedSealV k1 1 a b c == s && deedSealV k2 2 a b c == t))))))
theorem spec_SealDeed_e {k : Nat} (hk : Big k) (a b c s t k1 k2 : Int) : spec_SealDeed.f k a b c s t k1 k2 = some (a, b, c, deedSealV k1 1 a b c, deedSealV k2 2 a b c) := by
  unfold spec_SealDeed.f deedSealV
  simp only [spec_IsValidKey_e, spec_KeyedHash_e hk k1 (l := [1, a, b, c]) (by simp), spec_KeyedHash_e hk k2 (l := [2, a, b, c]) (by simp), Option.bind_some]
  generalize inR k1 1 2147483646 = p1, inR k2 1 2147483646 = p2, keyed k1 [1, a, b, c] = q1, keyed k2 [2, a, b, c] = q2
  cases p1 <;> cases p2 <;> rfl
theorem spec_IsDeed_e {k : Nat} (hk : Big k) (a b c s t k1 k2 : Int) : spec_IsDeed.f k a b c s t k1 k2 = some (isDeedV a b c s t k1 k2) := by
  unfold spec_IsDeed.f isDeedV
  simp only [spec_l1In_e, spec_IsValidKey_e, spec_SealDeed_e hk, Option.bind_some, beq_self_eq_true, Bool.true_and]
  generalize (deedSealV k1 1 a b c == s) = p1, (deedSealV k2 2 a b c == t) = p2, inR a 1 5 = p3, inR b 1 9 = p4, inR c 1 9 = p5, (b != c) = p6, inR k1 1 2147483646 = p7, inR k2 1 2147483646 = p8
  revert p1 p2 p3 p4 p5 p6 p7 p8; decide
def mayMove (key a b c : Int) (g : List T_impl_Grant) (f : List T_impl_Flow) (r : List T_impl_Rule) (o : List T_impl_Op) (d e1 e2 e3 e4 e5 k1 k2 : Int) : Bool :=
  (isPk a b c g f r o && (inR key 1 2147483646 && (sealV key a b c g f r o == d))) && (isDeedV e1 e2 e3 e4 e5 k1 k2 && ((a == e1) && (b == e2)))
theorem spec_Transfer_e {k : Nat} (hk : Big k) (key a b c : Int) {g : List T_impl_Grant} {f : List T_impl_Flow} {r : List T_impl_Rule} {o : List T_impl_Op} (d e1 e2 e3 e4 e5 k1 k2 : Int) (hg : Ok g) (hf : Ok f) (hr : Ok r) (ho : Ok o) :
    spec_Transfer.f k key a b c g f r o d e1 e2 e3 e4 e5 k1 k2 = some (bif mayMove key a b c g f r o d e1 e2 e3 e4 e5 k1 k2 then (a, e3, c, sealV key a e3 c g f r o, true, g, f, r, o) else (a, b, c, d, false, g, f, r, o)) := by
  unfold spec_Transfer.f mayMove
  simp only [spec_l26Copy_e k a b c d hg hf hr ho, spec_IsSealed_e hk key a b c d hg hf hr ho, spec_IsDeed_e hk, spec_SealPackage_e hk key a e3 c d hg hf hr ho, Option.bind_some, bne]
  generalize (isPk a b c g f r o && (inR key 1 2147483646 && (sealV key a b c g f r o == d))) = p1, isDeedV e1 e2 e3 e4 e5 k1 k2 = p2, (a == e1) = p3, (b == e2) = p4, sealV key a e3 c g f r o = sv
  cases p1 <;> cases p2 <;> cases p3 <;> cases p4 <;> rfl
theorem impl_clonePackage_e (k : Nat) (a b c : Int) {g : List T_impl_Grant} {f : List T_impl_Flow} {r : List T_impl_Rule} {o : List T_impl_Op} (d : Int) (hg : Ok g) (hf : Ok f) (hr : Ok r) (ho : Ok o) :
    impl_clonePackage.f k a b c g f r o d = some (a, b, c, d, g, f, r, o) := by
  have := hg.out; have := hf.out; have := hr.out; have := ho.out
  have e1 : slices_Clone_Grant.f k g = some g := by
    show (bif decide ((0 + g.length) * 56 ≤ cap48) then some g else none) = some g
    rw [decide_eq_true (by unfold cap48; omega)]; rfl
  have e2 : slices_Clone_Flow.f k f = some f := by
    show (bif decide ((0 + f.length) * 24 ≤ cap48) then some f else none) = some f
    rw [decide_eq_true (by unfold cap48; omega)]; rfl
  have e3 : slices_Clone_Rule.f k r = some r := by
    show (bif decide ((0 + r.length) * 64 ≤ cap48) then some r else none) = some r
    rw [decide_eq_true (by unfold cap48; omega)]; rfl
  have e4 : slices_Clone_Op.f k o = some o := by
    show (bif decide ((0 + o.length) * 32 ≤ cap48) then some o else none) = some o
    rw [decide_eq_true (by unfold cap48; omega)]; rfl
  unfold impl_clonePackage.f
  rw [e1, Option.bind_some, e2, Option.bind_some, e3, Option.bind_some, e4, Option.bind_some]
theorem impl_InRange_e (k : Nat) (n a b : Int) : impl_InRange.f k n a b = some (inR n a b) := by
  unfold impl_InRange.f inR
  by_cases h : a ≤ n <;> simp [h]
theorem impl_IsValidKey_e (k : Nat) (n : Int) : impl_IsValidKey.f k n = some (inR n 1 2147483646) := by
  unfold impl_IsValidKey.f
  rw [impl_InRange_e, Option.bind_some]
theorem impl_IsPattern_e (k : Nat) (a b : Int) : impl_IsPattern.f k a b = some (isPattern a b) := by
  unfold impl_IsPattern.f isPattern
  simp only [impl_InRange_e, Option.bind_some]
  cases inR a 0 9 <;> simp
theorem impl_IsGrant_e (k : Nat) (e a b kd f u : Int) (cl : Bool) : impl_IsGrant.f k e a b kd f u cl = some (isGrant e a b kd f u) := by
  unfold impl_IsGrant.f isGrant
  simp only [impl_InRange_e, impl_IsPattern_e, Option.bind_some, ge_iff_le]
  cases inR e 1 5 <;> cases isPattern a b <;> cases inR kd 1 4 <;> by_cases h1 : 0 ≤ f <;> by_cases h2 : f ≤ u <;> simp [h1, h2]
theorem impl_IsFlow_e (k : Nat) (a b c : Int) : impl_IsFlow.f k a b c = some (isFlowV a b c) := by
  unfold impl_IsFlow.f isFlowV
  simp only [impl_InRange_e, Option.bind_some]
  cases inR a 1 5 <;> cases inR b 1 9 <;> simp
theorem impl_IsSite_e (k : Nat) (a b : Int) : impl_IsSite.f k a b = some (isSiteV a b) := by
  unfold impl_IsSite.f isSiteV
  simp only [impl_InRange_e, Option.bind_some]
  cases inR a 1 9 <;> simp
theorem impl_IsRule_e (k : Nat) (e o p q kd a s1 s2 : Int) : impl_IsRule.f k e o p q kd a s1 s2 = some (isRuleV e o p q kd a s1 s2) := by
  unfold impl_IsRule.f isRuleV
  simp only [impl_InRange_e, impl_IsPattern_e, impl_IsSite_e, Option.bind_some]
  cases inR e 1 5 <;> cases inR o 1 9 <;> cases isPattern p q <;> cases inR kd 0 4 <;> try simp
  by_cases h1 : a = 1
  · subst h1; simp [inR]
  · by_cases h2 : a = 2
    · subst h2; simp [inR]
    · by_cases h3 : a = 3
      · subst h3; simp [inR]
      · rw [show inR a 1 3 = false from inR_false.2 (by omega)]
        simp [h1, h2, h3, beqF h1, beqF h2, beqF h3]
theorem impl_isRegister_e (k : Nat) (n : Int) : impl_isRegister.f k n = some (inR n 0 5) := by
  unfold impl_isRegister.f
  rw [impl_InRange_e, Option.bind_some]
theorem impl_isOp_e (k : Nat) (kd a b c : Int) : impl_isOp.f k kd a b c = some (isOpV kd a b c) := by
  unfold impl_isOp.f isOpV
  simp only [impl_isRegister_e, impl_InRange_e, Option.bind_some]
  cases inR a 0 5 <;>
  · by_cases h1 : kd = 1
    · subst h1; cases inR b 1 9 <;> simp
    · by_cases h5 : kd = 5
      · subst h5; cases inR b 1 9 <;> simp
      · by_cases h2 : kd = 2
        · subst h2; cases inR b 0 999 <;> simp
        · by_cases h3 : kd = 3
          · subst h3; cases inR b 0 5 <;> simp
          · by_cases h4 : kd = 4
            · subst h4; cases inR b 0 5 <;> simp
            · simp [h1, h2, h3, h4, h5, beqF h1, beqF h2, beqF h3, beqF h4, beqF h5]
theorem impl_AreOps_e {k : Nat} (hk : Big k) {l : List T_impl_Op} (hl : Ok l) : impl_AreOps.f k l = some (areOps l) := by
  unfold impl_AreOps.f areOps
  rw [loop_all (impl_AreOps.l4 k (l.length : Int) l (fun y => some y) (fun _ => some true)) opOk (some true) (some false) l (fun n i x hx => by
    obtain ⟨h1, h2, h3, h4⟩ := at_ hx (by have := hl.out; omega)
    simp only [impl_AreOps.l4, impl_AreOps.L4, rd_impl_Op, h1, h2, h3, h4, impl_isOp_e, Option.bind_some, cond_true]
    cases hp : opOk x <;> simp only [opOk] at hp <;> rw [hp] <;> rfl) (fun n => by simp only [impl_AreOps.l4, impl_AreOps.L4, end_, cond_false]) k (hk.lt hl)]
  by_cases h : l.length ≤ 16
  · rw [decide_eq_false (show ¬ ((l.length : Int) > 16) by omega), decide_eq_true h]
    cases l.all opOk <;> rfl
  · rw [decide_eq_true (show (l.length : Int) > 16 by omega), decide_eq_false h]
    simp
theorem impl_IsPackage_e {k : Nat} (hk : Big k) (a b c : Int) {g : List T_impl_Grant} {f : List T_impl_Flow} {r : List T_impl_Rule} {o : List T_impl_Op} (d : Int) (hg : Ok g) (hf : Ok f) (hr : Ok r) (ho : Ok o) :
    impl_IsPackage.f k a b c g f r o d = some (isPk a b c g f r o) := by
  unfold impl_IsPackage.f isPk
  have t1 : ∀ X1, impl_IsPackage.l4 k (g.length : Int) g f r o a b c d (fun y => some y) X1 k 0 = bif g.all (gAt a) then X1 () else some false := fun X1 =>
    loop_all _ (gAt a) _ _ g (fun n i x hx => by
      obtain ⟨h1, h2, h3, h4⟩ := at_ hx (by have := hg.out; omega)
      simp only [impl_IsPackage.l4, impl_IsPackage.L4, rd_impl_Grant, h1, h2, h3, h4, impl_IsGrant_e, Option.bind_some, cond_true, gAt, bne]
      cases isGrant x.f0 x.f1.f0 x.f1.f1 x.f2 x.f3 x.f4 <;> cases (x.f0 == a) <;> rfl) (fun n => by simp only [impl_IsPackage.l4, impl_IsPackage.L4, end_, cond_false]) k (hk.lt hg)
  have t2 : ∀ X1, impl_IsPackage.l10 k (f.length : Int) g f r o a b c d (fun y => some y) X1 k 0 = bif f.all (fAt a) then X1 () else some false := fun X1 =>
    loop_all _ (fAt a) _ _ f (fun n i x hx => by
      obtain ⟨h1, h2, h3, h4⟩ := at_ hx (by have := hf.out; omega)
      simp only [impl_IsPackage.l10, impl_IsPackage.L10, rd_impl_Flow, h1, h2, h3, h4, impl_IsFlow_e, Option.bind_some, cond_true, fAt, bne]
      cases isFlowV x.f0 x.f1 x.f2 <;> cases (x.f0 == a) <;> rfl) (fun n => by simp only [impl_IsPackage.l10, impl_IsPackage.L10, end_, cond_false]) k (hk.lt hf)
  have t3 : ∀ X1, impl_IsPackage.l16 k (r.length : Int) g f r o a b c d (fun y => some y) X1 k 0 = bif r.all (rAt a) then X1 () else some false := fun X1 =>
    loop_all _ (rAt a) _ _ r (fun n i x hx => by
      obtain ⟨h1, h2, h3, h4⟩ := at_ hx (by have := hr.out; omega)
      simp only [impl_IsPackage.l16, impl_IsPackage.L16, rd_impl_Rule, h1, h2, h3, h4, impl_IsRule_e, Option.bind_some, cond_true, rAt, bne]
      cases isRuleV x.f0 x.f1 x.f2.f0 x.f2.f1 x.f3 x.f4 x.f5.f0 x.f5.f1 <;> cases (x.f0 == a) <;> rfl) (fun n => by simp only [impl_IsPackage.l16, impl_IsPackage.L16, end_, cond_false]) k (hk.lt hr)
  simp only [impl_InRange_e, Option.bind_some, impl_AreOps_e hk ho, t1, t2, t3]
  have e : ∀ n : Nat, decide ((n : Int) > 6) = !decide (n ≤ 6) := fun n => by by_cases h : n ≤ 6 <;> simp [h] <;> omega
  rw [e, e, e]
  cases inR a 1 5 <;> cases inR b 1 9 <;> cases inR c 1 999 <;> cases decide (g.length ≤ 6) <;> cases decide (f.length ≤ 6) <;> cases decide (r.length ≤ 6) <;> try rfl
  all_goals first | rfl | (cases areOps o <;> cases g.all (gAt a) <;> cases f.all (fAt a) <;> cases r.all (rAt a) <;> rfl) | simp
theorem impl_bit_e (k : Nat) (b : Bool) : impl_bit.f k b = some (bif b then 1 else 0) := by unfold impl_bit.f; cases b <;> rfl
theorem impl_PackageInts_e {k : Nat} (hk : Big k) (a b c : Int) {g : List T_impl_Grant} {f : List T_impl_Flow} {r : List T_impl_Rule} {o : List T_impl_Op} (d : Int) (hg : Ok g) (hf : Ok f) (hr : Ok r) (ho : Ok o) :
    impl_PackageInts.f k a b c g f r o d = some (bif isPk a b c g f r o then pkInts a b c g f r o else []) := by
  unfold impl_PackageInts.f
  simp only [impl_IsPackage_e hk a b c d hg hf hr ho, Option.bind_some]
  cases hp : isPk a b c g f r o with
  | false => rfl
  | true =>
    obtain ⟨l1, l2, l3, l4⟩ := isPk_len hp
    have t1 : ∀ (X : List Int → Option (List Int)) s, s.length ≤ 1000 → impl_PackageInts.l5 k (g.length : Int) g f r o a b c d X k 0 s = X (s ++ g.flatMap gInts) := fun X s hs =>
      loop_app _ gInts 6 (fun _ => rfl) 1040 X g (fun n i x s hx hb => by
        obtain ⟨h1, h2, h3, h4⟩ := at_ hx (by omega)
        simp only [impl_PackageInts.l5, impl_PackageInts.L5, rd_impl_Grant, h1, h2, h3, h4, cond_true, impl_bit_e, Option.bind_some, gInts]
        rw [cap8 (by simp only [List.length_cons, List.length_nil]; omega)]; rfl) (fun n s => by simp only [impl_PackageInts.l5, impl_PackageInts.L5, end_, cond_false]) k s (hk.lt hg) (by omega)
    have t2 : ∀ (X : List Int → Option (List Int)) s, s.length ≤ 1100 → impl_PackageInts.l11 k (f.length : Int) g f r o a b c d X k 0 s = X (s ++ f.flatMap fInts) := fun X s hs =>
      loop_app _ fInts 2 (fun _ => rfl) 1140 X f (fun n i x s hx hb => by
        obtain ⟨h1, h2, h3, h4⟩ := at_ hx (by omega)
        simp only [impl_PackageInts.l11, impl_PackageInts.L11, rd_impl_Flow, h1, h2, h3, h4, cond_true, fInts]
        rw [cap8 (by simp only [List.length_cons, List.length_nil]; omega)]; rfl) (fun n s => by simp only [impl_PackageInts.l11, impl_PackageInts.L11, end_, cond_false]) k s (hk.lt hf) (by omega)
    have t3 : ∀ (X : List Int → Option (List Int)) s, s.length ≤ 1200 → impl_PackageInts.l17 k (r.length : Int) g f r o a b c d X k 0 s = X (s ++ r.flatMap rInts) := fun X s hs =>
      loop_app _ rInts 7 (fun _ => rfl) 1260 X r (fun n i x s hx hb => by
        obtain ⟨h1, h2, h3, h4⟩ := at_ hx (by omega)
        simp only [impl_PackageInts.l17, impl_PackageInts.L17, rd_impl_Rule, h1, h2, h3, h4, cond_true, rInts]
        rw [cap8 (by simp only [List.length_cons, List.length_nil]; omega)]; rfl) (fun n s => by simp only [impl_PackageInts.l17, impl_PackageInts.L17, end_, cond_false]) k s (hk.lt hr) (by omega)
    have t4 : ∀ (X : List Int → Option (List Int)) s, s.length ≤ 1300 → impl_PackageInts.l23 k (o.length : Int) g f r o X k 0 s = X (s ++ o.flatMap oInts) := fun X s hs =>
      loop_app _ oInts 4 (fun _ => rfl) 1400 X o (fun n i x s hx hb => by
        obtain ⟨h1, h2, h3, h4⟩ := at_ hx (by omega)
        simp only [impl_PackageInts.l23, impl_PackageInts.L23, rd_impl_Op, h1, h2, h3, h4, cond_true, oInts]
        rw [cap8 (by simp only [List.length_cons, List.length_nil]; omega)]; rfl) (fun n s => by simp only [impl_PackageInts.l23, impl_PackageInts.L23, end_, cond_false]) k s (hk.lt ho) (by omega)
    have n1 := fm_len gInts 6 (fun _ => rfl) g
    have n2 := fm_len fInts 2 (fun _ => rfl) f
    have n3 := fm_len rInts 7 (fun _ => rfl) r
    rw [Bool.not_true, cond_false, cond_true, t1 _ _ (by simp)]
    rw [cap8 (by simp only [List.length_append, List.length_cons, List.length_nil]; omega), cond_true, t2 _ _ (by simp only [List.length_append, List.length_cons, List.length_nil]; omega)]
    rw [cap8 (by simp only [List.length_append, List.length_cons, List.length_nil]; omega), cond_true, t3 _ _ (by simp only [List.length_append, List.length_cons, List.length_nil]; omega)]
    rw [cap8 (by simp only [List.length_append, List.length_cons, List.length_nil]; omega), cond_true, t4 _ _ (by simp only [List.length_append, List.length_cons, List.length_nil]; omega)]
    rfl
theorem impl_Mod_e (k : Nat) (a : Int) : impl_Mod.f k a 2147483647 = some (a % 2147483647) := by
  unfold impl_Mod.f
  rw [impl_InRange_e, Option.bind_some, show inR 2147483647 1 1000000000000 = true from rfl]
  simp only [Bool.not_true, cond_false, show decide ((2147483647 : Int) = 0) = false from rfl]
  have h0 := tmod31 a
  by_cases h : a.tmod 2147483647 < 0
  · rw [decide_eq_true h, cond_true, w64_id (by omega), tmod31_neg a h]
  · rw [decide_eq_false h, cond_false, tmod31_nn a h]
theorem impl_fold_e (k : Nat) (h v : Int) : impl_fold.f k h v = some (fold1 h v) := by
  unfold impl_fold.f fold1
  rw [impl_Mod_e, Option.bind_some]
theorem impl_KeyedHash_e {k : Nat} (hk : Big k) (key : Int) {l : List Int} (hl : l.length ≤ 1000000) : impl_KeyedHash.f k key l = some (keyed key l) := by
  unfold impl_KeyedHash.f keyed
  rw [impl_fold_e, Option.bind_some]
  have := loop_fold (fun n i s => impl_KeyedHash.l3 k key (l.length : Int) l (fun (y3 : Int) => (impl_fold.f k y3 key).bind fun t4 => some t4) n s i) fold1 (fun _ _ => True) (fun (y3 : Int) => (impl_fold.f k y3 key).bind fun t4 => some t4) l (fun n i x s hx _ => by
    obtain ⟨h1, h2, h3, h4⟩ := at_ hx (by omega)
    simp only [impl_KeyedHash.l3, impl_KeyedHash.L3, rd_i64, h1, h2, h3, h4, cond_true, impl_fold_e, Option.bind_some]) (fun _ _ _ _ _ => trivial)
    (fun n s _ => by simp only [impl_KeyedHash.l3, impl_KeyedHash.L3, end_, cond_false]) k (fold1 11 key) (by have := hk.out; omega) trivial
  rw [this, impl_fold_e, Option.bind_some]
  simp
theorem impl_sealOf_e {k : Nat} (hk : Big k) (key a b c : Int) {g : List T_impl_Grant} {f : List T_impl_Flow} {r : List T_impl_Rule} {o : List T_impl_Op} (d : Int) (hg : Ok g) (hf : Ok f) (hr : Ok r) (ho : Ok o) :
    impl_sealOf.f k key a b c g f r o d = some (sealV key a b c g f r o) := by
  unfold impl_sealOf.f sealV
  simp only [impl_IsValidKey_e, impl_IsPackage_e hk a b c d hg hf hr ho, impl_PackageInts_e hk a b c d hg hf hr ho, Option.bind_some]
  cases inR key 1 2147483646 with
  | false => rfl
  | true =>
    cases hp : isPk a b c g f r o with
    | false => rfl
    | true =>
      simp only [Bool.not_true, cond_false, cond_true, Bool.true_and, impl_KeyedHash_e hk key (pkInts_len hp), Option.bind_some]
theorem impl_SealPackage_e {k : Nat} (hk : Big k) (key a b c : Int) {g : List T_impl_Grant} {f : List T_impl_Flow} {r : List T_impl_Rule} {o : List T_impl_Op} (d : Int) (hg : Ok g) (hf : Ok f) (hr : Ok r) (ho : Ok o) :
    impl_SealPackage.f k key a b c g f r o d = some (a, b, c, sealV key a b c g f r o, g, f, r, o) := by
  unfold impl_SealPackage.f
  rw [impl_clonePackage_e k a b c d hg hf hr ho, Option.bind_some, impl_sealOf_e hk key a b c d hg hf hr ho, Option.bind_some]
theorem impl_IsSealed_e {k : Nat} (hk : Big k) (key a b c : Int) {g : List T_impl_Grant} {f : List T_impl_Flow} {r : List T_impl_Rule} {o : List T_impl_Op} (d : Int) (hg : Ok g) (hf : Ok f) (hr : Ok r) (ho : Ok o) :
    impl_IsSealed.f k key a b c g f r o d = some (isPk a b c g f r o && (inR key 1 2147483646 && (sealV key a b c g f r o == d))) := by
  unfold impl_IsSealed.f
  simp only [impl_sealOf_e hk key a b c d hg hf hr ho, impl_IsValidKey_e, impl_IsPackage_e hk a b c d hg hf hr ho, Option.bind_some]
  cases isPk a b c g f r o <;> cases inR key 1 2147483646 <;> try rfl
  simp only [cond_true, Bool.true_and]
  rw [Bool.beq_comm]
theorem impl_deedSeal_e {k : Nat} (hk : Big k) (key w a b c s t : Int) : impl_deedSeal.f k key w a b c s t = some (deedSealV key w a b c) := by
  unfold impl_deedSeal.f deedSealV
  simp only [impl_IsValidKey_e, impl_KeyedHash_e hk key (l := [w, a, b, c]) (by simp), Option.bind_some]
  generalize inR key 1 2147483646 = p1, keyed key [w, a, b, c] = q1
  cases p1 <;> rfl
theorem impl_SealDeed_e {k : Nat} (hk : Big k) (a b c s t k1 k2 : Int) : impl_SealDeed.f k a b c s t k1 k2 = some (a, b, c, deedSealV k1 1 a b c, deedSealV k2 2 a b c) := by
  unfold impl_SealDeed.f
  simp only [impl_deedSeal_e hk, Option.bind_some]
theorem impl_IsDeed_e {k : Nat} (hk : Big k) (a b c s t k1 k2 : Int) : impl_IsDeed.f k a b c s t k1 k2 = some (isDeedV a b c s t k1 k2) := by
  unfold impl_IsDeed.f isDeedV
  simp only [impl_InRange_e, impl_IsValidKey_e, impl_SealDeed_e hk, Option.bind_some, beq_self_eq_true, Bool.true_and]
  rw [Bool.beq_comm (a := s), Bool.beq_comm (a := t)]
  generalize (deedSealV k1 1 a b c == s) = p1, (deedSealV k2 2 a b c == t) = p2, inR a 1 5 = p3, inR b 1 9 = p4, inR c 1 9 = p5, (b != c) = p6, inR k1 1 2147483646 = p7, inR k2 1 2147483646 = p8
  revert p1 p2 p3 p4 p5 p6 p7 p8; decide
theorem impl_Transfer_e {k : Nat} (hk : Big k) (key a b c : Int) {g : List T_impl_Grant} {f : List T_impl_Flow} {r : List T_impl_Rule} {o : List T_impl_Op} (d e1 e2 e3 e4 e5 k1 k2 : Int) (hg : Ok g) (hf : Ok f) (hr : Ok r) (ho : Ok o) :
    impl_Transfer.f k key a b c g f r o d e1 e2 e3 e4 e5 k1 k2 = some (bif mayMove key a b c g f r o d e1 e2 e3 e4 e5 k1 k2 then (a, e3, c, sealV key a e3 c g f r o, true, g, f, r, o) else (a, b, c, d, false, g, f, r, o)) := by
  unfold impl_Transfer.f mayMove
  simp only [impl_clonePackage_e k a b c d hg hf hr ho, impl_IsSealed_e hk key a b c d hg hf hr ho, impl_IsDeed_e hk, impl_SealPackage_e hk key a e3 c d hg hf hr ho, Option.bind_some, bne]
  generalize (isPk a b c g f r o && (inR key 1 2147483646 && (sealV key a b c g f r o == d))) = p1, isDeedV e1 e2 e3 e4 e5 k1 k2 = p2, (a == e1) = p3, (b == e2) = p4, sealV key a e3 c g f r o = sv
  cases p1 <;> cases p2 <;> cases p3 <;> cases p4 <;> rfl
theorem laws_szGrantS_e (k : Nat) {l : List T_laws_Grant} {n : Int} (hl : l.length ≤ maxLen) (hn : 0 ≤ n ∧ n ≤ 1048576) : laws_szGrantS.f k l n = some (bif decide (n - (l.length : Int) < 0) then -1 else n - (l.length : Int)) := by
  have h2 : l.length ≤ 9223372036854775807 := hl
  unfold laws_szGrantS.f
  rw [w64_id (by omega)]
  cases decide (n - (l.length : Int) < 0) <;> rfl
theorem laws_szFlowS_e (k : Nat) {l : List T_laws_Flow} {n : Int} (hl : l.length ≤ maxLen) (hn : 0 ≤ n ∧ n ≤ 1048576) : laws_szFlowS.f k l n = some (bif decide (n - (l.length : Int) < 0) then -1 else n - (l.length : Int)) := by
  have h2 : l.length ≤ 9223372036854775807 := hl
  unfold laws_szFlowS.f
  rw [w64_id (by omega)]
  cases decide (n - (l.length : Int) < 0) <;> rfl
theorem laws_szRuleS_e (k : Nat) {l : List T_laws_Rule} {n : Int} (hl : l.length ≤ maxLen) (hn : 0 ≤ n ∧ n ≤ 1048576) : laws_szRuleS.f k l n = some (bif decide (n - (l.length : Int) < 0) then -1 else n - (l.length : Int)) := by
  have h2 : l.length ≤ 9223372036854775807 := hl
  unfold laws_szRuleS.f
  rw [w64_id (by omega)]
  cases decide (n - (l.length : Int) < 0) <;> rfl
theorem laws_szOpS_e (k : Nat) {l : List T_laws_Op} {n : Int} (hl : l.length ≤ maxLen) (hn : 0 ≤ n ∧ n ≤ 1048576) : laws_szOpS.f k l n = some (bif decide (n - (l.length : Int) < 0) then -1 else n - (l.length : Int)) := by
  have h2 : l.length ≤ 9223372036854775807 := hl
  unfold laws_szOpS.f
  rw [w64_id (by omega)]
  cases decide (n - (l.length : Int) < 0) <;> rfl
theorem laws_szPackage_e (k : Nat) (a b c d : Int) {g : List T_laws_Grant} {f : List T_laws_Flow} {r : List T_laws_Rule} {o : List T_laws_Op} {n : Int} (hg : g.length ≤ maxLen) (hf : f.length ≤ maxLen) (hr : r.length ≤ maxLen) (ho : o.length ≤ maxLen) (hn : 0 ≤ n ∧ n ≤ 1048576) :
    ∃ t, laws_szPackage.f k a b c g f r o d n = some t ∧ t ≤ 1048576 ∧ (0 ≤ t → Ok g ∧ Ok f ∧ Ok r ∧ Ok o) := by
  unfold laws_szPackage.f
  rw [laws_szGrantS_e k hg hn, Option.bind_some]
  by_cases h1 : n - (g.length : Int) < 0
  · rw [decide_eq_true h1]; exact ⟨-1, rfl, by omega, fun h => by omega⟩
  rw [decide_eq_false h1, cond_false, decide_eq_false h1, cond_false, laws_szFlowS_e k hf (by omega), Option.bind_some]
  by_cases h2 : n - (g.length : Int) - (f.length : Int) < 0
  · rw [decide_eq_true h2]; exact ⟨-1, rfl, by omega, fun h => by omega⟩
  rw [decide_eq_false h2, cond_false, decide_eq_false h2, cond_false, laws_szRuleS_e k hr (by omega), Option.bind_some]
  by_cases h3 : n - (g.length : Int) - (f.length : Int) - (r.length : Int) < 0
  · rw [decide_eq_true h3]; exact ⟨-1, rfl, by omega, fun h => by omega⟩
  rw [decide_eq_false h3, cond_false, decide_eq_false h3, cond_false, laws_szOpS_e k ho (by omega), Option.bind_some]
  by_cases h4 : n - (g.length : Int) - (f.length : Int) - (r.length : Int) - (o.length : Int) < 0
  · rw [decide_eq_true h4]; exact ⟨-1, rfl, by omega, fun h => by omega⟩
  rw [decide_eq_false h4, cond_false, decide_eq_false h4, cond_false]
  exact ⟨_, rfl, by omega, fun _ => ⟨by unfold Ok; omega, by unfold Ok; omega, by unfold Ok; omega, by unfold Ok; omega⟩⟩
def toGrant (x : T_laws_Grant) : T_impl_Grant := ⟨x.f0, ⟨x.f1.f0, x.f1.f1⟩, x.f2, x.f3, x.f4, x.f5⟩
theorem laws_toGrantS_e {k : Nat} (hk : Big k) {l : List T_laws_Grant} (hl : Ok l) : laws_toGrantS.f k l = some (l.map toGrant) := by
  have hl' := hl.out
  unfold laws_toGrantS.f
  rw [nn_, cond_true, decide_eq_true (by unfold cap48; simp; omega), cond_true]
  refine loop_map (laws_toGrantS.l3 k l (fun y => some y)) toGrant (fun y => some y) l (fun n i x ys hx hy => ?_) (fun n ys hy => ?_) k _ (hk.lt hl) (by simp)
  · obtain ⟨h1, h2, h3, h4⟩ := at_ hx (by omega)
    have h5 : decide ((i : Int) < (ys.length : Int)) = true := by rw [hy]; exact h1
    simp only [laws_toGrantS.l3, laws_toGrantS.L3, rd_laws_Grant, h1, h2, h3, h4, h5, cond_true, laws_toGrant.f, laws_toPattern.f, Option.bind_some, toGrant]
    rfl
  · simp only [laws_toGrantS.l3, laws_toGrantS.L3, end_, cond_false]
def toFlow (x : T_laws_Flow) : T_impl_Flow := ⟨x.f0, x.f1, x.f2⟩
theorem laws_toFlowS_e {k : Nat} (hk : Big k) {l : List T_laws_Flow} (hl : Ok l) : laws_toFlowS.f k l = some (l.map toFlow) := by
  have hl' := hl.out
  unfold laws_toFlowS.f
  rw [nn_, cond_true, decide_eq_true (by unfold cap48; simp; omega), cond_true]
  refine loop_map (laws_toFlowS.l3 k l (fun y => some y)) toFlow (fun y => some y) l (fun n i x ys hx hy => ?_) (fun n ys hy => ?_) k _ (hk.lt hl) (by simp)
  · obtain ⟨h1, h2, h3, h4⟩ := at_ hx (by omega)
    have h5 : decide ((i : Int) < (ys.length : Int)) = true := by rw [hy]; exact h1
    simp only [laws_toFlowS.l3, laws_toFlowS.L3, rd_laws_Flow, h1, h2, h3, h4, h5, cond_true, laws_toFlow.f, Option.bind_some, toFlow]
    rfl
  · simp only [laws_toFlowS.l3, laws_toFlowS.L3, end_, cond_false]
def toRule (x : T_laws_Rule) : T_impl_Rule := ⟨x.f0, x.f1, ⟨x.f2.f0, x.f2.f1⟩, x.f3, x.f4, ⟨x.f5.f0, x.f5.f1⟩⟩
theorem laws_toRuleS_e {k : Nat} (hk : Big k) {l : List T_laws_Rule} (hl : Ok l) : laws_toRuleS.f k l = some (l.map toRule) := by
  have hl' := hl.out
  unfold laws_toRuleS.f
  rw [nn_, cond_true, decide_eq_true (by unfold cap48; simp; omega), cond_true]
  refine loop_map (laws_toRuleS.l3 k l (fun y => some y)) toRule (fun y => some y) l (fun n i x ys hx hy => ?_) (fun n ys hy => ?_) k _ (hk.lt hl) (by simp)
  · obtain ⟨h1, h2, h3, h4⟩ := at_ hx (by omega)
    have h5 : decide ((i : Int) < (ys.length : Int)) = true := by rw [hy]; exact h1
    simp only [laws_toRuleS.l3, laws_toRuleS.L3, rd_laws_Rule, h1, h2, h3, h4, h5, cond_true, laws_toRule.f, laws_toPattern.f, laws_toSite.f, Option.bind_some, toRule]
    rfl
  · simp only [laws_toRuleS.l3, laws_toRuleS.L3, end_, cond_false]
def toOp (x : T_laws_Op) : T_impl_Op := ⟨x.f0, x.f1, x.f2, x.f3⟩
theorem laws_toOpS_e {k : Nat} (hk : Big k) {l : List T_laws_Op} (hl : Ok l) : laws_toOpS.f k l = some (l.map toOp) := by
  have hl' := hl.out
  unfold laws_toOpS.f
  rw [nn_, cond_true, decide_eq_true (by unfold cap48; simp; omega), cond_true]
  refine loop_map (laws_toOpS.l3 k l (fun y => some y)) toOp (fun y => some y) l (fun n i x ys hx hy => ?_) (fun n ys hy => ?_) k _ (hk.lt hl) (by simp)
  · obtain ⟨h1, h2, h3, h4⟩ := at_ hx (by omega)
    have h5 : decide ((i : Int) < (ys.length : Int)) = true := by rw [hy]; exact h1
    simp only [laws_toOpS.l3, laws_toOpS.L3, rd_laws_Op, h1, h2, h3, h4, h5, cond_true, laws_toOp.f, Option.bind_some, toOp]
    rfl
  · simp only [laws_toOpS.l3, laws_toOpS.L3, end_, cond_false]
theorem laws_toPackage_e {k : Nat} (hk : Big k) (a b c d : Int) {g : List T_laws_Grant} {f : List T_laws_Flow} {r : List T_laws_Rule} {o : List T_laws_Op} (hg : Ok g) (hf : Ok f) (hr : Ok r) (ho : Ok o) :
    laws_toPackage.f k a b c g f r o d = some (a, b, c, d, g.map toGrant, f.map toFlow, r.map toRule, o.map toOp) := by
  unfold laws_toPackage.f
  rw [laws_toGrantS_e hk hg, Option.bind_some, laws_toFlowS_e hk hf, Option.bind_some, laws_toRuleS_e hk hr, Option.bind_some, laws_toOpS_e hk ho, Option.bind_some]
theorem laws_eqGrant_refl (k : Nat) (x : T_impl_Grant) : laws_eqGrant.f k x.f0 x.f1.f0 x.f1.f1 x.f2 x.f3 x.f4 x.f5 x.f0 x.f1.f0 x.f1.f1 x.f2 x.f3 x.f4 x.f5 = some true := by
  simp [laws_eqGrant.f, laws_eqPattern.f, Option.bind_some]
theorem laws_eqGrantS_refl {k : Nat} (hk : Big k) {l : List T_impl_Grant} (hl : Ok l) : laws_eqGrantS.f k l l = some true := by
  have hl' := hl.out
  unfold laws_eqGrantS.f
  rw [show ((l.length : Int) != (l.length : Int)) = false from by simp, cond_false]
  rw [loop_all (laws_eqGrantS.l4 k l l (fun y => some y) (fun _ => some true)) (fun _ => true) (some true) (some false) l (fun n i x hx => by
    obtain ⟨h1, h2, h3, h4⟩ := at_ hx (by omega)
    simp only [laws_eqGrantS.l4, laws_eqGrantS.L4, rd_impl_Grant, h1, h2, h3, h4, cond_true, laws_eqGrant_refl, Option.bind_some]
    rfl) (fun n => by simp only [laws_eqGrantS.l4, laws_eqGrantS.L4, end_, cond_false]) k (hk.lt hl), List.all_eq_true.2 (fun _ _ => rfl)]
  rfl
theorem laws_eqFlow_refl (k : Nat) (x : T_impl_Flow) : laws_eqFlow.f k x.f0 x.f1 x.f2 x.f0 x.f1 x.f2 = some true := by
  simp [laws_eqFlow.f, Option.bind_some]
theorem laws_eqFlowS_refl {k : Nat} (hk : Big k) {l : List T_impl_Flow} (hl : Ok l) : laws_eqFlowS.f k l l = some true := by
  have hl' := hl.out
  unfold laws_eqFlowS.f
  rw [show ((l.length : Int) != (l.length : Int)) = false from by simp, cond_false]
  rw [loop_all (laws_eqFlowS.l4 k l l (fun y => some y) (fun _ => some true)) (fun _ => true) (some true) (some false) l (fun n i x hx => by
    obtain ⟨h1, h2, h3, h4⟩ := at_ hx (by omega)
    simp only [laws_eqFlowS.l4, laws_eqFlowS.L4, rd_impl_Flow, h1, h2, h3, h4, cond_true, laws_eqFlow_refl, Option.bind_some]
    rfl) (fun n => by simp only [laws_eqFlowS.l4, laws_eqFlowS.L4, end_, cond_false]) k (hk.lt hl), List.all_eq_true.2 (fun _ _ => rfl)]
  rfl
theorem laws_eqRule_refl (k : Nat) (x : T_impl_Rule) : laws_eqRule.f k x.f0 x.f1 x.f2.f0 x.f2.f1 x.f3 x.f4 x.f5.f0 x.f5.f1 x.f0 x.f1 x.f2.f0 x.f2.f1 x.f3 x.f4 x.f5.f0 x.f5.f1 = some true := by
  simp [laws_eqRule.f, laws_eqPattern.f, laws_eqSite.f, Option.bind_some]
theorem laws_eqRuleS_refl {k : Nat} (hk : Big k) {l : List T_impl_Rule} (hl : Ok l) : laws_eqRuleS.f k l l = some true := by
  have hl' := hl.out
  unfold laws_eqRuleS.f
  rw [show ((l.length : Int) != (l.length : Int)) = false from by simp, cond_false]
  rw [loop_all (laws_eqRuleS.l4 k l l (fun y => some y) (fun _ => some true)) (fun _ => true) (some true) (some false) l (fun n i x hx => by
    obtain ⟨h1, h2, h3, h4⟩ := at_ hx (by omega)
    simp only [laws_eqRuleS.l4, laws_eqRuleS.L4, rd_impl_Rule, h1, h2, h3, h4, cond_true, laws_eqRule_refl, Option.bind_some]
    rfl) (fun n => by simp only [laws_eqRuleS.l4, laws_eqRuleS.L4, end_, cond_false]) k (hk.lt hl), List.all_eq_true.2 (fun _ _ => rfl)]
  rfl
theorem laws_eqOp_refl (k : Nat) (x : T_impl_Op) : laws_eqOp.f k x.f0 x.f1 x.f2 x.f3 x.f0 x.f1 x.f2 x.f3 = some true := by
  simp [laws_eqOp.f, Option.bind_some]
theorem laws_eqOpS_refl {k : Nat} (hk : Big k) {l : List T_impl_Op} (hl : Ok l) : laws_eqOpS.f k l l = some true := by
  have hl' := hl.out
  unfold laws_eqOpS.f
  rw [show ((l.length : Int) != (l.length : Int)) = false from by simp, cond_false]
  rw [loop_all (laws_eqOpS.l4 k l l (fun y => some y) (fun _ => some true)) (fun _ => true) (some true) (some false) l (fun n i x hx => by
    obtain ⟨h1, h2, h3, h4⟩ := at_ hx (by omega)
    simp only [laws_eqOpS.l4, laws_eqOpS.L4, rd_impl_Op, h1, h2, h3, h4, cond_true, laws_eqOp_refl, Option.bind_some]
    rfl) (fun n => by simp only [laws_eqOpS.l4, laws_eqOpS.L4, end_, cond_false]) k (hk.lt hl), List.all_eq_true.2 (fun _ _ => rfl)]
  rfl
theorem laws_eqPackage_refl {k : Nat} (hk : Big k) (a b c d : Int) {g : List T_impl_Grant} {f : List T_impl_Flow} {r : List T_impl_Rule} {o : List T_impl_Op} (hg : Ok g) (hf : Ok f) (hr : Ok r) (ho : Ok o) :
    laws_eqPackage.f k a b c g f r o d a b c g f r o d = some true := by
  unfold laws_eqPackage.f
  simp [laws_eqGrantS_refl hk hg, laws_eqFlowS_refl hk hf, laws_eqRuleS_refl hk hr, laws_eqOpS_refl hk ho]
def mGrant (n : Int) : T_impl_Grant := ⟨(n), ⟨(n + 1), (n + 1 + 1)⟩, (n + 1 + 1 + 1), (n + 1 + 1 + 1 + 1), (n + 1 + 1 + 1 + 1 + 1), ((n + 1 + 1 + 1 + 1 + 1 + 1).tmod 3 == 0)⟩
theorem laws_markGrantS_e {k : Nat} (hk : Big k) {l : List T_impl_Grant} (hl : Ok l) {n : Int} (h0 : 0 ≤ n) (hb : n ≤ 900000000000) : laws_markGrantS.f k l n = some (n + 7 * l.length, marks mGrant 7 n l.length) := by
  have hl' := hl.out
  unfold laws_markGrantS.f
  refine loop_mark (laws_markGrantS.l2 k (fun y z => some (y, z))) mGrant 7 (fun y z => some (y, z)) (fun q n i ys h0 hb hi hl => ?_) (fun q n ys => ?_) k n l h0 (by omega) hl' (hk.lt hl)
  · have h1 : decide ((i : Int) < (ys.length : Int)) = true := decide_eq_true (by omega)
    have h2 : decide ((0 : Int) ≤ (i : Int)) = true := decide_eq_true (by omega)
    have h3 : w64 ((i : Int) + 1) = ((i + 1 : Nat) : Int) := by rw [w64_id (by omega)]; omega
    have e0 : w64 (n + 1) = n + 1 := w64_s (by omega) (by omega)
    have e1 : w64 (n + 1 + 1) = n + 1 + 1 := w64_s (by omega) (by omega)
    have e2 : w64 (n + 1 + 1 + 1) = n + 1 + 1 + 1 := w64_s (by omega) (by omega)
    have e3 : w64 (n + 1 + 1 + 1 + 1) = n + 1 + 1 + 1 + 1 := w64_s (by omega) (by omega)
    have e4 : w64 (n + 1 + 1 + 1 + 1 + 1) = n + 1 + 1 + 1 + 1 + 1 := w64_s (by omega) (by omega)
    have e5 : w64 (n + 1 + 1 + 1 + 1 + 1 + 1) = n + 1 + 1 + 1 + 1 + 1 + 1 := w64_s (by omega) (by omega)
    have e6 : w64 (n + 1 + 1 + 1 + 1 + 1 + 1 + 1) = n + 1 + 1 + 1 + 1 + 1 + 1 + 1 := w64_s (by omega) (by omega)
    have ec : n + 1 + 1 + 1 + 1 + 1 + 1 + 1 = n + (7 : Nat) := by omega
    simp only [laws_markGrantS.l2, laws_markGrantS.L2, rd_impl_Grant, h1, h2, h3, e0, e1, e2, e3, e4, e5, e6, cond_true, toNat_c, List.length_set, List.set_set]
    simp only [toNat_c, List.getD_eq_getElem?_getD, List.getElem?_set_self hi, Option.getD_some, ec]
    try rfl
  · simp only [laws_markGrantS.l2, laws_markGrantS.L2, end_, cond_false]
def mFlow (n : Int) : T_impl_Flow := ⟨(n), (n + 1), (n + 1 + 1)⟩
theorem laws_markFlowS_e {k : Nat} (hk : Big k) {l : List T_impl_Flow} (hl : Ok l) {n : Int} (h0 : 0 ≤ n) (hb : n ≤ 900000000000) : laws_markFlowS.f k l n = some (n + 3 * l.length, marks mFlow 3 n l.length) := by
  have hl' := hl.out
  unfold laws_markFlowS.f
  refine loop_mark (laws_markFlowS.l2 k (fun y z => some (y, z))) mFlow 3 (fun y z => some (y, z)) (fun q n i ys h0 hb hi hl => ?_) (fun q n ys => ?_) k n l h0 (by omega) hl' (hk.lt hl)
  · have h1 : decide ((i : Int) < (ys.length : Int)) = true := decide_eq_true (by omega)
    have h2 : decide ((0 : Int) ≤ (i : Int)) = true := decide_eq_true (by omega)
    have h3 : w64 ((i : Int) + 1) = ((i + 1 : Nat) : Int) := by rw [w64_id (by omega)]; omega
    have e0 : w64 (n + 1) = n + 1 := w64_s (by omega) (by omega)
    have e1 : w64 (n + 1 + 1) = n + 1 + 1 := w64_s (by omega) (by omega)
    have e2 : w64 (n + 1 + 1 + 1) = n + 1 + 1 + 1 := w64_s (by omega) (by omega)
    have ec : n + 1 + 1 + 1 = n + (3 : Nat) := by omega
    simp only [laws_markFlowS.l2, laws_markFlowS.L2, rd_impl_Flow, h1, h2, h3, e0, e1, e2, cond_true, toNat_c, List.length_set, List.set_set]
    simp only [toNat_c, List.getD_eq_getElem?_getD, List.getElem?_set_self hi, Option.getD_some, ec]
    try rfl
  · simp only [laws_markFlowS.l2, laws_markFlowS.L2, end_, cond_false]
def mRule (n : Int) : T_impl_Rule := ⟨(n), (n + 1), ⟨(n + 1 + 1), (n + 1 + 1 + 1)⟩, (n + 1 + 1 + 1 + 1), (n + 1 + 1 + 1 + 1 + 1), ⟨(n + 1 + 1 + 1 + 1 + 1 + 1), (n + 1 + 1 + 1 + 1 + 1 + 1 + 1)⟩⟩
theorem laws_markRuleS_e {k : Nat} (hk : Big k) {l : List T_impl_Rule} (hl : Ok l) {n : Int} (h0 : 0 ≤ n) (hb : n ≤ 900000000000) : laws_markRuleS.f k l n = some (n + 8 * l.length, marks mRule 8 n l.length) := by
  have hl' := hl.out
  unfold laws_markRuleS.f
  refine loop_mark (laws_markRuleS.l2 k (fun y z => some (y, z))) mRule 8 (fun y z => some (y, z)) (fun q n i ys h0 hb hi hl => ?_) (fun q n ys => ?_) k n l h0 (by omega) hl' (hk.lt hl)
  · have h1 : decide ((i : Int) < (ys.length : Int)) = true := decide_eq_true (by omega)
    have h2 : decide ((0 : Int) ≤ (i : Int)) = true := decide_eq_true (by omega)
    have h3 : w64 ((i : Int) + 1) = ((i + 1 : Nat) : Int) := by rw [w64_id (by omega)]; omega
    have e0 : w64 (n + 1) = n + 1 := w64_s (by omega) (by omega)
    have e1 : w64 (n + 1 + 1) = n + 1 + 1 := w64_s (by omega) (by omega)
    have e2 : w64 (n + 1 + 1 + 1) = n + 1 + 1 + 1 := w64_s (by omega) (by omega)
    have e3 : w64 (n + 1 + 1 + 1 + 1) = n + 1 + 1 + 1 + 1 := w64_s (by omega) (by omega)
    have e4 : w64 (n + 1 + 1 + 1 + 1 + 1) = n + 1 + 1 + 1 + 1 + 1 := w64_s (by omega) (by omega)
    have e5 : w64 (n + 1 + 1 + 1 + 1 + 1 + 1) = n + 1 + 1 + 1 + 1 + 1 + 1 := w64_s (by omega) (by omega)
    have e6 : w64 (n + 1 + 1 + 1 + 1 + 1 + 1 + 1) = n + 1 + 1 + 1 + 1 + 1 + 1 + 1 := w64_s (by omega) (by omega)
    have e7 : w64 (n + 1 + 1 + 1 + 1 + 1 + 1 + 1 + 1) = n + 1 + 1 + 1 + 1 + 1 + 1 + 1 + 1 := w64_s (by omega) (by omega)
    have ec : n + 1 + 1 + 1 + 1 + 1 + 1 + 1 + 1 = n + (8 : Nat) := by omega
    simp only [laws_markRuleS.l2, laws_markRuleS.L2, rd_impl_Rule, h1, h2, h3, e0, e1, e2, e3, e4, e5, e6, e7, cond_true, toNat_c, List.length_set, List.set_set]
    simp only [toNat_c, List.getD_eq_getElem?_getD, List.getElem?_set_self hi, Option.getD_some, ec]
    try rfl
  · simp only [laws_markRuleS.l2, laws_markRuleS.L2, end_, cond_false]
def mOp (n : Int) : T_impl_Op := ⟨(n), (n + 1), (n + 1 + 1), (n + 1 + 1 + 1)⟩
theorem laws_markOpS_e {k : Nat} (hk : Big k) {l : List T_impl_Op} (hl : Ok l) {n : Int} (h0 : 0 ≤ n) (hb : n ≤ 900000000000) : laws_markOpS.f k l n = some (n + 4 * l.length, marks mOp 4 n l.length) := by
  have hl' := hl.out
  unfold laws_markOpS.f
  refine loop_mark (laws_markOpS.l2 k (fun y z => some (y, z))) mOp 4 (fun y z => some (y, z)) (fun q n i ys h0 hb hi hl => ?_) (fun q n ys => ?_) k n l h0 (by omega) hl' (hk.lt hl)
  · have h1 : decide ((i : Int) < (ys.length : Int)) = true := decide_eq_true (by omega)
    have h2 : decide ((0 : Int) ≤ (i : Int)) = true := decide_eq_true (by omega)
    have h3 : w64 ((i : Int) + 1) = ((i + 1 : Nat) : Int) := by rw [w64_id (by omega)]; omega
    have e0 : w64 (n + 1) = n + 1 := w64_s (by omega) (by omega)
    have e1 : w64 (n + 1 + 1) = n + 1 + 1 := w64_s (by omega) (by omega)
    have e2 : w64 (n + 1 + 1 + 1) = n + 1 + 1 + 1 := w64_s (by omega) (by omega)
    have e3 : w64 (n + 1 + 1 + 1 + 1) = n + 1 + 1 + 1 + 1 := w64_s (by omega) (by omega)
    have ec : n + 1 + 1 + 1 + 1 = n + (4 : Nat) := by omega
    simp only [laws_markOpS.l2, laws_markOpS.L2, rd_impl_Op, h1, h2, h3, e0, e1, e2, e3, cond_true, toNat_c, List.length_set, List.set_set]
    simp only [toNat_c, List.getD_eq_getElem?_getD, List.getElem?_set_self hi, Option.getD_some, ec]
    try rfl
  · simp only [laws_markOpS.l2, laws_markOpS.L2, end_, cond_false]
theorem laws_heldGrantS_e {k : Nat} (hk : Big k) {j : Nat} (hj : j ≤ 1048576) {n : Int} (h0 : 0 ≤ n) (hb : n ≤ 900000000000) : laws_heldGrantS.f k (marks mGrant 7 n j) n = some (n + 7 * j) := by
  unfold laws_heldGrantS.f
  have hkk := hk.out
  refine loop_held (laws_heldGrantS.l2 k (marks mGrant 7 n j) (fun _ y => some y) (fun y => some y)) mGrant 7 (fun y => some y) _ (fun q n i h0 hb hi => ?_) (fun q n => ?_) k n j rfl h0 (by omega) (by omega)
  · obtain ⟨h1, h2, h3, h4⟩ := at_ hi (by rw [marks_len]; omega)
    have e0 : w64 (n + 1) = n + 1 := w64_s (by omega) (by omega)
    have e1 : w64 (n + 1 + 1) = n + 1 + 1 := w64_s (by omega) (by omega)
    have e2 : w64 (n + 1 + 1 + 1) = n + 1 + 1 + 1 := w64_s (by omega) (by omega)
    have e3 : w64 (n + 1 + 1 + 1 + 1) = n + 1 + 1 + 1 + 1 := w64_s (by omega) (by omega)
    have e4 : w64 (n + 1 + 1 + 1 + 1 + 1) = n + 1 + 1 + 1 + 1 + 1 := w64_s (by omega) (by omega)
    have e5 : w64 (n + 1 + 1 + 1 + 1 + 1 + 1) = n + 1 + 1 + 1 + 1 + 1 + 1 := w64_s (by omega) (by omega)
    have e6 : w64 (n + 1 + 1 + 1 + 1 + 1 + 1 + 1) = n + 1 + 1 + 1 + 1 + 1 + 1 + 1 := w64_s (by omega) (by omega)
    have ec : n + 1 + 1 + 1 + 1 + 1 + 1 + 1 = n + (7 : Nat) := by omega
    simp only [laws_heldGrantS.l2, laws_heldGrantS.L2, rd_impl_Grant, h1, h2, h3, h4, e0, e1, e2, e3, e4, e5, e6, cond_true, mGrant, bne_self_eq_false, beq_self_eq_true, Bool.not_true, cond_false]
    try rw [ec]
    try rfl
  · simp only [laws_heldGrantS.l2, laws_heldGrantS.L2, end_, cond_false]
theorem laws_heldFlowS_e {k : Nat} (hk : Big k) {j : Nat} (hj : j ≤ 1048576) {n : Int} (h0 : 0 ≤ n) (hb : n ≤ 900000000000) : laws_heldFlowS.f k (marks mFlow 3 n j) n = some (n + 3 * j) := by
  unfold laws_heldFlowS.f
  have hkk := hk.out
  refine loop_held (laws_heldFlowS.l2 k (marks mFlow 3 n j) (fun _ y => some y) (fun y => some y)) mFlow 3 (fun y => some y) _ (fun q n i h0 hb hi => ?_) (fun q n => ?_) k n j rfl h0 (by omega) (by omega)
  · obtain ⟨h1, h2, h3, h4⟩ := at_ hi (by rw [marks_len]; omega)
    have e0 : w64 (n + 1) = n + 1 := w64_s (by omega) (by omega)
    have e1 : w64 (n + 1 + 1) = n + 1 + 1 := w64_s (by omega) (by omega)
    have e2 : w64 (n + 1 + 1 + 1) = n + 1 + 1 + 1 := w64_s (by omega) (by omega)
    have ec : n + 1 + 1 + 1 = n + (3 : Nat) := by omega
    simp only [laws_heldFlowS.l2, laws_heldFlowS.L2, rd_impl_Flow, h1, h2, h3, h4, e0, e1, e2, cond_true, mFlow, bne_self_eq_false, beq_self_eq_true, Bool.not_true, cond_false]
    try rw [ec]
    try rfl
  · simp only [laws_heldFlowS.l2, laws_heldFlowS.L2, end_, cond_false]
theorem laws_heldRuleS_e {k : Nat} (hk : Big k) {j : Nat} (hj : j ≤ 1048576) {n : Int} (h0 : 0 ≤ n) (hb : n ≤ 900000000000) : laws_heldRuleS.f k (marks mRule 8 n j) n = some (n + 8 * j) := by
  unfold laws_heldRuleS.f
  have hkk := hk.out
  refine loop_held (laws_heldRuleS.l2 k (marks mRule 8 n j) (fun _ y => some y) (fun y => some y)) mRule 8 (fun y => some y) _ (fun q n i h0 hb hi => ?_) (fun q n => ?_) k n j rfl h0 (by omega) (by omega)
  · obtain ⟨h1, h2, h3, h4⟩ := at_ hi (by rw [marks_len]; omega)
    have e0 : w64 (n + 1) = n + 1 := w64_s (by omega) (by omega)
    have e1 : w64 (n + 1 + 1) = n + 1 + 1 := w64_s (by omega) (by omega)
    have e2 : w64 (n + 1 + 1 + 1) = n + 1 + 1 + 1 := w64_s (by omega) (by omega)
    have e3 : w64 (n + 1 + 1 + 1 + 1) = n + 1 + 1 + 1 + 1 := w64_s (by omega) (by omega)
    have e4 : w64 (n + 1 + 1 + 1 + 1 + 1) = n + 1 + 1 + 1 + 1 + 1 := w64_s (by omega) (by omega)
    have e5 : w64 (n + 1 + 1 + 1 + 1 + 1 + 1) = n + 1 + 1 + 1 + 1 + 1 + 1 := w64_s (by omega) (by omega)
    have e6 : w64 (n + 1 + 1 + 1 + 1 + 1 + 1 + 1) = n + 1 + 1 + 1 + 1 + 1 + 1 + 1 := w64_s (by omega) (by omega)
    have e7 : w64 (n + 1 + 1 + 1 + 1 + 1 + 1 + 1 + 1) = n + 1 + 1 + 1 + 1 + 1 + 1 + 1 + 1 := w64_s (by omega) (by omega)
    have ec : n + 1 + 1 + 1 + 1 + 1 + 1 + 1 + 1 = n + (8 : Nat) := by omega
    simp only [laws_heldRuleS.l2, laws_heldRuleS.L2, rd_impl_Rule, h1, h2, h3, h4, e0, e1, e2, e3, e4, e5, e6, e7, cond_true, mRule, bne_self_eq_false, beq_self_eq_true, Bool.not_true, cond_false]
    try rw [ec]
    try rfl
  · simp only [laws_heldRuleS.l2, laws_heldRuleS.L2, end_, cond_false]
theorem laws_heldOpS_e {k : Nat} (hk : Big k) {j : Nat} (hj : j ≤ 1048576) {n : Int} (h0 : 0 ≤ n) (hb : n ≤ 900000000000) : laws_heldOpS.f k (marks mOp 4 n j) n = some (n + 4 * j) := by
  unfold laws_heldOpS.f
  have hkk := hk.out
  refine loop_held (laws_heldOpS.l2 k (marks mOp 4 n j) (fun _ y => some y) (fun y => some y)) mOp 4 (fun y => some y) _ (fun q n i h0 hb hi => ?_) (fun q n => ?_) k n j rfl h0 (by omega) (by omega)
  · obtain ⟨h1, h2, h3, h4⟩ := at_ hi (by rw [marks_len]; omega)
    have e0 : w64 (n + 1) = n + 1 := w64_s (by omega) (by omega)
    have e1 : w64 (n + 1 + 1) = n + 1 + 1 := w64_s (by omega) (by omega)
    have e2 : w64 (n + 1 + 1 + 1) = n + 1 + 1 + 1 := w64_s (by omega) (by omega)
    have e3 : w64 (n + 1 + 1 + 1 + 1) = n + 1 + 1 + 1 + 1 := w64_s (by omega) (by omega)
    have ec : n + 1 + 1 + 1 + 1 = n + (4 : Nat) := by omega
    simp only [laws_heldOpS.l2, laws_heldOpS.L2, rd_impl_Op, h1, h2, h3, h4, e0, e1, e2, e3, cond_true, mOp, bne_self_eq_false, beq_self_eq_true, Bool.not_true, cond_false]
    try rw [ec]
    try rfl
  · simp only [laws_heldOpS.l2, laws_heldOpS.L2, end_, cond_false]
theorem laws_heldPackage_e {k : Nat} (hk : Big k) (a b c d : Int) {g : List T_impl_Grant} {f : List T_impl_Flow} {r : List T_impl_Rule} {o : List T_impl_Op} (hg : Ok g) (hf : Ok f) (hr : Ok r) (ho : Ok o) {n : Int} (h0 : 0 ≤ n) (hb : n ≤ 100000000000) :
    ∃ t, laws_markPackage.f k a b c g f r o d n = some t ∧ 0 ≤ t.1 ∧ t.1 ≤ n + 100000000 ∧ ∀ a' b' c' d', laws_heldPackage.f k a' b' c' t.2.1 t.2.2.1 t.2.2.2.1 t.2.2.2.2 d' n = some t.1 := by
  have := hg.out; have := hf.out; have := hr.out; have := ho.out
  unfold laws_markPackage.f laws_heldPackage.f
  rw [laws_markGrantS_e hk hg h0 (by omega), Option.bind_some, laws_markFlowS_e hk hf (by simp only; omega) (by simp only; omega), Option.bind_some, laws_markRuleS_e hk hr (by simp only; omega) (by simp only; omega), Option.bind_some, laws_markOpS_e hk ho (by simp only; omega) (by simp only; omega), Option.bind_some]
  refine ⟨_, rfl, by simp only; omega, by simp only; omega, fun a' b' c' d' => ?_⟩
  simp only
  rw [laws_heldGrantS_e hk (by omega) h0 (by omega), Option.bind_some, decide_eq_false (by omega), cond_false, laws_heldFlowS_e hk (by omega) (by omega) (by omega), Option.bind_some, decide_eq_false (by omega), cond_false,
    laws_heldRuleS_e hk (by omega) (by omega) (by omega), Option.bind_some, decide_eq_false (by omega), cond_false, laws_heldOpS_e hk (by omega) (by omega) (by omega), Option.bind_some, decide_eq_false (by omega), cond_false]
theorem FnExactTransfer : ∀ (a0 : Int) (a1_0 : Int) (a1_1 : Int) (a1_2 : Int) (a1_3 : List T_laws_Grant) (a1_4 : List T_laws_Flow) (a1_5 : List T_laws_Rule) (a1_6 : List T_laws_Op) (a1_7 : Int) (a2_0 : Int) (a2_1 : Int) (a2_2 : Int) (a2_3 : Int) (a2_4 : Int) (a3 : Int) (a4 : Int), (Lit.int .i64 a0).wf = true → (Lit.int .i64 a1_0).wf = true → (Lit.int .i64 a1_1).wf = true → (Lit.int .i64 a1_2).wf = true → a1_3.length ≤ maxLen → (∀ x ∈ a1_3, likes (k_laws_Grant.enc k_laws_Grant.zero) (k_laws_Grant.enc x)) → a1_4.length ≤ maxLen → (∀ x ∈ a1_4, likes (k_laws_Flow.enc k_laws_Flow.zero) (k_laws_Flow.enc x)) → a1_5.length ≤ maxLen → (∀ x ∈ a1_5, likes (k_laws_Rule.enc k_laws_Rule.zero) (k_laws_Rule.enc x)) → a1_6.length ≤ maxLen → (∀ x ∈ a1_6, likes (k_laws_Op.enc k_laws_Op.zero) (k_laws_Op.enc x)) → (Lit.int .i64 a1_7).wf = true → (Lit.int .i64 a2_0).wf = true → (Lit.int .i64 a2_1).wf = true → (Lit.int .i64 a2_2).wf = true → (Lit.int .i64 a2_3).wf = true → (Lit.int .i64 a2_4).wf = true → (Lit.int .i64 a3).wf = true → (Lit.int .i64 a4).wf = true → ∃ k, laws_FnExactTransfer.f k a0 a1_0 a1_1 a1_2 a1_3 a1_4 a1_5 a1_6 a1_7 a2_0 a2_1 a2_2 a2_3 a2_4 a3 a4 = some true := by
  intro a0 b0 b1 b2 g f r o b7 e1 e2 e3 e4 e5 k1 k2 w0 v0 v1 v2 hg _ hf _ hr _ ho _ v7 _ _ _ _ _ _ _
  obtain ⟨k, hk⟩ := big_some
  refine ⟨k, ?_⟩
  unfold laws_FnExactTransfer.f
  obtain ⟨t, h1, h2, h3⟩ := laws_szPackage_e k b0 b1 b2 b7 hg hf hr ho (n := 1048576) (by omega)
  rw [h1, Option.bind_some]
  by_cases ht : t < 0
  · rw [decide_eq_true ht]; rfl
  obtain ⟨og, of, or, oo⟩ := h3 (by omega)
  rw [decide_eq_false ht, cond_false]
  simp only [laws_toPackage_e hk b0 b1 b2 b7 og of or oo, laws_toDeed.f, Option.bind_some]
  generalize g.map toGrant = G, f.map toFlow = F, r.map toRule = R, o.map toOp = O, og.map (f := toGrant) = hG, of.map (f := toFlow) = hF, or.map (f := toRule) = hR, oo.map (f := toOp) = hO
  simp only [spec_Transfer_e hk a0 b0 b1 b2 b7 e1 e2 e3 e4 e5 k1 k2 hG hF hR hO, impl_Transfer_e hk a0 b0 b1 b2 b7 e1 e2 e3 e4 e5 k1 k2 hG hF hR hO, Option.bind_some]
  obtain ⟨t9, m1, m2, m3, m4⟩ := laws_heldPackage_e hk b0 b1 b2 b7 hG hF hR hO (n := 1) (by omega) (by omega)
  cases mayMove a0 b0 b1 b2 G F R O b7 e1 e2 e3 e4 e5 k1 k2 with
  | false =>
    simp only [cond_false, laws_eqPackage_refl hk b0 b1 b2 b7 hG hF hR hO, m1, m4, Option.bind_some, decide_eq_false (show ¬ t9.1 < 0 by omega), bne_self_eq_false, beq_self_eq_true]
    rfl
  | true =>
    generalize sealV a0 b0 e3 b2 G F R O = sv
    obtain ⟨t11, q1, q2, q3, q4⟩ := laws_heldPackage_e hk b0 e3 b2 sv hG hF hR hO (n := 1) (by omega) (by omega)
    simp only [cond_true, laws_eqPackage_refl hk b0 b1 b2 b7 hG hF hR hO, laws_eqPackage_refl hk b0 e3 b2 sv hG hF hR hO, m1, q1, q4, Option.bind_some, decide_eq_false (show ¬ t9.1 < 0 by omega), decide_eq_false (show ¬ t11.1 < 0 by omega), bne_self_eq_false, beq_self_eq_true]
    rfl
end Go.Proofs.Ytghflohdmnaopaa.PFnExactTransfer.Pure
