/- The law FnExactIsPackage as a statement over numbers and lists, with its proof; no conditions but the ranges that the values' types and the slices' lengths have. -/
import Derived.Test.YtmpkaooelpbeaaaPFnExactIsPackagex9
namespace Go.Proofs.Ytmpkaooelpbeaaa.Pure
open Go.RowKit Go.Proofs.Ytmpkaooelpbeaaa.PFnExactIsPackage Go.Proofs.YtmpkaooelpbeaaaW.PrintWords Go.Proofs.YtmpkaooelpbeaaaW.PrintLast Go.Proofs.YtmpkaooelpbeaaaW.PrintMore
set_option linter.unusedVariables false
set_option linter.unusedSimpArgs false
/-! ### numbers, lists, rounds -/
theorem wf64 {n : Int} (h : (Lit.int .i64 n).wf = true) : -9223372036854775808 ≤ n ∧ n ≤ 9223372036854775807 := by
  simp [Lit.wf, IntKind.min, IntKind.max, IntKind.bits, IntKind.signed] at h
  omega
theorem wrap_id {n : Int} (h : -9223372036854775808 ≤ n ∧ n ≤ 9223372036854775807) : wrap64 n = n := by
  unfold wrap64
  omega
theorem wrap_nat {n : Nat} (h : n ≤ 1000000000000) : wrap64 ((n : Int) + 1) = ((n + 1 : Nat) : Int) := by
  unfold wrap64
  omega
theorem succ_of {m k : Nat} (h : m < k) : ∃ q, k = q + 1 := ⟨k - 1, by omega⟩
theorem ite_t {p : Prop} [Decidable p] {α : Type} {a b : α} (h : p) : (if p then a else b) = a := if_pos h
theorem ite_f {p : Prop} [Decidable p] {α : Type} {a b : α} (h : ¬ p) : (if p then a else b) = b := if_neg h
theorem bind_of {α β : Type} {x : Option α} {a : α} {f : α → Option β} {r : Option β} (h : x = some a) (h2 : f a = r) : x.bind f = r := by rw [h]; exact h2
theorem getD_mid {α : Type} (pre : List α) (x : α) (suf : List α) (z : α) : (pre ++ x :: suf).getD ((pre.length : Int)).toNat z = x := by
  simp
theorem rd_mid (pre : List Int) (x : Int) (suf : List Int) : rd (pre ++ x :: suf) (pre.length : Int) = x := by
  simp [rd]
theorem set_mid {α : Type} (pre : List α) (x y : α) (suf : List α) : (pre ++ x :: suf).set ((pre.length : Int)).toNat y = pre ++ y :: suf := by
  simp
theorem mid_lt {α : Type} (pre : List α) (x : α) (suf : List α) : (pre.length : Int) < ((pre ++ x :: suf).length : Int) := by
  simp; omega
theorem mid_lt' {α : Type} (pre : List α) (x : α) (suf : List α) (n : Nat) (h : pre.length = n) : (n : Int) < ((pre ++ x :: suf).length : Int) := by
  simp; omega
theorem nil_nlt {α : Type} (pre : List α) : ¬ ((pre.length : Int) < ((pre ++ []).length : Int)) := by simp
theorem len_nn (n : Nat) : (0 : Int) ≤ (n : Int) := by omega
theorem snoc_eq {α : Type} (pre : List α) (x : α) (suf : List α) : pre ++ x :: suf = (pre ++ [x]) ++ suf := by simp
theorem snoc_len {α : Type} (pre : List α) (x : α) : ((pre.length + 1 : Nat) : Int) = ((pre ++ [x]).length : Int) := by simp
def inR (n a b : Int) : Bool := decide (a ≤ n ∧ n ≤ b)
theorem inR_true {n a b : Int} : inR n a b = true ↔ a ≤ n ∧ n ≤ b := by simp [inR]
theorem inR_false {n a b : Int} : inR n a b = false ↔ ¬ (a ≤ n ∧ n ≤ b) := by simp [inR]
def Big (k : Nat) : Prop := 9900000 ≤ k
theorem big_out {k : Nat} (h : Big k) : 9900000 ≤ k := h
theorem big_succ {k : Nat} (h : Big k) : Big (k + 1) := by unfold Big at *; omega
theorem big_some : ∃ K : Nat, Big K := ⟨9900000, Nat.le_refl _⟩
theorem big_pred {k : Nat} (h : Big k) (n : Nat) (hn : n ≤ 1048577) : n < k := by unfold Big at h; omega
def Ok {α : Type} (l : List α) : Prop := l.length ≤ 1048576
theorem ok_out {α : Type} {l : List α} (h : Ok l) : l.length ≤ 1048576 := h
theorem ok_map {α β : Type} {f : α → β} {l : List α} (h : Ok l) : Ok (l.map f) := by unfold Ok at *; simpa using h
theorem ok_filter {α : Type} {f : α → Bool} {l : List α} (h : Ok l) : Ok (l.filter f) := by unfold Ok at *; exact Nat.le_trans (List.length_filter_le _ _) h
theorem ok_small {α : Type} {l : List α} (n : Nat) (h : l.length ≤ n) (hn : n ≤ 1048576) : Ok l := by unfold Ok; omega

def Lv (n k : Nat) : Prop := n * 1100000 ≤ k
theorem lv_out {n k : Nat} (h : Lv n k) : n * 1100000 ≤ k := h
theorem lv {n k : Nat} (h : Big k) (hn : n ≤ 9 := by decide) : Lv n k := by unfold Big at h; unfold Lv; omega
theorem lv_succ {n k : Nat} (h : Lv n k) : Lv n (k + 1) := by unfold Lv at *; omega
theorem lv_pred {n k : Nat} (h : Lv (n + 1) k) (m : Nat) (hm : m ≤ 1048580) : m < k := by unfold Lv at h; omega
theorem lv_mono {n m k : Nat} (h : Lv n k) (hm : m ≤ n := by decide) : Lv m k := Nat.le_trans (Nat.mul_le_mul_right _ hm) h
theorem rd132_mid (pre : List S132) (x : S132) (suf : List S132) : rd_T132 (pre ++ x :: suf) (pre.length : Int) = x := getD_mid pre x suf z132
theorem spec_l1In_e (n a b : Int) : spec_l1In.f n a b = some (inR n a b) := by
  unfold spec_l1In.f inR
  by_cases h : n ≥ a
  · rw [if_pos h]; simp [show a ≤ n from h]
  · rw [if_neg h]; simp [show ¬ a ≤ n from h]
def isPattern (a b : Int) : Bool := inR a 0 9 && inR b (-1) 9
def isGrant (e a b kd f u : Int) : Bool := inR e 1 5 && (isPattern a b && (inR kd 1 4 && (decide (0 ≤ f) && (decide (f ≤ u) && decide (u ≤ 10000)))))
theorem spec_IsPattern_e (a b : Int) : spec_IsPattern.f a b = some (isPattern a b) := by
  unfold spec_IsPattern.f isPattern
  simp only [spec_l1In_e, Option.bind_some]
  cases inR a 0 9 <;> simp
theorem spec_IsGrant_e (e a b kd f u : Int) (cl : Bool) : spec_IsGrant.f e a b kd f u cl = some (isGrant e a b kd f u) := by
  unfold spec_IsGrant.f isGrant
  simp only [spec_l1In_e, spec_IsPattern_e, Option.bind_some, ge_iff_le]
  cases inR e 1 5 <;> cases isPattern a b <;> cases inR kd 1 4 <;> by_cases h1 : 0 ≤ f <;> by_cases h2 : f ≤ u <;> simp [h1, h2]
def isSiteV (a b : Int) : Bool := inR a 1 9 && inR b 0 9
def isRuleV (e o p q kd a s1 s2 : Int) : Bool := inR e 1 5 && (inR o 1 9 && (isPattern p q && (inR kd 0 4 && (inR a 1 3 && (if a = 3 then isSiteV s1 s2 else (s1 == 0 && s2 == 0))))))
def rOk (x : S139) : Bool := isRuleV x.f0 x.f1 x.f2.f0 x.f2.f1 x.f3 x.f4 x.f5.f0 x.f5.f1
def isNarrow (a b c d : Int) : Bool := isPattern a b && (isPattern c d && ((c == 0 || a == c) && (d == -1 || b == d)))
def gOk (x : S132) : Bool := isGrant x.f0 x.f1.f0 x.f1.f1 x.f2 x.f3 x.f4
def wOk (x y : S132) : Bool := gOk x && (gOk y && (x.f0 == y.f0 && (x.f2 == y.f2 && (isNarrow x.f1.f0 x.f1.f1 y.f1.f0 y.f1.f1 && (decide (y.f3 ≤ x.f3) && (decide (x.f4 ≤ y.f4) && (x.f5 || !y.f5)))))))
def anyW (x : S132) : List S132 → Bool
  | [] => false
  | y :: ys => wOk x y || anyW x ys
def allW (m : List S132) : List S132 → Bool
  | [] => true
  | x :: xs => anyW x m && allW m xs
theorem huge_some : ∃ k, Big k ∧ Lv 9000000 k := ⟨9900000000001, by unfold Big; omega, by unfold Lv; omega⟩
theorem fuel_mul (a b : Nat) (ha : a ≤ 1048576) (hb : b ≤ 1048576) : a * (b + 2) ≤ 1099516870656 := by
  have : a * (b + 2) ≤ 1048576 * (1048576 + 2) := Nat.mul_le_mul ha (by omega)
  omega
def isFlow (a b c : Int) : Bool := inR a 1 5 && (inR b 1 9 && inR c 1 9)
def isOpV (kd a b c : Int) : Bool := inR a 0 5 && (if kd = 1 ∨ kd = 5 then inR b 1 9 && c == 0 else if kd = 2 then inR b 0 999 && c == 0 else if kd = 3 ∨ kd = 4 then inR b 0 5 && inR c 0 5 else false)
theorem le16 (n : Nat) : decide ((n : Int) ≤ 16) = decide (n ≤ 16) := by
  rw [decide_eq_decide]; omega
def allOps (l : List S46) : Bool := l.all fun x => isOpV x.f0 x.f1 x.f2 x.f3
theorem allOps_cons (x : S46) (l : List S46) : allOps (x :: l) = (isOpV x.f0 x.f1 x.f2 x.f3 && allOps l) := rfl
def areOps (l : List S46) : Bool := allOps l && decide (l.length ≤ 16)
def gAt (a : Int) (x : S132) : Bool := isGrant x.f0 x.f1.f0 x.f1.f1 x.f2 x.f3 x.f4 && x.f0 == a
def fAt (a : Int) (x : S120) : Bool := isFlow x.f0 x.f1 x.f2 && x.f0 == a
def rAt (a : Int) (x : S139) : Bool := isRuleV x.f0 x.f1 x.f2.f0 x.f2.f1 x.f3 x.f4 x.f5.f0 x.f5.f1 && x.f0 == a
def isPkV (a b c : Int) (g : List S132) (f : List S120) (r : List S139) (o : List S46) : Bool :=
  inR a 1 5 && (inR b 1 9 && (inR c 1 999 && (decide (g.length ≤ 6) && (decide (f.length ≤ 6) && (decide (r.length ≤ 6) && (areOps o && (g.all (gAt a) && (f.all (fAt a) && r.all (rAt a)))))))))
theorem spec_IsPackage_l0 (a b c d : Int) (f : List S120) (r : List S139) (o : List S46) (suf : List S132) : ∀ (pre : List S132) (K k : Nat), 10 ≤ K → (pre ++ suf).length ≤ 1048576 → k = K + suf.length + 1 →
    spec_IsPackage.l0 k (pre.length : Int) a b c (pre ++ suf) f r o d = if suf.all (gAt a) = true then (spec_IsPackage.l1 K 0 a b c (pre ++ suf) f r o d) else some false := by
  induction suf with
  | nil =>
    intro pre K k hK hb hk
    subst hk
    rw [List.length_nil, Nat.add_zero, spec_IsPackage.l0, if_neg (nil_nlt pre)]
    rfl
  | cons x suf ih =>
    intro pre K k hK hb hk
    simp only [List.length_cons] at hk
    obtain ⟨k, rfl⟩ : ∃ q, k = q + 1 := ⟨k - 1, by omega⟩
    have hp : pre.length + suf.length < 1048576 := by simp at hb; omega
    have h := ih (pre ++ [x]) K k hK (by simpa using hb) (by omega)
    rw [spec_IsPackage.l0, if_pos (mid_lt _ _ _), if_pos (len_nn _), rd132_mid, spec_IsGrant_e, Option.bind_some, wrap_nat (by omega), snoc_len pre x, snoc_eq pre x suf, h, List.all_cons]
    unfold gAt; cases isGrant x.f0 x.f1.f0 x.f1.f1 x.f2 x.f3 x.f4 <;> by_cases h9 : x.f0 = a <;> simp [h9]
theorem rd120_mid (pre : List S120) (x : S120) (suf : List S120) : rd_T120 (pre ++ x :: suf) (pre.length : Int) = x := getD_mid pre x suf z120
theorem spec_IsFlow_e (a b c : Int) : spec_IsFlow.f a b c = some (isFlow a b c) := by
  unfold spec_IsFlow.f isFlow
  simp only [spec_l1In_e, Option.bind_some]
  cases inR a 1 5 <;> cases inR b 1 9 <;> simp
theorem spec_IsPackage_l1 (a b c d : Int) (g : List S132) (r : List S139) (o : List S46) (suf : List S120) : ∀ (pre : List S120) (K k : Nat), 10 ≤ K → (pre ++ suf).length ≤ 1048576 → k = K + suf.length + 1 →
    spec_IsPackage.l1 k (pre.length : Int) a b c g (pre ++ suf) r o d = if suf.all (fAt a) = true then (spec_IsPackage.l2 K 0 a b c g (pre ++ suf) r o d) else some false := by
  induction suf with
  | nil =>
    intro pre K k hK hb hk
    subst hk
    rw [List.length_nil, Nat.add_zero, spec_IsPackage.l1, if_neg (nil_nlt pre)]
    rfl
  | cons x suf ih =>
    intro pre K k hK hb hk
    simp only [List.length_cons] at hk
    obtain ⟨k, rfl⟩ : ∃ q, k = q + 1 := ⟨k - 1, by omega⟩
    have hp : pre.length + suf.length < 1048576 := by simp at hb; omega
    have h := ih (pre ++ [x]) K k hK (by simpa using hb) (by omega)
    rw [spec_IsPackage.l1, if_pos (mid_lt _ _ _), if_pos (len_nn _), rd120_mid, spec_IsFlow_e, Option.bind_some, wrap_nat (by omega), snoc_len pre x, snoc_eq pre x suf, h, List.all_cons]
    unfold fAt; cases isFlow x.f0 x.f1 x.f2 <;> by_cases h9 : x.f0 = a <;> simp [h9]
theorem rd139_mid (pre : List S139) (x : S139) (suf : List S139) : rd_T139 (pre ++ x :: suf) (pre.length : Int) = x := getD_mid pre x suf z139
theorem spec_IsSite_e (a b : Int) : spec_IsSite.f a b = some (isSiteV a b) := by
  unfold spec_IsSite.f isSiteV
  simp only [spec_l1In_e, Option.bind_some]
  cases inR a 1 9 <;> simp
theorem spec_IsRule_e (e o p q kd a s1 s2 : Int) : spec_IsRule.f e o p q kd a s1 s2 = some (isRuleV e o p q kd a s1 s2) := by
  unfold spec_IsRule.f isRuleV
  simp only [spec_l1In_e, spec_IsPattern_e, spec_IsSite_e, Option.bind_some]
  cases inR e 1 5 <;> cases inR o 1 9 <;> cases isPattern p q <;> cases inR kd 0 4 <;> cases inR a 1 3 <;> by_cases h : a = 3 <;> cases isSiteV s1 s2 <;> simp [h]
theorem spec_IsPackage_l2 (a b c d : Int) (g : List S132) (f : List S120) (o : List S46) (suf : List S139) : ∀ (pre : List S139) (K k : Nat), 10 ≤ K → (pre ++ suf).length ≤ 1048576 → k = K + suf.length + 1 →
    spec_IsPackage.l2 k (pre.length : Int) a b c g f (pre ++ suf) o d = if suf.all (rAt a) = true then some true else some false := by
  induction suf with
  | nil =>
    intro pre K k hK hb hk
    subst hk
    rw [List.length_nil, Nat.add_zero, spec_IsPackage.l2, if_neg (nil_nlt pre)]
    rfl
  | cons x suf ih =>
    intro pre K k hK hb hk
    simp only [List.length_cons] at hk
    obtain ⟨k, rfl⟩ : ∃ q, k = q + 1 := ⟨k - 1, by omega⟩
    have hp : pre.length + suf.length < 1048576 := by simp at hb; omega
    have h := ih (pre ++ [x]) K k hK (by simpa using hb) (by omega)
    rw [spec_IsPackage.l2, if_pos (mid_lt _ _ _), if_pos (len_nn _), rd139_mid, spec_IsRule_e, Option.bind_some, wrap_nat (by omega), snoc_len pre x, snoc_eq pre x suf, h, List.all_cons]
    unfold rAt; cases isRuleV x.f0 x.f1 x.f2.f0 x.f2.f1 x.f3 x.f4 x.f5.f0 x.f5.f1 <;> by_cases h9 : x.f0 = a <;> simp [h9]
theorem spec_l21Ok_e {k : Nat} (kd a b c : Int) (hk : 2 ≤ k) : spec_l21Ok.f k kd a b c = some (isOpV kd a b c) := by
  obtain ⟨k, rfl⟩ : ∃ q, k = q + 2 := ⟨k - 2, by omega⟩
  unfold spec_l21Ok.f isOpV
  simp only [spec_l1In_e, Option.bind_some, spec_l21Ok.j0]
  cases inR a 0 5 <;>
  · by_cases h1 : kd = 1
    · subst h1; cases inR b 1 9 <;> simp
    · by_cases h5 : kd = 5
      · subst h5; cases inR b 1 9 <;> simp
      · by_cases h2 : kd = 2
        · subst h2; cases inR b 0 999 <;> simp
        · by_cases h3 : kd = 3
          · subst h3; cases inR b 0 5 <;> simp
          · by_cases h4 : kd = 4
            · subst h4; cases inR b 0 5 <;> simp
            · simp [h1, h2, h3, h4, h5]
theorem rd46_mid (pre : List S46) (x : S46) (suf : List S46) : rd_T46 (pre ++ x :: suf) (pre.length : Int) = x := getD_mid pre x suf z46
theorem spec_AreOps_l  (suf : List S46) : ∀ (pre : List S46) (k : Nat) , (pre ++ suf).length ≤ 1048576 → suf.length + 2 < k →
    spec_AreOps.l0 k (pre ++ suf) (pre.length : Int) = some (allOps suf && decide ((pre ++ suf).length ≤ 16)) := by
  induction suf with
  | nil =>
    intro pre k  hb hk
    obtain ⟨k, rfl⟩ := succ_of hk
    rw [spec_AreOps.l0, if_neg (nil_nlt pre)]
    rw [le16]; simp [allOps]
  | cons x suf ih =>
    intro pre k  hb hk
    obtain ⟨k, rfl⟩ := succ_of hk
    have hp : pre.length + suf.length < 1048576 := by simp at hb; omega
    have hk1 : suf.length + 2 < k := by simp only [List.length_cons] at hk; omega
    have hb1 : (pre ++ [x] ++ suf).length ≤ 1048576 := by simpa using hb
    have ih1 := ih (pre ++ [x]) k
    rw [spec_AreOps.l0, if_pos (mid_lt _ _ _), if_pos (len_nn _)]
    try simp only [rd46_mid, Option.bind_some]
    rw [wrap_nat (by omega), snoc_len pre x, snoc_eq pre x suf]
    rw [spec_l21Ok_e _ _ _ _ (by omega), ih1 hb1 hk1, allOps_cons]
    cases isOpV x.f0 x.f1 x.f2 x.f3 <;> simp
theorem spec_AreOps_e {k : Nat} {l : List S46} (hk : Lv 1 k) (hl : Ok l) : spec_AreOps.f k l = some (areOps l) := by
  have hl' := ok_out hl
  have hk' := lv_out hk
  unfold spec_AreOps.f areOps
  simpa using spec_AreOps_l l [] k (by simpa using hl') (by omega)
theorem spec_IsPackage_e {k : Nat} (a b c : Int) {g : List S132} {f : List S120} {r : List S139} {o : List S46} (d : Int) (hk : Lv 6 k) (hg : Ok g) (hf : Ok f) (hr : Ok r) (ho : Ok o) :
    spec_IsPackage.f k a b c g f r o d = some (isPkV a b c g f r o) := by
  have hk' := lv_out hk
  have hg' := ok_out hg
  have hf' := ok_out hf
  have hr' := ok_out hr
  have ho' := ok_out ho
  have hops := fun q (h : 2000000 ≤ q) => spec_AreOps_e (k := q) (show Lv 1 q by unfold Lv; omega) ho
  obtain ⟨k, rfl⟩ : ∃ q, k = q + 1 := ⟨k - 1, by omega⟩
  unfold spec_IsPackage.f isPkV
  simp only [spec_l1In_e, Option.bind_some, hops (k + 1) (by omega), spec_IsPackage.j0, if_true]
  have t1 := spec_IsPackage_l0 a b c d f r o g [] (k - g.length - 1) k (by omega) (by simpa using hg') (by omega)
  have t2 := spec_IsPackage_l1 a b c d g r o f [] (k - g.length - 1 - f.length - 1) (k - g.length - 1) (by omega) (by simpa using hf') (by omega)
  have t3 := spec_IsPackage_l2 a b c d g f o r [] (k - g.length - 1 - f.length - 1 - r.length - 1) (k - g.length - 1 - f.length - 1) (by omega) (by simpa using hr') (by omega)
  have t4 := hops (k - g.length - 1 - f.length - 1 - r.length - 1) (by omega)
  simp only [List.nil_append, List.length_nil] at t1 t2 t3
  rw [show ((0 : Nat) : Int) = 0 from rfl] at t1 t2 t3
  rw [t1, t2, t3]
  cases inR a 1 5
  · simp
  cases inR b 1 9
  · simp
  cases inR c 1 999
  · simp
  by_cases e1 : g.length ≤ 6
  · by_cases e2 : f.length ≤ 6
    · by_cases e3 : r.length ≤ 6
      · have n1 : ¬ ((g.length : Int) > 6) := by omega
        have n2 : ¬ ((f.length : Int) > 6) := by omega
        have n3 : ¬ ((r.length : Int) > 6) := by omega
        rw [decide_eq_true e1, decide_eq_true e2, decide_eq_true e3]
        simp only [n1, n2, n3, if_true, if_false, decide_false, Bool.true_and]
        cases areOps o <;> cases g.all (gAt a) <;> cases f.all (fAt a) <;> cases r.all (rAt a) <;> simp
      · have n1 : ¬ ((g.length : Int) > 6) := by omega
        have n2 : ¬ ((f.length : Int) > 6) := by omega
        have n3 : (r.length : Int) > 6 := by omega
        rw [decide_eq_false e3]
        simp [n1, n2, n3]
    · have n1 : ¬ ((g.length : Int) > 6) := by omega
      have n2 : (f.length : Int) > 6 := by omega
      rw [decide_eq_false e2]
      simp [n1, n2]
  · have n1 : (g.length : Int) > 6 := by omega
    rw [decide_eq_false e1]
    simp [n1]
theorem impl_InRange_e (n a b : Int) : impl_InRange.f n a b = some (inR n a b) := by
  unfold impl_InRange.f inR
  by_cases h : a ≤ n
  · rw [if_pos h]; simp [h]
  · rw [if_neg h]; simp [h]
theorem impl_IsPattern_e (a b : Int) : impl_IsPattern.f a b = some (isPattern a b) := by
  unfold impl_IsPattern.f isPattern
  simp only [impl_InRange_e, Option.bind_some]
  cases inR a 0 9 <;> simp
theorem impl_IsGrant_e (e a b kd f u : Int) (cl : Bool) : impl_IsGrant.f e a b kd f u cl = some (isGrant e a b kd f u) := by
  unfold impl_IsGrant.f isGrant
  simp only [impl_InRange_e, impl_IsPattern_e, Option.bind_some, ge_iff_le]
  cases inR e 1 5 <;> cases isPattern a b <;> cases inR kd 1 4 <;> by_cases h1 : 0 ≤ f <;> by_cases h2 : f ≤ u <;> simp [h1, h2]
theorem impl_IsPackage_l0 (a b c d : Int) (g : List S132) (f : List S120) (r : List S139) (o : List S46) (suf : List S132) : ∀ (pre : List S132) (K k : Nat), 10 ≤ K → (pre ++ suf).length ≤ 1048576 → k = K + suf.length + 1 →
    impl_IsPackage.l0 k (pre ++ suf) ((pre ++ suf).length : Int) (pre.length : Int) a b c g f r o d = if suf.all (gAt a) = true then (impl_IsPackage.l1 K f (f.length : Int) 0 a b c g f r o d) else some false := by
  induction suf with
  | nil =>
    intro pre K k hK hb hk
    subst hk
    rw [List.length_nil, Nat.add_zero, impl_IsPackage.l0, if_neg (nil_nlt pre)]
    rfl
  | cons x suf ih =>
    intro pre K k hK hb hk
    simp only [List.length_cons] at hk
    obtain ⟨k, rfl⟩ : ∃ q, k = q + 1 := ⟨k - 1, by omega⟩
    have hp : pre.length + suf.length < 1048576 := by simp at hb; omega
    have h := ih (pre ++ [x]) K k hK (by simpa using hb) (by omega)
    rw [impl_IsPackage.l0, if_pos (mid_lt _ _ _), if_pos (len_nn _), if_pos (mid_lt _ _ _), rd132_mid, impl_IsGrant_e, Option.bind_some, wrap_nat (by omega), snoc_len pre x, snoc_eq pre x suf, h, List.all_cons]
    unfold gAt; cases isGrant x.f0 x.f1.f0 x.f1.f1 x.f2 x.f3 x.f4 <;> by_cases h9 : x.f0 = a <;> simp [h9]
theorem impl_IsFlow_e (a b c : Int) : impl_IsFlow.f a b c = some (isFlow a b c) := by
  unfold impl_IsFlow.f isFlow
  simp only [impl_InRange_e, Option.bind_some]
  cases inR a 1 5 <;> cases inR b 1 9 <;> simp
theorem impl_IsPackage_l1 (a b c d : Int) (g : List S132) (f : List S120) (r : List S139) (o : List S46) (suf : List S120) : ∀ (pre : List S120) (K k : Nat), 10 ≤ K → (pre ++ suf).length ≤ 1048576 → k = K + suf.length + 1 →
    impl_IsPackage.l1 k (pre ++ suf) ((pre ++ suf).length : Int) (pre.length : Int) a b c g f r o d = if suf.all (fAt a) = true then (impl_IsPackage.l2 K r (r.length : Int) 0 a b c g f r o d) else some false := by
  induction suf with
  | nil =>
    intro pre K k hK hb hk
    subst hk
    rw [List.length_nil, Nat.add_zero, impl_IsPackage.l1, if_neg (nil_nlt pre)]
    rfl
  | cons x suf ih =>
    intro pre K k hK hb hk
    simp only [List.length_cons] at hk
    obtain ⟨k, rfl⟩ : ∃ q, k = q + 1 := ⟨k - 1, by omega⟩
    have hp : pre.length + suf.length < 1048576 := by simp at hb; omega
    have h := ih (pre ++ [x]) K k hK (by simpa using hb) (by omega)
    rw [impl_IsPackage.l1, if_pos (mid_lt _ _ _), if_pos (len_nn _), if_pos (mid_lt _ _ _), rd120_mid, impl_IsFlow_e, Option.bind_some, wrap_nat (by omega), snoc_len pre x, snoc_eq pre x suf, h, List.all_cons]
    unfold fAt; cases isFlow x.f0 x.f1 x.f2 <;> by_cases h9 : x.f0 = a <;> simp [h9]
theorem impl_IsSite_e (a b : Int) : impl_IsSite.f a b = some (isSiteV a b) := by
  unfold impl_IsSite.f isSiteV
  simp only [impl_InRange_e, Option.bind_some]
  cases inR a 1 9 <;> simp
theorem impl_IsRule_e {k : Nat} (e o p q kd a s1 s2 : Int) (hk : 2 ≤ k) : impl_IsRule.f k e o p q kd a s1 s2 = some (isRuleV e o p q kd a s1 s2) := by
  obtain ⟨k, rfl⟩ : ∃ q, k = q + 2 := ⟨k - 2, by omega⟩
  unfold impl_IsRule.f isRuleV
  simp only [impl_InRange_e, impl_IsPattern_e, Option.bind_some, impl_IsRule.j0, impl_IsRule.j1, impl_IsSite_e]
  by_cases h1 : a = 1
  · subst h1
    rw [show inR 1 1 3 = true from rfl]
    cases inR e 1 5 <;> cases inR o 1 9 <;> cases isPattern p q <;> cases inR kd 0 4 <;> simp
  · by_cases h2 : a = 2
    · subst h2
      rw [show inR 2 1 3 = true from rfl]
      cases inR e 1 5 <;> cases inR o 1 9 <;> cases isPattern p q <;> cases inR kd 0 4 <;> simp
    · by_cases h3 : a = 3
      · subst h3
        rw [show inR 3 1 3 = true from rfl]
        cases inR e 1 5 <;> cases inR o 1 9 <;> cases isPattern p q <;> cases inR kd 0 4 <;> simp
      · rw [show inR a 1 3 = false from inR_false.2 (by omega)]
        cases inR e 1 5 <;> cases inR o 1 9 <;> cases isPattern p q <;> cases inR kd 0 4 <;> simp [h1, h2, h3]
theorem impl_IsPackage_l2 (a b c d : Int) (g : List S132) (f : List S120) (r : List S139) (o : List S46) (suf : List S139) : ∀ (pre : List S139) (K k : Nat), 10 ≤ K → (pre ++ suf).length ≤ 1048576 → k = K + suf.length + 1 →
    impl_IsPackage.l2 k (pre ++ suf) ((pre ++ suf).length : Int) (pre.length : Int) a b c g f r o d = if suf.all (rAt a) = true then ((impl_AreOps.f K o).bind fun t => (some t)) else some false := by
  induction suf with
  | nil =>
    intro pre K k hK hb hk
    subst hk
    rw [List.length_nil, Nat.add_zero, impl_IsPackage.l2, if_neg (nil_nlt pre)]
    rfl
  | cons x suf ih =>
    intro pre K k hK hb hk
    simp only [List.length_cons] at hk
    obtain ⟨k, rfl⟩ : ∃ q, k = q + 1 := ⟨k - 1, by omega⟩
    have hp : pre.length + suf.length < 1048576 := by simp at hb; omega
    have h := ih (pre ++ [x]) K k hK (by simpa using hb) (by omega)
    rw [impl_IsPackage.l2, if_pos (mid_lt _ _ _), if_pos (len_nn _), if_pos (mid_lt _ _ _), rd139_mid, impl_IsRule_e _ _ _ _ _ _ _ _ (by omega), Option.bind_some, wrap_nat (by omega), snoc_len pre x, snoc_eq pre x suf, h, List.all_cons]
    unfold rAt; cases isRuleV x.f0 x.f1 x.f2.f0 x.f2.f1 x.f3 x.f4 x.f5.f0 x.f5.f1 <;> by_cases h9 : x.f0 = a <;> simp [h9]
theorem impl_isRegister_e (n : Int) : impl_isRegister.f n = some (inR n 0 5) := by
  unfold impl_isRegister.f
  rw [impl_InRange_e, Option.bind_some]
theorem impl_isOp_e {k : Nat} (kd a b c : Int) (hk : 2 ≤ k) : impl_isOp.f k kd a b c = some (isOpV kd a b c) := by
  obtain ⟨k, rfl⟩ : ∃ q, k = q + 2 := ⟨k - 2, by omega⟩
  unfold impl_isOp.f isOpV
  simp only [impl_isRegister_e, Option.bind_some, impl_isOp.j0, impl_isOp.j1, impl_InRange_e]
  cases inR a 0 5
  · simp
  · by_cases h1 : kd = 1
    · subst h1; cases inR b 1 9 <;> simp
    · by_cases h5 : kd = 5
      · subst h5; cases inR b 1 9 <;> simp
      · by_cases h2 : kd = 2
        · subst h2; cases inR b 0 999 <;> simp
        · by_cases h3 : kd = 3
          · subst h3; cases inR b 0 5 <;> simp
          · by_cases h4 : kd = 4
            · subst h4; cases inR b 0 5 <;> simp
            · simp [h1, h2, h3, h4, h5]
theorem impl_AreOps_l  (suf : List S46) : ∀ (pre : List S46) (k : Nat) , (pre ++ suf).length ≤ 1048576 → suf.length + 2 < k →
    impl_AreOps.l0 k (pre ++ suf) ((pre ++ suf).length : Int) (pre.length : Int) = some (allOps suf) := by
  induction suf with
  | nil =>
    intro pre k  hb hk
    obtain ⟨k, rfl⟩ := succ_of hk
    rw [impl_AreOps.l0, if_neg (nil_nlt pre)]
    rfl
  | cons x suf ih =>
    intro pre k  hb hk
    obtain ⟨k, rfl⟩ := succ_of hk
    have hp : pre.length + suf.length < 1048576 := by simp at hb; omega
    have hk1 : suf.length + 2 < k := by simp only [List.length_cons] at hk; omega
    have hb1 : (pre ++ [x] ++ suf).length ≤ 1048576 := by simpa using hb
    have ih1 := ih (pre ++ [x]) k
    rw [impl_AreOps.l0, if_pos (mid_lt _ _ _), if_pos (len_nn _), if_pos (mid_lt _ _ _)]
    try simp only [rd46_mid, Option.bind_some]
    rw [wrap_nat (by omega), snoc_len pre x, snoc_eq pre x suf]
    rw [impl_isOp_e _ _ _ _ (by omega), ih1 hb1 hk1, allOps_cons]
    cases isOpV x.f0 x.f1 x.f2 x.f3 <;> simp
theorem impl_AreOps_e {k : Nat} {l : List S46} (hk : Lv 1 k) (hl : Ok l) : impl_AreOps.f k l = some (areOps l) := by
  have hl' := ok_out hl
  have hk' := lv_out hk
  unfold impl_AreOps.f areOps
  by_cases h : (l.length : Int) > 16
  · rw [if_pos h, decide_eq_false (by omega)]; simp
  · rw [if_neg h, decide_eq_true (show l.length ≤ 16 by omega), Bool.and_true]
    simpa using impl_AreOps_l l [] k (by simpa using hl') (by omega)
theorem impl_IsPackage_e {k : Nat} (a b c : Int) {g : List S132} {f : List S120} {r : List S139} {o : List S46} (d : Int) (hk : Lv 6 k) (hg : Ok g) (hf : Ok f) (hr : Ok r) (ho : Ok o) :
    impl_IsPackage.f k a b c g f r o d = some (isPkV a b c g f r o) := by
  have hk' := lv_out hk
  have hg' := ok_out hg
  have hf' := ok_out hf
  have hr' := ok_out hr
  have ho' := ok_out ho
  have hops := fun q (h : 2000000 ≤ q) => impl_AreOps_e (k := q) (show Lv 1 q by unfold Lv; omega) ho
  obtain ⟨k, rfl⟩ : ∃ q, k = q + 1 := ⟨k - 1, by omega⟩
  unfold impl_IsPackage.f isPkV
  simp only [impl_InRange_e, Option.bind_some, impl_IsPackage.j0, if_true]
  have t1 := impl_IsPackage_l0 a b c d g f r o g [] (k - g.length - 1) k (by omega) (by simpa using hg') (by omega)
  have t2 := impl_IsPackage_l1 a b c d g f r o f [] (k - g.length - 1 - f.length - 1) (k - g.length - 1) (by omega) (by simpa using hf') (by omega)
  have t3 := impl_IsPackage_l2 a b c d g f r o r [] (k - g.length - 1 - f.length - 1 - r.length - 1) (k - g.length - 1 - f.length - 1) (by omega) (by simpa using hr') (by omega)
  have t4 := hops (k - g.length - 1 - f.length - 1 - r.length - 1) (by omega)
  simp only [List.nil_append, List.length_nil] at t1 t2 t3
  rw [show ((0 : Nat) : Int) = 0 from rfl] at t1 t2 t3
  rw [t1, t2, t3, t4]
  cases inR a 1 5
  · simp
  cases inR b 1 9
  · simp
  cases inR c 1 999
  · simp
  by_cases e1 : g.length ≤ 6
  · by_cases e2 : f.length ≤ 6
    · by_cases e3 : r.length ≤ 6
      · have n1 : ¬ ((g.length : Int) > 6) := by omega
        have n2 : ¬ ((f.length : Int) > 6) := by omega
        have n3 : ¬ ((r.length : Int) > 6) := by omega
        rw [decide_eq_true e1, decide_eq_true e2, decide_eq_true e3]
        simp only [n1, n2, n3, if_true, if_false, decide_false, Bool.true_and]
        cases areOps o <;> cases g.all (gAt a) <;> cases f.all (fAt a) <;> cases r.all (rAt a) <;> simp
      · have n1 : ¬ ((g.length : Int) > 6) := by omega
        have n2 : ¬ ((f.length : Int) > 6) := by omega
        have n3 : (r.length : Int) > 6 := by omega
        rw [decide_eq_false e3]
        simp [n1, n2, n3]
    · have n1 : ¬ ((g.length : Int) > 6) := by omega
      have n2 : (f.length : Int) > 6 := by omega
      rw [decide_eq_false e2]
      simp [n1, n2]
  · have n1 : (g.length : Int) > 6 := by omega
    rw [decide_eq_false e1]
    simp [n1]
theorem laws_szGrantS_no {l : List S171} {a : Int} (h0 : 0 ≤ a) (h1 : a ≤ 1048576) (h : l.length ≤ maxLen) (hn : a < l.length) : laws_szGrantS.f l a = some (-1) := by
  unfold maxLen at h
  unfold laws_szGrantS.f
  rw [wrap_id (by omega), if_pos (by omega)]
theorem laws_szGrantS_yes {l : List S171} {a : Int} (h0 : 0 ≤ a) (h1 : a ≤ 1048576) (hn : l.length ≤ a) : laws_szGrantS.f l a = some (a - l.length) := by
  unfold laws_szGrantS.f
  rw [wrap_id (by omega), if_neg (by omega)]
theorem rd171_mid (pre : List S171) (x : S171) (suf : List S171) : rd_T171 (pre ++ x :: suf) (pre.length : Int) = x := getD_mid pre x suf z171
def cv_Grant (x : S171) : S132 := (⟨x.f0, (⟨x.f1.f0, x.f1.f1⟩ : S130), x.f2, x.f3, x.f4, x.f5⟩ : S132)
theorem laws_toGrantS_l (suf : List S171) : ∀ (pre : List S171) (k : Nat), (pre ++ suf).length ≤ 1048576 → suf.length < k →
    laws_toGrantS.l0 k (pre ++ suf) (pre.map cv_Grant ++ List.replicate suf.length z132) (pre.length : Int) = some ((pre ++ suf).map cv_Grant) := by
  induction suf with
  | nil =>
    intro pre k hb hk
    obtain ⟨k, rfl⟩ := succ_of hk
    rw [laws_toGrantS.l0, if_neg (nil_nlt pre)]
    simp
  | cons x suf ih =>
    intro pre k hb hk
    obtain ⟨k, rfl⟩ := succ_of hk
    have hp : pre.length ≤ 1048576 := by simp at hb; omega
    have hm : (pre.length : Int) = ((pre.map cv_Grant).length : Int) := by simp
    have h := ih (pre ++ [x]) k (by simpa using hb) (by simpa using hk)
    rw [laws_toGrantS.l0, if_pos (mid_lt _ _ _), if_pos (len_nn _), rd171_mid]
    simp only [laws_toGrant.f, laws_toPattern.f, Option.bind_some]
    rw [if_pos (by simp; omega), List.length_cons, List.replicate_succ, hm, set_mid, wrap_nat (by simpa using Nat.le_trans hp (by omega)), snoc_eq pre x suf]
    rw [snoc_eq (pre.map cv_Grant)]
    simp only [List.map_append, List.map_cons, List.map_nil, List.length_append, List.length_map, List.length_cons, List.length_nil, Nat.zero_add] at h ⊢
    exact h
theorem laws_toGrantS_e {k : Nat} {l : List S171} (hk : Big k) (hl : Ok l) : laws_toGrantS.f k l = some (l.map cv_Grant) := by
  have hl' := ok_out hl
  unfold laws_toGrantS.f
  rw [if_pos (len_nn _), if_pos (by omega)]
  simpa using laws_toGrantS_l l [] k (by simpa using hl') (big_pred hk _ (by omega))
theorem laws_eqGrantS_l (suf : List S132) : ∀ (pre : List S132) (k : Nat), (pre ++ suf).length ≤ 1048576 → suf.length < k →
    laws_eqGrantS.l0 k (pre ++ suf) (pre ++ suf) (pre.length : Int) = some true := by
  induction suf with
  | nil =>
    intro pre k hb hk
    obtain ⟨k, rfl⟩ := succ_of hk
    rw [laws_eqGrantS.l0, if_neg (nil_nlt pre)]
  | cons x suf ih =>
    intro pre k hb hk
    obtain ⟨k, rfl⟩ := succ_of hk
    have hp : pre.length ≤ 1048576 := by simp at hb; omega
    have h := ih (pre ++ [x]) k (by simpa using hb) (by simpa using hk)
    rw [laws_eqGrantS.l0, if_pos (mid_lt _ _ _), if_pos (len_nn _), if_pos (mid_lt _ _ _), rd132_mid, wrap_nat (by omega), snoc_len pre x, snoc_eq pre x suf, h]
    simp [laws_eqPattern.f, laws_eqGrant.f]
theorem laws_eqGrantS_e {k : Nat} {l : List S132} (hk : Big k) (hl : Ok l) : laws_eqGrantS.f k l l = some true := by
  have hl' := ok_out hl
  unfold laws_eqGrantS.f
  rw [if_pos rfl]
  simpa using laws_eqGrantS_l l [] k (by simpa using hl') (big_pred hk _ (by omega))
theorem laws_szFlowS_no {l : List S126} {a : Int} (h0 : 0 ≤ a) (h1 : a ≤ 1048576) (h : l.length ≤ maxLen) (hn : a < l.length) : laws_szFlowS.f l a = some (-1) := by
  unfold maxLen at h
  unfold laws_szFlowS.f
  rw [wrap_id (by omega), if_pos (by omega)]
theorem laws_szFlowS_yes {l : List S126} {a : Int} (h0 : 0 ≤ a) (h1 : a ≤ 1048576) (hn : l.length ≤ a) : laws_szFlowS.f l a = some (a - l.length) := by
  unfold laws_szFlowS.f
  rw [wrap_id (by omega), if_neg (by omega)]
theorem rd126_mid (pre : List S126) (x : S126) (suf : List S126) : rd_T126 (pre ++ x :: suf) (pre.length : Int) = x := getD_mid pre x suf z126
def cv_Flow (x : S126) : S120 := (⟨x.f0, x.f1, x.f2⟩ : S120)
theorem laws_toFlowS_l (suf : List S126) : ∀ (pre : List S126) (k : Nat), (pre ++ suf).length ≤ 1048576 → suf.length < k →
    laws_toFlowS.l0 k (pre ++ suf) (pre.map cv_Flow ++ List.replicate suf.length z120) (pre.length : Int) = some ((pre ++ suf).map cv_Flow) := by
  induction suf with
  | nil =>
    intro pre k hb hk
    obtain ⟨k, rfl⟩ := succ_of hk
    rw [laws_toFlowS.l0, if_neg (nil_nlt pre)]
    simp
  | cons x suf ih =>
    intro pre k hb hk
    obtain ⟨k, rfl⟩ := succ_of hk
    have hp : pre.length ≤ 1048576 := by simp at hb; omega
    have hm : (pre.length : Int) = ((pre.map cv_Flow).length : Int) := by simp
    have h := ih (pre ++ [x]) k (by simpa using hb) (by simpa using hk)
    rw [laws_toFlowS.l0, if_pos (mid_lt _ _ _), if_pos (len_nn _), rd126_mid]
    simp only [laws_toFlow.f, Option.bind_some]
    rw [if_pos (by simp; omega), List.length_cons, List.replicate_succ, hm, set_mid, wrap_nat (by simpa using Nat.le_trans hp (by omega)), snoc_eq pre x suf]
    rw [snoc_eq (pre.map cv_Flow)]
    simp only [List.map_append, List.map_cons, List.map_nil, List.length_append, List.length_map, List.length_cons, List.length_nil, Nat.zero_add] at h ⊢
    exact h
theorem laws_toFlowS_e {k : Nat} {l : List S126} (hk : Big k) (hl : Ok l) : laws_toFlowS.f k l = some (l.map cv_Flow) := by
  have hl' := ok_out hl
  unfold laws_toFlowS.f
  rw [if_pos (len_nn _), if_pos (by omega)]
  simpa using laws_toFlowS_l l [] k (by simpa using hl') (big_pred hk _ (by omega))
theorem laws_eqFlowS_l (suf : List S120) : ∀ (pre : List S120) (k : Nat), (pre ++ suf).length ≤ 1048576 → suf.length < k →
    laws_eqFlowS.l0 k (pre ++ suf) (pre ++ suf) (pre.length : Int) = some true := by
  induction suf with
  | nil =>
    intro pre k hb hk
    obtain ⟨k, rfl⟩ := succ_of hk
    rw [laws_eqFlowS.l0, if_neg (nil_nlt pre)]
  | cons x suf ih =>
    intro pre k hb hk
    obtain ⟨k, rfl⟩ := succ_of hk
    have hp : pre.length ≤ 1048576 := by simp at hb; omega
    have h := ih (pre ++ [x]) k (by simpa using hb) (by simpa using hk)
    rw [laws_eqFlowS.l0, if_pos (mid_lt _ _ _), if_pos (len_nn _), if_pos (mid_lt _ _ _), rd120_mid, wrap_nat (by omega), snoc_len pre x, snoc_eq pre x suf, h]
    simp [laws_eqFlow.f]
theorem laws_eqFlowS_e {k : Nat} {l : List S120} (hk : Big k) (hl : Ok l) : laws_eqFlowS.f k l l = some true := by
  have hl' := ok_out hl
  unfold laws_eqFlowS.f
  rw [if_pos rfl]
  simpa using laws_eqFlowS_l l [] k (by simpa using hl') (big_pred hk _ (by omega))
theorem laws_szRuleS_no {l : List S175} {a : Int} (h0 : 0 ≤ a) (h1 : a ≤ 1048576) (h : l.length ≤ maxLen) (hn : a < l.length) : laws_szRuleS.f l a = some (-1) := by
  unfold maxLen at h
  unfold laws_szRuleS.f
  rw [wrap_id (by omega), if_pos (by omega)]
theorem laws_szRuleS_yes {l : List S175} {a : Int} (h0 : 0 ≤ a) (h1 : a ≤ 1048576) (hn : l.length ≤ a) : laws_szRuleS.f l a = some (a - l.length) := by
  unfold laws_szRuleS.f
  rw [wrap_id (by omega), if_neg (by omega)]
theorem rd175_mid (pre : List S175) (x : S175) (suf : List S175) : rd_T175 (pre ++ x :: suf) (pre.length : Int) = x := getD_mid pre x suf z175
def cv_Rule (x : S175) : S139 := (⟨x.f0, x.f1, (⟨x.f2.f0, x.f2.f1⟩ : S130), x.f3, x.f4, (⟨x.f5.f0, x.f5.f1⟩ : S137)⟩ : S139)
theorem laws_toRuleS_l (suf : List S175) : ∀ (pre : List S175) (k : Nat), (pre ++ suf).length ≤ 1048576 → suf.length < k →
    laws_toRuleS.l0 k (pre ++ suf) (pre.map cv_Rule ++ List.replicate suf.length z139) (pre.length : Int) = some ((pre ++ suf).map cv_Rule) := by
  induction suf with
  | nil =>
    intro pre k hb hk
    obtain ⟨k, rfl⟩ := succ_of hk
    rw [laws_toRuleS.l0, if_neg (nil_nlt pre)]
    simp
  | cons x suf ih =>
    intro pre k hb hk
    obtain ⟨k, rfl⟩ := succ_of hk
    have hp : pre.length ≤ 1048576 := by simp at hb; omega
    have hm : (pre.length : Int) = ((pre.map cv_Rule).length : Int) := by simp
    have h := ih (pre ++ [x]) k (by simpa using hb) (by simpa using hk)
    rw [laws_toRuleS.l0, if_pos (mid_lt _ _ _), if_pos (len_nn _), rd175_mid]
    simp only [laws_toRule.f, laws_toPattern.f, laws_toSite.f, Option.bind_some]
    rw [if_pos (by simp; omega), List.length_cons, List.replicate_succ, hm, set_mid, wrap_nat (by simpa using Nat.le_trans hp (by omega)), snoc_eq pre x suf]
    rw [snoc_eq (pre.map cv_Rule)]
    simp only [List.map_append, List.map_cons, List.map_nil, List.length_append, List.length_map, List.length_cons, List.length_nil, Nat.zero_add] at h ⊢
    exact h
theorem laws_toRuleS_e {k : Nat} {l : List S175} (hk : Big k) (hl : Ok l) : laws_toRuleS.f k l = some (l.map cv_Rule) := by
  have hl' := ok_out hl
  unfold laws_toRuleS.f
  rw [if_pos (len_nn _), if_pos (by omega)]
  simpa using laws_toRuleS_l l [] k (by simpa using hl') (big_pred hk _ (by omega))
theorem laws_eqRuleS_l (suf : List S139) : ∀ (pre : List S139) (k : Nat), (pre ++ suf).length ≤ 1048576 → suf.length < k →
    laws_eqRuleS.l0 k (pre ++ suf) (pre ++ suf) (pre.length : Int) = some true := by
  induction suf with
  | nil =>
    intro pre k hb hk
    obtain ⟨k, rfl⟩ := succ_of hk
    rw [laws_eqRuleS.l0, if_neg (nil_nlt pre)]
  | cons x suf ih =>
    intro pre k hb hk
    obtain ⟨k, rfl⟩ := succ_of hk
    have hp : pre.length ≤ 1048576 := by simp at hb; omega
    have h := ih (pre ++ [x]) k (by simpa using hb) (by simpa using hk)
    rw [laws_eqRuleS.l0, if_pos (mid_lt _ _ _), if_pos (len_nn _), if_pos (mid_lt _ _ _), rd139_mid, wrap_nat (by omega), snoc_len pre x, snoc_eq pre x suf, h]
    simp [laws_eqPattern.f, laws_eqSite.f, laws_eqRule.f]
theorem laws_eqRuleS_e {k : Nat} {l : List S139} (hk : Big k) (hl : Ok l) : laws_eqRuleS.f k l l = some true := by
  have hl' := ok_out hl
  unfold laws_eqRuleS.f
  rw [if_pos rfl]
  simpa using laws_eqRuleS_l l [] k (by simpa using hl') (big_pred hk _ (by omega))
theorem laws_szOpS_no {l : List S107} {a : Int} (h0 : 0 ≤ a) (h1 : a ≤ 1048576) (h : l.length ≤ maxLen) (hn : a < l.length) : laws_szOpS.f l a = some (-1) := by
  unfold maxLen at h
  unfold laws_szOpS.f
  rw [wrap_id (by omega), if_pos (by omega)]
theorem laws_szOpS_yes {l : List S107} {a : Int} (h0 : 0 ≤ a) (h1 : a ≤ 1048576) (hn : l.length ≤ a) : laws_szOpS.f l a = some (a - l.length) := by
  unfold laws_szOpS.f
  rw [wrap_id (by omega), if_neg (by omega)]
theorem rd107_mid (pre : List S107) (x : S107) (suf : List S107) : rd_T107 (pre ++ x :: suf) (pre.length : Int) = x := getD_mid pre x suf z107
def cv_Op (x : S107) : S46 := (⟨x.f0, x.f1, x.f2, x.f3⟩ : S46)
theorem laws_toOpS_l (suf : List S107) : ∀ (pre : List S107) (k : Nat), (pre ++ suf).length ≤ 1048576 → suf.length < k →
    laws_toOpS.l0 k (pre ++ suf) (pre.map cv_Op ++ List.replicate suf.length z46) (pre.length : Int) = some ((pre ++ suf).map cv_Op) := by
  induction suf with
  | nil =>
    intro pre k hb hk
    obtain ⟨k, rfl⟩ := succ_of hk
    rw [laws_toOpS.l0, if_neg (nil_nlt pre)]
    simp
  | cons x suf ih =>
    intro pre k hb hk
    obtain ⟨k, rfl⟩ := succ_of hk
    have hp : pre.length ≤ 1048576 := by simp at hb; omega
    have hm : (pre.length : Int) = ((pre.map cv_Op).length : Int) := by simp
    have h := ih (pre ++ [x]) k (by simpa using hb) (by simpa using hk)
    rw [laws_toOpS.l0, if_pos (mid_lt _ _ _), if_pos (len_nn _), rd107_mid]
    simp only [laws_toOp.f, Option.bind_some]
    rw [if_pos (by simp; omega), List.length_cons, List.replicate_succ, hm, set_mid, wrap_nat (by simpa using Nat.le_trans hp (by omega)), snoc_eq pre x suf]
    rw [snoc_eq (pre.map cv_Op)]
    simp only [List.map_append, List.map_cons, List.map_nil, List.length_append, List.length_map, List.length_cons, List.length_nil, Nat.zero_add] at h ⊢
    exact h
theorem laws_toOpS_e {k : Nat} {l : List S107} (hk : Big k) (hl : Ok l) : laws_toOpS.f k l = some (l.map cv_Op) := by
  have hl' := ok_out hl
  unfold laws_toOpS.f
  rw [if_pos (len_nn _), if_pos (by omega)]
  simpa using laws_toOpS_l l [] k (by simpa using hl') (big_pred hk _ (by omega))
theorem laws_eqOpS_l (suf : List S46) : ∀ (pre : List S46) (k : Nat), (pre ++ suf).length ≤ 1048576 → suf.length < k →
    laws_eqOpS.l0 k (pre ++ suf) (pre ++ suf) (pre.length : Int) = some true := by
  induction suf with
  | nil =>
    intro pre k hb hk
    obtain ⟨k, rfl⟩ := succ_of hk
    rw [laws_eqOpS.l0, if_neg (nil_nlt pre)]
  | cons x suf ih =>
    intro pre k hb hk
    obtain ⟨k, rfl⟩ := succ_of hk
    have hp : pre.length ≤ 1048576 := by simp at hb; omega
    have h := ih (pre ++ [x]) k (by simpa using hb) (by simpa using hk)
    rw [laws_eqOpS.l0, if_pos (mid_lt _ _ _), if_pos (len_nn _), if_pos (mid_lt _ _ _), rd46_mid, wrap_nat (by omega), snoc_len pre x, snoc_eq pre x suf, h]
    simp [laws_eqOp.f]
theorem laws_eqOpS_e {k : Nat} {l : List S46} (hk : Big k) (hl : Ok l) : laws_eqOpS.f k l l = some true := by
  have hl' := ok_out hl
  unfold laws_eqOpS.f
  rw [if_pos rfl]
  simpa using laws_eqOpS_l l [] k (by simpa using hl') (big_pred hk _ (by omega))

theorem FnExactIsPackage : ∀ (a0_0 : Int) (a0_1 : Int) (a0_2 : Int) (l0_3 : List (S171)) (l0_4 : List (S126)) (l0_5 : List (S175)) (l0_6 : List (S107)) (a0_7 : Int), (Lit.int .i64 a0_0).wf = true → (Lit.int .i64 a0_1).wf = true → (Lit.int .i64 a0_2).wf = true → l0_3.length ≤ maxLen → (∀ x ∈ l0_3, (Lit.int .i64 x.f0).wf = true ∧ (Lit.int .i64 x.f1.f0).wf = true ∧ (Lit.int .i64 x.f1.f1).wf = true ∧ (Lit.int .i64 x.f2).wf = true ∧ (Lit.int .i64 x.f3).wf = true ∧ (Lit.int .i64 x.f4).wf = true) → l0_4.length ≤ maxLen → (∀ x ∈ l0_4, (Lit.int .i64 x.f0).wf = true ∧ (Lit.int .i64 x.f1).wf = true ∧ (Lit.int .i64 x.f2).wf = true) → l0_5.length ≤ maxLen → (∀ x ∈ l0_5, (Lit.int .i64 x.f0).wf = true ∧ (Lit.int .i64 x.f1).wf = true ∧ (Lit.int .i64 x.f2.f0).wf = true ∧ (Lit.int .i64 x.f2.f1).wf = true ∧ (Lit.int .i64 x.f3).wf = true ∧ (Lit.int .i64 x.f4).wf = true ∧ (Lit.int .i64 x.f5.f0).wf = true ∧ (Lit.int .i64 x.f5.f1).wf = true) → l0_6.length ≤ maxLen → (∀ x ∈ l0_6, (Lit.int .i64 x.f0).wf = true ∧ (Lit.int .i64 x.f1).wf = true ∧ (Lit.int .i64 x.f2).wf = true ∧ (Lit.int .i64 x.f3).wf = true) → (Lit.int .i64 a0_7).wf = true → ∃ k, laws_FnExactIsPackage.f k a0_0 a0_1 a0_2 l0_3 l0_4 l0_5 l0_6 a0_7 = some true := by
  intro a0_0 a0_1 a0_2 l0_3 l0_4 l0_5 l0_6 a0_7 _ _ _ hm0_3 _ hm0_4 _ hm0_5 _ hm0_6 _ _
  by_cases hn0 : (1048576 : Int) < l0_3.length
  · refine ⟨0, ?_⟩
    unfold laws_FnExactIsPackage.f
    simp only [laws_szPackage.f]
    rw [laws_szGrantS_no (by omega) (by omega) hm0_3 hn0]
    rfl
  by_cases hn1 : (1048576 : Int) - l0_3.length < l0_4.length
  · refine ⟨0, ?_⟩
    unfold laws_FnExactIsPackage.f
    simp only [laws_szPackage.f]
    rw [laws_szGrantS_yes (by omega) (by omega) (by omega), Option.bind_some, if_neg (by omega), laws_szFlowS_no (by omega) (by omega) hm0_4 hn1]
    rfl
  by_cases hn2 : (1048576 : Int) - l0_3.length - l0_4.length < l0_5.length
  · refine ⟨0, ?_⟩
    unfold laws_FnExactIsPackage.f
    simp only [laws_szPackage.f]
    rw [laws_szGrantS_yes (by omega) (by omega) (by omega), Option.bind_some, if_neg (by omega), laws_szFlowS_yes (by omega) (by omega) (by omega), Option.bind_some, if_neg (by omega), laws_szRuleS_no (by omega) (by omega) hm0_5 hn2]
    rfl
  by_cases hn3 : (1048576 : Int) - l0_3.length - l0_4.length - l0_5.length < l0_6.length
  · refine ⟨0, ?_⟩
    unfold laws_FnExactIsPackage.f
    simp only [laws_szPackage.f]
    rw [laws_szGrantS_yes (by omega) (by omega) (by omega), Option.bind_some, if_neg (by omega), laws_szFlowS_yes (by omega) (by omega) (by omega), Option.bind_some, if_neg (by omega), laws_szRuleS_yes (by omega) (by omega) (by omega), Option.bind_some, if_neg (by omega), laws_szOpS_no (by omega) (by omega) hm0_6 hn3]
    rfl
  obtain ⟨k, hk⟩ := big_some
  have hk0 := big_succ hk
  have hl0_3 : Ok l0_3 := by unfold Ok; omega
  have hl0_4 : Ok l0_4 := by unfold Ok; omega
  have hl0_5 : Ok l0_5 := by unfold Ok; omega
  have hl0_6 : Ok l0_6 := by unfold Ok; omega
  have hc0_3 : Ok (l0_3.map cv_Grant) := ok_map (f := cv_Grant) hl0_3
  have hcl0_3 := ok_out hc0_3
  have hc0_4 : Ok (l0_4.map cv_Flow) := ok_map (f := cv_Flow) hl0_4
  have hcl0_4 := ok_out hc0_4
  have hc0_5 : Ok (l0_5.map cv_Rule) := ok_map (f := cv_Rule) hl0_5
  have hcl0_5 := ok_out hc0_5
  have hc0_6 : Ok (l0_6.map cv_Op) := ok_map (f := cv_Op) hl0_6
  have hcl0_6 := ok_out hc0_6
  have hT0_3 := laws_toGrantS_e hk0 hl0_3
  have hE0_3 := laws_eqGrantS_e hk0 hc0_3
  have hT0_4 := laws_toFlowS_e hk0 hl0_4
  have hE0_4 := laws_eqFlowS_e hk0 hc0_4
  have hT0_5 := laws_toRuleS_e hk0 hl0_5
  have hE0_5 := laws_eqRuleS_e hk0 hc0_5
  have hT0_6 := laws_toOpS_e hk0 hl0_6
  have hE0_6 := laws_eqOpS_e hk0 hc0_6
  have hP := spec_IsPackage_e a0_0 a0_1 a0_2 a0_7 (lv hk0) hc0_3 hc0_4 hc0_5 hc0_6
  have hI := impl_IsPackage_e a0_0 a0_1 a0_2 a0_7 (lv hk0) hc0_3 hc0_4 hc0_5 hc0_6
  have hT0_3' := laws_toGrantS_e hk hl0_3
  have hE0_3' := laws_eqGrantS_e hk hc0_3
  have hT0_4' := laws_toFlowS_e hk hl0_4
  have hE0_4' := laws_eqFlowS_e hk hc0_4
  have hT0_5' := laws_toRuleS_e hk hl0_5
  have hE0_5' := laws_eqRuleS_e hk hc0_5
  have hT0_6' := laws_toOpS_e hk hl0_6
  have hE0_6' := laws_eqOpS_e hk hc0_6
  have hP' := spec_IsPackage_e a0_0 a0_1 a0_2 a0_7 (lv hk) hc0_3 hc0_4 hc0_5 hc0_6
  have hI' := impl_IsPackage_e a0_0 a0_1 a0_2 a0_7 (lv hk) hc0_3 hc0_4 hc0_5 hc0_6
  refine ⟨k + 1, ?_⟩
  unfold laws_FnExactIsPackage.f
  simp only [laws_szPackage.f]
  rw [laws_szGrantS_yes (by omega) (by omega) (by omega), Option.bind_some, if_neg (by omega), laws_szFlowS_yes (by omega) (by omega) (by omega), Option.bind_some, if_neg (by omega), laws_szRuleS_yes (by omega) (by omega) (by omega), Option.bind_some, if_neg (by omega), laws_szOpS_yes (by omega) (by omega) (by omega), Option.bind_some, if_neg (by omega), Option.bind_some, if_neg (by omega)]
  simp only [hT0_3, hE0_3, hT0_4, hE0_4, hT0_5, hE0_5, hT0_6, hE0_6, hP, hI, hT0_3', hE0_3', hT0_4', hE0_4', hT0_5', hE0_5', hT0_6', hE0_6', hP', hI', laws_toSite.f, laws_eqSite.f, laws_toPattern.f, laws_eqPattern.f, laws_toPackage.f, laws_eqPackage.f, Option.bind_some, if_true, bne_self_eq_false, Bool.false_eq_true, if_false, Bool.not_true, Bool.not_false]
end Go.Proofs.Ytmpkaooelpbeaaa.Pure
