/- The law FnPrivate as a statement over numbers and lists, with its proof; no conditions but the bounds of the values' types and of the slices' lengths. -/
import Derived.Test.YtmjflahlhgibnaaPFnPrivate3
set_option linter.unusedVariables false
set_option linter.unusedSimpArgs false
namespace Go.Proofs.Ytmjflahlhgibnaa.PFnPrivate.Pure
open Go Go.Eng Go.Proofs
def Ret' {α : Type} (o : Option α) (P : α → Prop) : Prop := ∃ t, o = some t ∧ P t
theorem Ret'.bind {α β : Type} {o : Option α} {P : α → Prop} {f : α → Option β} {Q : β → Prop} (h : Ret' o P) (k : ∀ t, P t → Ret' (f t) Q) : Ret' (o.bind f) Q := by
  obtain ⟨t, rfl, ht⟩ := h
  exact k t ht
theorem Ret'.some {α : Type} {t : α} {P : α → Prop} (h : P t) : Ret' (Option.some t) P := ⟨t, rfl, h⟩
theorem Ret'.imp {α : Type} {o : Option α} {P Q : α → Prop} (h : Ret' o P) (k : ∀ t, P t → Q t) : Ret' o Q := by
  obtain ⟨t, e, ht⟩ := h
  exact ⟨t, e, k t ht⟩
theorem Ret'.bif {α : Type} {c : Bool} {x y : Option α} {P : α → Prop} (h : c = true → Ret' x P) (k : c = false → Ret' y P) : Ret' (bif c then x else y) P := by
  cases c
  · exact k rfl
  · exact h rfl
theorem i64_and255 (n : Int) : bitop .and .i64 n 255 = n % 256 := by
  have h127 : (BitVec.ofInt 64 255).toNat = 2 ^ 8 - 1 := by decide
  have key : (BitVec.ofInt 64 n &&& BitVec.ofInt 64 255).toNat = (n % ((2 ^ 64 : Nat) : Int)).toNat % 2 ^ 8 := by
    rw [BitVec.toNat_and, BitVec.toNat_ofInt, h127, Nat.and_two_pow_sub_one_eq_mod]
  show IntKind.i64.wrap ((BitVec.ofInt 64 n &&& BitVec.ofInt 64 255).toNat : Nat) = n % 256
  rw [key, show ∀ m : Int, IntKind.i64.wrap m = w64 m from fun _ => rfl, w64_id (by omega)]
  omega
def Pos (l : List Int) (p : Int) : Prop := 0 ≤ p ∧ p ≤ (l.length : Int) ∧ (l.length : Int) ≤ 1048576
theorem tmod_bd {b a : Int} (hb : 0 ≤ b) (ha : 0 < a) : 0 ≤ Int.tmod b a ∧ Int.tmod b a < a := by
  rw [Int.tmod_eq_emod_of_nonneg hb]
  exact ⟨Int.emod_nonneg _ (by omega), Int.emod_lt_of_pos _ ha⟩
theorem spec_l1Byte_t (k : Nat) {l : List Int} {p : Int} (h : Int) (hp : Pos l p) : Ret' (spec_l1Byte.f k l p h) fun t => Pos l t.2.1 ∧ 0 ≤ t.1 ∧ t.1 ≤ 255 := by
  obtain ⟨h0, h1, h2⟩ := hp
  unfold spec_l1Byte.f
  simp only [i64_and255]
  refine Ret'.bif (fun c => ?_) (fun c => .some ⟨⟨h0, h1, h2⟩, by simp only; omega, by simp only; omega⟩)
  have c := of_decide_eq_true c
  rw [decide_eq_true h0, cond_true, decide_eq_true c, cond_true]
  exact .some ⟨by simp only; rw [w64_id (by omega)]; unfold Pos; omega, by simp only; omega, by simp only; omega⟩
theorem spec_l1Below_t (k : Nat) {l : List Int} {p : Int} (h : Int) (hp : Pos l p) (a : Int) (ha : 0 < a) : Ret' (spec_l1Below.f k l p h a) fun t => Pos l t.2.1 ∧ 0 ≤ t.1 ∧ t.1 < a := by
  unfold spec_l1Below.f
  rw [decide_eq_false (show ¬ a ≤ 0 by omega), cond_false]
  refine Ret'.bif (fun c => ?_) (fun c => ?_)
  · refine (spec_l1Byte_t k h hp).bind fun t ⟨q, b0, b1⟩ => ?_
    rw [decide_eq_false (show ¬ a = 0 by omega), cond_false]
    exact .some ⟨q, tmod_bd b0 ha⟩
  · refine (spec_l1Byte_t k h hp).bind fun t ⟨q, b0, b1⟩ => (spec_l1Byte_t k _ q).bind fun t2 ⟨q2, c0, c1⟩ => (spec_l1Byte_t k _ q2).bind fun t3 ⟨q3, d0, d1⟩ => ?_
    rw [decide_eq_false (show ¬ a = 0 by omega), cond_false, w64_id (n := t.1 * 65536) (by omega), w64_id (n := t2.1 * 256) (by omega), w64_id (n := t.1 * 65536 + t2.1 * 256) (by omega), w64_id (by omega)]
    exact .some ⟨q3, tmod_bd (by omega) ha⟩
theorem spec_l1In_e (k : Nat) (n a b : Int) : spec_l1In.f k n a b = some (inR n a b) := by
  unfold spec_l1In.f inR
  by_cases h : a ≤ n <;> simp [h]
def ltS (x y : T_impl_Stored) : Bool := decide (x.f0 < y.f0) || (decide (x.f0 = y.f0) && decide (x.f1 < y.f1))
def mtS (a b : Int) (x : T_impl_Stored) : Bool := (x.f0 == a) && (x.f1 == b)
def stOk (x : T_impl_Stored) : Bool := inR x.f0 1 5 && (inR x.f1 0 9 && (inR x.f2 0 999 && inR x.f3 1 999))
def prevOk (p : Option T_impl_Stored × T_impl_Stored) : Bool := stOk p.2 && (match p.1 with | none => true | some y => ltS y p.2)
def withPrev (l : List T_impl_Stored) : List (Option T_impl_Stored × T_impl_Stored) := (none :: l.map some).zip l
def storeV (l : List T_impl_Stored) : Bool := decide (l.length ≤ 24) && (withPrev l).all prevOk
abbrev AscS (l : List T_impl_Stored) : Prop := l.Pairwise fun x y => ltS x y = true
theorem ltS_iff {x y : T_impl_Stored} : ltS x y = true ↔ x.f0 < y.f0 ∨ (x.f0 = y.f0 ∧ x.f1 < y.f1) := by simp [ltS]
theorem ltS_no {x y : T_impl_Stored} : ltS x y = false ↔ ¬ (x.f0 < y.f0 ∨ (x.f0 = y.f0 ∧ x.f1 < y.f1)) := by rw [← ltS_iff]; simp
theorem mtS_iff {a b : Int} {x : T_impl_Stored} : mtS a b x = true ↔ x.f0 = a ∧ x.f1 = b := by simp [mtS]
theorem mtS_no {a b : Int} {x : T_impl_Stored} : mtS a b x = false ↔ ¬ (x.f0 = a ∧ x.f1 = b) := by rw [← mtS_iff]; simp
theorem ltS_trans {x y z : T_impl_Stored} (h : ltS x y = true) (k : ltS y z = true) : ltS x z = true := by rw [ltS_iff] at *; omega
theorem withPrev_len (l : List T_impl_Stored) : (withPrev l).length = l.length := by unfold withPrev; simp
theorem withPrev_at {l : List T_impl_Stored} {i : Nat} {p : Option T_impl_Stored × T_impl_Stored} (h : (withPrev l)[i]? = some p) : l[i]? = some p.2 ∧ (i = 0 ∧ p.1 = none ∨ ∃ j y, i = j + 1 ∧ l[j]? = some y ∧ p.1 = some y) := by
  unfold withPrev at h
  obtain ⟨h1, h2⟩ := List.getElem?_zip_eq_some.1 h
  refine ⟨h2, ?_⟩
  cases i with
  | zero => exact .inl ⟨rfl, (Option.some.inj h1).symm⟩
  | succ j =>
    rw [List.getElem?_cons_succ, List.getElem?_map] at h1
    obtain ⟨y, hy, e⟩ := Option.map_eq_some_iff.1 h1
    exact .inr ⟨j, y, rfl, hy, e.symm⟩
theorem prev_asc : ∀ (l : List T_impl_Stored) (o : Option T_impl_Stored), ((o :: l.map some).zip l).all prevOk = true → AscS l ∧ (∀ y, o = some y → ∀ x ∈ l, ltS y x = true) ∧ ∀ x ∈ l, stOk x = true
  | [], o, _ => ⟨List.Pairwise.nil, (fun _ _ x h => by simp at h), fun x h => by simp at h⟩
  | x :: l, o, h => by
    simp only [List.map_cons, List.zip_cons_cons, List.all_cons, Bool.and_eq_true] at h
    obtain ⟨h1, h2⟩ := h
    obtain ⟨q1, q2, q3⟩ := prev_asc l (some x) h2
    unfold prevOk at h1
    rw [Bool.and_eq_true] at h1
    refine ⟨List.pairwise_cons.2 ⟨fun y hy => q2 x rfl y hy, q1⟩, fun y hy z hz => ?_, fun z hz => ?_⟩
    · subst hy
      have h3 : ltS y x = true := h1.2
      rcases List.mem_cons.1 hz with rfl | hz
      · exact h3
      · exact ltS_trans h3 (q2 x rfl z hz)
    · rcases List.mem_cons.1 hz with rfl | hz
      · exact h1.1
      · exact q3 z hz
theorem store_asc {l : List T_impl_Stored} (h : storeV l = true) : AscS l ∧ (∀ x ∈ l, stOk x = true) ∧ l.length ≤ 24 := by
  unfold storeV at h
  rw [Bool.and_eq_true] at h
  obtain ⟨h1, _, h3⟩ := prev_asc l none h.2
  exact ⟨h1, h3, of_decide_eq_true h.1⟩
theorem asc_uniq {l : List T_impl_Stored} (h : AscS l) {x y : T_impl_Stored} (hx : x ∈ l) (hy : y ∈ l) (e0 : x.f0 = y.f0) (e1 : x.f1 = y.f1) : x = y := by
  obtain ⟨i, hi, rfl⟩ := List.mem_iff_getElem.1 hx
  obtain ⟨j, hj, rfl⟩ := List.mem_iff_getElem.1 hy
  by_cases hij : i = j
  · subst hij; rfl
  · rcases Nat.lt_or_gt_of_ne hij with h1 | h1
    · have := ltS_iff.1 (List.pairwise_iff_getElem.1 h i j hi hj h1); omega
    · have := ltS_iff.1 (List.pairwise_iff_getElem.1 h j i hj hi h1); omega
theorem perm_uniq : ∀ {l m : List T_impl_Stored}, AscS l → AscS m → l.Perm m → l = m := fun {l m} hl hm hp =>
  List.Perm.eq_of_pairwise (le := fun x y => ltS x y = true) (fun a b _ _ h1 h2 => by have := ltS_iff.1 h1; have := ltS_iff.1 h2; omega) hl hm hp
theorem spec_l24Less_e (k : Nat) (x y : T_impl_Stored) : spec_l24Less.f k x.f0 x.f1 x.f2 x.f3 y.f0 y.f1 y.f2 y.f3 = some (ltS x y) := by
  unfold spec_l24Less.f ltS
  by_cases h1 : x.f0 < y.f0
  · simp [h1]
  · by_cases h2 : x.f0 = y.f0
    · simp [h2]
    · rw [decide_eq_false h1, beqF h2, decide_eq_false h2]; rfl
theorem spec_IsStore_e {k : Nat} (hk : Big k) {l : List T_impl_Stored} (hl : Ok l) : spec_IsStore.f k l = some (storeV l) := by
  have hl' := hl.out
  unfold spec_IsStore.f storeV
  have hlen := withPrev_len l
  have := loop_all (spec_IsStore.l2 k l (fun y => some y) (fun _ => some (decide ((l.length : Int) ≤ 24)))) prevOk (some (decide ((l.length : Int) ≤ 24))) (some false) (withPrev l) (fun n i p hp => by
    obtain ⟨hx, hpr⟩ := withPrev_at hp
    obtain ⟨h1, h2, h3, h4⟩ := at_ hx (by omega)
    simp only [spec_IsStore.l2, spec_IsStore.L2, rd_impl_Stored, h1, h2, h3, h4, cond_true, spec_l1In_e, Option.bind_some]
    unfold prevOk stOk
    rcases hpr with ⟨rfl, e⟩ | ⟨j, y, rfl, hy, e⟩
    · rw [e, decide_eq_false (by omega)]
      cases inR p.2.f0 1 5 <;> cases inR p.2.f1 0 9 <;> cases inR p.2.f2 0 999 <;> cases inR p.2.f3 1 999 <;> rfl
    · obtain ⟨g1, g2, g3, g4⟩ := at_ hy (by omega)
      have hlt := lt_of hy
      rw [e, decide_eq_true (show ((j + 1 : Nat) : Int) > 0 by omega), w64_id (n := ((j + 1 : Nat) : Int) - 1) (by omega), show ((j + 1 : Nat) : Int) - 1 = (j : Int) by omega, g1, nn_]
      simp only [g4, spec_l24Less_e, Option.bind_some, cond_true]
      cases inR p.2.f0 1 5 <;> cases inR p.2.f1 0 9 <;> cases inR p.2.f2 0 999 <;> cases inR p.2.f3 1 999 <;> cases ltS y p.2 <;> rfl) (fun n => by rw [hlen]; simp only [spec_IsStore.l2, spec_IsStore.L2, end_, cond_false]) k (by rw [hlen]; exact hk.lt hl)
  rw [this, show decide ((l.length : Int) ≤ 24) = decide (l.length ≤ 24) by rw [decide_eq_decide]; omega]
  cases (withPrev l).all prevOk <;> cases decide (l.length ≤ 24) <;> rfl
theorem loop_tw {α R : Type} (l : Nat → Int → Option R) (p : α → Bool) (X : Int → Option R) (xs : List α)
    (hs : ∀ n (i : Nat) x, xs[i]? = some x → l (n + 1) (i : Int) = bif p x then l n ((i + 1 : Nat) : Int) else X (i : Int)) (he : ∀ n, l (n + 1) (xs.length : Int) = X (xs.length : Int)) (n : Nat) (hn : xs.length < n) :
    l n 0 = X ((xs.takeWhile p).length : Int) := by
  have key : ∀ (suf pre : List α) n, xs = pre ++ suf → suf.length < n → l n (pre.length : Int) = X ((pre.length + (suf.takeWhile p).length : Nat) : Int) := by
    intro suf
    induction suf with
    | nil =>
      intro pre n hx hn
      obtain ⟨n, rfl⟩ : ∃ q, n = q + 1 := ⟨n - 1, by simp at hn; omega⟩
      have e : pre.length = xs.length := by rw [hx]; simp
      rw [e, he n]
      rfl
    | cons x suf ih =>
      intro pre n hx hn
      obtain ⟨n, rfl⟩ : ∃ q, n = q + 1 := ⟨n - 1, by simp at hn; omega⟩
      have hg : xs[pre.length]? = some x := by rw [hx]; simp
      rw [hs n pre.length x hg]
      cases hp : p x with
      | true =>
        have := ih (pre ++ [x]) n (by rw [hx]; simp) (by simp at hn; omega)
        rw [List.takeWhile_cons_of_pos hp, cond_true]
        simp only [List.length_append, List.length_cons, List.length_nil] at this ⊢
        rw [this]
        congr 2
        omega
      | false =>
        rw [List.takeWhile_cons_of_neg (by simp [hp])]
        rfl
  have := key xs [] n rfl hn
  simpa using this
def plN (l : List T_impl_Stored) (a b : Int) : Nat := (l.takeWhile fun x => !mtS a b x).length
def plV (l : List T_impl_Stored) (a b : Int) : Int := bif decide (plN l a b < l.length) then (plN l a b : Int) else -1
theorem plN_le (l : List T_impl_Stored) (a b : Int) : plN l a b ≤ l.length := by unfold plN; exact (List.takeWhile_sublist _).length_le
theorem tw_split {α : Type} (p : α → Bool) : ∀ l : List α, (l.takeWhile p).length < l.length → ∃ A y B, l = A ++ y :: B ∧ A = l.takeWhile p ∧ p y = false ∧ B = l.drop ((l.takeWhile p).length + 1) ∧ ∀ a ∈ A, p a = true
  | [], h => by simp at h
  | x :: l, h => by
    cases hx : p x with
    | false =>
      rw [List.takeWhile_cons_of_neg (by simp [hx])]
      exact ⟨[], x, l, rfl, rfl, hx, rfl, fun a ha => by cases ha⟩
    | true =>
      rw [List.takeWhile_cons_of_pos hx] at h ⊢
      obtain ⟨A, y, B, e, e1, e2, e3, e4⟩ := tw_split p l (by simpa using h)
      refine ⟨x :: A, y, B, by rw [e]; rfl, by rw [← e1], e2, by simpa using e3, fun a ha => ?_⟩
      rcases List.mem_cons.1 ha with rfl | ha
      · exact hx
      · exact e4 a ha
theorem tw_all {α : Type} (p : α → Bool) : ∀ l : List α, (l.takeWhile p).length = l.length → ∀ a ∈ l, p a = true
  | [], _, a, ha => by cases ha
  | x :: l, h, a, ha => by
    cases hx : p x with
    | false => rw [List.takeWhile_cons_of_neg (by simp [hx])] at h; simp at h
    | true =>
      rw [List.takeWhile_cons_of_pos hx] at h
      rcases List.mem_cons.1 ha with rfl | ha
      · exact hx
      · exact tw_all p l (by simpa using h) a ha
theorem plN_at {l : List T_impl_Stored} {a b : Int} (h : plN l a b < l.length) : ∃ A y B, l = A ++ y :: B ∧ plN l a b = A.length ∧ y.f0 = a ∧ y.f1 = b ∧ rd_impl_Stored l (plN l a b : Int) = y := by
  obtain ⟨A, y, B, e, e1, e2, e3, e4⟩ := tw_split (fun x => !mtS a b x) l h
  have e2 := mtS_iff.1 (by simpa using e2 : mtS a b y = true)
  refine ⟨A, y, B, e, by unfold plN; rw [← e1], e2.1, e2.2, ?_⟩
  have hp : plN l a b = A.length := by unfold plN; rw [← e1]
  rw [hp]
  show l.getD A.length z_impl_Stored = y
  rw [List.getD_eq_getElem?_getD, e]
  simp
theorem plN_none {l : List T_impl_Stored} {a b : Int} (h : ¬ plN l a b < l.length) : ∀ y ∈ l, ¬ (y.f0 = a ∧ y.f1 = b) := fun y hy => by
  have := tw_all (fun x => !mtS a b x) l (by have := plN_le l a b; unfold plN at this h; omega) y hy
  exact mtS_no.1 (by simpa using this)
theorem spec_l24Find_e {k : Nat} (hk : Big k) {l : List T_impl_Stored} (hl : Ok l) (a b : Int) : spec_l24Find.f k l a b = some (plV l a b) := by
  have hl' := hl.out
  unfold spec_l24Find.f
  have := loop_tw (spec_l24Find.l2 k a b l (fun y => some y) (fun _ => some (-1))) (fun x => !mtS a b x) (fun i => bif decide (i < (l.length : Int)) then some i else some (-1)) l (fun n i x hx => by
    obtain ⟨h1, h2, h3, h4⟩ := at_ hx (by omega)
    simp only [spec_l24Find.l2, spec_l24Find.L2, rd_impl_Stored, h1, h2, h3, h4, cond_true, mtS]
    cases x.f0 == a <;> cases x.f1 == b <;> rfl) (fun n => by simp only [spec_l24Find.l2, spec_l24Find.L2, end_, cond_false]) k (hk.lt hl)
  rw [this]
  unfold plV plN
  rw [show decide ((((l.takeWhile fun x => !mtS a b x).length : Nat) : Int) < (l.length : Int)) = decide ((l.takeWhile fun x => !mtS a b x).length < l.length) by rw [decide_eq_decide]; omega]
  cases decide ((l.takeWhile fun x => !mtS a b x).length < l.length) <;> rfl
def setN (l : List T_impl_Stored) (x : T_impl_Stored) : Nat := (l.takeWhile fun y => ltS y x).length
def setV (l : List T_impl_Stored) (x : T_impl_Stored) : List T_impl_Stored := l.takeWhile (fun y => ltS y x) ++ [x] ++ (bif decide (setN l x < l.length) && !ltS x (rd_impl_Stored l (setN l x : Int)) then l.drop (setN l x + 1) else l.drop (setN l x))
theorem setN_le (l : List T_impl_Stored) (x : T_impl_Stored) : setN l x ≤ l.length := by unfold setN; exact (List.takeWhile_sublist _).length_le
theorem setV_len (l : List T_impl_Stored) (x : T_impl_Stored) : (setV l x).length ≤ l.length + 1 := by
  have h := setN_le l x
  have e : (l.takeWhile fun y => ltS y x).length = setN l x := rfl
  unfold setV
  cases decide (setN l x < l.length) && !ltS x (rd_impl_Stored l (setN l x : Int))
  · simp only [cond_false, List.length_append, List.length_cons, List.length_nil, List.length_drop, e]; omega
  · simp only [cond_true, List.length_append, List.length_cons, List.length_nil, List.length_drop, e]; omega
/-- A new entry: the list stays in order, and holds it too. -/
theorem setV_new {s : List T_impl_Stored} (h : AscS s) {x : T_impl_Stored} (hn : ∀ y ∈ s, ¬ (y.f0 = x.f0 ∧ y.f1 = x.f1)) : AscS (setV s x) ∧ (setV s x).Perm (s ++ [x]) := by
  unfold setV
  by_cases hlt : setN s x < s.length
  · obtain ⟨A, y, B, e, e1, e2, e3, e4⟩ := tw_split (fun y => ltS y x) s hlt
    have hN : setN s x = A.length := by unfold setN; rw [← e1]
    have hrd : rd_impl_Stored s (setN s x : Int) = y := by
      rw [hN]
      show s.getD A.length z_impl_Stored = y
      rw [List.getD_eq_getElem?_getD, e]; simp
    have hy : y ∈ s := by rw [e]; simp
    have hxy : ltS x y = true := by
      have h1 := ltS_no.1 e2
      have h2 := hn y hy
      rw [ltS_iff]; omega
    rw [decide_eq_true hlt, hrd, hxy, ← e1]
    have hd : s.drop (setN s x) = y :: B := by rw [hN, e]; simp
    simp only [Bool.not_true, Bool.and_false, cond_false, hd]
    rw [e] at h
    obtain ⟨p1, p2, p3⟩ := List.pairwise_append.1 h
    obtain ⟨p4, p5⟩ := List.pairwise_cons.1 p2
    refine ⟨?_, ?_⟩
    · rw [List.append_assoc]
      refine List.pairwise_append.2 ⟨p1, List.pairwise_cons.2 ⟨fun z hz => ?_, p2⟩, fun a ha z hz => ?_⟩
      · rcases List.mem_cons.1 hz with rfl | hz
        · exact hxy
        · exact ltS_trans hxy (p4 z hz)
      · rcases List.mem_cons.1 hz with rfl | hz
        · exact e4 a ha
        · exact p3 a ha z hz
    · rw [e, List.append_assoc, List.append_assoc]
      refine List.Perm.append_left A ?_
      rw [List.singleton_append]
      exact (List.perm_append_singleton x (y :: B)).symm
  · have hall := tw_all (fun y => ltS y x) s (by have := setN_le s x; unfold setN at this hlt; omega)
    have e1 : s.takeWhile (fun y => ltS y x) = s := (List.takeWhile_sublist _).eq_of_length (by have := setN_le s x; unfold setN at this hlt; omega)
    rw [decide_eq_false hlt, e1]
    have hd : s.drop (setN s x) = [] := List.drop_eq_nil_of_le (by omega)
    simp only [Bool.false_and, cond_false, hd, List.append_nil]
    refine ⟨List.pairwise_append.2 ⟨h, List.pairwise_singleton _ _, fun a ha z hz => ?_⟩, List.Perm.refl _⟩
    obtain rfl := List.mem_singleton.1 hz
    exact hall a ha
/-- An entry that is there already is put in its place. -/
theorem setV_old {s : List T_impl_Stored} (h : AscS s) {x y : T_impl_Stored} (hy : y ∈ s) (e0 : y.f0 = x.f0) (e1' : y.f1 = x.f1) : AscS (setV s x) ∧ ∃ A B, s = A ++ y :: B ∧ setV s x = A ++ x :: B := by
  have hyx : ltS y x = false := ltS_no.2 (by omega)
  have hlt : setN s x < s.length := by
    by_cases hlt : setN s x < s.length
    · exact hlt
    · have := tw_all (fun y => ltS y x) s (by have := setN_le s x; unfold setN at this hlt; omega) y hy
      rw [show ltS y x = true from this] at hyx
      cases hyx
  obtain ⟨A, z, B, e, e1, e2, e3, e4⟩ := tw_split (fun y => ltS y x) s hlt
  have hN : setN s x = A.length := by unfold setN; rw [← e1]
  rw [e] at h hy
  obtain ⟨p1, p2, p3⟩ := List.pairwise_append.1 h
  obtain ⟨p4, p5⟩ := List.pairwise_cons.1 p2
  have hyz : y = z := by
    rcases List.mem_append.1 hy with hy | hy
    · rw [show ltS y x = true from e4 y hy] at hyx; cases hyx
    · rcases List.mem_cons.1 hy with hy | hy
      · exact hy
      · have h3 := ltS_iff.1 (p4 y hy)
        have h4 := ltS_no.1 e2
        omega
  subst hyz
  have hrd : rd_impl_Stored s (setN s x : Int) = y := by
    rw [hN]
    show s.getD A.length z_impl_Stored = y
    rw [List.getD_eq_getElem?_getD, e]; simp
  have hxy : ltS x y = false := ltS_no.2 (by omega)
  have hs : setV s x = A ++ x :: B := by
    unfold setV
    have e3' : B = s.drop (setN s x + 1) := e3
    rw [decide_eq_true hlt, hrd, hxy, ← e1]
    simp only [Bool.not_false, Bool.and_true, cond_true, ← e3', List.append_assoc, List.singleton_append]
  refine ⟨?_, A, B, e, hs⟩
  rw [hs]
  refine List.pairwise_append.2 ⟨p1, List.pairwise_cons.2 ⟨fun w hw => ?_, p5⟩, fun a ha w hw => ?_⟩
  · have := ltS_iff.1 (p4 w hw); rw [ltS_iff]; omega
  · rcases List.mem_cons.1 hw with rfl | hw
    · exact e4 a ha
    · exact p3 a ha w (List.mem_cons_of_mem _ hw)
theorem loop_tw_acc {α R : Type} (l : Nat → Int → List α → Option R) (p : α → Bool) (X : Int → List α → Option R) (xs : List α)
    (hs : ∀ n (i : Nat) x acc, xs[i]? = some x → acc.length = i → l (n + 1) (i : Int) acc = bif p x then l n ((i + 1 : Nat) : Int) (acc ++ [x]) else X (i : Int) acc) (he : ∀ n acc, l (n + 1) (xs.length : Int) acc = X (xs.length : Int) acc) (n : Nat) (hn : xs.length < n) :
    l n 0 [] = X ((xs.takeWhile p).length : Int) (xs.takeWhile p) := by
  have key : ∀ (suf pre : List α) n, xs = pre ++ suf → suf.length < n → l n (pre.length : Int) pre = X ((pre.length + (suf.takeWhile p).length : Nat) : Int) (pre ++ suf.takeWhile p) := by
    intro suf
    induction suf with
    | nil =>
      intro pre n hx hn
      obtain ⟨n, rfl⟩ : ∃ q, n = q + 1 := ⟨n - 1, by simp at hn; omega⟩
      have e : pre.length = xs.length := by rw [hx]; simp
      rw [e, he n]
      simp
    | cons x suf ih =>
      intro pre n hx hn
      obtain ⟨n, rfl⟩ : ∃ q, n = q + 1 := ⟨n - 1, by simp at hn; omega⟩
      have hg : xs[pre.length]? = some x := by rw [hx]; simp
      rw [hs n pre.length x pre hg rfl]
      cases hp : p x with
      | true =>
        have := ih (pre ++ [x]) n (by rw [hx]; simp) (by simp at hn; omega)
        rw [List.takeWhile_cons_of_pos hp, cond_true]
        simp only [List.length_append, List.length_cons, List.length_nil, List.append_assoc, List.singleton_append] at this ⊢
        rw [this]
        congr 2
        omega
      | false =>
        rw [List.takeWhile_cons_of_neg (by simp [hp])]
        simp
  have := key xs [] n rfl hn
  simpa using this
theorem spec_l24Set_e {k : Nat} (hk : Big k) {l : List T_impl_Stored} (hl : Ok l) (x : T_impl_Stored) : spec_l24Set.f k l x.f0 x.f1 x.f2 x.f3 = some (setV l x) := by
  have hl' := hl.out
  have hN := setN_le l x
  have key : ∀ X : Int → List T_impl_Stored → Option (List T_impl_Stored), spec_l24Set.l3 k l x.f0 x.f1 x.f2 x.f3 X k 0 [] = X ((setN l x : Nat) : Int) (l.takeWhile fun y => ltS y x) := fun X => loop_tw_acc (fun q i s => spec_l24Set.l3 k l x.f0 x.f1 x.f2 x.f3 X q i s) (fun y => ltS y x) X l (fun n i y acc hy ha => by
    have hlt := lt_of hy
    obtain ⟨h1, h2, h3, h4⟩ := at_ hy (by omega)
    simp only [spec_l24Set.l3, spec_l24Set.L3, rd_impl_Stored, h1, h2, h3, h4, cond_true, spec_l24Less_e, Option.bind_some]
    rw [decide_eq_true (by unfold cap48; simp; omega), cond_true]) (fun n acc => by simp only [spec_l24Set.l3, spec_l24Set.L3, end_, cond_false]) k (hk.lt hl)
  unfold spec_l24Set.f
  rw [key]
  clear key
  unfold setV
  have hA : (l.takeWhile fun y => ltS y x).length = setN l x := rfl
  generalize (l.takeWhile fun y => ltS y x) = A at hA
  generalize setN l x = n at hA hN
  have g1 : decide ((A.length + ([(⟨x.f0, x.f1, x.f2, x.f3⟩ : T_impl_Stored)] : List T_impl_Stored).length) * 32 ≤ cap48) = true := decide_eq_true (by unfold cap48; simp; omega)
  have g2 : decide (((A ++ [(⟨x.f0, x.f1, x.f2, x.f3⟩ : T_impl_Stored)]).length + ((l.take l.length).drop (n + 1)).length) * 32 ≤ cap48) = true := decide_eq_true (by unfold cap48; simp; omega)
  have g3 : decide (((A ++ [(⟨x.f0, x.f1, x.f2, x.f3⟩ : T_impl_Stored)]).length + ((l.take l.length).drop n).length) * 32 ≤ cap48) = true := decide_eq_true (by unfold cap48; simp; omega)
  have w1 : w64 ((n : Int) + 1) = ((n + 1 : Nat) : Int) := by rw [w64_id (by omega)]; omega
  by_cases h : n < l.length
  · simp only [nn_, cond_true, Int.toNat_natCast, Int.le_refl, decide_true, decide_eq_true (show (n : Int) ≤ (l.length : Int) by omega), decide_eq_true (show (n : Int) < (l.length : Int) by omega), w1, decide_eq_true (show ((n + 1 : Nat) : Int) ≤ (l.length : Int) by omega), g1, g2, g3, decide_eq_true h, Bool.true_and, spec_l24Less_e, Option.bind_some]
    cases ltS x (rd_impl_Stored l (n : Int)) <;> simp [List.take_length]
  · simp only [nn_, cond_true, Int.toNat_natCast, Int.le_refl, decide_true, decide_eq_true (show (n : Int) ≤ (l.length : Int) by omega), decide_eq_false (show ¬ (n : Int) < (l.length : Int) by omega), cond_false, g1, g3, decide_eq_false h, Bool.false_and]
    simp [List.take_length]
theorem spec_PutStored_t {k : Nat} (hk : Big k) {l : List T_impl_Stored} (hl : l.length ≤ 1000000) (a b c : Int) : Ret' (spec_PutStored.f k l a b c) fun t => t.2.length ≤ l.length + 1 := by
  have ol : Ok l := by unfold Ok; omega
  have hcap : decide ((([] : List T_impl_Stored).length + l.length) * 32 ≤ cap48) = true := decide_eq_true (by unfold cap48; simp; omega)
  have hs : ∀ v, spec_l24Set.f k l a b c v = some (setV l ⟨a, b, c, v⟩) := fun v => spec_l24Set_e hk ol ⟨a, b, c, v⟩
  have oS : ∀ v, Ok (setV l ⟨a, b, c, v⟩) := fun v => by have := setV_len l ⟨a, b, c, v⟩; unfold Ok; omega
  unfold spec_PutStored.f
  rw [spec_IsStore_e hk ol, Option.bind_some, spec_l24Find_e hk ol, Option.bind_some]
  simp only [hcap, cond_true, hs, Option.bind_some, spec_IsStore_e hk (oS _)]
  unfold plV
  by_cases h : plN l a b < l.length
  · rw [decide_eq_true h, cond_true, decide_eq_true (show (plN l a b : Int) ≥ 0 by omega), decide_eq_true (show (plN l a b : Int) < (l.length : Int) by omega)]
    simp only [cond_true]
    exact .bif (fun _ => .some (by simp)) fun _ => .bif (fun _ => .some (by simp)) fun _ => .some (setV_len l _)
  · rw [decide_eq_false h, cond_false, decide_eq_false (show ¬ (-1 : Int) ≥ 0 by omega), cond_false]
    exact .bif (fun _ => .some (by simp)) fun _ => .bif (fun _ => .some (by simp)) fun _ => .some (setV_len l _)
theorem loop_dn {σ R : Type} (l : Nat → Int → σ → Option R) (I : Nat → σ → Prop) (Q : R → Prop) (hs : ∀ q (n : Nat) s, I (n + 1) s → (∀ s', I n s' → Ret' (l q (n : Int) s') Q) → Ret' (l (q + 1) ((n + 1 : Nat) : Int) s) Q)
    (he : ∀ q s, I 0 s → Ret' (l (q + 1) 0 s) Q) : ∀ (n q : Nat) s, n < q → I n s → Ret' (l q (n : Int) s) Q := by
  intro n
  induction n with
  | zero =>
    intro q s hq hI
    obtain ⟨q, rfl⟩ : ∃ j, q = j + 1 := ⟨q - 1, by omega⟩
    exact he q s hI
  | succ n ih =>
    intro q s hq hI
    obtain ⟨q, rfl⟩ : ∃ j, q = j + 1 := ⟨q - 1, by omega⟩
    exact hs q n s hI fun s' h' => ih q s' (by omega) h'
theorem loop_down {σ R : Type} (l : Nat → Int → Int → Int → List σ → Option R) (B : Nat) (I : Int → Prop) (Q : R → Prop)
    (hs : ∀ q (n : Nat) p h s, I p → s.length + (n + 1) ≤ B → (∀ p' h' x, I p' → Ret' (l q (n : Int) p' h' (s ++ [x])) Q) → Ret' (l (q + 1) ((n + 1 : Nat) : Int) p h s) Q)
    (he : ∀ q p h s, I p → s.length ≤ B → Ret' (l (q + 1) 0 p h s) Q) : ∀ (n q : Nat) p h s, n < q → I p → s.length + n ≤ B → Ret' (l q (n : Int) p h s) Q := by
  intro n
  induction n with
  | zero =>
    intro q p h s hq hp hb
    obtain ⟨q, rfl⟩ : ∃ j, q = j + 1 := ⟨q - 1, by omega⟩
    exact he q p h s hp hb
  | succ n ih =>
    intro q p h s hq hp hb
    obtain ⟨q, rfl⟩ : ∃ j, q = j + 1 := ⟨q - 1, by omega⟩
    exact hs q n p h s hp hb fun p' h' x hp' => ih q p' h' (s ++ [x]) (by omega) hp' (by simp; omega)
theorem down1 (n : Nat) (hn : n ≤ 1000000) : w64 (((n + 1 : Nat) : Int) - 1) = (n : Int) := by rw [w64_id (by omega)]; omega
theorem down_gt (n : Nat) : decide (((n + 1 : Nat) : Int) > 0) = true := decide_eq_true (by omega)
theorem spec_l24Draw_t {k : Nat} (hk : Big k) {l : List Int} {p : Int} (h : Int) (hp : Pos l p) : Ret' (spec_l24Draw.f k l p h) fun t => Pos l t.1 ∧ t.2.2.length ≤ 20 := by
  have hk' := hk.out
  unfold spec_l24Draw.f
  refine (spec_l1Below_t k h hp 9 (by decide)).bind fun t ⟨q, b0, b1⟩ => ?_
  obtain ⟨n, hn⟩ := Int.eq_ofNat_of_zero_le b0
  rw [hn]
  refine loop_dn (fun q i (s : Int × Int × List T_impl_Stored) => spec_l24Draw.l3 k l (fun y6 y7 y8 => some (y6, y7, y8)) q i s.1 s.2.1 s.2.2) (fun n s => Pos l s.1 ∧ s.2.2.length + n ≤ 20) _ (fun q n s hI ih => ?_) (fun q s hI => ?_) n k (t.2.1, t.2.2, []) (by omega) ⟨q, by simp; omega⟩
  · simp only [spec_l24Draw.l3, spec_l24Draw.L3, down_gt, cond_true, down1 n (by omega)]
    refine (spec_l1Below_t k _ hI.1 3 (by decide)).bind fun t1 ⟨q, _⟩ => (spec_l1Below_t k _ q 4 (by decide)).bind fun t2 ⟨q, _⟩ => (spec_l1Below_t k _ q 9 (by decide)).bind fun t3 ⟨q, _⟩ => (spec_PutStored_t hk (by omega) _ _ _).bind fun t4 h4 => ?_
    exact ih (t3.2.1, t3.2.2, t4.2) ⟨q, by simp only; omega⟩
  · exact .some ⟨hI.1, hI.2⟩
theorem spec_l1Once_t (k : Nat) {l : List Int} {p : Int} (h : Int) (hp : Pos l p) (a : Int) (ha : 0 < a) : Ret' (spec_l1Once.f k l p h a) fun t => Pos l t.2.1 := by
  unfold spec_l1Once.f
  exact (spec_l1Below_t k h hp a ha).bind fun t ⟨q, _⟩ => .some q
theorem spec_l25Copy_e (k : Nat) (q : Bool) {b o : List T_impl_Stored} (hb : Ok b) (ho : Ok o) : spec_l25Copy.f k q b o = some (q, b, o) := by
  have hb' := hb.out
  have ho' := ho.out
  unfold spec_l25Copy.f
  rw [decide_eq_true (by unfold cap48; simp; omega), decide_eq_true (by unfold cap48; simp; omega)]
  rfl
theorem spec_OpenWindow_t {k : Nat} (hk : Big k) {b : List T_impl_Stored} (hb : Ok b) (q : Bool) : Ret' (spec_OpenWindow.f k b q) fun t => t.2.1.length ≤ b.length ∧ t.2.2.length = 0 := by
  unfold spec_OpenWindow.f
  rw [spec_IsStore_e hk hb, Option.bind_some, spec_l25Copy_e k q hb (Ok.small 0 (Nat.le_refl _))]
  exact .bif (fun _ => .some ⟨Nat.zero_le _, rfl⟩) fun _ => .some ⟨Nat.le_refl _, rfl⟩
theorem spec_WriteWindow_t {k : Nat} (hk : Big k) (q : Bool) {b o : List T_impl_Stored} (hb : b.length ≤ 1000000) (ho : o.length ≤ 1000000) (x y v : Int) : Ret' (spec_WriteWindow.f k q b o x y v) fun t => t.2.2.1.length ≤ b.length + 1 ∧ t.2.2.2.length ≤ o.length + 1 := by
  unfold spec_WriteWindow.f
  rw [spec_l25Copy_e k q (by unfold Ok; omega) (by unfold Ok; omega), Option.bind_some]
  exact .bif (fun _ => (spec_PutStored_t hk ho x y v).bind fun t h => .bif (fun _ => .some ⟨Nat.le_succ _, Nat.le_succ _⟩) fun _ => .bif (fun _ => .some ⟨Nat.le_succ _, h⟩) fun c => by simp_all) fun c => (spec_PutStored_t hk hb x y v).bind fun t h => .bif (fun _ => .some ⟨Nat.le_succ _, Nat.le_succ _⟩) fun _ => .bif (fun c2 => by simp_all) fun _ => .some ⟨h, Nat.le_succ _⟩
theorem spec_l25Draw_t {k : Nat} (hk : Big k) {l : List Int} {p : Int} (h : Int) (hp : Pos l p) : Ret' (spec_l25Draw.f k l p h) fun t => Pos l t.2.1 ∧ t.2.2.2.1.length ≤ 40 ∧ t.2.2.2.2.length ≤ 40 := by
  have hk' := hk.out
  unfold spec_l25Draw.f
  refine (spec_l24Draw_t hk h hp).bind fun t1 ⟨q, h1⟩ => (spec_l1Once_t k _ q 2 (by decide)).bind fun t2 q => (spec_OpenWindow_t hk (Ok.small 20 h1) _).bind fun t3 ⟨h3, h4⟩ => (spec_l1Below_t k _ q 4 (by decide)).bind fun t ⟨q, b0, b1⟩ => ?_
  obtain ⟨n, hn⟩ := Int.eq_ofNat_of_zero_le b0
  rw [hn]
  refine loop_dn (fun q i (s : Int × Int × Bool × List T_impl_Stored × List T_impl_Stored) => spec_l25Draw.l3 k l false [] [] (fun y9 y10 y11 y12 y13 => some (y11, y9, y10, y12, y13)) q i s.1 s.2.1 s.2.2.1 s.2.2.2.1 s.2.2.2.2) (fun n s => Pos l s.1 ∧ s.2.2.2.1.length + n ≤ 40 ∧ s.2.2.2.2.length + n ≤ 40) _ (fun q n s hI ih => ?_) (fun q s hI => ?_) n k (t.2.1, t.2.2, t3.1, t3.2.1, t3.2.2) (by omega) ⟨q, by simp only; omega, by simp only; omega⟩
  · simp only [spec_l25Draw.l3, spec_l25Draw.L3, down_gt, cond_true, down1 n (by omega)]
    refine (spec_l1Below_t k _ hI.1 3 (by decide)).bind fun t1 ⟨q, _⟩ => (spec_l1Below_t k _ q 4 (by decide)).bind fun t2 ⟨q, _⟩ => (spec_l1Below_t k _ q 9 (by decide)).bind fun t3 ⟨q, _⟩ => (spec_WriteWindow_t hk _ (by omega) (by omega) _ _ _).bind fun t4 h4 => ?_
    exact ih (t3.2.1, t3.2.2, t4.1, t4.2.2.1, t4.2.2.2) ⟨q, by simp only; omega, by simp only; omega⟩
  · exact .some hI
theorem spec_l1New_l {l : List Int} (hl : Ok l) (k : Nat) : ∀ (n q : Nat) (h : Int) (i : Nat), 4000 ≤ i + n → i ≤ 4000 → n < q → Ret' (spec_l1New.l3 k l (fun y => some ((0 : Int), y)) q h (i : Int)) fun t => t.1 = 0 := by
  have hl' := hl.out
  intro n
  induction n with
  | zero =>
    intro q h i h1 h2 hq
    obtain ⟨q, rfl⟩ : ∃ j, q = j + 1 := ⟨q - 1, by omega⟩
    simp only [spec_l1New.l3, spec_l1New.L3]
    refine Ret'.bif (fun c => ?_) (fun c => .some rfl)
    rw [decide_eq_false (show ¬ ((i : Int) < 4000) by omega)]
    exact .some rfl
  | succ n ih =>
    intro q h i h1 h2 hq
    obtain ⟨q, rfl⟩ : ∃ j, q = j + 1 := ⟨q - 1, by omega⟩
    simp only [spec_l1New.l3, spec_l1New.L3]
    refine Ret'.bif (fun c => ?_) (fun c => .some rfl)
    refine Ret'.bif (fun c2 => ?_) (fun c2 => .some rfl)
    have c2 := of_decide_eq_true c2
    rw [nn_, cond_true, c, cond_true, w64_id (n := (i : Int) + 1) (by omega)]
    exact ih q _ (i + 1) (by omega) (by omega) (by omega)
theorem spec_l1New_t {k : Nat} (hk : Big k) {l : List Int} (hl : Ok l) : Ret' (spec_l1New.f k l) fun t => Pos l t.1 := by
  have hl' := hl.out
  have hk' := hk.out
  unfold spec_l1New.f
  exact (spec_l1New_l hl k 4000 k _ 0 (by omega) (by omega) (by omega)).imp fun t ht => by rw [ht]; unfold Pos; omega
theorem spec_DrawReadWindow_t {k : Nat} (hk : Big k) {l : List Int} (hl : Ok l) : Ret' (spec_DrawReadWindow.f k l) fun t => t.2.2.2.1.length ≤ 40 ∧ t.2.2.2.2.length ≤ 40 := by
  unfold spec_DrawReadWindow.f
  exact (spec_l1New_t hk hl).bind fun t1 q => (spec_l25Draw_t hk _ q).bind fun t2 ⟨q, h⟩ => (spec_l1Below_t k _ q 3 (by decide)).bind fun t3 ⟨q, _⟩ => (spec_l1Below_t k _ q 5 (by decide)).bind fun t4 _ => .some h
theorem spec_l1Int_m (k : Nat) {l : List Int} {p : Int} (h : Int) (hp : Pos l p) (xs : List Int) (hx : 0 < (xs.length : Int)) : Ret' (spec_l1Int.f k l p h xs) fun t => Pos l t.2.1 ∧ t.1 ∈ xs := by
  unfold spec_l1Int.f
  refine (spec_l1Below_t k h hp _ hx).bind fun t ⟨q, b0, b1⟩ => ?_
  rw [decide_eq_true b0, cond_true, decide_eq_true b1, cond_true]
  refine .some ⟨q, ?_⟩
  obtain ⟨n, hn⟩ := Int.eq_ofNat_of_zero_le b0
  have hlt : n < xs.length := by omega
  simp only [rd_i64, hn]
  show xs.getD n z_i64 ∈ xs
  rw [List.getD_eq_getElem?_getD, List.getElem?_eq_getElem hlt]
  exact List.getElem_mem hlt
theorem spec_DrawWriteWindow_t {k : Nat} (hk : Big k) {l : List Int} (hl : Ok l) : Ret' (spec_DrawWriteWindow.f k l) fun t => t.2.2.2.2.1.length ≤ 40 ∧ t.2.2.2.2.2.length ≤ 40 := by
  unfold spec_DrawWriteWindow.f
  exact (spec_DrawReadWindow_t hk hl).bind fun t1 h => (spec_l1New_t hk hl).bind fun t2 q => (spec_l1Int_m k _ q _ (by decide)).bind fun t3 _ => .some h
theorem spec_l9Raw_t (k : Nat) {l : List Int} {p : Int} (h : Int) (hp : Pos l p) : Ret' (spec_l9Raw.f k l p h) fun t => Pos l t.2.1 := by
  unfold spec_l9Raw.f
  exact (spec_l1Int_m k h hp _ (by decide)).bind fun t ⟨q, _⟩ => .some q
theorem spec_l24Any_t {k : Nat} (hk : Big k) {l : List Int} {p : Int} (h : Int) (hp : Pos l p) : Ret' (spec_l24Any.f k l p h) fun t => Pos l t.1 ∧ t.2.2.length ≤ 21 := by
  unfold spec_l24Any.f
  refine (spec_l24Draw_t hk h hp).bind fun t1 ⟨q, hl⟩ => .bif (fun _ => .some ⟨q, Nat.le_succ_of_le hl⟩) fun c => ?_
  have c : ¬ ((t1.2.2.length : Int) = 0) := by simpa using c
  have hset : ∀ (i : Nat) (x : T_impl_Stored), (t1.2.2.set i x).length ≤ 21 := fun i x => by simp; omega
  refine (spec_l1Below_t k _ q _ (by omega)).bind fun t2 ⟨q, b0, b1⟩ => (spec_l1Below_t k _ q 9 (by decide)).bind fun t3 ⟨q, _⟩ => ?_
  simp only [decide_eq_true b0, decide_eq_true b1, cond_true]
  exact .bif (fun _ => (spec_l9Raw_t k _ q).bind fun t q => .some ⟨q, hset _ _⟩) fun _ => .bif (fun _ => (spec_l1Int_m k _ q _ (by decide)).bind fun t q => .some ⟨q.1, hset _ _⟩) fun _ =>
    .bif (fun _ => (spec_l1Int_m k _ q _ (by decide)).bind fun t q => .some ⟨q.1, hset _ _⟩) fun _ => .bif (fun _ => by
      rw [decide_eq_true (show (0 : Int) ≤ 0 by omega), cond_true, decide_eq_true (by omega), cond_true, decide_eq_true (by unfold cap48; simp; omega), cond_true]
      exact .some ⟨q, by simp; omega⟩) fun _ => .some ⟨q, Nat.le_succ_of_le hl⟩
theorem spec_DrawOpenWindow_t {k : Nat} (hk : Big k) {l : List Int} (hl : Ok l) : Ret' (spec_DrawOpenWindow.f k l) fun t => t.2.length ≤ 21 := by
  unfold spec_DrawOpenWindow.f
  exact (spec_l1New_t hk hl).bind fun t1 q => (spec_l24Any_t hk _ q).bind fun t2 ⟨q, h2⟩ => (spec_l1Once_t k _ q 2 (by decide)).bind fun t3 _ => .some h2
def putM (l : List T_impl_Stored) (a b c : Int) : List T_impl_Stored :=
  bif decide (plN l a b < l.length) then l.set (plN l a b) ⟨a, b, c, w64 ((rd_impl_Stored l (plN l a b : Int)).f3 + 1)⟩ else l.take (setN l ⟨a, b, c, 1⟩) ++ [⟨a, b, c, 1⟩] ++ l.drop (setN l ⟨a, b, c, 1⟩)
def putI (l : List T_impl_Stored) (a b c : Int) : Bool × List T_impl_Stored := bif storeV (putM l a b c) then (true, putM l a b c) else (false, l)
theorem putM_len (l : List T_impl_Stored) (a b c : Int) : (putM l a b c).length ≤ l.length + 1 := by
  unfold putM
  have := setN_le l ⟨a, b, c, 1⟩
  cases decide (plN l a b < l.length)
  · simp only [cond_false, List.length_append, List.length_take, List.length_drop, List.length_cons, List.length_nil]; omega
  · simp
theorem putI_len (l : List T_impl_Stored) (a b c : Int) : (putI l a b c).2.length ≤ l.length + 1 := by
  unfold putI
  cases storeV (putM l a b c)
  · exact Nat.le_succ _
  · exact putM_len l a b c
theorem plN_app {A B : List T_impl_Stored} {y : T_impl_Stored} {a b : Int} (hA : ∀ x ∈ A, mtS a b x = false) (hy : mtS a b y = true) : plN (A ++ y :: B) a b = A.length ∧ rd_impl_Stored (A ++ y :: B) (A.length : Int) = y := by
  refine ⟨?_, ?_⟩
  · unfold plN
    rw [List.takeWhile_append_of_pos (fun x hx => by rw [hA x hx]; rfl), List.takeWhile_cons_of_neg (by simp [hy])]
    simp
  · show (A ++ y :: B).getD A.length z_impl_Stored = y
    rw [List.getD_eq_getElem?_getD]
    simp
theorem put_get (l : List T_impl_Stored) (a b c : Int) : plN (putM l a b c) a b < (putM l a b c).length ∧ (rd_impl_Stored (putM l a b c) (plN (putM l a b c) a b : Int)).f2 = c := by
  unfold putM
  by_cases h : plN l a b < l.length
  · rw [decide_eq_true h, cond_true]
    obtain ⟨A, z, B, e, e1, e2, e3, e4⟩ := tw_split (fun x => !mtS a b x) l h
    have hN : plN l a b = A.length := by unfold plN; rw [← e1]
    have hA : ∀ x ∈ A, mtS a b x = false := fun x hx => by simpa using e4 x hx
    generalize w64 ((rd_impl_Stored l (plN l a b : Int)).f3 + 1) = v
    have hs : l.set (plN l a b) ⟨a, b, c, v⟩ = A ++ ⟨a, b, c, v⟩ :: B := by rw [hN, e]; simp
    obtain ⟨p1, p2⟩ := plN_app (B := B) hA (show mtS a b ⟨a, b, c, v⟩ = true by simp [mtS])
    rw [hs, p1, p2]
    exact ⟨by simp, rfl⟩
  · rw [decide_eq_false h, cond_false]
    have hn := plN_none h
    have hA : ∀ x ∈ l.take (setN l ⟨a, b, c, 1⟩), mtS a b x = false := fun x hx => mtS_no.2 (hn x (List.mem_of_mem_take hx))
    obtain ⟨p1, p2⟩ := plN_app (B := l.drop (setN l ⟨a, b, c, 1⟩)) hA (show mtS a b ⟨a, b, c, 1⟩ = true by simp [mtS])
    rw [List.append_assoc, List.singleton_append, p1, p2]
    exact ⟨by simp, rfl⟩
theorem impl_InRange_e (k : Nat) (n a b : Int) : impl_InRange.f k n a b = some (inR n a b) := by
  unfold impl_InRange.f inR
  by_cases h : a ≤ n <;> simp [h]
def cmpS (x y : T_impl_Stored) : Int := bif decide (x.f0 < y.f0) then -1 else bif decide (x.f0 > y.f0) then 1 else bif decide (x.f1 < y.f1) then -1 else bif decide (x.f1 > y.f1) then 1 else 0
theorem impl_compareStored_e {k : Nat} (hk : Big k) (x y : T_impl_Stored) : ∃ n, impl_compareStored.f k x.f0 x.f1 x.f2 x.f3 y.f0 y.f1 y.f2 y.f3 = some n ∧ decide (n ≥ 0) = !ltS x y := by
  have hk' := hk.out
  obtain ⟨q, rfl⟩ : ∃ j, k = j + 3 := ⟨k - 3, by omega⟩
  refine ⟨cmpS x y, ?_, ?_⟩
  · unfold impl_compareStored.f cmp_Compare_int.f cmpS
    simp only [cmp_isNaN_int.f, bne_self_eq_false, Option.bind_some]
    cases decide (x.f0 < y.f0) <;> cases decide (x.f0 > y.f0) <;> cases decide (x.f1 < y.f1) <;> cases decide (x.f1 > y.f1) <;> rfl
  · unfold ltS cmpS
    by_cases h1 : x.f0 < y.f0
    · simp [h1]
    · by_cases h2 : x.f0 > y.f0
      · simp [h1, h2]; omega
      · have h3 : x.f0 = y.f0 := by omega
        by_cases h4 : x.f1 < y.f1
        · simp [h3, h4]
        · by_cases h5 : x.f1 > y.f1 <;> simp [h3, h4, h5]
theorem impl_IsStore_e {k : Nat} (hk : Big k) {l : List T_impl_Stored} (hl : Ok l) : impl_IsStore.f k l = some (storeV l) := by
  have hl' := hl.out
  unfold impl_IsStore.f storeV
  have hlen := withPrev_len l
  have := loop_all (impl_IsStore.l4 k (l.length : Int) l (fun y => some y) (fun _ => some true)) prevOk (some true) (some false) (withPrev l) (fun n i p hp => by
    obtain ⟨hx, hpr⟩ := withPrev_at hp
    obtain ⟨h1, h2, h3, h4⟩ := at_ hx (by omega)
    simp only [impl_IsStore.l4, impl_IsStore.L4, rd_impl_Stored, h1, h2, h3, h4, cond_true, impl_InRange_e, Option.bind_some]
    unfold prevOk stOk
    rcases hpr with ⟨rfl, e⟩ | ⟨j, y, rfl, hy, e⟩
    · rw [e, decide_eq_false (by omega)]
      cases inR p.2.f0 1 5 <;> cases inR p.2.f1 0 9 <;> cases inR p.2.f2 0 999 <;> cases inR p.2.f3 1 999 <;> rfl
    · obtain ⟨g1, g2, g3, g4⟩ := at_ hy (by omega)
      have hlt := lt_of hy
      obtain ⟨n9, c1, c2⟩ := impl_compareStored_e hk y p.2
      rw [e, decide_eq_true (show ((j + 1 : Nat) : Int) > 0 by omega), w64_id (n := ((j + 1 : Nat) : Int) - 1) (by omega), show ((j + 1 : Nat) : Int) - 1 = (j : Int) by omega, g1, nn_]
      simp only [g4, c1, c2, Option.bind_some, cond_true]
      cases inR p.2.f0 1 5 <;> cases inR p.2.f1 0 9 <;> cases inR p.2.f2 0 999 <;> cases inR p.2.f3 1 999 <;> cases ltS y p.2 <;> rfl) (fun n => by rw [hlen]; simp only [impl_IsStore.l4, impl_IsStore.L4, end_, cond_false]) k (by rw [hlen]; exact hk.lt hl)
  rw [this]
  by_cases h : l.length ≤ 24
  · rw [decide_eq_false (show ¬ (l.length : Int) > 24 by omega), decide_eq_true h]
    cases (withPrev l).all prevOk <;> rfl
  · rw [decide_eq_true (show (l.length : Int) > 24 by omega), decide_eq_false h]; rfl
theorem impl_placeOf_e {k : Nat} (hk : Big k) {l : List T_impl_Stored} (hl : Ok l) (a b : Int) : impl_placeOf.f k l a b = some (plV l a b) := by
  have hl' := hl.out
  unfold impl_placeOf.f
  have := loop_tw (impl_placeOf.l2 k a b (l.length : Int) l (fun y => some y) (fun _ => some (-1))) (fun x => !mtS a b x) (fun i => bif decide (i < (l.length : Int)) then some i else some (-1)) l (fun n i x hx => by
    obtain ⟨h1, h2, h3, h4⟩ := at_ hx (by omega)
    simp only [impl_placeOf.l2, impl_placeOf.L2, rd_impl_Stored, h1, h2, h3, h4, cond_true, mtS]
    cases x.f0 == a <;> cases x.f1 == b <;> rfl) (fun n => by simp only [impl_placeOf.l2, impl_placeOf.L2, end_, cond_false]) k (hk.lt hl)
  rw [this]
  unfold plV plN
  rw [show decide ((((l.takeWhile fun x => !mtS a b x).length : Nat) : Int) < (l.length : Int)) = decide ((l.takeWhile fun x => !mtS a b x).length < l.length) by rw [decide_eq_decide]; omega]
  cases decide ((l.takeWhile fun x => !mtS a b x).length < l.length) <;> rfl
theorem slices_Clone_Stored_e (k : Nat) {l : List T_impl_Stored} (hl : Ok l) : slices_Clone_Stored.f k l = some l := by
  have hl' := hl.out
  unfold slices_Clone_Stored.f cloneF
  rw [decide_eq_true (by unfold cap48; show (([] : List T_impl_Stored).length + l.length) * 32 ≤ _; simp; omega)]
  rfl
theorem slices_Insert_Stored_e (k : Nat) {l : List T_impl_Stored} (hl : Ok l) (i : Nat) (hi : i ≤ l.length) (x : T_impl_Stored) : slices_Insert_Stored.f k l (i : Int) [x] = some (l.take i ++ [x] ++ l.drop i) := by
  have hl' := hl.out
  unfold slices_Insert_Stored.f insF
  rw [decide_eq_true (by
    refine ⟨by omega, hi, Nat.succ_pos _, ?_⟩
    show (l.length + 1) * 32 ≤ cap48
    unfold cap48
    omega)]
  rfl
theorem impl_PutStored_e {k : Nat} (hk : Big k) {l : List T_impl_Stored} (hl : l.length ≤ 1000000) (a b c : Int) : impl_PutStored.f k l a b c = some (putI l a b c) := by
  have ol : Ok l := by unfold Ok; omega
  have oM : Ok (putM l a b c) := by have := putM_len l a b c; unfold Ok; omega
  unfold impl_PutStored.f
  rw [slices_Clone_Stored_e k ol, Option.bind_some, impl_placeOf_e hk ol, Option.bind_some]
  unfold plV
  by_cases h : plN l a b < l.length
  · have hM : putM l a b c = l.set (plN l a b) ⟨a, b, c, w64 ((rd_impl_Stored l (plN l a b : Int)).f3 + 1)⟩ := by unfold putM; rw [decide_eq_true h, cond_true]
    rw [decide_eq_true h, cond_true, decide_eq_true (show (plN l a b : Int) ≥ 0 by omega), decide_eq_true (show (plN l a b : Int) < (l.length : Int) by omega)]
    simp only [cond_true, Int.toNat_natCast]
    rw [← hM, impl_IsStore_e hk oM, Option.bind_some]
    unfold putI
    cases storeV (putM l a b c)
    · rfl
    · rfl
  · have hM : putM l a b c = l.take (setN l ⟨a, b, c, 1⟩) ++ [⟨a, b, c, 1⟩] ++ l.drop (setN l ⟨a, b, c, 1⟩) := by unfold putM; rw [decide_eq_false h, cond_false]
    rw [decide_eq_false h, cond_false, decide_eq_false (show ¬ (-1 : Int) ≥ 0 by omega), cond_false]
    have hloop : ∀ X : Int → Option (Bool × List T_impl_Stored), impl_PutStored.l8 k l l a b c 1 X k 0 = X ((setN l ⟨a, b, c, 1⟩ : Nat) : Int) := fun X => loop_tw (impl_PutStored.l8 k l l a b c 1 X) (fun y => ltS y ⟨a, b, c, 1⟩) X l (fun n i y hy => by
      have hl' := ol.out
      obtain ⟨h1, h2, h3, h4⟩ := at_ hy (by omega)
      obtain ⟨n9, c1, c2⟩ := impl_compareStored_e hk y ⟨a, b, c, 1⟩
      have c3 : decide (n9 < 0) = ltS y ⟨a, b, c, 1⟩ := by
        cases hlt : ltS y ⟨a, b, c, 1⟩ <;> rw [hlt] at c2 <;> simp at c2 ⊢ <;> omega
      simp only at c1
      simp only [impl_PutStored.l8, impl_PutStored.L8, rd_impl_Stored, h1, h2, h3, h4, cond_true, c1, Option.bind_some, c3]) (fun n => by simp only [impl_PutStored.l8, impl_PutStored.L8, end_, cond_false]) k (hk.lt ol)
    rw [hloop]
    rw [slices_Insert_Stored_e k ol _ (setN_le _ _), Option.bind_some, ← hM, impl_IsStore_e hk oM, Option.bind_some]
    unfold putI
    cases storeV (putM l a b c)
    · rfl
    · rfl
theorem impl_WriteWindow_e {k : Nat} (hk : Big k) (q : Bool) {b o : List T_impl_Stored} (hb : b.length ≤ 1000000) (ho : o.length ≤ 1000000) (x y v : Int) : impl_WriteWindow.f k q b o x y v = some (bif q then (q, (putI o x y v).1, b, (putI o x y v).2) else (q, (putI b x y v).1, (putI b x y v).2, o)) := by
  have ob : Ok b := by unfold Ok; omega
  have oo : Ok o := by unfold Ok; omega
  unfold impl_WriteWindow.f
  rw [slices_Clone_Stored_e k ob, slices_Clone_Stored_e k oo, impl_PutStored_e hk hb, impl_PutStored_e hk ho]
  cases q <;> rfl
theorem impl_GetStored_e {k : Nat} (hk : Big k) {l : List T_impl_Stored} (hl : Ok l) (a b : Int) : impl_GetStored.f k l a b = some (bif decide (plN l a b < l.length) then ((rd_impl_Stored l (plN l a b : Int)).f2, true) else (0, false)) := by
  unfold impl_GetStored.f
  rw [impl_placeOf_e hk hl, Option.bind_some]
  unfold plV
  by_cases h : plN l a b < l.length
  · rw [decide_eq_true h, cond_true, decide_eq_false (show ¬ (plN l a b : Int) < 0 by omega), nn_, decide_eq_true (show (plN l a b : Int) < (l.length : Int) by omega)]
    rfl
  · rw [decide_eq_false h]; rfl
def getV (l : List T_impl_Stored) (a b : Int) : Int × Bool := bif decide (plN l a b < l.length) then ((rd_impl_Stored l (plN l a b : Int)).f2, true) else (0, false)
theorem impl_ReadWindow_e {k : Nat} (hk : Big k) (q : Bool) {b o : List T_impl_Stored} (hb : Ok b) (ho : Ok o) (x y : Int) : impl_ReadWindow.f k q b o x y = some (bif (getV o x y).2 then ((getV o x y).1, true) else getV b x y) := by
  unfold impl_ReadWindow.f
  rw [impl_GetStored_e hk ho, impl_GetStored_e hk hb, Option.bind_some]
  show (bif (getV o x y).2 then some ((getV o x y).1, true) else (some (getV b x y)).bind fun t2 => some (t2.1, t2.2)) = _
  cases (getV o x y).2 <;> rfl
theorem impl_CloseWindow_e (k : Nat) (q : Bool) {b o : List T_impl_Stored} (hb : Ok b) : impl_CloseWindow.f k q b o = some b := by
  unfold impl_CloseWindow.f
  rw [slices_Clone_Stored_e k hb]; rfl
theorem slices_Equal_Stored_same {k : Nat} (hk : Big k) {l : List T_impl_Stored} (hl : Ok l) : slices_Equal_Stored.f k l l = some true := by
  have hl' := hl.out
  unfold slices_Equal_Stored.f
  rw [bne_self_eq_false, cond_false]
  have := loop_all (slices_Equal_Stored.l4 k (l.length : Int) l l (fun y => some y) (fun _ => some true)) (fun _ => true) (some true) (some false) l (fun n i x hx => by
    obtain ⟨h1, h2, h3, h4⟩ := at_ hx (by omega)
    simp only [slices_Equal_Stored.l4, slices_Equal_Stored.L4, rd_impl_Stored, h1, h2, h3, h4, cond_true, beq_self_eq_true, Bool.and_self, Bool.not_true, cond_false]) (fun n => by simp only [slices_Equal_Stored.l4, slices_Equal_Stored.L4, end_, cond_false]) k (hk.lt hl)
  rw [this, List.all_eq_true.2 fun _ _ => rfl]
  rfl
theorem impl_EqualStores_refl {k : Nat} (hk : Big k) {l : List T_impl_Stored} (hl : Ok l) : impl_EqualStores.f k l l = some true := by
  unfold impl_EqualStores.f
  rw [slices_Equal_Stored_same hk hl]; rfl
theorem impl_OpenWindow_e {k : Nat} (hk : Big k) {b : List T_impl_Stored} (hb : Ok b) (q : Bool) : impl_OpenWindow.f k b q = some (bif storeV b then (q, b, []) else (false, [], [])) := by
  unfold impl_OpenWindow.f
  rw [impl_IsStore_e hk hb, slices_Clone_Stored_e k hb]
  cases storeV b <;> rfl
theorem laws_big_e (k : Nat) (l : List Int) : laws_big.f k l = some (decide ((l.length : Int) > 1048576)) := rfl
theorem put_getV {l : List T_impl_Stored} {a b c : Int} (h : (putI l a b c).1 = true) : getV (putI l a b c).2 a b = (c, true) := by
  unfold putI at h ⊢
  cases hs : storeV (putM l a b c) with
  | false => rw [hs] at h; cases h
  | true =>
    obtain ⟨p1, p2⟩ := put_get l a b c
    rw [cond_true]
    show getV (putM l a b c) a b = _
    unfold getV
    rw [decide_eq_true p1, cond_true, p2]
theorem getV_nil (a b : Int) : getV [] a b = (0, false) := rfl
theorem FnPrivate : ∀ (a0 : List Int), a0.length ≤ maxLen → (∀ x ∈ a0, likes (k_u8.enc k_u8.zero) (k_u8.enc x)) → ∃ k, laws_FnPrivate.f k a0 = some true := by
  intro l hl _
  obtain ⟨k, hk⟩ := big_some
  refine ⟨k, ?_⟩
  unfold laws_FnPrivate.f
  rw [laws_big_e, Option.bind_some]
  by_cases h0 : (l.length : Int) > 1048576
  · rw [decide_eq_true h0]; rfl
  rw [decide_eq_false h0, cond_false]
  have ol : Ok l := by unfold Ok; omega
  obtain ⟨⟨q, x, y, v, b, o⟩, e1, hb, ho⟩ := spec_DrawWriteWindow_t hk ol
  obtain ⟨⟨p, d⟩, e2, hd⟩ := spec_DrawOpenWindow_t hk ol
  simp only at hb ho hd
  have ob : Ok b := Ok.small 40 hb
  have oo : Ok o := Ok.small 40 ho
  have od : Ok d := Ok.small 21 hd
  have opb : Ok (putI b x y v).2 := Ok.small 41 (by have := putI_len b x y v; omega)
  have opo : Ok (putI o x y v).2 := Ok.small 41 (by have := putI_len o x y v; omega)
  have hw := impl_WriteWindow_e hk q (b := b) (o := o) (by omega) (by omega) x y v
  have hopen := impl_OpenWindow_e hk od p
  have htail : ∀ (P : Bool × List T_impl_Stored × List T_impl_Stored), P = (bif storeV d then (p, d, []) else (false, [], [])) → (bif !storeV d then some true else (impl_CloseWindow.f k P.1 P.2.1 P.2.2).bind fun t11 => (impl_EqualStores.f k t11 d).bind fun t12 => (bif t12 then some ((P.2.2.length : Int) == (0 : Int)) else some false)) = some true := fun P hP => by
    cases hsd : storeV d with
    | false => rfl
    | true =>
      rw [hsd, cond_true] at hP
      subst hP
      simp only [Bool.not_true, cond_false, impl_CloseWindow_e k _ od, Option.bind_some, impl_EqualStores_refl hk od, cond_true]
      rfl
  have htail2 := htail _ rfl
  simp only [e1, e2, hw, hopen, impl_IsStore_e hk od, Option.bind_some, htail2]
  cases q with
  | true =>
    simp only [cond_true, cond_false, Bool.not_true, impl_CloseWindow_e k _ ob, Option.bind_some, impl_EqualStores_refl hk ob]
    cases hp : (putI o x y v).1 with
    | false => rfl
    | true =>
      simp only [cond_true, impl_ReadWindow_e hk _ ob opo, put_getV hp, Option.bind_some, Bool.not_true, cond_false, bne_self_eq_false]
  | false =>
    simp only [cond_true, cond_false, Bool.not_false]
    cases hp : (putI b x y v).1 with
    | false => rfl
    | true =>
      simp only [cond_true, impl_ReadWindow_e hk _ opb oo, put_getV hp, Option.bind_some]
      cases o with
      | nil => simp [getV_nil]
      | cons s o =>
        rw [beqF (show ¬ (((s :: o).length : Nat) : Int) = 0 by simp; omega)]
        rfl
end Go.Proofs.Ytmjflahlhgibnaa.PFnPrivate.Pure
