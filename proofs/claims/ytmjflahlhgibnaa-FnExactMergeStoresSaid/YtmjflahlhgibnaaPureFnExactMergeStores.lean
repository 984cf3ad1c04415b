/- The law FnExactMergeStores as a statement over numbers and lists, with its proof; no conditions but the bounds of the values' types and of the slices' lengths. -/
import Derived.Test.YtmjflahlhgibnaaPFnExactMergeStores2
set_option linter.unusedVariables false
set_option linter.unusedSimpArgs false
namespace Go.Proofs.Ytmjflahlhgibnaa.PFnExactMergeStores.Pure
open Go Go.Eng Go.Proofs
theorem spec_l1In_e (k : Nat) (n a b : Int) : spec_l1In.f k n a b = some (inR n a b) := by
  unfold spec_l1In.f inR
  by_cases h : a ≤ n <;> simp [h]
def ltS (x y : T_impl_Stored) : Bool := decide (x.f0 < y.f0) || (decide (x.f0 = y.f0) && decide (x.f1 < y.f1))
def mtS (a b : Int) (x : T_impl_Stored) : Bool := (x.f0 == a) && (x.f1 == b)
def stOk (x : T_impl_Stored) : Bool := inR x.f0 1 5 && (inR x.f1 0 9 && (inR x.f2 0 999 && inR x.f3 1 999))
def prevOk (p : Option T_impl_Stored × T_impl_Stored) : Bool := stOk p.2 && (match p.1 with | none => true | some y => ltS y p.2)
def withPrev (l : List T_impl_Stored) : List (Option T_impl_Stored × T_impl_Stored) := (none :: l.map some).zip l
def storeV (l : List T_impl_Stored) : Bool := decide (l.length ≤ 24) && (withPrev l).all prevOk
abbrev AscS (l : List T_impl_Stored) : Prop := l.Pairwise fun x y => ltS x y = true
theorem ltS_iff {x y : T_impl_Stored} : ltS x y = true ↔ x.f0 < y.f0 ∨ (x.f0 = y.f0 ∧ x.f1 < y.f1) := by simp [ltS]
theorem ltS_no {x y : T_impl_Stored} : ltS x y = false ↔ ¬ (x.f0 < y.f0 ∨ (x.f0 = y.f0 ∧ x.f1 < y.f1)) := by rw [← ltS_iff]; simp
theorem mtS_iff {a b : Int} {x : T_impl_Stored} : mtS a b x = true ↔ x.f0 = a ∧ x.f1 = b := by simp [mtS]
theorem mtS_no {a b : Int} {x : T_impl_Stored} : mtS a b x = false ↔ ¬ (x.f0 = a ∧ x.f1 = b) := by rw [← mtS_iff]; simp
theorem ltS_trans {x y z : T_impl_Stored} (h : ltS x y = true) (k : ltS y z = true) : ltS x z = true := by rw [ltS_iff] at *; omega
theorem withPrev_len (l : List T_impl_Stored) : (withPrev l).length = l.length := by unfold withPrev; simp
theorem withPrev_at {l : List T_impl_Stored} {i : Nat} {p : Option T_impl_Stored × T_impl_Stored} (h : (withPrev l)[i]? = some p) : l[i]? = some p.2 ∧ (i = 0 ∧ p.1 = none ∨ ∃ j y, i = j + 1 ∧ l[j]? = some y ∧ p.1 = some y) := by
  unfold withPrev at h
  obtain ⟨h1, h2⟩ := List.getElem?_zip_eq_some.1 h
  refine ⟨h2, ?_⟩
  cases i with
  | zero => exact .inl ⟨rfl, (Option.some.inj h1).symm⟩
  | succ j =>
    rw [List.getElem?_cons_succ, List.getElem?_map] at h1
    obtain ⟨y, hy, e⟩ := Option.map_eq_some_iff.1 h1
    exact .inr ⟨j, y, rfl, hy, e.symm⟩
theorem prev_asc : ∀ (l : List T_impl_Stored) (o : Option T_impl_Stored), ((o :: l.map some).zip l).all prevOk = true → AscS l ∧ (∀ y, o = some y → ∀ x ∈ l, ltS y x = true) ∧ ∀ x ∈ l, stOk x = true
  | [], o, _ => ⟨List.Pairwise.nil, (fun _ _ x h => by simp at h), fun x h => by simp at h⟩
  | x :: l, o, h => by
    simp only [List.map_cons, List.zip_cons_cons, List.all_cons, Bool.and_eq_true] at h
    obtain ⟨h1, h2⟩ := h
    obtain ⟨q1, q2, q3⟩ := prev_asc l (some x) h2
    unfold prevOk at h1
    rw [Bool.and_eq_true] at h1
    refine ⟨List.pairwise_cons.2 ⟨fun y hy => q2 x rfl y hy, q1⟩, fun y hy z hz => ?_, fun z hz => ?_⟩
    · subst hy
      have h3 : ltS y x = true := h1.2
      rcases List.mem_cons.1 hz with rfl | hz
      · exact h3
      · exact ltS_trans h3 (q2 x rfl z hz)
    · rcases List.mem_cons.1 hz with rfl | hz
      · exact h1.1
      · exact q3 z hz
theorem store_asc {l : List T_impl_Stored} (h : storeV l = true) : AscS l ∧ (∀ x ∈ l, stOk x = true) ∧ l.length ≤ 24 := by
  unfold storeV at h
  rw [Bool.and_eq_true] at h
  obtain ⟨h1, _, h3⟩ := prev_asc l none h.2
  exact ⟨h1, h3, of_decide_eq_true h.1⟩
theorem asc_uniq {l : List T_impl_Stored} (h : AscS l) {x y : T_impl_Stored} (hx : x ∈ l) (hy : y ∈ l) (e0 : x.f0 = y.f0) (e1 : x.f1 = y.f1) : x = y := by
  obtain ⟨i, hi, rfl⟩ := List.mem_iff_getElem.1 hx
  obtain ⟨j, hj, rfl⟩ := List.mem_iff_getElem.1 hy
  by_cases hij : i = j
  · subst hij; rfl
  · rcases Nat.lt_or_gt_of_ne hij with h1 | h1
    · have := ltS_iff.1 (List.pairwise_iff_getElem.1 h i j hi hj h1); omega
    · have := ltS_iff.1 (List.pairwise_iff_getElem.1 h j i hj hi h1); omega
theorem perm_uniq : ∀ {l m : List T_impl_Stored}, AscS l → AscS m → l.Perm m → l = m := fun {l m} hl hm hp =>
  List.Perm.eq_of_pairwise (le := fun x y => ltS x y = true) (fun a b _ _ h1 h2 => by have := ltS_iff.1 h1; have := ltS_iff.1 h2; omega) hl hm hp
theorem spec_l24Less_e (k : Nat) (x y : T_impl_Stored) : spec_l24Less.f k x.f0 x.f1 x.f2 x.f3 y.f0 y.f1 y.f2 y.f3 = some (ltS x y) := by
  unfold spec_l24Less.f ltS
  by_cases h1 : x.f0 < y.f0
  · simp [h1]
  · by_cases h2 : x.f0 = y.f0
    · simp [h2]
    · rw [decide_eq_false h1, beqF h2, decide_eq_false h2]; rfl
theorem spec_IsStore_e {k : Nat} (hk : Big k) {l : List T_impl_Stored} (hl : Ok l) : spec_IsStore.f k l = some (storeV l) := by
  have hl' := hl.out
  unfold spec_IsStore.f storeV
  have hlen := withPrev_len l
  have := loop_all (spec_IsStore.l2 k l (fun y => some y) (fun _ => some (decide ((l.length : Int) ≤ 24)))) prevOk (some (decide ((l.length : Int) ≤ 24))) (some false) (withPrev l) (fun n i p hp => by
    obtain ⟨hx, hpr⟩ := withPrev_at hp
    obtain ⟨h1, h2, h3, h4⟩ := at_ hx (by omega)
    simp only [spec_IsStore.l2, spec_IsStore.L2, rd_impl_Stored, h1, h2, h3, h4, cond_true, spec_l1In_e, Option.bind_some]
    unfold prevOk stOk
    rcases hpr with ⟨rfl, e⟩ | ⟨j, y, rfl, hy, e⟩
    · rw [e, decide_eq_false (by omega)]
      cases inR p.2.f0 1 5 <;> cases inR p.2.f1 0 9 <;> cases inR p.2.f2 0 999 <;> cases inR p.2.f3 1 999 <;> rfl
    · obtain ⟨g1, g2, g3, g4⟩ := at_ hy (by omega)
      have hlt := lt_of hy
      rw [e, decide_eq_true (show ((j + 1 : Nat) : Int) > 0 by omega), w64_id (n := ((j + 1 : Nat) : Int) - 1) (by omega), show ((j + 1 : Nat) : Int) - 1 = (j : Int) by omega, g1, nn_]
      simp only [g4, spec_l24Less_e, Option.bind_some, cond_true]
      cases inR p.2.f0 1 5 <;> cases inR p.2.f1 0 9 <;> cases inR p.2.f2 0 999 <;> cases inR p.2.f3 1 999 <;> cases ltS y p.2 <;> rfl) (fun n => by rw [hlen]; simp only [spec_IsStore.l2, spec_IsStore.L2, end_, cond_false]) k (by rw [hlen]; exact hk.lt hl)
  rw [this, show decide ((l.length : Int) ≤ 24) = decide (l.length ≤ 24) by rw [decide_eq_decide]; omega]
  cases (withPrev l).all prevOk <;> cases decide (l.length ≤ 24) <;> rfl
theorem loop_tw {α R : Type} (l : Nat → Int → Option R) (p : α → Bool) (X : Int → Option R) (xs : List α)
    (hs : ∀ n (i : Nat) x, xs[i]? = some x → l (n + 1) (i : Int) = bif p x then l n ((i + 1 : Nat) : Int) else X (i : Int)) (he : ∀ n, l (n + 1) (xs.length : Int) = X (xs.length : Int)) (n : Nat) (hn : xs.length < n) :
    l n 0 = X ((xs.takeWhile p).length : Int) := by
  have key : ∀ (suf pre : List α) n, xs = pre ++ suf → suf.length < n → l n (pre.length : Int) = X ((pre.length + (suf.takeWhile p).length : Nat) : Int) := by
    intro suf
    induction suf with
    | nil =>
      intro pre n hx hn
      obtain ⟨n, rfl⟩ : ∃ q, n = q + 1 := ⟨n - 1, by simp at hn; omega⟩
      have e : pre.length = xs.length := by rw [hx]; simp
      rw [e, he n]
      rfl
    | cons x suf ih =>
      intro pre n hx hn
      obtain ⟨n, rfl⟩ : ∃ q, n = q + 1 := ⟨n - 1, by simp at hn; omega⟩
      have hg : xs[pre.length]? = some x := by rw [hx]; simp
      rw [hs n pre.length x hg]
      cases hp : p x with
      | true =>
        have := ih (pre ++ [x]) n (by rw [hx]; simp) (by simp at hn; omega)
        rw [List.takeWhile_cons_of_pos hp, cond_true]
        simp only [List.length_append, List.length_cons, List.length_nil] at this ⊢
        rw [this]
        congr 2
        omega
      | false =>
        rw [List.takeWhile_cons_of_neg (by simp [hp])]
        rfl
  have := key xs [] n rfl hn
  simpa using this
def plN (l : List T_impl_Stored) (a b : Int) : Nat := (l.takeWhile fun x => !mtS a b x).length
def plV (l : List T_impl_Stored) (a b : Int) : Int := bif decide (plN l a b < l.length) then (plN l a b : Int) else -1
theorem plN_le (l : List T_impl_Stored) (a b : Int) : plN l a b ≤ l.length := by unfold plN; exact (List.takeWhile_sublist _).length_le
theorem tw_split {α : Type} (p : α → Bool) : ∀ l : List α, (l.takeWhile p).length < l.length → ∃ A y B, l = A ++ y :: B ∧ A = l.takeWhile p ∧ p y = false ∧ B = l.drop ((l.takeWhile p).length + 1) ∧ ∀ a ∈ A, p a = true
  | [], h => by simp at h
  | x :: l, h => by
    cases hx : p x with
    | false =>
      rw [List.takeWhile_cons_of_neg (by simp [hx])]
      exact ⟨[], x, l, rfl, rfl, hx, rfl, fun a ha => by cases ha⟩
    | true =>
      rw [List.takeWhile_cons_of_pos hx] at h ⊢
      obtain ⟨A, y, B, e, e1, e2, e3, e4⟩ := tw_split p l (by simpa using h)
      refine ⟨x :: A, y, B, by rw [e]; rfl, by rw [← e1], e2, by simpa using e3, fun a ha => ?_⟩
      rcases List.mem_cons.1 ha with rfl | ha
      · exact hx
      · exact e4 a ha
theorem tw_all {α : Type} (p : α → Bool) : ∀ l : List α, (l.takeWhile p).length = l.length → ∀ a ∈ l, p a = true
  | [], _, a, ha => by cases ha
  | x :: l, h, a, ha => by
    cases hx : p x with
    | false => rw [List.takeWhile_cons_of_neg (by simp [hx])] at h; simp at h
    | true =>
      rw [List.takeWhile_cons_of_pos hx] at h
      rcases List.mem_cons.1 ha with rfl | ha
      · exact hx
      · exact tw_all p l (by simpa using h) a ha
theorem plN_at {l : List T_impl_Stored} {a b : Int} (h : plN l a b < l.length) : ∃ A y B, l = A ++ y :: B ∧ plN l a b = A.length ∧ y.f0 = a ∧ y.f1 = b ∧ rd_impl_Stored l (plN l a b : Int) = y := by
  obtain ⟨A, y, B, e, e1, e2, e3, e4⟩ := tw_split (fun x => !mtS a b x) l h
  have e2 := mtS_iff.1 (by simpa using e2 : mtS a b y = true)
  refine ⟨A, y, B, e, by unfold plN; rw [← e1], e2.1, e2.2, ?_⟩
  have hp : plN l a b = A.length := by unfold plN; rw [← e1]
  rw [hp]
  show l.getD A.length z_impl_Stored = y
  rw [List.getD_eq_getElem?_getD, e]
  simp
theorem plN_none {l : List T_impl_Stored} {a b : Int} (h : ¬ plN l a b < l.length) : ∀ y ∈ l, ¬ (y.f0 = a ∧ y.f1 = b) := fun y hy => by
  have := tw_all (fun x => !mtS a b x) l (by have := plN_le l a b; unfold plN at this h; omega) y hy
  exact mtS_no.1 (by simpa using this)
theorem spec_l24Find_e {k : Nat} (hk : Big k) {l : List T_impl_Stored} (hl : Ok l) (a b : Int) : spec_l24Find.f k l a b = some (plV l a b) := by
  have hl' := hl.out
  unfold spec_l24Find.f
  have := loop_tw (spec_l24Find.l2 k a b l (fun y => some y) (fun _ => some (-1))) (fun x => !mtS a b x) (fun i => bif decide (i < (l.length : Int)) then some i else some (-1)) l (fun n i x hx => by
    obtain ⟨h1, h2, h3, h4⟩ := at_ hx (by omega)
    simp only [spec_l24Find.l2, spec_l24Find.L2, rd_impl_Stored, h1, h2, h3, h4, cond_true, mtS]
    cases x.f0 == a <;> cases x.f1 == b <;> rfl) (fun n => by simp only [spec_l24Find.l2, spec_l24Find.L2, end_, cond_false]) k (hk.lt hl)
  rw [this]
  unfold plV plN
  rw [show decide ((((l.takeWhile fun x => !mtS a b x).length : Nat) : Int) < (l.length : Int)) = decide ((l.takeWhile fun x => !mtS a b x).length < l.length) by rw [decide_eq_decide]; omega]
  cases decide ((l.takeWhile fun x => !mtS a b x).length < l.length) <;> rfl
def setN (l : List T_impl_Stored) (x : T_impl_Stored) : Nat := (l.takeWhile fun y => ltS y x).length
def setV (l : List T_impl_Stored) (x : T_impl_Stored) : List T_impl_Stored := l.takeWhile (fun y => ltS y x) ++ [x] ++ (bif decide (setN l x < l.length) && !ltS x (rd_impl_Stored l (setN l x : Int)) then l.drop (setN l x + 1) else l.drop (setN l x))
theorem setN_le (l : List T_impl_Stored) (x : T_impl_Stored) : setN l x ≤ l.length := by unfold setN; exact (List.takeWhile_sublist _).length_le
theorem setV_len (l : List T_impl_Stored) (x : T_impl_Stored) : (setV l x).length ≤ l.length + 1 := by
  have h := setN_le l x
  have e : (l.takeWhile fun y => ltS y x).length = setN l x := rfl
  unfold setV
  cases decide (setN l x < l.length) && !ltS x (rd_impl_Stored l (setN l x : Int))
  · simp only [cond_false, List.length_append, List.length_cons, List.length_nil, List.length_drop, e]; omega
  · simp only [cond_true, List.length_append, List.length_cons, List.length_nil, List.length_drop, e]; omega
/-- A new entry: the list stays in order, and holds it too. -/
theorem setV_new {s : List T_impl_Stored} (h : AscS s) {x : T_impl_Stored} (hn : ∀ y ∈ s, ¬ (y.f0 = x.f0 ∧ y.f1 = x.f1)) : AscS (setV s x) ∧ (setV s x).Perm (s ++ [x]) := by
  unfold setV
  by_cases hlt : setN s x < s.length
  · obtain ⟨A, y, B, e, e1, e2, e3, e4⟩ := tw_split (fun y => ltS y x) s hlt
    have hN : setN s x = A.length := by unfold setN; rw [← e1]
    have hrd : rd_impl_Stored s (setN s x : Int) = y := by
      rw [hN]
      show s.getD A.length z_impl_Stored = y
      rw [List.getD_eq_getElem?_getD, e]; simp
    have hy : y ∈ s := by rw [e]; simp
    have hxy : ltS x y = true := by
      have h1 := ltS_no.1 e2
      have h2 := hn y hy
      rw [ltS_iff]; omega
    rw [decide_eq_true hlt, hrd, hxy, ← e1]
    have hd : s.drop (setN s x) = y :: B := by rw [hN, e]; simp
    simp only [Bool.not_true, Bool.and_false, cond_false, hd]
    rw [e] at h
    obtain ⟨p1, p2, p3⟩ := List.pairwise_append.1 h
    obtain ⟨p4, p5⟩ := List.pairwise_cons.1 p2
    refine ⟨?_, ?_⟩
    · rw [List.append_assoc]
      refine List.pairwise_append.2 ⟨p1, List.pairwise_cons.2 ⟨fun z hz => ?_, p2⟩, fun a ha z hz => ?_⟩
      · rcases List.mem_cons.1 hz with rfl | hz
        · exact hxy
        · exact ltS_trans hxy (p4 z hz)
      · rcases List.mem_cons.1 hz with rfl | hz
        · exact e4 a ha
        · exact p3 a ha z hz
    · rw [e, List.append_assoc, List.append_assoc]
      refine List.Perm.append_left A ?_
      rw [List.singleton_append]
      exact (List.perm_append_singleton x (y :: B)).symm
  · have hall := tw_all (fun y => ltS y x) s (by have := setN_le s x; unfold setN at this hlt; omega)
    have e1 : s.takeWhile (fun y => ltS y x) = s := (List.takeWhile_sublist _).eq_of_length (by have := setN_le s x; unfold setN at this hlt; omega)
    rw [decide_eq_false hlt, e1]
    have hd : s.drop (setN s x) = [] := List.drop_eq_nil_of_le (by omega)
    simp only [Bool.false_and, cond_false, hd, List.append_nil]
    refine ⟨List.pairwise_append.2 ⟨h, List.pairwise_singleton _ _, fun a ha z hz => ?_⟩, List.Perm.refl _⟩
    obtain rfl := List.mem_singleton.1 hz
    exact hall a ha
/-- An entry that is there already is put in its place. -/
theorem setV_old {s : List T_impl_Stored} (h : AscS s) {x y : T_impl_Stored} (hy : y ∈ s) (e0 : y.f0 = x.f0) (e1' : y.f1 = x.f1) : AscS (setV s x) ∧ ∃ A B, s = A ++ y :: B ∧ setV s x = A ++ x :: B := by
  have hyx : ltS y x = false := ltS_no.2 (by omega)
  have hlt : setN s x < s.length := by
    by_cases hlt : setN s x < s.length
    · exact hlt
    · have := tw_all (fun y => ltS y x) s (by have := setN_le s x; unfold setN at this hlt; omega) y hy
      rw [show ltS y x = true from this] at hyx
      cases hyx
  obtain ⟨A, z, B, e, e1, e2, e3, e4⟩ := tw_split (fun y => ltS y x) s hlt
  have hN : setN s x = A.length := by unfold setN; rw [← e1]
  rw [e] at h hy
  obtain ⟨p1, p2, p3⟩ := List.pairwise_append.1 h
  obtain ⟨p4, p5⟩ := List.pairwise_cons.1 p2
  have hyz : y = z := by
    rcases List.mem_append.1 hy with hy | hy
    · rw [show ltS y x = true from e4 y hy] at hyx; cases hyx
    · rcases List.mem_cons.1 hy with hy | hy
      · exact hy
      · have h3 := ltS_iff.1 (p4 y hy)
        have h4 := ltS_no.1 e2
        omega
  subst hyz
  have hrd : rd_impl_Stored s (setN s x : Int) = y := by
    rw [hN]
    show s.getD A.length z_impl_Stored = y
    rw [List.getD_eq_getElem?_getD, e]; simp
  have hxy : ltS x y = false := ltS_no.2 (by omega)
  have hs : setV s x = A ++ x :: B := by
    unfold setV
    have e3' : B = s.drop (setN s x + 1) := e3
    rw [decide_eq_true hlt, hrd, hxy, ← e1]
    simp only [Bool.not_false, Bool.and_true, cond_true, ← e3', List.append_assoc, List.singleton_append]
  refine ⟨?_, A, B, e, hs⟩
  rw [hs]
  refine List.pairwise_append.2 ⟨p1, List.pairwise_cons.2 ⟨fun w hw => ?_, p5⟩, fun a ha w hw => ?_⟩
  · have := ltS_iff.1 (p4 w hw); rw [ltS_iff]; omega
  · rcases List.mem_cons.1 hw with rfl | hw
    · exact e4 a ha
    · exact p3 a ha w (List.mem_cons_of_mem _ hw)
theorem loop_tw_acc {α R : Type} (l : Nat → Int → List α → Option R) (p : α → Bool) (X : Int → List α → Option R) (xs : List α)
    (hs : ∀ n (i : Nat) x acc, xs[i]? = some x → acc.length = i → l (n + 1) (i : Int) acc = bif p x then l n ((i + 1 : Nat) : Int) (acc ++ [x]) else X (i : Int) acc) (he : ∀ n acc, l (n + 1) (xs.length : Int) acc = X (xs.length : Int) acc) (n : Nat) (hn : xs.length < n) :
    l n 0 [] = X ((xs.takeWhile p).length : Int) (xs.takeWhile p) := by
  have key : ∀ (suf pre : List α) n, xs = pre ++ suf → suf.length < n → l n (pre.length : Int) pre = X ((pre.length + (suf.takeWhile p).length : Nat) : Int) (pre ++ suf.takeWhile p) := by
    intro suf
    induction suf with
    | nil =>
      intro pre n hx hn
      obtain ⟨n, rfl⟩ : ∃ q, n = q + 1 := ⟨n - 1, by simp at hn; omega⟩
      have e : pre.length = xs.length := by rw [hx]; simp
      rw [e, he n]
      simp
    | cons x suf ih =>
      intro pre n hx hn
      obtain ⟨n, rfl⟩ : ∃ q, n = q + 1 := ⟨n - 1, by simp at hn; omega⟩
      have hg : xs[pre.length]? = some x := by rw [hx]; simp
      rw [hs n pre.length x pre hg rfl]
      cases hp : p x with
      | true =>
        have := ih (pre ++ [x]) n (by rw [hx]; simp) (by simp at hn; omega)
        rw [List.takeWhile_cons_of_pos hp, cond_true]
        simp only [List.length_append, List.length_cons, List.length_nil, List.append_assoc, List.singleton_append] at this ⊢
        rw [this]
        congr 2
        omega
      | false =>
        rw [List.takeWhile_cons_of_neg (by simp [hp])]
        simp
  have := key xs [] n rfl hn
  simpa using this
theorem spec_l24Set_e {k : Nat} (hk : Big k) {l : List T_impl_Stored} (hl : Ok l) (x : T_impl_Stored) : spec_l24Set.f k l x.f0 x.f1 x.f2 x.f3 = some (setV l x) := by
  have hl' := hl.out
  have hN := setN_le l x
  have key : ∀ X : Int → List T_impl_Stored → Option (List T_impl_Stored), spec_l24Set.l3 k l x.f0 x.f1 x.f2 x.f3 X k 0 [] = X ((setN l x : Nat) : Int) (l.takeWhile fun y => ltS y x) := fun X => loop_tw_acc (fun q i s => spec_l24Set.l3 k l x.f0 x.f1 x.f2 x.f3 X q i s) (fun y => ltS y x) X l (fun n i y acc hy ha => by
    have hlt := lt_of hy
    obtain ⟨h1, h2, h3, h4⟩ := at_ hy (by omega)
    simp only [spec_l24Set.l3, spec_l24Set.L3, rd_impl_Stored, h1, h2, h3, h4, cond_true, spec_l24Less_e, Option.bind_some]
    rw [decide_eq_true (by unfold cap48; simp; omega), cond_true]) (fun n acc => by simp only [spec_l24Set.l3, spec_l24Set.L3, end_, cond_false]) k (hk.lt hl)
  unfold spec_l24Set.f
  rw [key]
  clear key
  unfold setV
  have hA : (l.takeWhile fun y => ltS y x).length = setN l x := rfl
  generalize (l.takeWhile fun y => ltS y x) = A at hA
  generalize setN l x = n at hA hN
  have g1 : decide ((A.length + ([(⟨x.f0, x.f1, x.f2, x.f3⟩ : T_impl_Stored)] : List T_impl_Stored).length) * 32 ≤ cap48) = true := decide_eq_true (by unfold cap48; simp; omega)
  have g2 : decide (((A ++ [(⟨x.f0, x.f1, x.f2, x.f3⟩ : T_impl_Stored)]).length + ((l.take l.length).drop (n + 1)).length) * 32 ≤ cap48) = true := decide_eq_true (by unfold cap48; simp; omega)
  have g3 : decide (((A ++ [(⟨x.f0, x.f1, x.f2, x.f3⟩ : T_impl_Stored)]).length + ((l.take l.length).drop n).length) * 32 ≤ cap48) = true := decide_eq_true (by unfold cap48; simp; omega)
  have w1 : w64 ((n : Int) + 1) = ((n + 1 : Nat) : Int) := by rw [w64_id (by omega)]; omega
  by_cases h : n < l.length
  · simp only [nn_, cond_true, Int.toNat_natCast, Int.le_refl, decide_true, decide_eq_true (show (n : Int) ≤ (l.length : Int) by omega), decide_eq_true (show (n : Int) < (l.length : Int) by omega), w1, decide_eq_true (show ((n + 1 : Nat) : Int) ≤ (l.length : Int) by omega), g1, g2, g3, decide_eq_true h, Bool.true_and, spec_l24Less_e, Option.bind_some]
    cases ltS x (rd_impl_Stored l (n : Int)) <;> simp [List.take_length]
  · simp only [nn_, cond_true, Int.toNat_natCast, Int.le_refl, decide_true, decide_eq_true (show (n : Int) ≤ (l.length : Int) by omega), decide_eq_false (show ¬ (n : Int) < (l.length : Int) by omega), cond_false, g1, g3, decide_eq_false h, Bool.false_and]
    simp [List.take_length]
def newer (x y : T_impl_Stored) : Bool := decide (y.f3 < x.f3) || ((y.f3 == x.f3) && decide (y.f2 < x.f2))
def mS (s : List T_impl_Stored) (x : T_impl_Stored) : List T_impl_Stored := bif decide (plN s x.f0 x.f1 < s.length) then (bif newer x (rd_impl_Stored s (plN s x.f0 x.f1 : Int)) then setV s x else s) else setV s x
def mI (t : List T_impl_Stored) (x : T_impl_Stored) : List T_impl_Stored := bif decide (plN t x.f0 x.f1 < t.length) then (bif newer x (rd_impl_Stored t (plN t x.f0 x.f1 : Int)) then t.set (plN t x.f0 x.f1) x else t) else t ++ [x]
theorem mS_len (s : List T_impl_Stored) (x : T_impl_Stored) : (mS s x).length ≤ s.length + 1 := by
  have := setV_len s x
  unfold mS
  cases decide (plN s x.f0 x.f1 < s.length)
  · exact this
  · rw [cond_true]
    cases newer x (rd_impl_Stored s (plN s x.f0 x.f1 : Int))
    · exact Nat.le_succ _
    · exact this
theorem mI_len (t : List T_impl_Stored) (x : T_impl_Stored) : (mI t x).length ≤ t.length + 1 := by
  unfold mI
  cases decide (plN t x.f0 x.f1 < t.length)
  · simp
  · rw [cond_true]
    cases newer x (rd_impl_Stored t (plN t x.f0 x.f1 : Int))
    · exact Nat.le_succ _
    · simp
theorem merge_step {s t : List T_impl_Stored} (hs : AscS s) (hp : t.Perm s) (x : T_impl_Stored) : AscS (mS s x) ∧ (mI t x).Perm (mS s x) := by
  unfold mS mI
  by_cases h : plN s x.f0 x.f1 < s.length
  · obtain ⟨A, y, B, e, e1, e2, e3, e4⟩ := plN_at h
    have hy : y ∈ s := by rw [e]; simp
    have h' : plN t x.f0 x.f1 < t.length := by
      by_cases h' : plN t x.f0 x.f1 < t.length
      · exact h'
      · exact absurd ⟨e2, e3⟩ (plN_none h' y (hp.mem_iff.2 hy))
    obtain ⟨A', y', B', e', e1', e2', e3', e4'⟩ := plN_at h'
    have hy' : y' ∈ s := hp.mem_iff.1 (by rw [e']; simp)
    obtain rfl : y' = y := asc_uniq hs hy' hy (by omega) (by omega)
    rw [decide_eq_true h, decide_eq_true h', e4, e4', cond_true, cond_true]
    cases newer x y' with
    | false => exact ⟨hs, hp⟩
    | true =>
      rw [cond_true, cond_true]
      obtain ⟨h1, A1, B1, h2, h3⟩ := setV_old hs hy e2 e3
      refine ⟨h1, ?_⟩
      rw [h3, e1']
      have hset : t.set A'.length x = A' ++ x :: B' := by rw [e']; simp
      rw [hset]
      rw [e', h2] at hp
      have p1 : (y' :: (A' ++ B')).Perm (y' :: (A1 ++ B1)) := (List.perm_middle.symm.trans hp).trans List.perm_middle
      exact (List.perm_middle.trans (p1.cons_inv.cons x)).trans List.perm_middle.symm
  · have hn := plN_none h
    have h' : ¬ plN t x.f0 x.f1 < t.length := by
      intro h'
      obtain ⟨A', y', B', e', e1', e2', e3', e4'⟩ := plN_at h'
      exact hn y' (hp.mem_iff.1 (by rw [e']; simp)) ⟨e2', e3'⟩
    rw [decide_eq_false h, decide_eq_false h', cond_false, cond_false]
    obtain ⟨h1, h2⟩ := setV_new hs hn
    exact ⟨h1, (hp.append_right [x]).trans h2.symm⟩
theorem merge_fold : ∀ (b s t : List T_impl_Stored), AscS s → t.Perm s → AscS (b.foldl mS s) ∧ (b.foldl mI t).Perm (b.foldl mS s)
  | [], s, t, hs, hp => ⟨hs, hp⟩
  | x :: b, s, t, hs, hp => by
    obtain ⟨h1, h2⟩ := merge_step hs hp x
    exact merge_fold b _ _ h1 h2
def mergeV (a b : List T_impl_Stored) : Bool × List T_impl_Stored := bif storeV a && storeV b then (bif storeV (b.foldl mS a) then (true, b.foldl mS a) else (false, [])) else (false, [])
theorem mS_fold_len : ∀ (b s : List T_impl_Stored), (b.foldl mS s).length ≤ s.length + b.length
  | [], s => by simp
  | x :: b, s => by
    have h1 := mS_fold_len b (mS s x)
    have h2 := mS_len s x
    rw [List.foldl_cons, List.length_cons]; omega
theorem mergeV_ok (a b : List T_impl_Stored) : (mergeV a b).2.length ≤ 48 := by
  unfold mergeV
  cases h1 : storeV a && storeV b with
  | false => simp
  | true =>
    rw [Bool.and_eq_true] at h1
    have a1 := (store_asc h1.1).2.2
    have a2 := (store_asc h1.2).2.2
    have a3 := mS_fold_len b a
    cases storeV (b.foldl mS a)
    · simp
    · simp only [cond_true]; omega
theorem spec_MergeStores_e {k : Nat} (hk : Big k) {a b : List T_impl_Stored} (ha : Ok a) (hb : Ok b) : spec_MergeStores.f k a b = some (mergeV a b) := by
  unfold spec_MergeStores.f mergeV
  simp only [spec_IsStore_e hk ha, spec_IsStore_e hk hb, Option.bind_some]
  cases h1 : storeV a with
  | false => rfl
  | true =>
    cases h2 : storeV b with
    | false => rfl
    | true =>
      have a1 := (store_asc h1).2.2
      have a2 := (store_asc h2).2.2
      rw [decide_eq_true (by unfold cap48; simp; omega)]
      simp only [Bool.not_true, cond_false, cond_true, Bool.and_self, List.nil_append]
      have := loop_fold (fun q i s => spec_MergeStores.l5 k a b (fun y7 => (spec_IsStore.f k y7).bind fun t8 => (bif !t8 then some (false, ([] : List T_impl_Stored)) else some (true, y7))) q i s) mS (fun i s => s.length ≤ 24 + i) (fun y7 => (spec_IsStore.f k y7).bind fun t8 => (bif !t8 then some (false, ([] : List T_impl_Stored)) else some (true, y7))) b (fun n i x s hx hi => by
        have hlt := lt_of hx
        obtain ⟨h1, h2, h3, h4⟩ := at_ hx (by omega)
        have hi : s.length ≤ 24 + i := hi
        have hso : Ok s := Ok.small 100 (by omega)
        simp only [spec_MergeStores.l5, spec_MergeStores.L5, show ∀ i, rd_impl_Stored b i = b.getD i.toNat z_impl_Stored from fun _ => rfl, h1, h2, h3, h4, cond_true, spec_l24Find_e hk hso, spec_l24Set_e hk hso, Option.bind_some, mS, plV]
        by_cases hp : plN s x.f0 x.f1 < s.length
        · rw [decide_eq_true hp]
          simp only [cond_true, nn_, decide_eq_false (show ¬ ((plN s x.f0 x.f1 : Nat) : Int) < 0 by omega), cond_false, decide_eq_true (show ((plN s x.f0 x.f1 : Nat) : Int) < (s.length : Int) by omega), newer]
          cases decide ((rd_impl_Stored s ((plN s x.f0 x.f1 : Nat) : Int)).f3 < x.f3) <;> cases (rd_impl_Stored s ((plN s x.f0 x.f1 : Nat) : Int)).f3 == x.f3 <;> cases decide ((rd_impl_Stored s ((plN s x.f0 x.f1 : Nat) : Int)).f2 < x.f2) <;> rfl
        · rw [decide_eq_false hp]
          rfl) (fun i x s hx hi => by
        have hi : s.length ≤ 24 + i := hi
        have := mS_len s x
        show (mS s x).length ≤ 24 + (i + 1)
        omega) (fun n s hi => by simp only [spec_MergeStores.l5, spec_MergeStores.L5, end_, cond_false]) k a (hk.lt hb) (by simpa using a1)
      refine this.trans ?_
      have a3 := mS_fold_len b a
      rw [spec_IsStore_e hk (Ok.small 48 (by omega)), Option.bind_some]
      cases storeV (b.foldl mS a) <;> rfl
theorem impl_InRange_e (k : Nat) (n a b : Int) : impl_InRange.f k n a b = some (inR n a b) := by
  unfold impl_InRange.f inR
  by_cases h : a ≤ n <;> simp [h]
def cmpS (x y : T_impl_Stored) : Int := bif decide (x.f0 < y.f0) then -1 else bif decide (x.f0 > y.f0) then 1 else bif decide (x.f1 < y.f1) then -1 else bif decide (x.f1 > y.f1) then 1 else 0
theorem impl_compareStored_e {k : Nat} (hk : Big k) (x y : T_impl_Stored) : ∃ n, impl_compareStored.f k x.f0 x.f1 x.f2 x.f3 y.f0 y.f1 y.f2 y.f3 = some n ∧ decide (n ≥ 0) = !ltS x y := by
  have hk' := hk.out
  obtain ⟨q, rfl⟩ : ∃ j, k = j + 3 := ⟨k - 3, by omega⟩
  refine ⟨cmpS x y, ?_, ?_⟩
  · unfold impl_compareStored.f cmp_Compare_int.f cmpS
    simp only [cmp_isNaN_int.f, bne_self_eq_false, Option.bind_some]
    cases decide (x.f0 < y.f0) <;> cases decide (x.f0 > y.f0) <;> cases decide (x.f1 < y.f1) <;> cases decide (x.f1 > y.f1) <;> rfl
  · unfold ltS cmpS
    by_cases h1 : x.f0 < y.f0
    · simp [h1]
    · by_cases h2 : x.f0 > y.f0
      · simp [h1, h2]; omega
      · have h3 : x.f0 = y.f0 := by omega
        by_cases h4 : x.f1 < y.f1
        · simp [h3, h4]
        · by_cases h5 : x.f1 > y.f1 <;> simp [h3, h4, h5]
theorem impl_IsStore_e {k : Nat} (hk : Big k) {l : List T_impl_Stored} (hl : Ok l) : impl_IsStore.f k l = some (storeV l) := by
  have hl' := hl.out
  unfold impl_IsStore.f storeV
  have hlen := withPrev_len l
  have := loop_all (impl_IsStore.l4 k (l.length : Int) l (fun y => some y) (fun _ => some true)) prevOk (some true) (some false) (withPrev l) (fun n i p hp => by
    obtain ⟨hx, hpr⟩ := withPrev_at hp
    obtain ⟨h1, h2, h3, h4⟩ := at_ hx (by omega)
    simp only [impl_IsStore.l4, impl_IsStore.L4, rd_impl_Stored, h1, h2, h3, h4, cond_true, impl_InRange_e, Option.bind_some]
    unfold prevOk stOk
    rcases hpr with ⟨rfl, e⟩ | ⟨j, y, rfl, hy, e⟩
    · rw [e, decide_eq_false (by omega)]
      cases inR p.2.f0 1 5 <;> cases inR p.2.f1 0 9 <;> cases inR p.2.f2 0 999 <;> cases inR p.2.f3 1 999 <;> rfl
    · obtain ⟨g1, g2, g3, g4⟩ := at_ hy (by omega)
      have hlt := lt_of hy
      obtain ⟨n9, c1, c2⟩ := impl_compareStored_e hk y p.2
      rw [e, decide_eq_true (show ((j + 1 : Nat) : Int) > 0 by omega), w64_id (n := ((j + 1 : Nat) : Int) - 1) (by omega), show ((j + 1 : Nat) : Int) - 1 = (j : Int) by omega, g1, nn_]
      simp only [g4, c1, c2, Option.bind_some, cond_true]
      cases inR p.2.f0 1 5 <;> cases inR p.2.f1 0 9 <;> cases inR p.2.f2 0 999 <;> cases inR p.2.f3 1 999 <;> cases ltS y p.2 <;> rfl) (fun n => by rw [hlen]; simp only [impl_IsStore.l4, impl_IsStore.L4, end_, cond_false]) k (by rw [hlen]; exact hk.lt hl)
  rw [this]
  by_cases h : l.length ≤ 24
  · rw [decide_eq_false (show ¬ (l.length : Int) > 24 by omega), decide_eq_true h]
    cases (withPrev l).all prevOk <;> rfl
  · rw [decide_eq_true (show (l.length : Int) > 24 by omega), decide_eq_false h]; rfl
theorem impl_placeOf_e {k : Nat} (hk : Big k) {l : List T_impl_Stored} (hl : Ok l) (a b : Int) : impl_placeOf.f k l a b = some (plV l a b) := by
  have hl' := hl.out
  unfold impl_placeOf.f
  have := loop_tw (impl_placeOf.l2 k a b (l.length : Int) l (fun y => some y) (fun _ => some (-1))) (fun x => !mtS a b x) (fun i => bif decide (i < (l.length : Int)) then some i else some (-1)) l (fun n i x hx => by
    obtain ⟨h1, h2, h3, h4⟩ := at_ hx (by omega)
    simp only [impl_placeOf.l2, impl_placeOf.L2, rd_impl_Stored, h1, h2, h3, h4, cond_true, mtS]
    cases x.f0 == a <;> cases x.f1 == b <;> rfl) (fun n => by simp only [impl_placeOf.l2, impl_placeOf.L2, end_, cond_false]) k (hk.lt hl)
  rw [this]
  unfold plV plN
  rw [show decide ((((l.takeWhile fun x => !mtS a b x).length : Nat) : Int) < (l.length : Int)) = decide ((l.takeWhile fun x => !mtS a b x).length < l.length) by rw [decide_eq_decide]; omega]
  cases decide ((l.takeWhile fun x => !mtS a b x).length < l.length) <;> rfl
theorem slices_Clone_Stored_e (k : Nat) {l : List T_impl_Stored} (hl : Ok l) : slices_Clone_Stored.f k l = some l := by
  have hl' := hl.out
  unfold slices_Clone_Stored.f cloneF
  rw [decide_eq_true (by unfold cap48; show (([] : List T_impl_Stored).length + l.length) * 32 ≤ _; simp; omega)]
  rfl
theorem sort_eq {s t : List T_impl_Stored} (hs : AscS s) (hp : t.Perm s) : sortBy z_impl_Stored (Go.Proofs.ltOf slices_SortFunc_Stored.cf) t = s := by
  have hlt : Go.Proofs.ltOf slices_SortFunc_Stored.cf = ltS := by funext x y; rw [slices_SortFunc_Stored.lt]; rfl
  obtain ⟨h1, h2⟩ := sortBy_spec z_impl_Stored slices_SortFunc_Stored.swo t
  rw [hlt] at h1 h2 ⊢
  refine perm_uniq ?_ hs (h1.trans hp)
  have hne : s.Pairwise fun x y => ¬ (x.f0 = y.f0 ∧ x.f1 = y.f1) := hs.imp fun {a b} h => by have := ltS_iff.1 h; omega
  have hne2 : (sortBy z_impl_Stored ltS t).Pairwise fun x y => ¬ (x.f0 = y.f0 ∧ x.f1 = y.f1) := ((h1.trans hp).pairwise_iff (fun {x y} h => by omega)).2 hne
  exact (h2.and hne2).imp fun {a b} ⟨h3, h4⟩ => by rw [ltS_no] at h3; rw [ltS_iff]; omega
theorem mI_fold_len : ∀ (b s : List T_impl_Stored), (b.foldl mI s).length ≤ s.length + b.length
  | [], s => by simp
  | x :: b, s => by
    have h1 := mI_fold_len b (mI s x)
    have h2 := mI_len s x
    rw [List.foldl_cons, List.length_cons]; omega
theorem slices_SortFunc_Stored_e (k : Nat) {s t : List T_impl_Stored} (ht : Ok t) (hs : AscS s) (hp : t.Perm s) : slices_SortFunc_Stored.f k t = some s := by
  have := ht.out
  unfold slices_SortFunc_Stored.f sortByF
  rw [decide_eq_true (by omega), cond_true, sort_eq hs hp]
theorem impl_MergeStores_e {k : Nat} (hk : Big k) {a b : List T_impl_Stored} (ha : Ok a) (hb : Ok b) : impl_MergeStores.f k a b = some (mergeV a b) := by
  unfold impl_MergeStores.f mergeV
  simp only [impl_IsStore_e hk ha, impl_IsStore_e hk hb, slices_Clone_Stored_e k ha, Option.bind_some]
  cases h1 : storeV a with
  | false => rfl
  | true =>
    cases h2 : storeV b with
    | false => rfl
    | true =>
      obtain ⟨q1, _, a1⟩ := store_asc h1
      obtain ⟨q2, _, a2⟩ := store_asc h2
      simp only [Bool.not_true, cond_false, cond_true, Bool.and_self]
      have := loop_fold (fun q i s => impl_MergeStores.l5 k (b.length : Int) a b (fun y8 => (slices_SortFunc_Stored.f k y8).bind fun t9 => (impl_IsStore.f k t9).bind fun t10 => (bif !t10 then some (false, ([] : List T_impl_Stored)) else some (true, t9))) q i s) mI (fun i s => s.length ≤ 24 + i) (fun y8 => (slices_SortFunc_Stored.f k y8).bind fun t9 => (impl_IsStore.f k t9).bind fun t10 => (bif !t10 then some (false, ([] : List T_impl_Stored)) else some (true, t9))) b (fun n i x s hx hi => by
        have hlt := lt_of hx
        obtain ⟨h1, h2, h3, h4⟩ := at_ hx (by omega)
        have hi : s.length ≤ 24 + i := hi
        have hso : Ok s := Ok.small 100 (by omega)
        simp only [impl_MergeStores.l5, impl_MergeStores.L5, show ∀ i, rd_impl_Stored b i = b.getD i.toNat z_impl_Stored from fun _ => rfl, h1, h2, h3, h4, cond_true, impl_placeOf_e hk hso, Option.bind_some, mI, plV]
        by_cases hp : plN s x.f0 x.f1 < s.length
        · rw [decide_eq_true hp]
          simp only [cond_true, nn_, decide_eq_false (show ¬ ((plN s x.f0 x.f1 : Nat) : Int) < 0 by omega), cond_false, decide_eq_true (show ((plN s x.f0 x.f1 : Nat) : Int) < (s.length : Int) by omega), newer, Int.toNat_natCast, gt_iff_lt]
          rw [Bool.beq_comm (a := x.f3)]
          cases decide ((rd_impl_Stored s ((plN s x.f0 x.f1 : Nat) : Int)).f3 < x.f3) <;> cases (rd_impl_Stored s ((plN s x.f0 x.f1 : Nat) : Int)).f3 == x.f3 <;> cases decide ((rd_impl_Stored s ((plN s x.f0 x.f1 : Nat) : Int)).f2 < x.f2) <;> rfl
        · rw [decide_eq_false hp, cond_false]
          simp only [show decide ((-1 : Int) < 0) = true from rfl, cond_true]
          rw [decide_eq_true (by unfold cap48; simp; omega), cond_true]
          rfl) (fun i x s hx hi => by
        have hi : s.length ≤ 24 + i := hi
        have := mI_len s x
        show (mI s x).length ≤ 24 + (i + 1)
        omega) (fun n s hi => by simp only [impl_MergeStores.l5, impl_MergeStores.L5, end_, cond_false]) k a (hk.lt hb) (by simpa using a1)
      refine this.trans ?_
      have a3 := mI_fold_len b a
      have a4 := mS_fold_len b a
      obtain ⟨p1, p2⟩ := merge_fold b a a q1 (List.Perm.refl _)
      rw [slices_SortFunc_Stored_e k (Ok.small 48 (by omega)) p1 p2, Option.bind_some, impl_IsStore_e hk (Ok.small 48 (by omega)), Option.bind_some]
      cases storeV (b.foldl mS a) <;> rfl
theorem laws_szStoredS_e (k : Nat) {l : List T_laws_Stored} {n : Int} (hl : l.length ≤ maxLen) (hn : 0 ≤ n ∧ n ≤ 1048576) : laws_szStoredS.f k l n = some (bif decide (n - (l.length : Int) < 0) then -1 else n - (l.length : Int)) := by
  have h2 : l.length ≤ 9223372036854775807 := hl
  unfold laws_szStoredS.f
  rw [w64_id (by omega)]
  cases decide (n - (l.length : Int) < 0) <;> rfl
def toStored (x : T_laws_Stored) : T_impl_Stored := ⟨x.f0, x.f1, x.f2, x.f3⟩
theorem laws_toStoredS_e {k : Nat} (hk : Big k) {l : List T_laws_Stored} (hl : Ok l) : laws_toStoredS.f k l = some (l.map toStored) := by
  have hl' := hl.out
  unfold laws_toStoredS.f
  rw [nn_, cond_true, decide_eq_true (by unfold cap48; simp; omega), cond_true]
  refine loop_map (laws_toStoredS.l3 k l (fun y => some y)) toStored (fun y => some y) l (fun n i x ys hx hy => ?_) (fun n ys hy => ?_) k _ (hk.lt hl) (by simp)
  · obtain ⟨h1, h2, h3, h4⟩ := at_ hx (by omega)
    have h5 : decide ((i : Int) < (ys.length : Int)) = true := by rw [hy]; exact h1
    simp only [laws_toStoredS.l3, laws_toStoredS.L3, rd_laws_Stored, h1, h2, h3, h4, h5, cond_true, laws_toStored.f, Option.bind_some, toStored]
    rfl
  · simp only [laws_toStoredS.l3, laws_toStoredS.L3, end_, cond_false]
theorem laws_eqStored_refl (k : Nat) (x : T_impl_Stored) : laws_eqStored.f k x.f0 x.f1 x.f2 x.f3 x.f0 x.f1 x.f2 x.f3 = some true := by
  simp [laws_eqStored.f, Option.bind_some]
theorem laws_eqStoredS_refl {k : Nat} (hk : Big k) {l : List T_impl_Stored} (hl : Ok l) : laws_eqStoredS.f k l l = some true := by
  have hl' := hl.out
  unfold laws_eqStoredS.f
  rw [show ((l.length : Int) != (l.length : Int)) = false from by simp, cond_false]
  rw [loop_all (laws_eqStoredS.l4 k l l (fun y => some y) (fun _ => some true)) (fun _ => true) (some true) (some false) l (fun n i x hx => by
    obtain ⟨h1, h2, h3, h4⟩ := at_ hx (by omega)
    simp only [laws_eqStoredS.l4, laws_eqStoredS.L4, rd_impl_Stored, h1, h2, h3, h4, cond_true, laws_eqStored_refl, Option.bind_some]
    rfl) (fun n => by simp only [laws_eqStoredS.l4, laws_eqStoredS.L4, end_, cond_false]) k (hk.lt hl), List.all_eq_true.2 (fun _ _ => rfl)]
  rfl
def mStored (n : Int) : T_impl_Stored := ⟨(n), (n + 1), (n + 1 + 1), (n + 1 + 1 + 1)⟩
theorem laws_markStoredS_e {k : Nat} (hk : Big k) {l : List T_impl_Stored} (hl : Ok l) {n : Int} (h0 : 0 ≤ n) (hb : n ≤ 900000000000) : laws_markStoredS.f k l n = some (n + 4 * l.length, marks mStored 4 n l.length) := by
  have hl' := hl.out
  unfold laws_markStoredS.f
  refine loop_mark (laws_markStoredS.l2 k (fun y z => some (y, z))) mStored 4 (fun y z => some (y, z)) (fun q n i ys h0 hb hi hl => ?_) (fun q n ys => ?_) k n l h0 (by omega) hl' (hk.lt hl)
  · have h1 : decide ((i : Int) < (ys.length : Int)) = true := decide_eq_true (by omega)
    have h2 : decide ((0 : Int) ≤ (i : Int)) = true := decide_eq_true (by omega)
    have h3 : w64 ((i : Int) + 1) = ((i + 1 : Nat) : Int) := by rw [w64_id (by omega)]; omega
    have e0 : w64 (n + 1) = n + 1 := w64_s (by omega) (by omega)
    have e1 : w64 (n + 1 + 1) = n + 1 + 1 := w64_s (by omega) (by omega)
    have e2 : w64 (n + 1 + 1 + 1) = n + 1 + 1 + 1 := w64_s (by omega) (by omega)
    have e3 : w64 (n + 1 + 1 + 1 + 1) = n + 1 + 1 + 1 + 1 := w64_s (by omega) (by omega)
    have ec : n + 1 + 1 + 1 + 1 = n + (4 : Nat) := by omega
    simp only [laws_markStoredS.l2, laws_markStoredS.L2, rd_impl_Stored, h1, h2, h3, e0, e1, e2, e3, cond_true, toNat_c, List.length_set, List.set_set]
    simp only [toNat_c, List.getD_eq_getElem?_getD, List.getElem?_set_self hi, Option.getD_some, ec]
    try rfl
  · simp only [laws_markStoredS.l2, laws_markStoredS.L2, end_, cond_false]
theorem laws_heldStoredS_e {k : Nat} (hk : Big k) {j : Nat} (hj : j ≤ 1048576) {n : Int} (h0 : 0 ≤ n) (hb : n ≤ 900000000000) : laws_heldStoredS.f k (marks mStored 4 n j) n = some (n + 4 * j) := by
  unfold laws_heldStoredS.f
  have hkk := hk.out
  refine loop_held (laws_heldStoredS.l2 k (marks mStored 4 n j) (fun _ y => some y) (fun y => some y)) mStored 4 (fun y => some y) _ (fun q n i h0 hb hi => ?_) (fun q n => ?_) k n j rfl h0 (by omega) (by omega)
  · obtain ⟨h1, h2, h3, h4⟩ := at_ hi (by rw [marks_len]; omega)
    have e0 : w64 (n + 1) = n + 1 := w64_s (by omega) (by omega)
    have e1 : w64 (n + 1 + 1) = n + 1 + 1 := w64_s (by omega) (by omega)
    have e2 : w64 (n + 1 + 1 + 1) = n + 1 + 1 + 1 := w64_s (by omega) (by omega)
    have e3 : w64 (n + 1 + 1 + 1 + 1) = n + 1 + 1 + 1 + 1 := w64_s (by omega) (by omega)
    have ec : n + 1 + 1 + 1 + 1 = n + (4 : Nat) := by omega
    simp only [laws_heldStoredS.l2, laws_heldStoredS.L2, rd_impl_Stored, h1, h2, h3, h4, e0, e1, e2, e3, cond_true, mStored, bne_self_eq_false, beq_self_eq_true, Bool.not_true, cond_false]
    try rw [ec]
    try rfl
  · simp only [laws_heldStoredS.l2, laws_heldStoredS.L2, end_, cond_false]
theorem FnExactMergeStores : ∀ (a0 : List T_laws_Stored) (a1 : List T_laws_Stored), a0.length ≤ maxLen → (∀ x ∈ a0, likes (k_laws_Stored.enc k_laws_Stored.zero) (k_laws_Stored.enc x)) → a1.length ≤ maxLen → (∀ x ∈ a1, likes (k_laws_Stored.enc k_laws_Stored.zero) (k_laws_Stored.enc x)) → ∃ k, laws_FnExactMergeStores.f k a0 a1 = some true := by
  intro a b ha _ hb _
  obtain ⟨k, hk⟩ := big_some
  refine ⟨k, ?_⟩
  unfold laws_FnExactMergeStores.f
  rw [laws_szStoredS_e k ha (by omega), Option.bind_some]
  by_cases h1 : 1048576 - (a.length : Int) < 0
  · rw [decide_eq_true h1]; rfl
  rw [decide_eq_false h1, cond_false, decide_eq_false h1, cond_false, laws_szStoredS_e k hb (by omega), Option.bind_some]
  by_cases h2 : 1048576 - (a.length : Int) - (b.length : Int) < 0
  · rw [decide_eq_true h2]; rfl
  rw [decide_eq_false h2, cond_false, decide_eq_false h2, cond_false]
  have oa : Ok a := by unfold Ok; omega
  have ob : Ok b := by unfold Ok; omega
  have ma := oa.map (f := toStored)
  have mb := ob.map (f := toStored)
  have la := ma.out
  have lb := mb.out
  have hx : Ok (mergeV (a.map toStored) (b.map toStored)).2 := Ok.small 48 (mergeV_ok _ _)
  simp only [laws_toStoredS_e hk oa, laws_toStoredS_e hk ob, Option.bind_some, spec_MergeStores_e hk ma mb, impl_MergeStores_e hk ma mb, laws_eqStoredS_refl hk ma, laws_eqStoredS_refl hk mb]
  generalize mergeV (a.map toStored) (b.map toStored) = M at hx
  obtain ⟨m1, L⟩ := M
  have hx : Ok L := hx
  have hL := hx.out
  rw [laws_markStoredS_e hk ma (n := 1) (by omega) (by omega), Option.bind_some]
  simp only
  rw [laws_markStoredS_e hk mb (by omega) (by omega), Option.bind_some]
  simp only
  rw [decide_eq_false (show ¬ (1 + 4 * (((a.map toStored).length : Nat) : Int) + 4 * (((b.map toStored).length : Nat) : Int) < 0) by omega)]
  simp only [laws_eqStoredS_refl hk hx, laws_markStoredS_e hk hx (n := 1) (by omega) (by omega), laws_heldStoredS_e hk hL (n := 1) (by omega) (by omega), Option.bind_some, decide_eq_false (show ¬ ((1 : Int) + 4 * (L.length : Int) < 0) by omega), bne_self_eq_false, beq_self_eq_true]
  rfl
end Go.Proofs.Ytmjflahlhgibnaa.PFnExactMergeStores.Pure
