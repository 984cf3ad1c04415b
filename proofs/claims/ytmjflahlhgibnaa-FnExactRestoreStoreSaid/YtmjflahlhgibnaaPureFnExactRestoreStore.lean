/- The law FnExactRestoreStore as a statement over numbers and lists, with its proof; no conditions but the bounds of the values' types and of the slices' lengths. -/
import Derived.Test.YtmjflahlhgibnaaPFnExactRestoreStore5
set_option linter.unusedVariables false
set_option linter.unusedSimpArgs false
namespace Go.Proofs.Ytmjflahlhgibnaa.PFnExactRestoreStore.Pure
open Go Go.Eng Go.Proofs
def ltS (x y : T_impl_Stored) : Bool := decide (x.f0 < y.f0) || (decide (x.f0 = y.f0) && decide (x.f1 < y.f1))
def mtS (a b : Int) (x : T_impl_Stored) : Bool := (x.f0 == a) && (x.f1 == b)
def stOk (x : T_impl_Stored) : Bool := inR x.f0 1 5 && (inR x.f1 0 9 && (inR x.f2 0 999 && inR x.f3 1 999))
def prevOk (p : Option T_impl_Stored × T_impl_Stored) : Bool := stOk p.2 && (match p.1 with | none => true | some y => ltS y p.2)
def withPrev (l : List T_impl_Stored) : List (Option T_impl_Stored × T_impl_Stored) := (none :: l.map some).zip l
def storeV (l : List T_impl_Stored) : Bool := decide (l.length ≤ 24) && (withPrev l).all prevOk
abbrev AscS (l : List T_impl_Stored) : Prop := l.Pairwise fun x y => ltS x y = true
theorem ltS_iff {x y : T_impl_Stored} : ltS x y = true ↔ x.f0 < y.f0 ∨ (x.f0 = y.f0 ∧ x.f1 < y.f1) := by simp [ltS]
theorem ltS_no {x y : T_impl_Stored} : ltS x y = false ↔ ¬ (x.f0 < y.f0 ∨ (x.f0 = y.f0 ∧ x.f1 < y.f1)) := by rw [← ltS_iff]; simp
theorem mtS_iff {a b : Int} {x : T_impl_Stored} : mtS a b x = true ↔ x.f0 = a ∧ x.f1 = b := by simp [mtS]
theorem mtS_no {a b : Int} {x : T_impl_Stored} : mtS a b x = false ↔ ¬ (x.f0 = a ∧ x.f1 = b) := by rw [← mtS_iff]; simp
theorem ltS_trans {x y z : T_impl_Stored} (h : ltS x y = true) (k : ltS y z = true) : ltS x z = true := by rw [ltS_iff] at *; omega
theorem withPrev_len (l : List T_impl_Stored) : (withPrev l).length = l.length := by unfold withPrev; simp
theorem withPrev_at {l : List T_impl_Stored} {i : Nat} {p : Option T_impl_Stored × T_impl_Stored} (h : (withPrev l)[i]? = some p) : l[i]? = some p.2 ∧ (i = 0 ∧ p.1 = none ∨ ∃ j y, i = j + 1 ∧ l[j]? = some y ∧ p.1 = some y) := by
  unfold withPrev at h
  obtain ⟨h1, h2⟩ := List.getElem?_zip_eq_some.1 h
  refine ⟨h2, ?_⟩
  cases i with
  | zero => exact .inl ⟨rfl, (Option.some.inj h1).symm⟩
  | succ j =>
    rw [List.getElem?_cons_succ, List.getElem?_map] at h1
    obtain ⟨y, hy, e⟩ := Option.map_eq_some_iff.1 h1
    exact .inr ⟨j, y, rfl, hy, e.symm⟩
theorem prev_asc : ∀ (l : List T_impl_Stored) (o : Option T_impl_Stored), ((o :: l.map some).zip l).all prevOk = true → AscS l ∧ (∀ y, o = some y → ∀ x ∈ l, ltS y x = true) ∧ ∀ x ∈ l, stOk x = true
  | [], o, _ => ⟨List.Pairwise.nil, (fun _ _ x h => by simp at h), fun x h => by simp at h⟩
  | x :: l, o, h => by
    simp only [List.map_cons, List.zip_cons_cons, List.all_cons, Bool.and_eq_true] at h
    obtain ⟨h1, h2⟩ := h
    obtain ⟨q1, q2, q3⟩ := prev_asc l (some x) h2
    unfold prevOk at h1
    rw [Bool.and_eq_true] at h1
    refine ⟨List.pairwise_cons.2 ⟨fun y hy => q2 x rfl y hy, q1⟩, fun y hy z hz => ?_, fun z hz => ?_⟩
    · subst hy
      have h3 : ltS y x = true := h1.2
      rcases List.mem_cons.1 hz with rfl | hz
      · exact h3
      · exact ltS_trans h3 (q2 x rfl z hz)
    · rcases List.mem_cons.1 hz with rfl | hz
      · exact h1.1
      · exact q3 z hz
theorem store_asc {l : List T_impl_Stored} (h : storeV l = true) : AscS l ∧ (∀ x ∈ l, stOk x = true) ∧ l.length ≤ 24 := by
  unfold storeV at h
  rw [Bool.and_eq_true] at h
  obtain ⟨h1, _, h3⟩ := prev_asc l none h.2
  exact ⟨h1, h3, of_decide_eq_true h.1⟩
theorem asc_uniq {l : List T_impl_Stored} (h : AscS l) {x y : T_impl_Stored} (hx : x ∈ l) (hy : y ∈ l) (e0 : x.f0 = y.f0) (e1 : x.f1 = y.f1) : x = y := by
  obtain ⟨i, hi, rfl⟩ := List.mem_iff_getElem.1 hx
  obtain ⟨j, hj, rfl⟩ := List.mem_iff_getElem.1 hy
  by_cases hij : i = j
  · subst hij; rfl
  · rcases Nat.lt_or_gt_of_ne hij with h1 | h1
    · have := ltS_iff.1 (List.pairwise_iff_getElem.1 h i j hi hj h1); omega
    · have := ltS_iff.1 (List.pairwise_iff_getElem.1 h j i hj hi h1); omega
theorem perm_uniq : ∀ {l m : List T_impl_Stored}, AscS l → AscS m → l.Perm m → l = m := fun {l m} hl hm hp =>
  List.Perm.eq_of_pairwise (le := fun x y => ltS x y = true) (fun a b _ _ h1 h2 => by have := ltS_iff.1 h1; have := ltS_iff.1 h2; omega) hl hm hp
def dropV (l : List T_impl_Stored) (e : Int) : List T_impl_Stored := l.filter fun x => x.f0 != e
theorem foldl_filter {α : Type} (p : α → Bool) (xs : List α) : ∀ s : List α, xs.foldl (fun s x => bif p x then s ++ [x] else s) s = s ++ xs.filter p := by
  induction xs with
  | nil => intro s; simp
  | cons x xs ih => intro s; rw [List.foldl_cons, ih]; cases h : p x <;> simp [h]
theorem spec_DropStored_e {k : Nat} (hk : Big k) {l : List T_impl_Stored} (hl : Ok l) (e : Int) : spec_DropStored.f k l e = some (dropV l e) := by
  have hl' := hl.out
  unfold spec_DropStored.f dropV
  have := loop_fold (fun q i s => spec_DropStored.l3 k e l (fun y => some y) q i s) (fun s x => bif x.f0 != e then s ++ [x] else s) (fun i s => s.length ≤ i) (fun s => some s) l (fun n i x s hx hi => by
    have hlt := lt_of hx
    obtain ⟨h1, h2, h3, h4⟩ := at_ hx (by omega)
    have hi : s.length ≤ i := hi
    simp only [spec_DropStored.l3, spec_DropStored.L3, rd_impl_Stored, h1, h2, h3, h4, cond_true]
    rw [decide_eq_true (by unfold cap48; simp; omega), cond_true]
    cases x.f0 != e <;> rfl) (fun i x s hx hi => by
    have hi : s.length ≤ i := hi
    cases x.f0 != e
    · show s.length ≤ i + 1; omega
    · show (s ++ [x]).length ≤ i + 1; simp; omega) (fun n s hi => by simp only [spec_DropStored.l3, spec_DropStored.L3, end_, cond_false]) k [] (hk.lt hl) (Nat.le_refl 0)
  rw [foldl_filter (fun x : T_impl_Stored => x.f0 != e)] at this
  exact this
theorem spec_l24Less_e (k : Nat) (x y : T_impl_Stored) : spec_l24Less.f k x.f0 x.f1 x.f2 x.f3 y.f0 y.f1 y.f2 y.f3 = some (ltS x y) := by
  unfold spec_l24Less.f ltS
  by_cases h1 : x.f0 < y.f0
  · simp [h1]
  · by_cases h2 : x.f0 = y.f0
    · simp [h2]
    · rw [decide_eq_false h1, beqF h2, decide_eq_false h2]; rfl
theorem loop_tw {α R : Type} (l : Nat → Int → Option R) (p : α → Bool) (X : Int → Option R) (xs : List α)
    (hs : ∀ n (i : Nat) x, xs[i]? = some x → l (n + 1) (i : Int) = bif p x then l n ((i + 1 : Nat) : Int) else X (i : Int)) (he : ∀ n, l (n + 1) (xs.length : Int) = X (xs.length : Int)) (n : Nat) (hn : xs.length < n) :
    l n 0 = X ((xs.takeWhile p).length : Int) := by
  have key : ∀ (suf pre : List α) n, xs = pre ++ suf → suf.length < n → l n (pre.length : Int) = X ((pre.length + (suf.takeWhile p).length : Nat) : Int) := by
    intro suf
    induction suf with
    | nil =>
      intro pre n hx hn
      obtain ⟨n, rfl⟩ : ∃ q, n = q + 1 := ⟨n - 1, by simp at hn; omega⟩
      have e : pre.length = xs.length := by rw [hx]; simp
      rw [e, he n]
      rfl
    | cons x suf ih =>
      intro pre n hx hn
      obtain ⟨n, rfl⟩ : ∃ q, n = q + 1 := ⟨n - 1, by simp at hn; omega⟩
      have hg : xs[pre.length]? = some x := by rw [hx]; simp
      rw [hs n pre.length x hg]
      cases hp : p x with
      | true =>
        have := ih (pre ++ [x]) n (by rw [hx]; simp) (by simp at hn; omega)
        rw [List.takeWhile_cons_of_pos hp, cond_true]
        simp only [List.length_append, List.length_cons, List.length_nil] at this ⊢
        rw [this]
        congr 2
        omega
      | false =>
        rw [List.takeWhile_cons_of_neg (by simp [hp])]
        rfl
  have := key xs [] n rfl hn
  simpa using this
def plN (l : List T_impl_Stored) (a b : Int) : Nat := (l.takeWhile fun x => !mtS a b x).length
def plV (l : List T_impl_Stored) (a b : Int) : Int := bif decide (plN l a b < l.length) then (plN l a b : Int) else -1
theorem plN_le (l : List T_impl_Stored) (a b : Int) : plN l a b ≤ l.length := by unfold plN; exact (List.takeWhile_sublist _).length_le
theorem tw_split {α : Type} (p : α → Bool) : ∀ l : List α, (l.takeWhile p).length < l.length → ∃ A y B, l = A ++ y :: B ∧ A = l.takeWhile p ∧ p y = false ∧ B = l.drop ((l.takeWhile p).length + 1) ∧ ∀ a ∈ A, p a = true
  | [], h => by simp at h
  | x :: l, h => by
    cases hx : p x with
    | false =>
      rw [List.takeWhile_cons_of_neg (by simp [hx])]
      exact ⟨[], x, l, rfl, rfl, hx, rfl, fun a ha => by cases ha⟩
    | true =>
      rw [List.takeWhile_cons_of_pos hx] at h ⊢
      obtain ⟨A, y, B, e, e1, e2, e3, e4⟩ := tw_split p l (by simpa using h)
      refine ⟨x :: A, y, B, by rw [e]; rfl, by rw [← e1], e2, by simpa using e3, fun a ha => ?_⟩
      rcases List.mem_cons.1 ha with rfl | ha
      · exact hx
      · exact e4 a ha
theorem tw_all {α : Type} (p : α → Bool) : ∀ l : List α, (l.takeWhile p).length = l.length → ∀ a ∈ l, p a = true
  | [], _, a, ha => by cases ha
  | x :: l, h, a, ha => by
    cases hx : p x with
    | false => rw [List.takeWhile_cons_of_neg (by simp [hx])] at h; simp at h
    | true =>
      rw [List.takeWhile_cons_of_pos hx] at h
      rcases List.mem_cons.1 ha with rfl | ha
      · exact hx
      · exact tw_all p l (by simpa using h) a ha
theorem plN_at {l : List T_impl_Stored} {a b : Int} (h : plN l a b < l.length) : ∃ A y B, l = A ++ y :: B ∧ plN l a b = A.length ∧ y.f0 = a ∧ y.f1 = b ∧ rd_impl_Stored l (plN l a b : Int) = y := by
  obtain ⟨A, y, B, e, e1, e2, e3, e4⟩ := tw_split (fun x => !mtS a b x) l h
  have e2 := mtS_iff.1 (by simpa using e2 : mtS a b y = true)
  refine ⟨A, y, B, e, by unfold plN; rw [← e1], e2.1, e2.2, ?_⟩
  have hp : plN l a b = A.length := by unfold plN; rw [← e1]
  rw [hp]
  show l.getD A.length z_impl_Stored = y
  rw [List.getD_eq_getElem?_getD, e]
  simp
theorem plN_none {l : List T_impl_Stored} {a b : Int} (h : ¬ plN l a b < l.length) : ∀ y ∈ l, ¬ (y.f0 = a ∧ y.f1 = b) := fun y hy => by
  have := tw_all (fun x => !mtS a b x) l (by have := plN_le l a b; unfold plN at this h; omega) y hy
  exact mtS_no.1 (by simpa using this)
def setN (l : List T_impl_Stored) (x : T_impl_Stored) : Nat := (l.takeWhile fun y => ltS y x).length
def setV (l : List T_impl_Stored) (x : T_impl_Stored) : List T_impl_Stored := l.takeWhile (fun y => ltS y x) ++ [x] ++ (bif decide (setN l x < l.length) && !ltS x (rd_impl_Stored l (setN l x : Int)) then l.drop (setN l x + 1) else l.drop (setN l x))
theorem setN_le (l : List T_impl_Stored) (x : T_impl_Stored) : setN l x ≤ l.length := by unfold setN; exact (List.takeWhile_sublist _).length_le
theorem setV_len (l : List T_impl_Stored) (x : T_impl_Stored) : (setV l x).length ≤ l.length + 1 := by
  have h := setN_le l x
  have e : (l.takeWhile fun y => ltS y x).length = setN l x := rfl
  unfold setV
  cases decide (setN l x < l.length) && !ltS x (rd_impl_Stored l (setN l x : Int))
  · simp only [cond_false, List.length_append, List.length_cons, List.length_nil, List.length_drop, e]; omega
  · simp only [cond_true, List.length_append, List.length_cons, List.length_nil, List.length_drop, e]; omega
/-- A new entry: the list stays in order, and holds it too. -/
theorem setV_new {s : List T_impl_Stored} (h : AscS s) {x : T_impl_Stored} (hn : ∀ y ∈ s, ¬ (y.f0 = x.f0 ∧ y.f1 = x.f1)) : AscS (setV s x) ∧ (setV s x).Perm (s ++ [x]) := by
  unfold setV
  by_cases hlt : setN s x < s.length
  · obtain ⟨A, y, B, e, e1, e2, e3, e4⟩ := tw_split (fun y => ltS y x) s hlt
    have hN : setN s x = A.length := by unfold setN; rw [← e1]
    have hrd : rd_impl_Stored s (setN s x : Int) = y := by
      rw [hN]
      show s.getD A.length z_impl_Stored = y
      rw [List.getD_eq_getElem?_getD, e]; simp
    have hy : y ∈ s := by rw [e]; simp
    have hxy : ltS x y = true := by
      have h1 := ltS_no.1 e2
      have h2 := hn y hy
      rw [ltS_iff]; omega
    rw [decide_eq_true hlt, hrd, hxy, ← e1]
    have hd : s.drop (setN s x) = y :: B := by rw [hN, e]; simp
    simp only [Bool.not_true, Bool.and_false, cond_false, hd]
    rw [e] at h
    obtain ⟨p1, p2, p3⟩ := List.pairwise_append.1 h
    obtain ⟨p4, p5⟩ := List.pairwise_cons.1 p2
    refine ⟨?_, ?_⟩
    · rw [List.append_assoc]
      refine List.pairwise_append.2 ⟨p1, List.pairwise_cons.2 ⟨fun z hz => ?_, p2⟩, fun a ha z hz => ?_⟩
      · rcases List.mem_cons.1 hz with rfl | hz
        · exact hxy
        · exact ltS_trans hxy (p4 z hz)
      · rcases List.mem_cons.1 hz with rfl | hz
        · exact e4 a ha
        · exact p3 a ha z hz
    · rw [e, List.append_assoc, List.append_assoc]
      refine List.Perm.append_left A ?_
      rw [List.singleton_append]
      exact (List.perm_append_singleton x (y :: B)).symm
  · have hall := tw_all (fun y => ltS y x) s (by have := setN_le s x; unfold setN at this hlt; omega)
    have e1 : s.takeWhile (fun y => ltS y x) = s := (List.takeWhile_sublist _).eq_of_length (by have := setN_le s x; unfold setN at this hlt; omega)
    rw [decide_eq_false hlt, e1]
    have hd : s.drop (setN s x) = [] := List.drop_eq_nil_of_le (by omega)
    simp only [Bool.false_and, cond_false, hd, List.append_nil]
    refine ⟨List.pairwise_append.2 ⟨h, List.pairwise_singleton _ _, fun a ha z hz => ?_⟩, List.Perm.refl _⟩
    obtain rfl := List.mem_singleton.1 hz
    exact hall a ha
/-- An entry that is there already is put in its place. -/
theorem setV_old {s : List T_impl_Stored} (h : AscS s) {x y : T_impl_Stored} (hy : y ∈ s) (e0 : y.f0 = x.f0) (e1' : y.f1 = x.f1) : AscS (setV s x) ∧ ∃ A B, s = A ++ y :: B ∧ setV s x = A ++ x :: B := by
  have hyx : ltS y x = false := ltS_no.2 (by omega)
  have hlt : setN s x < s.length := by
    by_cases hlt : setN s x < s.length
    · exact hlt
    · have := tw_all (fun y => ltS y x) s (by have := setN_le s x; unfold setN at this hlt; omega) y hy
      rw [show ltS y x = true from this] at hyx
      cases hyx
  obtain ⟨A, z, B, e, e1, e2, e3, e4⟩ := tw_split (fun y => ltS y x) s hlt
  have hN : setN s x = A.length := by unfold setN; rw [← e1]
  rw [e] at h hy
  obtain ⟨p1, p2, p3⟩ := List.pairwise_append.1 h
  obtain ⟨p4, p5⟩ := List.pairwise_cons.1 p2
  have hyz : y = z := by
    rcases List.mem_append.1 hy with hy | hy
    · rw [show ltS y x = true from e4 y hy] at hyx; cases hyx
    · rcases List.mem_cons.1 hy with hy | hy
      · exact hy
      · have h3 := ltS_iff.1 (p4 y hy)
        have h4 := ltS_no.1 e2
        omega
  subst hyz
  have hrd : rd_impl_Stored s (setN s x : Int) = y := by
    rw [hN]
    show s.getD A.length z_impl_Stored = y
    rw [List.getD_eq_getElem?_getD, e]; simp
  have hxy : ltS x y = false := ltS_no.2 (by omega)
  have hs : setV s x = A ++ x :: B := by
    unfold setV
    have e3' : B = s.drop (setN s x + 1) := e3
    rw [decide_eq_true hlt, hrd, hxy, ← e1]
    simp only [Bool.not_false, Bool.and_true, cond_true, ← e3', List.append_assoc, List.singleton_append]
  refine ⟨?_, A, B, e, hs⟩
  rw [hs]
  refine List.pairwise_append.2 ⟨p1, List.pairwise_cons.2 ⟨fun w hw => ?_, p5⟩, fun a ha w hw => ?_⟩
  · have := ltS_iff.1 (p4 w hw); rw [ltS_iff]; omega
  · rcases List.mem_cons.1 hw with rfl | hw
    · exact e4 a ha
    · exact p3 a ha w (List.mem_cons_of_mem _ hw)
theorem loop_tw_acc {α R : Type} (l : Nat → Int → List α → Option R) (p : α → Bool) (X : Int → List α → Option R) (xs : List α)
    (hs : ∀ n (i : Nat) x acc, xs[i]? = some x → acc.length = i → l (n + 1) (i : Int) acc = bif p x then l n ((i + 1 : Nat) : Int) (acc ++ [x]) else X (i : Int) acc) (he : ∀ n acc, l (n + 1) (xs.length : Int) acc = X (xs.length : Int) acc) (n : Nat) (hn : xs.length < n) :
    l n 0 [] = X ((xs.takeWhile p).length : Int) (xs.takeWhile p) := by
  have key : ∀ (suf pre : List α) n, xs = pre ++ suf → suf.length < n → l n (pre.length : Int) pre = X ((pre.length + (suf.takeWhile p).length : Nat) : Int) (pre ++ suf.takeWhile p) := by
    intro suf
    induction suf with
    | nil =>
      intro pre n hx hn
      obtain ⟨n, rfl⟩ : ∃ q, n = q + 1 := ⟨n - 1, by simp at hn; omega⟩
      have e : pre.length = xs.length := by rw [hx]; simp
      rw [e, he n]
      simp
    | cons x suf ih =>
      intro pre n hx hn
      obtain ⟨n, rfl⟩ : ∃ q, n = q + 1 := ⟨n - 1, by simp at hn; omega⟩
      have hg : xs[pre.length]? = some x := by rw [hx]; simp
      rw [hs n pre.length x pre hg rfl]
      cases hp : p x with
      | true =>
        have := ih (pre ++ [x]) n (by rw [hx]; simp) (by simp at hn; omega)
        rw [List.takeWhile_cons_of_pos hp, cond_true]
        simp only [List.length_append, List.length_cons, List.length_nil, List.append_assoc, List.singleton_append] at this ⊢
        rw [this]
        congr 2
        omega
      | false =>
        rw [List.takeWhile_cons_of_neg (by simp [hp])]
        simp
  have := key xs [] n rfl hn
  simpa using this
theorem spec_l24Set_e {k : Nat} (hk : Big k) {l : List T_impl_Stored} (hl : Ok l) (x : T_impl_Stored) : spec_l24Set.f k l x.f0 x.f1 x.f2 x.f3 = some (setV l x) := by
  have hl' := hl.out
  have hN := setN_le l x
  have key : ∀ X : Int → List T_impl_Stored → Option (List T_impl_Stored), spec_l24Set.l3 k l x.f0 x.f1 x.f2 x.f3 X k 0 [] = X ((setN l x : Nat) : Int) (l.takeWhile fun y => ltS y x) := fun X => loop_tw_acc (fun q i s => spec_l24Set.l3 k l x.f0 x.f1 x.f2 x.f3 X q i s) (fun y => ltS y x) X l (fun n i y acc hy ha => by
    have hlt := lt_of hy
    obtain ⟨h1, h2, h3, h4⟩ := at_ hy (by omega)
    simp only [spec_l24Set.l3, spec_l24Set.L3, rd_impl_Stored, h1, h2, h3, h4, cond_true, spec_l24Less_e, Option.bind_some]
    rw [decide_eq_true (by unfold cap48; simp; omega), cond_true]) (fun n acc => by simp only [spec_l24Set.l3, spec_l24Set.L3, end_, cond_false]) k (hk.lt hl)
  unfold spec_l24Set.f
  rw [key]
  clear key
  unfold setV
  have hA : (l.takeWhile fun y => ltS y x).length = setN l x := rfl
  generalize (l.takeWhile fun y => ltS y x) = A at hA
  generalize setN l x = n at hA hN
  have g1 : decide ((A.length + ([(⟨x.f0, x.f1, x.f2, x.f3⟩ : T_impl_Stored)] : List T_impl_Stored).length) * 32 ≤ cap48) = true := decide_eq_true (by unfold cap48; simp; omega)
  have g2 : decide (((A ++ [(⟨x.f0, x.f1, x.f2, x.f3⟩ : T_impl_Stored)]).length + ((l.take l.length).drop (n + 1)).length) * 32 ≤ cap48) = true := decide_eq_true (by unfold cap48; simp; omega)
  have g3 : decide (((A ++ [(⟨x.f0, x.f1, x.f2, x.f3⟩ : T_impl_Stored)]).length + ((l.take l.length).drop n).length) * 32 ≤ cap48) = true := decide_eq_true (by unfold cap48; simp; omega)
  have w1 : w64 ((n : Int) + 1) = ((n + 1 : Nat) : Int) := by rw [w64_id (by omega)]; omega
  by_cases h : n < l.length
  · simp only [nn_, cond_true, Int.toNat_natCast, Int.le_refl, decide_true, decide_eq_true (show (n : Int) ≤ (l.length : Int) by omega), decide_eq_true (show (n : Int) < (l.length : Int) by omega), w1, decide_eq_true (show ((n + 1 : Nat) : Int) ≤ (l.length : Int) by omega), g1, g2, g3, decide_eq_true h, Bool.true_and, spec_l24Less_e, Option.bind_some]
    cases ltS x (rd_impl_Stored l (n : Int)) <;> simp [List.take_length]
  · simp only [nn_, cond_true, Int.toNat_natCast, Int.le_refl, decide_true, decide_eq_true (show (n : Int) ≤ (l.length : Int) by omega), decide_eq_false (show ¬ (n : Int) < (l.length : Int) by omega), cond_false, g1, g3, decide_eq_false h, Bool.false_and]
    simp [List.take_length]
theorem spec_l1In_e (k : Nat) (n a b : Int) : spec_l1In.f k n a b = some (inR n a b) := by
  unfold spec_l1In.f inR
  by_cases h : a ≤ n <;> simp [h]
theorem spec_IsStore_e {k : Nat} (hk : Big k) {l : List T_impl_Stored} (hl : Ok l) : spec_IsStore.f k l = some (storeV l) := by
  have hl' := hl.out
  unfold spec_IsStore.f storeV
  have hlen := withPrev_len l
  have := loop_all (spec_IsStore.l2 k l (fun y => some y) (fun _ => some (decide ((l.length : Int) ≤ 24)))) prevOk (some (decide ((l.length : Int) ≤ 24))) (some false) (withPrev l) (fun n i p hp => by
    obtain ⟨hx, hpr⟩ := withPrev_at hp
    obtain ⟨h1, h2, h3, h4⟩ := at_ hx (by omega)
    simp only [spec_IsStore.l2, spec_IsStore.L2, rd_impl_Stored, h1, h2, h3, h4, cond_true, spec_l1In_e, Option.bind_some]
    unfold prevOk stOk
    rcases hpr with ⟨rfl, e⟩ | ⟨j, y, rfl, hy, e⟩
    · rw [e, decide_eq_false (by omega)]
      cases inR p.2.f0 1 5 <;> cases inR p.2.f1 0 9 <;> cases inR p.2.f2 0 999 <;> cases inR p.2.f3 1 999 <;> rfl
    · obtain ⟨g1, g2, g3, g4⟩ := at_ hy (by omega)
      have hlt := lt_of hy
      rw [e, decide_eq_true (show ((j + 1 : Nat) : Int) > 0 by omega), w64_id (n := ((j + 1 : Nat) : Int) - 1) (by omega), show ((j + 1 : Nat) : Int) - 1 = (j : Int) by omega, g1, nn_]
      simp only [g4, spec_l24Less_e, Option.bind_some, cond_true]
      cases inR p.2.f0 1 5 <;> cases inR p.2.f1 0 9 <;> cases inR p.2.f2 0 999 <;> cases inR p.2.f3 1 999 <;> cases ltS y p.2 <;> rfl) (fun n => by rw [hlen]; simp only [spec_IsStore.l2, spec_IsStore.L2, end_, cond_false]) k (by rw [hlen]; exact hk.lt hl)
  rw [this, show decide ((l.length : Int) ≤ 24) = decide (l.length ≤ 24) by rw [decide_eq_decide]; omega]
  cases (withPrev l).all prevOk <;> cases decide (l.length ≤ 24) <;> rfl
def isPattern (a b : Int) : Bool := inR a 0 9 && inR b (-1) 9
def isGrant (e a b kd f u : Int) : Bool := inR e 1 5 && (isPattern a b && (inR kd 1 4 && (decide (0 ≤ f) && (decide (f ≤ u) && decide (u ≤ 10000)))))
def isNarrow (a b c d : Int) : Bool := isPattern a b && (isPattern c d && ((c == 0 || a == c) && (d == -1 || b == d)))
def gOk (x : T_impl_Grant) : Bool := isGrant x.f0 x.f1.f0 x.f1.f1 x.f2 x.f3 x.f4
def wOk (x y : T_impl_Grant) : Bool := gOk x && (gOk y && (x.f0 == y.f0 && (x.f2 == y.f2 && (isNarrow x.f1.f0 x.f1.f1 y.f1.f0 y.f1.f1 && (decide (y.f3 ≤ x.f3) && (decide (x.f4 ≤ y.f4) && (x.f5 || !y.f5)))))))
def within (l m : List T_impl_Grant) : Bool := l.all fun x => m.any (wOk x)
def widened (l m : List T_impl_Grant) : List T_impl_Grant := m.filter fun x => !(l.any (wOk x))
theorem take_drop_one {α : Type} {xs : List α} {i : Nat} {x : α} (h : xs[i]? = some x) : ((xs.take (((i + 1 : Nat) : Int)).toNat).drop ((i : Int)).toNat) = [x] := by
  have hi := lt_of h
  have hx : xs[i] = x := by
    rw [List.getElem?_eq_getElem hi] at h
    exact Option.some.inj h
  show (xs.take (i + 1)).drop i = [x]
  rw [List.take_succ_eq_append_getElem hi, List.drop_append_of_le_length (by rw [List.length_take]; omega), List.drop_eq_nil_of_le (by rw [List.length_take]; omega), hx]
  rfl
def entriesOf (e : Int) (l : List T_impl_Stored) : List T_impl_Stored := l.filter fun x => x.f0 == e
theorem spec_l30Entries_e {k : Nat} (hk : Big k) {l : List T_impl_Stored} (hl : Ok l) (e : Int) : spec_l30Entries.f k l e = some (entriesOf e l) := by
  have hl' := hl.out
  unfold spec_l30Entries.f entriesOf
  have := loop_fold (fun q i s => spec_l30Entries.l3 k e l (fun y => some y) q i s) (fun s x => bif (x.f0 == e) then s ++ [x] else s) (fun i s => s.length ≤ i) (fun y => some y) l (fun q i x s hx hs => by
    obtain ⟨h1, h2, h3, h4⟩ := at_ hx (by omega)
    have hi := lt_of hx
    have hs : s.length ≤ i := hs
    have g4 : decide ((s.length + ([x] : List T_impl_Stored).length) * 32 ≤ cap48) = true := decide_eq_true (by unfold cap48; simp; omega)
    simp only [spec_l30Entries.l3, spec_l30Entries.L3, rd_impl_Stored, h1, h2, h3, h4, cond_true]
    rw [g4]
    cases (x.f0 == e) <;> rfl) (fun i x s hx hs => by
    have hs : s.length ≤ i := hs
    show (bif (x.f0 == e) then s ++ [x] else s).length ≤ i + 1
    cases (x.f0 == e) <;> simp <;> omega) (fun q s _ => by simp only [spec_l30Entries.l3, spec_l30Entries.L3, end_, cond_false]) k [] (hk.lt hl) (by simp)
  rw [this, foldl_filter]; rfl
def restoreV (l : List T_impl_Stored) (e : Int) (s : List T_impl_Stored) : Bool × List T_impl_Stored :=
  bif storeV l && (storeV s && (storeV (s.foldl setV (dropV l e)) && s.all fun x => x.f0 == e)) then (true, s.foldl setV (dropV l e)) else (false, l)
theorem setV_fold_len : ∀ (b s : List T_impl_Stored), (b.foldl setV s).length ≤ s.length + b.length
  | [], s => by simp
  | x :: b, s => by
    have h1 := setV_fold_len b (setV s x)
    have h2 := setV_len s x
    rw [List.foldl_cons, List.length_cons]; omega
theorem dropV_len (l : List T_impl_Stored) (e : Int) : (dropV l e).length ≤ l.length := by unfold dropV; exact List.length_filter_le _ _
theorem set_fold : ∀ (b s : List T_impl_Stored), AscS s → AscS b → (∀ x ∈ b, ∀ y ∈ s, ¬ (y.f0 = x.f0 ∧ y.f1 = x.f1)) → AscS (b.foldl setV s) ∧ (b.foldl setV s).Perm (s ++ b)
  | [], s, hs, _, _ => ⟨hs, by simp⟩
  | x :: b, s, hs, hb, h => by
    obtain ⟨b1, b2⟩ := List.pairwise_cons.1 hb
    obtain ⟨h1, h2⟩ := setV_new hs (h x (List.mem_cons_self ..))
    obtain ⟨h3, h4⟩ := set_fold b (setV s x) h1 b2 fun z hz y hy => by
      rcases List.mem_append.1 (h2.mem_iff.1 hy) with hy | hy
      · exact h z (List.mem_cons_of_mem _ hz) y hy
      · obtain rfl := List.mem_singleton.1 hy
        have := ltS_iff.1 (b1 z hz)
        omega
    refine ⟨h3, h4.trans ?_⟩
    have := h2.append_right b
    simpa using this
theorem restore_perm {l s : List T_impl_Stored} {e : Int} (hl : AscS l) (hs : AscS s) (ha : (s.all fun x => x.f0 == e) = true) : AscS (s.foldl setV (dropV l e)) ∧ (dropV l e ++ s).Perm (s.foldl setV (dropV l e)) := by
  obtain ⟨h1, h2⟩ := set_fold s (dropV l e) (hl.sublist List.filter_sublist) hs fun x hx y hy => by
    have h3 := eq_of_beq (List.all_eq_true.1 ha x hx)
    have h4 := (List.mem_filter.1 hy).2
    simp only [bne_iff_ne, ne_eq] at h4
    omega
  exact ⟨h1, h2.symm⟩
theorem restoreV_ok {l : List T_impl_Stored} (hl : Ok l) (e : Int) (s : List T_impl_Stored) : Ok (restoreV l e s).2 := by
  unfold restoreV
  cases h : storeV l && (storeV s && (storeV (s.foldl setV (dropV l e)) && s.all fun x => x.f0 == e)) with
  | false => exact hl
  | true =>
    rw [Bool.and_eq_true, Bool.and_eq_true, Bool.and_eq_true] at h
    have := (store_asc h.2.2.1).2.2
    exact Ok.small 24 this
theorem all_filter {α : Type} (p : α → Bool) (l : List α) : (l.filter p).length = l.length ↔ l.all p = true := by
  rw [List.all_eq_true]
  exact List.length_filter_eq_length_iff
theorem spec_RestoreStore_e {k : Nat} (hk : Big k) {l : List T_impl_Stored} (hl : Ok l) (e a b d : Int) (g : List T_impl_Grant) (f : List T_impl_Flow) (r : List T_impl_Rule) (o : List T_impl_Op) {s : List T_impl_Stored} (hs : Ok s) (hls : l.length + s.length ≤ 1048576) :
    spec_RestoreStore.f k l e a b g f r o d s = some (restoreV l e s) := by
  have hl' := hl.out
  have hs' := hs.out
  have hd := dropV_len l e
  unfold spec_RestoreStore.f restoreV
  rw [spec_DropStored_e hk hl, Option.bind_some]
  have key : ∀ X : List T_impl_Stored → Option (Bool × List T_impl_Stored), spec_RestoreStore.l3 k l g f r o s e a b d X k 0 (dropV l e) = X (s.foldl setV (dropV l e)) := fun X =>
    loop_fold (fun q i t => spec_RestoreStore.l3 k l g f r o s e a b d X q i t) setV (fun i t => t.length ≤ l.length + i) X s (fun n i x t hx hi => by
      have hlt := lt_of hx
      obtain ⟨h1, h2, h3, h4⟩ := at_ hx (by omega)
      have hi : t.length ≤ l.length + i := hi
      simp only [spec_RestoreStore.l3, spec_RestoreStore.L3, rd_impl_Stored, h1, h2, h3, h4, cond_true, spec_l24Set_e hk (Ok.small (l := t) 1048576 (by omega)), Option.bind_some]) (fun i x t hx hi => by
      have hi : t.length ≤ l.length + i := hi
      have := setV_len t x
      show (setV t x).length ≤ l.length + (i + 1)
      omega) (fun n t hi => by simp only [spec_RestoreStore.l3, spec_RestoreStore.L3, end_, cond_false]) k (dropV l e) (hk.lt hs) (by show (dropV l e).length ≤ l.length + 0; omega)
  have hlen := setV_fold_len s (dropV l e)
  have hE : Ok (entriesOf e s) := hs.filter
  rw [key, spec_IsStore_e hk hl, spec_IsStore_e hk hs, spec_IsStore_e hk (Ok.small (l := s.foldl setV (dropV l e)) 1048576 (by omega)), spec_l30Entries_e hk hs, decide_eq_true (show (([] : List T_impl_Stored).length + l.length) * 32 ≤ cap48 by unfold cap48; simp; omega)]
  simp only [Option.bind_some, cond_true, List.nil_append]
  have hq : (((entriesOf e s).length : Int) != (s.length : Int)) = !(s.all fun x => x.f0 == e) := by
    have h := all_filter (fun x : T_impl_Stored => x.f0 == e) s
    unfold entriesOf
    cases h2 : s.all fun x => x.f0 == e with
    | true => rw [h.2 h2]; simp
    | false =>
      have : ¬ (s.filter fun x => x.f0 == e).length = s.length := fun h3 => by rw [h.1 h3] at h2; cases h2
      rw [bneT (by omega)]; rfl
  rw [hq]
  cases storeV l <;> cases storeV s <;> cases storeV (s.foldl setV (dropV l e)) <;> cases (s.all fun x => x.f0 == e) <;> rfl
theorem impl_DropStored_e {k : Nat} (hk : Big k) {l : List T_impl_Stored} (hl : Ok l) (e : Int) : impl_DropStored.f k l e = some (dropV l e) := by
  have hl' := hl.out
  unfold impl_DropStored.f dropV
  have := loop_fold (fun q i s => impl_DropStored.l3 k e (l.length : Int) l (fun y => some y) q i s) (fun s x => bif x.f0 != e then s ++ [x] else s) (fun i s => s.length ≤ i) (fun s => some s) l (fun n i x s hx hi => by
    have hlt := lt_of hx
    obtain ⟨h1, h2, h3, h4⟩ := at_ hx (by omega)
    have hi : s.length ≤ i := hi
    simp only [impl_DropStored.l3, impl_DropStored.L3, rd_impl_Stored, h1, h2, h3, h4, cond_true]
    rw [decide_eq_true (by unfold cap48; simp; omega), cond_true]
    cases x.f0 != e <;> rfl) (fun i x s hx hi => by
    have hi : s.length ≤ i := hi
    cases x.f0 != e
    · show s.length ≤ i + 1; omega
    · show (s ++ [x]).length ≤ i + 1; simp; omega) (fun n s hi => by simp only [impl_DropStored.l3, impl_DropStored.L3, end_, cond_false]) k [] (hk.lt hl) (Nat.le_refl 0)
  rw [foldl_filter (fun x : T_impl_Stored => x.f0 != e)] at this
  exact this
theorem impl_InRange_e (k : Nat) (n a b : Int) : impl_InRange.f k n a b = some (inR n a b) := by
  unfold impl_InRange.f inR
  by_cases h : a ≤ n <;> simp [h]
def cmpS (x y : T_impl_Stored) : Int := bif decide (x.f0 < y.f0) then -1 else bif decide (x.f0 > y.f0) then 1 else bif decide (x.f1 < y.f1) then -1 else bif decide (x.f1 > y.f1) then 1 else 0
theorem impl_compareStored_e {k : Nat} (hk : Big k) (x y : T_impl_Stored) : ∃ n, impl_compareStored.f k x.f0 x.f1 x.f2 x.f3 y.f0 y.f1 y.f2 y.f3 = some n ∧ decide (n ≥ 0) = !ltS x y := by
  have hk' := hk.out
  obtain ⟨q, rfl⟩ : ∃ j, k = j + 3 := ⟨k - 3, by omega⟩
  refine ⟨cmpS x y, ?_, ?_⟩
  · unfold impl_compareStored.f cmp_Compare_int.f cmpS
    simp only [cmp_isNaN_int.f, bne_self_eq_false, Option.bind_some]
    cases decide (x.f0 < y.f0) <;> cases decide (x.f0 > y.f0) <;> cases decide (x.f1 < y.f1) <;> cases decide (x.f1 > y.f1) <;> rfl
  · unfold ltS cmpS
    by_cases h1 : x.f0 < y.f0
    · simp [h1]
    · by_cases h2 : x.f0 > y.f0
      · simp [h1, h2]; omega
      · have h3 : x.f0 = y.f0 := by omega
        by_cases h4 : x.f1 < y.f1
        · simp [h3, h4]
        · by_cases h5 : x.f1 > y.f1 <;> simp [h3, h4, h5]
theorem impl_IsStore_e {k : Nat} (hk : Big k) {l : List T_impl_Stored} (hl : Ok l) : impl_IsStore.f k l = some (storeV l) := by
  have hl' := hl.out
  unfold impl_IsStore.f storeV
  have hlen := withPrev_len l
  have := loop_all (impl_IsStore.l4 k (l.length : Int) l (fun y => some y) (fun _ => some true)) prevOk (some true) (some false) (withPrev l) (fun n i p hp => by
    obtain ⟨hx, hpr⟩ := withPrev_at hp
    obtain ⟨h1, h2, h3, h4⟩ := at_ hx (by omega)
    simp only [impl_IsStore.l4, impl_IsStore.L4, rd_impl_Stored, h1, h2, h3, h4, cond_true, impl_InRange_e, Option.bind_some]
    unfold prevOk stOk
    rcases hpr with ⟨rfl, e⟩ | ⟨j, y, rfl, hy, e⟩
    · rw [e, decide_eq_false (by omega)]
      cases inR p.2.f0 1 5 <;> cases inR p.2.f1 0 9 <;> cases inR p.2.f2 0 999 <;> cases inR p.2.f3 1 999 <;> rfl
    · obtain ⟨g1, g2, g3, g4⟩ := at_ hy (by omega)
      have hlt := lt_of hy
      obtain ⟨n9, c1, c2⟩ := impl_compareStored_e hk y p.2
      rw [e, decide_eq_true (show ((j + 1 : Nat) : Int) > 0 by omega), w64_id (n := ((j + 1 : Nat) : Int) - 1) (by omega), show ((j + 1 : Nat) : Int) - 1 = (j : Int) by omega, g1, nn_]
      simp only [g4, c1, c2, Option.bind_some, cond_true]
      cases inR p.2.f0 1 5 <;> cases inR p.2.f1 0 9 <;> cases inR p.2.f2 0 999 <;> cases inR p.2.f3 1 999 <;> cases ltS y p.2 <;> rfl) (fun n => by rw [hlen]; simp only [impl_IsStore.l4, impl_IsStore.L4, end_, cond_false]) k (by rw [hlen]; exact hk.lt hl)
  rw [this]
  by_cases h : l.length ≤ 24
  · rw [decide_eq_false (show ¬ (l.length : Int) > 24 by omega), decide_eq_true h]
    cases (withPrev l).all prevOk <;> rfl
  · rw [decide_eq_true (show (l.length : Int) > 24 by omega), decide_eq_false h]; rfl
theorem slices_Clone_Stored_e (k : Nat) {l : List T_impl_Stored} (hl : Ok l) : slices_Clone_Stored.f k l = some l := by
  have hl' := hl.out
  unfold slices_Clone_Stored.f cloneF
  rw [decide_eq_true (by unfold cap48; show (([] : List T_impl_Stored).length + l.length) * 32 ≤ _; simp; omega)]
  rfl
theorem sort_eq {s t : List T_impl_Stored} (hs : AscS s) (hp : t.Perm s) : sortBy z_impl_Stored (Go.Proofs.ltOf slices_SortFunc_Stored.cf) t = s := by
  have hlt : Go.Proofs.ltOf slices_SortFunc_Stored.cf = ltS := by funext x y; rw [slices_SortFunc_Stored.lt]; rfl
  obtain ⟨h1, h2⟩ := sortBy_spec z_impl_Stored slices_SortFunc_Stored.swo t
  rw [hlt] at h1 h2 ⊢
  refine perm_uniq ?_ hs (h1.trans hp)
  have hne : s.Pairwise fun x y => ¬ (x.f0 = y.f0 ∧ x.f1 = y.f1) := hs.imp fun {a b} h => by have := ltS_iff.1 h; omega
  have hne2 : (sortBy z_impl_Stored ltS t).Pairwise fun x y => ¬ (x.f0 = y.f0 ∧ x.f1 = y.f1) := ((h1.trans hp).pairwise_iff (fun {x y} h => by omega)).2 hne
  exact (h2.and hne2).imp fun {a b} ⟨h3, h4⟩ => by rw [ltS_no] at h3; rw [ltS_iff]; omega
theorem slices_SortFunc_Stored_e' (k : Nat) {s t : List T_impl_Stored} (ht : Ok t) (hs : AscS s) (hp : t.Perm s) : slices_SortFunc_Stored.f k t = some s := by
  have := ht.out
  unfold slices_SortFunc_Stored.f sortByF
  rw [decide_eq_true (by omega), cond_true, sort_eq hs hp]
theorem foldE_all {α σ ρ : Type} (p : α → Bool) (f : σ → α → σ) (r : ρ) : ∀ (l : List α) (s : σ), foldE (fun x s => bif p x then (.inl (f s x) : σ ⊕ ρ) else .inr r) l s = bif l.all p then .inl (l.foldl f s) else .inr r
  | [], s => rfl
  | x :: l, s => by
    have ih := foldE_all p f r l
    simp only [foldE, List.all_cons, List.foldl_cons]
    cases p x
    · rfl
    · simp only [cond_true, Bool.true_and]; exact ih _
theorem impl_RestoreStore_e {k : Nat} (hk : Big k) {l : List T_impl_Stored} (hl : Ok l) (e a b d : Int) (g : List T_impl_Grant) (f : List T_impl_Flow) (r : List T_impl_Rule) (o : List T_impl_Op) {s : List T_impl_Stored} (hs : Ok s) :
    impl_RestoreStore.f k l e a b g f r o d s = some (restoreV l e s) := by
  have hd := dropV_len l e
  unfold impl_RestoreStore.f restoreV
  simp only [impl_IsStore_e hk hl, impl_IsStore_e hk hs, slices_Clone_Stored_e k hl, impl_DropStored_e hk hl, Option.bind_some]
  cases h1 : storeV l with
  | false => rfl
  | true =>
    cases h2 : storeV s with
    | false => rfl
    | true =>
      obtain ⟨q1, _, a1⟩ := store_asc h1
      obtain ⟨q2, _, a2⟩ := store_asc h2
      simp only [Bool.not_true, cond_false, Bool.true_and]
      have key : ∀ X1 : List T_impl_Stored → Option (Bool × List T_impl_Stored), impl_RestoreStore.l5 k (s.length : Int) l g f r o s e a b d (fun y8 y9 y10 => some (y8, y9)) X1 k 0 (dropV l e) = bif s.all fun x => x.f0 == e then X1 (dropV l e ++ s) else some (false, l) := fun X1 => by
        have := loop_for (fun q (t : Int × List T_impl_Stored) => impl_RestoreStore.l5 k (s.length : Int) l g f r o s e a b d (fun y8 y9 y10 => some (y8, y9)) X1 q t.1 t.2) (fun i t => ((i : Int), t)) X1 (fun x t => bif x.f0 == e then .inl (t ++ [x]) else .inr (some (false, l))) (fun i t => t.length ≤ 24 + i) s (fun n i x t hx hi => by
          have hlt := lt_of hx
          obtain ⟨h1, h2, h3, h4⟩ := at_ hx (by omega)
          have hi : t.length ≤ 24 + i := hi
          simp only [impl_RestoreStore.l5, impl_RestoreStore.L5, rd_impl_Stored, h1, h2, h3, h4, cond_true, slices_Clone_Stored_e k hl, Option.bind_some, bne]
          rw [decide_eq_true (by unfold cap48; simp; omega), cond_true]
          cases x.f0 == e <;> rfl) (fun i x t t' hx hi h => by
          have hi : t.length ≤ 24 + i := hi
          cases hx0 : x.f0 == e with
          | false => rw [hx0] at h; cases h
          | true =>
            rw [hx0] at h
            obtain rfl := Sum.inl.inj h
            show (t ++ [x]).length ≤ 24 + (i + 1)
            simp; omega) (fun n t hi => by simp only [impl_RestoreStore.l5, impl_RestoreStore.L5, end_, cond_false]) k (dropV l e) (hk.lt hs) (by show (dropV l e).length ≤ 24 + 0; omega)
        rw [foldE_all (fun x : T_impl_Stored => x.f0 == e) (fun t x => t ++ [x])] at this
        have hfa : ∀ (ys t : List T_impl_Stored), ys.foldl (fun t x => t ++ [x]) t = t ++ ys := by
          intro ys
          induction ys with
          | nil => intro t; simp
          | cons y ys ih => intro t; rw [List.foldl_cons, ih]; simp
        rw [hfa] at this
        refine this.trans ?_
        cases (s.all fun x => x.f0 == e) <;> rfl
      rw [key]
      cases h3 : s.all fun x => x.f0 == e with
      | false => simp
      | true =>
        obtain ⟨p1, p2⟩ := restore_perm q1 q2 h3
        have hlen := setV_fold_len s (dropV l e)
        rw [cond_true, slices_SortFunc_Stored_e' k (Ok.small 48 (by simp; omega)) p1 p2, Option.bind_some, impl_IsStore_e hk (Ok.small (l := s.foldl setV (dropV l e)) 48 (by omega)), Option.bind_some]
        cases storeV (s.foldl setV (dropV l e)) <;> rfl
theorem laws_szGrantS_e (k : Nat) {l : List T_laws_Grant} {n : Int} (hl : l.length ≤ maxLen) (hn : 0 ≤ n ∧ n ≤ 1048576) : laws_szGrantS.f k l n = some (bif decide (n - (l.length : Int) < 0) then -1 else n - (l.length : Int)) := by
  have h2 : l.length ≤ 9223372036854775807 := hl
  unfold laws_szGrantS.f
  rw [w64_id (by omega)]
  cases decide (n - (l.length : Int) < 0) <;> rfl
theorem laws_szFlowS_e (k : Nat) {l : List T_laws_Flow} {n : Int} (hl : l.length ≤ maxLen) (hn : 0 ≤ n ∧ n ≤ 1048576) : laws_szFlowS.f k l n = some (bif decide (n - (l.length : Int) < 0) then -1 else n - (l.length : Int)) := by
  have h2 : l.length ≤ 9223372036854775807 := hl
  unfold laws_szFlowS.f
  rw [w64_id (by omega)]
  cases decide (n - (l.length : Int) < 0) <;> rfl
theorem laws_szRuleS_e (k : Nat) {l : List T_laws_Rule} {n : Int} (hl : l.length ≤ maxLen) (hn : 0 ≤ n ∧ n ≤ 1048576) : laws_szRuleS.f k l n = some (bif decide (n - (l.length : Int) < 0) then -1 else n - (l.length : Int)) := by
  have h2 : l.length ≤ 9223372036854775807 := hl
  unfold laws_szRuleS.f
  rw [w64_id (by omega)]
  cases decide (n - (l.length : Int) < 0) <;> rfl
theorem laws_szOpS_e (k : Nat) {l : List T_laws_Op} {n : Int} (hl : l.length ≤ maxLen) (hn : 0 ≤ n ∧ n ≤ 1048576) : laws_szOpS.f k l n = some (bif decide (n - (l.length : Int) < 0) then -1 else n - (l.length : Int)) := by
  have h2 : l.length ≤ 9223372036854775807 := hl
  unfold laws_szOpS.f
  rw [w64_id (by omega)]
  cases decide (n - (l.length : Int) < 0) <;> rfl
theorem laws_szPackage_e (k : Nat) (a b c d : Int) {g : List T_laws_Grant} {f : List T_laws_Flow} {r : List T_laws_Rule} {o : List T_laws_Op} {n : Int} (hg : g.length ≤ maxLen) (hf : f.length ≤ maxLen) (hr : r.length ≤ maxLen) (ho : o.length ≤ maxLen) (hn : 0 ≤ n ∧ n ≤ 1048576) :
    ∃ t, laws_szPackage.f k a b c g f r o d n = some t ∧ t ≤ n ∧ (0 ≤ t → Ok g ∧ Ok f ∧ Ok r ∧ Ok o) := by
  unfold laws_szPackage.f
  rw [laws_szGrantS_e k hg hn, Option.bind_some]
  by_cases h1 : n - (g.length : Int) < 0
  · rw [decide_eq_true h1]; exact ⟨-1, rfl, by omega, fun h => by omega⟩
  rw [decide_eq_false h1, cond_false, decide_eq_false h1, cond_false, laws_szFlowS_e k hf (by omega), Option.bind_some]
  by_cases h2 : n - (g.length : Int) - (f.length : Int) < 0
  · rw [decide_eq_true h2]; exact ⟨-1, rfl, by omega, fun h => by omega⟩
  rw [decide_eq_false h2, cond_false, decide_eq_false h2, cond_false, laws_szRuleS_e k hr (by omega), Option.bind_some]
  by_cases h3 : n - (g.length : Int) - (f.length : Int) - (r.length : Int) < 0
  · rw [decide_eq_true h3]; exact ⟨-1, rfl, by omega, fun h => by omega⟩
  rw [decide_eq_false h3, cond_false, decide_eq_false h3, cond_false, laws_szOpS_e k ho (by omega), Option.bind_some]
  by_cases h4 : n - (g.length : Int) - (f.length : Int) - (r.length : Int) - (o.length : Int) < 0
  · rw [decide_eq_true h4]; exact ⟨-1, rfl, by omega, fun h => by omega⟩
  rw [decide_eq_false h4, cond_false, decide_eq_false h4, cond_false]
  exact ⟨_, rfl, by omega, fun _ => ⟨by unfold Ok; omega, by unfold Ok; omega, by unfold Ok; omega, by unfold Ok; omega⟩⟩
theorem laws_szStoredS_e (k : Nat) {l : List T_laws_Stored} {n : Int} (hl : l.length ≤ maxLen) (hn : 0 ≤ n ∧ n ≤ 1048576) : laws_szStoredS.f k l n = some (bif decide (n - (l.length : Int) < 0) then -1 else n - (l.length : Int)) := by
  have h2 : l.length ≤ 9223372036854775807 := hl
  unfold laws_szStoredS.f
  rw [w64_id (by omega)]
  cases decide (n - (l.length : Int) < 0) <;> rfl
def toStored (x : T_laws_Stored) : T_impl_Stored := ⟨x.f0, x.f1, x.f2, x.f3⟩
theorem laws_toStoredS_e {k : Nat} (hk : Big k) {l : List T_laws_Stored} (hl : Ok l) : laws_toStoredS.f k l = some (l.map toStored) := by
  have hl' := hl.out
  unfold laws_toStoredS.f
  rw [nn_, cond_true, decide_eq_true (by unfold cap48; simp; omega), cond_true]
  refine loop_map (laws_toStoredS.l3 k l (fun y => some y)) toStored (fun y => some y) l (fun n i x ys hx hy => ?_) (fun n ys hy => ?_) k _ (hk.lt hl) (by simp)
  · obtain ⟨h1, h2, h3, h4⟩ := at_ hx (by omega)
    have h5 : decide ((i : Int) < (ys.length : Int)) = true := by rw [hy]; exact h1
    simp only [laws_toStoredS.l3, laws_toStoredS.L3, rd_laws_Stored, h1, h2, h3, h4, h5, cond_true, laws_toStored.f, Option.bind_some, toStored]
    rfl
  · simp only [laws_toStoredS.l3, laws_toStoredS.L3, end_, cond_false]
def toGrant (x : T_laws_Grant) : T_impl_Grant := ⟨x.f0, ⟨x.f1.f0, x.f1.f1⟩, x.f2, x.f3, x.f4, x.f5⟩
theorem laws_toGrantS_e {k : Nat} (hk : Big k) {l : List T_laws_Grant} (hl : Ok l) : laws_toGrantS.f k l = some (l.map toGrant) := by
  have hl' := hl.out
  unfold laws_toGrantS.f
  rw [nn_, cond_true, decide_eq_true (by unfold cap48; simp; omega), cond_true]
  refine loop_map (laws_toGrantS.l3 k l (fun y => some y)) toGrant (fun y => some y) l (fun n i x ys hx hy => ?_) (fun n ys hy => ?_) k _ (hk.lt hl) (by simp)
  · obtain ⟨h1, h2, h3, h4⟩ := at_ hx (by omega)
    have h5 : decide ((i : Int) < (ys.length : Int)) = true := by rw [hy]; exact h1
    simp only [laws_toGrantS.l3, laws_toGrantS.L3, rd_laws_Grant, h1, h2, h3, h4, h5, cond_true, laws_toGrant.f, laws_toPattern.f, Option.bind_some, toGrant]
    rfl
  · simp only [laws_toGrantS.l3, laws_toGrantS.L3, end_, cond_false]
def toFlow (x : T_laws_Flow) : T_impl_Flow := ⟨x.f0, x.f1, x.f2⟩
theorem laws_toFlowS_e {k : Nat} (hk : Big k) {l : List T_laws_Flow} (hl : Ok l) : laws_toFlowS.f k l = some (l.map toFlow) := by
  have hl' := hl.out
  unfold laws_toFlowS.f
  rw [nn_, cond_true, decide_eq_true (by unfold cap48; simp; omega), cond_true]
  refine loop_map (laws_toFlowS.l3 k l (fun y => some y)) toFlow (fun y => some y) l (fun n i x ys hx hy => ?_) (fun n ys hy => ?_) k _ (hk.lt hl) (by simp)
  · obtain ⟨h1, h2, h3, h4⟩ := at_ hx (by omega)
    have h5 : decide ((i : Int) < (ys.length : Int)) = true := by rw [hy]; exact h1
    simp only [laws_toFlowS.l3, laws_toFlowS.L3, rd_laws_Flow, h1, h2, h3, h4, h5, cond_true, laws_toFlow.f, Option.bind_some, toFlow]
    rfl
  · simp only [laws_toFlowS.l3, laws_toFlowS.L3, end_, cond_false]
def toRule (x : T_laws_Rule) : T_impl_Rule := ⟨x.f0, x.f1, ⟨x.f2.f0, x.f2.f1⟩, x.f3, x.f4, ⟨x.f5.f0, x.f5.f1⟩⟩
theorem laws_toRuleS_e {k : Nat} (hk : Big k) {l : List T_laws_Rule} (hl : Ok l) : laws_toRuleS.f k l = some (l.map toRule) := by
  have hl' := hl.out
  unfold laws_toRuleS.f
  rw [nn_, cond_true, decide_eq_true (by unfold cap48; simp; omega), cond_true]
  refine loop_map (laws_toRuleS.l3 k l (fun y => some y)) toRule (fun y => some y) l (fun n i x ys hx hy => ?_) (fun n ys hy => ?_) k _ (hk.lt hl) (by simp)
  · obtain ⟨h1, h2, h3, h4⟩ := at_ hx (by omega)
    have h5 : decide ((i : Int) < (ys.length : Int)) = true := by rw [hy]; exact h1
    simp only [laws_toRuleS.l3, laws_toRuleS.L3, rd_laws_Rule, h1, h2, h3, h4, h5, cond_true, laws_toRule.f, laws_toPattern.f, laws_toSite.f, Option.bind_some, toRule]
    rfl
  · simp only [laws_toRuleS.l3, laws_toRuleS.L3, end_, cond_false]
def toOp (x : T_laws_Op) : T_impl_Op := ⟨x.f0, x.f1, x.f2, x.f3⟩
theorem laws_toOpS_e {k : Nat} (hk : Big k) {l : List T_laws_Op} (hl : Ok l) : laws_toOpS.f k l = some (l.map toOp) := by
  have hl' := hl.out
  unfold laws_toOpS.f
  rw [nn_, cond_true, decide_eq_true (by unfold cap48; simp; omega), cond_true]
  refine loop_map (laws_toOpS.l3 k l (fun y => some y)) toOp (fun y => some y) l (fun n i x ys hx hy => ?_) (fun n ys hy => ?_) k _ (hk.lt hl) (by simp)
  · obtain ⟨h1, h2, h3, h4⟩ := at_ hx (by omega)
    have h5 : decide ((i : Int) < (ys.length : Int)) = true := by rw [hy]; exact h1
    simp only [laws_toOpS.l3, laws_toOpS.L3, rd_laws_Op, h1, h2, h3, h4, h5, cond_true, laws_toOp.f, Option.bind_some, toOp]
    rfl
  · simp only [laws_toOpS.l3, laws_toOpS.L3, end_, cond_false]
theorem laws_toPackage_e {k : Nat} (hk : Big k) (a b c d : Int) {g : List T_laws_Grant} {f : List T_laws_Flow} {r : List T_laws_Rule} {o : List T_laws_Op} (hg : Ok g) (hf : Ok f) (hr : Ok r) (ho : Ok o) :
    laws_toPackage.f k a b c g f r o d = some (a, b, c, d, g.map toGrant, f.map toFlow, r.map toRule, o.map toOp) := by
  unfold laws_toPackage.f
  rw [laws_toGrantS_e hk hg, Option.bind_some, laws_toFlowS_e hk hf, Option.bind_some, laws_toRuleS_e hk hr, Option.bind_some, laws_toOpS_e hk ho, Option.bind_some]
theorem laws_eqGrant_refl (k : Nat) (x : T_impl_Grant) : laws_eqGrant.f k x.f0 x.f1.f0 x.f1.f1 x.f2 x.f3 x.f4 x.f5 x.f0 x.f1.f0 x.f1.f1 x.f2 x.f3 x.f4 x.f5 = some true := by
  simp [laws_eqGrant.f, laws_eqPattern.f, Option.bind_some]
theorem laws_eqGrantS_refl {k : Nat} (hk : Big k) {l : List T_impl_Grant} (hl : Ok l) : laws_eqGrantS.f k l l = some true := by
  have hl' := hl.out
  unfold laws_eqGrantS.f
  rw [show ((l.length : Int) != (l.length : Int)) = false from by simp, cond_false]
  rw [loop_all (laws_eqGrantS.l4 k l l (fun y => some y) (fun _ => some true)) (fun _ => true) (some true) (some false) l (fun n i x hx => by
    obtain ⟨h1, h2, h3, h4⟩ := at_ hx (by omega)
    simp only [laws_eqGrantS.l4, laws_eqGrantS.L4, rd_impl_Grant, h1, h2, h3, h4, cond_true, laws_eqGrant_refl, Option.bind_some]
    rfl) (fun n => by simp only [laws_eqGrantS.l4, laws_eqGrantS.L4, end_, cond_false]) k (hk.lt hl), List.all_eq_true.2 (fun _ _ => rfl)]
  rfl
theorem laws_eqFlow_refl (k : Nat) (x : T_impl_Flow) : laws_eqFlow.f k x.f0 x.f1 x.f2 x.f0 x.f1 x.f2 = some true := by
  simp [laws_eqFlow.f, Option.bind_some]
theorem laws_eqFlowS_refl {k : Nat} (hk : Big k) {l : List T_impl_Flow} (hl : Ok l) : laws_eqFlowS.f k l l = some true := by
  have hl' := hl.out
  unfold laws_eqFlowS.f
  rw [show ((l.length : Int) != (l.length : Int)) = false from by simp, cond_false]
  rw [loop_all (laws_eqFlowS.l4 k l l (fun y => some y) (fun _ => some true)) (fun _ => true) (some true) (some false) l (fun n i x hx => by
    obtain ⟨h1, h2, h3, h4⟩ := at_ hx (by omega)
    simp only [laws_eqFlowS.l4, laws_eqFlowS.L4, rd_impl_Flow, h1, h2, h3, h4, cond_true, laws_eqFlow_refl, Option.bind_some]
    rfl) (fun n => by simp only [laws_eqFlowS.l4, laws_eqFlowS.L4, end_, cond_false]) k (hk.lt hl), List.all_eq_true.2 (fun _ _ => rfl)]
  rfl
theorem laws_eqRule_refl (k : Nat) (x : T_impl_Rule) : laws_eqRule.f k x.f0 x.f1 x.f2.f0 x.f2.f1 x.f3 x.f4 x.f5.f0 x.f5.f1 x.f0 x.f1 x.f2.f0 x.f2.f1 x.f3 x.f4 x.f5.f0 x.f5.f1 = some true := by
  simp [laws_eqRule.f, laws_eqPattern.f, laws_eqSite.f, Option.bind_some]
theorem laws_eqRuleS_refl {k : Nat} (hk : Big k) {l : List T_impl_Rule} (hl : Ok l) : laws_eqRuleS.f k l l = some true := by
  have hl' := hl.out
  unfold laws_eqRuleS.f
  rw [show ((l.length : Int) != (l.length : Int)) = false from by simp, cond_false]
  rw [loop_all (laws_eqRuleS.l4 k l l (fun y => some y) (fun _ => some true)) (fun _ => true) (some true) (some false) l (fun n i x hx => by
    obtain ⟨h1, h2, h3, h4⟩ := at_ hx (by omega)
    simp only [laws_eqRuleS.l4, laws_eqRuleS.L4, rd_impl_Rule, h1, h2, h3, h4, cond_true, laws_eqRule_refl, Option.bind_some]
    rfl) (fun n => by simp only [laws_eqRuleS.l4, laws_eqRuleS.L4, end_, cond_false]) k (hk.lt hl), List.all_eq_true.2 (fun _ _ => rfl)]
  rfl
theorem laws_eqOp_refl (k : Nat) (x : T_impl_Op) : laws_eqOp.f k x.f0 x.f1 x.f2 x.f3 x.f0 x.f1 x.f2 x.f3 = some true := by
  simp [laws_eqOp.f, Option.bind_some]
theorem laws_eqOpS_refl {k : Nat} (hk : Big k) {l : List T_impl_Op} (hl : Ok l) : laws_eqOpS.f k l l = some true := by
  have hl' := hl.out
  unfold laws_eqOpS.f
  rw [show ((l.length : Int) != (l.length : Int)) = false from by simp, cond_false]
  rw [loop_all (laws_eqOpS.l4 k l l (fun y => some y) (fun _ => some true)) (fun _ => true) (some true) (some false) l (fun n i x hx => by
    obtain ⟨h1, h2, h3, h4⟩ := at_ hx (by omega)
    simp only [laws_eqOpS.l4, laws_eqOpS.L4, rd_impl_Op, h1, h2, h3, h4, cond_true, laws_eqOp_refl, Option.bind_some]
    rfl) (fun n => by simp only [laws_eqOpS.l4, laws_eqOpS.L4, end_, cond_false]) k (hk.lt hl), List.all_eq_true.2 (fun _ _ => rfl)]
  rfl
theorem laws_eqPackage_refl {k : Nat} (hk : Big k) (a b c d : Int) {g : List T_impl_Grant} {f : List T_impl_Flow} {r : List T_impl_Rule} {o : List T_impl_Op} (hg : Ok g) (hf : Ok f) (hr : Ok r) (ho : Ok o) :
    laws_eqPackage.f k a b c g f r o d a b c g f r o d = some true := by
  unfold laws_eqPackage.f
  simp [laws_eqGrantS_refl hk hg, laws_eqFlowS_refl hk hf, laws_eqRuleS_refl hk hr, laws_eqOpS_refl hk ho]
theorem laws_eqStored_refl (k : Nat) (x : T_impl_Stored) : laws_eqStored.f k x.f0 x.f1 x.f2 x.f3 x.f0 x.f1 x.f2 x.f3 = some true := by
  simp [laws_eqStored.f, Option.bind_some]
theorem laws_eqStoredS_refl {k : Nat} (hk : Big k) {l : List T_impl_Stored} (hl : Ok l) : laws_eqStoredS.f k l l = some true := by
  have hl' := hl.out
  unfold laws_eqStoredS.f
  rw [show ((l.length : Int) != (l.length : Int)) = false from by simp, cond_false]
  rw [loop_all (laws_eqStoredS.l4 k l l (fun y => some y) (fun _ => some true)) (fun _ => true) (some true) (some false) l (fun n i x hx => by
    obtain ⟨h1, h2, h3, h4⟩ := at_ hx (by omega)
    simp only [laws_eqStoredS.l4, laws_eqStoredS.L4, rd_impl_Stored, h1, h2, h3, h4, cond_true, laws_eqStored_refl, Option.bind_some]
    rfl) (fun n => by simp only [laws_eqStoredS.l4, laws_eqStoredS.L4, end_, cond_false]) k (hk.lt hl), List.all_eq_true.2 (fun _ _ => rfl)]
  rfl
theorem laws_eqSnapshot_refl {k : Nat} (hk : Big k) (a b c d : Int) {g : List T_impl_Grant} {f : List T_impl_Flow} {r : List T_impl_Rule} {o : List T_impl_Op} {l : List T_impl_Stored} (hg : Ok g) (hf : Ok f) (hr : Ok r) (ho : Ok o) (hl : Ok l) :
    laws_eqSnapshot.f k a b c g f r o d l a b c g f r o d l = some true := by
  unfold laws_eqSnapshot.f
  rw [laws_eqPackage_refl hk a b c d hg hf hr ho, Option.bind_some, laws_eqStoredS_refl hk hl, Option.bind_some]
  rfl
def mStored (n : Int) : T_impl_Stored := ⟨(n), (n + 1), (n + 1 + 1), (n + 1 + 1 + 1)⟩
theorem laws_markStoredS_e {k : Nat} (hk : Big k) {l : List T_impl_Stored} (hl : Ok l) {n : Int} (h0 : 0 ≤ n) (hb : n ≤ 900000000000) : laws_markStoredS.f k l n = some (n + 4 * l.length, marks mStored 4 n l.length) := by
  have hl' := hl.out
  unfold laws_markStoredS.f
  refine loop_mark (laws_markStoredS.l2 k (fun y z => some (y, z))) mStored 4 (fun y z => some (y, z)) (fun q n i ys h0 hb hi hl => ?_) (fun q n ys => ?_) k n l h0 (by omega) hl' (hk.lt hl)
  · have h1 : decide ((i : Int) < (ys.length : Int)) = true := decide_eq_true (by omega)
    have h2 : decide ((0 : Int) ≤ (i : Int)) = true := decide_eq_true (by omega)
    have h3 : w64 ((i : Int) + 1) = ((i + 1 : Nat) : Int) := by rw [w64_id (by omega)]; omega
    have e0 : w64 (n + 1) = n + 1 := w64_s (by omega) (by omega)
    have e1 : w64 (n + 1 + 1) = n + 1 + 1 := w64_s (by omega) (by omega)
    have e2 : w64 (n + 1 + 1 + 1) = n + 1 + 1 + 1 := w64_s (by omega) (by omega)
    have e3 : w64 (n + 1 + 1 + 1 + 1) = n + 1 + 1 + 1 + 1 := w64_s (by omega) (by omega)
    have ec : n + 1 + 1 + 1 + 1 = n + (4 : Nat) := by omega
    simp only [laws_markStoredS.l2, laws_markStoredS.L2, rd_impl_Stored, h1, h2, h3, e0, e1, e2, e3, cond_true, toNat_c, List.length_set, List.set_set]
    simp only [toNat_c, List.getD_eq_getElem?_getD, List.getElem?_set_self hi, Option.getD_some, ec]
    try rfl
  · simp only [laws_markStoredS.l2, laws_markStoredS.L2, end_, cond_false]
theorem laws_heldStoredS_e {k : Nat} (hk : Big k) {j : Nat} (hj : j ≤ 1048576) {n : Int} (h0 : 0 ≤ n) (hb : n ≤ 900000000000) : laws_heldStoredS.f k (marks mStored 4 n j) n = some (n + 4 * j) := by
  unfold laws_heldStoredS.f
  have hkk := hk.out
  refine loop_held (laws_heldStoredS.l2 k (marks mStored 4 n j) (fun _ y => some y) (fun y => some y)) mStored 4 (fun y => some y) _ (fun q n i h0 hb hi => ?_) (fun q n => ?_) k n j rfl h0 (by omega) (by omega)
  · obtain ⟨h1, h2, h3, h4⟩ := at_ hi (by rw [marks_len]; omega)
    have e0 : w64 (n + 1) = n + 1 := w64_s (by omega) (by omega)
    have e1 : w64 (n + 1 + 1) = n + 1 + 1 := w64_s (by omega) (by omega)
    have e2 : w64 (n + 1 + 1 + 1) = n + 1 + 1 + 1 := w64_s (by omega) (by omega)
    have e3 : w64 (n + 1 + 1 + 1 + 1) = n + 1 + 1 + 1 + 1 := w64_s (by omega) (by omega)
    have ec : n + 1 + 1 + 1 + 1 = n + (4 : Nat) := by omega
    simp only [laws_heldStoredS.l2, laws_heldStoredS.L2, rd_impl_Stored, h1, h2, h3, h4, e0, e1, e2, e3, cond_true, mStored, bne_self_eq_false, beq_self_eq_true, Bool.not_true, cond_false]
    try rw [ec]
    try rfl
  · simp only [laws_heldStoredS.l2, laws_heldStoredS.L2, end_, cond_false]
def mGrant (n : Int) : T_impl_Grant := ⟨(n), ⟨(n + 1), (n + 1 + 1)⟩, (n + 1 + 1 + 1), (n + 1 + 1 + 1 + 1), (n + 1 + 1 + 1 + 1 + 1), ((n + 1 + 1 + 1 + 1 + 1 + 1).tmod 3 == 0)⟩
theorem laws_markGrantS_e {k : Nat} (hk : Big k) {l : List T_impl_Grant} (hl : Ok l) {n : Int} (h0 : 0 ≤ n) (hb : n ≤ 900000000000) : laws_markGrantS.f k l n = some (n + 7 * l.length, marks mGrant 7 n l.length) := by
  have hl' := hl.out
  unfold laws_markGrantS.f
  refine loop_mark (laws_markGrantS.l2 k (fun y z => some (y, z))) mGrant 7 (fun y z => some (y, z)) (fun q n i ys h0 hb hi hl => ?_) (fun q n ys => ?_) k n l h0 (by omega) hl' (hk.lt hl)
  · have h1 : decide ((i : Int) < (ys.length : Int)) = true := decide_eq_true (by omega)
    have h2 : decide ((0 : Int) ≤ (i : Int)) = true := decide_eq_true (by omega)
    have h3 : w64 ((i : Int) + 1) = ((i + 1 : Nat) : Int) := by rw [w64_id (by omega)]; omega
    have e0 : w64 (n + 1) = n + 1 := w64_s (by omega) (by omega)
    have e1 : w64 (n + 1 + 1) = n + 1 + 1 := w64_s (by omega) (by omega)
    have e2 : w64 (n + 1 + 1 + 1) = n + 1 + 1 + 1 := w64_s (by omega) (by omega)
    have e3 : w64 (n + 1 + 1 + 1 + 1) = n + 1 + 1 + 1 + 1 := w64_s (by omega) (by omega)
    have e4 : w64 (n + 1 + 1 + 1 + 1 + 1) = n + 1 + 1 + 1 + 1 + 1 := w64_s (by omega) (by omega)
    have e5 : w64 (n + 1 + 1 + 1 + 1 + 1 + 1) = n + 1 + 1 + 1 + 1 + 1 + 1 := w64_s (by omega) (by omega)
    have e6 : w64 (n + 1 + 1 + 1 + 1 + 1 + 1 + 1) = n + 1 + 1 + 1 + 1 + 1 + 1 + 1 := w64_s (by omega) (by omega)
    have ec : n + 1 + 1 + 1 + 1 + 1 + 1 + 1 = n + (7 : Nat) := by omega
    simp only [laws_markGrantS.l2, laws_markGrantS.L2, rd_impl_Grant, h1, h2, h3, e0, e1, e2, e3, e4, e5, e6, cond_true, toNat_c, List.length_set, List.set_set]
    simp only [toNat_c, List.getD_eq_getElem?_getD, List.getElem?_set_self hi, Option.getD_some, ec]
    try rfl
  · simp only [laws_markGrantS.l2, laws_markGrantS.L2, end_, cond_false]
def mFlow (n : Int) : T_impl_Flow := ⟨(n), (n + 1), (n + 1 + 1)⟩
theorem laws_markFlowS_e {k : Nat} (hk : Big k) {l : List T_impl_Flow} (hl : Ok l) {n : Int} (h0 : 0 ≤ n) (hb : n ≤ 900000000000) : laws_markFlowS.f k l n = some (n + 3 * l.length, marks mFlow 3 n l.length) := by
  have hl' := hl.out
  unfold laws_markFlowS.f
  refine loop_mark (laws_markFlowS.l2 k (fun y z => some (y, z))) mFlow 3 (fun y z => some (y, z)) (fun q n i ys h0 hb hi hl => ?_) (fun q n ys => ?_) k n l h0 (by omega) hl' (hk.lt hl)
  · have h1 : decide ((i : Int) < (ys.length : Int)) = true := decide_eq_true (by omega)
    have h2 : decide ((0 : Int) ≤ (i : Int)) = true := decide_eq_true (by omega)
    have h3 : w64 ((i : Int) + 1) = ((i + 1 : Nat) : Int) := by rw [w64_id (by omega)]; omega
    have e0 : w64 (n + 1) = n + 1 := w64_s (by omega) (by omega)
    have e1 : w64 (n + 1 + 1) = n + 1 + 1 := w64_s (by omega) (by omega)
    have e2 : w64 (n + 1 + 1 + 1) = n + 1 + 1 + 1 := w64_s (by omega) (by omega)
    have ec : n + 1 + 1 + 1 = n + (3 : Nat) := by omega
    simp only [laws_markFlowS.l2, laws_markFlowS.L2, rd_impl_Flow, h1, h2, h3, e0, e1, e2, cond_true, toNat_c, List.length_set, List.set_set]
    simp only [toNat_c, List.getD_eq_getElem?_getD, List.getElem?_set_self hi, Option.getD_some, ec]
    try rfl
  · simp only [laws_markFlowS.l2, laws_markFlowS.L2, end_, cond_false]
def mRule (n : Int) : T_impl_Rule := ⟨(n), (n + 1), ⟨(n + 1 + 1), (n + 1 + 1 + 1)⟩, (n + 1 + 1 + 1 + 1), (n + 1 + 1 + 1 + 1 + 1), ⟨(n + 1 + 1 + 1 + 1 + 1 + 1), (n + 1 + 1 + 1 + 1 + 1 + 1 + 1)⟩⟩
theorem laws_markRuleS_e {k : Nat} (hk : Big k) {l : List T_impl_Rule} (hl : Ok l) {n : Int} (h0 : 0 ≤ n) (hb : n ≤ 900000000000) : laws_markRuleS.f k l n = some (n + 8 * l.length, marks mRule 8 n l.length) := by
  have hl' := hl.out
  unfold laws_markRuleS.f
  refine loop_mark (laws_markRuleS.l2 k (fun y z => some (y, z))) mRule 8 (fun y z => some (y, z)) (fun q n i ys h0 hb hi hl => ?_) (fun q n ys => ?_) k n l h0 (by omega) hl' (hk.lt hl)
  · have h1 : decide ((i : Int) < (ys.length : Int)) = true := decide_eq_true (by omega)
    have h2 : decide ((0 : Int) ≤ (i : Int)) = true := decide_eq_true (by omega)
    have h3 : w64 ((i : Int) + 1) = ((i + 1 : Nat) : Int) := by rw [w64_id (by omega)]; omega
    have e0 : w64 (n + 1) = n + 1 := w64_s (by omega) (by omega)
    have e1 : w64 (n + 1 + 1) = n + 1 + 1 := w64_s (by omega) (by omega)
    have e2 : w64 (n + 1 + 1 + 1) = n + 1 + 1 + 1 := w64_s (by omega) (by omega)
    have e3 : w64 (n + 1 + 1 + 1 + 1) = n + 1 + 1 + 1 + 1 := w64_s (by omega) (by omega)
    have e4 : w64 (n + 1 + 1 + 1 + 1 + 1) = n + 1 + 1 + 1 + 1 + 1 := w64_s (by omega) (by omega)
    have e5 : w64 (n + 1 + 1 + 1 + 1 + 1 + 1) = n + 1 + 1 + 1 + 1 + 1 + 1 := w64_s (by omega) (by omega)
    have e6 : w64 (n + 1 + 1 + 1 + 1 + 1 + 1 + 1) = n + 1 + 1 + 1 + 1 + 1 + 1 + 1 := w64_s (by omega) (by omega)
    have e7 : w64 (n + 1 + 1 + 1 + 1 + 1 + 1 + 1 + 1) = n + 1 + 1 + 1 + 1 + 1 + 1 + 1 + 1 := w64_s (by omega) (by omega)
    have ec : n + 1 + 1 + 1 + 1 + 1 + 1 + 1 + 1 = n + (8 : Nat) := by omega
    simp only [laws_markRuleS.l2, laws_markRuleS.L2, rd_impl_Rule, h1, h2, h3, e0, e1, e2, e3, e4, e5, e6, e7, cond_true, toNat_c, List.length_set, List.set_set]
    simp only [toNat_c, List.getD_eq_getElem?_getD, List.getElem?_set_self hi, Option.getD_some, ec]
    try rfl
  · simp only [laws_markRuleS.l2, laws_markRuleS.L2, end_, cond_false]
def mOp (n : Int) : T_impl_Op := ⟨(n), (n + 1), (n + 1 + 1), (n + 1 + 1 + 1)⟩
theorem laws_markOpS_e {k : Nat} (hk : Big k) {l : List T_impl_Op} (hl : Ok l) {n : Int} (h0 : 0 ≤ n) (hb : n ≤ 900000000000) : laws_markOpS.f k l n = some (n + 4 * l.length, marks mOp 4 n l.length) := by
  have hl' := hl.out
  unfold laws_markOpS.f
  refine loop_mark (laws_markOpS.l2 k (fun y z => some (y, z))) mOp 4 (fun y z => some (y, z)) (fun q n i ys h0 hb hi hl => ?_) (fun q n ys => ?_) k n l h0 (by omega) hl' (hk.lt hl)
  · have h1 : decide ((i : Int) < (ys.length : Int)) = true := decide_eq_true (by omega)
    have h2 : decide ((0 : Int) ≤ (i : Int)) = true := decide_eq_true (by omega)
    have h3 : w64 ((i : Int) + 1) = ((i + 1 : Nat) : Int) := by rw [w64_id (by omega)]; omega
    have e0 : w64 (n + 1) = n + 1 := w64_s (by omega) (by omega)
    have e1 : w64 (n + 1 + 1) = n + 1 + 1 := w64_s (by omega) (by omega)
    have e2 : w64 (n + 1 + 1 + 1) = n + 1 + 1 + 1 := w64_s (by omega) (by omega)
    have e3 : w64 (n + 1 + 1 + 1 + 1) = n + 1 + 1 + 1 + 1 := w64_s (by omega) (by omega)
    have ec : n + 1 + 1 + 1 + 1 = n + (4 : Nat) := by omega
    simp only [laws_markOpS.l2, laws_markOpS.L2, rd_impl_Op, h1, h2, h3, e0, e1, e2, e3, cond_true, toNat_c, List.length_set, List.set_set]
    simp only [toNat_c, List.getD_eq_getElem?_getD, List.getElem?_set_self hi, Option.getD_some, ec]
    try rfl
  · simp only [laws_markOpS.l2, laws_markOpS.L2, end_, cond_false]
theorem laws_markPackage_e {k : Nat} (hk : Big k) (a b c d : Int) {g : List T_impl_Grant} {f : List T_impl_Flow} {r : List T_impl_Rule} {o : List T_impl_Op} (hg : Ok g) (hf : Ok f) (hr : Ok r) (ho : Ok o) {n : Int} (h0 : 0 ≤ n) (hb : n ≤ 100000000000) :
    ∃ t, laws_markPackage.f k a b c g f r o d n = some t ∧ 0 ≤ t.1 ∧ t.1 ≤ n + 100000000 := by
  have := hg.out; have := hf.out; have := hr.out; have := ho.out
  unfold laws_markPackage.f
  rw [laws_markGrantS_e hk hg h0 (by omega), Option.bind_some, laws_markFlowS_e hk hf (by simp only; omega) (by simp only; omega), Option.bind_some, laws_markRuleS_e hk hr (by simp only; omega) (by simp only; omega), Option.bind_some, laws_markOpS_e hk ho (by simp only; omega) (by simp only; omega), Option.bind_some]
  exact ⟨_, rfl, by simp only; omega, by simp only; omega⟩
theorem FnExactRestoreStore : ∀ (a0 : List T_laws_Stored) (a1_0 : Int) (a1_1 : Int) (a1_2 : Int) (a1_3 : List T_laws_Grant) (a1_4 : List T_laws_Flow) (a1_5 : List T_laws_Rule) (a1_6 : List T_laws_Op) (a1_7 : Int) (a1_8 : List T_laws_Stored), a0.length ≤ maxLen → (∀ x ∈ a0, likes (k_laws_Stored.enc k_laws_Stored.zero) (k_laws_Stored.enc x)) → (Lit.int .i64 a1_0).wf = true → (Lit.int .i64 a1_1).wf = true → (Lit.int .i64 a1_2).wf = true → a1_3.length ≤ maxLen → (∀ x ∈ a1_3, likes (k_laws_Grant.enc k_laws_Grant.zero) (k_laws_Grant.enc x)) → a1_4.length ≤ maxLen → (∀ x ∈ a1_4, likes (k_laws_Flow.enc k_laws_Flow.zero) (k_laws_Flow.enc x)) → a1_5.length ≤ maxLen → (∀ x ∈ a1_5, likes (k_laws_Rule.enc k_laws_Rule.zero) (k_laws_Rule.enc x)) → a1_6.length ≤ maxLen → (∀ x ∈ a1_6, likes (k_laws_Op.enc k_laws_Op.zero) (k_laws_Op.enc x)) → (Lit.int .i64 a1_7).wf = true → a1_8.length ≤ maxLen → (∀ x ∈ a1_8, likes (k_laws_Stored.enc k_laws_Stored.zero) (k_laws_Stored.enc x)) → ∃ k, laws_FnExactRestoreStore.f k a0 a1_0 a1_1 a1_2 a1_3 a1_4 a1_5 a1_6 a1_7 a1_8 = some true := by
  intro l b0 b1 b2 g f r o b7 s hl _ v0 v1 v2 hg _ hf _ hr _ ho _ v7 hs _
  obtain ⟨k, hk⟩ := big_some
  refine ⟨k, ?_⟩
  unfold laws_FnExactRestoreStore.f laws_szSnapshot.f
  rw [laws_szStoredS_e k hl (by omega), Option.bind_some]
  by_cases h0 : 1048576 - (l.length : Int) < 0
  · rw [decide_eq_true h0]; rfl
  rw [decide_eq_false h0, cond_false, decide_eq_false h0, cond_false]
  obtain ⟨t, h1, h2, h3⟩ := laws_szPackage_e k b0 b1 b2 b7 hg hf hr ho (n := 1048576 - (l.length : Int)) (by omega)
  rw [h1, Option.bind_some]
  by_cases ht : t < 0
  · rw [decide_eq_true ht]; rfl
  obtain ⟨og, of, or, oo⟩ := h3 (by omega)
  rw [decide_eq_false ht, cond_false, laws_szStoredS_e k hs (by omega), Option.bind_some]
  by_cases hz : t - (s.length : Int) < 0
  · rw [decide_eq_true hz]; rfl
  have ol : Ok l := by unfold Ok; omega
  have os : Ok s := by unfold Ok; omega
  rw [decide_eq_false hz, cond_false, decide_eq_false hz, cond_false, Option.bind_some, decide_eq_false hz, cond_false]
  have hsum : (l.map toStored).length + (s.map toStored).length ≤ 1048576 := by simp; omega
  simp only [laws_toSnapshot.f, laws_markSnapshot.f, laws_toPackage_e hk b0 b1 b2 b7 og of or oo, laws_toStoredS_e hk ol, laws_toStoredS_e hk os, Option.bind_some]
  generalize g.map toGrant = G, f.map toFlow = F, r.map toRule = R, o.map toOp = O, l.map toStored = L, s.map toStored = S, og.map (f := toGrant) = hG, of.map (f := toFlow) = hF, or.map (f := toRule) = hR, oo.map (f := toOp) = hO, ol.map (f := toStored) = hL, os.map (f := toStored) = hS at hsum
  have hx := restoreV_ok hL b0 S
  have hLo := hL.out
  have hSo := hS.out
  simp only [spec_RestoreStore_e hk hL b0 b1 b2 b7 G F R O hS hsum, impl_RestoreStore_e hk hL b0 b1 b2 b7 G F R O hS, laws_eqStoredS_refl hk hL, laws_eqSnapshot_refl hk b0 b1 b2 b7 hG hF hR hO hS, Option.bind_some]
  generalize restoreV L b0 S = M at hx
  obtain ⟨m1, X⟩ := M
  have hx : Ok X := hx
  have hX := hx.out
  rw [laws_markStoredS_e hk hL (n := 1) (by omega) (by omega), Option.bind_some]
  simp only
  obtain ⟨t9, m1', m2, m3⟩ := laws_markPackage_e hk b0 b1 b2 b7 hG hF hR hO (n := 1 + 4 * (L.length : Int)) (by omega) (by omega)
  rw [m1', Option.bind_some, laws_markStoredS_e hk hS m2 (by omega), Option.bind_some]
  simp only [Option.bind_some]
  rw [decide_eq_false (show ¬ t9.1 + 4 * (S.length : Int) < 0 by omega)]
  simp only [laws_eqStoredS_refl hk hx, laws_markStoredS_e hk hx (n := 1) (by omega) (by omega), laws_heldStoredS_e hk hX (n := 1) (by omega) (by omega), Option.bind_some, decide_eq_false (show ¬ ((1 : Int) + 4 * (X.length : Int) < 0) by omega), bne_self_eq_false, beq_self_eq_true]
  rfl
end Go.Proofs.Ytmjflahlhgibnaa.PFnExactRestoreStore.Pure
