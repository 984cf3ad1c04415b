/- The law FnExactOwnersSent as a statement over numbers and lists, with its proof; no conditions but the bounds of the values' types and of the slices' lengths. -/
import Derived.Test.YthjdecnheaifkaaPFnExactOwnersSent2
set_option linter.unusedVariables false
set_option linter.unusedSimpArgs false
namespace Go.Proofs.Ythjdecnheaifkaa.PFnExactOwnersSent.Pure
open Go Go.Eng Go.Proofs
theorem spec_l1In_e (k : Nat) (n a b : Int) : spec_l1In.f k n a b = some (inR n a b) := by
  unfold spec_l1In.f inR
  by_cases h : a ≤ n <;> simp [h]
def isOpV (kd a b c : Int) : Bool := inR a 0 5 && (if kd = 1 ∨ kd = 5 then inR b 1 9 && c == 0 else if kd = 2 then inR b 0 999 && c == 0 else if kd = 3 ∨ kd = 4 then inR b 0 5 && inR c 0 5 else false)
theorem spec_l21Ok_e (k : Nat) (kd a b c : Int) : spec_l21Ok.f k kd a b c = some (isOpV kd a b c) := by
  unfold spec_l21Ok.f isOpV
  simp only [spec_l1In_e, Option.bind_some]
  cases inR a 0 5 <;>
  · by_cases h1 : kd = 1
    · subst h1; cases inR b 1 9 <;> simp
    · by_cases h5 : kd = 5
      · subst h5; cases inR b 1 9 <;> simp
      · by_cases h2 : kd = 2
        · subst h2; cases inR b 0 999 <;> simp
        · by_cases h3 : kd = 3
          · subst h3; cases inR b 0 5 <;> simp
          · by_cases h4 : kd = 4
            · subst h4; cases inR b 0 5 <;> simp
            · simp [h1, h2, h3, h4, h5, beqF h1, beqF h2, beqF h3, beqF h4, beqF h5]
def opOk (x : T_impl_Op) : Bool := isOpV x.f0 x.f1 x.f2 x.f3
def areOps (l : List T_impl_Op) : Bool := l.all opOk && decide (l.length ≤ 16)
theorem spec_AreOps_e {k : Nat} (hk : Big k) {l : List T_impl_Op} (hl : Ok l) : spec_AreOps.f k l = some (areOps l) := by
  unfold spec_AreOps.f areOps
  rw [loop_all (spec_AreOps.l2 k l (fun y => some y) (fun _ => some (decide ((l.length : Int) ≤ 16)))) opOk (some (decide ((l.length : Int) ≤ 16))) (some false) l (fun n i x hx => by
    obtain ⟨h1, h2, h3, h4⟩ := at_ hx (by have := hl.out; omega)
    simp only [spec_AreOps.l2, spec_AreOps.L2, rd_impl_Op, h1, h2, h3, h4, spec_l21Ok_e, Option.bind_some, cond_true]
    cases hp : opOk x <;> simp only [opOk] at hp <;> rw [hp] <;> rfl) (fun n => by simp only [spec_AreOps.l2, spec_AreOps.L2, end_, cond_false]) k (hk.lt hl)]
  have : decide ((l.length : Int) ≤ 16) = decide (l.length ≤ 16) := by rw [decide_eq_decide]; omega
  rw [this]
  cases l.all opOk <;> rfl
abbrev Asc (l : List Int) : Prop := l.Pairwise (· < ·)
theorem asc_ext : ∀ {l m : List Int}, Asc l → Asc m → (∀ y, y ∈ l ↔ y ∈ m) → l = m
  | [], [], _, _, _ => rfl
  | [], y :: m, _, _, h => by have := (h y).2 (List.mem_cons_self ..); cases this
  | x :: l, [], _, _, h => by have := (h x).1 (List.mem_cons_self ..); cases this
  | x :: l, y :: m, hl, hm, h => by
    obtain ⟨h1, h2⟩ := List.pairwise_cons.1 hl
    obtain ⟨h3, h4⟩ := List.pairwise_cons.1 hm
    have e : x = y := by
      rcases List.mem_cons.1 ((h x).1 (List.mem_cons_self ..)) with e | e
      · exact e
      · rcases List.mem_cons.1 ((h y).2 (List.mem_cons_self ..)) with e' | e'
        · exact e'.symm
        · have := h1 _ e'; have := h3 _ e; omega
    subst e
    rw [asc_ext h2 h4 fun z => ?_]
    constructor
    · intro hz
      rcases List.mem_cons.1 ((h z).1 (List.mem_cons_of_mem _ hz)) with e | e
      · have := h1 _ hz; omega
      · exact e
    · intro hz
      rcases List.mem_cons.1 ((h z).2 (List.mem_cons_of_mem _ hz)) with e | e
      · have := h3 _ hz; omega
      · exact e
def leB (x y : Int) : Bool := decide (x ≤ y)
def ordV (l : List Int) : List Int := Go.Lib.compact (l.mergeSort fun x y => decide (x ≤ y))
theorem compact_up {d : Array Int} (hd : ∀ i j, i ≤ j → j < d.size → d[i]! ≤ d[j]!) : ∀ m, m ≤ d.size → Asc (Go.Lib.compactUpTo d m) ∧ (∀ y ∈ Go.Lib.compactUpTo d m, ∃ j, j < m ∧ d[j]! = y) ∧ ∀ j, j < m → d[j]! ∈ Go.Lib.compactUpTo d m
  | 0, _ => ⟨by unfold Go.Lib.compactUpTo; simp, fun y hy => by unfold Go.Lib.compactUpTo at hy; simp at hy, fun j hj => by omega⟩
  | m + 1, hm => by
    obtain ⟨h1, h2, h3⟩ := compact_up hd m (by omega)
    rw [Go.Lib.compactUpTo_succ]
    cases hk : Go.Lib.keeps d m with
    | true =>
      rw [if_pos rfl]
      refine ⟨?_, fun y hy => ?_, fun j hj => ?_⟩
      · refine List.pairwise_append.2 ⟨h1, List.pairwise_singleton _ _, fun a ha b hb => ?_⟩
        obtain rfl := List.mem_singleton.1 hb
        obtain ⟨j, hj, rfl⟩ := h2 a ha
        unfold Go.Lib.keeps at hk
        rcases of_decide_eq_true hk with h0 | hne
        · omega
        · have q1 := hd j (m - 1) (by omega) (by omega)
          have q2 := hd (m - 1) m (by omega) (by omega)
          omega
      · rcases List.mem_append.1 hy with h | h
        · obtain ⟨j, hj, e⟩ := h2 y h
          exact ⟨j, by omega, e⟩
        · exact ⟨m, by omega, (List.mem_singleton.1 h).symm⟩
      · by_cases e : j = m
        · subst e; exact List.mem_append.2 (.inr (List.mem_singleton.2 rfl))
        · exact List.mem_append.2 (.inl (h3 j (by omega)))
    | false =>
      rw [if_neg (by simp), List.append_nil]
      refine ⟨h1, fun y hy => ?_, fun j hj => ?_⟩
      · obtain ⟨j, hj, e⟩ := h2 y hy
        exact ⟨j, by omega, e⟩
      · by_cases e : j = m
        · subst e
          unfold Go.Lib.keeps at hk
          have hn := of_decide_eq_false hk
          have e2 : d[j]! = d[j - 1]! := by
            by_cases e3 : d[j]! = d[j - 1]!
            · exact e3
            · exact absurd (.inr e3) hn
          have e4 : j ≠ 0 := fun e => hn (.inl e)
          rw [e2]
          exact h3 _ (by omega)
        · exact h3 j (by omega)
theorem ordV_spec (l : List Int) : Asc (ordV l) ∧ ∀ y, y ∈ ordV l ↔ y ∈ l := by
  unfold ordV Go.Lib.compact
  have hs : (l.mergeSort fun x y => decide (x ≤ y)).Pairwise fun a b => decide (a ≤ b) = true := List.pairwise_mergeSort (le := fun x y : Int => decide (x ≤ y)) (fun a b c h1 h2 => by simp at *; omega) (fun a b => by simp; omega) l
  have hm : ∀ y, y ∈ (l.mergeSort fun x y => decide (x ≤ y)) ↔ y ∈ l := fun y => (List.mergeSort_perm l _).mem_iff
  generalize l.mergeSort (fun x y => decide (x ≤ y)) = s at hs hm
  have hd : ∀ i j, i ≤ j → j < s.toArray.size → s.toArray[i]! ≤ s.toArray[j]! := by
    intro i j hij hj
    have hj' : j < s.length := by simpa using hj
    rw [getElem!_pos s.toArray i (by simpa using (show i < s.length by omega)), getElem!_pos s.toArray j hj]
    simp only [List.getElem_toArray]
    by_cases e : i = j
    · subst e; exact Int.le_refl _
    · have := List.pairwise_iff_getElem.1 hs i j (by omega) hj' (by omega)
      simpa using this
  obtain ⟨h1, h2, h3⟩ := compact_up hd s.length (by simp)
  refine ⟨h1, fun y => ?_⟩
  rw [← hm]
  constructor
  · intro hy
    obtain ⟨j, hj, rfl⟩ := h2 y hy
    rw [getElem!_pos s.toArray j (by simpa using hj)]
    simp
  · intro hy
    obtain ⟨j, hj, rfl⟩ := List.mem_iff_getElem.1 hy
    have := h3 j hj
    rw [getElem!_pos s.toArray j (by simpa using hj)] at this
    simpa using this
theorem ordV_len (l : List Int) : (ordV l).length ≤ l.length := by
  unfold ordV
  exact Nat.le_trans (compact_len _) (Nat.le_of_eq (List.length_mergeSort ..))
def below (x : Int) (l : List Int) : Nat := (l.takeWhile fun y => decide (y < x)).length
def putV (l : List Int) (x : Int) : List Int := bif decide (below x l < l.length) && (rd_i64 l (below x l : Int) == x) then l else l.take (below x l) ++ [x] ++ l.drop (below x l)
theorem mem_tw {α : Type} {p : α → Bool} : ∀ {l : List α} {y : α}, y ∈ l.takeWhile p → p y = true
  | [], y, h => by cases h
  | a :: l, y, h => by
    cases ha : p a with
    | false => rw [List.takeWhile_cons_of_neg (by simp [ha])] at h; cases h
    | true =>
      rw [List.takeWhile_cons_of_pos ha] at h
      rcases List.mem_cons.1 h with e | e
      · rw [e]; exact ha
      · exact mem_tw e
theorem hd_dw {α : Type} {p : α → Bool} : ∀ {l : List α} {y : α} {r : List α}, l.dropWhile p = y :: r → p y = false
  | [], y, r, h => by cases h
  | a :: l, y, r, h => by
    cases ha : p a with
    | false =>
      rw [List.dropWhile_cons_of_neg (by simp [ha])] at h
      obtain ⟨rfl, _⟩ := List.cons.inj h
      exact ha
    | true =>
      rw [List.dropWhile_cons_of_pos ha] at h
      exact hd_dw h
theorem below_le (x : Int) (l : List Int) : below x l ≤ l.length := by unfold below; exact (List.takeWhile_sublist _).length_le
theorem take_below (x : Int) (l : List Int) : l.take (below x l) = l.takeWhile fun y => decide (y < x) := by
  have h : l.takeWhile (fun y => decide (y < x)) ++ l.dropWhile (fun y => decide (y < x)) = l := List.takeWhile_append_dropWhile
  have := congrArg (List.take (below x l)) h
  rw [← this]
  exact List.take_left' rfl
theorem drop_below (x : Int) (l : List Int) : l.drop (below x l) = l.dropWhile fun y => decide (y < x) := by
  have h : l.takeWhile (fun y => decide (y < x)) ++ l.dropWhile (fun y => decide (y < x)) = l := List.takeWhile_append_dropWhile
  have := congrArg (List.drop (below x l)) h
  rw [← this]
  exact List.drop_left' rfl
theorem putV_spec {l : List Int} (h : Asc l) (x : Int) : Asc (putV l x) ∧ ∀ y, y ∈ putV l x ↔ y ∈ l ∨ y = x := by
  unfold putV
  cases hc : decide (below x l < l.length) && (rd_i64 l (below x l : Int) == x) with
  | true =>
    rw [Bool.and_eq_true] at hc
    refine ⟨h, fun y => ⟨fun hy => .inl hy, fun hy => hy.elim id fun e => ?_⟩⟩
    have hlt := of_decide_eq_true hc.1
    have e2 := eq_of_beq hc.2
    subst e
    rw [← e2]
    show l.getD (below y l) z_i64 ∈ l
    rw [List.getD_eq_getElem?_getD, List.getElem?_eq_getElem hlt]
    exact List.getElem_mem hlt
  | false =>
    rw [cond_false]
    have h0 : l.take (below x l) ++ l.drop (below x l) = l := List.take_append_drop _ _
    have ht : ∀ y ∈ l.take (below x l), y < x := by
      intro y hy
      rw [take_below] at hy
      exact of_decide_eq_true (mem_tw (p := fun y => decide (y < x)) hy)
    have hp : Asc (l.take (below x l) ++ l.drop (below x l)) := by rw [h0]; exact h
    obtain ⟨p1, p2, p3⟩ := List.pairwise_append.1 hp
    have hdr : ∀ y ∈ l.drop (below x l), x < y := by
      intro y hy
      have hlt : below x l < l.length := by
        have : 0 < (l.drop (below x l)).length := List.length_pos_of_mem hy
        simp at this; omega
      rw [decide_eq_true hlt, Bool.true_and] at hc
      have hne : l[below x l] ≠ x := by
        intro e
        have : rd_i64 l (below x l : Int) = x := by
          show l.getD (below x l) z_i64 = x
          rw [List.getD_eq_getElem?_getD, List.getElem?_eq_getElem hlt]
          exact e
        rw [this] at hc
        simp at hc
      have hge : x ≤ l[below x l] := by
        have hcons : l.drop (below x l) = l[below x l] :: l.drop (below x l + 1) := List.drop_eq_getElem_cons hlt
        have := hd_dw (p := fun y => decide (y < x)) ((drop_below x l).symm.trans hcons)
        have := of_decide_eq_false this
        omega
      have hcons : l.drop (below x l) = l[below x l] :: l.drop (below x l + 1) := List.drop_eq_getElem_cons hlt
      rw [hcons] at hy p2
      obtain ⟨q1, _⟩ := List.pairwise_cons.1 p2
      rcases List.mem_cons.1 hy with e | e
      · omega
      · have := q1 _ e; omega
    refine ⟨?_, fun y => ?_⟩
    · rw [List.append_assoc]
      refine List.pairwise_append.2 ⟨p1, List.pairwise_cons.2 ⟨hdr, p2⟩, fun a ha b hb => ?_⟩
      rcases List.mem_cons.1 hb with e | e
      · subst e; exact ht a ha
      · exact p3 a ha b e
    · rw [List.mem_append, List.mem_append, List.mem_singleton]
      have : y ∈ l ↔ y ∈ l.take (below x l) ∨ y ∈ l.drop (below x l) := by rw [← List.mem_append, h0]
      rw [this]
      constructor
      · rintro ((h | h) | h)
        · exact .inl (.inl h)
        · exact .inr h
        · exact .inl (.inr h)
      · rintro ((h | h) | h)
        · exact .inl (.inl h)
        · exact .inr h
        · exact .inl (.inr h)
theorem put_fold : ∀ (L s : List Int), Asc s → Asc (L.foldl putV s) ∧ ∀ y, y ∈ L.foldl putV s ↔ y ∈ s ∨ y ∈ L
  | [], s, h => ⟨h, fun y => by simp⟩
  | x :: L, s, h => by
    obtain ⟨h1, h2⟩ := putV_spec h x
    obtain ⟨h3, h4⟩ := put_fold L (putV s x) h1
    refine ⟨h3, fun y => ?_⟩
    rw [List.foldl_cons, h4, h2, List.mem_cons, or_assoc]
theorem put_ord (L : List Int) : L.foldl putV [] = ordV L := by
  obtain ⟨h1, h2⟩ := put_fold L [] List.Pairwise.nil
  obtain ⟨h3, h4⟩ := ordV_spec L
  exact asc_ext h1 h3 fun y => by rw [h2, h4]; simp
theorem putV_len (l : List Int) (x : Int) : (putV l x).length ≤ l.length + 1 := by
  unfold putV
  have := below_le x l
  cases decide (below x l < l.length) && (rd_i64 l (below x l : Int) == x) <;> simp <;> omega
theorem loop_tw {α R : Type} (l : Nat → Int → Option R) (p : α → Bool) (X : Int → Option R) (xs : List α)
    (hs : ∀ n (i : Nat) x, xs[i]? = some x → l (n + 1) (i : Int) = bif p x then l n ((i + 1 : Nat) : Int) else X (i : Int)) (he : ∀ n, l (n + 1) (xs.length : Int) = X (xs.length : Int)) (n : Nat) (hn : xs.length < n) :
    l n 0 = X ((xs.takeWhile p).length : Int) := by
  have key : ∀ (suf pre : List α) n, xs = pre ++ suf → suf.length < n → l n (pre.length : Int) = X ((pre.length + (suf.takeWhile p).length : Nat) : Int) := by
    intro suf
    induction suf with
    | nil =>
      intro pre n hx hn
      obtain ⟨n, rfl⟩ : ∃ q, n = q + 1 := ⟨n - 1, by simp at hn; omega⟩
      have e : pre.length = xs.length := by rw [hx]; simp
      rw [e, he n]
      rfl
    | cons x suf ih =>
      intro pre n hx hn
      obtain ⟨n, rfl⟩ : ∃ q, n = q + 1 := ⟨n - 1, by simp at hn; omega⟩
      have hg : xs[pre.length]? = some x := by rw [hx]; simp
      rw [hs n pre.length x hg]
      cases hp : p x with
      | true =>
        have := ih (pre ++ [x]) n (by rw [hx]; simp) (by simp at hn; omega)
        rw [List.takeWhile_cons_of_pos hp, cond_true]
        simp only [List.length_append, List.length_cons, List.length_nil] at this ⊢
        rw [this]
        congr 2
        omega
      | false =>
        rw [List.takeWhile_cons_of_neg (by simp [hp])]
        rfl
  have := key xs [] n rfl hn
  simpa using this
theorem spec_l6Put_e {k : Nat} (hk : Big k) {l : List Int} (hl : Ok l) (x : Int) : spec_l6Put.f k l x = some (putV l x) := by
  have hl' := hl.out
  have key : ∀ X : Int → Option (List Int), spec_l6Put.l2 k x l X k 0 = X ((below x l : Nat) : Int) := fun X => loop_tw (spec_l6Put.l2 k x l X) (fun y => decide (y < x)) X l (fun n i y hy => by
    obtain ⟨h1, h2, h3, h4⟩ := at_ hy (by omega)
    simp only [spec_l6Put.l2, spec_l6Put.L2, rd_i64, h1, h2, h3, h4, cond_true]) (fun n => by simp only [spec_l6Put.l2, spec_l6Put.L2, end_, cond_false]) k (hk.lt hl)
  unfold spec_l6Put.f
  rw [key]
  have hb := below_le x l
  unfold putV
  clear key
  generalize below x l = b at hb
  have g1 : decide ((([] : List Int).length + l.length) * 8 ≤ cap48) = true := decide_eq_true (by unfold cap48; simp; omega)
  have g2 : decide ((([] : List Int).length + ((l.take b).drop 0).length) * 8 ≤ cap48) = true := decide_eq_true (by unfold cap48; simp; omega)
  have g3 : decide ((([] ++ (l.take b).drop 0 : List Int).length + ([x] : List Int).length) * 8 ≤ cap48) = true := decide_eq_true (by unfold cap48; simp; omega)
  have g4 : decide ((([] ++ (l.take b).drop 0 ++ [x] : List Int).length + ((l.take l.length).drop b).length) * 8 ≤ cap48) = true := decide_eq_true (by unfold cap48; simp; omega)
  simp only [nn_, cond_true, Int.toNat_natCast, Int.toNat_zero, Int.le_refl, decide_true, decide_eq_true (show (b : Int) ≤ (l.length : Int) by omega), g1, g2, g3, g4]
  by_cases h : b < l.length
  · rw [decide_eq_true (show (b : Int) < (l.length : Int) by omega), decide_eq_true h, Bool.true_and, cond_true, cond_true]
    cases rd_i64 l (b : Int) == x
    · simp
    · rfl
  · rw [decide_eq_false (show ¬ (b : Int) < (l.length : Int) by omega), decide_eq_false h]
    simp
def ownB (kd : Int) (l : List T_impl_Op) : List Int := (l.filter fun o => o.f0 == kd).map fun o => o.f2
theorem ownB_len (kd : Int) (l : List T_impl_Op) : (ownB kd l).length ≤ l.length := by unfold ownB; rw [List.length_map]; exact List.length_filter_le _ _
def ownersOfV (kd : Int) (l : List T_impl_Op) : List Int := bif areOps l then ordV (ownB kd l) else []
theorem ownersOfV_ok {kd : Int} {l : List T_impl_Op} (hl : Ok l) : Ok (ownersOfV kd l) := by
  unfold ownersOfV
  cases areOps l with
  | false => exact Ok.small 0 (by simp)
  | true => exact Nat.le_trans (ordV_len _) (Nat.le_trans (ownB_len _ _) hl)
theorem fold_own (kd : Int) : ∀ (l : List T_impl_Op) (s : List Int), l.foldl (fun s o => bif o.f0 == kd then putV s o.f2 else s) s = (ownB kd l).foldl putV s
  | [], s => rfl
  | o :: l, s => by
    rw [List.foldl_cons, fold_own kd l]
    unfold ownB
    cases h : o.f0 == kd <;> simp [h]
theorem fold_own2 (kd : Int) : ∀ (l : List T_impl_Op) (s : List Int), l.foldl (fun s o => bif o.f0 == kd then s ++ [o.f2] else s) s = s ++ ownB kd l
  | [], s => by simp [ownB]
  | o :: l, s => by
    rw [List.foldl_cons, fold_own2 kd l]
    unfold ownB
    cases h : o.f0 == kd <;> simp [h]
theorem spec_l27Owners_e {k : Nat} (hk : Big k) {l : List T_impl_Op} (hl : Ok l) (kd : Int) : spec_l27Owners.f k l kd = some (ownersOfV kd l) := by
  have hl' := hl.out
  have hk' := hk.out
  unfold spec_l27Owners.f ownersOfV
  cases h : areOps l with
  | false =>
    obtain ⟨q, hq⟩ : ∃ j, k = j + 1 := ⟨k - 1, by omega⟩
    rw [show spec_l27Owners.l3 k kd l (fun y => some y) k 0 [] = spec_l27Owners.l3 k kd l (fun y => some y) (q + 1) 0 [] by rw [← hq]]
    simp only [spec_l27Owners.l3, spec_l27Owners.L3, spec_AreOps_e hk hl, h, Option.bind_some, cond_false]
    cases decide ((0 : Int) < (l.length : Int)) <;> rfl
  | true =>
    have := loop_fold (fun q i s => spec_l27Owners.l3 k kd l (fun y => some y) q i s) (fun s o => bif o.f0 == kd then putV s o.f2 else s) (fun i s => s.length ≤ i) (fun s => some s) l (fun n i o s hx hi => by
      have hlt := lt_of hx
      obtain ⟨h1, h2, h3, h4⟩ := at_ hx (by omega)
      have hi : s.length ≤ i := hi
      simp only [spec_l27Owners.l3, spec_l27Owners.L3, rd_impl_Op, h1, h2, h3, h4, cond_true, spec_AreOps_e hk hl, h, Option.bind_some, spec_l6Put_e hk (Ok.small (l := s) 1048576 (by omega))]
      cases o.f0 == kd <;> rfl) (fun i o s hx hi => by
      have hi : s.length ≤ i := hi
      have := putV_len s o.f2
      cases o.f0 == kd
      · show s.length ≤ i + 1; omega
      · show (putV s o.f2).length ≤ i + 1; omega) (fun n s hi => by simp only [spec_l27Owners.l3, spec_l27Owners.L3, end_, cond_false]) k [] (hk.lt hl) (Nat.le_refl 0)
    rw [fold_own, put_ord] at this
    exact this
theorem spec_OwnersSent_e {k : Nat} (hk : Big k) {l : List T_impl_Op} (hl : Ok l) : spec_OwnersSent.f k l = some (ownersOfV 5 l) := by
  unfold spec_OwnersSent.f; rw [spec_l27Owners_e hk hl]; rfl
theorem impl_InRange_e (k : Nat) (n a b : Int) : impl_InRange.f k n a b = some (inR n a b) := by
  unfold impl_InRange.f inR
  by_cases h : a ≤ n <;> simp [h]
theorem impl_isRegister_e (k : Nat) (n : Int) : impl_isRegister.f k n = some (inR n 0 5) := by
  unfold impl_isRegister.f
  rw [impl_InRange_e, Option.bind_some]
theorem impl_isOp_e (k : Nat) (kd a b c : Int) : impl_isOp.f k kd a b c = some (isOpV kd a b c) := by
  unfold impl_isOp.f isOpV
  simp only [impl_isRegister_e, impl_InRange_e, Option.bind_some]
  cases inR a 0 5 <;>
  · by_cases h1 : kd = 1
    · subst h1; cases inR b 1 9 <;> simp
    · by_cases h5 : kd = 5
      · subst h5; cases inR b 1 9 <;> simp
      · by_cases h2 : kd = 2
        · subst h2; cases inR b 0 999 <;> simp
        · by_cases h3 : kd = 3
          · subst h3; cases inR b 0 5 <;> simp
          · by_cases h4 : kd = 4
            · subst h4; cases inR b 0 5 <;> simp
            · simp [h1, h2, h3, h4, h5, beqF h1, beqF h2, beqF h3, beqF h4, beqF h5]
theorem impl_AreOps_e {k : Nat} (hk : Big k) {l : List T_impl_Op} (hl : Ok l) : impl_AreOps.f k l = some (areOps l) := by
  unfold impl_AreOps.f areOps
  rw [loop_all (impl_AreOps.l4 k (l.length : Int) l (fun y => some y) (fun _ => some true)) opOk (some true) (some false) l (fun n i x hx => by
    obtain ⟨h1, h2, h3, h4⟩ := at_ hx (by have := hl.out; omega)
    simp only [impl_AreOps.l4, impl_AreOps.L4, rd_impl_Op, h1, h2, h3, h4, impl_isOp_e, Option.bind_some, cond_true]
    cases hp : opOk x <;> simp only [opOk] at hp <;> rw [hp] <;> rfl) (fun n => by simp only [impl_AreOps.l4, impl_AreOps.L4, end_, cond_false]) k (hk.lt hl)]
  by_cases h : l.length ≤ 16
  · rw [decide_eq_false (show ¬ ((l.length : Int) > 16) by omega), decide_eq_true h]
    cases l.all opOk <;> rfl
  · rw [decide_eq_true (show (l.length : Int) > 16 by omega), decide_eq_false h]
    simp
theorem impl_ordered_e (k : Nat) {l : List Int} (hl : Ok l) : impl_ordered.f k l = some (ordV l) := by
  have hl' := hl.out
  unfold impl_ordered.f slices_Sort_int.f slices_Compact_int.f sortF compactF ordV
  rw [decide_eq_true (by omega)]
  rfl
theorem impl_ownersOf_e {k : Nat} (hk : Big k) {l : List T_impl_Op} (hl : Ok l) (kd : Int) : impl_ownersOf.f k l kd = some (ownersOfV kd l) := by
  have hl' := hl.out
  unfold impl_ownersOf.f ownersOfV
  rw [impl_AreOps_e hk hl, Option.bind_some]
  cases h : areOps l with
  | false => rfl
  | true =>
    have hb := ownB_len kd l
    have := loop_fold (fun q i s => impl_ownersOf.l5 k kd (l.length : Int) l (fun y => (impl_ordered.f k y).bind fun t3 => some t3) q i s) (fun s o => bif o.f0 == kd then s ++ [o.f2] else s) (fun i s => s.length ≤ i) (fun y => (impl_ordered.f k y).bind fun t3 => some t3) l (fun n i o s hx hi => by
      have hlt := lt_of hx
      obtain ⟨h1, h2, h3, h4⟩ := at_ hx (by omega)
      have hi : s.length ≤ i := hi
      simp only [impl_ownersOf.l5, impl_ownersOf.L5, rd_impl_Op, h1, h2, h3, h4, cond_true]
      rw [decide_eq_true (by unfold cap48; simp; omega), cond_true]
      cases o.f0 == kd <;> rfl) (fun i o s hx hi => by
      have hi : s.length ≤ i := hi
      cases o.f0 == kd
      · show s.length ≤ i + 1; omega
      · show (s ++ [o.f2]).length ≤ i + 1; simp; omega) (fun n s hi => by simp only [impl_ownersOf.l5, impl_ownersOf.L5, end_, cond_false]) k [] (hk.lt hl) (Nat.le_refl 0)
    rw [fold_own2, List.nil_append, impl_ordered_e k (Ok.small 1048576 (by omega))] at this
    exact this
theorem impl_OwnersSent_e {k : Nat} (hk : Big k) {l : List T_impl_Op} (hl : Ok l) : impl_OwnersSent.f k l = some (ownersOfV 5 l) := by
  unfold impl_OwnersSent.f; rw [impl_ownersOf_e hk hl]; rfl
theorem laws_szOpS_e (k : Nat) {l : List T_laws_Op} {n : Int} (hl : l.length ≤ maxLen) (hn : 0 ≤ n ∧ n ≤ 1048576) : laws_szOpS.f k l n = some (bif decide (n - (l.length : Int) < 0) then -1 else n - (l.length : Int)) := by
  have h2 : l.length ≤ 9223372036854775807 := hl
  unfold laws_szOpS.f
  rw [w64_id (by omega)]
  cases decide (n - (l.length : Int) < 0) <;> rfl
def toOp (x : T_laws_Op) : T_impl_Op := ⟨x.f0, x.f1, x.f2, x.f3⟩
theorem laws_toOpS_e {k : Nat} (hk : Big k) {l : List T_laws_Op} (hl : Ok l) : laws_toOpS.f k l = some (l.map toOp) := by
  have hl' := hl.out
  unfold laws_toOpS.f
  rw [nn_, cond_true, decide_eq_true (by unfold cap48; simp; omega), cond_true]
  refine loop_map (laws_toOpS.l3 k l (fun y => some y)) toOp (fun y => some y) l (fun n i x ys hx hy => ?_) (fun n ys hy => ?_) k _ (hk.lt hl) (by simp)
  · obtain ⟨h1, h2, h3, h4⟩ := at_ hx (by omega)
    have h5 : decide ((i : Int) < (ys.length : Int)) = true := by rw [hy]; exact h1
    simp only [laws_toOpS.l3, laws_toOpS.L3, rd_laws_Op, h1, h2, h3, h4, h5, cond_true, laws_toOp.f, Option.bind_some, toOp]
    rfl
  · simp only [laws_toOpS.l3, laws_toOpS.L3, end_, cond_false]
theorem laws_eqOp_refl (k : Nat) (x : T_impl_Op) : laws_eqOp.f k x.f0 x.f1 x.f2 x.f3 x.f0 x.f1 x.f2 x.f3 = some true := by
  simp [laws_eqOp.f, Option.bind_some]
theorem laws_eqOpS_refl {k : Nat} (hk : Big k) {l : List T_impl_Op} (hl : Ok l) : laws_eqOpS.f k l l = some true := by
  have hl' := hl.out
  unfold laws_eqOpS.f
  rw [show ((l.length : Int) != (l.length : Int)) = false from by simp, cond_false]
  rw [loop_all (laws_eqOpS.l4 k l l (fun y => some y) (fun _ => some true)) (fun _ => true) (some true) (some false) l (fun n i x hx => by
    obtain ⟨h1, h2, h3, h4⟩ := at_ hx (by omega)
    simp only [laws_eqOpS.l4, laws_eqOpS.L4, rd_impl_Op, h1, h2, h3, h4, cond_true, laws_eqOp_refl, Option.bind_some]
    rfl) (fun n => by simp only [laws_eqOpS.l4, laws_eqOpS.L4, end_, cond_false]) k (hk.lt hl), List.all_eq_true.2 (fun _ _ => rfl)]
  rfl
def mOp (n : Int) : T_impl_Op := ⟨(n), (n + 1), (n + 1 + 1), (n + 1 + 1 + 1)⟩
theorem laws_markOpS_e {k : Nat} (hk : Big k) {l : List T_impl_Op} (hl : Ok l) {n : Int} (h0 : 0 ≤ n) (hb : n ≤ 900000000000) : laws_markOpS.f k l n = some (n + 4 * l.length, marks mOp 4 n l.length) := by
  have hl' := hl.out
  unfold laws_markOpS.f
  refine loop_mark (laws_markOpS.l2 k (fun y z => some (y, z))) mOp 4 (fun y z => some (y, z)) (fun q n i ys h0 hb hi hl => ?_) (fun q n ys => ?_) k n l h0 (by omega) hl' (hk.lt hl)
  · have h1 : decide ((i : Int) < (ys.length : Int)) = true := decide_eq_true (by omega)
    have h2 : decide ((0 : Int) ≤ (i : Int)) = true := decide_eq_true (by omega)
    have h3 : w64 ((i : Int) + 1) = ((i + 1 : Nat) : Int) := by rw [w64_id (by omega)]; omega
    have e0 : w64 (n + 1) = n + 1 := w64_s (by omega) (by omega)
    have e1 : w64 (n + 1 + 1) = n + 1 + 1 := w64_s (by omega) (by omega)
    have e2 : w64 (n + 1 + 1 + 1) = n + 1 + 1 + 1 := w64_s (by omega) (by omega)
    have e3 : w64 (n + 1 + 1 + 1 + 1) = n + 1 + 1 + 1 + 1 := w64_s (by omega) (by omega)
    have ec : n + 1 + 1 + 1 + 1 = n + (4 : Nat) := by omega
    simp only [laws_markOpS.l2, laws_markOpS.L2, rd_impl_Op, h1, h2, h3, e0, e1, e2, e3, cond_true, toNat_c, List.length_set, List.set_set]
    simp only [toNat_c, List.getD_eq_getElem?_getD, List.getElem?_set_self hi, Option.getD_some, ec]
    try rfl
  · simp only [laws_markOpS.l2, laws_markOpS.L2, end_, cond_false]
theorem laws_eqIntS_refl {k : Nat} (hk : Big k) {l : List Int} (hl : Ok l) : laws_eqIntS.f k l l = some true := by
  have hl' := hl.out
  unfold laws_eqIntS.f
  rw [show ((l.length : Int) != (l.length : Int)) = false from by simp, cond_false]
  rw [loop_all (laws_eqIntS.l4 k l l (fun y => some y) (fun _ => some true)) (fun _ => true) (some true) (some false) l (fun n i x hx => by
    obtain ⟨h1, h2, h3, h4⟩ := at_ hx (by omega)
    simp only [laws_eqIntS.l4, laws_eqIntS.L4, rd_i64, h1, h2, h3, h4, cond_true, bne_self_eq_false, cond_false]) (fun n => by simp only [laws_eqIntS.l4, laws_eqIntS.L4, end_, cond_false]) k (hk.lt hl), List.all_eq_true.2 (fun _ _ => rfl)]
  rfl
def mInt (n : Int) : Int := (n)
theorem laws_markIntS_e {k : Nat} (hk : Big k) {l : List Int} (hl : Ok l) {n : Int} (h0 : 0 ≤ n) (hb : n ≤ 900000000000) : laws_markIntS.f k l n = some (n + 1 * l.length, marks mInt 1 n l.length) := by
  have hl' := hl.out
  unfold laws_markIntS.f
  refine loop_mark (laws_markIntS.l2 k (fun y z => some (y, z))) mInt 1 (fun y z => some (y, z)) (fun q n i ys h0 hb hi hl => ?_) (fun q n ys => ?_) k n l h0 (by omega) hl' (hk.lt hl)
  · have h1 : decide ((i : Int) < (ys.length : Int)) = true := decide_eq_true (by omega)
    have h2 : decide ((0 : Int) ≤ (i : Int)) = true := decide_eq_true (by omega)
    have h3 : w64 ((i : Int) + 1) = ((i + 1 : Nat) : Int) := by rw [w64_id (by omega)]; omega
    have e0 : w64 (n + 1) = n + 1 := w64_s (by omega) (by omega)
    have ec : n + 1 = n + (1 : Nat) := by omega
    simp only [laws_markIntS.l2, laws_markIntS.L2, rd_i64, h1, h2, h3, e0, cond_true, toNat_c, List.length_set, List.set_set]
    simp only [toNat_c, List.getD_eq_getElem?_getD, List.getElem?_set_self hi, Option.getD_some, ec]
    try rfl
  · simp only [laws_markIntS.l2, laws_markIntS.L2, end_, cond_false]
theorem laws_heldIntS_e {k : Nat} (hk : Big k) {j : Nat} (hj : j ≤ 1048576) {n : Int} (h0 : 0 ≤ n) (hb : n ≤ 900000000000) : laws_heldIntS.f k (marks mInt 1 n j) n = some (n + 1 * j) := by
  unfold laws_heldIntS.f
  have hkk := hk.out
  refine loop_held (laws_heldIntS.l2 k (marks mInt 1 n j) (fun _ y => some y) (fun y => some y)) mInt 1 (fun y => some y) _ (fun q n i h0 hb hi => ?_) (fun q n => ?_) k n j rfl h0 (by omega) (by omega)
  · obtain ⟨h1, h2, h3, h4⟩ := at_ hi (by rw [marks_len]; omega)
    have e0 : w64 (n + 1) = n + 1 := w64_s (by omega) (by omega)
    have ec : n + 1 = n + (1 : Nat) := by omega
    simp only [laws_heldIntS.l2, laws_heldIntS.L2, rd_i64, h1, h2, h3, h4, e0, cond_true, mInt, bne_self_eq_false, beq_self_eq_true, Bool.not_true, cond_false]
    try rw [ec]
    try rfl
  · simp only [laws_heldIntS.l2, laws_heldIntS.L2, end_, cond_false]
theorem FnExactOwnersSent : ∀ (a0 : List T_laws_Op), a0.length ≤ maxLen → (∀ x ∈ a0, likes (k_laws_Op.enc k_laws_Op.zero) (k_laws_Op.enc x)) → ∃ k, laws_FnExactOwnersSent.f k a0 = some true := by
  intro l hl _
  obtain ⟨k, hk⟩ := big_some
  refine ⟨k, ?_⟩
  unfold laws_FnExactOwnersSent.f
  rw [laws_szOpS_e k hl (by omega), Option.bind_some]
  by_cases ht : 1048576 - (l.length : Int) < 0
  · rw [decide_eq_true ht]; rfl
  rw [decide_eq_false ht, cond_false, decide_eq_false ht, cond_false]
  have ho : Ok l := by unfold Ok; omega
  have hm := ho.map (f := toOp)
  have hx := ownersOfV_ok (kd := 5) hm
  simp only [laws_toOpS_e hk ho, Option.bind_some, spec_OwnersSent_e hk hm, impl_OwnersSent_e hk hm, laws_eqOpS_refl hk hm, laws_markOpS_e hk hm (n := 1) (by omega) (by omega)]
  generalize ownersOfV 5 (l.map toOp) = L at hx
  have hL := hx.out
  rw [decide_eq_false (show ¬ (1 + 4 * (((l.map toOp).length : Nat) : Int) < 0) by omega)]
  simp only [laws_eqIntS_refl hk hx, laws_markIntS_e hk hx (n := 1) (by omega) (by omega), laws_heldIntS_e hk hL (n := 1) (by omega) (by omega), Option.bind_some, decide_eq_false (show ¬ ((1 : Int) + 1 * (L.length : Int) < 0) by omega), bne_self_eq_false]
  rfl
end Go.Proofs.Ythjdecnheaifkaa.PFnExactOwnersSent.Pure
