/- The abstract run of a function and its soundness, part 4; no conditions. -/
import Derived.Test.YtmjflahlhgibnaaGreatDoorEng3
import Derived.Shelf.SlSortCmp.NoneTotal
/- slices.SortFunc at structs, off the shelf's contract. -/
set_option linter.unusedVariables false
set_option linter.unusedSimpArgs false
namespace Go.Eng
open Go Go.Proofs Go.Sort Go.Shelf
section
variable {κ : Nat → KT} {P : Program} {ρ : Ren}
def encV (k : KT) (x : k.T) : List Value := (k.enc x).map LV.val
theorem flat_flatK {k : KT} [Inhabited k.T] (hk : k.Ok) (d : Array k.T) : flatK (encV k) k.sz d = (flat k d.toList).toArray := by
  have hp := hk.pos
  apply Array.ext
  · rw [size_flatK]; simp [flat_length k hk]
  · intro t h1 h2
    rw [size_flatK] at h1
    have e := get_flatK (encV k) k.sz d t h1
    rw [getElem!_pos _ t (by rw [size_flatK]; exact h1)] at e
    rw [e]
    have hi : t / k.sz < d.size := Nat.div_lt_of_lt_mul (by rw [Nat.mul_comm]; exact h1)
    have hj : t % k.sz < k.sz := Nat.mod_lt _ hp
    have hd : d[t / k.sz]! = d[t / k.sz] := getElem!_pos d _ hi
    have hg := flat_get k hk d.toList (t / k.sz) d[t / k.sz] (by simp [hi]) (t % k.sz) hj
    have ht : t / k.sz * k.sz + t % k.sz = t := by rw [Nat.mul_comm]; exact Nat.div_add_mod t k.sz
    rw [ht] at hg
    have h3 : t < (flat k d.toList).length := by simpa using h2
    have h4 : (flat k d.toList).toArray[t] = (flat k d.toList)[t] := by simp
    rw [h4]
    have h5 := List.getElem?_eq_getElem h3
    rw [h5] at hg
    rw [hd]
    have hl : t % k.sz < (k.enc d[t / k.sz]).length := by rw [hk.len]; exact hj
    have hl2 : t % k.sz < (encV k d[t / k.sz]).length := by unfold encV; rw [List.length_map]; exact hl
    rw [getElem!_pos (encV k d[t / k.sz]) (t % k.sz) hl2]
    rw [List.getElem?_eq_getElem hl, Option.map_some] at hg
    rw [Option.some.inj hg]
    exact List.getElem_map ..
theorem holds_of_block_id {w : World} {g : Nat} {cur : Array Value} {e : TypeId} {ss : List Value} (hb : w.heap[g]? = some (.cells cur e (0, 0))) (ht : cur.toList.take ss.length = ss) : Holds id w g 0 ss.toArray := by
  intro j hj
  have hj' : j < ss.length := by simpa using hj
  refine ⟨?_, by simp [World.frozen?, hb]⟩
  have h1 : (cur.toList.take ss.length)[j]? = ss[j]? := by rw [ht]
  rw [List.getElem?_take_of_lt hj'] at h1
  simp only [World.cell?, hb, Nat.zero_add]
  simp only [Option.isSome_none, Bool.false_eq_true, if_false]
  rw [← Array.getElem?_toList, h1]
  simp [hj']
theorem heap_sorted_id {w : World} {g n : Nat} {os : Array Obj} {cur : Array Value} {e : TypeId} {fr : Nat × Nat} (d : Array Value) (hb : w.heap[g]? = some (.cells cur e fr)) :
    (grow (putRow id (Sort.ahead w n) g 0 d) os).heap[g]? = some (.cells (putCells id 0 d cur) e fr) := by
  have hg : g < w.heap.size := (Array.getElem?_eq_some_iff.1 hb).1
  rw [heap_grow_old _ _ (by simpa using hg)]
  simp [putRow, mapBlock, Sort.ahead, Array.getElem?_modify, hb, onCells]
theorem grownBy_sorted_id {w : World} {g n : Nat} {os : Array Obj} (d : Array Value) : w.grownBy (grow (putRow id (Sort.ahead w n) g 0 d) os) (some g) := by
  refine ⟨rfl, rfl, rfl, by simp, fun k hk hne => ?_⟩
  rw [heap_grow_old _ _ (by simpa using hk)]
  have : g ≠ k := fun e => hne (by rw [e])
  simp [putRow, mapBlock, Sort.ahead, Array.getElem?_modify, this]
theorem take_putCells_id (cur : Array Value) (ts : List Value) (h : ts.length ≤ cur.size) : (putCells id 0 ts.toArray cur).toList.take ts.length = ts := by
  apply List.ext_getElem?
  intro j
  by_cases hj : j < ts.length
  · rw [List.getElem?_take_of_lt hj, Array.getElem?_toList]
    simp [putCells, hj, show j < cur.size by omega]
  · rw [List.getElem?_take_eq_none (by omega), List.getElem?_eq_none (by omega)]
/-- Nothing that was there has turned: new blocks, some draws. -/
theorem grown_of_step (hmono : (κ 0).mono = true) {M M' : Mu} {H' : Hp κ} {w w' : World} (h : Step M (hpOf ([] : List (Blk κ))) w M' H' w') : ∃ q os', w' = grow (w.drewN q) os' := by
  refine ⟨w'.drawn - w.drawn, w'.heap.extract w.heap.size w'.heap.size, ?_⟩
  have hh : w'.heap = w.heap ++ w'.heap.extract w.heap.size w'.heap.size := by
    apply Array.ext_getElem?
    intro i
    by_cases hi : i < w.heap.size
    · rw [Array.getElem?_append_left hi]
      exact h.frame i hi fun b ho => by cases ho
    · rw [Array.getElem?_append_right (by omega), Array.getElem?_extract]
      have := h.size
      by_cases h2 : i < w'.heap.size
      · rw [if_pos (by omega)]
        congr 1
        omega
      · rw [if_neg (by omega), Array.getElem?_eq_none (by omega)]
  have hd := h.drawn hmono
  cases w' with
  | mk heap tape drawn os output =>
    have e1 := h.os
    have e2 := h.tape
    have e3 := h.output
    simp only at hh hd e1 e2 e3
    unfold grow World.drewN
    simp only [World.mk.injEq]
    exact ⟨hh, e2, by omega, e1, e3⟩
/-- A function of plain values alone, as its contract says. -/
theorem plain_calls (hmono : (κ 0).mono = true) {f : FuncId} {g : Nat → List AV → AP κ AV} (h : CSound P f g) {args : List AV} {cargs : Array Value} {M : Mu} {K : IntKind} {n : Int} (hsz : cargs.size = args.length) (hra : ∀ (j : Nat) x c, args[j]? = some x → cargs[j]? = some c → RA M (hpOf ([] : List (Blk κ))) x c)
    (hr : (g 0 args).run (hpOf []) [] [] (fun v H' rs ws => some v) = some (.v (.int K n))) (w : World) (hpin : ∀ p, (κ 0).pin = some p → ∃ o, w.heap[p.1]? = some o ∧ p.2 o) : Calls P f cargs w fun e w' => e = .returned (.int K n) ∧ ∃ q os', w' = grow (w.drewN q) os' := by
  have hRH : RH M (hpOf ([] : List (Blk κ))) w := ⟨fun b => trivial, fun b b' g hb ho => (by cases ho), fun p hp => (hpin p hp).elim fun o h1 => ⟨o, h1.1, h1.2, fun b ho => by cases ho⟩⟩
  obtain ⟨v, H', rs, ws, hK, hC⟩ := h.does 0 args cargs M _ w _ _ hsz hra hRH hr
  obtain rfl := Option.some.inj hK
  refine hC.mono ?_
  rintro e w' ⟨c, rfl, M', hv, _, hs⟩
  obtain rfl : c = _ := hv
  exact ⟨rfl, grown_of_step hmono hs⟩
theorem enc_args {k : KT} (hk : k.Ok) (x y : k.T) {M : Mu} {H : Hp κ} : ∀ (j : Nat) a c, ([.agg (k.enc x), .agg (k.enc y)] : List AV)[j]? = some a → (#[.agg (encV k x).toArray, .agg (encV k y).toArray] : Array Value)[j]? = some c → RA M H a c := by
  have one : ∀ z : k.T, RA M H (.agg (k.enc z)) (.agg (encV k z).toArray) := fun z => ⟨_, rfl, by simp [encV], fun j u v h1 h2 => by
    have hu := hk.sc z u (List.mem_of_getElem? h1)
    simp only [encV, List.getElem?_map, h1, Option.map_some] at h2
    obtain rfl := Option.some.inj h2
    exact sc_RL hu⟩
  intro j a c h1 h2
  match j, h1, h2 with
  | 0, h1, h2 => obtain rfl := Option.some.inj h1; obtain rfl := Option.some.inj h2; exact one x
  | 1, h1, h2 => obtain rfl := Option.some.inj h1; obtain rfl := Option.some.inj h2; exact one y
  | j + 2, h1, h2 => cases h1
/-- slices.SortFunc's order, as a function of the list. -/
def sortBy {α : Type} (z : α) (lt : α → α → Bool) (l : List α) : List α := (@Sort.pdq α ⟨z⟩ lt l.toArray 0 l.length (Lib.bitLen l.length) true true).toList
theorem sortBy_spec {α : Type} (z : α) {lt : α → α → Bool} (hO : SWO lt) (l : List α) : (sortBy z lt l).Perm l ∧ (sortBy z lt l).Pairwise fun a b => lt b a = false := by
  letI : Inhabited α := ⟨z⟩
  obtain ⟨⟨hsz, _, hperm⟩, hSo⟩ := pdq_sorts lt hO l.toArray 0 l.toArray.size (Lib.bitLen l.toArray.size) true true (Nat.zero_le _) (Nat.le_refl _) (Or.inl rfl)
  have e0 : l.toArray.size = l.length := by simp
  rw [e0] at hsz hperm hSo
  unfold sortBy
  generalize pdq lt l.toArray 0 l.length (Lib.bitLen l.length) true true = d' at hsz hperm hSo
  have e1 : d'.extract 0 l.length = d' := by rw [← hsz]; exact Array.extract_size
  have e2 : l.toArray.extract 0 l.length = l.toArray := by rw [← e0]; exact Array.extract_size
  rw [e1, e2] at hperm
  refine ⟨by simpa using hperm, ?_⟩
  rw [List.pairwise_iff_getElem]
  intro i j hi hj hij
  have hi' : i < d'.size := by simpa using hi
  have hj' : j < d'.size := by simpa using hj
  have := hSo i j (Nat.zero_le _) hij (by omega)
  rw [getElem!_pos d' j hj', getElem!_pos d' i hi'] at this
  simpa using this
def sortByF {α : Type} (z : α) (lt : α → α → Bool) (l : List α) : Option (List α) := bif decide (l.length < 4611686018427387904) then some (sortBy z lt l) else none
theorem sortFunc_sound (hκ : ∀ k, (κ k).Ok) (L : SlLaysF0.n6 P ρ) (henter : ∀ args w, (callFunc (ρ.f 6) args).run P w = .ok (.enter (ρ.f 6) args) w) (k : Nat) (aE : ∀ w, (isAgg (ρ.t 24)).run P w = .ok true w) (zE : ∀ w, (Go.sizeOf (ρ.t 24)).run P w = .ok (κ k).sz w)
    {g : Nat} (eg : ∀ args w, (callFunc g args).run P w = .ok (.enter g args) w) (cf : (κ k).T → (κ k).T → Int) (hO : SWO (ltOf cf))
    (hcmp : ∀ (x y : (κ k).T) (w : World), (∀ p, (κ 0).pin = some p → ∃ o, w.heap[p.1]? = some o ∧ p.2 o) → Calls P g #[.agg (encV (κ k) x).toArray, .agg (encV (κ k) y).toArray] w fun e w' => e = .returned (.int .i64 (cf x y)) ∧ ∃ q os', w' = grow (w.drewN q) os') :
    CSound P (ρ.f 6) (contract (inSig k (some g)) (inB k κ (some g) (sortByF (κ k).zero (ltOf cf)))) := by
  letI : Inhabited (κ k).T := ⟨(κ k).zero⟩
  refine inplace_sound hκ henter k (some g) _ fun l y v w hy ho hpin => ?_
  unfold sortByF at hy
  cases hd : decide (l.length < 4611686018427387904) with
  | false => rw [hd] at hy; cases hy
  | true =>
    rw [hd] at hy
    obtain rfl := Option.some.inj hy
    have hl := of_decide_eq_true hd
    have hpl : (sortBy (κ k).zero (ltOf cf) l).length = l.length := (sortBy_spec (κ k).zero hO l).1.length_eq
    rcases ho.2 with ⟨rfl, hl0⟩ | ⟨b, cap, cur, rfl, _, hb, hn, hc, hcs, ht⟩
    · have hl0 : l = [] := List.eq_nil_of_length_eq_zero hl0
      subst hl0
      have e0 : sortBy (κ k).zero (ltOf cf) [] = [] := List.eq_nil_of_length_eq_zero hpl
      rw [e0]
      exact (AnyF.slices_SortFunc_none L none 0 _ w).mono fun e' w' ⟨he, hw⟩ => ⟨he, by rw [hw]; exact grown_refl _ _, by rw [hw]; exact Nat.le_refl _, rfl, by rw [hw]; exact ho⟩
    · have hlt : b < w.heap.size := (Array.getElem?_eq_some_iff.1 hb).1
      have hlen : ∀ x, (encV (κ k) x).length = (κ k).sz := fun x => by unfold encV; rw [List.length_map, (hκ k).len]
      have hone : ∀ x, ∀ v ∈ encV (κ k) x, v.oneCell' = true := fun x v hv => by
        unfold encV at hv
        obtain ⟨u, hu, rfl⟩ := List.mem_map.1 hv
        have := (hκ k).sc x u hu
        cases u <;> simp [LV.sc, LV.val, Value.oneCell'] at *
      have hfl := flat_length (κ k) (hκ k)
      have hH : HoldsK (encV (κ k)) (κ k).sz w b 0 l.toArray := by
        unfold HoldsK
        rw [flat_flatK (hκ k)]
        exact holds_of_block_id hb (by rw [hfl]; exact ht)
      have hpw : ∀ (m : Nat) (os : Array Obj) (dk : Array (κ k).T) (p : Nat × (Obj → Prop)), (κ 0).pin = some p → ∃ o, (sortWorldK (encV (κ k)) (κ k).sz w b 0 m dk os).heap[p.1]? = some o ∧ p.2 o := fun m os dk p hp => by
        obtain ⟨o, h1, h2, h3⟩ := hpin p hp
        have hpl := (Array.getElem?_eq_some_iff.1 h1).1
        refine ⟨o, ?_, h2⟩
        unfold sortWorldK putRowK
        exact ((grownBy_sorted_id _).block p.1 hpl (fun e => h3 e.symm)).trans h1
      have hC := AnyQ.slices_SortFunc_eq L (κ k).sz aE zE (encV (κ k)) hlen hone cf hO g #[] b 0 cap l.toArray w eg (fun m os dk _ x y => hcmp x y _ (hpw m os dk)) hH hlt (by simpa using hl)
      rw [show l.toArray.size = l.length by simp] at hC
      refine hC.mono ?_
      rintro e' w' ⟨he, n, os, rfl⟩
      have hpd : Sort.pdq (ltOf cf) l.toArray 0 l.length (Lib.bitLen l.length) true true = (sortBy (κ k).zero (ltOf cf) l).toArray := by unfold sortBy; simp
      rw [hpd]
      unfold sortWorldK putRowK
      rw [flat_flatK (hκ k)]
      have hyl : (flat (κ k) (sortBy (κ k).zero (ltOf cf) l)).length = l.length * (κ k).sz := by rw [hfl, hpl]
      refine ⟨he, grownBy_sorted_id _, Nat.le_add_right _ _, hpl, hyl, .inr ⟨b, cap, _, rfl, Nat.zero_le _, heap_sorted_id _ hb, hn, hc, by simp [putCells, hcs], ?_⟩⟩
      rw [← hyl]
      exact take_putCells_id cur _ (by rw [hyl, hcs]; exact Nat.mul_le_mul_right _ hn)
end
end Go.Eng
