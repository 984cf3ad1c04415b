/- The abstract run of a function and its soundness, part 3; no conditions. -/
import Derived.Test.YtmjflahlhgibnaaGreatDoorEng2
import Derived.Sort.EveryDepth
import Derived.Sort.OwnSortedInts
import Derived.Shelf.Sort.AssemblyIn
import Derived.Shelf.Slices.In.SortNone
import Derived.Shelf.Slices.CompactI
/- slices.Sort and slices.Compact at []int, off the shelf's contracts. -/
set_option linter.unusedVariables false
set_option linter.unusedSimpArgs false
namespace Go.Eng
open Go Go.Proofs Go.Sort Go.Shelf
section
variable {κ : Nat → KT} {P : Program} {ρ : Ren}
theorem flat_ints {k : KT} (toI : k.T → Int) (henc : ∀ x, k.enc x = [.int .i64 (toI x)]) (l : List k.T) : flat k l = (l.map toI).map (Value.int .i64) := by
  induction l with
  | nil => rfl
  | cons x l ih => rw [flat_cons, ih, henc]; rfl
theorem grown_refl (w : World) (r : Option Nat) : w.grownBy w r := ⟨rfl, rfl, rfl, Nat.le_refl _, fun _ _ _ => rfl⟩
theorem sort_sound (hκ : ∀ k, (κ k).Ok) (Ly : Lays.n189 P ρ) (henter : ∀ args w, (callFunc (ρ.f 189) args).run P w = .ok (.enter (ρ.f 189) args) w) (k : Nat) (hsz : (κ k).sz = 1) (toI : (κ k).T → Int) (henc : ∀ x, (κ k).enc x = [.int .i64 (toI x)])
    (S : List (κ k).T → Option (List (κ k).T)) (hS : ∀ l y, S l = some y → l.length < 4611686018427387904 ∧ y.map toI = (l.map toI).mergeSort fun x y => decide (x ≤ y)) : CSound P (ρ.f 189) (contract (inSig k none) (inB k κ none S)) := by
  refine inplace_sound hκ henter k none S fun l y v w hy ho _ => ?_
  obtain ⟨hsl, e⟩ := hS l y hy
  have hyl : y.length = l.length := by have := congrArg List.length e; simpa using this
  have h2 := ho.2
  rcases h2 with ⟨rfl, hl⟩ | ⟨g, cap, cur, rfl, _, hb, hn, hc, hcs, ht⟩
  · have hl0 : l = [] := List.eq_nil_of_length_eq_zero hl
    have hy0 : y = [] := List.eq_nil_of_length_eq_zero (by omega)
    subst hl0 hy0
    exact (Any.slices_Sort_int_none Ly none 0 w).mono fun e' w' ⟨he, hw⟩ => ⟨he, by rw [hw]; exact grown_refl _ _, by rw [hw]; exact Nat.le_refl _, rfl, by rw [hw]; exact ho⟩
  · rw [hsz] at hcs ht
    rw [Nat.mul_one, flat_ints toI henc] at ht
    have hl : l.length = (l.map toI).length := by simp
    have hH := holds_of_blockI (ss := l.map toI) hb (by rw [← hl]; exact ht)
    have hlt : g < w.heap.size := (Array.getElem?_eq_some_iff.1 hb).1
    have hC := calls_of_every_depth fun D => AnyS.slices_Sort_int_in Ly D g 0 cap (l.map toI) w hH hlt (by rw [← hl]; exact hsl)
    rw [← e, ← hl] at hC
    refine hC.mono ?_
    rintro e' w' ⟨he, n, os, rfl⟩
    refine ⟨he, grownBy_sortedI _, Nat.le_add_right _ _, hyl, ?_⟩
    have := ownsRow_sortedI (w := w) (base := 0) (n := n) (os := os) (ss := l.map toI) (ts := y.map toI) (cap := cap) (by simp [hyl]) (Nat.zero_le g) hb (by rw [← hl]; exact hn) hc hcs
    rw [hsz, flat_ints toI henc y, hl]
    exact this
theorem compact_len (zs : List Int) : (Lib.compact zs).length ≤ zs.length := by
  unfold Lib.compact Lib.compactUpTo
  rw [List.length_map]
  exact Nat.le_trans (List.length_filter_le _ _) (by simp)
theorem compact_sound (hκ : ∀ k, (κ k).Ok) (Ly : Lays2.n20 P ρ) (henter : ∀ args w, (callFunc (ρ.f 20) args).run P w = .ok (.enter (ρ.f 20) args) w) (k : Nat) (hsz : (κ k).sz = 1) (toI : (κ k).T → Int) (henc : ∀ x, (κ k).enc x = [.int .i64 (toI x)])
    (S : List (κ k).T → Option (List (κ k).T)) (hS : ∀ l y, S l = some y → y.map toI = Go.Lib.compact (l.map toI)) : CSound P (ρ.f 20) (contract [.one (.rw k)] (cutB k κ S)) := by
  refine cut_sound hκ henter k S fun l y v w hy ho => ?_
  have e := hS l y hy
  have h2 := ho.2
  rcases h2 with ⟨rfl, hl⟩ | ⟨g, cap, cur, rfl, _, hb, hn, hc, hcs, ht⟩
  · have hl0 : l = [] := List.eq_nil_of_length_eq_zero hl
    subst hl0
    have hy0 : y = [] := by
      have := congrArg List.length e
      have h9 := compact_len ([] : List Int)
      simp only [List.map_nil, List.length_map, List.length_nil] at this h9
      exact List.eq_nil_of_length_eq_zero (by omega)
    subst hy0
    exact (Any.slices_Compact_int_empty Ly none 0 w).mono fun e' w' ⟨he, hw⟩ => ⟨_, he, by rw [hw]; exact grown_refl _ _, by rw [hw]; exact Nat.le_refl _, rfl, by rw [hw]; exact ho⟩
  · rw [hsz] at hcs ht
    rw [Nat.mul_one, flat_ints toI henc] at ht
    have hl : l.length = (l.map toI).length := by simp
    have hH := holds_of_blockI (ss := l.map toI) hb (by rw [← hl]; exact ht)
    have hlt : g < w.heap.size := (Array.getElem?_eq_some_iff.1 hb).1
    have hm : maxLen ≤ 9223372036854775807 := by decide
    have hz1 : (l.map toI).length ≤ 9223372036854775807 := by rw [← hl]; omega
    have hC := Any.slices_Compact_int Ly g 0 cap (l.map toI) w hH hz1 (by rw [← hl]; exact hn)
    have hcl := compact_len (l.map toI)
    rw [← e] at hC hcl
    have hyl : (y.map toI).length = y.length := by simp
    rw [← hl] at hC hcl
    rw [hyl] at hC hcl
    refine hC.mono ?_
    rintro e' w' ⟨he, q, rfl⟩
    generalize hts : y.map toI ++ List.replicate (l.length - y.length) 0 = ts
    have htl : ts.length = l.length := by rw [← hts]; simp; omega
    have hbk := heap_sortedI (n := q) (os := #[]) ts.toArray hb
    have hgr := grownBy_sortedI (w := w) (g := g) (n := q) (os := #[]) ts.toArray
    have htk := take_putCellsI cur ts (by omega)
    rw [grow_empty] at hbk hgr
    refine ⟨_, he, hgr, Nat.le_add_right _ _, rfl, ?_⟩
    rw [hsz, flat_ints toI henc y]
    refine ⟨by simp, .inr ⟨g, cap, _, rfl, Nat.zero_le _, hbk, by omega, hc, by simp [putCells, hcs], ?_⟩⟩
    rw [Nat.mul_one]
    have h5 := congrArg (List.take y.length) htk
    rw [List.take_take, htl, Nat.min_eq_left hcl] at h5
    rw [h5, ← hts, List.map_append, List.take_append_of_le_length (by simp)]
    exact List.take_of_length_le (by simp)
end
def sortF (l : List Int) : Option (List Int) := bif decide (l.length < 4611686018427387904) then some (l.mergeSort fun x y => decide (x ≤ y)) else none
theorem sortF_ok : ∀ l y, sortF l = some y → l.length < 4611686018427387904 ∧ y.map (fun x => x) = (l.map fun x => x).mergeSort fun x y => decide (x ≤ y) := fun l y h => by
  unfold sortF at h
  cases hd : decide (l.length < 4611686018427387904) with
  | false => rw [hd] at h; cases h
  | true =>
    rw [hd] at h
    obtain rfl := Option.some.inj h
    exact ⟨of_decide_eq_true hd, by simp⟩
def compactF (l : List Int) : Option (List Int) := some (Go.Lib.compact l)
theorem compactF_ok : ∀ l y, compactF l = some y → y.map (fun x => x) = Go.Lib.compact (l.map fun x => x) := fun l y h => by
  obtain rfl := Option.some.inj h
  simp
end Go.Eng
