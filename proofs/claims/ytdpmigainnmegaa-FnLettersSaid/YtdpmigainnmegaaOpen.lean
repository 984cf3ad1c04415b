/- What comes in, read as data, is of a kind: whole numbers, bools, structs of them, slices of them. -/
import Derived.Test.YtdpmigainnmegaaWWords
import Derived.Deep.Slices
import Derived.ChangeArms
import Derived.RowKit
import Derived.WideShapes
namespace Go.Proofs.Ytdpmigainnmegaa.Open
open Go.ChangeShapes Go.WideShapes Go.RowKit Go.Deep Go.Proofs.YtdpmigainnmegaaW.PrintWords

/-- Cells that read as data of type t are of kind d, with G. -/
def Opens {α : Type} (P : Program) (t : TypeId) (d : Kd α) (G : α → Prop) : Prop :=
  d.sz = P.cellsOf t ∧ ∀ {H : Type} (enc : TypeId × Value → H) (w : World) (base fuel : Nat) (held : Bool) (cs : List Value) (x : DataW H × List MemPlace),
    DataW.trod enc P w base (fun _ => true) held fuel t cs = some x → ∃ a, d.K w a cs ∧ G a

theorem opens_int {P : Program} {t : TypeId} {k : IntKind} (ht : P.underlying t = some (.int k)) (hc : P.cellsOf t = 1) : Opens P t (Kd.int k) (fun n => (Lit.int k n).wf = true) :=
  ⟨hc.symm, fun enc w base fuel held cs x h => by
    obtain ⟨n, rfl, _, hw⟩ := DataW.trod_int ht h
    exact ⟨n, rfl, hw⟩⟩

theorem opens_bool {P : Program} {t : TypeId} (ht : P.underlying t = some .bool) (hc : P.cellsOf t = 1) : Opens P t Kd.bool (fun _ => True) :=
  ⟨hc.symm, fun enc w base fuel held cs x h => by
    obtain ⟨n, rfl, _⟩ := DataW.trod_bool ht h
    exact ⟨n, rfl, trivial⟩⟩

theorem opens_iso {α β : Type} {P : Program} {t : TypeId} {d : Kd α} {G : α → Prop} (f : β → α) (g : α → β) (hfg : ∀ a, f (g a) = a) (h : Opens P t d G) : Opens P t (Kd.iso d f) (fun b => G (f b)) :=
  ⟨h.1, fun enc w base fuel held cs x hx => by
    obtain ⟨a, hk, hg⟩ := h.2 enc w base fuel held cs x hx
    refine ⟨g a, ?_, ?_⟩
    · show d.K w (f (g a)) cs
      rw [hfg]; exact hk
    · show G (f (g a))
      rw [hfg]; exact hg⟩

theorem opens_imp {α : Type} {P : Program} {t : TypeId} {d : Kd α} {G G' : α → Prop} (h : Opens P t d G) (hi : ∀ a, G a → G' a) : Opens P t d G' :=
  ⟨h.1, fun enc w base fuel held cs x hx => by
    obtain ⟨a, hk, hg⟩ := h.2 enc w base fuel held cs x hx
    exact ⟨a, hk, hi a hg⟩⟩

/-- Fields from an offset on. -/
def OpensFrom {α : Type} (P : Program) (off : Nat) (fs : List Field) (d : Kd α) (G : α → Prop) : Prop :=
  ∀ {H : Type} (enc : TypeId × Value → H) (w : World) (base fuel : Nat) (held : Bool) (cs : List Value),
    (∀ f ∈ fs, ∃ y, DataW.trod enc P w base (fun _ => true) held fuel f.type ((cs.drop f.offset).take (P.cellsOf f.type)) = some y) → cs.length = off + d.sz → ∃ a, d.K w a (cs.drop off) ∧ G a

theorem from_last {α : Type} {P : Program} {off : Nat} {f : Field} {d : Kd α} {G : α → Prop} (ho : f.offset = off) (h : Opens P f.type d G) : OpensFrom P off [f] d G := by
  intro H enc w base fuel held cs hf hl
  obtain ⟨y, hy⟩ := hf f (by simp)
  rw [ho, ← h.1, List.take_of_length_le (by simp; omega)] at hy
  exact h.2 enc w base fuel held _ _ hy

theorem from_cons {α β : Type} {P : Program} {off : Nat} {f : Field} {fs : List Field} {d : Kd α} {e : Kd β} {G : α → Prop} {G' : β → Prop} (ho : f.offset = off) (h : Opens P f.type d G) (hr : OpensFrom P (off + d.sz) fs e G') :
    OpensFrom P off (f :: fs) (Kd.pair d e) (fun x => G x.1 ∧ G' x.2) := by
  intro H enc w base fuel held cs hf hl
  obtain ⟨y, hy⟩ := hf f (by simp)
  have hsz : (Kd.pair d e).sz = d.sz + e.sz := rfl
  rw [hsz] at hl
  rw [ho, ← h.1] at hy
  obtain ⟨a, ha, hga⟩ := h.2 enc w base fuel held _ _ hy
  obtain ⟨b, hb, hgb⟩ := hr enc w base fuel held cs (fun g hg => hf g (by simp [hg])) (by omega)
  refine ⟨(a, b), ⟨_, _, ?_, ha, hb⟩, hga, hgb⟩
  rw [← List.drop_drop, List.take_append_drop]

theorem opens_struct {α : Type} {P : Program} {t : TypeId} {fs : Array Field} {d : Kd α} {G : α → Prop} (ht : P.underlying t = some (.struct fs)) (hc : d.sz = P.cellsOf t) (h : OpensFrom P 0 fs.toList d G) : Opens P t d G :=
  ⟨hc, fun enc w base fuel held cs x hx => by
    obtain ⟨xs, n, rfl, rfl, hl, hlen, hf⟩ := DataW.trod_struct ht hx
    have := h enc w base n held cs (fun f hm => by
      obtain ⟨i, hi, rfl⟩ := List.getElem_of_mem hm
      have hi' : i < fs.size := by simpa using hi
      have e := hf i fs[i] (by simp [hi'])
      refine ⟨xs[i]'(by omega), ?_⟩
      have e2 : fs.toList[i] = fs[i] := by simp
      rw [e2, e, List.getElem?_eq_getElem (by omega)]) (by rw [hl, hc]; omega)
    simpa using this⟩

theorem rows_of {α : Type} {d : Kd α} {G : α → Prop} {w : World} {a : Addr} (m : Nat) (h : ∀ i, i < m → ∃ x c, d.K w x c ∧ G x ∧ ∀ j u, c[j]? = some u → w.cell? (a.add (i * d.sz + j)) = some u) :
    ∃ xs : List α, xs.length = m ∧ (∀ x ∈ xs, G x) ∧ ∀ j p, xs[j]? = some p → ∃ c, c.length = d.sz ∧ d.K w p c ∧ ∀ i u, c[i]? = some u → w.cell? (a.add (j * d.sz + i)) = some u := by
  induction m with
  | zero => exact ⟨[], rfl, by simp, by simp⟩
  | succ m ih =>
    obtain ⟨xs, hl, hg, hx⟩ := ih (fun i hi => h i (by omega))
    obtain ⟨x, c, hk, hgx, hc⟩ := h m (by omega)
    refine ⟨xs ++ [x], by simp [hl], ?_, ?_⟩
    · intro y hy
      rcases List.mem_append.1 hy with hy | hy
      · exact hg y hy
      · rw [List.mem_singleton.1 hy]; exact hgx
    · intro j p hj
      by_cases hjm : j < m
      · rw [List.getElem?_append_left (by omega)] at hj
        exact hx j p hj
      · have : j = m := by
          have := (List.getElem?_eq_some_iff.1 hj).1
          simp [hl] at this; omega
        subst this
        rw [List.getElem?_append_right (by omega), hl] at hj
        simp at hj
        subst hj
        exact ⟨c, d.K_len hk, hk, hc⟩

theorem opens_slice {α : Type} {P : Program} {t e : TypeId} {q : Nat} {d : Kd α} {G : α → Prop} (ht : P.underlying t = some (.slice e)) (hc : P.cellsOf t = 1) (he : Opens P e d G) :
    Opens P t (Kd.slice q d) (fun xs => xs.length ≤ maxLen ∧ ∀ x ∈ xs, G x) :=
  ⟨hc.symm, fun enc w base fuel held cs x h => by
    rcases open_slice ht h with ⟨rfl, _⟩ | ⟨a, len, cap, m, n, D, Pl, rfl, hb, hl, hm, hmm, _, hx⟩
    · exact ⟨[], ⟨none, 0, rfl, Nat.le_refl _, rfl, by simp, fun h => absurd h (by simp)⟩, by simp, by simp⟩
    · simp only [if_true] at hmm
      subst hmm
      obtain ⟨xs, hxl, hxg, hxc⟩ := rows_of (d := d) (G := G) (w := w) (a := a) len (fun i hi => by
        obtain ⟨cs', h1, h2⟩ := hx i (by omega)
        obtain ⟨y, hy, hg⟩ := he.2 enc w base n held _ _ h2
        obtain ⟨_, h4, h5⟩ := World.cells?_some h1
        refine ⟨y, cs', hy, hg, fun j u hu => ?_⟩
        have hj : j < P.cellsOf e := by rw [← h4]; exact (List.getElem?_eq_some_iff.1 hu).1
        have := h5 j hj
        rw [he.1, ← Deep.add_add, this, hu])
      have hml : m ≤ 9223372036854775807 := by unfold maxLen at hm; omega
      exact ⟨xs, ⟨some a, m, by rw [hxl], by omega, ⟨rfl, by omega, fun _ => ⟨a, rfl, hxc⟩⟩⟩, by omega, hxg⟩⟩

/-- A slice parameter. -/
theorem top_slice {α H : Type} {P : Program} {t e : TypeId} {d : Kd α} {G : List α → Prop} {enc : TypeId × Value → H} {w : World} {b0 base : Nat} {held : Bool} {r : Reach} {v : Value} {dd : DataW H} {ps : List MemPlace} (ht : P.underlying t = some (.slice e)) (h : Opens P t (Kd.slice e d) G)
    (hv : Value.okWide P w r b0 t v) (hd : DataW.Trod enc P w base (fun _ => true) held t v dd ps) : ∃ A c xs, v = .slice A xs.length c ∧ xs.length ≤ c ∧ d.C w A xs.length xs ∧ G xs := by
  obtain ⟨a, l, c, rfl⟩ := okWide_slice ht hv
  obtain ⟨fuel, hf⟩ := hd
  obtain ⟨xs, ⟨A, c', e1, hl, hC⟩, hg⟩ := h.2 enc w base fuel held _ _ hf
  simp [Value.cells] at e1
  obtain ⟨rfl, rfl, rfl⟩ := e1
  exact ⟨_, _, xs, rfl, hl, hC, hg⟩

/-- A struct parameter. -/
theorem top_struct {α H : Type} {P : Program} {t : TypeId} {fs : Array Field} {d : Kd α} {G : α → Prop} {enc : TypeId × Value → H} {w : World} {b0 base : Nat} {held : Bool} {r : Reach} {v : Value} {dd : DataW H} {ps : List MemPlace} (ht : P.underlying t = some (.struct fs)) (h : Opens P t d G)
    (hv : Value.okWide P w r b0 t v) (hd : DataW.Trod enc P w base (fun _ => true) held t v dd ps) : ∃ x cs, v = .agg cs ∧ d.K w x cs.toList ∧ G x := by
  obtain ⟨cs, rfl, _⟩ := okWide_struct ht hv
  obtain ⟨fuel, hf⟩ := hd
  obtain ⟨x, hk, hg⟩ := h.2 enc w base fuel held _ _ hf
  exact ⟨x, cs, rfl, hk, hg⟩
end Go.Proofs.Ytdpmigainnmegaa.Open
