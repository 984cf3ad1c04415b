/- The abstract run of a function and its soundness, part 5; no conditions. -/
import Derived.Test.YtmjflahlhgibnaaGreatDoorEng4
import Derived.Shelf.Strconv.Itoa3
import Derived.Shelf.Strings.OnBuilder
/- strconv.Itoa and strings.Join, off the shelf's contracts. -/
set_option linter.unusedVariables false
set_option linter.unusedSimpArgs false
namespace Go.Eng
open Go Go.Proofs Go.Shelf Go.Lib Go.RowKit Go.Sort
section
variable {κ : Nat → KT} {P : Program} {ρ : Ren}
def itoaB (κ : Nat → KT) (F : Int → Option ByteArray) (vs : List AV) (bs : List (Blk κ)) : Option (Lf κ) :=
  match vs, bs with
  | [.v (.int .i64 n)], [] => some ⟨ByteArray, F n, fun y => ⟨.v (.str y), [], []⟩⟩
  | _, _ => none
/-- A function of an integer that hands back a string. -/
theorem itoa_sound (hκ : ∀ k, (κ k).Ok) {f : FuncId} (henter : ∀ args w, (callFunc f args).run P w = .ok (.enter f args) w) (F : Int → Option ByteArray)
    (hC : ∀ (n : Int) (y : ByteArray) (w : World), F n = some y → (∀ p, (κ 0).pin = some p → ∃ o, w.heap[p.1]? = some o ∧ p.2 o) → Calls P f #[.int .i64 n] w fun e w' => e = .returned (.string y) ∧ ∃ q os, w' = grow (w.drewN q) os) :
    CSound P f (contract [.one .sc] (itoaB κ F)) := by
  refine csoundG hκ henter _ _ fun vs bs lf y hl hbd hy M0 w cargs hR hlive hsz hra => ?_
  unfold itoaB at hbd
  split at hbd
  case h_2 => cases hbd
  rename_i n
  obtain rfl := Option.some.inj hbd
  have hy : F n = some y := hy
  have hargs : cargs = #[.int .i64 n] := by
    apply Array.ext
    · rw [hsz]; rfl
    · intro j h1 h2
      obtain rfl : j = 0 := by simp at h2; omega
      exact hra 0 _ _ rfl (Array.getElem?_eq_getElem h1)
  rw [hargs]
  refine (hC n y w hy fun p hp => (hR.pin p hp).elim fun o h => ⟨o, h.1, h.2.1⟩).mono ?_
  rintro e w' ⟨rfl, q, os, rfl⟩
  have hch := changeG hκ (M := M0) (M' := M0) (H := hpOf []) (H' := hpOf []) (w := w) (w' := grow (w.drewN q) os) (fun _ => False) hR rfl rfl rfl (fun _ => Nat.le_add_right _ _) (by simp) (fun i hi _ => heap_grow_old _ _ (by simpa using hi))
    (fun n _ => ⟨rfl, rfl⟩) (fun _ _ h => h) (fun _ h => h.elim) (fun _ _ h => h.elim) (fun _ _ _ h => h.elim) (fun _ h => h.elim) (fun _ h => h.elim)
  exact ⟨.string y, M0, hpOf [], rfl, rfl, hch.1, (Fr.refl (m := 0) fun b hb => absurd hb (by omega)).step hch.2, rfl, (fun j x h => by simp at h), fun n _ => rfl⟩
def joinB (k : Nat) (κ : Nat → KT) (F : List (κ k).T → ByteArray → Option ByteArray) (vs : List AV) (bs : List (Blk κ)) : Option (Lf κ) :=
  match vs, bs with
  | [.v (.sl 0), .v (.str s)], [b0] => (asO k true b0).bind fun l => some ⟨ByteArray, F l s, fun y => ⟨.v (.str y), [.dead], []⟩⟩
  | _, _ => none
theorem flat_strs {k : KT} (toB : k.T → ByteArray) (henc : ∀ x, k.enc x = [.str (toB x)]) (l : List k.T) : flat k l = (l.map toB).map Value.string := by
  induction l with
  | nil => rfl
  | cons x l ih => rw [flat_cons, ih, henc]; rfl
/-- strings.Join: its row is given away. -/
theorem join_sound (hκ : ∀ k, (κ k).Ok) (hmono : (κ 0).mono = false) (L : Lays.n156 P ρ) (X : Builder.Extra P ρ) (henter : ∀ args w, (callFunc (ρ.f 156) args).run P w = .ok (.enter (ρ.f 156) args) w) (k : Nat) (hs1 : (κ k).sz = 1) (toB : (κ k).T → ByteArray) (henc : ∀ x, (κ k).enc x = [.str (toB x)])
    (F : List (κ k).T → ByteArray → Option ByteArray) (hF : ∀ l s y, F l s = some y → l.length ≤ 140737488355328 ∧ (Lib.join ((l.map toB).map (·.data.toList)) s.data.toList).length ≤ 140737488355328 ∧ y = ⟨(Lib.join ((l.map toB).map (·.data.toList)) s.data.toList).toArray⟩) :
    CSound P (ρ.f 156) (contract [.one (.rw k), .one .sc] (joinB k κ F)) := by
  refine csoundG hκ henter _ _ fun vs bs lf y hl hbd hy M0 w cargs hR hlive hsz hra => ?_
  unfold joinB at hbd
  split at hbd
  case h_2 => cases hbd
  rename_i s b0
  obtain ⟨l, rfl, hbd1⟩ := asO_bind hbd
  obtain rfl := Option.some.inj hbd1
  have hB : w.ownsRow 0 (κ k).ty (κ k).sz (M0 0) l.length (flat (κ k) l) := hR.blk 0
  obtain ⟨f1, f2, hyv⟩ := hF l s y hy
  have hargs : cargs = #[M0 0, .string s] := by
    have hsz' : cargs.size = 2 := hsz
    apply Array.ext
    · rw [hsz']; rfl
    · intro j h1 h2
      have : j = 0 ∨ j = 1 := by simp at h2; omega
      rcases this with rfl | rfl
      · exact hra 0 _ _ rfl (Array.getElem?_eq_getElem h1)
      · exact hra 1 _ _ rfl (Array.getElem?_eq_getElem h1)
  rw [hargs]
  have hone : (M0 0).oneCell' = true := by rcases hB.2 with ⟨h1, _⟩ | ⟨g, cap, cur, h1, _⟩ <;> rw [h1] <;> rfl
  have hC : Calls P (ρ.f 156) #[M0 0, .string s] w fun e w' => e = .returned (.string y) ∧ Below w.heap.size w w' := by
    have hfl := flat_strs toB henc l
    rcases hB.2 with ⟨h1, h0⟩ | ⟨g, cap, cur, h1, _, hb, hn, hc, hcs, ht⟩
    · have hl0 : l = [] := List.eq_nil_of_length_eq_zero h0
      subst hl0
      rw [h1]
      refine (Any.strings_Join_none L X none 0 s w).mono fun e w' h => ⟨?_, by rw [h.2]; exact Below.refl _ _⟩
      rw [h.1, hyv]
      rfl
    · have hlen : (l.map toB).length = l.length := by simp
      have hcell := hB.cells (g := g) (by rw [h1]; rfl)
      rw [h1, ← hlen]
      refine (Any.strings_Join L X g 0 cap (l.map toB) s w (fun j x hj => ?_) (Array.getElem?_eq_some_iff.1 hb).1 (by omega) (by omega) f2).mono fun e w' h => ⟨by rw [h.1, hyv], h.2⟩
      have h3 : (flat (κ k) l)[j]? = some (.string x) := by rw [hfl, List.getElem?_map, hj]; rfl
      have h4 := hcell j _ h3
      rwa [Addr.add_lit] at h4
  refine hC.mono ?_
  rintro e w' ⟨rfl, hbe⟩
  have hch := changeG hκ (M := M0) (M' := M0) (H := hpOf [.rows k true l]) (H' := hpOf [.dead]) (w := w) (w' := w') (fun n => n = 0) hR hbe.os hbe.tape hbe.output (fun q => by rw [hmono] at q; cases q) hbe.size (fun i hi _ => hbe.block i hi)
    (fun n hn => by
      refine ⟨?_, rfl⟩
      cases n with
      | zero => exact absurd rfl hn
      | succ n => rfl)
    (fun x c hx => by
      cases x with
      | sl b =>
        match b, hx with
        | 0, hx =>
          obtain rfl : c = M0 0 := hx
          exact hone
        | b + 1, hx => exact hx.elim
      | ptr b i j =>
        match b, hx with
        | 0, hx =>
          obtain ⟨_, a, n, cap, _, rfl⟩ := hx
          rfl
        | b + 1, hx => exact hx.elim
      | _ => exact hx)
    (fun n hn => by subst hn; trivial)
    (fun n g hn hf => by subst hn; cases hf)
    (fun n n' g hn hn' hne => absurd (hn.trans hn'.symm) hne)
    (fun _ _ _ => rfl)
    (fun n hn => by subst hn; exact .inl rfl)
  refine ⟨.string y, M0, hpOf [.dead], rfl, rfl, hch.1, (Fr.refl (m := 1) fun b hb => ?_).step hch.2, rfl, (fun j x h => by simp at h), fun n hn => ?_⟩
  · obtain rfl : b = 0 := by omega
    intro h
    cases h
  · cases n with
    | zero => simp [flags, flP, flL] at hn
    | succ n => rfl
end
def itoaS (n : Int) : Option ByteArray := bif decide (0 ≤ n ∧ n < 100) then some ⟨(Lib.decDigits n.toNat).toArray⟩ else none
theorem itoaS_calls {P : Program} {ρ : Ren} (L : Lays.n171 P ρ) (n : Int) (y : ByteArray) (w : World) (h : itoaS n = some y) : Calls P (ρ.f 171) #[.int .i64 n] w fun e w' => e = .returned (.string y) ∧ ∃ q os, w' = grow (w.drewN q) os := by
  unfold itoaS at h
  cases hd : decide (0 ≤ n ∧ n < 100) with
  | false => rw [hd] at h; cases h
  | true =>
    rw [hd] at h
    obtain rfl := Option.some.inj h
    obtain ⟨h1, h2⟩ := of_decide_eq_true hd
    obtain ⟨i, rfl⟩ := Int.eq_ofNat_of_zero_le h1
    refine (Any.strconv_Itoa_small L i (by omega) w).mono fun e w' h => ⟨h.1, 0, #[], ?_⟩
    rw [h.2, grow_empty]
    rfl
/-- With the table: every integer. -/
def itoaV (n : Int) : Option ByteArray := bif decide (-9223372036854775808 ≤ n ∧ n ≤ 9223372036854775807) then some ⟨(Lib.itoa n).toArray⟩ else none
def tabPin (g : Nat) : Nat × (Obj → Prop) := (g, fun o => ∃ t fr, o = .cells (Lib.pow10Tab.map fun z => Value.int .u64 z).toArray t fr)
theorem itoaV_calls {κ : Nat → KT} {P : Program} {ρ : Ren} (L : LaysM.n171 P ρ) {g : Nat} (hg : P.globalNamed "internal/strconv.uint64pow10" = some g) (hk : (κ 0).pin = some (tabPin g)) (n : Int) (y : ByteArray) (w : World) (h : itoaV n = some y)
    (hp : ∀ p, (κ 0).pin = some p → ∃ o, w.heap[p.1]? = some o ∧ p.2 o) : Calls P (ρ.f 171) #[.int .i64 n] w fun e w' => e = .returned (.string y) ∧ ∃ q os, w' = grow (w.drewN q) os := by
  unfold itoaV at h
  cases hd : decide (-9223372036854775808 ≤ n ∧ n ≤ 9223372036854775807) with
  | false => rw [hd] at h; cases h
  | true =>
    rw [hd] at h
    obtain rfl := Option.some.inj h
    obtain ⟨h1, h2⟩ := of_decide_eq_true hd
    obtain ⟨o, h3, t, fr, rfl⟩ := hp _ hk
    refine Any.strconv_Itoa L n h1 h2 w ?_
    unfold Lib.TabIs World.var?
    rw [hg]
    have h3 : w.heap[g]? = _ := h3
    simp only [Option.bind_some, h3]
def joinF (l : List ByteArray) (s : ByteArray) : Option ByteArray :=
  bif decide (l.length ≤ 140737488355328 ∧ (Lib.join (l.map (·.data.toList)) s.data.toList).length ≤ 140737488355328) then some ⟨(Lib.join (l.map (·.data.toList)) s.data.toList).toArray⟩ else none
theorem joinF_ok : ∀ l s y, joinF l s = some y → l.length ≤ 140737488355328 ∧ (Lib.join ((l.map fun x => x).map (·.data.toList)) s.data.toList).length ≤ 140737488355328 ∧ y = ⟨(Lib.join ((l.map fun x => x).map (·.data.toList)) s.data.toList).toArray⟩ := fun l s y h => by
  unfold joinF at h
  rw [show (l.map fun x => x) = l by simp]
  cases hd : decide (l.length ≤ 140737488355328 ∧ (Lib.join (l.map (·.data.toList)) s.data.toList).length ≤ 140737488355328) with
  | false => rw [hd] at h; cases h
  | true =>
    rw [hd] at h
    exact ⟨(of_decide_eq_true hd).1, (of_decide_eq_true hd).2, (Option.some.inj h).symm⟩
end Go.Eng
