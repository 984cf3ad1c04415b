/- The abstract run of a function and its soundness, part 2; no conditions. -/
import Derived.Test.YtmjflahlhgibnaaGreatDoorEng1
import Derived.Deep.Slices
import Derived.ChangeArms
import Derived.RowKit
import Derived.WideShapes
import Derived.WalkKit
import Derived.ProofKit
import Derived.OpenShut
import Derived.ShutString
import Derived.ChangeOld
import Derived.Below
import Derived.SizedLaws
import Derived.Lib.SliceRun
/- Regions: the machine does what the abstract run says, in the text's order or in any that it draws. -/
set_option linter.unusedVariables false
set_option linter.unusedSimpArgs false
namespace Go.Eng
open Go
section
variable {κ : Nat → KT} {P : Program} {ti : TypeId → Option TI} {Γ : Ct κ}
/-- From (M0, H0, w0) on, the world of the function's entry, m blocks of which came in. -/
structure Fr (M0 : Mu) (H0 : Hp κ) (w0 : World) (m : Nat) (M : Mu) (H : Hp κ) (w : World) : Prop where
  os : w.os = w0.os
  tape : w.tape = w0.tape
  output : w.output = w0.output
  drawn : (κ 0).mono = true → w0.drawn ≤ w.drawn
  size : w0.heap.size ≤ w.heap.size
  frame : ∀ i, i < w0.heap.size → (∀ b, ownB (H0 b) = true → ft M0 H0 b ≠ some i) → w.heap[i]? = w0.heap[i]?
  orig : ∀ b i, ownB (H b) = true → ft M H b = some i → i < w0.heap.size → ∃ b0, ownB (H0 b0) = true ∧ ft M0 H0 b0 = some i
  same : ∀ b, b < m → M b = M0 b ∧ BS (H0 b) (H b) ∧ H0 b ≠ .fresh
theorem Fr.refl {M0 : Mu} {H0 : Hp κ} {w0 : World} {m : Nat} (h : ∀ b, b < m → H0 b ≠ .fresh) : Fr M0 H0 w0 m M0 H0 w0 :=
  ⟨rfl, rfl, rfl, fun _ => Nat.le_refl _, Nat.le_refl _, fun _ _ _ => rfl, fun b i h1 h2 _ => ⟨b, h1, h2⟩, fun b hb => ⟨rfl, BS.refl _, h b hb⟩⟩
theorem Fr.step {M0 M M' : Mu} {H0 H H' : Hp κ} {w0 w w' : World} {m : Nat} (h : Fr M0 H0 w0 m M H w) (k : Step M H w M' H' w') : Fr M0 H0 w0 m M' H' w' :=
  ⟨k.os.trans h.os, k.tape.trans h.tape, k.output.trans h.output, fun q => Nat.le_trans (h.drawn q) (k.drawn q), Nat.le_trans h.size k.size,
   fun i hi hn => (k.frame i (Nat.lt_of_lt_of_le hi h.size) (fun b ho hf => by
     obtain ⟨b0, h1, h2⟩ := h.orig b i ho hf hi
     exact hn b0 h1 h2)).trans (h.frame i hi hn),
   fun b i h1 h2 hi => by
     obtain ⟨b1, h3, h4⟩ := k.orig b i h1 h2 (Nat.lt_of_lt_of_le hi h.size)
     exact h.orig b1 i h3 h4 hi,
   fun b hb => by
     obtain ⟨h1, h2, h3⟩ := h.same b hb
     exact ⟨(k.same b (h2.live h3)).trans h1, h2.trans (k.bs b), h3⟩⟩
/-- The machine's state stands for the abstract one; from (M0, H0, w0) on it has come by allowed steps. -/
structure Rl (M0 : Mu) (H0 : Hp κ) (w0 : World) (m N : Nat) (s : S2 κ) (a : Act) (w : World) : Prop where
  ex : ∃ M, RE M s.2 s.1 a.tmps ∧ RH M s.2 w ∧ Fr M0 H0 w0 m M s.2 w
  defers : a.defers = []
  size : a.tmps.size = N
theorem Act.put_defers' (a : Act) (d : Option Tmp) (c : Value) : (a.put d c).defers = a.defers := by cases d <;> rfl
theorem put_size (a : Act) (d : Option Tmp) (c : Value) : (a.put d c).tmps.size = a.tmps.size := by cases d <;> simp [Act.put]
theorem RE_put {M M' : Mu} {H H' : Hp κ} {e : En} {a : Act} {v : AV} {c : Value} (d : Option Tmp) (hd : ∀ t, d = some t → t < a.tmps.size) (hE : RE M H e a.tmps) (hk : ∀ x c, RL M H x c → RL M' H' x c) (hv : RA M' H' v c) :
    RE M' H' (putE e d v) (a.put d c).tmps := by
  cases d with
  | none => exact keepE hk hE
  | some d =>
    intro t
    have hlt := hd d rfl
    by_cases htd : t = d
    · subst htd
      have e1 : putE e (some t) v t = v := by simp [putE, updE]
      have e2 : (a.put (some t) c).tmps.getD t undef = c := by simp [Act.put, hlt]
      rw [e1, e2]; exact hv
    · have e1 : putE e (some d) v t = e t := by simp [putE, updE, beqN htd]
      have e2 : (a.put (some d) c).tmps.getD t undef = a.tmps.getD t undef := by simp [Act.put, Array.getElem?_setIfInBounds_ne (Ne.symm htd)]
      rw [e1, e2]; exact keepA hk (hE t)
theorem wanted_rel {M : Mu} {H : Hp κ} {e : En} {a : Act} {ops : Array Oper} {o : Oper} {b : Bool} (hE : RE M H e a.tmps) (h : wantA ops.toList e o = some b) : Region.wanted o (yielded ops a.tmps) = b := by
  unfold wantA at h
  unfold Region.wanted
  split at h
  · rename_i hg; rw [hg]; simpa using h.symm
  · rename_i j want hg
    rw [hg]
    simp only
    split at h
    · rename_i t ht
      split at h
      · rename_i q hq
        have h1 := hE t
        rw [hq] at h1
        have h1 : a.tmps.getD t undef = .bool q := h1
        have h2 : a.tmps[t]? = some (.bool q) := by
          rw [Array.getD_eq_getD_getElem?] at h1
          cases hx : a.tmps[t]? with
          | none => rw [hx] at h1; cases h1
          | some x => rw [hx] at h1; simp at h1; rw [h1]
        have h3 : (ops[j]?).bind (·.dst) = some t := by
          unfold gslot at ht
          rw [Array.getElem?_toList] at ht
          cases ho : ops[j]? with
          | none => rw [ho] at ht; cases ht
          | some o' => rw [ho] at ht; simpa using ht
        have hy : yielded ops a.tmps j = some q := by
          unfold yielded
          rw [h3, Option.bind_some, h2]
        rw [hy]
        obtain rfl : (q == want) = b := by simpa using h
        cases q <;> cases want <;> rfl
      · rename_i hq
        have h1 := hE t
        rw [hq] at h1
        obtain ⟨arr, h1, h2, _⟩ := h1
        have h3 : (ops[j]?).bind (·.dst) = some t := by
          unfold gslot at ht
          rw [Array.getElem?_toList] at ht
          cases ho : ops[j]? with
          | none => rw [ho] at ht; cases ht
          | some o' => rw [ho] at ht; simpa using ht
        have hy : yielded ops a.tmps j = none := by
          unfold yielded
          rw [h3, Option.bind_some]
          rw [Array.getD_eq_getD_getElem?] at h1
          cases hx : a.tmps[t]? with
          | none => rfl
          | some x => rw [hx] at h1; simp at h1; rw [h1]
        rw [hy]
        obtain rfl : false = b := by simpa using h
        rfl
      · cases h
    · cases h
section
variable {M0 : Mu} {H0 : Hp κ} {w0 : World} {m N : Nat}
theorem step_one (hκ : ∀ k, (κ k).Ok) (tok : ∀ t x, ti t = some x → TypeOK P κ t x) (hΓ : ∀ f g, Γ f = some g → CSound P f g) {ops : Array Oper} {nx i : Nat} {o : Oper} (hi : ops[i]? = some o)
    (hd : ∀ t, o.dst = some t → t < N) {s s' : S2 κ} {f : Fp} (h : exO ti Γ ops.toList nx i o s = some (s', f)) {a : Act} {w : World} (hR : Rl M0 H0 w0 m N s a w) {K : Act → World → Prop} {Q : Exit → Act → World → Prop}
    (hK : ∀ a' w', Rl M0 H0 w0 m N s' a' w' → K a' w') : wpOp P ops Q i K a w := by
  obtain ⟨⟨M, hE, hH, hS⟩, hdf, hsz⟩ := hR
  unfold wpOp
  rw [hi]
  simp only
  unfold exO at h
  split at h
  · rename_i hw
    rw [if_pos (wanted_rel hE hw)]
    left
    obtain ⟨q, hq, he⟩ := Option.map_eq_some_iff.1 h
    have hrun : (aop ti Γ (nx + 32 * i) s.1 o.op).run s.2 [] [] (fun v h rs ws => some (v, h, rs, ws)) = some q := by
      rw [run_exec, hq]; simp
    obtain ⟨v, H', rs, ws, hKq, hok⟩ := sim_op hκ tok hΓ hE hH hrun
    obtain rfl : (v, H', rs, ws) = q := by simpa using hKq
    simp only [Prod.mk.injEq] at he
    obtain ⟨rfl, _⟩ := he
    refine hok.wp fun c w' hc => ?_
    obtain ⟨M', hv, hH', hS'⟩ := hc
    exact hK _ _ ⟨⟨M', RE_put o.dst (fun t ht => by rw [hsz]; exact hd t ht) hE hS'.keep hv, hH', hS.step hS'⟩, by rw [Act.put_defers']; exact hdf, by rw [put_size]; exact hsz⟩
  · rename_i hw
    rw [wanted_rel hE hw]
    simp only [Option.some.injEq, Prod.mk.injEq] at h
    obtain ⟨rfl, _⟩ := h
    simp only [Bool.false_eq_true, if_false]
    exact hK _ _ ⟨⟨M, RE_put o.dst (fun t ht => by rw [hsz]; exact hd t ht) hE (fun _ _ h => h) ⟨#[], rfl, rfl, fun j p u h1 _ => by simp at h1⟩, hH, hS⟩, by rw [Act.put_defers']; exact hdf, by rw [put_size]; exact hsz⟩
  · cases h
/-- In the text's order. -/
theorem lex_wp (hκ : ∀ k, (κ k).Ok) (tok : ∀ t x, ti t = some x → TypeOK P κ t x) (hΓ : ∀ f g, Γ f = some g → CSound P f g) {ops : Array Oper} {nx : Nat} {Q : Exit → Act → World → Prop} :
    ∀ (os : List Oper) (i : Nat) (s s' : S2 κ) (fs : List Fp), (∀ j, os[j]? = ops[i + j]?) → (∀ o ∈ os, ∀ t, o.dst = some t → t < N) → lexR ti Γ ops.toList nx os i s = some (s', fs) →
      (∀ a w, Rl M0 H0 w0 m N s' a w → Q .normal a w) → ∀ a w, Rl M0 H0 w0 m N s a w → wpOps P ops Q (List.range' i os.length) a w
  | [], i, s, s', fs, hj, hd, h, hQ, a, w, hR => by
    simp only [lexR, Option.some.injEq, Prod.mk.injEq] at h
    obtain ⟨rfl, _⟩ := h
    simpa [wpOps] using hQ a w hR
  | o :: os, i, s, s', fs, hj, hd, h, hQ, a, w, hR => by
    simp only [lexR] at h
    obtain ⟨q, hq, h⟩ := Option.bind_eq_some_iff.1 h
    obtain ⟨q', hq', h⟩ := Option.map_eq_some_iff.1 h
    simp only [Prod.mk.injEq] at h
    obtain ⟨rfl, _⟩ := h
    rw [List.length_cons, List.range'_succ, wpOps_cons]
    have h0 : ops[i]? = some o := by simpa using (hj 0).symm
    refine step_one hκ tok hΓ h0 (hd o (by simp)) (s' := q.1) (f := q.2) hq hR fun a' w' hR' => ?_
    exact lex_wp hκ tok hΓ os (i + 1) q.1 q'.1 q'.2 (fun j => by have := hj (j + 1); simpa [Nat.add_assoc, Nat.add_comm 1 j] using this) (fun o' ho' => hd o' (by simp [ho'])) hq' hQ a' w' hR'

/-! ### any order -/
def anyA (ti : TypeId → Option TI) (Γ : Ct κ) (ops : Array Oper) (nx : Nat) (F : Nat → Fp) (K : S2 κ → Prop) : Nat → Array Bool → S2 κ → Prop
  | 0, listed, s => Region.ready .any ops listed = [] ∧ K s
  | fuel + 1, listed, s => (Region.ready .any ops listed = [] → K s) ∧
    ∀ i ∈ Region.ready .any ops listed, ∀ o, ops[i]? = some o → ∃ s1, exO ti Γ ops.toList nx i o s = some (s1, F i) ∧ anyA ti Γ ops nx F K fuel (listed.setIfInBounds i true) s1
theorem any_wp (hκ : ∀ k, (κ k).Ok) (tok : ∀ t x, ti t = some x → TypeOK P κ t x) (hΓ : ∀ f g, Γ f = some g → CSound P f g) {ops : Array Oper} {nx : Nat} {F : Nat → Fp} {K : S2 κ → Prop} {Q : Exit → Act → World → Prop}
    (hd : ∀ o ∈ ops.toList, ∀ t, o.dst = some t → t < N) (hQ : ∀ s a w, K s → Rl M0 H0 w0 m N s a w → Q .normal a w) :
    ∀ (fuel : Nat) (listed : Array Bool) (s : S2 κ), anyA ti Γ ops nx F K fuel listed s → ∀ a w, Rl M0 H0 w0 m N s a w → wpAny P .any ops Q fuel listed a w
  | 0, listed, s, h, a, w, hR => ⟨h.1, hQ s a w h.2 hR⟩
  | fuel + 1, listed, s, h, a, w, hR => ⟨fun h0 => hQ s a w (h.1 h0) hR, fun i hi => by
      obtain ⟨_, o, ho, _⟩ := mem_ready.1 hi
      obtain ⟨s1, h1, h2⟩ := h.2 i hi o ho
      exact step_one hκ tok hΓ ho (hd o (List.mem_of_getElem? (by simpa using ho))) h1 hR fun a' w' hR' => any_wp hκ tok hΓ hd hQ fuel _ s1 h2 a' w' hR'⟩
theorem disj_spec : ∀ {xs ys : List Nat}, disj xs ys = true → ∀ b ∈ xs, b ∉ ys
  | [], _, _, b, hb => by cases hb
  | x :: xs, ys, h, b, hb => by
    simp only [disj, Bool.and_eq_true, Bool.not_eq_true'] at h
    cases hb with
    | head =>
      intro hy
      have : ys.any (Nat.beq x) = true := List.any_eq_true.2 ⟨x, hy, by simp⟩
      rw [this] at h; exact absurd h.1 (by simp)
    | tail _ hb => exact disj_spec h.2 b hb
theorem putE_comm (e : En) {x y : Option Nat} (v u : AV) (h : ∀ d, x = some d → y ≠ some d) : putE (putE e x v) y u = putE (putE e y u) x v := by
  cases x with
  | none => rfl
  | some d =>
    cases y with
    | none => rfl
    | some d' =>
      have hne : d ≠ d' := fun e => h d rfl (by rw [e])
      funext n
      simp only [putE, updE]
      cases h1 : Nat.beq n d' with
      | true =>
        have h2 : Nat.beq n d = false := beqN (by have := Nat.eq_of_beq_eq_true h1; omega)
        rw [h2]; rfl
      | false => cases Nat.beq n d <;> rfl
theorem evO_put {e : En} {x : Option Nat} {v : AV} {q : Operand} (h : ∀ d, x = some d → q ≠ .tmp d) : evO (putE e x v) q = evO e q := by
  cases x with
  | none => rfl
  | some d =>
    cases q with
    | tmp t =>
      have hne : t ≠ d := fun e => h d rfl (by rw [e])
      simp [evO, putE, updE, beqN hne]
    | _ => rfl
theorem any_beq {l : List Nat} {d : Nat} (h : (!(l.any (Nat.beq d))) = true) : d ∉ l := by
  intro hd
  have : l.any (Nat.beq d) = true := List.any_eq_true.2 ⟨d, hd, by simp⟩
  rw [this] at h; cases h
theorem tApart_spec {ops : List Oper} {x y : Oper} (h : tApart ops x y = true) :
    (∀ d, x.dst = some d → d ∉ looks ops y) ∧ (∀ d, x.dst = some d → y.dst ≠ some d) ∧ (∀ d, y.dst = some d → d ∉ looks ops x) := by
  unfold tApart at h
  obtain ⟨h1, h2⟩ := allOne_of_beq h
  refine ⟨fun d hd => ?_, fun d hd hy => ?_, fun d hd => ?_⟩
  · rw [hd] at h1; exact any_beq (allOne_of_beq h1).1
  · rw [hd, hy] at h1
    have := (allOne_of_beq h1).2
    simp at this
  · rw [hd] at h2; exact any_beq h2
theorem looks_op {ops : List Oper} {o : Oper} {x : Operand} (hx : x ∈ o.op.operands) {d : Nat} (hd : d ∉ looks ops o) : x ≠ .tmp d := by
  rintro rfl
  exact hd (List.mem_append_left _ (List.mem_filterMap.2 ⟨.tmp d, by simpa using hx, rfl⟩))
theorem wantA_put {ops : List Oper} {o : Oper} {e : En} {x : Option Nat} {v : AV} (h : ∀ d, x = some d → d ∉ looks ops o) : wantA ops (putE e x v) o = wantA ops e o := by
  cases x with
  | none => rfl
  | some d =>
    unfold wantA
    cases hg : o.guard with
    | none => rfl
    | some gw =>
      obtain ⟨j, want⟩ := gw
      simp only
      cases ht : gslot ops j with
      | none => rfl
      | some t =>
        have hne : t ≠ d := fun e => h d rfl (by simp [looks, hg, ht, e])
        simp only [putE, updE, beqN hne, cond_false]
/-- Two operations that have nothing to do with each other may come in either order. -/
theorem exO_comm {ops : List Oper} {nx i j : Nat} {oi oj : Oper} (ht : tApart ops oi oj = true) {fi fj : Fp} (hf : fpApart fi fj = true) {s s1 s12 : S2 κ}
    (h1 : exO ti Γ ops nx i oi s = some (s1, fi)) (h2 : exO ti Γ ops nx j oj s1 = some (s12, fj)) : ∃ s2, exO ti Γ ops nx j oj s = some (s2, fj) ∧ exO ti Γ ops nx i oi s2 = some (s12, fi) := by
  obtain ⟨t1, t2, t3⟩ := tApart_spec ht
  have hf' : disj fi.ws fj.ws = true ∧ disj fi.ws fj.rs = true ∧ disj fi.rs fj.ws = true := by
    simpa [fpApart, and_assoc] using hf
  obtain ⟨d1, d2, d3⟩ := hf'
  have d1 := disj_spec d1; have d2 := disj_spec d2; have d3 := disj_spec d3
  -- both operations as (value, heap, footprint) at a state
  have form : ∀ {n : Nat} {o : Oper} {s s' : S2 κ} {f : Fp}, exO ti Γ ops nx n o s = some (s', f) → ∃ v h, s' = (putE s.1 o.dst v, h) ∧
      ((wantA ops s.1 o = some true ∧ (aop ti Γ (nx + 32 * n) s.1 o.op).exec s.2 = some (v, h, f.rs, f.ws)) ∨ (wantA ops s.1 o = some false ∧ v = .tup [] ∧ h = s.2 ∧ f = ⟨[], []⟩)) := by
    intro n o s s' f h
    unfold exO at h
    split at h
    · rename_i hw
      obtain ⟨q, hq, he⟩ := Option.map_eq_some_iff.1 h
      simp only [Prod.mk.injEq] at he
      obtain ⟨rfl, rfl⟩ := he
      exact ⟨q.1, q.2.1, rfl, .inl ⟨hw, hq⟩⟩
    · rename_i hw
      simp only [Option.some.injEq, Prod.mk.injEq] at h
      obtain ⟨rfl, rfl⟩ := h
      exact ⟨_, _, rfl, .inr ⟨hw, rfl, rfl, rfl⟩⟩
    · cases h
  obtain ⟨vi, hi, rfl, ci⟩ := form h1
  obtain ⟨vj, hj, rfl, cj⟩ := form h2
  have ej : ∀ v, aop ti Γ (nx + 32 * j) (putE s.1 oi.dst v) oj.op = aop ti Γ (nx + 32 * j) s.1 oj.op := fun v => aop_congr oj.op fun x hx => evO_put fun d hd => looks_op hx (t1 d hd)
  have ei : ∀ v, aop ti Γ (nx + 32 * i) (putE s.1 oj.dst v) oi.op = aop ti Γ (nx + 32 * i) s.1 oi.op := fun v => aop_congr oi.op fun x hx => evO_put fun d hd => looks_op hx (t3 d hd)
  have wj : ∀ v, wantA ops (putE s.1 oi.dst v) oj = wantA ops s.1 oj := fun v => wantA_put t1
  have wi : ∀ v, wantA ops (putE s.1 oj.dst v) oi = wantA ops s.1 oi := fun v => wantA_put t3
  have pc : ∀ v u, putE (putE s.1 oi.dst v) oj.dst u = putE (putE s.1 oj.dst u) oi.dst v := fun v u => putE_comm s.1 v u t2
  simp only at cj
  rw [wj] at cj
  -- the heaps
  have hagree : ∀ b, b ∉ fi.ws → hi b = s.2 b := by
    rcases ci with ⟨_, ci⟩ | ⟨_, _, rfl, _⟩
    · intro b hb
      obtain ⟨h2', _, _, h4⟩ := exec_det _ _ s.2 _ _ _ _ ci (fun _ _ => rfl)
      exact (h4 b hb).2
    · intro b _; rfl
  rcases cj with ⟨cw, cj⟩ | ⟨cw, rfl, rfl, rfl⟩
  · rw [ej] at cj
    obtain ⟨g2, g3, g4, g5⟩ := exec_det _ hi s.2 _ _ _ _ cj (fun b hb => hagree b (fun hw => d2 b hw hb))
    refine ⟨(putE s.1 oj.dst vj, g2), by simp only [exO, cw, g3, Option.map_some], ?_⟩
    rcases ci with ⟨dw, ci⟩ | ⟨dw, rfl, rfl, rfl⟩
    · obtain ⟨k2, k3, k4, k5⟩ := exec_det _ s.2 g2 _ _ _ _ ci (fun b hb => ((g5 b (d3 b hb)).1).symm)
      simp only [exO, wi, dw, ei, k3, Option.map_some, Option.some.injEq, Prod.mk.injEq, and_true, pc, true_and]
      funext b
      by_cases hbi : b ∈ fi.ws
      · rw [k4 b hbi, (g5 b (d1 b hbi)).2]
      · rw [(k5 b hbi).1]
        by_cases hbj : b ∈ fj.ws
        · exact g4 b hbj
        · rw [(g5 b hbj).1, (g5 b hbj).2, hagree b hbi]
    · simp only [exO, wi, dw, pc, Option.some.injEq, Prod.mk.injEq, and_true, true_and]
      funext b
      by_cases hbj : b ∈ fj.ws
      · exact g4 b hbj
      · rw [(g5 b hbj).1, (g5 b hbj).2]
  · refine ⟨(putE s.1 oj.dst (.tup []), s.2), by simp only [exO, cw], ?_⟩
    rcases ci with ⟨dw, ci⟩ | ⟨dw, rfl, rfl, rfl⟩
    · simp only [exO, wi, dw, ei, ci, Option.map_some, pc]
    · simp only [exO, wi, dw, pc]
end
end
end Go.Eng

/- Regions: any order comes to what the text's order comes to. -/
set_option linter.unusedVariables false
set_option linter.unusedSimpArgs false
namespace Go.Eng
open Go
section
variable {κ : Nat → KT} {P : Program} {ti : TypeId → Option TI} {Γ : Ct κ}
theorem mask_fold (ms : List Nat) (i : Nat) : ∀ (es : List Edge) (m : Nat), Nat.testBit (es.foldl (fun m e => bif Region.binds .any e then (m ||| (1 <<< e.on)) ||| (ms.getD e.on 0) else m) m) i = true →
    Nat.testBit m i = true ∨ ∃ e ∈ es, Region.binds .any e = true ∧ (e.on = i ∨ Nat.testBit (ms.getD e.on 0) i = true)
  | [], m, h => .inl h
  | e :: es, m, h => by
    rw [List.foldl_cons] at h
    rcases mask_fold ms i es _ h with h | ⟨e', he', h⟩
    · cases hb : Region.binds .any e with
      | false => rw [hb] at h; exact .inl h
      | true =>
        rw [hb] at h
        simp only [cond_true, Nat.testBit_or, Bool.or_eq_true] at h
        rcases h with (h | h) | h
        · exact .inl h
        · right
          refine ⟨e, by simp, hb, .inl ?_⟩
          rw [Nat.testBit_shiftLeft] at h
          simp only [Bool.and_eq_true, decide_eq_true_eq, Nat.testBit_one_eq_true_iff_self_eq_zero] at h
          omega
        · exact .inr ⟨e, by simp, hb, .inr h⟩
    · exact .inr ⟨e', by simp [he'], h⟩
theorem befM_pre : ∀ (os : List Oper) (ms : List Nat) (j : Nat), j < ms.length → (befM os ms).getD j 0 = ms.getD j 0
  | [], ms, j, h => rfl
  | o :: os, ms, j, h => by
    show (befM os (ms ++ [maskOf ms o])).getD j 0 = _
    rw [befM_pre os _ j (by simp; omega)]
    simp only [List.getD_eq_getElem?_getD]
    rw [List.getElem?_append_left h]
theorem befM_len : ∀ (os : List Oper) (ms : List Nat), (befM os ms).length = ms.length + os.length
  | [], ms => by simp [befM]
  | o :: os, ms => by simp only [befM]; rw [befM_len os]; simp; omega
theorem befM_spec : ∀ (os : List Oper) (ms : List Nat) (j i : Nat), ms.length ≤ j → Nat.testBit ((befM os ms).getD j 0) i = true →
    ∃ o, os[j - ms.length]? = some o ∧ ∃ e ∈ o.after, Region.binds .any e = true ∧ (e.on = i ∨ Nat.testBit ((befM os ms).getD e.on 0) i = true)
  | [], ms, j, i, hj, h => by
    simp only [befM, List.getD_eq_getElem?_getD] at h
    rw [List.getElem?_eq_none (by omega)] at h
    simp at h
  | o :: os, ms, j, i, hj, h => by
    have hb : befM (o :: os) ms = befM os (ms ++ [maskOf ms o]) := rfl
    rw [hb] at h ⊢
    by_cases hjm : j = ms.length
    · subst hjm
      rw [befM_pre os _ _ (by simp)] at h
      have hm : (ms ++ [maskOf ms o]).getD ms.length 0 = maskOf ms o := by simp [List.getD_eq_getElem?_getD]
      rw [hm] at h
      refine ⟨o, by simp, ?_⟩
      rcases mask_fold ms i _ _ h with h | ⟨e, he, hbn, h⟩
      · simp at h
      · refine ⟨e, Array.mem_toList_iff.1 he, hbn, ?_⟩
        rcases h with h | h
        · exact .inl h
        · right
          have hlt : e.on < ms.length := by
            rcases Nat.lt_or_ge e.on ms.length with hh | hh
            · exact hh
            · simp only [List.getD_eq_getElem?_getD] at h; rw [List.getElem?_eq_none hh] at h; simp at h
          rw [befM_pre os _ _ (by simp; omega)]
          simp only [List.getD_eq_getElem?_getD] at h ⊢
          rw [List.getElem?_append_left hlt]
          exact h
    · obtain ⟨o', ho', h'⟩ := befM_spec os _ j i (by simp; omega) h
      refine ⟨o', ?_, h'⟩
      have e1 : j - ms.length = (j - (ms ++ [maskOf ms o]).length) + 1 := by simp; omega
      rw [e1, List.getElem?_cons_succ]
      exact ho'
theorem edgesOk_spec : ∀ (os : List Oper) (i : Nat), edgesOk os i = true → ∀ (j : Nat) o, os[j]? = some o → ∀ e ∈ o.after, Region.binds .any e = true → e.on < i + j
  | [], i, h, j, o, ho, e, he, hb => by simp at ho
  | o' :: os, i, h, j, o, ho, e, he, hb => by
    simp only [edgesOk, Bool.and_eq_true] at h
    cases j with
    | zero =>
      obtain rfl : o' = o := by simpa using ho
      have := List.all_eq_true.1 h.1 e (Array.mem_toList_iff.2 he)
      rw [hb] at this
      have h2 : Nat.blt e.on i = true := by simpa using this
      have := Nat.lt_of_lt_of_eq (Nat.le_of_ble_eq_true h2) rfl
      omega
    | succ j =>
      have := edgesOk_spec os (i + 1) h.2 j o (by simpa using ho) e he hb
      omega
theorem pairsFrom_spec {ops : List Oper} {o : Oper} {f : Fp} {i : Nat} : ∀ (os : List Oper) (ms : List Nat) (fs : List Fp), pairsFrom ops o f i os ms fs = true →
    os.length = fs.length ∧ ms.length = fs.length ∧ ∀ (n : Nat) o' m f', os[n]? = some o' → ms[n]? = some m → fs[n]? = some f' → Nat.testBit m i = true ∨ (tApart ops o o' = true ∧ fpApart f f' = true)
  | [], [], [], h => ⟨rfl, rfl, fun n o' m f' h1 => by simp at h1⟩
  | o' :: os, m :: ms, f' :: fs, h => by
    simp only [pairsFrom, Bool.and_eq_true, Bool.or_eq_true] at h
    obtain ⟨h1, h2, h3⟩ := pairsFrom_spec os ms fs h.2
    refine ⟨by simp [h1], by simp [h2], fun n o2 m2 f2 g1 g2 g3 => ?_⟩
    cases n with
    | zero =>
      simp only [List.getElem?_cons_zero, Option.some.injEq] at g1 g2 g3
      subst g1; subst g2; subst g3
      exact h.1
    | succ n => exact h3 n o2 m2 f2 (by simpa using g1) (by simpa using g2) (by simpa using g3)
  | [], [], _ :: _, h => by simp [pairsFrom] at h
  | [], _ :: _, _, h => by simp [pairsFrom] at h
  | _ :: _, [], _, h => by simp [pairsFrom] at h
  | _ :: _, _ :: _, [], h => by simp [pairsFrom] at h
theorem pairsOk_spec {ops : List Oper} : ∀ (os : List Oper) (ms : List Nat) (fs : List Fp) (i : Nat), pairsOk ops os ms fs i = true →
    os.length = fs.length ∧ ms.length = fs.length ∧ ∀ (p q : Nat) o o' m f f', p < q → os[p]? = some o → os[q]? = some o' → ms[q]? = some m → fs[p]? = some f → fs[q]? = some f' → Nat.testBit m (i + p) = true ∨ (tApart ops o o' = true ∧ fpApart f f' = true)
  | [], [], [], i, h => ⟨rfl, rfl, fun p q o o' m f f' hpq h1 => by simp at h1⟩
  | o :: os, m :: ms, f :: fs, i, h => by
    simp only [pairsOk, Bool.and_eq_true] at h
    obtain ⟨a1, a2, a3⟩ := pairsFrom_spec os ms fs h.1
    obtain ⟨b1, b2, b3⟩ := pairsOk_spec os ms fs (i + 1) h.2
    refine ⟨by simp [b1], by simp [b2], fun p q o1 o2 m2 f1 f2 hpq g1 g2 g3 g4 g5 => ?_⟩
    obtain ⟨q, rfl⟩ : ∃ n, q = n + 1 := ⟨q - 1, by omega⟩
    simp only [List.getElem?_cons_succ] at g2 g3 g5
    cases p with
    | zero =>
      simp only [List.getElem?_cons_zero, Option.some.injEq] at g1 g4
      subst g1; subst g4
      exact a3 q o2 m2 f2 g2 g3 g5
    | succ p =>
      have := b3 p q o1 o2 m2 f1 f2 (by omega) (by simpa using g1) g2 g3 (by simpa using g4) g5
      rwa [show i + 1 + p = i + (p + 1) by omega] at this
  | [], [], _ :: _, _, h => by simp [pairsOk] at h
  | [], _ :: _, _, _, h => by simp [pairsOk] at h
  | _ :: _, [], _, _, h => by simp [pairsOk] at h
  | _ :: _, _ :: _, [], _, h => by simp [pairsOk] at h

/-! ### an operation that may come now may be taken first -/
def W (ops : Array Oper) (i j : Nat) : Prop := Nat.testBit ((befM ops.toList []).getD j 0) i = true
def Closed (ops : Array Oper) (listed : Array Bool) : Prop := ∀ (j : Nat) o, ops[j]? = some o → listed.getD j false = true → ∀ e ∈ o.after, Region.binds .any e = true → listed.getD e.on false = true
theorem W_edge {ops : Array Oper} {i j : Nat} (h : W ops i j) : ∃ o, ops[j]? = some o ∧ ∃ e ∈ o.after, Region.binds .any e = true ∧ (e.on = i ∨ W ops i e.on) := by
  obtain ⟨o, h1, h2⟩ := befM_spec ops.toList [] j i (by simp) h
  exact ⟨o, by simpa using h1, h2⟩
theorem closed_W {ops : Array Oper} (he : edgesOk ops.toList 0 = true) {listed : Array Bool} (hc : Closed ops listed) : ∀ (n j i : Nat), j < n → listed.getD j false = true → W ops i j → listed.getD i false = true
  | 0, j, i, h, _, _ => by omega
  | n + 1, j, i, h, hj, hw => by
    obtain ⟨o, ho, e, hm, hb, hx⟩ := W_edge hw
    have hl := hc j o ho hj e hm hb
    rcases hx with rfl | hx
    · exact hl
    · have hlt := edgesOk_spec ops.toList 0 he j o (by simpa using ho) e hm hb
      exact closed_W he hc n e.on i (by omega) hl hx
theorem ready_W {ops : Array Oper} (he : edgesOk ops.toList 0 = true) {listed : Array Bool} (hc : Closed ops listed) {i j : Nat} (hj : j ∈ Region.ready .any ops listed) (hw : W ops i j) : listed.getD i false = true := by
  obtain ⟨_, o, ho, hall⟩ := mem_ready.1 hj
  obtain ⟨o', ho', e, hm, hb, hx⟩ := W_edge hw
  rw [ho] at ho'
  obtain rfl : o = o' := by simpa using ho'
  have hl := hall e hm hb
  rcases hx with rfl | hx
  · exact hl
  · exact closed_W he hc _ e.on i (Nat.lt_succ_self _) hl hx
theorem closed_set {ops : Array Oper} {listed : Array Bool} (hc : Closed ops listed) {j : Nat} (hj : j ∈ Region.ready .any ops listed) : Closed ops (listed.setIfInBounds j true) := by
  intro n o ho hn e hm hb
  obtain ⟨_, o', ho', hall⟩ := mem_ready.1 hj
  by_cases hnj : j = n
  · subst hnj
    rw [ho] at ho'
    obtain rfl : o = o' := by simpa using ho'
    exact getD_set_true (hall e hm hb)
  · rw [getD_set_ne false hnj] at hn
    exact getD_set_true (hc n o ho hn e hm hb)
theorem any_first {ops : Array Oper} (he : edgesOk ops.toList 0 = true) {nx : Nat} {F : Nat → Fp} {K : S2 κ → Prop} {i : Nat} {oi : Oper} (hoi : ops[i]? = some oi) :
    ∀ (fuel : Nat) (listed : Array Bool) (s s1 : S2 κ), listed.size = ops.size → Closed ops listed →
      (∀ (j : Nat) oj, ops[j]? = some oj → j ≠ i → listed.getD j true = false → W ops i j ∨ (tApart ops.toList oi oj = true ∧ fpApart (F i) (F j) = true)) →
      i ∈ Region.ready .any ops listed → exO ti Γ ops.toList nx i oi s = some (s1, F i) → anyA ti Γ ops nx F K fuel (listed.setIfInBounds i true) s1 → anyA ti Γ ops nx F K (fuel + 1) listed s := by
  intro fuel
  induction fuel with
  | zero =>
    intro listed s s1 hsz hc hfree hr hx h
    refine ⟨fun h0 => (by rw [h0] at hr; cases hr), fun j hj o ho => ?_⟩
    by_cases hji : j = i
    · subst hji
      rw [hoi] at ho
      obtain rfl : oi = o := by simpa using ho
      exact ⟨s1, hx, h⟩
    · have := ready_mono hj hji
      rw [h.1] at this
      cases this
  | succ fuel ih =>
    intro listed s s1 hsz hc hfree hr hx h
    refine ⟨fun h0 => (by rw [h0] at hr; cases hr), fun j hj o ho => ?_⟩
    by_cases hji : j = i
    · subst hji
      rw [hoi] at ho
      obtain rfl : oi = o := by simpa using ho
      exact ⟨s1, hx, h⟩
    · obtain ⟨s12, h12, h3⟩ := h.2 j (ready_mono hj hji) o ho
      have hjun := (mem_ready.1 hj).1
      have hiun := (mem_ready.1 hr).1
      have hilt : i < listed.size := by rw [hsz]; exact (Array.getElem?_eq_some_iff.1 hoi).1
      have hnw : ¬ W ops i j := fun hw => by
        have h1 := ready_W he hc hj hw
        have : listed.getD i true = listed.getD i false := by simp [Array.getD_eq_getD_getElem?, Array.getElem?_eq_getElem hilt]
        rw [this, h1] at hiun
        cases hiun
      obtain ⟨ha, hf⟩ := (hfree j o ho hji hjun).resolve_left hnw
      obtain ⟨s2, h4, h5⟩ := exO_comm ha hf hx h12
      refine ⟨s2, h4, ih (listed.setIfInBounds j true) s2 s12 (by simpa using hsz) (closed_set hc hj) (fun k ok hk hki hun => ?_) (ready_mono hr (Ne.symm hji)) h5 ?_⟩
      · refine hfree k ok hk hki ?_
        by_cases hjk : j = k
        · subst hjk; exact hjun
        · rw [getD_set_ne true hjk] at hun; exact hun
      · rw [Array.setIfInBounds_comm _ _ hji]
        exact h3
theorem lexR_len {ops : List Oper} {nx : Nat} : ∀ (os : List Oper) (k : Nat) (s s' : S2 κ) (fs : List Fp), lexR ti Γ ops nx os k s = some (s', fs) → fs.length = os.length
  | [], k, s, s', fs, h => by
    simp only [lexR, Option.some.injEq, Prod.mk.injEq] at h
    obtain ⟨_, rfl⟩ := h; rfl
  | o :: os, k, s, s', fs, h => by
    simp only [lexR] at h
    obtain ⟨q, hq, h⟩ := Option.bind_eq_some_iff.1 h
    obtain ⟨q', hq', h⟩ := Option.map_eq_some_iff.1 h
    simp only [Prod.mk.injEq] at h
    obtain ⟨_, rfl⟩ := h
    simp [lexR_len os (k + 1) q.1 q'.1 q'.2 hq']
theorem any_lex {ops : Array Oper} (he : edgesOk ops.toList 0 = true) {nx : Nat} {F : Nat → Fp} {s0 : S2 κ}
    (hfree : ∀ (i j : Nat) oi oj, i < j → ops[i]? = some oi → ops[j]? = some oj → W ops i j ∨ (tApart ops.toList oi oj = true ∧ fpApart (F i) (F j) = true)) :
    ∀ (os : List Oper) (k : Nat) (listed : Array Bool) (s : S2 κ) (fs : List Fp), (∀ j, os[j]? = ops[k + j]?) → listed.size = ops.size → (∀ j, j < ops.size → ∀ d, listed.getD j d = decide (j < k)) →
      lexR ti Γ ops.toList nx os k s = some (s0, fs) → (∀ j f, fs[j]? = some f → F (k + j) = f) → anyA ti Γ ops nx F (fun s => s = s0) os.length listed s
  | [], k, listed, s, fs, hj, hsz, hl, h, hF => by
    simp only [lexR, Option.some.injEq, Prod.mk.injEq] at h
    refine ⟨?_, h.1⟩
    refine List.eq_nil_iff_forall_not_mem.2 fun j hjr => ?_
    obtain ⟨h1, o, ho, _⟩ := mem_ready.1 hjr
    have hlt := (Array.getElem?_eq_some_iff.1 ho).1
    rw [hl j hlt] at h1
    have : ¬ j < k := by simpa using h1
    have h2 := hj (j - k)
    rw [show k + (j - k) = j by omega, ho] at h2
    simp at h2
  | o :: os, k, listed, s, fs, hj, hsz, hl, h, hF => by
    simp only [lexR] at h
    obtain ⟨q, hq, h⟩ := Option.bind_eq_some_iff.1 h
    obtain ⟨q', hq', h⟩ := Option.map_eq_some_iff.1 h
    simp only [Prod.mk.injEq] at h
    obtain ⟨h1, rfl⟩ := h
    have hok : ops[k]? = some o := by simpa using (hj 0).symm
    have hklt := (Array.getElem?_eq_some_iff.1 hok).1
    have hFk : F k = q.2 := hF 0 q.2 rfl
    have hread : ∀ e ∈ o.after, Region.binds .any e = true → listed.getD e.on false = true := fun e hm hb => by
      have := edgesOk_spec ops.toList 0 he k o (by simpa using hok) e hm hb
      rw [hl e.on (by omega)]
      simpa using by omega
    refine any_first he hok os.length listed s q.1 hsz ?_ ?_ (mem_ready.2 ⟨by rw [hl k hklt]; simp, o, hok, hread⟩) (by rw [hFk]; exact hq) ?_
    · intro n o' ho' hn e hm hb
      have hnlt := (Array.getElem?_eq_some_iff.1 ho').1
      rw [hl n hnlt] at hn
      have hnk : n < k := by simpa using hn
      have := edgesOk_spec ops.toList 0 he n o' (by simpa using ho') e hm hb
      rw [hl e.on (by omega)]
      simpa using by omega
    · intro j oj hoj hjk hun
      have hjlt := (Array.getElem?_eq_some_iff.1 hoj).1
      rw [hl j hjlt] at hun
      have : ¬ j < k := by simpa using hun
      exact hfree k j o oj (by omega) hok hoj
    · refine any_lex he hfree os (k + 1) (listed.setIfInBounds k true) q.1 q'.2 (fun j => by have := hj (j + 1); simpa [Nat.add_assoc, Nat.add_comm 1 j] using this) (by simpa using hsz) (fun j hjlt d => ?_) ?_ (fun j f hf => ?_)
      · by_cases hjk : k = j
        · subst hjk
          have : k < listed.size := by omega
          simp [Array.getD_eq_getD_getElem?, this]
        · rw [getD_set_ne d hjk, hl j hjlt]
          have : (j < k) ↔ (j < k + 1) := by omega
          simp [this]
      · rw [hq']; exact congrArg some (Prod.ext h1 rfl)
      · have := hF (j + 1) f (by simpa using hf)
        rwa [show k + 1 + j = k + (j + 1) by omega]
/-- A region. -/
theorem region_wp {R : Type} (hκ : ∀ k, (κ k).Ok) (hm : P.follows .mixedOrders = true) (tok : ∀ t x, ti t = some x → TypeOK P κ t x) (hΓ : ∀ f g, Γ f = some g → CSound P f g) {M0 : Mu} {H0 : Hp κ} {w0 : World} {m N : Nat} {id : Nat} {ops : Array Oper} {draw : Bool}
    (hd : ∀ o ∈ ops.toList, ∀ t, o.dst = some t → t < N) {s : St κ} {K : St κ → Option R} {r : R} {Q : Exit → Act → World → Prop}
    (h : (bif draw then opsRun ti Γ ops.toList ops.toList 0 [] s fun s' tr => bif drawOk ops.toList tr.reverse then K s' else none else opsRun ti Γ ops.toList ops.toList 0 [] s fun s' _ => K s') = some r)
    (hQ : ∀ s' a w, K s' = some r → s'.nx = s.nx → Rl M0 H0 w0 m N (s'.env, s'.H) a w → Q .normal a w) {a : Act} {w : World} (hR : Rl M0 H0 w0 m N (s.env, s.H) a w) : (Code.region id ops draw).wp P Q a w := by
  cases draw with
  | false =>
    obtain ⟨s', fs, h1, h2⟩ := opsRun_lex _ _ _ _ _ _ (by simpa using h)
    refine wp_region ?_
    have := lex_wp (Q := Q) hκ tok hΓ (N := N) ops.toList 0 (s.env, s.H) s' fs (by simp) hd h1 (fun a w hR' => hQ ⟨s'.1, s'.2, s.nx⟩ a w h2 rfl hR') a w hR
    rw [List.range_eq_range']
    simpa using this
  | true =>
    obtain ⟨s', fs, h1, h2⟩ := opsRun_lex _ _ _ _ _ _ (by simpa using h)
    simp only [List.append_nil, List.reverse_reverse] at h2
    cases hok : drawOk ops.toList fs with
    | false => rw [hok] at h2; cases h2
    | true =>
      rw [hok] at h2
      unfold drawOk at hok
      obtain ⟨he, hp⟩ := allOne_of_beq hok
      obtain ⟨p1, p2, p3⟩ := pairsOk_spec _ _ _ _ hp
      have hsz : ops.toList.length = ops.size := by simp
      let F : Nat → Fp := fun i => fs.getD i ⟨[], []⟩
      have hFs : ∀ (j : Nat) f, fs[j]? = some f → F j = f := fun j f hf => by simp [F, List.getD_eq_getElem?_getD, hf]
      have hfree : ∀ (i j : Nat) oi oj, i < j → ops[i]? = some oi → ops[j]? = some oj → W ops i j ∨ (tApart ops.toList oi oj = true ∧ fpApart (F i) (F j) = true) := by
        intro i j oi oj hij hi hj
        have hjlt := (Array.getElem?_eq_some_iff.1 hj).1
        have hfi := List.getElem?_eq_getElem (l := fs) (i := i) (by omega)
        have hfj := List.getElem?_eq_getElem (l := fs) (i := j) (by omega)
        have hmj := List.getElem?_eq_getElem (l := befM ops.toList []) (i := j) (by omega)
        have := p3 i j oi oj _ _ _ hij (by simpa using hi) (by simpa using hj) hmj hfi hfj
        rw [Nat.zero_add] at this
        rw [hFs i _ hfi, hFs j _ hfj]
        rcases this with h | h
        · left; unfold W; rw [List.getD_eq_getElem?_getD, hmj]; exact h
        · exact .inr h
      have hany := any_lex (ti := ti) (Γ := Γ) he (nx := s.nx) (F := F) (s0 := s') hfree ops.toList 0 (Array.replicate ops.size false) (s.env, s.H) fs (by simp) (by simp) (fun j hj d => by simp [Array.getD_eq_getD_getElem?, hj]) h1 (fun j f hf => by rw [Nat.zero_add]; exact hFs j f hf)
      rw [hsz] at hany
      refine wp_region_any hm (any_wp (Q := Q) (M0 := M0) (H0 := H0) (w0 := w0) (m := m) hκ tok hΓ hd (fun s2 a w he hR' => ?_) _ _ _ hany a _ ?_)
      · subst he
        exact hQ ⟨s2.1, s2.2, s.nx⟩ a w h2 rfl hR'
      · obtain ⟨⟨M, g1, g2, g3⟩, g4, g5⟩ := hR
        exact ⟨⟨M, g1, g2.drawn _, g3.step (Step.draw _ (Nat.le_succ _))⟩, g4, g5⟩
end
end Go.Eng

/- Code: what lives on at a loop's head, loops, branches. -/
set_option linter.unusedVariables false
set_option linter.unusedSimpArgs false
namespace Go.Eng
open Go
section
variable {κ : Nat → KT} {P : Program} {ti : TypeId → Option TI} {Γ : Ct κ}
variable {M0 : Mu} {H0 : Hp κ} {w0 : World} {m N : Nat} {R : Type} {r : R}
theorem nil1_sound (hκ : ∀ k, (κ k).Ok) {M : Mu} {H : Hp κ} {w : World} {x : LV} {h : Option Nat} {n : Nat} {q : LV × Hp κ × Nat} {c : Value} (hH : RH M H w) (hx : RL M H x c) (hq : nil1 x h H n = some q) :
    ∃ M', RL M' q.2.1 q.1 c ∧ RH M' q.2.1 w ∧ Step M H w M' q.2.1 w ∧ ∀ b, H b ≠ .fresh → q.2.1 b = H b := by
  unfold nil1 at hq
  split at hq
  · rename_i k
    split at hq
    · rename_i hf
      obtain rfl := Option.some.inj hq
      obtain ⟨g1, g2⟩ := new_block hκ hf (.rows k true []) (.slice none 0 0) hH ⟨rfl, rfl, rfl, Nat.le_refl _, fun _ _ _ => rfl⟩ (Nat.le_refl _)
        (by show w.ownsRow 0 _ _ (updM M n _ n) _ _; rw [updM_same]; exact World.ownsRow_nil w 0 _ _) (by simp [hb])
      refine ⟨_, ?_, g1, g2, fun b hb' => updH_ne (by intro e; subst e; exact hb' hf) _⟩
      have hx : c = .slice none 0 0 := hx
      subst hx
      simp only [RL, updH_same, updM_same]
    · cases hq
  · obtain rfl := Option.some.inj hq
    exact ⟨M, hx, hH, Step.refl _ _ _, fun _ _ => rfl⟩
theorem nilL_sound (hκ : ∀ k, (κ k).Ok) {w : World} : ∀ (xs : List LV) (hs : List (Option Nat)) (M : Mu) (H : Hp κ) (n : Nat) (q : List LV × Hp κ × Nat) (vs : List Value), RH M H w → RLs M H xs vs → nilL xs hs H n = some q →
    ∃ M', RLs M' q.2.1 q.1 vs ∧ RH M' q.2.1 w ∧ Step M H w M' q.2.1 w ∧ ∀ b, H b ≠ .fresh → q.2.1 b = H b
  | [], hs, M, H, n, q, vs, hH, hx, hq => by
    obtain rfl : ([], H, n) = q := by simpa [nilL] using hq
    exact ⟨M, hx, hH, Step.refl _ _ _, fun _ _ => rfl⟩
  | x :: xs, [], M, H, n, q, vs, hH, hx, hq => by
    obtain rfl : (x :: xs, H, n) = q := by simpa [nilL] using hq
    exact ⟨M, hx, hH, Step.refl _ _ _, fun _ _ => rfl⟩
  | x :: xs, h :: hs, M, H, n, q, [], hH, hx, hq => by have := hx.1; simp at this
  | x :: xs, h :: hs, M, H, n, q, c :: vs, hH, hx, hq => by
    simp only [nilL] at hq
    split at hq
    · rename_i q1 h1
      split at hq
      · rename_i q2 h2
        obtain rfl := Option.some.inj hq
        obtain ⟨M1, a1, a2, a3, a4⟩ := nil1_sound hκ hH (hx.2 0 x c rfl rfl) h1
        have hxs : RLs M H xs vs := ⟨by have := hx.1; simpa using this, fun j y d e1 e2 => hx.2 (j + 1) y d (by simpa using e1) (by simpa using e2)⟩
        obtain ⟨M2, b1, b2, b3, b4⟩ := nilL_sound hκ xs hs M1 q1.2.1 q1.2.2 q2 vs a2 (keepLs a3.keep hxs) h2
        refine ⟨M2, ⟨by simp [b1.1], fun j y d e1 e2 => ?_⟩, b2, a3.trans b3, fun b hb' => ?_⟩
        · cases j with
          | zero =>
            simp only [List.getElem?_cons_zero, Option.some.injEq] at e1 e2
            subst e1; subst e2
            exact b3.keep _ _ a1
          | succ j => exact b1.2 j y d (by simpa using e1) (by simpa using e2)
        · have := a4 b hb'
          rw [← this] at hb' ⊢
          exact b4 b hb'
      · cases hq
    · cases hq
theorem nilA_sound (hκ : ∀ k, (κ k).Ok) {M : Mu} {H : Hp κ} {w : World} {x : AV} {hs : List (Option Nat)} {n : Nat} {q : AV × Hp κ × Nat} {c : Value} (hH : RH M H w) (hx : RA M H x c) (hq : nilA x hs H n = some q) :
    ∃ M', RA M' q.2.1 q.1 c ∧ RH M' q.2.1 w ∧ Step M H w M' q.2.1 w := by
  unfold nilA at hq
  split at hq
  · rename_i b i j
    split at hq
    · rename_i ty cs hb'
      split at hq
      · rename_i q1 h1
        obtain rfl := Option.some.inj hq
        have hB := hH.blk b
        rw [hb'] at hB
        obtain ⟨g, arr, e1, e2, e3⟩ := hB
        obtain ⟨M1, a1, a2, a3, a4⟩ := nilL_sound hκ cs hs M H n q1 arr.toList hH e3 h1
        have hb1 : q1.2.1 b = .cells ty cs := by rw [a4 b (by rw [hb']; simp), hb']
        have hM1 : M1 b = M b := a3.same b (by rw [hb']; simp)
        have hlen : q1.1.length = cs.length := by rw [← a1.1, e3.1]
        have hres := changeG hκ (M := M1) (M' := M1) (H := q1.2.1) (H' := updH q1.2.1 b (.cells ty q1.1)) (w := w) (w' := w) (fun n => n = b) a2 rfl rfl rfl (fun _ => Nat.le_refl _) (Nat.le_refl _) (fun _ _ _ => rfl)
          (fun n hn => ⟨updH_ne hn _, rfl⟩) (keep_cells hb1)
          (fun n hn => by subst hn; rw [updH_same]; exact ⟨g, arr, hM1.trans e1, e2, keepLs (keep_cells hb1) a1⟩)
          (fun n g' hn hf => by
            subst hn
            refine .inr ⟨n, rfl, ?_, fun _ => by rw [hb1]; rfl⟩
            unfold ft at hf ⊢
            rw [updH_same] at hf
            rw [hb1]; exact hf)
          (fun n n' g' hn hn' hne => absurd (hn.trans hn'.symm) hne) (fun _ _ _ => rfl)
          (fun n hn => by subst hn; rw [hb1, updH_same]; exact .inr ⟨_, rfl, hlen⟩)
        exact ⟨M1, keepA (x := .v (.ptr b i j)) (a3.trans hres.2).keep hx, hres.1, a3.trans hres.2⟩
      · cases hq
    · obtain rfl := Option.some.inj hq
      exact ⟨M, hx, hH, Step.refl _ _ _⟩
  · split at hq
    · split at hq
      · rename_i q1 h1
        obtain rfl := Option.some.inj hq
        obtain ⟨M1, a1, a2, a3, _⟩ := nil1_sound hκ hH hx h1
        exact ⟨M1, a1, a2, a3⟩
      · cases hq
    · obtain rfl := Option.some.inj hq
      exact ⟨M, hx, hH, Step.refl _ _ _⟩
  · split at hq
    · rename_i q1 h1
      obtain rfl := Option.some.inj hq
      obtain ⟨arr, e1, e2⟩ := hx
      obtain ⟨M1, a1, a2, a3, _⟩ := nilL_sound hκ _ hs M H n q1 arr.toList hH e2 h1
      exact ⟨M1, ⟨arr, e1, a1⟩, a2, a3⟩
    · cases hq
  · obtain rfl := Option.some.inj hq
    exact ⟨M, hx, hH, Step.refl _ _ _⟩
theorem unNil_sound (hκ : ∀ k, (κ k).Ok) : ∀ (L : Live) (n : Nat) (s s1 : St κ), unNil s L n = some s1 → ∀ a w, Rl M0 H0 w0 m N (s.env, s.H) a w → Rl M0 H0 w0 m N (s1.env, s1.H) a w
  | [], n, s, s1, h, a, w, hR => by
    obtain rfl : s = s1 := by simpa [unNil] using h
    exact hR
  | (t, []) :: L, n, s, s1, h, a, w, hR => unNil_sound hκ L n s s1 (by simpa [unNil] using h) a w hR
  | (t, h0 :: hs) :: L, n, s, s1, h, a, w, hR => by
    simp only [unNil] at h
    split at h
    · rename_i q hq
      refine unNil_sound hκ L _ _ s1 h a w ?_
      obtain ⟨⟨M, hE, hH, hS⟩, h1, h2⟩ := hR
      obtain ⟨M1, a1, a2, a3⟩ := nilA_sound hκ hH (hE t) hq
      refine ⟨⟨M1, fun t' => ?_, a2, hS.step a3⟩, h1, h2⟩
      show RA M1 q.2.1 (updE s.env t q.1 t') (a.tmps.getD t' undef)
      by_cases htt : t' = t
      · subst htt
        have e1 : updE s.env t' q.1 t' = q.1 := by simp [updE]
        rw [e1]; exact a1
      · have e1 : updE s.env t q.1 t' = s.env t' := by simp [updE, beqN htt]
        rw [e1]
        exact keepA a3.keep (hE t')
    · cases h
theorem idxOf_some : ∀ (ρ : List Nat) (b i0 i : Nat), idxOf ρ b i0 = some i → i0 ≤ i ∧ ρ[i - i0]? = some b
  | [], b, i0, i, h => by cases h
  | x :: xs, b, i0, i, h => by
    simp only [idxOf] at h
    cases hx : Nat.beq x b with
    | true =>
      rw [hx] at h
      obtain rfl : i0 = i := by simpa using h
      exact ⟨Nat.le_refl _, by simp [Nat.eq_of_beq_eq_true hx]⟩
    | false =>
      rw [hx] at h
      obtain ⟨h1, h2⟩ := idxOf_some xs b (i0 + 1) i h
      refine ⟨by omega, ?_⟩
      rw [show i - i0 = (i - (i0 + 1)) + 1 by omega]
      simpa using h2
theorem addNew_pre : ∀ (bs ρ : List Nat) (i : Nat), i < ρ.length → (addNew ρ bs)[i]? = ρ[i]?
  | [], ρ, i, h => rfl
  | b :: bs, ρ, i, h => by
    simp only [addNew]
    split
    · exact addNew_pre bs ρ i h
    · rw [addNew_pre bs _ i (by simp; omega), List.getElem?_append_left h]
theorem addNew_len : ∀ (bs ρ : List Nat), ρ.length ≤ (addNew ρ bs).length
  | [], ρ => Nat.le_refl _
  | b :: bs, ρ => by
    simp only [addNew]
    split
    · exact addNew_len bs ρ
    · exact Nat.le_trans (by simp) (addNew_len bs _)
theorem upto_len : ∀ m, (upto m).length = m
  | 0 => rfl
  | m + 1 => by simp [upto, upto_len m]
theorem upto_get : ∀ (m i : Nat), i < m → (upto m)[i]? = some i
  | 0, i, h => by omega
  | m + 1, i, h => by
    simp only [upto]
    by_cases hi : i < m
    · rw [List.getElem?_append_left (by rw [upto_len]; exact hi)]; exact upto_get m i hi
    · obtain rfl : i = m := by omega
      rw [List.getElem?_append_right (by rw [upto_len]; omega), upto_len]; simp
theorem nodupN_spec : ∀ (ρ : List Nat), nodupN ρ = true → ∀ (i j b : Nat), ρ[i]? = some b → ρ[j]? = some b → i = j
  | [], _, i, j, b, h1, _ => by simp at h1
  | x :: xs, h, i, j, b, h1, h2 => by
    simp only [nodupN] at h
    obtain ⟨hx, hr⟩ := allOne_of_beq h
    have hx := any_beq hx
    cases i with
    | zero =>
      cases j with
      | zero => rfl
      | succ j =>
        simp only [List.getElem?_cons_zero, Option.some.injEq, List.getElem?_cons_succ] at h1 h2
        subst h1
        exact absurd (List.mem_of_getElem? h2) hx
    | succ i =>
      cases j with
      | zero =>
        simp only [List.getElem?_cons_zero, Option.some.injEq, List.getElem?_cons_succ] at h1 h2
        subst h2
        exact absurd (List.mem_of_getElem? h1) hx
      | succ j => rw [nodupN_spec xs hr i j b (by simpa using h1) (by simpa using h2)]
/-- Names anew. -/
def renM (M : Mu) (ρ : List Nat) : Mu := fun n => M (ρ.getD n 0)
def renH (H : Hp κ) (ρ : List Nat) : Hp κ := hpOf (ρ.map fun b => renB ρ (H b))
theorem renH_some {H : Hp κ} {ρ : List Nat} {n b : Nat} (h : ρ[n]? = some b) : renH H ρ n = renB ρ (H b) := by simp [renH, hpOf, h]
theorem renH_none {H : Hp κ} {ρ : List Nat} {n : Nat} (h : ρ[n]? = none) : renH H ρ n = .fresh := by simp [renH, hpOf, h]
theorem renM_some {M : Mu} {ρ : List Nat} {n b : Nat} (h : ρ[n]? = some b) : renM M ρ n = M b := by simp [renM, List.getD_eq_getElem?_getD, h]
theorem ren_RL {M : Mu} {H : Hp κ} (ρ : List Nat) : ∀ x c, RL M H x c → RL (renM M ρ) (renH H ρ) (renL ρ x) c := by
  intro x c h
  cases x <;> try exact h
  · rename_i b
    simp only [renL]
    split
    · rename_i i hi
      have hg := (idxOf_some ρ b 0 i hi).2
      rw [Nat.sub_zero] at hg
      simp only [RL, renH_some hg, renM_some hg] at h ⊢
      cases hx : H b <;> rw [hx] at h <;> first | exact False.elim h | simpa [renB] using h
    · trivial
  · rename_i b i0 j0
    simp only [renL]
    split
    · rename_i i hi
      have hg := (idxOf_some ρ b 0 i hi).2
      rw [Nat.sub_zero] at hg
      simp only [RL, renH_some hg, renM_some hg] at h ⊢
      cases hx : H b <;> rw [hx] at h <;> first | exact False.elim h | simpa [renB] using h
    · trivial
theorem ren_RLs {M : Mu} {H : Hp κ} (ρ : List Nat) {cs : List LV} {vs : List Value} (h : RLs M H cs vs) : RLs (renM M ρ) (renH H ρ) (cs.map (renL ρ)) vs := by
  refine ⟨by simp [h.1], fun j x c h1 h2 => ?_⟩
  rw [List.getElem?_map] at h1
  obtain ⟨y, hy, rfl⟩ := Option.map_eq_some_iff.1 h1
  exact ren_RL ρ _ _ (h.2 j y c hy h2)
theorem ren_RA {M : Mu} {H : Hp κ} (ρ : List Nat) {x : AV} {c : Value} (h : RA M H x c) : RA (renM M ρ) (renH H ρ) (renA ρ x) c := by
  cases x with
  | v x => exact ren_RL ρ x c h
  | agg cs => obtain ⟨arr, h1, h2⟩ := h; exact ⟨arr, h1, ren_RLs ρ h2⟩
  | tup ps =>
    obtain ⟨arr, h1, h2, h3⟩ := h
    refine ⟨arr, h1, by simp [h2], fun j p u g1 g2 => ?_⟩
    rw [List.getElem?_map] at g1
    obtain ⟨q, hq, rfl⟩ := Option.map_eq_some_iff.1 g1
    have h4 := h3 j q u hq g2
    obtain ⟨b, cs⟩ := q
    cases b with
    | true => obtain ⟨arr, e1, e2⟩ := h4; exact ⟨arr, e1, ren_RLs ρ e2⟩
    | false =>
      cases cs with
      | nil => exact h4.elim
      | cons x xs => cases xs with
        | nil => exact ren_RL ρ x u h4
        | cons y ys => exact h4.elim
theorem ren_RB {M : Mu} {H : Hp κ} {w : World} {ρ : List Nat} {n b : Nat} (hn : ρ[n]? = some b) (h : RB M H w b (H b)) : RB (renM M ρ) (renH H ρ) w n (renH H ρ n) := by
  rw [renH_some hn]
  cases hx : H b with
  | fresh => trivial
  | dead => trivial
  | cells ty cs =>
    rw [hx] at h
    obtain ⟨g, arr, h1, h2, h3⟩ := h
    exact ⟨g, arr, by rw [renM_some hn]; exact h1, h2, ren_RLs ρ h3⟩
  | rows k own l =>
    rw [hx] at h
    cases own
    · obtain ⟨A, c, h1, h2⟩ := h
      exact ⟨A, c, by rw [renM_some hn]; exact h1, h2⟩
    · show w.ownsRow 0 _ _ (renM M ρ n) _ _
      rw [renM_some hn]
      exact h
theorem BS_ren (ρ : List Nat) {x y : Blk κ} (h : BS x y) : BS x (renB ρ y) := by
  cases x with
  | fresh => trivial
  | dead => obtain rfl : y = .dead := h; rfl
  | cells ty cs => rcases h with rfl | ⟨cs', rfl, h1⟩
                   · exact .inl rfl
                   · exact .inr ⟨_, rfl, by simpa using h1⟩
  | rows k own l => cases own
                    · obtain rfl : y = .rows k false l := h; rfl
                    · rcases h with rfl | ⟨own', l', rfl, h1⟩
                      · exact .inl rfl
                      · exact .inr ⟨_, _, rfl, h1⟩
theorem ren_ft {M : Mu} {H : Hp κ} {ρ : List Nat} {n b : Nat} (hn : ρ[n]? = some b) : ft (renM M ρ) (renH H ρ) n = ft M H b ∧ ownB (renH H ρ n) = ownB (H b) := by
  unfold ft
  rw [renH_some hn, renM_some hn]
  cases H b <;> exact ⟨rfl, rfl⟩
theorem ren_RH {M : Mu} {H : Hp κ} {w : World} {ρ : List Nat} (hd : nodupN ρ = true) (h : RH M H w) : RH (renM M ρ) (renH H ρ) w := by
  refine ⟨fun n => ?_, fun n n' g hne ho hf hf' => ?_, fun p hp => ?_⟩
  · cases hn : ρ[n]? with
    | none => rw [renH_none hn]; trivial
    | some b => exact ren_RB hn (h.blk b)
  · cases hn : ρ[n]? with
    | none => rw [renH_none hn] at ho; cases ho
    | some b =>
      cases hn' : ρ[n']? with
      | none => unfold ft at hf'; rw [renH_none hn'] at hf'; cases hf'
      | some b' =>
        obtain ⟨e1, e2⟩ := ren_ft (M := M) (H := H) hn
        obtain ⟨e3, _⟩ := ren_ft (M := M) (H := H) hn'
        rw [e1] at hf; rw [e2] at ho; rw [e3] at hf'
        exact h.sep b b' g (fun e => hne (by subst e; exact nodupN_spec ρ hd n n' b hn hn')) ho hf hf'
  · obtain ⟨o, h1, h2, h3⟩ := h.pin p hp
    refine ⟨o, h1, h2, fun n ho hf => ?_⟩
    cases hn : ρ[n]? with
    | none => rw [renH_none hn] at ho; cases ho
    | some b =>
      obtain ⟨e1, e2⟩ := ren_ft (M := M) (H := H) hn
      rw [e1] at hf; rw [e2] at ho
      exact h3 b ho hf
theorem assoc_map {α : Type} (f : Nat → α) : ∀ (L : Live) (t : Nat) (v : α), assoc (L.map fun q => (q.1, f q.1)) t = some v → v = f t
  | [], t, v, h => by cases h
  | q :: L, t, v, h => by
    simp only [List.map_cons, assoc] at h
    cases hq : Nat.beq t q.1 with
    | true =>
      rw [hq] at h
      rw [Nat.eq_of_beq_eq_true hq]
      simpa using h.symm
    | false => rw [hq] at h; exact assoc_map f L t v h
theorem zipE_map (L : Live) (f : Nat → AV) : zipE L (L.map fun t => f t.1) = L.map fun t => (t.1, f t.1) := by
  induction L with
  | nil => rfl
  | cons q L ih => simp [zipE, ih]
theorem norm_sound (hκ : ∀ k, (κ k).Ok) {L : Live} {s : St κ} {K : List AV → List (Blk κ) → Option R} (h : norm m L s K = some r) {a : Act} {w : World} (hR : Rl M0 H0 w0 m N (s.env, s.H) a w) :
    ∃ vs bs, K vs bs = some r ∧ Rl M0 H0 w0 m N ((stOf L vs bs).env, (stOf L vs bs).H) a w := by
  unfold norm at h
  split at h
  · rename_i s1 h1
    have hR1 := unNil_sound hκ L s.nx s s1 h1 a w hR
    simp only at h
    cases hd : nodupN (namesOf m s1 L) with
    | false => rw [hd] at h; cases h
    | true =>
      rw [hd] at h
      refine ⟨_, _, h, ?_⟩
      obtain ⟨⟨M, hE, hH, hS⟩, g1, g2⟩ := hR1
      have hpre : ∀ i, i < m → (namesOf m s1 L)[i]? = some i := by
        intro i hi
        unfold namesOf
        have e1 := addNew_len (L.flatMap fun t => refA (s1.env t.1)) (upto m)
        rw [upto_len] at e1
        rw [addNew_pre _ _ i (by omega), addNew_pre _ _ i (by rw [upto_len]; exact hi)]
        exact upto_get m i hi
      generalize namesOf m s1 L = ρ at hd hpre
      refine ⟨⟨renM M ρ, fun t => ?_, ren_RH hd hH, ⟨hS.os, hS.tape, hS.output, hS.drawn, hS.size, hS.frame, fun n i ho hf hi => ?_, fun n hn => ?_⟩⟩, g1, g2⟩
      · show RA _ _ ((assoc (zipE L (L.map fun t => renA ρ (s1.env t.1))) t).getD (.v .any)) _
        rw [zipE_map L (fun t => renA ρ (s1.env t))]
        cases hx : assoc (L.map fun t => (t.1, renA ρ (s1.env t.1))) t with
        | none => trivial
        | some v =>
          obtain rfl := assoc_map (fun t => renA ρ (s1.env t)) L t v hx
          exact ren_RA ρ (hE t)
      · cases hn : ρ[n]? with
        | none =>
          have ho : ownB (renH s1.H ρ n) = true := ho
          rw [renH_none hn] at ho; cases ho
        | some b =>
          obtain ⟨e1, e2⟩ := ren_ft (M := M) (H := s1.H) hn
          exact hS.orig b i (by rw [← e2]; exact ho) (by rw [← e1]; exact hf) hi
      · have hg := hpre n hn
        obtain ⟨e1, e2, e3⟩ := hS.same n hn
        refine ⟨(renM_some hg).trans e1, ?_, e3⟩
        show BS _ (renH s1.H ρ n)
        rw [renH_some hg]
        exact BS_ren ρ e2
  · cases h

/-! ### code -/
def toExit : Ex → Exit
  | .normal => .normal
  | .exit id => .exit id
  | .ret => .ret
def wfC (N : Nat) : Code → Bool
  | .region _ ops _ => ops.toList.all fun o => match o.dst with | some t => Nat.blt t N | none => true
  | .seq a b => wfC N a && wfC N b
  | .cond _ a b => wfC N a && wfC N b
  | .block _ b => wfC N b
  | .loop b => wfC N b
  | _ => true
def loopsOf : Code → List Code
  | .seq a b => loopsOf a ++ loopsOf b
  | .cond _ a b => loopsOf a ++ loopsOf b
  | .block _ b => loopsOf b
  | .loop b => b :: loopsOf b
  | _ => []
/-- What stands in for the loops of a code is theirs. -/
def LOK (ti : TypeId → Option TI) (Γ : Ct κ) (LH : Nat → Option (LHi κ)) (m : Nat) (bs : List Code) : Prop :=
  ∀ b ∈ bs, ∀ h, LH (firstR b) = some h → h.m = m ∧ ∀ {R : Type} (K : Ex → St κ → Option R) vs bs r, h.f K vs bs = some r → ∃ n, loopN h.m (Code.den ti Γ LH b) h.L h.L' K n vs bs = some r
theorem den_wp (hκ : ∀ k, (κ k).Ok) (hm : P.follows .mixedOrders = true) (tok : ∀ t x, ti t = some x → TypeOK P κ t x) (hΓ : ∀ f g, Γ f = some g → CSound P f g) {LH : Nat → Option (LHi κ)} :
    ∀ (c : Code) (K : Ex → St κ → Option R) (s : St κ) (a : Act) (w : World) (Q : Exit → Act → World → Prop), wfC N c = true → LOK ti Γ LH m (loopsOf c) → Code.den ti Γ LH c K s = some r → Rl M0 H0 w0 m N (s.env, s.H) a w →
      (∀ e s' a' w', Rl M0 H0 w0 m N (s'.env, s'.H) a' w' → K e s' = some r → Q (toExit e) a' w') → c.wp P Q a w := by
  intro c
  induction c with
  | skip => intro K s a w Q hw hL h hR hQ; exact wp_skip (hQ .normal s a w hR h)
  | ret => intro K s a w Q hw hL h hR hQ; exact wp_ret (hQ .ret s a w hR h)
  | exit id => intro K s a w Q hw hL h hR hQ; exact wp_exit (hQ (.exit id) s a w hR h)
  | seq x y ihx ihy =>
    intro K s a w Q hw hL h hR hQ
    simp only [wfC, Bool.and_eq_true] at hw
    refine wp_seq (ihx _ s a w _ hw.1 (fun b hb => hL b (by simp [loopsOf, hb])) h hR fun e s' a' w' hR' hK => ?_)
    cases e with
    | normal => exact ihy K s' a' w' Q hw.2 (fun b hb => hL b (by simp [loopsOf, hb])) hK hR' hQ
    | exit id => exact hQ (.exit id) s' a' w' hR' hK
    | ret => exact hQ .ret s' a' w' hR' hK
  | cond c x y ihx ihy =>
    intro K s a w Q hw hL h hR hQ
    simp only [wfC, Bool.and_eq_true] at hw
    simp only [Code.den] at h
    split at h
    · rename_i t
      split at h
      · rename_i q hq
        have hc : a.eval (.tmp t) = .bool q := by
          obtain ⟨⟨M, hE, _⟩, _⟩ := hR
          have := hE t
          simp only [hq] at this
          exact this
        have hs : (⟨litE s.env t q, s.H, s.nx⟩ : St κ) = s := by rw [litE_same hq]
        refine wp_cond hc ?_
        cases q with
        | true => rw [hs] at h; exact ihx K s a w Q hw.1 (fun b hb => hL b (by simp [loopsOf, hb])) h hR hQ
        | false => rw [hs] at h; exact ihy K s a w Q hw.2 (fun b hb => hL b (by simp [loopsOf, hb])) h hR hQ
      · cases h
    · cases h
  | block id b ih =>
    intro K s a w Q hw hL h hR hQ
    refine wp_block (ih _ s a w _ hw hL h hR fun e s' a' w' hR' hK => ?_)
    cases e with
    | normal => exact hQ .normal s' a' w' hR' hK
    | exit i =>
      simp only [toExit, Exit.inBlock]
      simp only at hK
      cases hi : Nat.beq i id with
      | true =>
        rw [hi] at hK
        rw [if_pos (Nat.eq_of_beq_eq_true hi)]
        exact hQ .normal s' a' w' hR' hK
      | false =>
        rw [hi] at hK
        rw [if_neg (fun e => by subst e; simp at hi)]
        exact hQ (.exit i) s' a' w' hR' hK
    | ret => exact hQ .ret s' a' w' hR' hK
  | loop c ih =>
    intro K s a w Q hw hL h hR hQ
    simp only [Code.den] at h
    split at h
    · rename_i hh hlh
      obtain ⟨hm', hf⟩ := hL c (by simp [loopsOf]) hh hlh
      rw [hm'] at h
      obtain ⟨vs, bs, h1, hR1⟩ := norm_sound hκ h hR
      obtain ⟨n, h2⟩ := hf K vs bs r h1
      rw [hm'] at h2
      have key : ∀ (n : Nat) (vs : List AV) (bs : List (Blk κ)) (a : Act) (w : World), Rl M0 H0 w0 m N ((stOf hh.L vs bs).env, (stOf hh.L vs bs).H) a w → loopN m (Code.den ti Γ LH c) hh.L hh.L' K n vs bs = some r →
          ∀ b k cs, ∃ e a' w', Q e a' w' ∧ Arrives P (lone (b.at a (.code c :: .inLoop c :: k)) cs w) b k cs e a' w' := by
        intro n
        induction n with
        | zero => intro vs bs a w _ h; cases h
        | succ n ihn =>
          intro vs bs a w hR h b k cs
          have hb := ih _ (stOf hh.L vs bs) a w (Exit.then (fun a' w' => ∃ vs2 bs2, Rl M0 H0 w0 m N ((stOf hh.L vs2 bs2).env, (stOf (κ := κ) hh.L vs2 bs2).H) a' w' ∧ loopN m (Code.den ti Γ LH c) hh.L hh.L' K n vs2 bs2 = some r) Q) hw (fun b hb => hL b (by simp [loopsOf, hb])) h hR (fun e s2 a2 w2 hR2 hK => by
            cases e with
            | normal =>
              obtain ⟨vs3, bs3, g1, g2⟩ := norm_sound hκ hK hR2
              exact ⟨vs3, bs3, g2, g1⟩
            | exit id =>
              obtain ⟨vs3, bs3, g1, g2⟩ := norm_sound hκ hK hR2
              exact hQ (.exit id) _ a2 w2 g2 g1
            | ret =>
              obtain ⟨vs3, bs3, g1, g2⟩ := norm_sound hκ hK hR2
              exact hQ .ret _ a2 w2 g2 g1)
          obtain ⟨e, a₁, w₁, hq, harr⟩ := hb b (.inLoop c :: k) cs
          cases e with
          | normal =>
            obtain ⟨vs2, bs2, g1, g2⟩ := hq
            obtain ⟨e₂, a₂, w₂, hq₂, harr₂⟩ := ihn vs2 bs2 a₁ w₁ g1 g2 b k cs
            exact ⟨e₂, a₂, w₂, hq₂, .of_steps (Steps.trans harr (.one step_inLoop)) harr₂⟩
          | exit id => exact ⟨_, a₁, w₁, hq, .pass (x := .inLoop c) rfl (fun _ _ => .inl (by simp)) harr⟩
          | goto l => exact ⟨_, a₁, w₁, hq, .pass (x := .inLoop c) rfl (fun _ _ => .inl (by simp)) harr⟩
          | ret => exact ⟨_, a₁, w₁, hq, .pass (x := .inLoop c) rfl (fun _ _ => .inl (by simp)) harr⟩
          | panic ch => exact ⟨_, a₁, w₁, hq, .pass (x := .inLoop c) rfl (fun _ _ => .inl (by simp)) harr⟩
          | outgrown => exact ⟨_, a₁, w₁, hq, .pass (x := .inLoop c) rfl (fun _ _ => .inl (by simp)) harr⟩
      intro b k cs
      obtain ⟨e, a', w', hq, harr⟩ := key n vs bs a w hR1 h2 b k cs
      exact ⟨e, a', w', hq, .of_steps (.one step_loop) harr⟩
    · cases h
  | region id ops draw =>
    intro K s a w Q hw hL h hR hQ
    refine region_wp (K := fun s' => K .normal ⟨s'.env, s'.H, s'.nx + 32 * ops.toList.length⟩) hκ hm tok hΓ (fun o ho t ht => ?_) (s := s) (r := r) ?_ (fun s' a' w' hK _ hR' => hQ .normal ⟨s'.env, s'.H, s'.nx + 32 * ops.toList.length⟩ a' w' hR' hK) hR
    · have := List.all_eq_true.1 hw o ho
      rw [ht] at this
      exact Nat.le_of_ble_eq_true this
    · exact h
  | _ => intro K s a w Q hw hL h; cases h
end
end Go.Eng

/- A whole function: from its abstract run to its call. -/
set_option linter.unusedVariables false
set_option linter.unusedSimpArgs false
namespace Go.Eng
open Go
section
variable {κ : Nat → KT} {P : Program} {ti : TypeId → Option TI} {Γ : Ct κ}
variable {M0 : Mu} {H0 : Hp κ} {w0 : World} {m N : Nat} {R : Type} {r : R}
def resG (tmps : Array Value) : ResultVar → Sem Value
  | .tmp t => pure (tmps.getD t undef)
  | .cell a t => do loadVar t (← asAddr (tmps.getD a undef))
theorem results_eq (fn : Func) (tmps : Array Value) : results fn tmps = (do let vs ← fn.results.mapM (resG tmps); pure (if h : vs.size = 1 then vs[0] else .tuple vs)) := rfl
theorem resPart_run (tok : ∀ t x, ti t = some x → TypeOK P κ t x) {M : Mu} {s : St κ} {a : Act} {w : World} (hE : RE M s.H s.env a.tmps) (hH : RH M s.H w) {rv : ResultVar} {p : Bool × List LV} (h : resPart ti s rv = some p) :
    ∃ v, (resG a.tmps rv).run P w = .ok v w ∧ RP M s.H p v := by
  cases rv with
  | tmp t =>
    simp only [resPart] at h
    have ht := hE t
    split at h
    · rename_i x hx
      rw [hx] at ht
      obtain rfl : (false, [x]) = p := by simpa using h
      exact ⟨_, rfl, ht⟩
    · rename_i cs hx
      rw [hx] at ht
      obtain rfl : (true, cs) = p := by simpa using h
      exact ⟨_, rfl, ht⟩
    · cases h
  | cell q t =>
    simp only [resPart] at h
    have hq := hE q
    split at h
    · rename_i b i j y hqe hty
      rw [hqe] at hq
      have hq : RL M s.H (.ptr b i j) (a.tmps.getD q undef) := hq
      simp only [RL] at hq
      have hbk := hH.blk b
      split at h
      · rename_i ty cs hb'
        rw [hb'] at hq hbk
        obtain ⟨rfl, g, hg, hc⟩ := hq
        obtain ⟨g', arr, h1, h2, h3⟩ := hbk
        rw [hg] at h1
        obtain rfl : g = g' := by simpa using h1
        have hsub := RLs_sub h3 j y.size
        have hcell : ∀ (n : Nat) u, ((arr.toList.drop j).take y.size)[n]? = some u → w.cell? ((⟨g, j, none⟩ : Addr).add n) = some u := by
          intro n u hn
          rw [List.getElem?_take] at hn
          split at hn
          · rw [List.getElem?_drop] at hn
            rw [add_lit, cell_of_row w g (j + n) arr ty (0, 0) h2]
            simpa using hn
          · cases hn
        have haddr : (asAddr (a.tmps.getD q undef)).run P w = .ok ⟨g, j, none⟩ w := by rw [hc]; rfl
        split at h
        · rename_i x hv
          obtain rfl : (false, [x]) = p := by simpa using h
          have hlen : ((arr.toList.drop j).take y.size).length = y.size := by rw [hsub.1]; exact (partV_some hv).1
          have hrun := run_loadVar_list (w := w) (tok t y hty) ⟨g, j, none⟩ _ hlen hcell
          rcases RA_part hv hsub with ⟨ha, hr⟩ | ⟨ha, u, hu, hr⟩
          · obtain ⟨_, h5⟩ := partV_some hv
            rcases h5 with ⟨_, h5⟩ | ⟨h5, _⟩
            · cases h5
            · rw [ha] at h5; cases h5
          · exact ⟨u, by simp only [resG, Sem.run_bind, haddr, Result.andThen_ok]; exact hrun.2 u ha hu, hr⟩
        · rename_i xs hv
          obtain rfl : (true, xs) = p := by simpa using h
          have hlen : ((arr.toList.drop j).take y.size).length = y.size := by rw [hsub.1]; exact (partV_some hv).1
          have hrun := run_loadVar_list (w := w) (tok t y hty) ⟨g, j, none⟩ _ hlen hcell
          rcases RA_part hv hsub with ⟨ha, hr⟩ | ⟨ha, u, hu, hr⟩
          · exact ⟨_, by simp only [resG, Sem.run_bind, haddr, Result.andThen_ok]; exact hrun.1 ha, hr⟩
          · obtain ⟨_, h5⟩ := partV_some hv
            rcases h5 with ⟨h5, _⟩ | ⟨_, x, _, h5⟩
            · rw [ha] at h5; cases h5
            · cases h5
        · cases h
      · cases h
    · cases h
theorem resParts_run (tok : ∀ t x, ti t = some x → TypeOK P κ t x) {M : Mu} {s : St κ} {a : Act} {w : World} (hE : RE M s.H s.env a.tmps) (hH : RH M s.H w) : ∀ (rs : List ResultVar) (ps : List (Bool × List LV)), resParts ti s rs = some ps →
    ∃ vs, (rs.mapM (resG a.tmps)).run P w = .ok vs w ∧ vs.length = ps.length ∧ ∀ (j : Nat) p v, ps[j]? = some p → vs[j]? = some v → RP M s.H p v
  | [], ps, h => by
    obtain rfl : [] = ps := by simpa [resParts] using h
    exact ⟨[], rfl, rfl, fun j p v h1 => by simp at h1⟩
  | rv :: rs, ps, h => by
    simp only [resParts] at h
    split at h
    · rename_i p hp
      split at h
      · rename_i ps' hps
        obtain rfl : p :: ps' = ps := by simpa using h
        obtain ⟨v, h1, h2⟩ := resPart_run tok hE hH hp
        obtain ⟨vs, h3, h4, h5⟩ := resParts_run tok hE hH rs ps' hps
        refine ⟨v :: vs, ?_, by simp [h4], fun j q u g1 g2 => ?_⟩
        · rw [List.mapM_cons]
          simp only [Sem.run_bind, h1, Result.andThen_ok, h3, Sem.run_pure]
        · cases j with
          | zero =>
            simp only [List.getElem?_cons_zero, Option.some.injEq] at g1 g2
            subst g1; subst g2
            exact h2
          | succ j => exact h5 j q u (by simpa using g1) (by simpa using g2)
      · cases h
    · cases h
theorem results_run (tok : ∀ t x, ti t = some x → TypeOK P κ t x) {M : Mu} {s : St κ} {a : Act} {w : World} (hE : RE M s.H s.env a.tmps) (hH : RH M s.H w) {fn : Func} {ps : List (Bool × List LV)} {v : AV}
    (hp : resParts ti s fn.results.toList = some ps) (hv : resV ps = some v) : ∃ c, (results fn a.tmps).run P w = .ok c w ∧ RA M s.H v c := by
  obtain ⟨vs, h1, h2, h3⟩ := resParts_run tok hE hH _ _ hp
  have hr : (results fn a.tmps).run P w = .ok (if h : vs.toArray.size = 1 then vs.toArray[0] else .tuple vs.toArray) w := by
    rw [results_eq, Sem.run_bind, Array.mapM_eq_mapM_toList, Sem.run_map, h1]
    rfl
  refine ⟨_, hr, ?_⟩
  unfold resV at hv
  split at hv
  · rename_i x
    obtain ⟨u, rfl⟩ : ∃ u, vs = [u] := List.length_eq_one_iff.1 (by simpa using h2)
    obtain rfl : AV.v x = v := by simpa using hv
    exact h3 0 _ u rfl rfl
  · rename_i cs
    obtain ⟨u, rfl⟩ : ∃ u, vs = [u] := List.length_eq_one_iff.1 (by simpa using h2)
    obtain rfl : AV.agg cs = v := by simpa using hv
    exact h3 0 _ u rfl rfl
  · cases hv
  · rename_i ps' hn1 hn2 hn3
    obtain rfl : AV.tup ps = v := by simpa using hv
    have hne : ¬ vs.toArray.size = 1 := by
      simp only [List.size_toArray, h2]
      intro h1
      obtain ⟨u, rfl⟩ := List.length_eq_one_iff.1 h1
      exact hn3 u rfl
    rw [dif_neg hne]
    refine ⟨vs.toArray, rfl, by simp [h2], fun j p u g1 g2 => h3 j p u g1 (by simpa using g2)⟩
theorem fin_post (tok : ∀ t x, ti t = some x → TypeOK P κ t x) {fn : Func} {rw : List Nat} {K : Ret κ → Option R} {s : St κ} (hrw : ∀ b ∈ rw, b < m) (h : fin ti fn.results.toList m rw K s = some r) {a : Act} {w : World} (hR : Rl M0 H0 w0 m N (s.env, s.H) a w) :
    ∃ c ret M H, (results fn a.tmps).run P w = .ok c w ∧ K ret = some r ∧ RA M H ret.v c ∧ RH M H w ∧ Fr M0 H0 w0 m M H w ∧ ret.rw = rw.map H ∧ (∀ (j : Nat) x, ret.bs[j]? = some x → H (m + j) = x) ∧ (∀ n, m + ret.bs.length ≤ n → H n = .fresh) := by
  unfold fin at h
  split at h
  · rename_i ps hps
    split at h
    · rename_i v hv
      simp only at h
      obtain ⟨⟨M, hE, hH, hS⟩, _, _⟩ := hR
      obtain ⟨c, hc1, hc2⟩ := results_run tok hE hH hps hv
      have hpre : ∀ i, i < m → (addNew (addNew (upto m) (refA v)) ((rw ++ (addNew (upto m) (refA v)).drop m).flatMap fun b => refB (s.H b)))[i]? = some i := by
        intro i hi
        have e1 := addNew_len (refA v) (upto m)
        rw [upto_len] at e1
        rw [addNew_pre _ _ i (by omega), addNew_pre _ _ i (by rw [upto_len]; exact hi)]
        exact upto_get m i hi
      generalize addNew (addNew (upto m) (refA v)) ((rw ++ (addNew (upto m) (refA v)).drop m).flatMap fun b => refB (s.H b)) = ρ at h hpre
      cases hd : nodupN ρ with
      | false => rw [hd] at h; cases h
      | true =>
        rw [hd] at h
        have hml : m ≤ ρ.length := by
          rcases Nat.eq_zero_or_pos m with h0 | h0
          · omega
          · have := (List.getElem?_eq_some_iff.1 (hpre (m - 1) (by omega))).1; omega
        refine ⟨c, _, renM M ρ, renH s.H ρ, hc1, h, ren_RA ρ hc2, ren_RH hd hH, ⟨hS.os, hS.tape, hS.output, hS.drawn, hS.size, hS.frame, fun n i ho hf hi => ?_, fun n hn => ?_⟩, ?_, fun j x hj => ?_, fun n hn => ?_⟩
        · cases hn : ρ[n]? with
          | none => rw [renH_none hn] at ho; cases ho
          | some b =>
            obtain ⟨e1, e2⟩ := ren_ft (M := M) (H := s.H) hn
            exact hS.orig b i (by rw [← e2]; exact ho) (by rw [← e1]; exact hf) hi
        · have hg := hpre n hn
          obtain ⟨e1, e2, e3⟩ := hS.same n hn
          exact ⟨(renM_some hg).trans e1, by rw [renH_some hg]; exact BS_ren ρ e2, e3⟩
        · exact List.map_congr_left fun b hb => (renH_some (hpre b (hrw b hb))).symm
        · rw [List.getElem?_map, List.getElem?_drop] at hj
          obtain ⟨b, hb, rfl⟩ := Option.map_eq_some_iff.1 hj
          exact renH_some hb
        · simp only [List.length_map, List.length_drop] at hn
          exact renH_none (List.getElem?_eq_none (by omega))
    · cases h
  · cases h
theorem envOf_zip (as : List AV) (t : Nat) : envOf ((as.zipIdx).map fun q => (q.2, q.1)) t = (as[t]?).getD (.v .any) := by
  have key : ∀ (as : List AV) (i t : Nat), assoc ((as.zipIdx i).map fun q => (q.2, q.1)) t = if i ≤ t then as[t - i]? else none := by
    intro as
    induction as with
    | nil => intro i t; simp [assoc]
    | cons x xs ih =>
      intro i t
      simp only [List.zipIdx_cons, List.map_cons, assoc]
      cases ht : Nat.beq t i with
      | true =>
        obtain rfl := Nat.eq_of_beq_eq_true ht
        simp
      | false =>
        rw [ih (i + 1) t]
        have hne : t ≠ i := fun e => by subst e; simp at ht
        simp only [cond_false]
        by_cases h1 : i + 1 ≤ t
        · rw [if_pos h1, if_pos (by omega), show t - i = (t - (i + 1)) + 1 by omega]; simp
        · rw [if_neg h1, if_neg (by omega)]
  unfold envOf
  rw [key as 0 t]
  simp
/-- A function's call comes to what the abstract run of its body comes to. -/
theorem fun_calls (hκ : ∀ k, (κ k).Ok) (hm : P.follows .mixedOrders = true) (tok : ∀ t x, ti t = some x → TypeOK P κ t x) (hΓ : ∀ f g, Γ f = some g → CSound P f g) {LH : Nat → Option (LHi κ)}
    {f : FuncId} {fn : Func} {c : Code} (hf : P.funcs[f]? = some fn) (hb : fn.body = some c) (hw : wfC fn.ntmps c = true) (hL : LOK ti Γ LH m (loopsOf c)) {Lr : Live} {rw : List Nat} (hrw : ∀ b ∈ rw, b < m)
    {K : Ret κ → Option R} {as : List AV} {nx : Nat} {cargs : Array Value} (hH0 : RH M0 H0 w0) (hlive : ∀ b, b < m → H0 b ≠ .fresh) (hsz : cargs.size = as.length) (hle : cargs.size ≤ fn.ntmps) (hargs : ∀ (j : Nat) x u, as[j]? = some x → cargs[j]? = some u → RA M0 H0 x u)
    (h : Code.den ti Γ LH c (finK ti fn.results.toList Lr m rw K) ⟨envOf ((as.zipIdx).map fun q => (q.2, q.1)), H0, nx⟩ = some r) :
    Calls P f cargs w0 fun e w => ∃ u ret M H, e = .returned u ∧ K ret = some r ∧ RA M H ret.v u ∧ RH M H w ∧ Fr M0 H0 w0 m M H w ∧ ret.rw = rw.map H ∧ (∀ (j : Nat) x, ret.bs[j]? = some x → H (m + j) = x) ∧ (∀ n, m + ret.bs.length ≤ n → H n = .fresh) := by
  refine calls_of_wp hf hb ?_
  have hR : Rl M0 H0 w0 m fn.ntmps ((⟨envOf ((as.zipIdx).map fun q => (q.2, q.1)), H0, nx⟩ : St κ).env, H0) { tmps := cargs ++ Array.replicate (fn.ntmps - cargs.size) undef, defers := [] } w0 := by
    refine ⟨⟨M0, fun t => ?_, hH0, Fr.refl hlive⟩, rfl, by simp; omega⟩
    simp only
    rw [envOf_zip]
    cases hx : as[t]? with
    | none => trivial
    | some x =>
      have hlt : t < cargs.size := by have := (List.getElem?_eq_some_iff.1 hx).1; omega
      have hg : (cargs ++ Array.replicate (fn.ntmps - cargs.size) undef).getD t undef = cargs[t] := by
        simp [Array.getD_eq_getD_getElem?, Array.getElem?_append, hlt]
      rw [hg]
      exact hargs t x cargs[t] hx (Array.getElem?_eq_getElem hlt)
  refine den_wp hκ hm tok hΓ c _ _ _ w0 _ hw hL h hR fun e s' a' w' hR' hK => ?_
  have hdone : finK ti fn.results.toList Lr m rw K .ret s' = some r → a'.defers = [] ∧ ∃ v, (results fn a'.tmps).run P w' = .ok v w' ∧ ∃ u ret M H, Ending.returned v = .returned u ∧ K ret = some r ∧ RA M H ret.v u ∧ RH M H w' ∧ Fr M0 H0 w0 m M H w' ∧ ret.rw = rw.map H ∧ (∀ (j : Nat) x, ret.bs[j]? = some x → H (m + j) = x) ∧ (∀ n, m + ret.bs.length ≤ n → H n = .fresh) := by
    intro hfin
    simp only [finK] at hfin
    split at hfin
    case h_2 => cases hfin
    rename_i s1 h1
    obtain ⟨u, ret, M, H, g1, g2⟩ := fin_post tok hrw hfin (unNil_sound hκ Lr _ s' s1 h1 a' w' hR')
    exact ⟨hR'.defers, u, g1, u, ret, M, H, rfl, g2⟩
  cases e with
  | normal => exact hdone hK
  | ret => exact hdone hK
  | exit id => cases hK
end
end Go.Eng

/- A function's contract over the caller's blocks. -/
set_option linter.unusedVariables false
set_option linter.unusedSimpArgs false
namespace Go.Eng
open Go
section
variable {κ : Nat → KT} {P : Program} {ti : TypeId → Option TI} {Γ : Ct κ}
variable {R : Type} {r : R} {α : Type}
/-- The callee's leaf x' stands for the caller's x. -/
def LI (n : Nat) (ns : Nms) (x x' : LV) : Prop :=
  (x'.sc = true ∧ x = x') ∨ (∃ i, x' = .sl (n + i) ∧ ((∃ b w, ns[i]? = some (some b, w) ∧ x = .sl b) ∨ (∃ w, ns[i]? = some (none, w) ∧ x = .nilsl))) ∨
  (∃ i b, x' = .ptr (n + i) 0 0 ∧ ns[i]? = some (some b, true) ∧ x = .ptr b 0 0)
def LIs (n : Nat) (ns : Nms) (xs xs' : List LV) : Prop := xs'.length = xs.length ∧ ∀ (j : Nat) x x', xs[j]? = some x → xs'[j]? = some x' → LI n ns x x'
def LIA (n : Nat) (ns : Nms) : AV → AV → Prop
  | .v x, .v x' => LI n ns x x'
  | .agg xs, .agg xs' => LIs n ns xs xs'
  | _, _ => False
/-- The blocks that come in, by the caller's names. -/
def NOK (H : Hp κ) (n : Nat) (all : Nms) (e : Option Nat × Bool) (x : Blk κ) : Prop :=
  match e with
  | (none, w) => ∃ k, x = .rows k w []
  | (some b, false) => ∃ k own l, H b = .rows k own l ∧ x = .rows k false l
  | (some b, true) => (∃ k l, H b = .rows k true l ∧ x = .rows k true l) ∨ ∃ ty cs cs', H b = .cells ty cs ∧ x = .cells ty cs' ∧ LIs n all cs cs'
theorem LI.mono {n : Nat} {pre ns post : Nms} {x x' : LV} (h : LI (n + pre.length) ns x x') : LI n (pre ++ ns ++ post) x x' := by
  have key : ∀ i q, ns[i]? = some q → (pre ++ ns ++ post)[pre.length + i]? = some q := by
    intro i q hi
    have hlt := (List.getElem?_eq_some_iff.1 hi).1
    rw [List.append_assoc, List.getElem?_append_right (by omega), show pre.length + i - pre.length = i by omega, List.getElem?_append_left hlt]
    exact hi
  rcases h with h | ⟨i, rfl, h⟩ | ⟨i, b, rfl, h1, h2⟩
  · exact .inl h
  · refine .inr (.inl ⟨pre.length + i, by rw [Nat.add_assoc], ?_⟩)
    rcases h with ⟨b, w, h1, h2⟩ | ⟨w, h1, h2⟩
    · exact .inl ⟨b, w, key _ _ h1, h2⟩
    · exact .inr ⟨w, key _ _ h1, h2⟩
  · exact .inr (.inr ⟨pre.length + i, b, by rw [Nat.add_assoc], key _ _ h1, h2⟩)
theorem LI.left {n : Nat} {ns post : Nms} {x x' : LV} (h : LI n ns x x') : LI n (ns ++ post) x x' := by simpa using LI.mono (pre := []) (post := post) h
theorem LI.right {n : Nat} {pre ns : Nms} {x x' : LV} (h : LI (n + pre.length) ns x x') : LI n (pre ++ ns) x x' := by simpa using LI.mono (post := []) h
theorem LIs.left {n : Nat} {ns post : Nms} {x x' : List LV} (h : LIs n ns x x') : LIs n (ns ++ post) x x' := ⟨h.1, fun j a b h1 h2 => (h.2 j a b h1 h2).left⟩
theorem LIs.right {n : Nat} {pre ns : Nms} {x x' : List LV} (h : LIs (n + pre.length) ns x x') : LIs n (pre ++ ns) x x' := ⟨h.1, fun j a b h1 h2 => (h.2 j a b h1 h2).right⟩
theorem LIA.left {n : Nat} {ns post : Nms} {x x' : AV} (h : LIA n ns x x') : LIA n (ns ++ post) x x' := by
  cases x <;> cases x' <;> first | exact h.elim | exact LI.left h | exact LIs.left h
theorem LIA.right {n : Nat} {pre ns : Nms} {x x' : AV} (h : LIA (n + pre.length) ns x x') : LIA n (pre ++ ns) x x' := by
  cases x <;> cases x' <;> first | exact h.elim | exact LI.right h | exact LIs.right h
theorem NOK.left {H : Hp κ} {n : Nat} {ns post : Nms} {e : Option Nat × Bool} {x : Blk κ} (h : NOK H n ns e x) : NOK H n (ns ++ post) e x := by
  obtain ⟨b, w⟩ := e
  cases b with
  | none => exact h
  | some b => cases w with
    | false => exact h
    | true => rcases h with h | ⟨ty, cs, cs', h1, h2, h3⟩
              · exact .inl h
              · exact .inr ⟨ty, cs, cs', h1, h2, h3.left⟩
theorem NOK.right {H : Hp κ} {n : Nat} {pre ns : Nms} {e : Option Nat × Bool} {x : Blk κ} (h : NOK H (n + pre.length) ns e x) : NOK H n (pre ++ ns) e x := by
  obtain ⟨b, w⟩ := e
  cases b with
  | none => exact h
  | some b => cases w with
    | false => exact h
    | true => rcases h with h | ⟨ty, cs, cs', h1, h2, h3⟩
              · exact .inl h
              · exact .inr ⟨ty, cs, cs', h1, h2, h3.right⟩
def NOKs (H : Hp κ) (n : Nat) (all ns : Nms) (bs : List (Blk κ)) : Prop := bs.length = ns.length ∧ ∀ (i : Nat) e x, ns[i]? = some e → bs[i]? = some x → NOK H n all e x
theorem NOKs.app {H : Hp κ} {n : Nat} {n1 n2 : Nms} {b1 b2 : List (Blk κ)} (h1 : NOKs H n n1 n1 b1) (h2 : NOKs H (n + n1.length) n2 n2 b2) : NOKs H n (n1 ++ n2) (n1 ++ n2) (b1 ++ b2) := by
  refine ⟨by simp [h1.1, h2.1], fun i e x g1 g2 => ?_⟩
  rw [List.getElem?_append] at g1 g2
  by_cases hi : i < n1.length
  · rw [if_pos hi] at g1
    rw [if_pos (by rw [h1.1]; exact hi)] at g2
    exact (h1.2 i e x g1 g2).left
  · rw [if_neg hi] at g1
    rw [if_neg (by rw [h1.1]; exact hi), h1.1] at g2
    exact (h2.2 _ e x g1 g2).right
theorem inL_run {sh : Ls} {x : LV} {n : Nat} {k : LV → List (Blk κ) → Nms → AP κ α} {H : Hp κ} {rs ws} {K : α → Hp κ → List Nat → List Nat → Option R} (h : (inL sh x n k).run H rs ws K = some r) :
    ∃ x' bs ns rs', ns.map (·.2) = flL sh ∧ LI n ns x x' ∧ NOKs H n ns ns bs ∧ (k x' bs ns).run H rs' ws K = some r := by
  unfold inL at h
  split at h
  · cases hs : x.sc with
    | false => rw [hs] at h; simp [AP.run] at h
    | true => rw [hs] at h; exact ⟨x, [], [], rs, rfl, .inl ⟨hs, rfl⟩, ⟨rfl, fun i e x h1 => by simp at h1⟩, h⟩
  · rename_i i
    refine ⟨_, _, _, rs, rfl, .inr (.inl ⟨0, rfl, .inr ⟨false, rfl, rfl⟩⟩), ⟨rfl, fun j e x h1 h2 => ?_⟩, h⟩
    cases j with
    | zero => simp at h1 h2; subst h1; subst h2; exact ⟨i, rfl⟩
    | succ j => simp at h1
  · rename_i i b
    simp only [AP.run] at h
    obtain ⟨own, l, hb, h⟩ := asRows h
    refine ⟨_, _, _, _, rfl, .inr (.inl ⟨0, rfl, .inl ⟨b, false, rfl, rfl⟩⟩), ⟨rfl, fun j e x h1 h2 => ?_⟩, h⟩
    cases j with
    | zero => simp at h1 h2; subst h1; subst h2; exact ⟨i, own, l, hb, rfl⟩
    | succ j => simp at h1
  · rename_i i
    refine ⟨_, _, _, rs, rfl, .inr (.inl ⟨0, rfl, .inr ⟨true, rfl, rfl⟩⟩), ⟨rfl, fun j e x h1 h2 => ?_⟩, h⟩
    cases j with
    | zero => simp at h1 h2; subst h1; subst h2; exact ⟨i, rfl⟩
    | succ j => simp at h1
  · rename_i i b
    simp only [AP.run] at h
    obtain ⟨own, l, hb, h⟩ := asRows h
    cases own with
    | false => simp [AP.run] at h
    | true =>
      refine ⟨_, _, _, _, rfl, .inr (.inl ⟨0, rfl, .inl ⟨b, true, rfl, rfl⟩⟩), ⟨rfl, fun j e x h1 h2 => ?_⟩, h⟩
      cases j with
      | zero => simp at h1 h2; subst h1; subst h2; exact .inl ⟨i, l, hb, rfl⟩
      | succ j => simp at h1
  · simp [AP.run] at h
theorem inLs_run {H : Hp κ} {K : α → Hp κ → List Nat → List Nat → Option R} : ∀ (ss : List Ls) (xs : List LV) (n : Nat) (k : List LV → List (Blk κ) → Nms → AP κ α) (rs ws : List Nat), (inLs ss xs n k).run H rs ws K = some r →
    ∃ xs' bs ns rs', ns.map (·.2) = ss.flatMap flL ∧ LIs n ns xs xs' ∧ NOKs H n ns ns bs ∧ (k xs' bs ns).run H rs' ws K = some r
  | [], [], n, k, rs, ws, h => ⟨[], [], [], rs, rfl, ⟨rfl, fun j x x' h1 => by simp at h1⟩, ⟨rfl, fun i e x h1 => by simp at h1⟩, h⟩
  | s :: ss, x :: xs, n, k, rs, ws, h => by
    simp only [inLs] at h
    obtain ⟨x', b1, n1, rs1, f1, h1, h2, h⟩ := inL_run h
    obtain ⟨xs', b2, n2, rs2, f2, h3, h4, h⟩ := inLs_run ss xs _ _ _ _ h
    refine ⟨_, _, _, _, by rw [List.map_append, f1, f2]; rfl, ⟨by simp [h3.1], fun j y y' g1 g2 => ?_⟩, h2.app h4, h⟩
    cases j with
    | zero => simp at g1 g2; subst g1; subst g2; exact h1.left
    | succ j => exact (h3.2 j y y' (by simpa using g1) (by simpa using g2)).right
  | [], _ :: _, n, k, rs, ws, h => by simp [inLs, AP.run] at h
  | _ :: _, [], n, k, rs, ws, h => by simp [inLs, AP.run] at h
theorem inP_run {sh : PSh} {x : AV} {n : Nat} {k : AV → List (Blk κ) → Nms → AP κ α} {H : Hp κ} {rs ws} {K : α → Hp κ → List Nat → List Nat → Option R} (h : (inP sh x n k).run H rs ws K = some r) :
    ∃ x' bs ns rs', ns.map (·.2) = flP sh ∧ LIA n ns x x' ∧ NOKs H n ns ns bs ∧ (k x' bs ns).run H rs' ws K = some r := by
  unfold inP at h
  split at h
  · obtain ⟨x', bs, ns, rs', f1, h1, h2, h⟩ := inL_run h
    exact ⟨.v x', bs, ns, rs', f1, h1, h2, h⟩
  · obtain ⟨x', bs, ns, rs', f1, h1, h2, h⟩ := inLs_run _ _ _ _ _ _ h
    exact ⟨.agg x', bs, ns, rs', f1, h1, h2, h⟩
  · rename_i ty ss b
    simp only [AP.run] at h
    split at h
    · rename_i ty' cs hb
      cases ht : Nat.beq ty ty' with
      | false => rw [ht] at h; simp [AP.run] at h
      | true =>
        obtain rfl := Nat.eq_of_beq_eq_true ht
        rw [ht] at h
        obtain ⟨cs', bs, ns, rs', f1, h1, h2, h⟩ := inLs_run _ _ _ _ _ _ h
        refine ⟨.v (.ptr n 0 0), _, _, rs', by simp [f1, flP], .inr (.inr ⟨0, b, rfl, rfl, rfl⟩), ⟨by simp [h2.1], fun i e x g1 g2 => ?_⟩, h⟩
        cases i with
        | zero =>
          simp at g1 g2; subst g1; subst g2
          exact .inr ⟨ty, cs, cs', hb, rfl, LIs.right (pre := [(some b, true)]) h1⟩
        | succ i => exact NOK.right (pre := [(some b, true)]) (h2.2 i e x (by simpa using g1) (by simpa using g2))
    · simp [AP.run] at h
  · simp [AP.run] at h
theorem inPs_run {H : Hp κ} {K : α → Hp κ → List Nat → List Nat → Option R} : ∀ (ss : List PSh) (xs : List AV) (n : Nat) (k : List AV → List (Blk κ) → Nms → AP κ α) (rs ws : List Nat), (inPs ss xs n k).run H rs ws K = some r →
    ∃ xs' bs ns rs', ns.map (·.2) = flags ss ∧ xs.length = ss.length ∧ xs'.length = xs.length ∧ (∀ (j : Nat) x x', xs[j]? = some x → xs'[j]? = some x' → LIA n ns x x') ∧ NOKs H n ns ns bs ∧ (k xs' bs ns).run H rs' ws K = some r
  | [], [], n, k, rs, ws, h => ⟨[], [], [], rs, rfl, rfl, rfl, fun j x x' h1 => by simp at h1, ⟨rfl, fun i e x h1 => by simp at h1⟩, h⟩
  | s :: ss, x :: xs, n, k, rs, ws, h => by
    simp only [inPs] at h
    obtain ⟨x', b1, n1, rs1, f1, h1, h2, h⟩ := inP_run h
    obtain ⟨xs', b2, n2, rs2, f2, f3, h0, h3, h4, h⟩ := inPs_run ss xs _ _ _ _ h
    refine ⟨_, _, _, _, by rw [List.map_append, f1, f2]; rfl, by simp [f3], by simp [h0], fun j y y' g1 g2 => ?_, h2.app h4, h⟩
    cases j with
    | zero => simp at g1 g2; subst g1; subst g2; exact h1.left
    | succ j => exact (h3 j y y' (by simpa using g1) (by simpa using g2)).right
  | [], _ :: _, n, k, rs, ws, h => by simp [inPs, AP.run] at h
  | _ :: _, [], n, k, rs, ws, h => by simp [inPs, AP.run] at h
theorem rwOk_spec : ∀ (ns : Nms), rwOk ns = true → ∀ (i j : Nat) b w w', i ≠ j → ns[i]? = some (some b, w) → ns[j]? = some (some b, w') → w = false ∧ w' = false := by
  have key : ∀ (ns : Nms), rwOk ns = true → ∀ (i j : Nat) b w w', i < j → ns[i]? = some (some b, w) → ns[j]? = some (some b, w') → w = false ∧ w' = false := by
    intro ns
    induction ns with
    | nil => intro _ i j b w w' _ h1; simp at h1
    | cons q ns ih =>
      intro h i j b w w' hij h1 h2
      obtain ⟨j, rfl⟩ : ∃ n, j = n + 1 := ⟨j - 1, by omega⟩
      simp only [List.getElem?_cons_succ] at h2
      obtain ⟨qb, qw⟩ := q
      cases i with
      | zero =>
        simp only [List.getElem?_cons_zero, Option.some.injEq, Prod.mk.injEq] at h1
        obtain ⟨rfl, rfl⟩ := h1
        simp only [rwOk, Bool.and_eq_true] at h
        have := List.all_eq_true.1 h.1 _ (List.mem_of_getElem? h2)
        simp at this
        exact this
      | succ i =>
        have hr : rwOk ns = true := by
          cases qb with
          | none => exact h
          | some b' => simp only [rwOk, Bool.and_eq_true] at h; exact h.2
        exact ih hr i j b w w' (by omega) (by simpa using h1) h2
  intro ns h i j b w w' hij h1 h2
  rcases Nat.lt_or_gt_of_ne hij with hl | hl
  · exact key ns h i j b w w' hl h1 h2
  · exact (key ns h j i b w' w hl h2 h1).symm
end
end Go.Eng

/- A function's contract over the caller's blocks holds. -/
set_option linter.unusedVariables false
set_option linter.unusedSimpArgs false
namespace Go.Eng
open Go
section
variable {κ : Nat → KT} {P : Program} {ti : TypeId → Option TI} {Γ : Ct κ}
variable {R : Type} {r : R} {α : Type}
/-! ### the caller's blocks behind the call -/
def putH (nm : Nat) (all : Nms) (H : Hp κ) : List (Nat × Option Nat) → List (Blk κ) → Hp κ
  | (_, some b) :: ns, x :: xs => putH nm all (updH H b (outB nm all x)) ns xs
  | (_, none) :: ns, _ :: xs => putH nm all H ns xs
  | _, _ => H
def newH (nm0 : Nat) (all : Nms) (H : Hp κ) : Nat → List (Blk κ) → Hp κ
  | nm, x :: xs => newH nm0 all (updH H nm (outB nm0 all x)) (nm + 1) xs
  | _, [] => H
theorem putAll_run {nm : Nat} {all : Nms} {K : α → Hp κ → List Nat → List Nat → Option R} {k : AP κ α} : ∀ (ns : List (Nat × Option Nat)) (xs : List (Blk κ)) (H : Hp κ) (rs ws : List Nat), (putAll nm all ns xs k).run H rs ws K = some r →
    ns.length = xs.length ∧ ∃ ws', k.run (putH nm all H ns xs) rs ws' K = some r
  | [], [], H, rs, ws, h => ⟨rfl, ws, h⟩
  | (i, some b) :: ns, x :: xs, H, rs, ws, h => by
    simp only [putAll, AP.run] at h
    obtain ⟨h1, ws', h2⟩ := putAll_run ns xs _ rs _ h
    exact ⟨by simp [h1], ws', h2⟩
  | (i, none) :: ns, x :: xs, H, rs, ws, h => by
    simp only [putAll] at h
    obtain ⟨h1, ws', h2⟩ := putAll_run ns xs _ rs _ h
    exact ⟨by simp [h1], ws', h2⟩
  | [], _ :: _, H, rs, ws, h => by simp [putAll, AP.run] at h
  | (_, some _) :: _, [], H, rs, ws, h => by simp [putAll, AP.run] at h
  | (_, none) :: _, [], H, rs, ws, h => by simp [putAll, AP.run] at h
theorem newAll_run {nm0 : Nat} {all : Nms} {K : AV → Hp κ → List Nat → List Nat → Option R} {k : AP κ AV} : ∀ (xs : List (Blk κ)) (nm : Nat) (H : Hp κ) (rs ws : List Nat), (newAll nm0 all nm xs k).run H rs ws K = some r →
    (∀ j, j < xs.length → H (nm + j) = .fresh) ∧ (∀ x ∈ xs, ownBlk x = true) ∧ ∃ rs' ws', k.run (newH nm0 all H nm xs) rs' ws' K = some r
  | [], nm, H, rs, ws, h => ⟨fun j hj => by simp at hj, fun x hx => by simp at hx, rs, ws, by simpa [newAll, newH] using h⟩
  | x :: xs, nm, H, rs, ws, h => by
    simp only [newAll] at h
    cases ho : ownBlk x with
    | false => rw [ho] at h; simp [AP.run] at h
    | true =>
      rw [ho] at h
      obtain ⟨hf, h⟩ := run_newBlk (p := newAll nm0 all (nm + 1) xs k) h
      obtain ⟨h1, h2, rs', ws', h3⟩ := newAll_run xs (nm + 1) _ _ _ h
      refine ⟨fun j hj => ?_, fun y hy => ?_, rs', ws', h3⟩
      · cases j with
        | zero => exact hf
        | succ j =>
          have := h1 j (by simpa using hj)
          rw [updH_ne (by omega)] at this
          rwa [show nm + 1 + j = nm + (j + 1) by omega] at this
      · rcases List.mem_cons.1 hy with rfl | hy
        · exact ho
        · exact h2 y hy
theorem putH_other {nm : Nat} {all : Nms} {b : Nat} : ∀ (ns : List (Nat × Option Nat)) (xs : List (Blk κ)) (H : Hp κ), (∀ q ∈ ns, q.2 ≠ some b) → putH nm all H ns xs b = H b
  | [], xs, H, h => by cases xs <;> rfl
  | (i, some b') :: ns, x :: xs, H, h => by
    simp only [putH]
    rw [putH_other ns xs _ (fun q hq => h q (by simp [hq])), updH_ne (fun e => h (i, some b') (by simp) (by rw [e]))]
  | (i, none) :: ns, x :: xs, H, h => by
    simp only [putH]
    exact putH_other ns xs _ (fun q hq => h q (by simp [hq]))
  | (_, some _) :: _, [], H, h => rfl
  | (_, none) :: _, [], H, h => rfl
theorem putH_at {nm : Nat} {all : Nms} {b : Nat} {x : Blk κ} : ∀ (ns : List (Nat × Option Nat)) (xs : List (Blk κ)) (H : Hp κ) (p i : Nat), (∀ (p q i j : Nat), p < q → ns[p]? = some (i, some b) → ns[q]? = some (j, some b) → False) →
    ns[p]? = some (i, some b) → xs[p]? = some x → putH nm all H ns xs b = outB nm all x
  | [], xs, H, p, i, hd, h1, h2 => by simp at h1
  | (i', q) :: ns, [], H, p, i, hd, h1, h2 => by simp at h2
  | (i', some b') :: ns, y :: xs, H, p, i, hd, h1, h2 => by
    simp only [putH]
    cases p with
    | zero =>
      simp only [List.getElem?_cons_zero, Option.some.injEq, Prod.mk.injEq] at h1 h2
      obtain ⟨rfl, rfl⟩ := h1
      subst h2
      rw [putH_other ns xs _ (fun q hq e => by
        obtain ⟨n, hn⟩ := List.mem_iff_getElem?.1 hq
        obtain ⟨j, qb⟩ := q
        simp only at e
        subst e
        exact hd 0 (n + 1) i' j (by omega) rfl (by simpa using hn)), updH_same]
    | succ p => exact putH_at ns xs _ p i (fun p q i j hpq g1 g2 => hd (p + 1) (q + 1) i j (by omega) (by simpa using g1) (by simpa using g2)) (by simpa using h1) (by simpa using h2)
  | (i', none) :: ns, y :: xs, H, p, i, hd, h1, h2 => by
    simp only [putH]
    cases p with
    | zero => simp at h1
    | succ p => exact putH_at ns xs _ p i (fun p q i j hpq g1 g2 => hd (p + 1) (q + 1) i j (by omega) (by simpa using g1) (by simpa using g2)) (by simpa using h1) (by simpa using h2)
theorem newH_other {nm0 : Nat} {all : Nms} {n : Nat} : ∀ (xs : List (Blk κ)) (nm : Nat) (H : Hp κ), (n < nm ∨ nm + xs.length ≤ n) → newH nm0 all H nm xs n = H n
  | [], nm, H, h => rfl
  | x :: xs, nm, H, h => by
    simp only [newH]
    simp only [List.length_cons] at h
    rw [newH_other xs (nm + 1) _ (by omega), updH_ne (by omega)]
theorem newH_at {nm0 : Nat} {all : Nms} {x : Blk κ} : ∀ (xs : List (Blk κ)) (nm : Nat) (H : Hp κ) (j : Nat), xs[j]? = some x → newH nm0 all H nm xs (nm + j) = outB nm0 all x
  | [], nm, H, j, h => by simp at h
  | y :: xs, nm, H, j, h => by
    simp only [newH]
    cases j with
    | zero =>
      simp only [List.getElem?_cons_zero, Option.some.injEq] at h
      subst h
      rw [newH_other xs (nm + 1) _ (by omega), Nat.add_zero, updH_same]
    | succ j =>
      have := newH_at (nm0 := nm0) (all := all) xs (nm + 1) (updH H nm (outB nm0 all y)) j (by simpa using h)
      rwa [show nm + 1 + j = nm + (j + 1) by omega] at this
theorem rwN_get : ∀ (ns : Nms) (i0 p i : Nat) (b : Option Nat), (rwN ns i0)[p]? = some (i, b) → i0 ≤ i ∧ ns[i - i0]? = some (b, true)
  | [], i0, p, i, b, h => by simp [rwN] at h
  | (c, true) :: ns, i0, p, i, b, h => by
    simp only [rwN] at h
    cases p with
    | zero =>
      simp only [List.getElem?_cons_zero, Option.some.injEq, Prod.mk.injEq] at h
      obtain ⟨rfl, rfl⟩ := h
      exact ⟨Nat.le_refl _, by simp⟩
    | succ p =>
      obtain ⟨h1, h2⟩ := rwN_get ns (i0 + 1) p i b (by simpa using h)
      refine ⟨by omega, ?_⟩
      rw [show i - i0 = (i - (i0 + 1)) + 1 by omega]
      simpa using h2
  | (c, false) :: ns, i0, p, i, b, h => by
    simp only [rwN] at h
    obtain ⟨h1, h2⟩ := rwN_get ns (i0 + 1) p i b h
    refine ⟨by omega, ?_⟩
    rw [show i - i0 = (i - (i0 + 1)) + 1 by omega]
    simpa using h2
theorem rwN_incr : ∀ (ns : Nms) (i0 p q i j : Nat) (b c : Option Nat), p < q → (rwN ns i0)[p]? = some (i, b) → (rwN ns i0)[q]? = some (j, c) → i < j
  | [], i0, p, q, i, j, b, c, hpq, h1, h2 => by simp [rwN] at h1
  | (e, true) :: ns, i0, p, q, i, j, b, c, hpq, h1, h2 => by
    simp only [rwN] at h1 h2
    obtain ⟨q, rfl⟩ : ∃ n, q = n + 1 := ⟨q - 1, by omega⟩
    cases p with
    | zero =>
      simp only [List.getElem?_cons_zero, Option.some.injEq, Prod.mk.injEq] at h1
      have := (rwN_get ns (i0 + 1) q j c (by simpa using h2)).1
      omega
    | succ p => exact rwN_incr ns (i0 + 1) p q i j b c (by omega) (by simpa using h1) (by simpa using h2)
  | (e, false) :: ns, i0, p, q, i, j, b, c, hpq, h1, h2 => by
    simp only [rwN] at h1 h2
    exact rwN_incr ns (i0 + 1) p q i j b c hpq h1 h2
theorem rwN_mem : ∀ (ns : Nms) (i0 i : Nat) (b : Option Nat), ns[i]? = some (b, true) → ∃ p : Nat, (rwN ns i0)[p]? = some (i0 + i, b)
  | [], i0, i, b, h => by simp at h
  | (c, w) :: ns, i0, i, b, h => by
    cases i with
    | zero =>
      simp only [List.getElem?_cons_zero, Option.some.injEq, Prod.mk.injEq] at h
      obtain ⟨rfl, rfl⟩ := h
      exact ⟨0, rfl⟩
    | succ i =>
      obtain ⟨p, hp⟩ := rwN_mem ns (i0 + 1) i b (by simpa using h)
      rw [show i0 + 1 + i = i0 + (i + 1) by omega] at hp
      cases w with
      | true => exact ⟨p + 1, by simpa [rwN] using hp⟩
      | false => exact ⟨p, by simpa [rwN] using hp⟩
theorem rwN_idx : ∀ (ns : Nms) (i0 : Nat), (rwN ns i0).map (·.1) = rwI (ns.map (·.2)) i0
  | [], i0 => rfl
  | (c, true) :: ns, i0 => by simp [rwN, rwI, rwN_idx ns (i0 + 1)]
  | (c, false) :: ns, i0 => by simp [rwN, rwI, rwN_idx ns (i0 + 1)]
theorem ownBlk_eq (x : Blk κ) : ownBlk x = ownB x := by cases x <;> rfl
theorem outB_ft {M M' : Mu} {H H' : Hp κ} {nm : Nat} {all : Nms} {n n' : Nat} (h1 : H' n' = outB nm all (H n)) (h2 : M' n' = M n) : ft M' H' n' = ft M H n ∧ ownB (H' n') = ownB (H n) := by
  unfold ft
  rw [h1, h2]
  cases H n <;> exact ⟨rfl, rfl⟩
theorem ro_of {M : Mu} {H : Hp κ} {w : World} (hκ : ∀ k, (κ k).Ok) {b k : Nat} {own : Bool} {l : List (κ k).T} (h : RB M H w b (.rows k own l)) (M' : Mu) (H' : Hp κ) (n : Nat) (hM : M' n = M b) : RB M' H' w n (.rows k false l) := by
  obtain ⟨A, c, h1, h2, h3⟩ := rows_len hκ h
  refine ⟨A, c, hM.trans h1, h2, h3, fun hp => ?_⟩
  obtain ⟨ad, n', cap, hm, hc⟩ := rows_cells hκ h hp
  rw [h1] at hm
  injection hm with hA
  exact ⟨ad, hA, hc⟩
/-- Values go on where names keep their machine's handle and blocks their length. -/
theorem keep_BS {M M' : Mu} {H H' : Hp κ} {w : World} (hH : RH M H w) (hM : ∀ b, H b ≠ .fresh → M' b = M b) (hB : ∀ b, BS (H b) (H' b)) : ∀ x c, RL M H x c → RL M' H' x c := by
  intro x c h
  have one := RL_one hH (x := x) (c := c)
  cases x <;> try exact h
  · rename_i b
    have h1 := hB b
    have h2 := one rfl h
    simp only [RL] at h ⊢
    cases hx : H b with
    | fresh => rw [hx] at h; exact h.elim
    | dead => rw [hx] at h1; rw [show H' b = .dead from h1]; exact h2
    | cells ty cs => rw [hx] at h; exact h.elim
    | rows k own l =>
      rw [hx] at h h1
      have hm := hM b (by rw [hx]; simp)
      cases own
      · rw [show H' b = .rows k false l from h1]; exact h.trans hm.symm
      · rcases h1 with h1 | ⟨o', l', h1, _⟩ <;> rw [h1]
        · exact h2
        · exact h.trans hm.symm
  · rename_i b i j
    have h1 := hB b
    have h2 := one rfl h
    simp only [RL] at h ⊢
    cases hx : H b with
    | fresh => rw [hx] at h; exact h.elim
    | dead => rw [hx] at h1; rw [show H' b = .dead from h1]; exact h2
    | cells ty cs =>
      rw [hx] at h h1
      have hm := hM b (by rw [hx]; simp)
      rcases h1 with h1 | ⟨cs', h1, _⟩ <;> rw [h1]
      · exact h2
      · rw [hm]; exact h
    | rows k own l =>
      rw [hx] at h h1
      have hm := hM b (by rw [hx]; simp)
      cases own
      · rw [show H' b = .rows k false l from h1, hm]; exact h
      · rcases h1 with h1 | ⟨o', l', h1, h3⟩ <;> rw [h1]
        · exact h2
        · simp only; rw [hm, h3]; exact h
theorem rwI_lt : ∀ (fs : List Bool) (i b : Nat), b ∈ rwI fs i → b < i + fs.length
  | [], i, b, h => by simp [rwI] at h
  | true :: fs, i, b, h => by
    simp only [rwI, List.mem_cons] at h
    rcases h with rfl | h
    · simp
    · have := rwI_lt fs (i + 1) b h
      simp; omega
  | false :: fs, i, b, h => by
    simp only [rwI] at h
    have := rwI_lt fs (i + 1) b h
    simp; omega
/-- A contract holds where each call of its body does as the contract says. -/
theorem csoundG (hκ : ∀ k, (κ k).Ok) {f : FuncId} (henter : ∀ args w, (callFunc f args).run P w = .ok (.enter f args) w) (sig : List PSh) (body : List AV → List (Blk κ) → Option (Lf κ))
    (HC : ∀ as bs lf y, as.length = sig.length → body as bs = some lf → lf.o = some y → ∀ (M0 : Mu) (w : World) (cargs : Array Value), RH M0 (hpOf bs) w → (∀ b, b < (flags sig).length → hpOf bs b ≠ .fresh) → cargs.size = as.length →
      (∀ (j : Nat) x u, as[j]? = some x → cargs[j]? = some u → RA M0 (hpOf bs) x u) → Calls P f cargs w fun e w' => ∃ u M H, e = .returned u ∧ RA M H (lf.g y).v u ∧ RH M H w' ∧ Fr M0 (hpOf bs) w (flags sig).length M H w' ∧ (lf.g y).rw = (rwI (flags sig) 0).map H ∧
        (∀ (j : Nat) x, (lf.g y).bs[j]? = some x → H ((flags sig).length + j) = x) ∧ (∀ n, (flags sig).length + (lf.g y).bs.length ≤ n → H n = .fresh)) :
    CSound P f (contract sig body) := by
  refine ⟨henter, fun {R} nm args cargs M H w K r hsz hargs hH h => ?_⟩
  unfold contract at h
  obtain ⟨as, bs, ns, rs1, hfl, hsl, hlen, hLI, hN, h⟩ := inPs_run _ _ _ _ _ _ h
  have hsig : as.length = sig.length := hlen.trans hsl
  cases hrw : rwOk ns with
  | false => rw [hrw] at h; simp [AP.run] at h
  | true =>
    rw [hrw] at h
    simp only [cond_true] at h
    split at h
    · rename_i lf hlf
      simp only [AP.run] at h
      obtain ⟨y, hy, h⟩ := Option.bind_eq_some_iff.1 h
      have HCy := HC as bs lf y hsig hlf hy
      unfold outgo at h
      obtain ⟨pl, ws1, h⟩ := putAll_run _ _ _ _ _ h
      obtain ⟨nf, no, rs2, ws2, h⟩ := newAll_run _ _ _ _ _ h
      simp only [AP.run] at h
      refine ⟨_, _, _, _, h, ?_⟩
      have hml : ns.length = (flags sig).length := by rw [← hfl]; simp
      have hrwI : rwI (flags sig) 0 = (rwN ns 0).map (·.1) := by rw [rwN_idx, hfl]
      generalize (flags sig).length = m at hml HCy
      obtain ⟨hbl, hN⟩ := hN
      let M0 : Mu := fun i => match ns[i]? with | some (some b, _) => M b | _ => .slice none 0 0
      have hM0s : ∀ (i b : Nat) w', ns[i]? = some (some b, w') → M0 i = M b := fun i b w' hi => by simp only [M0, hi]
      have hM0n : ∀ (i : Nat) w', ns[i]? = some (none, w') → M0 i = .slice none 0 0 := fun i w' hi => by simp only [M0, hi]
      have hNi : ∀ (i : Nat) e, ns[i]? = some e → NOK H 0 ns e (hpOf bs i) ∧ i < m := by
        intro i e hi
        have hlt := (List.getElem?_eq_some_iff.1 hi).1
        have hx := List.getElem?_eq_getElem (l := bs) (i := i) (by omega)
        refine ⟨?_, by omega⟩
        have := hN i e _ hi hx
        simpa [hpOf, hx] using this
      have hNo : ∀ (i : Nat), ns[i]? = none → hpOf bs i = .fresh := by
        intro i hi
        have := List.getElem?_eq_none_iff.1 hi
        simp [hpOf, List.getElem?_eq_none (show bs.length ≤ i by omega)]
      have leaf : ∀ x x' c, LI 0 ns x x' → RL M H x c → RL M0 (hpOf bs) x' c := by
        rintro x x' c (⟨h1, rfl⟩ | ⟨i, rfl, h2⟩ | ⟨i, b, rfl, h1, rfl⟩) hx
        · have := RL_sc h1 hx
          rw [this]; exact sc_RL h1
        · rw [Nat.zero_add]
          rcases h2 with ⟨b, w', h1, rfl⟩ | ⟨w', h1, rfl⟩
          · obtain ⟨hk, _⟩ := hNi i _ h1
            simp only [RL] at hx ⊢
            rw [hM0s i b w' h1]
            cases w' with
            | false =>
              obtain ⟨k, own, l, g1, g2⟩ := hk
              rw [g2]; rw [g1] at hx; exact hx
            | true =>
              rcases hk with ⟨k, l, g1, g2⟩ | ⟨ty, cs, cs', g1, g2, _⟩
              · rw [g2]; rw [g1] at hx; exact hx
              · rw [g1] at hx; exact hx.elim
          · obtain ⟨⟨k, g2⟩, _⟩ := hNi i _ h1
            simp only [RL] at hx ⊢
            rw [hM0n i w' h1, g2]; exact hx
        · rw [Nat.zero_add]
          obtain ⟨hk, _⟩ := hNi i _ h1
          simp only [RL] at hx ⊢
          rw [hM0s i b true h1]
          rcases hk with ⟨k, l, g1, g2⟩ | ⟨ty, cs, cs', g1, g2, _⟩
          · rw [g2]; rw [g1] at hx; exact hx
          · rw [g2]; rw [g1] at hx; exact hx
      have leafs : ∀ cs cs' vs, LIs 0 ns cs cs' → RLs M H cs vs → RLs M0 (hpOf bs) cs' vs := by
        intro cs cs' vs h1 h2
        refine ⟨by rw [h2.1, h1.1], fun j x' c g1 g2 => ?_⟩
        have hj : j < cs.length := by have := (List.getElem?_eq_some_iff.1 g1).1; have := h1.1; omega
        have hx := List.getElem?_eq_getElem hj
        exact leaf _ _ _ (h1.2 j _ _ hx g1) (h2.2 j _ _ hx g2)
      have ftn : ∀ (n b : Nat) w' g, ns[n]? = some (some b, w') → ft M0 (hpOf bs) n = some g → ft M H b = some g := by
        intro n b w' g hn hg
        obtain ⟨hk, _⟩ := hNi n _ hn
        have hm0 := hM0s n b w' hn
        unfold ft at hg ⊢
        rw [hm0] at hg
        cases w' with
        | false =>
          obtain ⟨k, own, l, g1, g2⟩ := hk
          rw [g2] at hg; rw [g1]
          cases own
          · exact hg
          · simp only at hg ⊢
            split at hg
            · cases hg
            · exact hg
        | true =>
          rcases hk with ⟨k, l, g1, g2⟩ | ⟨ty, cs, cs', g1, g2, _⟩
          · rw [g2] at hg; rw [g1]; exact hg
          · rw [g2] at hg; rw [g1]; exact hg
      have ftno : ∀ (n : Nat) w', ns[n]? = some (none, w') → ft M0 (hpOf bs) n = none := by
        intro n w' hn
        obtain ⟨⟨k, g2⟩, _⟩ := hNi n _ hn
        unfold ft
        rw [g2, hM0n n w' hn]
        cases w' <;> simp [hb]
      have ownn : ∀ n, ownB (hpOf bs n) = true → ∃ q, ns[n]? = some (q, true) := by
        intro n ho
        cases hn : ns[n]? with
        | none => rw [hNo n hn] at ho; cases ho
        | some e =>
          obtain ⟨q, w'⟩ := e
          obtain ⟨hk, _⟩ := hNi n _ hn
          cases q with
          | none =>
            obtain ⟨k, g2⟩ := hk
            rw [g2] at ho
            have : w' = true := ho
            subst this
            exact ⟨_, rfl⟩
          | some b =>
            cases w' with
            | true => exact ⟨_, rfl⟩
            | false => obtain ⟨k, own, l, g1, g2⟩ := hk; rw [g2] at ho; cases ho
      have hRH0 : RH M0 (hpOf bs) w := by
        refine ⟨fun n => ?_, fun n n' g hne ho hfn hfn' => ?_, fun p hp => ?_⟩
        · cases hn : ns[n]? with
          | none => rw [hNo n hn]; trivial
          | some e =>
            obtain ⟨q, w'⟩ := e
            obtain ⟨hk, _⟩ := hNi n _ hn
            cases q with
            | none =>
              obtain ⟨k, g2⟩ := hk
              rw [g2]
              have h0 := hM0n n w' hn
              cases w' with
              | false => exact ⟨none, 0, by rw [h0]; rfl, Nat.le_refl _, fun _ => rfl, fun hp => absurd hp (by simp)⟩
              | true => show w.ownsRow 0 _ _ (M0 n) _ _; rw [h0]; exact World.ownsRow_nil w 0 _ _
            | some b =>
              have h0 := hM0s n b w' hn
              have hbk := hH.blk b
              cases w' with
              | false =>
                obtain ⟨k, own, l, g1, g2⟩ := hk
                rw [g1] at hbk
                rw [g2]
                exact ro_of hκ hbk _ _ n h0
              | true =>
                rcases hk with ⟨k, l, g1, g2⟩ | ⟨ty, cs, cs', g1, g2, g3⟩
                · rw [g1] at hbk
                  rw [g2]
                  show w.ownsRow 0 _ _ (M0 n) _ _
                  rw [h0]; exact hbk
                · rw [g1] at hbk
                  rw [g2]
                  obtain ⟨g, arr, e1, e2, e3⟩ := hbk
                  exact ⟨g, arr, h0.trans e1, e2, leafs cs cs' _ g3 e3⟩
        · obtain ⟨q, hq⟩ := ownn n ho
          cases q with
          | none => rw [ftno n true hq] at hfn; cases hfn
          | some b =>
            have hfb := ftn n b true g hq hfn
            obtain ⟨hk, _⟩ := hNi n _ hq
            have hob : ownB (H b) = true := by
              rcases hk with ⟨k, l, g1, g2⟩ | ⟨ty, cs, cs', g1, g2, g3⟩ <;> rw [g1] <;> rfl
            cases hn' : ns[n']? with
            | none => unfold ft at hfn'; rw [hNo n' hn'] at hfn'; cases hfn'
            | some e =>
              obtain ⟨q', w'⟩ := e
              cases q' with
              | none => rw [ftno n' w' hn'] at hfn'; cases hfn'
              | some b' =>
                have hfb' := ftn n' b' w' g hn' hfn'
                refine hH.sep b b' g (fun e => ?_) hob hfb hfb'
                subst e
                have := (rwOk_spec ns hrw n n' b true w' hne hq hn').1
                cases this
        · obtain ⟨o, h1, h2, h3⟩ := hH.pin p hp
          refine ⟨o, h1, h2, fun n ho hfn => ?_⟩
          obtain ⟨q, hq⟩ := ownn n ho
          cases q with
          | none => rw [ftno n true hq] at hfn; cases hfn
          | some b =>
            have hfb := ftn n b true p.1 hq hfn
            obtain ⟨hk, _⟩ := hNi n _ hq
            have hob : ownB (H b) = true := by
              rcases hk with ⟨k, l, g1, g2⟩ | ⟨ty, cs, cs', g1, g2, g3⟩ <;> rw [g1] <;> rfl
            exact h3 b hob hfb
      have hlive : ∀ b, b < m → hpOf bs b ≠ .fresh := by
        intro b hbm
        have hn := List.getElem?_eq_getElem (l := ns) (i := b) (by omega)
        obtain ⟨hk, _⟩ := hNi b _ hn
        generalize ns[b] = e at hk
        obtain ⟨q, w'⟩ := e
        cases q with
        | none => obtain ⟨k, g2⟩ := hk; rw [g2]; simp
        | some b' =>
          cases w' with
          | false => obtain ⟨k, own, l, g1, g2⟩ := hk; rw [g2]; simp
          | true => rcases hk with ⟨k, l, g1, g2⟩ | ⟨ty, cs, cs', g1, g2, g3⟩ <;> rw [g2] <;> simp
      have hrwlt : ∀ b ∈ rwI (flags sig) 0, b < m := by
        intro b hb'
        rw [hrwI] at hb'
        obtain ⟨q, hq, rfl⟩ := List.mem_map.1 hb'
        obtain ⟨p, hp⟩ := List.mem_iff_getElem?.1 hq
        obtain ⟨i, c'⟩ := q
        have := (rwN_get ns 0 p i c' hp).2
        exact (hNi _ _ this).2
      have hra : ∀ (j : Nat) x u, as[j]? = some x → cargs[j]? = some u → RA M0 (hpOf bs) x u := by
        intro j x u h1 h2
        have hj : j < args.length := by have := (List.getElem?_eq_some_iff.1 h1).1; omega
        have hx := List.getElem?_eq_getElem hj
        have hli := hLI j _ x hx h1
        have hrx := hargs j _ u hx h2
        generalize args[j] = x0 at hli hrx
        cases x0 <;> cases x <;> first | exact hli.elim | skip
        · exact leaf _ _ _ hli hrx
        · obtain ⟨arr, e1, e2⟩ := hrx
          exact ⟨arr, e1, leafs _ _ _ hli e2⟩
      have hcalls := HCy M0 w cargs hRH0 hlive (by rw [hsz, hlen]) hra
      refine hcalls.mono ?_
      rintro e w' ⟨u, M', H', rfl, hv, hRH', hFr, hrwl, hbs, hfr⟩
      generalize lf.g y = gr at *
      refine ⟨u, rfl, ?_⟩
      rw [hrwI, List.map_map] at hrwl
      generalize hHf : newH nm ns (putH nm ns H (rwN ns 0) gr.rw) nm gr.bs = Hf at h
      -- what became of the blocks
      have hBS : ∀ i, i < m → M' i = M0 i ∧ BS (hpOf bs i) (H' i) := fun i hi => ⟨(hFr.same i hi).1, (hFr.same i hi).2.1⟩
      have hlive' : ∀ i, i < m → H' i ≠ .fresh := fun i hi => (hBS i hi).2.live (hlive i hi)
      have outlive : ∀ x : Blk κ, x ≠ .fresh → outB nm ns x ≠ .fresh := by intro x hx; cases x <;> simp [outB] at hx ⊢
      have hrwp : ∀ (p i : Nat) q, (rwN ns 0)[p]? = some (i, q) → gr.rw[p]? = some (H' i) := by
        intro p i q hp
        rw [hrwl, List.getElem?_map, hp]; rfl
      have hdist : ∀ (p q i j : Nat) (b : Nat), p < q → (rwN ns 0)[p]? = some (i, some b) → (rwN ns 0)[q]? = some (j, some b) → False := by
        intro p q i j b hpq h1 h2
        have hij := rwN_incr ns 0 p q i j _ _ hpq h1 h2
        have g1 := (rwN_get ns 0 p i _ h1).2
        have g2 := (rwN_get ns 0 q j _ h2).2
        have := (rwOk_spec ns hrw i j b true true (by omega) g1 g2).1
        cases this
      have hput : ∀ (i b : Nat), ns[i]? = some (some b, true) → putH nm ns H (rwN ns 0) gr.rw b = outB nm ns (H' i) := by
        intro i b hi
        obtain ⟨p, hp⟩ := rwN_mem ns 0 i _ hi
        rw [Nat.zero_add] at hp
        exact putH_at _ _ _ p i (fun p q i j hpq => hdist p q i j b hpq) hp (hrwp p i _ hp)
      have hputo : ∀ b, (∀ i : Nat, ns[i]? ≠ some (some b, true)) → putH nm ns H (rwN ns 0) gr.rw b = H b := by
        intro b hno
        refine putH_other _ _ _ fun q hq e => ?_
        obtain ⟨p, hp⟩ := List.mem_iff_getElem?.1 hq
        obtain ⟨i, q⟩ := q
        simp only at e
        subst e
        exact hno i (rwN_get ns 0 p i _ hp).2
      have F2 : ∀ j, j < gr.bs.length → H (nm + j) = .fresh ∧ ∀ i : Nat, ns[i]? ≠ some (some (nm + j), true) := by
        intro j hj
        have h1 := nf j hj
        have h2 : ∀ i : Nat, ns[i]? ≠ some (some (nm + j), true) := by
          intro i hi
          rw [hput i _ hi] at h1
          exact outlive _ (hlive' i (hNi i _ hi).2) h1
        rw [hputo _ h2] at h1
        exact ⟨h1, h2⟩
      have hrange : ∀ b, nm ≤ b → b < nm + gr.bs.length → H b = .fresh ∧ ∀ i : Nat, ns[i]? ≠ some (some b, true) := by
        intro b h1 h2
        have := F2 (b - nm) (by omega)
        rwa [show nm + (b - nm) = b by omega] at this
      have F1 : ∀ (i b : Nat), ns[i]? = some (some b, true) → Hf b = outB nm ns (H' i) := by
        intro i b hi
        rw [← hHf, newH_other, hput i b hi]
        rcases Nat.lt_or_ge b nm with h1 | h1
        · exact .inl h1
        · right
          rcases Nat.lt_or_ge b (nm + gr.bs.length) with h2 | h2
          · exact absurd hi ((hrange b h1 h2).2 i)
          · exact h2
      have F2' : ∀ (j : Nat), j < gr.bs.length → Hf (nm + j) = outB nm ns (H' (m + j)) ∧ ownB (H' (m + j)) = true := by
        intro j hj
        have hx := List.getElem?_eq_getElem hj
        rw [← hHf, newH_at _ _ _ j hx, hbs j _ hx]
        exact ⟨rfl, by rw [← ownBlk_eq]; exact no _ (List.getElem_mem hj)⟩
      have F3 : ∀ b, (∀ i : Nat, ns[i]? ≠ some (some b, true)) → (b < nm ∨ nm + gr.bs.length ≤ b) → Hf b = H b := by
        intro b h1 h2
        rw [← hHf, newH_other _ _ _ h2, hputo b h1]
      let Mf : Mu := fun n => if nm ≤ n ∧ n < nm + gr.bs.length then M' (m + (n - nm)) else M n
      have Mf_old : ∀ b, H b ≠ .fresh → Mf b = M b := by
        intro b hb'
        simp only [Mf]
        rw [if_neg]
        rintro ⟨h1, h2⟩
        exact hb' (hrange b h1 h2).1
      have Mf_new : ∀ j, j < gr.bs.length → Mf (nm + j) = M' (m + j) := by
        intro j hj
        simp only [Mf]
        rw [if_pos ⟨by omega, by omega⟩, show m + (nm + j - nm) = m + j by omega]
      have Hlive : ∀ (i b : Nat) w', ns[i]? = some (some b, w') → H b ≠ .fresh := by
        intro i b w' hi
        obtain ⟨hk, _⟩ := hNi i _ hi
        cases w' with
        | false => obtain ⟨k, own, l, g1, g2⟩ := hk; rw [g1]; simp
        | true => rcases hk with ⟨k, l, g1, g2⟩ | ⟨ty, cs, cs', g1, g2, g3⟩ <;> rw [g1] <;> simp
      have Mf_i : ∀ (i b : Nat) w', ns[i]? = some (some b, w') → Mf b = M' i := by
        intro i b w' hi
        rw [Mf_old b (Hlive i b w' hi), (hBS i (hNi i _ hi).2).1, hM0s i b w' hi]
      -- a name that is read alone stays
      have Hro : ∀ (i b : Nat), ns[i]? = some (some b, false) → ∃ k own l, Hf b = .rows k own l ∧ H' i = .rows k false l := by
        intro i b hi
        obtain ⟨⟨k, own, l, g1, g2⟩, him⟩ := hNi i _ hi
        have h1 : ∀ j : Nat, ns[j]? ≠ some (some b, true) := by
          intro j hj
          by_cases hij : i = j
          · subst hij; rw [hi] at hj; cases hj
          · have := (rwOk_spec ns hrw i j b false true hij hi hj).2; cases this
        have h2 : b < nm ∨ nm + gr.bs.length ≤ b := by
          rcases Nat.lt_or_ge b nm with h1 | h1
          · exact .inl h1
          · right
            rcases Nat.lt_or_ge b (nm + gr.bs.length) with h2 | h2
            · have := (hrange b h1 h2).1; rw [g1] at this; cases this
            · exact h2
        refine ⟨k, own, l, by rw [F3 b h1 h2, g1], ?_⟩
        have := (hBS i him).2
        rw [g2] at this
        exact this
      have oleaf : ∀ x u, RL M' H' x u → RL Mf Hf (outL nm ns x) u := by
        intro x u hx
        cases x <;> try exact hx
        · rename_i i
          simp only [outL]
          simp only [RL] at hx
          split
          · rename_i b w' hi
            simp only [RL]
            rw [Mf_i i b w' hi]
            cases w' with
            | true =>
              rw [F1 i b hi]
              cases hq : H' i <;> rw [hq] at hx <;> first | exact False.elim hx | simpa [outB] using hx
            | false =>
              obtain ⟨k, own, l, e1, e2⟩ := Hro i b hi
              rw [e1]; rw [e2] at hx; exact hx
          · rename_i hi
            obtain ⟨⟨k, g2⟩, him⟩ := hNi i _ hi
            have h1 := (hBS i him).2
            rw [g2] at h1
            rw [show H' i = .rows k false [] from h1] at hx
            simp only at hx
            rw [hx, (hBS i him).1, hM0n i false hi]; rfl
          · trivial
          · rename_i hi
            have hge := List.getElem?_eq_none_iff.1 hi
            simp only [RL]
            rcases Nat.lt_or_ge (i - ns.length) gr.bs.length with hj | hj
            · rw [(F2' _ hj).1, Mf_new _ hj, show m + (i - ns.length) = i by omega]
              cases hq : H' i <;> rw [hq] at hx <;> first | exact False.elim hx | simpa [outB] using hx
            · rw [hfr i (by omega)] at hx; exact hx.elim
        · rename_i i p q
          simp only [outL]
          simp only [RL] at hx
          split
          · rename_i b w' hi
            simp only [RL]
            rw [Mf_i i b w' hi]
            cases w' with
            | true =>
              rw [F1 i b hi]
              cases hq : H' i <;> rw [hq] at hx <;> first | exact False.elim hx | simpa [outB] using hx
            | false =>
              obtain ⟨k, own, l, e1, e2⟩ := Hro i b hi
              rw [e1]; rw [e2] at hx; exact hx
          · trivial
          · rename_i hi
            have hge := List.getElem?_eq_none_iff.1 hi
            simp only [RL]
            rcases Nat.lt_or_ge (i - ns.length) gr.bs.length with hj | hj
            · rw [(F2' _ hj).1, Mf_new _ hj, show m + (i - ns.length) = i by omega]
              cases hq : H' i <;> rw [hq] at hx <;> first | exact False.elim hx | simpa [outB] using hx
            · rw [hfr i (by omega)] at hx; exact hx.elim
      have oleafs : ∀ cs vs, RLs M' H' cs vs → RLs Mf Hf (cs.map (outL nm ns)) vs := by
        intro cs vs h1
        refine ⟨by simp [h1.1], fun j x u g1 g2 => ?_⟩
        rw [List.getElem?_map] at g1
        obtain ⟨z, hz, rfl⟩ := Option.map_eq_some_iff.1 g1
        exact oleaf _ _ (h1.2 j z u hz g2)
      have oblk : ∀ n b, Hf b = outB nm ns (H' n) → Mf b = M' n → RB Mf Hf w' b (Hf b) := by
        intro n b e1 e2
        have h0 := hRH'.blk n
        rw [e1]
        cases hq : H' n with
        | fresh => trivial
        | dead => trivial
        | cells ty cs =>
          rw [hq] at h0
          obtain ⟨g, arr, g1, g2, g3⟩ := h0
          exact ⟨g, arr, e2.trans g1, g2, oleafs cs _ g3⟩
        | rows k own l =>
          rw [hq] at h0
          cases own
          · obtain ⟨A, c0, g1, g2⟩ := h0
            exact ⟨A, c0, e2.trans g1, g2⟩
          · show w'.ownsRow 0 _ _ (Mf b) _ _
            rw [e2]; exact h0
      have orv : RA Mf Hf (outA nm ns gr.v) u := by
        generalize gr.v = v at hv
        cases v with
        | v x => exact oleaf x u hv
        | agg cs => obtain ⟨arr, e1, e2⟩ := hv; exact ⟨arr, e1, oleafs cs _ e2⟩
        | tup ps =>
          obtain ⟨arr, e1, e2, e3⟩ := hv
          refine ⟨arr, e1, by simp [e2], fun j p q g1 g2 => ?_⟩
          rw [List.getElem?_map] at g1
          obtain ⟨z, hz, rfl⟩ := Option.map_eq_some_iff.1 g1
          have h4 := e3 j z q hz g2
          obtain ⟨bb, cs⟩ := z
          cases bb with
          | true => obtain ⟨arr, e1, e2⟩ := h4; exact ⟨arr, e1, oleafs _ _ e2⟩
          | false =>
            cases cs with
            | nil => exact h4.elim
            | cons x xs => cases xs with
              | nil => exact oleaf x q h4
              | cons y ys => exact h4.elim
      -- each changed name stands for one of the callee's
      have key : ∀ b, ((∃ i : Nat, ns[i]? = some (some b, true)) ∨ (nm ≤ b ∧ b < nm + gr.bs.length)) → ∃ n, Hf b = outB nm ns (H' n) ∧ Mf b = M' n ∧
          ((n < m ∧ ns[n]? = some (some b, true)) ∨ (n = m + (b - nm) ∧ nm ≤ b ∧ b < nm + gr.bs.length ∧ H b = .fresh ∧ ownB (H' n) = true)) := by
        rintro b (⟨i, hi⟩ | ⟨h1, h2⟩)
        · exact ⟨i, F1 i b hi, Mf_i i b true hi, .inl ⟨(hNi i _ hi).2, hi⟩⟩
        · have e1 := F2' (b - nm) (by omega)
          have e2 := Mf_new (b - nm) (by omega)
          rw [show nm + (b - nm) = b by omega] at e1 e2
          exact ⟨m + (b - nm), e1.1, e2, .inr ⟨rfl, h1, h2, (hrange b h1 h2).1, e1.2⟩⟩
      have hown : ∀ (i b : Nat), ns[i]? = some (some b, true) → ownB (H b) = true ∧ ∀ g, ft M' H' i = some g → ft M H b = some g := by
        intro i b hi
        obtain ⟨hk, him⟩ := hNi i _ hi
        have hm1 : M' i = M b := by rw [(hBS i him).1, hM0s i b true hi]
        rcases hk with ⟨k, l, g1, g2⟩ | ⟨ty, cs, cs', g1, g2, g3⟩
        · refine ⟨by rw [g1]; rfl, fun g hg => ?_⟩
          have : hb (M b) = some g := by
            unfold ft at hg
            rw [hm1] at hg
            cases hq : H' i with
            | fresh => rw [hq] at hg; cases hg
            | dead => rw [hq] at hg; cases hg
            | cells _ _ => rw [hq] at hg; exact hg
            | rows k' own' l' =>
              rw [hq] at hg
              cases own'
              · simp only at hg; split at hg
                · cases hg
                · exact hg
              · exact hg
          unfold ft; rw [g1]; exact this
        · refine ⟨by rw [g1]; rfl, fun g hg => ?_⟩
          have : hb (M b) = some g := by
            unfold ft at hg
            rw [hm1] at hg
            cases hq : H' i with
            | fresh => rw [hq] at hg; cases hg
            | dead => rw [hq] at hg; cases hg
            | cells _ _ => rw [hq] at hg; exact hg
            | rows k' own' l' =>
              rw [hq] at hg
              cases own'
              · simp only at hg; split at hg
                · cases hg
                · exact hg
              · exact hg
          unfold ft; rw [g1]; exact this
      have hBf : ∀ b, BS (H b) (Hf b) := by
        intro b
        by_cases hC : (∃ i : Nat, ns[i]? = some (some b, true)) ∨ (nm ≤ b ∧ b < nm + gr.bs.length)
        · obtain ⟨n, e1, _, e3⟩ := key b hC
          rw [e1]
          rcases e3 with ⟨hn, hi⟩ | ⟨_, _, _, hf', _⟩
          · obtain ⟨hk, _⟩ := hNi n _ hi
            have hbn := (hBS n hn).2
            rcases hk with ⟨k, l, g1, g2⟩ | ⟨ty, cs, cs', g1, g2, g3⟩
            · rw [g2] at hbn
              rw [g1]
              rcases hbn with h1 | ⟨o', l', h1, h2⟩ <;> rw [h1]
              · exact .inl rfl
              · exact .inr ⟨o', l', rfl, h2⟩
            · rw [g2] at hbn
              rw [g1]
              rcases hbn with h1 | ⟨cs2, h1, h2⟩ <;> rw [h1]
              · exact .inl rfl
              · exact .inr ⟨_, rfl, by rw [List.length_map, h2, g3.1]⟩
          · rw [hf']; trivial
        · have h1 : ∀ i : Nat, ns[i]? ≠ some (some b, true) := fun i hi => hC (.inl ⟨i, hi⟩)
          rw [F3 b h1 (by
            rcases Nat.lt_or_ge b nm with h2 | h2
            · exact .inl h2
            · rcases Nat.lt_or_ge b (nm + gr.bs.length) with h3 | h3
              · exact absurd (.inr ⟨h2, h3⟩) hC
              · exact .inr h3)]
          exact BS.refl _
      have hres := changeG hκ (M := M) (M' := Mf) (H := H) (H' := Hf) (w := w) (w' := w') (fun b => (∃ i : Nat, ns[i]? = some (some b, true)) ∨ (nm ≤ b ∧ b < nm + gr.bs.length)) hH hFr.os hFr.tape hFr.output hFr.drawn hFr.size
        (fun i hi hn => hFr.frame i hi fun n ho hfn => by
          obtain ⟨q, hq⟩ := ownn n ho
          cases q with
          | none => rw [ftno n true hq] at hfn; cases hfn
          | some b => exact hn b (.inl ⟨n, hq⟩) (hown n b hq).1 (ftn n b true i hq hfn))
        (fun b hC => by
          have h1 : ∀ i : Nat, ns[i]? ≠ some (some b, true) := fun i hi => hC (.inl ⟨i, hi⟩)
          have h2 : ¬ (nm ≤ b ∧ b < nm + gr.bs.length) := fun h => hC (.inr h)
          refine ⟨F3 b h1 (by omega), ?_⟩
          simp only [Mf]
          rw [if_neg h2])
        (keep_BS hH Mf_old hBf)
        (fun b hC => by
          obtain ⟨n, e1, e2, _⟩ := key b hC
          exact oblk n b e1 e2)
        (fun b g hC hg => by
          obtain ⟨n, e1, e2, e3⟩ := key b hC
          obtain ⟨q1, q2⟩ := outB_ft (M := M') (M' := Mf) (H := H') (H' := Hf) e1 e2
          rw [q1] at hg
          rcases e3 with ⟨hn, hi⟩ | ⟨rfl, h1, h2, hf', ho⟩
          · exact .inr ⟨b, .inl ⟨n, hi⟩, (hown n b hi).2 g hg, fun _ => (hown n b hi).1⟩
          · rcases Nat.lt_or_ge g w.heap.size with hlt | hge
            · obtain ⟨b0, g1, g2⟩ := hFr.orig _ g ho hg hlt
              obtain ⟨q, hq⟩ := ownn b0 g1
              cases q with
              | none => rw [ftno b0 true hq] at g2; cases g2
              | some b' => exact .inr ⟨b', .inl ⟨b0, hq⟩, ftn b0 b' true g hq g2, fun _ => (hown b0 b' hq).1⟩
            · exact .inl hge)
        (fun b b' g hC hC' hne ho hg hg' => by
          obtain ⟨n, e1, e2, e3⟩ := key b hC
          obtain ⟨n', e1', e2', e3'⟩ := key b' hC'
          obtain ⟨q1, q2⟩ := outB_ft (M := M') (M' := Mf) (H := H') (H' := Hf) e1 e2
          obtain ⟨q1', q2'⟩ := outB_ft (M := M') (M' := Mf) (H := H') (H' := Hf) e1' e2'
          rw [q1] at hg; rw [q2] at ho; rw [q1'] at hg'
          refine hRH'.sep n n' g (fun e => hne ?_) ho hg hg'
          subst e
          rcases e3 with ⟨hn, hi⟩ | ⟨hn, h1, h2, _⟩ <;> rcases e3' with ⟨hn', hi'⟩ | ⟨hn', h1', h2', _⟩
          · rw [hi] at hi'; simpa using hi'
          · omega
          · omega
          · omega)
        (fun b _ hb' => Mf_old b hb') (fun b _ => hBf b)
      exact ⟨Mf, orv, hres.1, hres.2⟩
    · simp [AP.run] at h
theorem csound (hκ : ∀ k, (κ k).Ok) (hm : P.follows .mixedOrders = true) (tok : ∀ t x, ti t = some x → TypeOK P κ t x) (hΓ : ∀ f g, Γ f = some g → CSound P f g) {LH : Nat → Option (LHi κ)}
    {f : FuncId} {fn : Func} {c : Code} (hf : P.funcs[f]? = some fn) (hbo : fn.body = some c) (henter : ∀ args w, (callFunc f args).run P w = .ok (.enter f args) w) (sig : List PSh) (Lr : Live) (body : List AV → List (Blk κ) → Option (Lf κ))
    (hw : wfC fn.ntmps c = true) (hL : LOK ti Γ LH (flags sig).length (loopsOf c)) (hle : sig.length ≤ fn.ntmps)
    (hbody : ∀ as bs lf y, as.length = sig.length → body as bs = some lf → lf.o = some y → ∃ out : Ret κ → Option lf.β, (∀ ret y', out ret = some y' → ret = lf.g y') ∧
      Code.den ti Γ LH c (finK ti fn.results.toList Lr (flags sig).length (rwI (flags sig) 0) out) ⟨envOf ((as.zipIdx).map fun q => (q.2, q.1)), hpOf bs, (flags sig).length⟩ = some y) :
    CSound P f (contract sig body) := by
  refine csoundG hκ henter sig body fun as bs lf y hsig hlf hy M0 w cargs hR hlive hsz hra => ?_
  obtain ⟨out, hout, hden⟩ := hbody as bs lf y hsig hlf hy
  refine (fun_calls hκ hm tok hΓ hf hbo hw hL (fun b hb => ?_) hR hlive hsz (by rw [hsz, hsig]; exact hle) hra hden).mono ?_
  · simpa using rwI_lt _ 0 b hb
  · rintro e w' ⟨u, ret, M', H', rfl, hret, h1⟩
    obtain rfl := hout ret y hret
    exact ⟨u, M', H', rfl, h1⟩
end
end Go.Eng

/- What a seat's texts lean on: the test of the types' table, tables of contracts, loops' tables, short words for terms. -/
set_option linter.unusedVariables false
set_option linter.unusedSimpArgs false
namespace Go.Eng
open Go
/-! ### short words -/
def w64 (n : Int) : Int := IntKind.i64.wrap n
def bt (s : ByteArray) (i : Int) : Int := ((s.data.toList.getD i.toNat 0).toNat : Int)
def bodyOf (f : Func) : Code := match f.body with | some c => c | none => .skip
def loopAt (f : Func) (i : Nat) : Code := ((loopsOf (bodyOf f))[i]?).getD .skip
section
variable {κ : Nat → KT} {P : Program} {ti : TypeId → Option TI} {Γ : Ct κ}
theorem asL_some {k : Nat} {b : Blk κ} {l : List (κ k).T} (h : asL k b = some l) : ∃ own, b = .rows k own l := by
  unfold asL at h
  split at h
  · rename_i k' own l'
    split at h
    · rename_i hk
      subst hk
      obtain rfl := Option.some.inj h
      exact ⟨own, rfl⟩
    · cases h
  · cases h
theorem asO_some {k : Nat} {own : Bool} {b : Blk κ} {l : List (κ k).T} (h : asO k own b = some l) : b = .rows k own l := by
  unfold asO at h
  split at h
  · rename_i k' own' l'
    split at h
    · rename_i hk
      subst hk
      cases ho : (own == own') with
      | false => rw [ho] at h; cases h
      | true =>
        rw [ho] at h
        obtain rfl := Option.some.inj h
        rw [eq_of_beq ho]
    · cases h
  · cases h
theorem asO_bind {α : Type _} {k : Nat} {own : Bool} {b : Blk κ} {f : List (κ k).T → Option α} {r : α} (h : (asO k own b).bind f = some r) : ∃ l, b = .rows k own l ∧ f l = some r := by
  obtain ⟨l, h1, h2⟩ := Option.bind_eq_some_iff.1 h
  exact ⟨l, asO_some h1, h2⟩
/-! ### tables -/
theorem KT_ok {k : KT} (h1 : Nat.blt 0 k.sz = true) (h2 : Nat.blt 0 k.bytes = true) (h3 : ∀ x, (k.enc x).length = k.sz) (h4 : ∀ x, (k.enc x).all LV.sc = true) (h5 : ∀ cs x, k.dec cs = some x → k.enc x = cs) : k.Ok :=
  ⟨by simp [Nat.blt] at h1; omega, by simp [Nat.blt] at h2; omega, h3, fun x v hv => List.all_eq_true.1 (h4 x) v hv, h5⟩
theorem getD_ok {ks : List KT} {d : KT} (hd : d.Ok) (h : ∀ k ∈ ks, k.Ok) (n : Nat) : ((ks[n]?).getD d).Ok := by
  cases hn : ks[n]? with
  | none => exact hd
  | some k => exact h k (List.mem_of_getElem? hn)
theorem getD_all {Q : KT → Prop} {ks : List KT} {d : KT} (hd : Q d) (h : ∀ k ∈ ks, Q k) (n : Nat) : Q ((ks[n]?).getD d) := by
  cases hn : ks[n]? with
  | none => exact hd
  | some k => exact h k (List.mem_of_getElem? hn)
theorem assoc_mem {α : Type _} : ∀ {l : List (Nat × α)} {t : Nat} {x : α}, assoc l t = some x → (t, x) ∈ l
  | [], t, x, h => by cases h
  | (i, a) :: xs, t, x, h => by
    simp only [assoc] at h
    cases hq : Nat.beq t i with
    | true =>
      rw [hq] at h
      obtain rfl : a = x := by simpa using h
      rw [Nat.eq_of_beq_eq_true hq]; simp
    | false => rw [hq] at h; exact List.mem_cons_of_mem _ (assoc_mem h)
theorem LOK_nil {LH : Nat → Option (LHi κ)} {m : Nat} : LOK ti Γ LH m [] := fun b hb => by simp at hb
theorem LOK_cons {LH : Nat → Option (LHi κ)} {m : Nat} {b : Code} {bs : List Code} {g : LHi κ} (hg : LH (firstR b) = some g) (hm : g.m = m)
    (hf : ∀ {R : Type} (K : Ex → St κ → Option R) vs xs r, g.f K vs xs = some r → ∃ n, loopN g.m (Code.den ti Γ LH b) g.L g.L' K n vs xs = some r) (h : LOK ti Γ LH m bs) : LOK ti Γ LH m (b :: bs) := by
  intro c hc q hq
  rcases List.mem_cons.1 hc with rfl | hc
  · rw [hg] at hq
    obtain rfl := Option.some.inj hq
    exact ⟨hm, hf⟩
  · exact h c hc q hq
theorem G_nil : ∀ f g, assoc (α := Nat → List AV → AP κ AV) [] f = some g → CSound P f g := fun f g h => by cases h
theorem G_cons {i : Nat} {c : Nat → List AV → AP κ AV} {l : List (Nat × (Nat → List AV → AP κ AV))} (hc : CSound P i c) (h : ∀ f g, assoc l f = some g → CSound P f g) : ∀ f g, assoc ((i, c) :: l) f = some g → CSound P f g := by
  intro f g hf
  simp only [assoc] at hf
  cases hq : Nat.beq f i with
  | true =>
    rw [hq] at hf
    obtain rfl : c = g := by simpa using hf
    rw [Nat.eq_of_beq_eq_true hq]; exact hc
  | false => rw [hq] at hf; exact h f g hf
/-! ### the types' table -/
def vEq : Value → LV → Bool
  | .int k n, .int k' n' => decide (k = k') && decide (n = n')
  | .bool a, .bool b => a == b
  | .string a, .str b => Nat.beq a.size 0 && Nat.beq b.size 0
  | .slice none 0 0, .nilsl => true
  | _, _ => false
theorem vEq_eq {v : Value} {x : LV} (h : vEq v x = true) : v = x.val ∧ x.sc0 = true := by
  unfold vEq at h
  split at h
  · simp only [Bool.and_eq_true, decide_eq_true_eq] at h
    obtain ⟨rfl, rfl⟩ := h
    exact ⟨rfl, rfl⟩
  · obtain rfl := eq_of_beq h; exact ⟨rfl, rfl⟩
  · rename_i a b
    simp only [Bool.and_eq_true] at h
    have h1 := Nat.eq_of_beq_eq_true h.1
    have h2 := Nat.eq_of_beq_eq_true h.2
    have e : a = b := by
      obtain ⟨⟨a⟩⟩ := a; obtain ⟨⟨b⟩⟩ := b
      cases a <;> cases b <;> simp_all [ByteArray.size]
    subst e
    exact ⟨rfl, rfl⟩
  · exact ⟨rfl, rfl⟩
  · cases h
def vEqs : List Value → List LV → Bool
  | [], [] => true
  | v :: vs, x :: xs => vEq v x && vEqs vs xs
  | _, _ => false
theorem vEqs_eq : ∀ {vs : List Value} {xs : List LV}, vEqs vs xs = true → vs = xs.map LV.val ∧ ∀ x ∈ xs, x.sc0 = true
  | [], [], _ => ⟨rfl, by simp⟩
  | v :: vs, x :: xs, h => by
    simp only [vEqs, Bool.and_eq_true] at h
    obtain ⟨h1, h2⟩ := vEq_eq h.1
    obtain ⟨h3, h4⟩ := vEqs_eq h.2
    refine ⟨by simp [h1, h3], fun y hy => ?_⟩
    rcases List.mem_cons.1 hy with rfl | hy
    · exact h2
    · exact h4 y hy
  | [], _ :: _, h => by simp [vEqs] at h
  | _ :: _, [], h => by simp [vEqs] at h
def fldsOk (P : Program) : List Field → List (Nat × Nat × Bool) → Bool
  | [], [] => true
  | f :: fs, q :: qs => (match P.info? f.type, P.underlying f.type with
    | some i, some d => Nat.beq f.offset q.1 && Nat.beq i.size q.2.1 && (isAggD d == q.2.2) && !(Nat.beq q.2.1 0)
    | _, _ => false) && fldsOk P fs qs
  | _, _ => false
theorem fldsOk_sound : ∀ {fs : List Field} {qs : List (Nat × Nat × Bool)}, fldsOk P fs qs = true → fs.mapM (fun f => (P.info? f.type).map fun i => (f.offset, i.size)) = some (qs.map fun q => (q.1, q.2.1)) ∧
    (fs.map fun f => (P.underlying f.type).map isAggD) = qs.map (fun q => some q.2.2) ∧ ∀ q ∈ qs, q.2.1 ≠ 0
  | [], [], _ => ⟨rfl, rfl, by simp⟩
  | f :: fs, q :: qs, h => by
    simp only [fldsOk, Bool.and_eq_true] at h
    obtain ⟨h1, h2⟩ := h
    obtain ⟨g1, g2, g3⟩ := fldsOk_sound h2
    split at h1
    · rename_i i d hi hd
      simp only [Bool.and_eq_true] at h1
      obtain ⟨⟨⟨e1, e2⟩, e3⟩, e4⟩ := h1
      have e1 := Nat.eq_of_beq_eq_true e1
      have e2 := Nat.eq_of_beq_eq_true e2
      have e3 := eq_of_beq e3
      refine ⟨by simp [List.mapM_cons, hi, g1, e1, e2], by simp [hd, g2, e3], fun x hx => ?_⟩
      rcases List.mem_cons.1 hx with rfl | hx
      · intro e0; rw [e0] at e4; simp at e4
      · exact g3 x hx
    · cases h1
  | [], _ :: _, h => by simp [fldsOk] at h
  | _ :: _, [], h => by simp [fldsOk] at h
def eqFs (P : Program) (g : TypeId → Option (List LV)) : Nat → List Field → Option (List LV)
  | off, [] => some []
  | off, f :: fs => bif decide (f.name ≠ "_") && Nat.beq f.offset off then (match g f.type, P.info? f.type with
    | some ks, some i => bif Nat.beq i.size ks.length && Nat.blt 0 ks.length then (match eqFs P g (off + ks.length) fs with
      | some r => some (ks ++ r)
      | none => none) else none
    | _, _ => none) else none
/-- The makes of the cells of a type whose values are compared cell by cell. -/
def eqT (P : Program) : Nat → TypeId → Option (List LV)
  | 0, _ => none
  | d + 1, t => match P.underlying t with
    | some (.int _) => some [.int .i64 0]
    | some .bool => some [.bool false]
    | some .string => some [.str (.mk #[])]
    | some (.struct fs) => bif P.stoodInHeld t then none else eqFs P (eqT P d) 0 fs.toList
    | _ => none
theorem sameMk_len : ∀ {as bs : List LV}, sameMk as bs = true → as.length = bs.length
  | [], [], _ => rfl
  | x :: xs, y :: ys, h => by simp only [sameMk, Bool.and_eq_true] at h; simp [sameMk_len h.2]
  | [], _ :: _, h => by simp [sameMk] at h
  | _ :: _, [], h => by simp [sameMk] at h
theorem sameMk_append : ∀ {as bs cs : List LV}, sameMk (as ++ bs) cs = true → sameMk as (cs.take as.length) = true ∧ sameMk bs (cs.drop as.length) = true
  | [], bs, cs, h => ⟨by simp [sameMk], by simpa using h⟩
  | x :: xs, bs, [], h => by simp [sameMk] at h
  | x :: xs, bs, c :: cs, h => by
    simp only [List.cons_append, sameMk, Bool.and_eq_true] at h
    obtain ⟨h1, h2⟩ := sameMk_append h.2
    exact ⟨by simp [sameMk, h.1, h1], by simpa using h2⟩
theorem sameMk_trans : ∀ {as bs cs : List LV}, sameMk as bs = true → sameMk bs cs = true → sameMk as cs = true
  | [], [], [], _, _ => rfl
  | x :: xs, y :: ys, z :: zs, h, k => by
    simp only [sameMk, Bool.and_eq_true] at h k ⊢
    exact ⟨by rw [Nat.eq_of_beq_eq_true h.1, Nat.eq_of_beq_eq_true k.1]; simp, sameMk_trans h.2 k.2⟩
  | [], [], _ :: _, _, h => by simp [sameMk] at h
  | [], _ :: _, _, h, _ => by simp [sameMk] at h
  | _ :: _, [], _, h, _ => by simp [sameMk] at h
  | _ :: _, _ :: _, [], _, h => by simp [sameMk] at h
theorem eqCells_append : ∀ (as bs as' bs' : List LV) (b : Bool), as.length = bs.length → eqCells (as ++ as') (bs ++ bs') = some b → ∃ b1 b2, eqCells as bs = some b1 ∧ eqCells as' bs' = some b2 ∧ b = (b1 && b2)
  | [], [], as', bs', b, _, h => ⟨true, b, rfl, h, by simp⟩
  | [x], [y], [], [], b, _, h => ⟨b, true, by simpa [eqCells] using h, rfl, by simp⟩
  | [x], [y], [], _ :: _, b, _, h => by
    simp only [List.cons_append, List.nil_append, eqCells] at h
    obtain ⟨a, _, h⟩ := Option.bind_eq_some_iff.1 h
    simp [eqCells] at h
  | [x], [y], _ :: _, [], b, _, h => by
    simp only [List.cons_append, List.nil_append, eqCells] at h
    obtain ⟨a, _, h⟩ := Option.bind_eq_some_iff.1 h
    simp [eqCells] at h
  | [x], [y], x' :: as', y' :: bs', b, _, h => by
    simp only [List.cons_append, List.nil_append, eqCells] at h
    obtain ⟨a, h1, h⟩ := Option.bind_eq_some_iff.1 h
    obtain ⟨c, h2, h⟩ := Option.bind_eq_some_iff.1 h
    exact ⟨a, c, h1, h2, by simpa using h.symm⟩
  | x :: x' :: as, y :: y' :: bs, as', bs', b, hl, h => by
    simp only [List.cons_append, eqCells] at h
    obtain ⟨a, h1, h⟩ := Option.bind_eq_some_iff.1 h
    obtain ⟨c, h2, h⟩ := Option.bind_eq_some_iff.1 h
    obtain ⟨b1, b2, g1, g2, g3⟩ := eqCells_append (x' :: as) (y' :: bs) as' bs' c (by simpa using hl) (by simpa using h2)
    refine ⟨a && b1, b2, by simp only [eqCells, h1, g1, Option.bind_some], g2, ?_⟩
    subst g3
    obtain rfl : (a && (b1 && b2)) = b := by simpa using h
    cases a <;> rfl
  | [], _ :: _, _, _, _, hl, _ => by simp at hl
  | _ :: _, [], _, _, _, hl, _ => by simp at hl
  | [_], _ :: _ :: _, _, _, _, hl, _ => by simp at hl
  | _ :: _ :: _, [_], _, _, _, hl, _ => by simp at hl
/-- A value of n cells, as a type of that many cells holds it. -/
def isV (P : Program) (t : TypeId) (as : List LV) (v : Value) : Prop :=
  (∃ d, P.underlying t = some d ∧ isAggD d = true ∧ ∃ arr : Array Value, v = .agg arr ∧ arr.toList = as.map LV.val) ∨ (∃ d, P.underlying t = some d ∧ isAggD d = false ∧ ∃ x, as = [x] ∧ v = x.val)
theorem part_isV {t : TypeId} {n : Nat} {d : TypeDesc} {i : TypeInfo} (hd : P.underlying t = some d) (hi : P.info? t = some i) (hn : i.size = n) (h1 : isAggD d = false → n = 1) {xs : Array Value} {as : List LV} (hx : xs.toList = as.map LV.val) {off : Nat} (hl : off + n ≤ as.length) (w : World) :
    ∃ v, (part t xs off).run P w = .ok v w ∧ isV P t ((as.drop off).take n) v := by
  have hsz : xs.size = as.length := by have := congrArg List.length hx; simpa using this
  cases ha : isAggD d with
  | true =>
    have hag : (isAgg t).run P w = .ok true w := by cases d <;> simp [isAggD] at ha <;> simp [isAgg, run_underlying hd]
    refine ⟨_, by simp [part, hag, sizeOf, typeInfo, hi, hn]; rfl, .inl ⟨d, hd, ha, _, rfl, ?_⟩⟩
    simp [hx, List.map_take, List.map_drop, List.take_drop]
  | false =>
    have hag : (isAgg t).run P w = .ok false w := by cases d <;> simp [isAggD] at ha <;> simp [isAgg, run_underlying hd]
    have := h1 ha
    subst this
    have hgo : xs[off]? = some (as[off]'(by omega)).val := by
      rw [← Array.getElem?_toList, hx, List.getElem?_map, List.getElem?_eq_getElem (by omega)]; rfl
    refine ⟨_, by simp [part, hag, hgo]; rfl, .inr ⟨d, hd, ha, _, ?_, rfl⟩⟩
    rw [List.take_one, List.head?_drop, List.getElem?_eq_getElem (by omega)]; rfl
theorem eqFs_sound (d : Nat) (ih : ∀ t ks, eqT P d t = some ks → ∀ (as bs : List LV) b v1 v2 w, sameMk ks as = true → as.length = bs.length → eqCells as bs = some b → isV P t as v1 → isV P t bs v2 → (Op.equalIn d t v1 v2).run P w = .ok b w)
    {xs ys : Array Value} {as bs : List LV} (hx : xs.toList = as.map LV.val) (hy : ys.toList = bs.map LV.val) (hl : as.length = bs.length) : ∀ (fs : List Field) (off : Nat) (ks : List LV), eqFs P (eqT P d) off fs = some ks → sameMk ks (as.drop off) = true →
    ∀ b w, eqCells (as.drop off) (bs.drop off) = some b → (Op.eqFields d xs ys fs).run P w = .ok b w
  | [], off, ks, h, hn, b, w, hb => by
    simp only [eqFs, Option.some.injEq] at h
    subst h
    have h1 := sameMk_len hn
    have e1 : as.drop off = [] := List.eq_nil_of_length_eq_zero h1.symm
    have e2 : bs.drop off = [] := List.eq_nil_of_length_eq_zero (by rw [List.length_drop, ← hl, ← List.length_drop]; exact h1.symm)
    rw [e1, e2] at hb
    obtain rfl : true = b := by simpa [eqCells] using hb
    simp [Op.eqFields]
  | f :: fs, off, ks, h, hn, b, w, hb => by
    simp only [eqFs] at h
    cases hc : decide (f.name ≠ "_") && Nat.beq f.offset off with
    | false => rw [hc] at h; simp at h
    | true =>
      rw [hc] at h
      simp only [Bool.and_eq_true, decide_eq_true_eq] at hc
      have hoff := Nat.eq_of_beq_eq_true hc.2
      simp only [cond_true] at h
      split at h
      · rename_i k1 i hk hi
        cases hki : Nat.beq i.size k1.length && Nat.blt 0 k1.length with
        | false => rw [hki] at h; simp at h
        | true =>
          rw [hki] at h
          simp only [Bool.and_eq_true] at hki
          have hsz := Nat.eq_of_beq_eq_true hki.1
          have hpos : 0 < k1.length := by have := hki.2; simp [Nat.blt] at this; omega
          simp only [cond_true] at h
          split at h
          · rename_i r hr
            obtain rfl := Option.some.inj h
            obtain ⟨m1, m2⟩ := sameMk_append hn
            rw [List.drop_drop] at m2
            have hle : off + k1.length ≤ as.length := by
              have := sameMk_len hn
              simp at this; omega
            obtain ⟨dd, hdd, h1⟩ : ∃ dd, P.underlying f.type = some dd ∧ (isAggD dd = false → k1.length = 1) := by
              cases d with
              | zero => simp [eqT] at hk
              | succ d =>
                simp only [eqT] at hk
                split at hk
                · rename_i hu; exact ⟨_, hu, fun _ => by rw [← Option.some.inj hk]; rfl⟩
                · rename_i hu; exact ⟨_, hu, fun _ => by rw [← Option.some.inj hk]; rfl⟩
                · rename_i hu; exact ⟨_, hu, fun _ => by rw [← Option.some.inj hk]; rfl⟩
                · rename_i fs' hu; exact ⟨_, hu, fun h => by cases h⟩
                · cases hk
            obtain ⟨v1, hv1, hi1⟩ := part_isV hdd hi hsz h1 hx (off := off) hle w
            obtain ⟨v2, hv2, hi2⟩ := part_isV hdd hi hsz h1 hy (off := off) (by omega) w
            have ea : as.drop off = (as.drop off).take k1.length ++ as.drop (off + k1.length) := by rw [← List.drop_drop, List.take_append_drop]
            have eb : bs.drop off = (bs.drop off).take k1.length ++ bs.drop (off + k1.length) := by rw [← List.drop_drop, List.take_append_drop]
            rw [ea, eb] at hb
            obtain ⟨b1, b2, g1, g2, rfl⟩ := eqCells_append _ _ _ _ b (by simp; omega) hb
            have e1 := ih f.type k1 hk _ _ b1 v1 v2 w m1 (by simp; omega) g1 hi1 hi2
            have e2 := eqFs_sound d ih hx hy hl fs (off + k1.length) r hr m2 b2 w g2
            simp only [Op.eqFields, hc.1, ne_eq, not_false_eq_true, if_true, hoff, Sem.run_bind, hv1, hv2, Result.andThen_ok, e1]
            cases b1 with
            | true => simp [e2]
            | false => simp
          · cases h
      · cases h
theorem eqT_sound : ∀ (d : Nat) (t : TypeId) (ks : List LV), eqT P d t = some ks → ∀ (as bs : List LV) b v1 v2 w, sameMk ks as = true → as.length = bs.length → eqCells as bs = some b → isV P t as v1 → isV P t bs v2 → (Op.equalIn d t v1 v2).run P w = .ok b w
  | 0, t, n, h, as, bs, b, v1, v2, w, hn, hm, hb, h1, h2 => by simp [eqT] at h
  | d + 1, t, ks, h, as, bs, b, v1, v2, w, hn, hm, hb, h1, h2 => by
    have one : ∀ dd, P.underlying t = some dd → isAggD dd = false → ∃ x y, as = [x] ∧ bs = [y] ∧ v1 = x.val ∧ v2 = y.val ∧ eqLV x y = some b := by
      intro dd hd ha
      rcases h1 with ⟨d1, e1, e2, _⟩ | ⟨d1, e1, e2, x, rfl, rfl⟩
      · rw [hd] at e1; obtain rfl := Option.some.inj e1; rw [ha] at e2; cases e2
      rcases h2 with ⟨d1, e1, e2, _⟩ | ⟨d1, e1, e2, y, rfl, rfl⟩
      · rw [hd] at e1; obtain rfl := Option.some.inj e1; rw [ha] at e2; cases e2
      exact ⟨x, y, rfl, rfl, rfl, rfl, by simpa [eqCells] using hb⟩
    simp only [eqT] at h
    split at h
    · rename_i k hu
      obtain rfl := Option.some.inj h
      obtain ⟨x, y, rfl, rfl, rfl, rfl, he⟩ := one _ hu rfl
      cases x <;> simp [sameMk, mk1, Nat.beq] at hn
      rename_i k1 n1
      cases y <;> simp only [eqLV] at he <;> try cases he
      rename_i k2 n2
      cases hk : decide (k1 = k2) with
      | false => rw [hk] at he; cases he
      | true =>
        rw [hk] at he
        obtain rfl := Option.some.inj he
        rw [of_decide_eq_true hk]
        exact run_equalIn_int w d t _ _ _ _ hu
    · rename_i hu
      obtain rfl := Option.some.inj h
      obtain ⟨x, y, rfl, rfl, rfl, rfl, he⟩ := one _ hu rfl
      cases x <;> simp [sameMk, mk1, Nat.beq] at hn
      cases y <;> simp only [eqLV] at he <;> try cases he
      exact run_equalIn_bool' w d t _ _ hu
    · rename_i hu
      obtain rfl := Option.some.inj h
      obtain ⟨x, y, rfl, rfl, rfl, rfl, he⟩ := one _ hu rfl
      cases x <;> simp [sameMk, mk1, Nat.beq] at hn
      rename_i s1
      cases y <;> simp only [eqLV] at he <;> try cases he
      rename_i s2
      rw [beq_toListBytes]
      exact run_equalIn_string w d t _ _ hu
    · rename_i fs hu
      cases hs : P.stoodInHeld t with
      | true => rw [hs] at h; cases h
      | false =>
        rw [hs] at h
        simp only [cond_false] at h
        have hf : P.fieldsOf t = fs := by simp [Program.fieldsOf, hu]
        rcases h1 with ⟨d1, e1, e2, a1, rfl, q1⟩ | ⟨d1, e1, e2, x, rfl, rfl⟩
        · rcases h2 with ⟨d2, e3, e4, a2, rfl, q2⟩ | ⟨d1, e1, e2, x, rfl, rfl⟩
          · rw [run_equalIn_agg w d t a1 a2 (by rw [hf]; exact hu) hs, hf]
            exact eqFs_sound d (eqT_sound d) q1 q2 hm fs.toList 0 ks h (by simpa using hn) b w (by simpa using hb)
          · rw [hu] at e1; obtain rfl := Option.some.inj e1; cases e2
        · rw [hu] at e1; obtain rfl := Option.some.inj e1; cases e2
    · cases h
/-! ### the table holds -/
def slkOk (P : Program) (t : TypeId) (k : KT) : Bool := match P.underlying t with
  | some (.slice e) => Nat.beq e k.ty && (match P.info? e with
    | some i => Nat.beq i.size k.sz && Nat.beq i.bytes k.bytes && (match i.zero with
      | some z => vEqs z.cells.toList (k.enc k.zero)
      | none => false)
    | none => false)
  | _ => false
def tOk (P : Program) (κ : Nat → KT) (t : TypeId) (x : TI) : Bool :=
  (match P.info? t, P.underlying t with
  | some i, some d => Nat.beq i.size x.size && (isAggD d == x.agg) && (match i.zero with
    | some z => vEqs z.cells.toList x.zero
    | none => false)
  | _, _ => false) &&
  (match x.flds with
  | [] => true
  | qs => match P.underlying t with
    | some (.struct fs) => fldsOk P fs.toList qs
    | _ => false) &&
  (match x.slk with
  | none => true
  | some k => slkOk P t (κ k)) &&
  (bif x.eq then (bif x.agg then !(P.eqGuardType P.depth t) && (match eqT P 10000 t with | some ks => sameMk ks x.zero | none => false) else (match P.underlying t with | some .bool => true | _ => false)) else true) &&
  (bif x.str then (match P.underlying t with | some .string => true | _ => false) else true) &&
  (match x.knd with
  | none => true
  | some k => match P.underlying t with
    | some (.int k') => decide (k' = k)
    | _ => false)
theorem tOk_sound {t : TypeId} {x : TI} (h : tOk P κ t x = true) : TypeOK P κ t x := by
  unfold tOk at h
  simp only [Bool.and_eq_true] at h
  obtain ⟨⟨⟨⟨⟨h1, h2⟩, h3⟩, h4⟩, h5⟩, h6⟩ := h
  split at h1
  case h_2 => cases h1
  rename_i i d hi hd
  simp only [Bool.and_eq_true] at h1
  obtain ⟨⟨a1, a2⟩, a3⟩ := h1
  split at a3
  case h_2 => cases a3
  rename_i z hz
  obtain ⟨z1, z2⟩ := vEqs_eq a3
  have a1 := Nat.eq_of_beq_eq_true a1
  have a2 := eq_of_beq a2
  refine ⟨⟨i, d, z, hi, hd, a1, a2, hz, z1⟩, z2, ?_, fun k hk => ?_, fun e1 e2 => ?_, fun e1 e2 => ?_, fun e1 => ?_, fun k hk => ?_⟩
  · split at h2
    · rename_i hq; exact .inl hq
    · split at h2
      · rename_i fs hf
        obtain ⟨g1, g2, g3⟩ := fldsOk_sound h2
        exact .inr ⟨fs, hf, g1, g2, g3⟩
      · cases h2
  · rw [hk] at h3
    simp only [slkOk] at h3
    split at h3
    · rename_i e hu
      simp only [Bool.and_eq_true] at h3
      obtain ⟨b1, b2⟩ := h3
      obtain rfl := Nat.eq_of_beq_eq_true b1
      split at b2
      · rename_i i' hi'
        simp only [Bool.and_eq_true] at b2
        obtain ⟨⟨c1, c2⟩, c3⟩ := b2
        split at c3
        · rename_i z' hz'
          exact ⟨hu, i', z', hi', Nat.eq_of_beq_eq_true c1, Nat.eq_of_beq_eq_true c2, hz', (vEqs_eq c3).1⟩
        · cases c3
      · cases b2
    · cases h3
  · rw [e1, e2] at h4
    simp only [cond_true, cond_false] at h4
    split at h4
    · rename_i hu; exact hu
    · cases h4
  · rw [e1, e2] at h4
    simp only [cond_true, Bool.and_eq_true, Bool.not_eq_true'] at h4
    obtain ⟨b1, b2⟩ := h4
    refine ⟨b1, fun xs ys as bs b w hmk hx hy hb => ?_⟩
    split at b2
    · rename_i ks hks
      have hl : as.length = bs.length := by
        clear hx hy hmk
        induction as generalizing bs b with
        | nil => cases bs with
          | nil => rfl
          | cons y ys => simp [eqCells] at hb
        | cons x xs ih => cases bs with
          | nil => cases xs <;> simp [eqCells] at hb
          | cons y ys =>
            cases xs with
            | nil =>
              cases ys with
              | nil => rfl
              | cons y' ys =>
                simp only [eqCells] at hb
                obtain ⟨_, _, hb⟩ := Option.bind_eq_some_iff.1 hb
                simp at hb
            | cons x' xs =>
              simp only [eqCells] at hb
              obtain ⟨_, _, hb⟩ := Option.bind_eq_some_iff.1 hb
              obtain ⟨c, hb, _⟩ := Option.bind_eq_some_iff.1 hb
              have := ih ys c hb
              simp at this ⊢; omega
      have hag : isAggD d = true := a2.trans e2
      exact eqT_sound 10000 t ks hks as bs b _ _ w (sameMk_trans b2 hmk) hl hb (.inl ⟨d, hd, hag, xs, rfl, hx⟩) (.inl ⟨d, hd, hag, ys, rfl, hy⟩)
    · cases b2
  · rw [e1] at h5
    simp only [cond_true] at h5
    split at h5
    · rename_i hu; exact hu
    · cases h5
  · rw [hk] at h6
    simp only at h6
    split at h6
    · rename_i k' hu
      rw [← of_decide_eq_true h6]; exact hu
    · cases h6
def tabOk (P : Program) (κ : Nat → KT) : List (Nat × TI) → Bool
  | [] => true
  | q :: qs => tOk P κ q.1 q.2 && tabOk P κ qs
theorem tabOk_mem : ∀ {l : List (Nat × TI)}, tabOk P κ l = true → ∀ q ∈ l, TypeOK P κ q.1 q.2
  | [], _, q, hq => by simp at hq
  | x :: xs, h, q, hq => by
    simp only [tabOk, Bool.and_eq_true] at h
    rcases List.mem_cons.1 hq with rfl | hq
    · exact tOk_sound h.1
    · exact tabOk_mem h.2 q hq
theorem tab_ok {l : List (Nat × TI)} (h : tabOk P κ l = true) : ∀ t x, assoc l t = some x → TypeOK P κ t x := fun t x hx => tabOk_mem h (t, x) (assoc_mem hx)
end
end Go.Eng

/- What comes in, read as data, is what a law's function takes: whole numbers, bools, strings, structs of them, slices of them. -/
set_option linter.unusedVariables false
set_option linter.unusedSimpArgs false
namespace Go.Eng
open Go Go.ChangeShapes Go.WideShapes Go.RowKit Go.Deep
/-- A value in its bounds, of the make of z. -/
def like1 : LV → LV → Prop
  | .int k _, .int k' n => k = k' ∧ (Lit.int k n).wf = true
  | .bool _, .bool _ => True
  | .str _, .str s => s.size ≤ maxLen
  | _, _ => False
def likes : List LV → List LV → Prop
  | [], [] => True
  | z :: zs, x :: xs => like1 z x ∧ likes zs xs
  | _, _ => False
inductive Lk where
  | c (z : LV) | s (k : Nat)
section
variable {κ : Nat → KT} {P : Program}
def LeafV (κ : Nat → KT) (w : World) : Lk → Value → Prop
  | .c z, v => ∃ x, v = LV.val x ∧ like1 z x
  | .s k, v => ∃ A cap, ∃ l : List (κ k).T, v = .slice A l.length cap ∧ (l.length ≤ cap ∧ (A = none → cap = 0) ∧ (0 < l.length → ∃ ad, A = some ad ∧ ∀ j u, (flat (κ k) l)[j]? = some u → w.cell? (ad.add j) = some u)) ∧ l.length ≤ maxLen ∧ ∀ x ∈ l, likes ((κ k).enc (κ k).zero) ((κ k).enc x)
def LeafsV (κ : Nat → KT) (w : World) : List Lk → List Value → Prop
  | [], [] => True
  | k :: ks, v :: vs => LeafV κ w k v ∧ LeafsV κ w ks vs
  | _, _ => False
theorem LeafsV_append {w : World} : ∀ {ks ks' : List Lk} {vs vs' : List Value}, LeafsV κ w ks vs → LeafsV κ w ks' vs' → LeafsV κ w (ks ++ ks') (vs ++ vs')
  | [], ks', [], vs', _, h => h
  | k :: ks, ks', v :: vs, vs', h, h' => ⟨h.1, LeafsV_append h.2 h'⟩
  | [], _, _ :: _, _, h, _ => h.elim
  | _ :: _, _, [], _, h, _ => h.elim
theorem LeafsV_len {w : World} : ∀ {ks : List Lk} {vs : List Value}, LeafsV κ w ks vs → vs.length = ks.length
  | [], [], _ => rfl
  | k :: ks, v :: vs, h => by simp [LeafsV_len h.2]
  | [], _ :: _, h => h.elim
  | _ :: _, [], h => h.elim
def lkFs (P : Program) (g : TypeId → Option (List Lk)) : Nat → List Field → Option (List Lk)
  | off, [] => some []
  | off, f :: fs => bif Nat.beq f.offset off then (match g f.type with
    | some ks => bif Nat.beq (P.cellsOf f.type) ks.length then (match lkFs P g (off + ks.length) fs with
      | some r => some (ks ++ r)
      | none => none) else none
    | none => none) else none
/-- The leaves of a type. -/
def lkT (P : Program) (κ : Nat → KT) (kO : TypeId → Option Nat) : Nat → TypeId → Option (List Lk)
  | 0, _ => none
  | d + 1, t => match P.underlying t with
    | some (.int k) => some [.c (.int k 0)]
    | some .bool => some [.c (.bool false)]
    | some .string => some [.c (.str (.mk #[]))]
    | some (.slice e) => (match kO t with
      | some k => bif Nat.beq (κ k).ty e then some [.s k] else none
      | none => none)
    | some (.struct fs) => (match lkFs P (lkT P κ kO d) 0 fs.toList with
      | some ks => bif Nat.beq (P.cellsOf t) ks.length then some ks else none
      | none => none)
    | _ => none
/-- What is read as an element of kind k is one. -/
structure KOpen (P : Program) (k : KT) : Prop where
  size : P.cellsOf k.ty = k.sz
  opens : ∀ {H : Type} (enc : TypeId × Value → H) (w : World) (base fuel : Nat) (held : Bool) (cs : List Value) (x : DataW H × List MemPlace),
    DataW.trod enc P w base (fun _ => true) held fuel k.ty cs = some x → ∃ a, cs = (k.enc a).map LV.val ∧ likes (k.enc k.zero) (k.enc a)
theorem lkFs_opens {H : Type} {enc : TypeId × Value → H} {w : World} {base n : Nat} {held : Bool} {g : TypeId → Option (List Lk)} (ih : ∀ t ks, g t = some ks → ∀ cs x, DataW.trod enc P w base (fun _ => true) held n t cs = some x → LeafsV κ w ks cs) {cs : List Value} :
    ∀ (fs : List Field) (off : Nat) (ks : List Lk), lkFs P g off fs = some ks → (∀ f ∈ fs, ∃ y, DataW.trod enc P w base (fun _ => true) held n f.type ((cs.drop f.offset).take (P.cellsOf f.type)) = some y) → cs.length = off + ks.length → LeafsV κ w ks (cs.drop off)
  | [], off, ks, h, hf, hl => by
    simp only [lkFs, Option.some.injEq] at h
    subst h
    rw [List.drop_eq_nil_of_le (by simp at hl; omega)]
    trivial
  | f :: fs, off, ks, h, hf, hl => by
    simp only [lkFs] at h
    cases hc : Nat.beq f.offset off with
    | false => rw [hc] at h; simp at h
    | true =>
      rw [hc] at h
      have hoff := Nat.eq_of_beq_eq_true hc
      simp only [cond_true] at h
      split at h
      · rename_i k1 hk
        cases hs : Nat.beq (P.cellsOf f.type) k1.length with
        | false => rw [hs] at h; simp at h
        | true =>
          rw [hs] at h
          have hs := Nat.eq_of_beq_eq_true hs
          simp only [cond_true] at h
          split at h
          · rename_i r hr
            obtain rfl := Option.some.inj h
            obtain ⟨y, hy⟩ := hf f (by simp)
            rw [hoff, hs] at hy
            have h1 := ih f.type k1 hk _ _ hy
            have h2 := lkFs_opens ih fs (off + k1.length) r hr (fun q hq => hf q (by simp [hq])) (by simp at hl; omega)
            have e : cs.drop off = (cs.drop off).take k1.length ++ cs.drop (off + k1.length) := by rw [← List.drop_drop, List.take_append_drop]
            rw [e]
            exact LeafsV_append h1 h2
          · cases h
      · cases h
theorem flat_cell {k : KT} (hk : k.Ok) {w : World} {ad : Addr} : ∀ (l : List k.T) (o : Nat), (∀ (i : Nat) x, l[i]? = some x → ∀ j u, ((k.enc x).map LV.val)[j]? = some u → w.cell? (ad.add ((o + i) * k.sz + j)) = some u) →
    ∀ j u, (flat k l)[j]? = some u → w.cell? (ad.add (o * k.sz + j)) = some u
  | [], o, h, j, u, hu => by simp [flat] at hu
  | x :: l, o, h, j, u, hu => by
    rw [flat_cons] at hu
    have hlen : ((k.enc x).map LV.val).length = k.sz := by simp [hk.len]
    by_cases hj : j < k.sz
    · rw [List.getElem?_append_left (by omega)] at hu
      have := h 0 x rfl j u hu
      simpa using this
    · rw [List.getElem?_append_right (by omega), hlen] at hu
      have := flat_cell hk l (o + 1) (fun i y hy j u hu => by
        have := h (i + 1) y (by simpa using hy) j u hu
        rw [show o + 1 + i = o + (i + 1) by omega]; exact this) (j - k.sz) u hu
      rw [show (o + 1) * k.sz + (j - k.sz) = o * k.sz + j by rw [Nat.add_mul]; omega] at this
      exact this
theorem lkT_opens (hκ : ∀ k, (κ k).Ok) {kO : TypeId → Option Nat} (hk : ∀ t k, kO t = some k → KOpen P (κ k)) {H : Type} {enc : TypeId × Value → H} {w : World} {base : Nat} {held : Bool} :
    ∀ (d : Nat) (t : TypeId) (ks : List Lk), lkT P κ kO d t = some ks → ∀ (fuel : Nat) cs x, DataW.trod enc P w base (fun _ => true) held fuel t cs = some x → LeafsV κ w ks cs
  | 0, t, ks, h, fuel, cs, x, hx => by simp [lkT] at h
  | d + 1, t, ks, h, fuel, cs, x, hx => by
    simp only [lkT] at h
    split at h
    · rename_i k hu
      obtain rfl := Option.some.inj h
      obtain ⟨n, rfl, _, hw⟩ := DataW.trod_int hu hx
      exact ⟨⟨.int k n, rfl, rfl, hw⟩, trivial⟩
    · rename_i hu
      obtain rfl := Option.some.inj h
      obtain ⟨n, rfl, _⟩ := DataW.trod_bool hu hx
      exact ⟨⟨.bool n, rfl, trivial⟩, trivial⟩
    · rename_i hu
      obtain rfl := Option.some.inj h
      obtain ⟨s, rfl, _, hs⟩ := DataW.trod_string hu hx
      exact ⟨⟨.str s, rfl, hs⟩, trivial⟩
    · rename_i e hu
      split at h
      · rename_i k hko
        cases he : Nat.beq (κ k).ty e with
        | false => rw [he] at h; cases h
        | true =>
          rw [he] at h
          obtain rfl := Option.some.inj h
          obtain rfl := Nat.eq_of_beq_eq_true he
          have ko := hk t k hko
          suffices hs : ∃ v, cs = [v] ∧ LeafV κ w (.s k) v by
            obtain ⟨v, rfl, hs⟩ := hs
            exact ⟨hs, trivial⟩
          rcases open_slice hu hx with ⟨rfl, _⟩ | ⟨a, len, cap, m, n, D, Pl, rfl, hb, hl, hm, hmm, _, hxx⟩
          · exact ⟨_, rfl, none, 0, [], rfl, ⟨Nat.le_refl _, fun _ => rfl, fun h => absurd h (by simp)⟩, by simp, by simp⟩
          · simp only [if_true] at hmm
            subst hmm
            have hrows : ∀ q, q ≤ len → ∃ l : List (κ k).T, l.length = q ∧ (∀ x ∈ l, likes ((κ k).enc (κ k).zero) ((κ k).enc x)) ∧ ∀ (i : Nat) y, l[i]? = some y → ∀ j u, (((κ k).enc y).map LV.val)[j]? = some u → w.cell? (a.add (i * (κ k).sz + j)) = some u := by
              intro q
              induction q with
              | zero => exact fun _ => ⟨[], rfl, by simp, by simp⟩
              | succ q ih =>
                intro hq
                obtain ⟨l, h1, h2, h3⟩ := ih (by omega)
                obtain ⟨cs', g1, g2⟩ := hxx q (by omega)
                obtain ⟨_, g4, g5⟩ := World.cells?_some g1
                obtain ⟨y, rfl, hy⟩ := ko.opens enc w base n held _ _ g2
                refine ⟨l ++ [y], by simp [h1], fun z hz => ?_, fun i z hi j u hu => ?_⟩
                · rcases List.mem_append.1 hz with hz | hz
                  · exact h2 z hz
                  · rw [List.mem_singleton.1 hz]; exact hy
                · by_cases hiq : i < q
                  · rw [List.getElem?_append_left (by omega)] at hi
                    exact h3 i z hi j u hu
                  · have : i = q := by
                      have := (List.getElem?_eq_some_iff.1 hi).1
                      simp [h1] at this; omega
                    subst this
                    rw [List.getElem?_append_right (by omega), h1] at hi
                    simp at hi
                    subst hi
                    have hj : j < P.cellsOf (κ k).ty := by rw [← g4]; exact (List.getElem?_eq_some_iff.1 hu).1
                    have := g5 j hj
                    rw [Deep.add_add, ko.size] at this
                    rw [this, hu]
            obtain ⟨l, rfl, h2, h3⟩ := hrows len (Nat.le_refl _)
            refine ⟨_, rfl, some a, m, l, rfl, ⟨hl, by simp, fun _ => ⟨a, rfl, fun j u hu => ?_⟩⟩, by omega, h2⟩
            have := flat_cell (hκ k) (ad := a) (w := w) l 0 (fun i x hx j u hu => by rw [Nat.zero_add]; exact h3 i x hx j u hu) j u hu
            simpa using this
      · cases h
    · rename_i fs hu
      split at h
      · rename_i k1 hk1
        cases hc : Nat.beq (P.cellsOf t) k1.length with
        | false => rw [hc] at h; cases h
        | true =>
          rw [hc] at h
          obtain rfl := Option.some.inj h
          have hc := Nat.eq_of_beq_eq_true hc
          obtain ⟨xs, n, rfl, rfl, hl, hlen, hf⟩ := DataW.trod_struct hu hx
          have := lkFs_opens (κ := κ) (enc := enc) (w := w) (base := base) (n := n) (held := held) (fun t ks h cs x hx => lkT_opens hκ hk d t ks h n cs x hx) (cs := cs) fs.toList 0 k1 hk1 (fun f hm => by
            obtain ⟨i, hi, rfl⟩ := List.getElem_of_mem hm
            have hi' : i < fs.size := by simpa using hi
            have e := hf i fs[i] (by simp [hi'])
            refine ⟨xs[i]'(by omega), ?_⟩
            have e2 : fs.toList[i] = fs[i] := by simp
            rw [e2, e, List.getElem?_eq_getElem (by omega)]) (by omega)
          simpa using this
      · cases h
    · cases h
def lkSc : List Lk → List LV → Bool
  | [], [] => true
  | .c (.int k _) :: ks, .int k' _ :: zs => decide (k = k') && lkSc ks zs
  | .c (.bool _) :: ks, .bool _ :: zs => lkSc ks zs
  | .c (.str _) :: ks, .str _ :: zs => lkSc ks zs
  | _, _ => false
theorem lkSc_likes {w : World} : ∀ {ks : List Lk} {zs : List LV} {cs : List Value}, lkSc ks zs = true → LeafsV κ w ks cs → ∃ xs, cs = xs.map LV.val ∧ likes zs xs := by
  intro ks
  induction ks with
  | nil =>
    intro zs cs h hv
    cases zs with
    | nil => cases cs with
      | nil => exact ⟨[], rfl, trivial⟩
      | cons _ _ => exact hv.elim
    | cons _ _ => simp [lkSc] at h
  | cons k ks ih =>
    intro zs cs h hv
    cases cs with
    | nil => exact hv.elim
    | cons c cs =>
      cases zs with
      | nil => cases k <;> simp [lkSc] at h
      | cons z zs =>
        unfold lkSc at h
        split at h
        · rename_i e1 e2; cases e1
        · rename_i e1 e2
          simp only [List.cons.injEq] at e1 e2
          obtain ⟨rfl, rfl⟩ := e1
          obtain ⟨rfl, rfl⟩ := e2
          simp only [Bool.and_eq_true, decide_eq_true_eq] at h
          obtain ⟨rfl, h⟩ := h
          obtain ⟨⟨x, rfl, hx⟩, hv⟩ := hv
          obtain ⟨xs, rfl, hl⟩ := ih h hv
          refine ⟨x :: xs, rfl, ?_, hl⟩
          cases x <;> simp [like1] at hx ⊢
          exact hx
        · rename_i e1 e2
          simp only [List.cons.injEq] at e1 e2
          obtain ⟨rfl, rfl⟩ := e1
          obtain ⟨rfl, rfl⟩ := e2
          obtain ⟨⟨x, rfl, hx⟩, hv⟩ := hv
          obtain ⟨xs, rfl, hl⟩ := ih h hv
          refine ⟨x :: xs, rfl, ?_, hl⟩
          cases x <;> simp [like1] at hx ⊢
        · rename_i e1 e2
          simp only [List.cons.injEq] at e1 e2
          obtain ⟨rfl, rfl⟩ := e1
          obtain ⟨rfl, rfl⟩ := e2
          obtain ⟨⟨x, rfl, hx⟩, hv⟩ := hv
          obtain ⟨xs, rfl, hl⟩ := ih h hv
          refine ⟨x :: xs, rfl, ?_, hl⟩
          cases x <;> simp [like1] at hx ⊢
          exact hx
        · cases h
theorem KOpen_of {κ : Nat → KT} (hκ : ∀ k, (κ k).Ok) {k : KT} (hok : k.Ok) (h1 : Nat.beq (P.cellsOf k.ty) k.sz = true) (h2 : (match lkT P κ (fun _ => none) 100 k.ty with | some ks => lkSc ks (k.enc k.zero) | none => false) = true) (ht : ∀ xs, likes (k.enc k.zero) xs → ∃ a, k.dec xs = some a) : KOpen P k := by
  refine ⟨Nat.eq_of_beq_eq_true h1, fun {H} enc w base fuel held cs x hx => ?_⟩
  split at h2
  · rename_i ks hks
    have := lkT_opens hκ (kO := fun _ => none) (fun t k h => by cases h) 100 k.ty ks hks fuel cs x hx
    obtain ⟨xs, rfl, hl⟩ := lkSc_likes h2 this
    obtain ⟨a, ha⟩ := ht xs hl
    rw [← hok.dec xs a ha] at hl ⊢
    exact ⟨a, rfl, hl⟩
  · cases h2
theorem likes_int {k : IntKind} {z : Int} {zs xs : List LV} (h : likes (.int k z :: zs) xs) : ∃ n ys, xs = .int k n :: ys ∧ likes zs ys := by
  cases xs with
  | nil => exact h.elim
  | cons x xs =>
    obtain ⟨h1, h2⟩ := h
    cases x <;> simp [like1] at h1
    obtain ⟨rfl, _⟩ := h1
    exact ⟨_, _, rfl, h2⟩
theorem likes_bool {z : Bool} {zs xs : List LV} (h : likes (.bool z :: zs) xs) : ∃ n ys, xs = .bool n :: ys ∧ likes zs ys := by
  cases xs with
  | nil => exact h.elim
  | cons x xs =>
    obtain ⟨h1, h2⟩ := h
    cases x <;> simp [like1] at h1
    exact ⟨_, _, rfl, h2⟩
theorem likes_str {z : ByteArray} {zs xs : List LV} (h : likes (.str z :: zs) xs) : ∃ n ys, xs = .str n :: ys ∧ likes zs ys := by
  cases xs with
  | nil => exact h.elim
  | cons x xs =>
    obtain ⟨h1, h2⟩ := h
    cases x <;> simp [like1] at h1
    exact ⟨_, _, rfl, h2⟩
theorem likes_nil {xs : List LV} (h : likes [] xs) : xs = [] := by cases xs with | nil => rfl | cons _ _ => exact h.elim
/-! ### a law's arguments -/
theorem leafs_int {w : World} {k : IntKind} {z : Int} {ks : List Lk} {vs : List Value} (h : LeafsV κ w (.c (.int k z) :: ks) vs) : ∃ n us, vs = .int k n :: us ∧ (Lit.int k n).wf = true ∧ LeafsV κ w ks us := by
  cases vs with
  | nil => exact h.elim
  | cons v vs =>
    obtain ⟨⟨x, rfl, h1⟩, h2⟩ := h
    cases x <;> simp [like1] at h1
    obtain ⟨rfl, h1⟩ := h1
    exact ⟨_, _, rfl, h1, h2⟩
theorem leafs_bool {w : World} {z : Bool} {ks : List Lk} {vs : List Value} (h : LeafsV κ w (.c (.bool z) :: ks) vs) : ∃ n us, vs = .bool n :: us ∧ LeafsV κ w ks us := by
  cases vs with
  | nil => exact h.elim
  | cons v vs =>
    obtain ⟨⟨x, rfl, h1⟩, h2⟩ := h
    cases x <;> simp [like1] at h1
    exact ⟨_, _, rfl, h2⟩
theorem leafs_str {w : World} {z : ByteArray} {ks : List Lk} {vs : List Value} (h : LeafsV κ w (.c (.str z) :: ks) vs) : ∃ n us, vs = .string n :: us ∧ n.size ≤ maxLen ∧ LeafsV κ w ks us := by
  cases vs with
  | nil => exact h.elim
  | cons v vs =>
    obtain ⟨⟨x, rfl, h1⟩, h2⟩ := h
    cases x <;> simp [like1] at h1
    exact ⟨_, _, rfl, h1, h2⟩
/-- What stands behind a block that is read alone. -/
def Ro1 (κ : Nat → KT) (w : World) : Blk κ → Value → Prop
  | .rows k false l, v => ∃ A c, v = .slice A l.length c ∧ l.length ≤ c ∧ (A = none → c = 0) ∧ (0 < l.length → ∃ ad, A = some ad ∧ ∀ j u, (flat (κ k) l)[j]? = some u → w.cell? (ad.add j) = some u)
  | _, _ => False
theorem leafs_sl {w : World} {k : Nat} {ks : List Lk} {vs : List Value} (h : LeafsV κ w (.s k :: ks) vs) : ∃ v us, ∃ l : List (κ k).T, vs = v :: us ∧ Ro1 κ w (.rows k false l) v ∧ (l.length ≤ maxLen ∧ ∀ x ∈ l, likes ((κ k).enc (κ k).zero) ((κ k).enc x)) ∧ LeafsV κ w ks us := by
  cases vs with
  | nil => exact h.elim
  | cons v vs =>
    obtain ⟨⟨A, cap, l, rfl, h1, h2⟩, h3⟩ := h
    exact ⟨_, _, l, rfl, ⟨A, cap, rfl, h1⟩, h2, h3⟩
theorem leafs_nil {w : World} {vs : List Value} (h : LeafsV κ w [] vs) : vs = [] := by cases vs with | nil => rfl | cons _ _ => exact h.elim
/-- A parameter that is a struct. -/
theorem top_agg (hκ : ∀ k, (κ k).Ok) {kO : TypeId → Option Nat} (hk : ∀ t k, kO t = some k → KOpen P (κ k)) {H : Type} {enc : TypeId × Value → H} {w : World} {b0 base : Nat} {held : Bool} {r : Reach} {t : TypeId} {v : Value} {dd : DataW H} {ps : List MemPlace} {fs : Array Field} {ks : List Lk}
    (ht : P.underlying t = some (.struct fs)) (h : lkT P κ kO 100 t = some ks) (hv : Value.okWide P w r b0 t v) (hd : DataW.Trod enc P w base (fun _ => true) held t v dd ps) : ∃ us, v = .agg us ∧ LeafsV κ w ks us.toList := by
  obtain ⟨cs, rfl, _⟩ := okWide_struct ht hv
  obtain ⟨fuel, hf⟩ := hd
  exact ⟨cs, rfl, lkT_opens hκ hk 100 t ks h fuel _ _ hf⟩
theorem top_one (hκ : ∀ k, (κ k).Ok) {kO : TypeId → Option Nat} (hk : ∀ t k, kO t = some k → KOpen P (κ k)) {H : Type} {enc : TypeId × Value → H} {w : World} {b0 base : Nat} {held : Bool} {r : Reach} {t : TypeId} {v : Value} {dd : DataW H} {ps : List MemPlace} {ks : List Lk}
    (h0 : (match P.underlying t with | some (.struct _) => false | _ => true) = true) (h : lkT P κ kO 100 t = some ks) (hv : Value.okWide P w r b0 t v) (hd : DataW.Trod enc P w base (fun _ => true) held t v dd ps) : LeafsV κ w ks [v] := by
  obtain ⟨fuel, hf⟩ := hd
  have hc : v.cells.toList = [v] := by
    rw [lkT] at h
    split at h
    · rename_i k hu; obtain ⟨n, rfl⟩ := okWide_int hu hv; rfl
    · rename_i hu; obtain ⟨n, rfl⟩ := okWide_bool hu hv; rfl
    · rename_i hu; obtain ⟨n, rfl⟩ := okWide_string hu hv; rfl
    · rename_i hu; obtain ⟨_, _, _, rfl⟩ := okWide_slice hu hv; rfl
    · rename_i hu; rw [hu] at h0; cases h0
    · cases h
  rw [hc] at hf
  exact lkT_opens hκ hk 100 t ks h fuel _ _ hf
def Ros (κ : Nat → KT) (w : World) : List (Blk κ) → List Value → Prop
  | [], [] => True
  | b :: bs, v :: vs => Ro1 κ w b v ∧ Ros κ w bs vs
  | _, _ => False
def muOf (vs : List Value) : Mu := fun n => (vs[n]?).getD undef
theorem Ros_get {w : World} : ∀ {bs : List (Blk κ)} {vs : List Value}, Ros κ w bs vs → ∀ (n : Nat) b, bs[n]? = some b → ∃ v, vs[n]? = some v ∧ Ro1 κ w b v
  | [], _, _, n, b, hb => by simp at hb
  | b :: bs, [], h, _, _, _ => h.elim
  | b :: bs, v :: vs, h, 0, c, hc => by
    obtain rfl : b = c := by simpa using hc
    exact ⟨v, rfl, h.1⟩
  | b :: bs, v :: vs, h, n + 1, c, hc => by simpa using Ros_get h.2 n c (by simpa using hc)
theorem Ros_ro {w : World} {bs : List (Blk κ)} {vs : List Value} (h : Ros κ w bs vs) (n : Nat) : hpOf bs n = .fresh ∨ ∃ k l, hpOf bs n = .rows k false l ∧ Ro1 κ w (.rows k false l) (muOf vs n) := by
  unfold hpOf muOf
  cases hb : bs[n]? with
  | none => exact .inl rfl
  | some b =>
    obtain ⟨v, hv, hr⟩ := Ros_get h n b hb
    right
    rw [hv]
    cases b with
    | rows k own l => cases own with
      | false => exact ⟨k, l, rfl, hr⟩
      | true => exact hr.elim
    | fresh => exact hr.elim
    | dead => exact hr.elim
    | cells _ _ => exact hr.elim
theorem Ros_RH {w : World} {bs : List (Blk κ)} {vs : List Value} (h : Ros κ w bs vs) (hpin : ∀ p, (κ 0).pin = some p → ∃ o, w.heap[p.1]? = some o ∧ p.2 o) : RH (muOf vs) (hpOf bs) w := by
  refine ⟨fun b => ?_, fun b b' g hne ho => ?_, fun p hp => ?_⟩
  · rcases Ros_ro h b with e | ⟨k, l, e, hr⟩
    · rw [e]; trivial
    · rw [e]
      obtain ⟨A, c, h1, h2⟩ := hr
      exact ⟨A, c, h1, h2⟩
  · rcases Ros_ro h b with e | ⟨k, l, e, hr⟩ <;> rw [e] at ho <;> cases ho
  · obtain ⟨o, h1, h2⟩ := hpin p hp
    exact ⟨o, h1, h2, fun b ho => by rcases Ros_ro h b with e | ⟨k, l, e, hr⟩ <;> rw [e] at ho <;> cases ho⟩
def ArgsR (M : Mu) (H : Hp κ) : List AV → List Value → Prop
  | [], [] => True
  | x :: xs, v :: vs => RA M H x v ∧ ArgsR M H xs vs
  | _, _ => False
theorem ArgsR_get {M : Mu} {H : Hp κ} : ∀ {xs : List AV} {vs : List Value}, ArgsR M H xs vs → vs.length = xs.length ∧ ∀ (j : Nat) x u, xs[j]? = some x → vs[j]? = some u → RA M H x u
  | [], [], _ => ⟨rfl, by simp⟩
  | x :: xs, v :: vs, h => by
    obtain ⟨h1, h2⟩ := ArgsR_get h.2
    refine ⟨by simp [h1], fun j y u hy hu => ?_⟩
    cases j with
    | zero =>
      simp only [List.getElem?_cons_zero, Option.some.injEq] at hy hu
      subst hy; subst hu; exact h.1
    | succ j => exact h2 j y u (by simpa using hy) (by simpa using hu)
  | [], _ :: _, h => h.elim
  | _ :: _, [], h => h.elim
def LvsR (M : Mu) (H : Hp κ) : List LV → List Value → Prop
  | [], [] => True
  | x :: xs, v :: vs => RL M H x v ∧ LvsR M H xs vs
  | _, _ => False
theorem LvsR_RLs {M : Mu} {H : Hp κ} : ∀ {xs : List LV} {vs : List Value}, LvsR M H xs vs → RLs M H xs vs
  | [], [], _ => ⟨rfl, by simp⟩
  | x :: xs, v :: vs, h => by
    obtain ⟨h1, h2⟩ := LvsR_RLs h.2
    refine ⟨by simp [h1], fun j y u hy hu => ?_⟩
    cases j with
    | zero =>
      simp only [List.getElem?_cons_zero, Option.some.injEq] at hy hu
      subst hy; subst hu; exact h.1
    | succ j => exact h2 j y u (by simpa using hy) (by simpa using hu)
  | [], _ :: _, h => h.elim
  | _ :: _, [], h => h.elim
variable {ti : TypeId → Option TI} {Γ : Ct κ}
/-- A law's call returns true and leaves what was there. -/
theorem law_calls (hκ : ∀ k, (κ k).Ok) (hm : P.follows .mixedOrders = true) (tok : ∀ t x, ti t = some x → TypeOK P κ t x) (hΓ : ∀ f g, Γ f = some g → CSound P f g) {LH : Nat → Option (LHi κ)}
    {f : FuncId} {fn : Func} (hf : P.funcs[f]? = some fn) (hb : fn.body = some (bodyOf fn)) (hw : wfC fn.ntmps (bodyOf fn) = true) {m : Nat} (hL : LOK ti Γ LH m (loopsOf (bodyOf fn))) {Lr : Live} {rw : List Nat} (hrw : rw = [])
    {out : Ret κ → Option Bool} (hout : ∀ ret y, out ret = some y → ret.v = .v (.bool y)) {av : List AV} {bs : List (Blk κ)} {ms : List Value} {nx : Nat} {cargs : List Value} {w : World} (hbs : bs.length = m) (hR : Ros κ w bs ms) (hpin : ∀ p, (κ 0).pin = some p → ∃ o, w.heap[p.1]? = some o ∧ p.2 o) (hle : Nat.ble av.length fn.ntmps = true) (hargs : ArgsR (muOf ms) (hpOf bs) av cargs)
    (h : Code.den ti Γ LH (bodyOf fn) (finK ti fn.results.toList Lr m rw out) ⟨envOf ((av.zipIdx).map fun q => (q.2, q.1)), hpOf bs, nx⟩ = some true) :
    Calls P f cargs.toArray w fun e w' => e = .returned (.bool true) ∧ Below w.heap.size w w' := by
  obtain ⟨hl, ha⟩ := ArgsR_get hargs
  refine (fun_calls hκ hm tok hΓ hf hb hw hL (rw := rw) (by rw [hrw]; simp) (Ros_RH hR hpin) (fun b hb' => ?_) (by simpa using hl) (by have := Nat.le_of_ble_eq_true hle; simp [hl]; exact this) (fun j x u h1 h2 => ha j x u h1 (by simpa using h2)) h).mono ?_
  · unfold hpOf
    have hlt : b < bs.length := by omega
    obtain ⟨v, _, hr⟩ := Ros_get hR b bs[b] (List.getElem?_eq_getElem hlt)
    rw [List.getElem?_eq_getElem hlt]
    intro e
    simp only [Option.getD_some] at e
    rw [e] at hr; exact hr.elim
  · rintro e w' ⟨u, ret, M, H, rfl, ho, hv, _, hF, _⟩
    rw [hout ret true ho] at hv
    have hv : u = .bool true := hv
    subst hv
    refine ⟨rfl, hF.os, hF.tape, hF.output, hF.size, fun i hi => hF.frame i hi fun b hb => ?_⟩
    rcases Ros_ro hR b with e | ⟨k, l, e, hr⟩ <;> rw [e] at hb <;> cases hb
end
end Go.Eng

/- Loops over lists, numbers within bounds: what the pure proofs lean on. -/
set_option linter.unusedVariables false
set_option linter.unusedSimpArgs false
namespace Go.Eng
open Go
def foldE {α σ ρ : Type} (g : α → σ → σ ⊕ ρ) : List α → σ → σ ⊕ ρ
  | [], s => .inl s
  | x :: xs, s => match g x s with
    | .inl s' => foldE g xs s'
    | .inr r => .inr r
theorem loop_for {τ α σ R : Type} (l : Nat → τ → Option R) (enc : Nat → σ → τ) (X : σ → Option R) (g : α → σ → σ ⊕ Option R) (Inv : Nat → σ → Prop) (xs : List α)
    (hs : ∀ n i x s, xs[i]? = some x → Inv i s → l (n + 1) (enc i s) = match g x s with | .inl s' => l n (enc (i + 1) s') | .inr r => r)
    (hI : ∀ i x s s', xs[i]? = some x → Inv i s → g x s = .inl s' → Inv (i + 1) s')
    (he : ∀ n s, Inv xs.length s → l (n + 1) (enc xs.length s) = X s) :
    ∀ n s, xs.length < n → Inv 0 s → l n (enc 0 s) = match foldE g xs s with | .inl s' => X s' | .inr r => r := by
  have key : ∀ (suf pre : List α) n s, xs = pre ++ suf → suf.length < n → Inv pre.length s → l n (enc pre.length s) = match foldE g suf s with | .inl s' => X s' | .inr r => r := by
    intro suf
    induction suf with
    | nil =>
      intro pre n s hx hn hi
      obtain ⟨n, rfl⟩ : ∃ q, n = q + 1 := ⟨n - 1, by simp at hn; omega⟩
      have e : pre.length = xs.length := by rw [hx]; simp
      rw [e] at hi ⊢
      exact he n s hi
    | cons x suf ih =>
      intro pre n s hx hn hi
      obtain ⟨n, rfl⟩ : ∃ q, n = q + 1 := ⟨n - 1, by simp at hn; omega⟩
      have hg : xs[pre.length]? = some x := by rw [hx]; simp
      rw [hs n pre.length x s hg hi]
      simp only [foldE]
      cases hgx : g x s with
      | inr r => rfl
      | inl s' =>
        have := ih (pre ++ [x]) n s' (by rw [hx]; simp) (by simp at hn; omega) (by simpa using hI _ x s s' hg hi hgx)
        simpa using this
  intro n s hn hi
  exact key xs [] n s rfl hn hi
/-- A loop that goes on while p holds. -/
theorem loop_all {α R : Type} (l : Nat → Int → Option R) (p : α → Bool) (X r : Option R) (xs : List α)
    (hs : ∀ n (i : Nat) x, xs[i]? = some x → l (n + 1) (i : Int) = bif p x then l n ((i + 1 : Nat) : Int) else r) (he : ∀ n, l (n + 1) (xs.length : Int) = X) (n : Nat) (hn : xs.length < n) :
    l n 0 = bif xs.all p then X else r := by
  have := loop_for (σ := Unit) l (fun i _ => (i : Int)) (fun _ => X) (fun x _ => bif p x then .inl () else .inr r) (fun _ _ => True) xs
    (fun n i x s hx _ => by rw [hs n i x hx]; cases p x <;> rfl) (fun _ _ _ _ _ _ _ => trivial) (fun n _ _ => he n) n () hn trivial
  have e : ∀ ys : List α, foldE (fun x (_ : Unit) => bif p x then (.inl () : Unit ⊕ Option R) else .inr r) ys () = bif ys.all p then .inl () else .inr r := by
    intro ys
    induction ys with
    | nil => rfl
    | cons y ys ih => simp only [foldE, List.all_cons]; cases p y <;> simp [ih]
  rw [e] at this
  refine this.trans ?_
  cases xs.all p <;> rfl
/-- A loop that stops where p holds first. -/
theorem loop_any {α R : Type} (l : Nat → Int → Option R) (p : α → Bool) (X r : Option R) (xs : List α)
    (hs : ∀ n (i : Nat) x, xs[i]? = some x → l (n + 1) (i : Int) = bif p x then r else l n ((i + 1 : Nat) : Int)) (he : ∀ n, l (n + 1) (xs.length : Int) = X) (n : Nat) (hn : xs.length < n) :
    l n 0 = bif xs.any p then r else X := by
  rw [loop_all l (fun x => !p x) X r xs (fun n i x hx => by rw [hs n i x hx]; cases p x <;> rfl) he n hn]
  have : xs.all (fun x => !p x) = !xs.any p := by simp [List.any_eq_not_all_not]
  rw [this]
  cases xs.any p <;> rfl
/-- A loop that carries a value on. -/
theorem loop_fold {α σ R : Type} (l : Nat → Int → σ → Option R) (f : σ → α → σ) (Inv : Nat → σ → Prop) (X : σ → Option R) (xs : List α)
    (hs : ∀ n (i : Nat) x s, xs[i]? = some x → Inv i s → l (n + 1) (i : Int) s = l n ((i + 1 : Nat) : Int) (f s x)) (hI : ∀ (i : Nat) x s, xs[i]? = some x → Inv i s → Inv (i + 1) (f s x))
    (he : ∀ n s, Inv xs.length s → l (n + 1) (xs.length : Int) s = X s) (n : Nat) (s : σ) (hn : xs.length < n) (h0 : Inv 0 s) :
    l n 0 s = X (xs.foldl f s) := by
  have := loop_for (fun n (t : Int × σ) => l n t.1 t.2) (fun i s => ((i : Int), s)) X (fun x s => .inl (f s x)) Inv xs
    (fun n i x s hx hi => hs n i x s hx hi) (fun i x s s' hx hi h => by obtain rfl : f s x = s' := by simpa using h
                                                                        exact hI i x s hx hi) he n s hn h0
  have e : ∀ (ys : List α) s, foldE (fun x s => (.inl (f s x) : σ ⊕ Option R)) ys s = .inl (ys.foldl f s) := by
    intro ys
    induction ys with
    | nil => intro s; rfl
    | cons y ys ih => intro s; simp only [foldE, List.foldl_cons]; exact ih _
  rw [e] at this
  exact this
theorem foldl_append {α β : Type} (f : α → List β) (xs : List α) : ∀ s : List β, xs.foldl (fun s x => s ++ f x) s = s ++ xs.flatMap f := by
  induction xs with
  | nil => intro s; simp
  | cons x xs ih => intro s; rw [List.foldl_cons, ih]; simp
/-- A loop that lays one list out into another of its length. -/
theorem loop_map {α β R : Type} (l : Nat → Int → List β → Option R) (c : α → β) (X : List β → Option R) (xs : List α)
    (hs : ∀ n (i : Nat) x (ys : List β), xs[i]? = some x → ys.length = xs.length → l (n + 1) (i : Int) ys = l n ((i + 1 : Nat) : Int) (ys.set i (c x)))
    (he : ∀ n ys, ys.length = xs.length → l (n + 1) (xs.length : Int) ys = X ys) (n : Nat) (ys : List β) (hn : xs.length < n) (hy : ys.length = xs.length) : l n 0 ys = X (xs.map c) := by
  have key : ∀ (suf pre : List α) n (ys : List β), xs = pre ++ suf → suf.length < n → ys.length = xs.length → ys.take pre.length = pre.map c → l n (pre.length : Int) ys = X (xs.map c) := by
    intro suf
    induction suf with
    | nil =>
      intro pre n ys hx hn hy ht
      obtain ⟨n, rfl⟩ : ∃ q, n = q + 1 := ⟨n - 1, by simp at hn; omega⟩
      have e : pre.length = xs.length := by rw [hx]; simp
      have e2 : ys = xs.map c := by
        rw [e, ← hy, List.take_length] at ht
        rw [ht, hx]; simp
      rw [e, he n ys hy, e2]
    | cons x suf ih =>
      intro pre n ys hx hn hy ht
      obtain ⟨n, rfl⟩ : ∃ q, n = q + 1 := ⟨n - 1, by simp at hn; omega⟩
      have hg : xs[pre.length]? = some x := by rw [hx]; simp
      have hlt : pre.length < ys.length := by rw [hy, hx]; simp
      rw [hs n pre.length x ys hg hy]
      have := ih (pre ++ [x]) n (ys.set pre.length (c x)) (by rw [hx]; simp) (by simp at hn; omega) (by simpa using hy) (by
        rw [List.length_append, List.length_singleton, List.take_succ_eq_append_getElem (by simpa using hlt), List.take_set_of_le (Nat.le_refl _), ht]
        simp)
      simpa using this
  exact key xs [] n ys rfl hn hy rfl
/-! ### numbers -/
theorem wf64 {n : Int} (h : (Lit.int .i64 n).wf = true) : -9223372036854775808 ≤ n ∧ n ≤ 9223372036854775807 := by
  simp [Lit.wf, IntKind.min, IntKind.max, IntKind.bits, IntKind.signed] at h
  omega
theorem w64_id {n : Int} (h : -9223372036854775808 ≤ n ∧ n ≤ 9223372036854775807) : w64 n = n := by
  unfold w64
  simp [IntKind.wrap, IntKind.bits, IntKind.signed]
  try omega
theorem w64_bd (n : Int) : -9223372036854775808 ≤ w64 n ∧ w64 n ≤ 9223372036854775807 := by
  unfold w64
  simp [IntKind.wrap, IntKind.bits, IntKind.signed]
  try omega
def Ok {α : Type} (l : List α) : Prop := l.length ≤ 1048576
theorem Ok.out {α : Type} {l : List α} (h : Ok l) : l.length ≤ 1048576 := h
theorem Ok.map {α β : Type} {f : α → β} {l : List α} (h : Ok l) : Ok (l.map f) := by unfold Ok at *; simpa using h
theorem Ok.filter {α : Type} {f : α → Bool} {l : List α} (h : Ok l) : Ok (l.filter f) := by unfold Ok at *; exact Nat.le_trans (List.length_filter_le _ _) h
theorem Ok.small {α : Type} {l : List α} (n : Nat) (h : l.length ≤ n) (hn : n ≤ 1048576 := by decide) : Ok l := by unfold Ok; omega
/-- Fuel that is enough for every loop. -/
def Big (k : Nat) : Prop := 1000000000000 ≤ k
theorem Big.out {k : Nat} (h : Big k) : 1000000000000 ≤ k := h
theorem big_some : ∃ k, Big k := ⟨1000000000000, Nat.le_refl _⟩
theorem Big.lt {k : Nat} (h : Big k) {α : Type} {l : List α} (hl : Ok l) : l.length < k := by have := h.out; have := hl.out; omega
theorem at_ {α : Type} {xs : List α} {i : Nat} {x : α} (h : xs[i]? = some x) (hl : xs.length ≤ 1000000000000) :
    decide ((i : Int) < (xs.length : Int)) = true ∧ decide ((0 : Int) ≤ (i : Int)) = true ∧ w64 ((i : Int) + 1) = ((i + 1 : Nat) : Int) ∧ ∀ z, xs.getD ((i : Int)).toNat z = x := by
  have hi := (List.getElem?_eq_some_iff.1 h).1
  refine ⟨decide_eq_true (by omega), decide_eq_true (by omega), ?_, fun z => ?_⟩
  · rw [w64_id (by omega)]; omega
  · simp [List.getD_eq_getElem?_getD, h]
theorem end_ {α : Type} (xs : List α) : decide ((xs.length : Int) < (xs.length : Int)) = false := decide_eq_false (by omega)
theorem lt_of {α : Type} {xs : List α} {i : Nat} {x : α} (h : xs[i]? = some x) : i < xs.length := (List.getElem?_eq_some_iff.1 h).1
theorem bind_of {α β : Type} {x : Option α} {a : α} {f : α → Option β} {r : Option β} (h : x = some a) (h2 : f a = r) : x.bind f = r := by rw [h]; exact h2
theorem nn_ (n : Nat) : decide ((0 : Int) ≤ (n : Int)) = true := decide_eq_true (by omega)
theorem cap_ok {n m : Nat} (h : n * m ≤ 140737488355328) : decide (n * m ≤ cap48) = true := decide_eq_true h
theorem beqF {a b : Int} (h : ¬ a = b) : (a == b) = false := by simpa using h
theorem bneT {a b : Int} (h : ¬ a = b) : (a != b) = true := by simpa using h
def inR (n a b : Int) : Bool := decide (a ≤ n ∧ n ≤ b)
theorem inR_true {n a b : Int} : inR n a b = true ↔ a ≤ n ∧ n ≤ b := by simp [inR]
theorem inR_false {n a b : Int} : inR n a b = false ↔ ¬ (a ≤ n ∧ n ≤ b) := by simp [inR]
/-! ### marks -/
def marks {β : Type} (m : Int → β) (c : Nat) : Int → Nat → List β
  | _, 0 => []
  | n, j + 1 => m n :: marks m c (n + c) j
theorem marks_len {β : Type} (m : Int → β) (c : Nat) : ∀ j n, (marks m c n j).length = j
  | 0, n => rfl
  | j + 1, n => by simp [marks, marks_len m c j]
theorem w64_s {n : Int} (h : 0 ≤ n) (h2 : n ≤ 2000000000000) : w64 (n + 1) = n + 1 := w64_id (by omega)
theorem loop_mark {β R : Type} (l : Nat → Int → Int → List β → Option R) (m : Int → β) (c : Nat) (X : Int → List β → Option R)
    (hs : ∀ q (n : Int) (i : Nat) (ys : List β), 0 ≤ n → n ≤ 1000000000000 → i < ys.length → ys.length ≤ 1048576 → l (q + 1) n (i : Int) ys = l q (n + c) ((i + 1 : Nat) : Int) (ys.set i (m n)))
    (he : ∀ q n (ys : List β), l (q + 1) n (ys.length : Int) ys = X n ys) (q : Nat) (n : Int) (ys : List β) (h0 : 0 ≤ n) (hb : n + c * ys.length ≤ 1000000000000) (hl : ys.length ≤ 1048576) (hq : ys.length < q) :
    l q n 0 ys = X (n + c * ys.length) (marks m c n ys.length) := by
  have key : ∀ (suf pre : List β) (q : Nat) (n : Int), 0 ≤ n → n + c * suf.length ≤ 1000000000000 → (pre ++ suf).length ≤ 1048576 → suf.length < q → l q n (pre.length : Int) (pre ++ suf) = X (n + c * suf.length) (pre ++ marks m c n suf.length) := by
    intro suf
    induction suf with
    | nil =>
      intro pre q n h0 hb hl hq
      obtain ⟨q, rfl⟩ : ∃ j, q = j + 1 := ⟨q - 1, by simp at hq; omega⟩
      have := he q n pre
      simpa [marks] using this
    | cons x suf ih =>
      intro pre q n h0 hb hl hq
      obtain ⟨q, rfl⟩ : ∃ j, q = j + 1 := ⟨q - 1, by simp at hq; omega⟩
      have hc : (c : Int) * ((x :: suf).length : Int) = c + c * (suf.length : Int) := by simp [Int.mul_add]; omega
      have hnn : 0 ≤ (c : Int) * (suf.length : Int) := Int.mul_nonneg (by omega) (by omega)
      rw [hs q n pre.length (pre ++ x :: suf) h0 (by omega) (by simp) hl]
      have e1 : (pre ++ x :: suf).set pre.length (m n) = (pre ++ [m n]) ++ suf := by simp
      have := ih (pre ++ [m n]) q (n + c) (by omega) (by omega) (by simpa using hl) (by simp at hq; omega)
      rw [e1, show ((pre.length + 1 : Nat) : Int) = ((pre ++ [m n]).length : Int) by simp, this, hc]
      simp [marks, Int.add_assoc]
  exact key ys [] q n h0 hb hl hq
theorem loop_held {β R : Type} (l : Nat → Int → Int → Option R) (m : Int → β) (c : Nat) (X : Int → Option R) (xs : List β)
    (hs : ∀ q (n : Int) (i : Nat), 0 ≤ n → n ≤ 1000000000000 → xs[i]? = some (m n) → l (q + 1) n (i : Int) = l q (n + c) ((i + 1 : Nat) : Int)) (he : ∀ q n, l (q + 1) n (xs.length : Int) = X n)
    (q : Nat) (n : Int) (j : Nat) (hx : xs = marks m c n j) (h0 : 0 ≤ n) (hb : n + c * j ≤ 1000000000000) (hq : j < q) : l q n 0 = X (n + c * j) := by
  have key : ∀ (j : Nat) (pre : List β) (q : Nat) (n : Int), xs = pre ++ marks m c n j → 0 ≤ n → n + c * j ≤ 1000000000000 → j < q → l q n (pre.length : Int) = X (n + c * j) := by
    intro j
    induction j with
    | zero =>
      intro pre q n hx h0 hb hq
      obtain ⟨q, rfl⟩ : ∃ j, q = j + 1 := ⟨q - 1, by omega⟩
      have e : pre.length = xs.length := by rw [hx]; simp [marks]
      rw [e, he]; simp
    | succ j ih =>
      intro pre q n hx h0 hb hq
      obtain ⟨q, rfl⟩ : ∃ j, q = j + 1 := ⟨q - 1, by omega⟩
      have hc : (c : Int) * ((j + 1 : Nat) : Int) = c + c * (j : Int) := by simp [Int.mul_add]; omega
      have hnn : 0 ≤ (c : Int) * (j : Int) := Int.mul_nonneg (by omega) (by omega)
      rw [hs q n pre.length h0 (by omega) (by rw [hx]; simp [marks])]
      have := ih (pre ++ [m n]) q (n + c) (by rw [hx]; simp [marks]) (by omega) (by omega) (by omega)
      rw [show ((pre.length + 1 : Nat) : Int) = ((pre ++ [m n]).length : Int) by simp, this, hc, Int.add_assoc]
  exact key j [] q n hx h0 hb hq
theorem getD_set {β : Type} {ys : List β} {i : Nat} (h : i < ys.length) (v z : β) : (ys.set i v).getD ((i : Int)).toNat z = v := by
  simp [List.getD_eq_getElem?_getD, h]
theorem toNat_c (i : Nat) : ((i : Int)).toNat = i := rfl
end Go.Eng

/- Contracts by hand: slices.Clone. -/
set_option linter.unusedVariables false
set_option linter.unusedSimpArgs false
namespace Go.Eng
open Go
section
variable {κ : Nat → KT} {P : Program} {ti : TypeId → Option TI} {Γ : Ct κ} {M0 : Mu} {H0 : Hp κ} {w0 : World} {m N : Nat}
theorem eqnil_wp (hκ : ∀ k, (κ k).Ok) (tok : ∀ t x, ti t = some x → TypeOK P κ t x) {id : Nat} {o1 o2 : Oper} {T T' e : TypeId} (h1 : o1.op = .move (.tmp 0)) (d1 : o1.dst = some 3) (g1 : o1.guard = none)
    (h2 : o2.op = .binOp .eql T (.tmp 3) (.const (.slice none 0 0)) T') (d2 : o2.dst = some 4) (g2 : o2.guard = none) (hT : P.underlying T = some (.slice e)) (hN : 4 < N) {b k : Nat} {l : List (κ k).T} {A : Option Addr} {n c : Nat} (hM : M0 b = .slice A n c) (hb : b < m)
    {s : St κ} (he : s.env 0 = .v (.sl b)) (hH : s.H b = .rows k false l) {Q : Exit → Act → World → Prop} (hQ : ∀ a w, Rl M0 H0 w0 m N (updE (updE s.env 3 (.v (.sl b))) 4 (.v (.bool A.isNone)), s.H) a w → Q .normal a w) {a : Act} {w : World} (hR : Rl M0 H0 w0 m N (s.env, s.H) a w) :
    (Code.region id #[o1, o2] false).wp P Q a w := by
  refine wp_region ?_
  show wpOps P #[o1, o2] Q [0, 1] a w
  rw [wpOps_cons]
  refine step_one (ti := ti) (Γ := fun _ => none) (nx := 0) (f := ⟨[], []⟩) (s := (s.env, s.H)) (s' := (updE s.env 3 (.v (.sl b)), s.H)) hκ tok (fun f g h => by cases h) (o := o1) rfl (fun t ht => by rw [d1] at ht; have h9 := Option.some.inj ht; rw [← h9]; exact (show (3 : Nat) < N by omega)) ?_ hR fun a' w' hR' => ?_
  · simp [exO, wantA, g1, h1, d1, aop, AP.exec, evO, he, putE]
  · rw [wpOps_cons]
    obtain ⟨⟨M, hE, hRH, hF⟩, hdf, hsz⟩ := hR'
    have e3 : a'.eval (.tmp 3) = .slice A n c := by
      have h3 := hE 3
      have : updE s.env 3 (.v (.sl b)) 3 = .v (.sl b) := by simp [updE]
      simp only [this, RA, RL, hH] at h3
      rw [(hF.same b hb).1, hM] at h3
      exact h3
    have hx : (execOp a'.eval o2).run P w' = .ok (.value (.bool A.isNone)) w' := by
      have q := Lib.run_eql_slice_nil (P := P) w' T e A n c 0 0 hT
      have hg : (eqGuard .eql T (.tmp 3) (.const (.slice none 0 0)) (.slice A n c) (.slice none 0 0)).run P w' = .ok () w' := by simp [eqGuard]
      simp only [execOp, h2, e3, show a'.eval (.const (.slice none 0 0)) = .slice none 0 0 from rfl, Sem.run_bind, hg, Result.andThen_ok, q, Sem.run_pure]
    unfold wpOp
    rw [show (#[o1, o2] : Array Oper)[1]? = some o2 from rfl]
    simp only
    rw [if_pos (by simp [Region.wanted, g2])]
    left
    have hok : OpOK P o2 a' w' (fun c w'' => c = .bool A.isNone ∧ w'' = w') := by unfold OpOK; rw [hx]; exact ⟨rfl, rfl⟩
    refine hok.wp fun c w'' hc => ?_
    obtain ⟨rfl, rfl⟩ := hc
    show wpOps P #[o1, o2] Q [] _ _
    refine hQ _ _ ?_
    have hR2 : RE M s.H (putE (updE s.env 3 (.v (.sl b))) o2.dst (.v (.bool A.isNone))) (a'.put o2.dst (.bool A.isNone)).tmps := RE_put o2.dst (fun t ht => by rw [d2] at ht; obtain rfl := Option.some.inj ht; rw [hsz]; exact hN) hE (fun _ _ h => h) rfl
    rw [d2] at hR2 ⊢
    exact ⟨⟨M, hR2, hRH, hF⟩, by rw [Act.put_defers']; exact hdf, by rw [put_size]; exact hsz⟩
def seqK {R : Type} (f : St κ → Option R) (K : Ex → St κ → Option R) : Ex → St κ → Option R
  | .normal, s => f s
  | .exit i, s => K (.exit i) s
  | .ret, s => K .ret s
theorem den_seq {R : Type} {LH : Nat → Option (LHi κ)} {x y : Code} {K : Ex → St κ → Option R} {s : St κ} : Code.den ti Γ LH (.seq x y) K s = Code.den ti Γ LH x (seqK (Code.den ti Γ LH y K) K) s := by
  simp only [Code.den]
  congr 1
  funext e s'
  cases e <;> rfl
def cloneF (k : Nat) (κ : Nat → KT) (l : List (κ k).T) : Option (List (κ k).T) := bif decide ((([] : List (κ k).T).length + l.length) * (κ k).bytes ≤ cap48) then some l else none
def cloneG (k : Nat) (κ : Nat → KT) (l : List (κ k).T) : Ret κ := ⟨.v (.sl 1), [], [.rows k true l]⟩
def cloneB (k : Nat) (κ : Nat → KT) (vs : List AV) (bs : List (Blk κ)) : Option (Lf κ) :=
  match vs, bs with
  | [.v (.sl 0)], [b0] => (asO k false b0).bind fun l => some ⟨List (κ k).T, cloneF k κ l, cloneG k κ⟩
  | _, _ => none
def cloneO (k : Nat) (κ : Nat → KT) (r : Ret κ) : Option (List (κ k).T) :=
  match r with
  | ⟨.v (.sl 1), [], [b]⟩ => (asO k true b).bind fun l => some l
  | _ => none
def cloneL (k : Nat) : Live := [(2, [some k])]
/-- slices.Clone: a new row of the same elements. -/
theorem clone_sound (hκ : ∀ k, (κ k).Ok) (hm : P.follows .mixedOrders = true) (tok : ∀ t x, ti t = some x → TypeOK P κ t x) {f : FuncId} {fn : Func} {R0 A B : Code} {id : Nat} {o1 o2 : Oper} {T T' : TypeId} (k : Nat) (hf : P.funcs[f]? = some fn)
    (hbo : fn.body = some (.seq R0 (.seq (.seq (.region id #[o1, o2] false) (.cond (.tmp 4) A .skip)) B))) (henter : ∀ args w, (callFunc f args).run P w = .ok (.enter f args) w)
    (h1 : o1.op = .move (.tmp 0)) (d1 : o1.dst = some 3) (g1 : o1.guard = none) (h2 : o2.op = .binOp .eql T (.tmp 3) (.const (.slice none 0 0)) T') (d2 : o2.dst = some 4) (g2 : o2.guard = none) (hT : P.underlying T = some (.slice (κ k).ty)) (hN : Nat.blt 4 fn.ntmps = true)
    (w1 : wfC fn.ntmps R0 = true) (w2 : wfC fn.ntmps (.cond (.tmp 4) A .skip) = true) (w3 : wfC fn.ntmps B = true) (l1 : loopsOf R0 = []) (l2 : loopsOf (.cond (.tmp 4) A .skip) = []) (l3 : loopsOf B = [])
    (e1 : ∀ (l : List (κ k).T), Code.den ti (fun _ => none) (fun _ => none) R0 (fun e s => some (e, s)) (⟨envOf (([.v (.sl 0)] : List AV).zipIdx.map fun q => (q.2, q.1)), hpOf [.rows k false l], 1⟩ : St κ) = some (.normal, ⟨updE (envOf (([.v (.sl 0)] : List AV).zipIdx.map fun q => (q.2, q.1))) 2 (.v .nilsl), hpOf [.rows k false l], 33⟩))
    (e2 : ∀ (q : Bool) (l : List (κ k).T), Code.den ti (fun _ => none) (fun _ => none) (.seq (.cond (.tmp 4) A .skip) B) (finK ti fn.results.toList (cloneL k) 1 [] (cloneO k κ)) (⟨updE (updE (updE (envOf (([.v (.sl 0)] : List AV).zipIdx.map fun q => (q.2, q.1))) 2 (.v .nilsl)) 3 (.v (.sl 0))) 4 (.v (.bool q)), hpOf [.rows k false l], 33⟩ : St κ) = bif q then some [] else cloneF k κ l) :
    CSound P f (contract [.one (.ro k)] (cloneB k κ)) := by
  refine csoundG hκ henter _ _ fun vs bs lf y hl hb hy M0 w cargs hR hlive hsz hra => ?_
  unfold cloneB at hb
  split at hb
  case h_2 => cases hb
  obtain ⟨l, rfl, hb1⟩ := asO_bind hb
  obtain rfl := Option.some.inj hb1
  have hy : cloneF k κ l = some y := hy
  have hyl : y = l := by
    unfold cloneF at hy
    cases hc : decide ((([] : List (κ k).T).length + l.length) * (κ k).bytes ≤ cap48) with
    | true => rw [hc] at hy; exact (Option.some.inj hy).symm
    | false => rw [hc] at hy; cases hy
  have hB := hR.blk 0
  obtain ⟨A0, c0, hM0, hlc, hnil, _⟩ : RB M0 (hpOf [.rows k false l]) w 0 (.rows k false l) := hB
  have hden : (bif A0.isNone then some [] else cloneF k κ l) = some y := by
    cases A0 with
    | none =>
      have := hnil rfl
      have : l = [] := List.eq_nil_of_length_eq_zero (by omega)
      rw [hyl, this]; rfl
    | some _ => exact hy
  show Calls P f cargs w fun e w' => ∃ u M H, e = .returned u ∧ RA M H (cloneG k κ y).v u ∧ RH M H w' ∧ Fr M0 (hpOf [.rows k false l]) w 1 M H w' ∧ (cloneG k κ y).rw = ([] : List Nat).map H ∧ (∀ (j : Nat) x, (cloneG k κ y).bs[j]? = some x → H (1 + j) = x) ∧ (∀ n, 1 + (cloneG k κ y).bs.length ≤ n → H n = .fresh)
  refine calls_of_wp hf hbo ?_
  have hN' : 4 < fn.ntmps := by simp [Nat.blt] at hN; omega
  have hR0 : Rl M0 (hpOf [.rows k false l]) w 1 fn.ntmps ((⟨envOf (([.v (.sl 0)] : List AV).zipIdx.map fun q => (q.2, q.1)), hpOf [.rows k false l], 1⟩ : St κ).env, hpOf [.rows k false l]) { tmps := cargs ++ Array.replicate (fn.ntmps - cargs.size) undef, defers := [] } w := by
    refine ⟨⟨M0, fun t => ?_, hR, Fr.refl hlive⟩, rfl, by simp at hsz ⊢; omega⟩
    simp only
    rw [envOf_zip]
    cases t with
    | zero =>
      have hlt : 0 < cargs.size := by rw [hsz]; simp
      have hg : (cargs ++ Array.replicate (fn.ntmps - cargs.size) undef).getD 0 undef = cargs[0] := by simp [Array.getD_eq_getD_getElem?, Array.getElem?_append, hlt]
      rw [hg]
      exact hra 0 _ _ rfl (Array.getElem?_eq_getElem hlt)
    | succ t => trivial
  have nil : ∀ c : Code, loopsOf c = [] → LOK (κ := κ) ti (fun _ => none) (fun _ => none) 1 (loopsOf c) := fun c hc => by rw [hc]; exact LOK_nil
  have hΓ : ∀ f g, (fun _ => none : Ct κ) f = some g → CSound P f g := fun f g h => by cases h
  refine wp_seq (den_wp hκ hm tok hΓ (LH := fun _ => none) R0 _ _ _ w _ w1 (nil _ l1) (e1 l) hR0 fun e s' a' w' hR' hK => ?_)
  obtain ⟨rfl, rfl⟩ := Prod.mk.inj (Option.some.inj hK)
  have hQ : ∀ e s' a' w', Rl M0 (hpOf [.rows k false l]) w 1 fn.ntmps (s'.env, s'.H) a' w' → finK ti fn.results.toList (cloneL k) 1 [] (cloneO k κ) e s' = some y →
      bodyPost P fn (fun e w' => ∃ u M H, e = .returned u ∧ RA M H (cloneG k κ y).v u ∧ RH M H w' ∧ Fr M0 (hpOf [.rows k false l]) w 1 M H w' ∧ (cloneG k κ y).rw = ([] : List Nat).map H ∧ (∀ (j : Nat) x, (cloneG k κ y).bs[j]? = some x → H (1 + j) = x) ∧ (∀ n, 1 + (cloneG k κ y).bs.length ≤ n → H n = .fresh)) (toExit e) a' w' := by
    intro e s' a' w' hR' hK
    have hdone : finK ti fn.results.toList (cloneL k) 1 [] (cloneO k κ) .ret s' = some y → a'.defers = [] ∧ ∃ v, (results fn a'.tmps).run P w' = .ok v w' ∧ ∃ u M H, Ending.returned v = .returned u ∧ RA M H (cloneG k κ y).v u ∧ RH M H w' ∧ Fr M0 (hpOf [.rows k false l]) w 1 M H w' ∧ (cloneG k κ y).rw = ([] : List Nat).map H ∧ (∀ (j : Nat) x, (cloneG k κ y).bs[j]? = some x → H (1 + j) = x) ∧ (∀ n, 1 + (cloneG k κ y).bs.length ≤ n → H n = .fresh) := by
      intro hfin
      simp only [finK] at hfin
      split at hfin
      case h_2 => cases hfin
      rename_i s1 hs1
      obtain ⟨u, ret, M, H, q1, q2, q3⟩ := fin_post tok (m := 1) (by simp) hfin (unNil_sound hκ (cloneL k) _ s' s1 hs1 a' w' hR')
      have hg : ret = cloneG k κ y := by
        unfold cloneO at q2
        split at q2
        · obtain ⟨z, rfl, hz⟩ := asO_bind q2
          obtain rfl := Option.some.inj hz
          rfl
        · cases q2
      subst hg
      exact ⟨hR'.defers, u, q1, u, M, H, rfl, q3⟩
    cases e with
    | normal => exact hdone hK
    | ret => exact hdone hK
    | exit id => cases hK
  refine wp_seq (wp_seq (eqnil_wp (ti := ti) hκ tok h1 d1 g1 h2 d2 g2 hT hN' hM0 (by omega) (s := ⟨updE (envOf (([.v (.sl 0)] : List AV).zipIdx.map fun q => (q.2, q.1))) 2 (.v .nilsl), hpOf [.rows k false l], 33⟩) rfl rfl (fun a2 wd2 hR2 => ?_) hR'))
  have hd2 := e2 A0.isNone l
  rw [hden, den_seq] at hd2
  refine den_wp hκ hm tok hΓ (LH := fun _ => none) (.cond (.tmp 4) A .skip) _ ⟨_, _, 33⟩ a2 wd2 _ w2 (nil _ l2) hd2 hR2 fun e s' a' w' hR' hK => ?_
  cases e with
  | normal => exact den_wp hκ hm tok hΓ (LH := fun _ => none) B (finK ti fn.results.toList (cloneL k) 1 [] (cloneO k κ)) s' a' w' _ w3 (nil _ l3) hK hR' hQ
  | ret => exact hQ .ret s' a' w' hR' hK
  | exit id => exact hQ (.exit id) s' a' w' hR' hK
/-! ### a contract whose new rows are to be read alone -/
def demB {α : Type} (b : Nat) (k : AP κ α) : AP κ α := .get b fun x => match x with
  | .rows i true l => .put b (.rows i false l) k
  | _ => .fail
def dems {α : Type} : List Nat → AP κ α → AP κ α
  | [], k => k
  | b :: bs, k => demB b (dems bs k)
theorem bind_run {α β R : Type} {f : α → AP κ β} {K : β → Hp κ → List Nat → List Nat → Option R} : ∀ (p : AP κ α) (H : Hp κ) (rs ws : List Nat), (p.bind f).run H rs ws K = p.run H rs ws fun a H rs ws => (f a).run H rs ws K
  | .ret a, H, rs, ws => rfl
  | .get b k, H, rs, ws => bind_run (k (H b)) H (b :: rs) ws
  | .put b x k, H, rs, ws => bind_run k (updH H b x) rs (b :: ws)
  | .lift o k, H, rs, ws => by
    simp only [AP.bind, AP.run]
    cases o with
    | none => rfl
    | some y => exact bind_run (k y) H rs ws
  | .ite c x y, H, rs, ws => by
    simp only [AP.bind, AP.run]
    cases c
    · exact bind_run y H rs ws
    · exact bind_run x H rs ws
  | .fail, H, rs, ws => rfl
theorem dem_G (hκ : ∀ k, (κ k).Ok) {M : Mu} {H : Hp κ} {w : World} {v : AV} {c : Value} {w' : World} {R : Type} {r : R} {K : AV → Hp κ → List Nat → List Nat → Option R} : ∀ (bs : List Nat) (H' : Hp κ) (rs ws : List Nat), G M H w v H' c w' → (dems bs (.ret v : AP κ AV)).run H' rs ws K = some r →
    ∃ H'' rs' ws', K v H'' rs' ws' = some r ∧ G M H w v H'' c w'
  | [], H', rs, ws, hG, h => ⟨H', rs, ws, h, hG⟩
  | b :: bs, H', rs, ws, hG, h => by
    simp only [dems, demB, AP.run] at h
    split at h
    case h_2 => cases h
    rename_i i l hb
    simp only [AP.run] at h
    refine dem_G hκ bs _ _ _ ?_ h
    obtain ⟨M', h1, h2, h3⟩ := hG
    have hB := h2.blk b
    have hro : RB M' (updH H' b (.rows i false l)) w' b (.rows i false l) := by
      rw [hb] at hB
      exact ro_of hκ (own := true) hB M' _ b rfl
    have hres := changeG hκ (M := M') (M' := M') (H := H') (H' := updH H' b (.rows i false l)) (w := w') (w' := w') (fun n => n = b) h2 rfl rfl rfl (fun _ => Nat.le_refl _) (Nat.le_refl _) (fun _ _ _ => rfl)
      (fun n hn => ⟨updH_ne hn _, rfl⟩) (keep_rows hb rfl)
      (fun n hn => by subst hn; rw [updH_same]; exact hro)
      (fun n g hn hf => by
        subst hn
        refine .inr ⟨n, rfl, ?_, fun _ => by rw [hb]; rfl⟩
        unfold ft at hf ⊢
        rw [updH_same] at hf
        rw [hb]
        simp only at hf ⊢
        split at hf
        · cases hf
        · exact hf)
      (fun n n' g hn hn' hne => absurd (hn.trans hn'.symm) hne) (fun _ _ _ => rfl)
      (fun n hn => by subst hn; rw [hb, updH_same]; exact .inr ⟨_, _, rfl, rfl⟩)
    exact ⟨M', keepA hres.2.keep h1, hres.1, h3.trans hres.2⟩
/-- The new rows of a call may be taken as rows to be read alone. -/
theorem dem_sound (hκ : ∀ k, (κ k).Ok) {f : FuncId} {g : Nat → List AV → AP κ AV} (js : List Nat) (h : CSound P f g) : CSound P f (fun nm vs => (g nm vs).bind fun v => dems (js.map (nm + ·)) (.ret v)) := by
  refine ⟨h.enter, fun {R} nm args cargs M H w K r hsz hra hH hr => ?_⟩
  rw [bind_run] at hr
  obtain ⟨v, H', rs, ws, hK, hC⟩ := h.does nm args cargs M H w _ r hsz hra hH hr
  have : ∃ H'' rs' ws', K v H'' rs' ws' = some r ∧ ∀ c w', G M H w v H' c w' → G M H w v H'' c w' := by
    have key : ∀ (bs : List Nat) (H1 : Hp κ) (rs ws : List Nat), (dems bs (.ret v : AP κ AV)).run H1 rs ws K = some r → ∃ H'' rs' ws', K v H'' rs' ws' = some r ∧ (dems bs (.ret v : AP κ AV)).run H1 rs ws (fun v' H2 rs ws => some H2) = some H'' := by
      intro bs
      induction bs with
      | nil => intro H1 rs ws h; exact ⟨H1, rs, ws, h, rfl⟩
      | cons b bs ih =>
        intro H1 rs ws h
        simp only [dems, demB, AP.run] at h ⊢
        split at h
        · exact ih _ _ _ h
        · cases h
    obtain ⟨H'', rs', ws', h1, h2⟩ := key _ _ _ _ hK
    refine ⟨H'', rs', ws', h1, fun c w' hG => ?_⟩
    obtain ⟨H3, _, _, e, hG3⟩ := dem_G hκ _ _ _ _ hG h2
    obtain rfl := Option.some.inj e
    exact hG3
  obtain ⟨H'', rs', ws', h1, h2⟩ := this
  exact ⟨v, H'', rs', ws', h1, hC.mono fun e w' ⟨c, he, hG⟩ => ⟨c, he, h2 c w' hG⟩⟩
end
end Go.Eng

/- Contracts by hand: what turns a row in place (slices.Sort, slices.SortFunc), what hands a row back shorter (slices.Compact). -/
set_option linter.unusedVariables false
set_option linter.unusedSimpArgs false
namespace Go.Eng
open Go
section
variable {κ : Nat → KT} {P : Program}
def inB (k : Nat) (κ : Nat → KT) (fn : Option Nat) (S : List (κ k).T → Option (List (κ k).T)) (vs : List AV) (bs : List (Blk κ)) : Option (Lf κ) :=
  match fn, vs, bs with
  | none, [.v (.sl 0)], [b0] => (asO k true b0).bind fun l => some ⟨List (κ k).T, S l, fun y => ⟨.tup [], [.rows k true y], []⟩⟩
  | some g, [.v (.sl 0), .v (.fn g')], [b0] => bif Nat.beq g g' then (asO k true b0).bind fun l => some ⟨List (κ k).T, S l, fun y => ⟨.tup [], [.rows k true y], []⟩⟩ else none
  | _, _, _ => none
def inSig (k : Nat) : Option Nat → List PSh
  | none => [.one (.rw k)]
  | some _ => [.one (.rw k), .one .sc]
def exArg : Option Nat → Array Value
  | none => #[]
  | some g => #[.func (.func g) #[] #[]]
theorem owns_ft {M : Mu} {H : Hp κ} {b k : Nat} {l : List (κ k).T} (h : H b = .rows k true l) : ft M H b = hb (M b) := by unfold ft; rw [h]
theorem inB_row {k : Nat} {fn : Option Nat} {S : List (κ k).T → Option (List (κ k).T)} {vs : List AV} {bs : List (Blk κ)} {lf : Lf κ} (h : inB k κ fn S vs bs = some lf) :
    ∃ l : List (κ k).T, bs = [.rows k true l] ∧ lf = ⟨List (κ k).T, S l, fun y => ⟨.tup [], [.rows k true y], []⟩⟩ ∧ vs.length = 1 + (exArg fn).size ∧ vs[0]? = some (.v (.sl 0)) ∧ ∀ j, (exArg fn)[j]? = (vs[1 + j]?).bind fun | .v (.fn g) => some (.func (.func g) #[] #[]) | _ => none := by
  unfold inB at h
  split at h
  · obtain ⟨l, rfl, h1⟩ := asO_bind h
    exact ⟨l, rfl, (Option.some.inj h1).symm, rfl, rfl, fun j => by cases j <;> rfl⟩
  · rename_i g g' b0
    cases hg : Nat.beq g g' with
    | false => rw [hg] at h; cases h
    | true =>
      rw [hg, cond_true] at h
      obtain rfl := Nat.eq_of_beq_eq_true hg
      obtain ⟨l, rfl, h1⟩ := asO_bind h
      refine ⟨l, rfl, (Option.some.inj h1).symm, rfl, rfl, fun j => ?_⟩
      cases j with
      | zero => rfl
      | succ j =>
        rw [show 1 + (j + 1) = j + 2 by omega]
        rfl
  · cases h
theorem owns_hb_lt {w : World} {ty : TypeId} {sz n : Nat} {v : Value} {xs : List Value} (h : w.ownsRow 0 ty sz v n xs) {g : Nat} (hg : hb v = some g) : g < w.heap.size := by
  rcases h.2 with ⟨rfl, _⟩ | ⟨g', cap, cur, rfl, h3, h4, _⟩
  · cases hg
  · obtain rfl := Option.some.inj hg
    exact (Array.getElem?_eq_some_iff.1 h4).1
/-- A function that turns a row in place. -/
theorem inplace_sound (hκ : ∀ k, (κ k).Ok) {f : FuncId} (henter : ∀ args w, (callFunc f args).run P w = .ok (.enter f args) w) (k : Nat) (fn : Option Nat) (S : List (κ k).T → Option (List (κ k).T))
    (hC : ∀ (l y : List (κ k).T) (v : Value) (w : World), S l = some y → w.ownsRow 0 (κ k).ty (κ k).sz v l.length (flat (κ k) l) → (∀ p, (κ 0).pin = some p → ∃ o, w.heap[p.1]? = some o ∧ p.2 o ∧ hb v ≠ some p.1) → Calls P f (#[v] ++ exArg fn) w fun e w' => e = .returned (.tuple #[]) ∧ w.grownBy w' (hb v) ∧ w.drawn ≤ w'.drawn ∧ y.length = l.length ∧ w'.ownsRow 0 (κ k).ty (κ k).sz v l.length (flat (κ k) y)) :
    CSound P f (contract (inSig k fn) (inB k κ fn S)) := by
  refine csoundG hκ henter _ _ fun vs bs lf y hl hbd hy M0 w cargs hR hlive hsz hra => ?_
  obtain ⟨l, rfl, rfl, hlen, hv0, hvj⟩ := inB_row hbd
  have hm : (flags (inSig k fn)).length = 1 ∧ rwI (flags (inSig k fn)) 0 = [0] := by cases fn <;> exact ⟨rfl, rfl⟩
  rw [hm.1, hm.2]
  have hB : w.ownsRow 0 (κ k).ty (κ k).sz (M0 0) l.length (flat (κ k) l) := hR.blk 0
  have hy : S l = some y := hy
  have hargs : cargs = #[M0 0] ++ exArg fn := by
    apply Array.ext
    · rw [hsz, hlen]; simp
    · intro j h1 h2
      cases j with
      | zero =>
        have h3 := hra 0 _ _ hv0 (Array.getElem?_eq_getElem h1)
        have h4 : cargs[0] = M0 0 := h3
        rw [h4]
        simp
      | succ j =>
        have h5 : j < (exArg fn).size := by simp at h2; omega
        have h6 := hvj j
        rw [Array.getElem?_eq_getElem h5] at h6
        have h7 : (#[M0 0] ++ exArg fn)[j + 1] = (exArg fn)[j] := by simp [Array.getElem_append]
        rw [h7]
        obtain ⟨x, hx, hx2⟩ := Option.bind_eq_some_iff.1 h6.symm
        rw [Nat.add_comm] at hx
        have h8 := hra (j + 1) _ _ hx (Array.getElem?_eq_getElem h1)
        split at hx2
        · obtain hx3 := Option.some.inj hx2
          have h9 : cargs[j + 1] = _ := h8
          rw [h9]
          exact hx3
        · cases hx2
  rw [hargs]
  refine (hC l y (M0 0) w hy hB fun p hp => (hR.pin p hp).elim fun o h => ⟨o, h.1, h.2.1, h.2.2 0 rfl⟩).mono ?_
  rintro e w' ⟨rfl, hg, hdr, hyl, hB'⟩
  have hch := changeG hκ (M := M0) (M' := M0) (H := hpOf [.rows k true l]) (H' := hpOf [.rows k true y]) (w := w) (w' := w') (fun n => n = 0) hR hg.os hg.tape hg.output (fun _ => hdr) hg.size
    (fun i hi hn => hg.block i hi (fun e => hn 0 rfl rfl e.symm))
    (fun n hn => by
      refine ⟨?_, rfl⟩
      cases n with
      | zero => exact absurd rfl hn
      | succ n => rfl)
    (fun x c hx => by
      cases x with
      | sl b => cases b <;> exact hx
      | ptr b i j =>
        cases b with
        | succ b => exact hx
        | zero =>
          obtain ⟨h1, h2⟩ := hx
          exact ⟨by show i < y.length; rw [hyl]; exact h1, h2⟩
      | _ => exact hx)
    (fun n hn => by subst hn; show w'.ownsRow 0 (κ k).ty (κ k).sz (M0 0) y.length (flat (κ k) y); rw [hyl]; exact hB')
    (fun n g hn hf => by subst hn; exact .inr ⟨0, rfl, hf, fun _ => rfl⟩)
    (fun n n' g hn hn' hne => absurd (hn.trans hn'.symm) hne)
    (fun _ _ _ => rfl)
    (fun n hn => by subst hn; exact .inr ⟨true, y, rfl, hyl⟩)
  refine ⟨.tuple #[], M0, hpOf [.rows k true y], rfl, ⟨#[], rfl, rfl, fun j p u h => by cases h⟩, hch.1, (Fr.refl (m := 1) fun b hb => ?_).step hch.2, rfl, (fun j x h => by simp at h), fun n hn => ?_⟩
  · obtain rfl : b = 0 := by omega
    intro h
    cases h
  · cases n with
    | zero => simp at hn
    | succ n => rfl
/-! ### a row handed back shorter -/
def cutB (k : Nat) (κ : Nat → KT) (S : List (κ k).T → Option (List (κ k).T)) (vs : List AV) (bs : List (Blk κ)) : Option (Lf κ) :=
  match vs, bs with
  | [.v (.sl 0)], [b0] => (asO k true b0).bind fun l => some ⟨List (κ k).T, S l, fun y => ⟨.v (.sl 1), [.dead], [.rows k true y]⟩⟩
  | _, _ => none
/-- A function that takes a row over and hands it back, another list in it. -/
theorem cut_sound (hκ : ∀ k, (κ k).Ok) {f : FuncId} (henter : ∀ args w, (callFunc f args).run P w = .ok (.enter f args) w) (k : Nat) (S : List (κ k).T → Option (List (κ k).T))
    (hC : ∀ (l y : List (κ k).T) (v : Value) (w : World), S l = some y → w.ownsRow 0 (κ k).ty (κ k).sz v l.length (flat (κ k) l) → Calls P f #[v] w fun e w' => ∃ v', e = .returned v' ∧ w.grownBy w' (hb v) ∧ w.drawn ≤ w'.drawn ∧ hb v' = hb v ∧ w'.ownsRow 0 (κ k).ty (κ k).sz v' y.length (flat (κ k) y)) :
    CSound P f (contract [.one (.rw k)] (cutB k κ S)) := by
  refine csoundG hκ henter _ _ fun vs bs lf y hl hbd hy M0 w cargs hR hlive hsz hra => ?_
  unfold cutB at hbd
  split at hbd
  case h_2 => cases hbd
  obtain ⟨l, rfl, hb1⟩ := asO_bind hbd
  obtain rfl := Option.some.inj hb1
  have hB : w.ownsRow 0 (κ k).ty (κ k).sz (M0 0) l.length (flat (κ k) l) := hR.blk 0
  have hy : S l = some y := hy
  have hlt : 0 < cargs.size := by rw [hsz]; simp
  have hargs : cargs = #[M0 0] := by
    apply Array.ext
    · rw [hsz]; rfl
    · intro j h1 h2
      obtain rfl : j = 0 := by simp at h2; omega
      exact hra 0 _ _ rfl (Array.getElem?_eq_getElem h1)
  rw [hargs]
  refine (hC l y (M0 0) w hy hB).mono ?_
  rintro e w' ⟨v', rfl, hg, hdr, hhb, hB'⟩
  let M1 : Mu := fun n => bif Nat.beq n 1 then v' else M0 n
  have hch := changeG hκ (M := M0) (M' := M1) (H := hpOf [.rows k true l]) (H' := hpOf [.dead, .rows k true y]) (w := w) (w' := w') (fun n => n = 0 ∨ n = 1) hR hg.os hg.tape hg.output (fun _ => hdr) hg.size
    (fun i hi hn => hg.block i hi (fun e => hn 0 (.inl rfl) rfl e.symm))
    (fun n hn => by
      match n, hn with
      | 0, hn => exact absurd (.inl rfl) hn
      | 1, hn => exact absurd (.inr rfl) hn
      | n + 2, _ => exact ⟨rfl, rfl⟩)
    (fun x c hx => by
      cases x with
      | sl b =>
        match b, hx with
        | 0, hx =>
          obtain rfl : c = M0 0 := hx
          show (M0 0).oneCell' = true
          rcases hB.2 with ⟨h1, _⟩ | ⟨g, cap, cur, h1, _⟩ <;> rw [h1] <;> rfl
        | 1, hx => exact hx.elim
        | b + 2, hx => exact hx.elim
      | ptr b i j =>
        match b, hx with
        | 0, hx =>
          obtain ⟨_, a, n, cap, _, rfl⟩ := hx
          rfl
        | 1, hx => exact hx.elim
        | b + 2, hx => exact hx.elim
      | _ => exact hx)
    (fun n hn => by
      rcases hn with rfl | rfl
      · trivial
      · exact hB')
    (fun n g hn hf => by
      rcases hn with rfl | rfl
      · cases hf
      · exact .inr ⟨0, .inl rfl, by rw [owns_ft (l := l) rfl, ← hhb]; exact hf, fun _ => rfl⟩)
    (fun n n' g hn hn' hne ho hf => by
      rcases hn with rfl | rfl
      · cases ho
      · rcases hn' with rfl | rfl
        · intro h; cases h
        · exact absurd rfl hne)
    (fun n hn hnf => by
      rcases hn with rfl | rfl
      · rfl
      · exact absurd rfl hnf)
    (fun n hn => by
      rcases hn with rfl | rfl
      · exact .inl rfl
      · trivial)
  refine ⟨v', M1, hpOf [.dead, .rows k true y], rfl, rfl, hch.1, (Fr.refl (m := 1) fun b hb => ?_).step hch.2, rfl, fun j x h => ?_, fun n hn => ?_⟩
  · obtain rfl : b = 0 := by omega
    intro h
    cases h
  · cases j with
    | zero => obtain rfl := Option.some.inj h; rfl
    | succ j => cases h
  · match n, hn with
    | 0, hn => simp [flags, flP, flL] at hn
    | 1, hn => simp [flags, flP, flL] at hn
    | n + 2, _ => rfl
end
end Go.Eng
