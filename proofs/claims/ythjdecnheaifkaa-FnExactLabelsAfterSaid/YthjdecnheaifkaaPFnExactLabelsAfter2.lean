/- What the functions that the law FnExactLabelsAfter reaches come to; no conditions. -/
import Derived.Test.YthjdecnheaifkaaPFnExactLabelsAfter1
set_option linter.unusedVariables false
set_option maxRecDepth 100000
namespace Go.Proofs.Ythjdecnheaifkaa.PFnExactLabelsAfter
open Go Go.Eng Go.Proofs
/-! ### spec_LabelsAfter -/
def spec_LabelsAfter.L6 {R : Type} (k : Nat) (xl0 : List T_impl_Op) (X0 : List Int → Option R) (rec : Int → List Int → List Int → Option R) (x3 : Int) (xl1 : List Int) (xl2 : List Int) : Option R :=
  (bif decide (x3 < (xl0.length : Int)) then (bif decide (0 ≤ x3) then (bif decide (x3 < (xl0.length : Int)) then (spec_l21Step.f k ((rd_impl_Op xl0 x3).f0) ((rd_impl_Op xl0 x3).f1) ((rd_impl_Op xl0 x3).f2) ((rd_impl_Op xl0 x3).f3) ([] : List Int) xl1 xl2).bind fun t4 => (rec (w64 (x3 + (1 : Int))) t4.2.2.2.2.1 t4.2.2.2.2.2) else none) else none) else (X0 xl2))
def spec_LabelsAfter.l6 {R : Type} (k : Nat) (xl0 : List T_impl_Op) (X0 : List Int → Option R) : Nat → Int → List Int → List Int → Option R
  | 0 => fun _ _ _ => none
  | n + 1 => spec_LabelsAfter.L6 k xl0 X0 (spec_LabelsAfter.l6 k xl0 X0 n)
def spec_LabelsAfter.f (k : Nat) (a0 : List T_impl_Op) : Option (List Int) :=
  (spec_AreOps.f k a0).bind fun t1 => (bif !t1 then some ([] : List Int) else (spec_l21Zeros.f k).bind fun t2 => (spec_l21Zeros.f k).bind fun t3 => (spec_LabelsAfter.l6 k a0 (fun (y5 : List Int) => some y5) k (0 : Int) t2 t3))
def spec_LabelsAfter.h6 (k : Nat) {R : Type} (K : Ex → St κ → Option R) (vs : List AV) (bs : List (Blk κ)) : Option R :=
  match vs, bs with
  | [.v (.sl 0), .v (.sl 1), .v (.sl 2), .v (.int .i64 x3)], [qb0, qb1, qb2] => (asO 1 false qb0).bind fun xl0 => (asO 2 true qb1).bind fun xl1 => (asO 2 true qb2).bind fun xl2 => spec_LabelsAfter.l6 k xl0 (fun (zl1 : List Int) => K (.exit 0) (stOf [(4, [some 2])] [.v (.sl 1)] [.rows 1 false xl0, .rows 2 true zl1])) k x3 xl1 xl2
  | _, _ => none
def spec_LabelsAfter.Γ (k : Nat) : Ct κ := assoc [(24, spec_AreOps.C k), (54, spec_l21Zeros.C k), (55, spec_l21Step.C k)]
def spec_LabelsAfter.LH (k : Nat) : Nat → Option (LHi κ) := assoc [(6, ⟨1, [(0, [some 1]), (3, [some 2]), (4, [some 2]), (5, [])], [(4, [some 2])], @spec_LabelsAfter.h6 k⟩)]
theorem spec_LabelsAfter.hΓ (k : Nat) : ∀ f g, spec_LabelsAfter.Γ k f = some g → CSound Try.prog f g := G_cons (spec_AreOps.ok k) (G_cons (spec_l21Zeros.ok k) (G_cons (spec_l21Step.ok k) G_nil))
theorem spec_LabelsAfter.e6 {R : Type} (K : Ex → St κ → Option R) (k : Nat) (xl0 : List T_impl_Op) : ∀ (n : Nat) (x3 : Int) (xl1 : List Int) (xl2 : List Int), loopN 1 (Code.den ti (spec_LabelsAfter.Γ k) (spec_LabelsAfter.LH k) (loopAt Try.f12 0)) [(0, [some 1]), (3, [some 2]), (4, [some 2]), (5, [])] [(4, [some 2])] K n [.v (.sl 0), .v (.sl 1), .v (.sl 2), .v (.int .i64 x3)] [.rows 1 false xl0, .rows 2 true xl1, .rows 2 true xl2] = spec_LabelsAfter.l6 k xl0 (fun (zl1 : List Int) => K (.exit 0) (stOf [(4, [some 2])] [.v (.sl 1)] [.rows 1 false xl0, .rows 2 true zl1])) n x3 xl1 xl2
  | 0, _, _, _ => rfl
  | n + 1, x3, xl1, xl2 => (show loopN 1 (Code.den ti (spec_LabelsAfter.Γ k) (spec_LabelsAfter.LH k) (loopAt Try.f12 0)) [(0, [some 1]), (3, [some 2]), (4, [some 2]), (5, [])] [(4, [some 2])] K (n + 1) [.v (.sl 0), .v (.sl 1), .v (.sl 2), .v (.int .i64 x3)] [.rows 1 false xl0, .rows 2 true xl1, .rows 2 true xl2] = spec_LabelsAfter.L6 k xl0 (fun (zl1 : List Int) => K (.exit 0) (stOf [(4, [some 2])] [.v (.sl 1)] [.rows 1 false xl0, .rows 2 true zl1])) (fun (x3' : Int) (xl1' : List Int) (xl2' : List Int) => loopN 1 (Code.den ti (spec_LabelsAfter.Γ k) (spec_LabelsAfter.LH k) (loopAt Try.f12 0)) [(0, [some 1]), (3, [some 2]), (4, [some 2]), (5, [])] [(4, [some 2])] K n [.v (.sl 0), .v (.sl 1), .v (.sl 2), .v (.int .i64 x3')] [.rows 1 false xl0, .rows 2 true xl1', .rows 2 true xl2']) x3 xl1 xl2 by kernel_rfl).trans (congrArg (fun rec => spec_LabelsAfter.L6 k xl0 (fun (zl1 : List Int) => K (.exit 0) (stOf [(4, [some 2])] [.v (.sl 1)] [.rows 1 false xl0, .rows 2 true zl1])) rec x3 xl1 xl2) (funext fun x3' => funext fun xl1' => funext fun xl2' => spec_LabelsAfter.e6 K k xl0 n x3' xl1' xl2'))
theorem spec_LabelsAfter.q6 (k : Nat) {R : Type} (K : Ex → St κ → Option R) (vs : List AV) (bs : List (Blk κ)) (r : R) (h : spec_LabelsAfter.h6 k K vs bs = some r) : ∃ n, loopN 1 (Code.den ti (spec_LabelsAfter.Γ k) (spec_LabelsAfter.LH k) (loopAt Try.f12 0)) [(0, [some 1]), (3, [some 2]), (4, [some 2]), (5, [])] [(4, [some 2])] K n vs bs = some r := by
  unfold spec_LabelsAfter.h6 at h
  split at h
  · obtain ⟨_, rfl, h_1⟩ := asO_bind h
    obtain ⟨_, rfl, h_2⟩ := asO_bind h_1
    obtain ⟨_, rfl, h_3⟩ := asO_bind h_2
    exact ⟨k, (spec_LabelsAfter.e6 K k _ k _ _ _).trans h_3⟩
  · cases h
theorem spec_LabelsAfter.lok (k : Nat) : LOK ti (spec_LabelsAfter.Γ k) (spec_LabelsAfter.LH k) 1 (loopsOf (bodyOf Try.f12)) :=
  (show loopsOf (bodyOf Try.f12) = [loopAt Try.f12 0] by kernel_rfl) ▸ (LOK_cons (g := ⟨1, [(0, [some 1]), (3, [some 2]), (4, [some 2]), (5, [])], [(4, [some 2])], @spec_LabelsAfter.h6 k⟩) (by kernel_rfl) rfl (fun K vs xs r h => spec_LabelsAfter.q6 k K vs xs r h) (LOK_nil))
def spec_LabelsAfter.sig : List PSh := [.one (.ro 1)]
def spec_LabelsAfter.g (y : List Int) : Ret κ := ⟨.v (.sl 1), [], [.rows 2 true y]⟩
def spec_LabelsAfter.out (r : Ret κ) : Option (List Int) :=
  match r with
  | ⟨.v (.sl 1), [], [q0]⟩ => (asO 2 true q0).bind fun z0 => some (z0)
  | _ => none
theorem spec_LabelsAfter.out_ok (r : Ret κ) (y : List Int) (h : spec_LabelsAfter.out r = some y) : r = spec_LabelsAfter.g y := by
  unfold spec_LabelsAfter.out at h
  split at h
  · obtain ⟨_, rfl, h_1⟩ := asO_bind h
    obtain rfl := Option.some.inj h_1
    rfl
  · cases h
def spec_LabelsAfter.body (k : Nat) (vs : List AV) (bs : List (Blk κ)) : Option (Lf κ) :=
  match vs, bs with
  | [.v (.sl 0)], [qb0] => (asO 1 false qb0).bind fun a0 => some ⟨List Int, spec_LabelsAfter.f k a0, spec_LabelsAfter.g⟩
  | _, _ => none
def spec_LabelsAfter.C (k : Nat) : Nat → List AV → AP κ AV := contract spec_LabelsAfter.sig (spec_LabelsAfter.body k)
theorem spec_LabelsAfter.den (k : Nat) (a0 : List T_impl_Op) : Code.den ti (spec_LabelsAfter.Γ k) (spec_LabelsAfter.LH k) (bodyOf Try.f12) (finK ti Try.f12.results.toList [(2, [some 2])] (flags spec_LabelsAfter.sig).length (rwI (flags spec_LabelsAfter.sig) 0) spec_LabelsAfter.out) ⟨envOf (([.v (.sl 0)]).zipIdx.map fun q => (q.2, q.1)), hpOf [.rows 1 false a0], (flags spec_LabelsAfter.sig).length⟩ = spec_LabelsAfter.f k a0 := by kernel_rfl
theorem spec_LabelsAfter.ok (k : Nat) : CSound Try.prog 12 (spec_LabelsAfter.C k) :=
  csound κ_ok mixed tok (spec_LabelsAfter.hΓ k) (LH := spec_LabelsAfter.LH k) (fn := Try.f12) (c := bodyOf Try.f12) Try.func12 rfl Try.call12 spec_LabelsAfter.sig [(2, [some 2])] (spec_LabelsAfter.body k) (by kernel_rfl) (spec_LabelsAfter.lok k) (by decide) fun vs bs lf y hl hb hy => by
    unfold spec_LabelsAfter.body at hb
    split at hb
    · obtain ⟨_, rfl, hb_1⟩ := asO_bind hb
      obtain rfl := Option.some.inj hb_1
      exact ⟨spec_LabelsAfter.out, spec_LabelsAfter.out_ok, (spec_LabelsAfter.den k _).trans hy⟩
    · cases hb
/-! ### impl_InRange -/
def impl_InRange.f (k : Nat) (a0 : Int) (a1 : Int) (a2 : Int) : Option Bool :=
  (bif decide (a1 ≤ a0) then some (decide (a0 ≤ a2)) else some false)
def impl_InRange.Γ (k : Nat) : Ct κ := assoc []
def impl_InRange.LH (k : Nat) : Nat → Option (LHi κ) := assoc []
theorem impl_InRange.hΓ (k : Nat) : ∀ f g, impl_InRange.Γ k f = some g → CSound Try.prog f g := G_nil
theorem impl_InRange.lok (k : Nat) : LOK ti (impl_InRange.Γ k) (impl_InRange.LH k) 0 (loopsOf (bodyOf Try.f68)) :=
  (show loopsOf (bodyOf Try.f68) = [] by kernel_rfl) ▸ LOK_nil
def impl_InRange.sig : List PSh := [.one .sc, .one .sc, .one .sc]
def impl_InRange.g (y : Bool) : Ret κ := ⟨.v (.bool y), [], []⟩
def impl_InRange.out (r : Ret κ) : Option Bool :=
  match r with
  | ⟨.v (.bool z0), [], []⟩ => some (z0)
  | _ => none
theorem impl_InRange.out_ok (r : Ret κ) (y : Bool) (h : impl_InRange.out r = some y) : r = impl_InRange.g y := by
  unfold impl_InRange.out at h
  split at h
  · obtain rfl := Option.some.inj h
    rfl
  · cases h
def impl_InRange.body (k : Nat) (vs : List AV) (bs : List (Blk κ)) : Option (Lf κ) :=
  match vs, bs with
  | [.v (.int .i64 a0), .v (.int .i64 a1), .v (.int .i64 a2)], [] => some ⟨Bool, impl_InRange.f k a0 a1 a2, impl_InRange.g⟩
  | _, _ => none
def impl_InRange.C (k : Nat) : Nat → List AV → AP κ AV := contract impl_InRange.sig (impl_InRange.body k)
theorem impl_InRange.den (k : Nat) (a0 : Int) (a1 : Int) (a2 : Int) : Code.den ti (impl_InRange.Γ k) (impl_InRange.LH k) (bodyOf Try.f68) (finK ti Try.f68.results.toList [] (flags impl_InRange.sig).length (rwI (flags impl_InRange.sig) 0) impl_InRange.out) ⟨envOf (([.v (.int .i64 a0), .v (.int .i64 a1), .v (.int .i64 a2)]).zipIdx.map fun q => (q.2, q.1)), hpOf [], (flags impl_InRange.sig).length⟩ = impl_InRange.f k a0 a1 a2 := by kernel_rfl
theorem impl_InRange.ok (k : Nat) : CSound Try.prog 68 (impl_InRange.C k) :=
  csound κ_ok mixed tok (impl_InRange.hΓ k) (LH := impl_InRange.LH k) (fn := Try.f68) (c := bodyOf Try.f68) Try.func68 rfl Try.call68 impl_InRange.sig [] (impl_InRange.body k) (by kernel_rfl) (impl_InRange.lok k) (by decide) fun vs bs lf y hl hb hy => by
    unfold impl_InRange.body at hb
    split at hb
    · obtain rfl := Option.some.inj hb
      exact ⟨impl_InRange.out, impl_InRange.out_ok, (impl_InRange.den k _ _ _).trans hy⟩
    · cases hb
/-! ### impl_isRegister -/
def impl_isRegister.f (k : Nat) (a0 : Int) : Option Bool :=
  (impl_InRange.f k a0 (0 : Int) (5 : Int)).bind fun t1 => some t1
def impl_isRegister.Γ (k : Nat) : Ct κ := assoc [(68, impl_InRange.C k)]
def impl_isRegister.LH (k : Nat) : Nat → Option (LHi κ) := assoc []
theorem impl_isRegister.hΓ (k : Nat) : ∀ f g, impl_isRegister.Γ k f = some g → CSound Try.prog f g := G_cons (impl_InRange.ok k) G_nil
theorem impl_isRegister.lok (k : Nat) : LOK ti (impl_isRegister.Γ k) (impl_isRegister.LH k) 0 (loopsOf (bodyOf Try.f92)) :=
  (show loopsOf (bodyOf Try.f92) = [] by kernel_rfl) ▸ LOK_nil
def impl_isRegister.sig : List PSh := [.one .sc]
def impl_isRegister.g (y : Bool) : Ret κ := ⟨.v (.bool y), [], []⟩
def impl_isRegister.out (r : Ret κ) : Option Bool :=
  match r with
  | ⟨.v (.bool z0), [], []⟩ => some (z0)
  | _ => none
theorem impl_isRegister.out_ok (r : Ret κ) (y : Bool) (h : impl_isRegister.out r = some y) : r = impl_isRegister.g y := by
  unfold impl_isRegister.out at h
  split at h
  · obtain rfl := Option.some.inj h
    rfl
  · cases h
def impl_isRegister.body (k : Nat) (vs : List AV) (bs : List (Blk κ)) : Option (Lf κ) :=
  match vs, bs with
  | [.v (.int .i64 a0)], [] => some ⟨Bool, impl_isRegister.f k a0, impl_isRegister.g⟩
  | _, _ => none
def impl_isRegister.C (k : Nat) : Nat → List AV → AP κ AV := contract impl_isRegister.sig (impl_isRegister.body k)
theorem impl_isRegister.den (k : Nat) (a0 : Int) : Code.den ti (impl_isRegister.Γ k) (impl_isRegister.LH k) (bodyOf Try.f92) (finK ti Try.f92.results.toList [] (flags impl_isRegister.sig).length (rwI (flags impl_isRegister.sig) 0) impl_isRegister.out) ⟨envOf (([.v (.int .i64 a0)]).zipIdx.map fun q => (q.2, q.1)), hpOf [], (flags impl_isRegister.sig).length⟩ = impl_isRegister.f k a0 := by kernel_rfl
theorem impl_isRegister.ok (k : Nat) : CSound Try.prog 92 (impl_isRegister.C k) :=
  csound κ_ok mixed tok (impl_isRegister.hΓ k) (LH := impl_isRegister.LH k) (fn := Try.f92) (c := bodyOf Try.f92) Try.func92 rfl Try.call92 impl_isRegister.sig [] (impl_isRegister.body k) (by kernel_rfl) (impl_isRegister.lok k) (by decide) fun vs bs lf y hl hb hy => by
    unfold impl_isRegister.body at hb
    split at hb
    · obtain rfl := Option.some.inj hb
      exact ⟨impl_isRegister.out, impl_isRegister.out_ok, (impl_isRegister.den k _).trans hy⟩
    · cases hb
/-! ### impl_isOp -/
def impl_isOp.f (k : Nat) (a0_0 : Int) (a0_1 : Int) (a0_2 : Int) (a0_3 : Int) : Option Bool :=
  (impl_isRegister.f k a0_1).bind fun t1 => (bif !t1 then some false else (bif (a0_0 == (1 : Int)) then (impl_InRange.f k a0_2 (1 : Int) (9 : Int)).bind fun t2 => (bif t2 then some (a0_3 == (0 : Int)) else some false) else (bif (a0_0 == (5 : Int)) then (impl_InRange.f k a0_2 (1 : Int) (9 : Int)).bind fun t3 => (bif t3 then some (a0_3 == (0 : Int)) else some false) else (bif (a0_0 == (2 : Int)) then (impl_InRange.f k a0_2 (0 : Int) (999 : Int)).bind fun t4 => (bif t4 then some (a0_3 == (0 : Int)) else some false) else (bif (a0_0 == (3 : Int)) then (impl_isRegister.f k a0_2).bind fun t5 => (bif t5 then (impl_isRegister.f k a0_3).bind fun t6 => some t6 else some false) else (bif (a0_0 == (4 : Int)) then (impl_isRegister.f k a0_2).bind fun t7 => (bif t7 then (impl_isRegister.f k a0_3).bind fun t8 => some t8 else some false) else some false))))))
def impl_isOp.Γ (k : Nat) : Ct κ := assoc [(92, impl_isRegister.C k), (68, impl_InRange.C k)]
def impl_isOp.LH (k : Nat) : Nat → Option (LHi κ) := assoc []
theorem impl_isOp.hΓ (k : Nat) : ∀ f g, impl_isOp.Γ k f = some g → CSound Try.prog f g := G_cons (impl_isRegister.ok k) (G_cons (impl_InRange.ok k) G_nil)
theorem impl_isOp.lok (k : Nat) : LOK ti (impl_isOp.Γ k) (impl_isOp.LH k) 0 (loopsOf (bodyOf Try.f64)) :=
  (show loopsOf (bodyOf Try.f64) = [] by kernel_rfl) ▸ LOK_nil
def impl_isOp.sig : List PSh := [.agg [.sc, .sc, .sc, .sc]]
def impl_isOp.g (y : Bool) : Ret κ := ⟨.v (.bool y), [], []⟩
def impl_isOp.out (r : Ret κ) : Option Bool :=
  match r with
  | ⟨.v (.bool z0), [], []⟩ => some (z0)
  | _ => none
theorem impl_isOp.out_ok (r : Ret κ) (y : Bool) (h : impl_isOp.out r = some y) : r = impl_isOp.g y := by
  unfold impl_isOp.out at h
  split at h
  · obtain rfl := Option.some.inj h
    rfl
  · cases h
def impl_isOp.body (k : Nat) (vs : List AV) (bs : List (Blk κ)) : Option (Lf κ) :=
  match vs, bs with
  | [.agg [.int .i64 a0_0, .int .i64 a0_1, .int .i64 a0_2, .int .i64 a0_3]], [] => some ⟨Bool, impl_isOp.f k a0_0 a0_1 a0_2 a0_3, impl_isOp.g⟩
  | _, _ => none
def impl_isOp.C (k : Nat) : Nat → List AV → AP κ AV := contract impl_isOp.sig (impl_isOp.body k)
theorem impl_isOp.den (k : Nat) (a0_0 : Int) (a0_1 : Int) (a0_2 : Int) (a0_3 : Int) : Code.den ti (impl_isOp.Γ k) (impl_isOp.LH k) (bodyOf Try.f64) (finK ti Try.f64.results.toList [] (flags impl_isOp.sig).length (rwI (flags impl_isOp.sig) 0) impl_isOp.out) ⟨envOf (([.agg [.int .i64 a0_0, .int .i64 a0_1, .int .i64 a0_2, .int .i64 a0_3]]).zipIdx.map fun q => (q.2, q.1)), hpOf [], (flags impl_isOp.sig).length⟩ = impl_isOp.f k a0_0 a0_1 a0_2 a0_3 := by kernel_rfl
theorem impl_isOp.ok (k : Nat) : CSound Try.prog 64 (impl_isOp.C k) :=
  csound κ_ok mixed tok (impl_isOp.hΓ k) (LH := impl_isOp.LH k) (fn := Try.f64) (c := bodyOf Try.f64) Try.func64 rfl Try.call64 impl_isOp.sig [] (impl_isOp.body k) (by kernel_rfl) (impl_isOp.lok k) (by decide) fun vs bs lf y hl hb hy => by
    unfold impl_isOp.body at hb
    split at hb
    · obtain rfl := Option.some.inj hb
      exact ⟨impl_isOp.out, impl_isOp.out_ok, (impl_isOp.den k _ _ _ _).trans hy⟩
    · cases hb
/-! ### impl_AreOps -/
def impl_AreOps.L4 {R : Type} (k : Nat) (x1 : Int) (xl0 : List T_impl_Op) (X0 : Bool → Option R) (X1 : Unit → Option R) (rec : Int → Option R) (x2 : Int) : Option R :=
  (bif decide (x2 < x1) then (bif decide (0 ≤ x2) then (bif decide (x2 < (xl0.length : Int)) then (impl_isOp.f k ((rd_impl_Op xl0 x2).f0) ((rd_impl_Op xl0 x2).f1) ((rd_impl_Op xl0 x2).f2) ((rd_impl_Op xl0 x2).f3)).bind fun t1 => (bif !t1 then (X0 false) else (rec (w64 (x2 + (1 : Int))))) else none) else none) else (X1 ()))
def impl_AreOps.l4 {R : Type} (k : Nat) (x1 : Int) (xl0 : List T_impl_Op) (X0 : Bool → Option R) (X1 : Unit → Option R) : Nat → Int → Option R
  | 0 => fun _ => none
  | n + 1 => impl_AreOps.L4 k x1 xl0 X0 X1 (impl_AreOps.l4 k x1 xl0 X0 X1 n)
def impl_AreOps.f (k : Nat) (a0 : List T_impl_Op) : Option Bool :=
  (bif decide ((a0.length : Int) > (16 : Int)) then some false else (impl_AreOps.l4 k (a0.length : Int) a0 (fun (y2 : Bool) => some y2) (fun (_ : Unit) => some true) k (0 : Int)))
def impl_AreOps.h4 (k : Nat) {R : Type} (K : Ex → St κ → Option R) (vs : List AV) (bs : List (Blk κ)) : Option R :=
  match vs, bs with
  | [.v (.sl 0), .v (.int .i64 x1), .v (.int .i64 x2)], [qb0] => (asO 1 false qb0).bind fun xl0 => impl_AreOps.l4 k x1 xl0 (fun (z0 : Bool) => K .ret (stOf [(2, [])] [.v (.bool z0)] [.rows 1 false xl0])) (fun (_ : Unit) => K (.exit 0) (stOf [(2, [])] [.v .any] [.rows 1 false xl0])) k x2
  | _, _ => none
def impl_AreOps.Γ (k : Nat) : Ct κ := assoc [(64, impl_isOp.C k)]
def impl_AreOps.LH (k : Nat) : Nat → Option (LHi κ) := assoc [(4, ⟨1, [(8, [some 1]), (9, []), (10, [])], [(2, [])], @impl_AreOps.h4 k⟩)]
theorem impl_AreOps.hΓ (k : Nat) : ∀ f g, impl_AreOps.Γ k f = some g → CSound Try.prog f g := G_cons (impl_isOp.ok k) G_nil
theorem impl_AreOps.e4 {R : Type} (K : Ex → St κ → Option R) (k : Nat) (x1 : Int) (xl0 : List T_impl_Op) : ∀ (n : Nat) (x2 : Int), loopN 1 (Code.den ti (impl_AreOps.Γ k) (impl_AreOps.LH k) (loopAt Try.f23 0)) [(8, [some 1]), (9, []), (10, [])] [(2, [])] K n [.v (.sl 0), .v (.int .i64 x1), .v (.int .i64 x2)] [.rows 1 false xl0] = impl_AreOps.l4 k x1 xl0 (fun (z0 : Bool) => K .ret (stOf [(2, [])] [.v (.bool z0)] [.rows 1 false xl0])) (fun (_ : Unit) => K (.exit 0) (stOf [(2, [])] [.v .any] [.rows 1 false xl0])) n x2
  | 0, _ => rfl
  | n + 1, x2 => (show loopN 1 (Code.den ti (impl_AreOps.Γ k) (impl_AreOps.LH k) (loopAt Try.f23 0)) [(8, [some 1]), (9, []), (10, [])] [(2, [])] K (n + 1) [.v (.sl 0), .v (.int .i64 x1), .v (.int .i64 x2)] [.rows 1 false xl0] = impl_AreOps.L4 k x1 xl0 (fun (z0 : Bool) => K .ret (stOf [(2, [])] [.v (.bool z0)] [.rows 1 false xl0])) (fun (_ : Unit) => K (.exit 0) (stOf [(2, [])] [.v .any] [.rows 1 false xl0])) (fun (x2' : Int) => loopN 1 (Code.den ti (impl_AreOps.Γ k) (impl_AreOps.LH k) (loopAt Try.f23 0)) [(8, [some 1]), (9, []), (10, [])] [(2, [])] K n [.v (.sl 0), .v (.int .i64 x1), .v (.int .i64 x2')] [.rows 1 false xl0]) x2 by kernel_rfl).trans (congrArg (fun rec => impl_AreOps.L4 k x1 xl0 (fun (z0 : Bool) => K .ret (stOf [(2, [])] [.v (.bool z0)] [.rows 1 false xl0])) (fun (_ : Unit) => K (.exit 0) (stOf [(2, [])] [.v .any] [.rows 1 false xl0])) rec x2) (funext fun x2' => impl_AreOps.e4 K k x1 xl0 n x2'))
theorem impl_AreOps.q4 (k : Nat) {R : Type} (K : Ex → St κ → Option R) (vs : List AV) (bs : List (Blk κ)) (r : R) (h : impl_AreOps.h4 k K vs bs = some r) : ∃ n, loopN 1 (Code.den ti (impl_AreOps.Γ k) (impl_AreOps.LH k) (loopAt Try.f23 0)) [(8, [some 1]), (9, []), (10, [])] [(2, [])] K n vs bs = some r := by
  unfold impl_AreOps.h4 at h
  split at h
  · obtain ⟨_, rfl, h_1⟩ := asO_bind h
    exact ⟨k, (impl_AreOps.e4 K k _ _ k _).trans h_1⟩
  · cases h
theorem impl_AreOps.lok (k : Nat) : LOK ti (impl_AreOps.Γ k) (impl_AreOps.LH k) 1 (loopsOf (bodyOf Try.f23)) :=
  (show loopsOf (bodyOf Try.f23) = [loopAt Try.f23 0] by kernel_rfl) ▸ (LOK_cons (g := ⟨1, [(8, [some 1]), (9, []), (10, [])], [(2, [])], @impl_AreOps.h4 k⟩) (by kernel_rfl) rfl (fun K vs xs r h => impl_AreOps.q4 k K vs xs r h) (LOK_nil))
def impl_AreOps.sig : List PSh := [.one (.ro 1)]
def impl_AreOps.g (y : Bool) : Ret κ := ⟨.v (.bool y), [], []⟩
def impl_AreOps.out (r : Ret κ) : Option Bool :=
  match r with
  | ⟨.v (.bool z0), [], []⟩ => some (z0)
  | _ => none
theorem impl_AreOps.out_ok (r : Ret κ) (y : Bool) (h : impl_AreOps.out r = some y) : r = impl_AreOps.g y := by
  unfold impl_AreOps.out at h
  split at h
  · obtain rfl := Option.some.inj h
    rfl
  · cases h
def impl_AreOps.body (k : Nat) (vs : List AV) (bs : List (Blk κ)) : Option (Lf κ) :=
  match vs, bs with
  | [.v (.sl 0)], [qb0] => (asO 1 false qb0).bind fun a0 => some ⟨Bool, impl_AreOps.f k a0, impl_AreOps.g⟩
  | _, _ => none
def impl_AreOps.C (k : Nat) : Nat → List AV → AP κ AV := contract impl_AreOps.sig (impl_AreOps.body k)
theorem impl_AreOps.den (k : Nat) (a0 : List T_impl_Op) : Code.den ti (impl_AreOps.Γ k) (impl_AreOps.LH k) (bodyOf Try.f23) (finK ti Try.f23.results.toList [] (flags impl_AreOps.sig).length (rwI (flags impl_AreOps.sig) 0) impl_AreOps.out) ⟨envOf (([.v (.sl 0)]).zipIdx.map fun q => (q.2, q.1)), hpOf [.rows 1 false a0], (flags impl_AreOps.sig).length⟩ = impl_AreOps.f k a0 := by kernel_rfl
theorem impl_AreOps.ok (k : Nat) : CSound Try.prog 23 (impl_AreOps.C k) :=
  csound κ_ok mixed tok (impl_AreOps.hΓ k) (LH := impl_AreOps.LH k) (fn := Try.f23) (c := bodyOf Try.f23) Try.func23 rfl Try.call23 impl_AreOps.sig [] (impl_AreOps.body k) (by kernel_rfl) (impl_AreOps.lok k) (by decide) fun vs bs lf y hl hb hy => by
    unfold impl_AreOps.body at hb
    split at hb
    · obtain ⟨_, rfl, hb_1⟩ := asO_bind hb
      obtain rfl := Option.some.inj hb_1
      exact ⟨impl_AreOps.out, impl_AreOps.out_ok, (impl_AreOps.den k _).trans hy⟩
    · cases hb
/-! ### impl_valueOf -/
def impl_valueOf.f (k : Nat) (a0 : List Int) (a1 : Int) : Option Int :=
  (bif decide (a1 < (1 : Int)) then some (0 : Int) else (bif decide (a1 > (a0.length : Int)) then some (0 : Int) else (bif decide (0 ≤ (w64 (a1 - (1 : Int)))) then (bif decide ((w64 (a1 - (1 : Int))) < (a0.length : Int)) then (impl_InRange.f k (rd_i64 a0 (w64 (a1 - (1 : Int)))) (0 : Int) (999 : Int)).bind fun t1 => (bif !t1 then some (0 : Int) else (bif decide (0 ≤ (w64 (a1 - (1 : Int)))) then (bif decide ((w64 (a1 - (1 : Int))) < (a0.length : Int)) then some (rd_i64 a0 (w64 (a1 - (1 : Int)))) else none) else none)) else none) else none)))
def impl_valueOf.Γ (k : Nat) : Ct κ := assoc [(68, impl_InRange.C k)]
def impl_valueOf.LH (k : Nat) : Nat → Option (LHi κ) := assoc []
theorem impl_valueOf.hΓ (k : Nat) : ∀ f g, impl_valueOf.Γ k f = some g → CSound Try.prog f g := G_cons (impl_InRange.ok k) G_nil
theorem impl_valueOf.lok (k : Nat) : LOK ti (impl_valueOf.Γ k) (impl_valueOf.LH k) 1 (loopsOf (bodyOf Try.f80)) :=
  (show loopsOf (bodyOf Try.f80) = [] by kernel_rfl) ▸ LOK_nil
def impl_valueOf.sig : List PSh := [.one (.ro 2), .one .sc]
def impl_valueOf.g (y : Int) : Ret κ := ⟨.v (.int .i64 y), [], []⟩
def impl_valueOf.out (r : Ret κ) : Option Int :=
  match r with
  | ⟨.v (.int .i64 z0), [], []⟩ => some (z0)
  | _ => none
theorem impl_valueOf.out_ok (r : Ret κ) (y : Int) (h : impl_valueOf.out r = some y) : r = impl_valueOf.g y := by
  unfold impl_valueOf.out at h
  split at h
  · obtain rfl := Option.some.inj h
    rfl
  · cases h
def impl_valueOf.body (k : Nat) (vs : List AV) (bs : List (Blk κ)) : Option (Lf κ) :=
  match vs, bs with
  | [.v (.sl 0), .v (.int .i64 a1)], [qb0] => (asO 2 false qb0).bind fun a0 => some ⟨Int, impl_valueOf.f k a0 a1, impl_valueOf.g⟩
  | _, _ => none
def impl_valueOf.C (k : Nat) : Nat → List AV → AP κ AV := contract impl_valueOf.sig (impl_valueOf.body k)
theorem impl_valueOf.den (k : Nat) (a0 : List Int) (a1 : Int) : Code.den ti (impl_valueOf.Γ k) (impl_valueOf.LH k) (bodyOf Try.f80) (finK ti Try.f80.results.toList [] (flags impl_valueOf.sig).length (rwI (flags impl_valueOf.sig) 0) impl_valueOf.out) ⟨envOf (([.v (.sl 0), .v (.int .i64 a1)]).zipIdx.map fun q => (q.2, q.1)), hpOf [.rows 2 false a0], (flags impl_valueOf.sig).length⟩ = impl_valueOf.f k a0 a1 := by kernel_rfl
theorem impl_valueOf.ok (k : Nat) : CSound Try.prog 80 (impl_valueOf.C k) :=
  csound κ_ok mixed tok (impl_valueOf.hΓ k) (LH := impl_valueOf.LH k) (fn := Try.f80) (c := bodyOf Try.f80) Try.func80 rfl Try.call80 impl_valueOf.sig [] (impl_valueOf.body k) (by kernel_rfl) (impl_valueOf.lok k) (by decide) fun vs bs lf y hl hb hy => by
    unfold impl_valueOf.body at hb
    split at hb
    · obtain ⟨_, rfl, hb_1⟩ := asO_bind hb
      obtain rfl := Option.some.inj hb_1
      exact ⟨impl_valueOf.out, impl_valueOf.out_ok, (impl_valueOf.den k _ _).trans hy⟩
    · cases hb
/-! ### impl_executed -/
def impl_executed.L3 {R : Type} (k : Nat) (x5 : Int) (xl0 : List T_impl_Op) (xl1 : List Int) (X0 : List T_impl_Sent → List Int → Option R) (rec : Int → List T_impl_Sent → List Int → List Int → Option R) (x6 : Int) (xl2 : List T_impl_Sent) (xl3 : List Int) (xl4 : List Int) : Option R :=
  (bif decide (x6 < x5) then (bif decide (0 ≤ x6) then (bif decide (x6 < (xl0.length : Int)) then (bif ((rd_impl_Op xl0 x6).f0 == (1 : Int)) then (impl_valueOf.f k xl1 ((rd_impl_Op xl0 x6).f2)).bind fun t1 => (bif decide ((rd_impl_Op xl0 x6).f2 < 0) then none else (bif decide (0 ≤ (rd_impl_Op xl0 x6).f1) then (bif decide ((rd_impl_Op xl0 x6).f1 < (xl3.length : Int)) then (bif decide (0 ≤ (rd_impl_Op xl0 x6).f1) then (bif decide ((rd_impl_Op xl0 x6).f1 < (xl4.length : Int)) then (let l2 : List Int := (xl4.set ((rd_impl_Op xl0 x6).f1).toNat (w64 ((1 : Int) * 2 ^ (min ((rd_impl_Op xl0 x6).f2).toNat 64)))); (rec (w64 (x6 + (1 : Int))) xl2 (xl3.set ((rd_impl_Op xl0 x6).f1).toNat t1) l2)) else none) else none) else none) else none)) else (bif ((rd_impl_Op xl0 x6).f0 == (2 : Int)) then (bif decide (0 ≤ (rd_impl_Op xl0 x6).f1) then (bif decide ((rd_impl_Op xl0 x6).f1 < (xl3.length : Int)) then (let l3 : List Int := (xl3.set ((rd_impl_Op xl0 x6).f1).toNat (rd_impl_Op xl0 x6).f2); (bif decide (0 ≤ (rd_impl_Op xl0 x6).f1) then (bif decide ((rd_impl_Op xl0 x6).f1 < (xl4.length : Int)) then (rec (w64 (x6 + (1 : Int))) xl2 l3 (xl4.set ((rd_impl_Op xl0 x6).f1).toNat (0 : Int))) else none) else none)) else none) else none) else (bif ((rd_impl_Op xl0 x6).f0 == (3 : Int)) then (bif decide (0 ≤ (rd_impl_Op xl0 x6).f2) then (bif decide ((rd_impl_Op xl0 x6).f2 < (xl3.length : Int)) then (bif decide (0 ≤ (rd_impl_Op xl0 x6).f3) then (bif decide ((rd_impl_Op xl0 x6).f3 < (xl3.length : Int)) then (bif decide (0 ≤ (rd_impl_Op xl0 x6).f2) then (bif decide ((rd_impl_Op xl0 x6).f2 < (xl4.length : Int)) then (bif decide (0 ≤ (rd_impl_Op xl0 x6).f3) then (bif decide ((rd_impl_Op xl0 x6).f3 < (xl4.length : Int)) then (bif decide (0 ≤ (rd_impl_Op xl0 x6).f1) then (bif decide ((rd_impl_Op xl0 x6).f1 < (xl3.length : Int)) then (let l4 : List Int := (xl3.set ((rd_impl_Op xl0 x6).f1).toNat ((w64 ((rd_i64 xl3 ((rd_impl_Op xl0 x6).f2)) + (rd_i64 xl3 ((rd_impl_Op xl0 x6).f3)))).tmod (1000 : Int))); (bif decide (0 ≤ (rd_impl_Op xl0 x6).f1) then (bif decide ((rd_impl_Op xl0 x6).f1 < (xl4.length : Int)) then (let l5 : List Int := (xl4.set ((rd_impl_Op xl0 x6).f1).toNat (bitop .or .i64 (rd_i64 xl4 ((rd_impl_Op xl0 x6).f2)) (rd_i64 xl4 ((rd_impl_Op xl0 x6).f3)))); (rec (w64 (x6 + (1 : Int))) xl2 l4 l5)) else none) else none)) else none) else none) else none) else none) else none) else none) else none) else none) else none) else none) else (bif ((rd_impl_Op xl0 x6).f0 == (4 : Int)) then (bif decide (0 ≤ (rd_impl_Op xl0 x6).f1) then (bif decide ((rd_impl_Op xl0 x6).f1 < (xl4.length : Int)) then (bif decide (0 ≤ (rd_impl_Op xl0 x6).f2) then (bif decide ((rd_impl_Op xl0 x6).f2 < (xl4.length : Int)) then (bif decide (0 ≤ (rd_impl_Op xl0 x6).f3) then (bif decide ((rd_impl_Op xl0 x6).f3 < (xl4.length : Int)) then (bif decide (0 ≤ (rd_impl_Op xl0 x6).f2) then (bif decide ((rd_impl_Op xl0 x6).f2 < (xl3.length : Int)) then (bif (((rd_i64 xl3 ((rd_impl_Op xl0 x6).f2)).tmod (2 : Int)) == (0 : Int)) then (bif decide (0 ≤ (rd_impl_Op xl0 x6).f3) then (bif decide ((rd_impl_Op xl0 x6).f3 < (xl3.length : Int)) then (bif decide (0 ≤ (rd_impl_Op xl0 x6).f1) then (bif decide ((rd_impl_Op xl0 x6).f1 < (xl3.length : Int)) then (let l6 : List Int := (xl3.set ((rd_impl_Op xl0 x6).f1).toNat (rd_i64 xl3 ((rd_impl_Op xl0 x6).f3))); (bif decide (0 ≤ (rd_impl_Op xl0 x6).f1) then (bif decide ((rd_impl_Op xl0 x6).f1 < (xl4.length : Int)) then (let l7 : List Int := (xl4.set ((rd_impl_Op xl0 x6).f1).toNat (bitop .or .i64 (bitop .or .i64 (rd_i64 xl4 ((rd_impl_Op xl0 x6).f1)) (rd_i64 xl4 ((rd_impl_Op xl0 x6).f2))) (rd_i64 xl4 ((rd_impl_Op xl0 x6).f3)))); (rec (w64 (x6 + (1 : Int))) xl2 l6 l7)) else none) else none)) else none) else none) else none) else none) else (bif decide (0 ≤ (rd_impl_Op xl0 x6).f1) then (bif decide ((rd_impl_Op xl0 x6).f1 < (xl4.length : Int)) then (let l8 : List Int := (xl4.set ((rd_impl_Op xl0 x6).f1).toNat (bitop .or .i64 (bitop .or .i64 (rd_i64 xl4 ((rd_impl_Op xl0 x6).f1)) (rd_i64 xl4 ((rd_impl_Op xl0 x6).f2))) (rd_i64 xl4 ((rd_impl_Op xl0 x6).f3)))); (rec (w64 (x6 + (1 : Int))) xl2 xl3 l8)) else none) else none)) else none) else none) else none) else none) else none) else none) else none) else none) else (bif ((rd_impl_Op xl0 x6).f0 == (5 : Int)) then (bif decide (0 ≤ (rd_impl_Op xl0 x6).f1) then (bif decide ((rd_impl_Op xl0 x6).f1 < (xl3.length : Int)) then (bif decide (0 ≤ (rd_impl_Op xl0 x6).f1) then (bif decide ((rd_impl_Op xl0 x6).f1 < (xl4.length : Int)) then (bif decide ((xl2.length + ([(⟨(rd_impl_Op xl0 x6).f2, (rd_i64 xl3 ((rd_impl_Op xl0 x6).f1)), (rd_i64 xl4 ((rd_impl_Op xl0 x6).f1))⟩ : T_impl_Sent)] : List T_impl_Sent).length) * 24 ≤ cap48) then (let l9 : List T_impl_Sent := (xl2 ++ ([(⟨(rd_impl_Op xl0 x6).f2, (rd_i64 xl3 ((rd_impl_Op xl0 x6).f1)), (rd_i64 xl4 ((rd_impl_Op xl0 x6).f1))⟩ : T_impl_Sent)] : List T_impl_Sent)); (rec (w64 (x6 + (1 : Int))) l9 xl3 xl4)) else none) else none) else none) else none) else none) else (rec (w64 (x6 + (1 : Int))) xl2 xl3 xl4)))))) else none) else none) else (X0 xl2 xl4))
def impl_executed.l3 {R : Type} (k : Nat) (x5 : Int) (xl0 : List T_impl_Op) (xl1 : List Int) (X0 : List T_impl_Sent → List Int → Option R) : Nat → Int → List T_impl_Sent → List Int → List Int → Option R
  | 0 => fun _ _ _ _ => none
  | n + 1 => impl_executed.L3 k x5 xl0 xl1 X0 (impl_executed.l3 k x5 xl0 xl1 X0 n)
def impl_executed.f (k : Nat) (a0 : List T_impl_Op) (a1 : List Int) : Option (List T_impl_Sent × List Int) :=
  (bif decide (0 ≤ (6 : Int)) then (bif decide (((6 : Int)).toNat * 8 ≤ cap48) then (bif decide (0 ≤ (6 : Int)) then (bif decide (((6 : Int)).toNat * 8 ≤ cap48) then (impl_executed.l3 k (a0.length : Int) a0 a1 (fun (y10 : List T_impl_Sent) (y11 : List Int) => some (y10, y11)) k (0 : Int) ([] : List T_impl_Sent) (List.replicate ((6 : Int)).toNat z_i64) (List.replicate ((6 : Int)).toNat z_i64)) else none) else none) else none) else none)
def impl_executed.h3 (k : Nat) {R : Type} (K : Ex → St κ → Option R) (vs : List AV) (bs : List (Blk κ)) : Option R :=
  match vs, bs with
  | [.v (.sl 1), .v (.sl 2), .v (.sl 3), .v (.sl 4), .v (.sl 0), .v (.int .i64 x5), .v (.int .i64 x6)], [qb0, qb1, qb2, qb3, qb4] => (asO 1 false qb0).bind fun xl0 => (asO 2 false qb1).bind fun xl1 => (asO 3 true qb2).bind fun xl2 => (asO 2 true qb3).bind fun xl3 => (asO 2 true qb4).bind fun xl4 => impl_executed.l3 k x5 xl0 xl1 (fun (zl2 : List T_impl_Sent) (zl3 : List Int) => K (.exit 0) (stOf [(6, [some 3]), (8, [some 2])] [.v (.sl 2), .v (.sl 3)] [.rows 1 false xl0, .rows 2 false xl1, .rows 3 true zl2, .rows 2 true zl3])) k x6 xl2 xl3 xl4
  | _, _ => none
def impl_executed.Γ (k : Nat) : Ct κ := assoc [(80, impl_valueOf.C k)]
def impl_executed.LH (k : Nat) : Nat → Option (LHi κ) := assoc [(3, ⟨2, [(1, [some 2]), (6, [some 3]), (7, [some 2]), (8, [some 2]), (15, [some 1]), (16, []), (17, [])], [(6, [some 3]), (8, [some 2])], @impl_executed.h3 k⟩)]
theorem impl_executed.hΓ (k : Nat) : ∀ f g, impl_executed.Γ k f = some g → CSound Try.prog f g := G_cons (impl_valueOf.ok k) G_nil
theorem impl_executed.e3 {R : Type} (K : Ex → St κ → Option R) (k : Nat) (x5 : Int) (xl0 : List T_impl_Op) (xl1 : List Int) : ∀ (n : Nat) (x6 : Int) (xl2 : List T_impl_Sent) (xl3 : List Int) (xl4 : List Int), loopN 2 (Code.den ti (impl_executed.Γ k) (impl_executed.LH k) (loopAt Try.f57 0)) [(1, [some 2]), (6, [some 3]), (7, [some 2]), (8, [some 2]), (15, [some 1]), (16, []), (17, [])] [(6, [some 3]), (8, [some 2])] K n [.v (.sl 1), .v (.sl 2), .v (.sl 3), .v (.sl 4), .v (.sl 0), .v (.int .i64 x5), .v (.int .i64 x6)] [.rows 1 false xl0, .rows 2 false xl1, .rows 3 true xl2, .rows 2 true xl3, .rows 2 true xl4] = impl_executed.l3 k x5 xl0 xl1 (fun (zl2 : List T_impl_Sent) (zl3 : List Int) => K (.exit 0) (stOf [(6, [some 3]), (8, [some 2])] [.v (.sl 2), .v (.sl 3)] [.rows 1 false xl0, .rows 2 false xl1, .rows 3 true zl2, .rows 2 true zl3])) n x6 xl2 xl3 xl4
  | 0, _, _, _, _ => rfl
  | n + 1, x6, xl2, xl3, xl4 => (show loopN 2 (Code.den ti (impl_executed.Γ k) (impl_executed.LH k) (loopAt Try.f57 0)) [(1, [some 2]), (6, [some 3]), (7, [some 2]), (8, [some 2]), (15, [some 1]), (16, []), (17, [])] [(6, [some 3]), (8, [some 2])] K (n + 1) [.v (.sl 1), .v (.sl 2), .v (.sl 3), .v (.sl 4), .v (.sl 0), .v (.int .i64 x5), .v (.int .i64 x6)] [.rows 1 false xl0, .rows 2 false xl1, .rows 3 true xl2, .rows 2 true xl3, .rows 2 true xl4] = impl_executed.L3 k x5 xl0 xl1 (fun (zl2 : List T_impl_Sent) (zl3 : List Int) => K (.exit 0) (stOf [(6, [some 3]), (8, [some 2])] [.v (.sl 2), .v (.sl 3)] [.rows 1 false xl0, .rows 2 false xl1, .rows 3 true zl2, .rows 2 true zl3])) (fun (x6' : Int) (xl2' : List T_impl_Sent) (xl3' : List Int) (xl4' : List Int) => loopN 2 (Code.den ti (impl_executed.Γ k) (impl_executed.LH k) (loopAt Try.f57 0)) [(1, [some 2]), (6, [some 3]), (7, [some 2]), (8, [some 2]), (15, [some 1]), (16, []), (17, [])] [(6, [some 3]), (8, [some 2])] K n [.v (.sl 1), .v (.sl 2), .v (.sl 3), .v (.sl 4), .v (.sl 0), .v (.int .i64 x5), .v (.int .i64 x6')] [.rows 1 false xl0, .rows 2 false xl1, .rows 3 true xl2', .rows 2 true xl3', .rows 2 true xl4']) x6 xl2 xl3 xl4 by kernel_rfl).trans (congrArg (fun rec => impl_executed.L3 k x5 xl0 xl1 (fun (zl2 : List T_impl_Sent) (zl3 : List Int) => K (.exit 0) (stOf [(6, [some 3]), (8, [some 2])] [.v (.sl 2), .v (.sl 3)] [.rows 1 false xl0, .rows 2 false xl1, .rows 3 true zl2, .rows 2 true zl3])) rec x6 xl2 xl3 xl4) (funext fun x6' => funext fun xl2' => funext fun xl3' => funext fun xl4' => impl_executed.e3 K k x5 xl0 xl1 n x6' xl2' xl3' xl4'))
theorem impl_executed.q3 (k : Nat) {R : Type} (K : Ex → St κ → Option R) (vs : List AV) (bs : List (Blk κ)) (r : R) (h : impl_executed.h3 k K vs bs = some r) : ∃ n, loopN 2 (Code.den ti (impl_executed.Γ k) (impl_executed.LH k) (loopAt Try.f57 0)) [(1, [some 2]), (6, [some 3]), (7, [some 2]), (8, [some 2]), (15, [some 1]), (16, []), (17, [])] [(6, [some 3]), (8, [some 2])] K n vs bs = some r := by
  unfold impl_executed.h3 at h
  split at h
  · obtain ⟨_, rfl, h_1⟩ := asO_bind h
    obtain ⟨_, rfl, h_2⟩ := asO_bind h_1
    obtain ⟨_, rfl, h_3⟩ := asO_bind h_2
    obtain ⟨_, rfl, h_4⟩ := asO_bind h_3
    obtain ⟨_, rfl, h_5⟩ := asO_bind h_4
    exact ⟨k, (impl_executed.e3 K k _ _ _ k _ _ _ _).trans h_5⟩
  · cases h
theorem impl_executed.lok (k : Nat) : LOK ti (impl_executed.Γ k) (impl_executed.LH k) 2 (loopsOf (bodyOf Try.f57)) :=
  (show loopsOf (bodyOf Try.f57) = [loopAt Try.f57 0] by kernel_rfl) ▸ (LOK_cons (g := ⟨2, [(1, [some 2]), (6, [some 3]), (7, [some 2]), (8, [some 2]), (15, [some 1]), (16, []), (17, [])], [(6, [some 3]), (8, [some 2])], @impl_executed.h3 k⟩) (by kernel_rfl) rfl (fun K vs xs r h => impl_executed.q3 k K vs xs r h) (LOK_nil))
def impl_executed.sig : List PSh := [.one (.ro 1), .one (.ro 2)]
def impl_executed.g (y : List T_impl_Sent × List Int) : Ret κ := ⟨.tup [(false, [.sl 2]), (false, [.sl 3])], [], [.rows 3 true y.1, .rows 2 true y.2]⟩
def impl_executed.out (r : Ret κ) : Option (List T_impl_Sent × List Int) :=
  match r with
  | ⟨.tup [(false, [.sl 2]), (false, [.sl 3])], [], [q0, q1]⟩ => (asO 3 true q0).bind fun z0 => (asO 2 true q1).bind fun z1 => some (z0, z1)
  | _ => none
theorem impl_executed.out_ok (r : Ret κ) (y : List T_impl_Sent × List Int) (h : impl_executed.out r = some y) : r = impl_executed.g y := by
  unfold impl_executed.out at h
  split at h
  · obtain ⟨_, rfl, h_1⟩ := asO_bind h
    obtain ⟨_, rfl, h_2⟩ := asO_bind h_1
    obtain rfl := Option.some.inj h_2
    rfl
  · cases h
def impl_executed.body (k : Nat) (vs : List AV) (bs : List (Blk κ)) : Option (Lf κ) :=
  match vs, bs with
  | [.v (.sl 0), .v (.sl 1)], [qb0, qb1] => (asO 1 false qb0).bind fun a0 => (asO 2 false qb1).bind fun a1 => some ⟨List T_impl_Sent × List Int, impl_executed.f k a0 a1, impl_executed.g⟩
  | _, _ => none
def impl_executed.C (k : Nat) : Nat → List AV → AP κ AV := contract impl_executed.sig (impl_executed.body k)
theorem impl_executed.den (k : Nat) (a0 : List T_impl_Op) (a1 : List Int) : Code.den ti (impl_executed.Γ k) (impl_executed.LH k) (bodyOf Try.f57) (finK ti Try.f57.results.toList [(4, [some 3]), (5, [some 2])] (flags impl_executed.sig).length (rwI (flags impl_executed.sig) 0) impl_executed.out) ⟨envOf (([.v (.sl 0), .v (.sl 1)]).zipIdx.map fun q => (q.2, q.1)), hpOf [.rows 1 false a0, .rows 2 false a1], (flags impl_executed.sig).length⟩ = impl_executed.f k a0 a1 := by kernel_rfl
theorem impl_executed.ok (k : Nat) : CSound Try.prog 57 (impl_executed.C k) :=
  csound κ_ok mixed tok (impl_executed.hΓ k) (LH := impl_executed.LH k) (fn := Try.f57) (c := bodyOf Try.f57) Try.func57 rfl Try.call57 impl_executed.sig [(4, [some 3]), (5, [some 2])] (impl_executed.body k) (by kernel_rfl) (impl_executed.lok k) (by decide) fun vs bs lf y hl hb hy => by
    unfold impl_executed.body at hb
    split at hb
    · obtain ⟨_, rfl, hb_1⟩ := asO_bind hb
      obtain ⟨_, rfl, hb_2⟩ := asO_bind hb_1
      obtain rfl := Option.some.inj hb_2
      exact ⟨impl_executed.out, impl_executed.out_ok, (impl_executed.den k _ _).trans hy⟩
    · cases hb
/-! ### impl_LabelsAfter -/
def impl_LabelsAfter.f (k : Nat) (a0 : List T_impl_Op) : Option (List Int) :=
  (impl_AreOps.f k a0).bind fun t1 => (bif !t1 then some ([] : List Int) else (impl_executed.f k a0 ([] : List Int)).bind fun t2 => some t2.2)
def impl_LabelsAfter.Γ (k : Nat) : Ct κ := assoc [(23, impl_AreOps.C k), (57, impl_executed.C k)]
def impl_LabelsAfter.LH (k : Nat) : Nat → Option (LHi κ) := assoc []
theorem impl_LabelsAfter.hΓ (k : Nat) : ∀ f g, impl_LabelsAfter.Γ k f = some g → CSound Try.prog f g := G_cons (impl_AreOps.ok k) (G_cons (impl_executed.ok k) G_nil)
theorem impl_LabelsAfter.lok (k : Nat) : LOK ti (impl_LabelsAfter.Γ k) (impl_LabelsAfter.LH k) 1 (loopsOf (bodyOf Try.f14)) :=
  (show loopsOf (bodyOf Try.f14) = [] by kernel_rfl) ▸ LOK_nil
def impl_LabelsAfter.sig : List PSh := [.one (.ro 1)]
def impl_LabelsAfter.g (y : List Int) : Ret κ := ⟨.v (.sl 1), [], [.rows 2 true y]⟩
def impl_LabelsAfter.out (r : Ret κ) : Option (List Int) :=
  match r with
  | ⟨.v (.sl 1), [], [q0]⟩ => (asO 2 true q0).bind fun z0 => some (z0)
  | _ => none
theorem impl_LabelsAfter.out_ok (r : Ret κ) (y : List Int) (h : impl_LabelsAfter.out r = some y) : r = impl_LabelsAfter.g y := by
  unfold impl_LabelsAfter.out at h
  split at h
  · obtain ⟨_, rfl, h_1⟩ := asO_bind h
    obtain rfl := Option.some.inj h_1
    rfl
  · cases h
def impl_LabelsAfter.body (k : Nat) (vs : List AV) (bs : List (Blk κ)) : Option (Lf κ) :=
  match vs, bs with
  | [.v (.sl 0)], [qb0] => (asO 1 false qb0).bind fun a0 => some ⟨List Int, impl_LabelsAfter.f k a0, impl_LabelsAfter.g⟩
  | _, _ => none
def impl_LabelsAfter.C (k : Nat) : Nat → List AV → AP κ AV := contract impl_LabelsAfter.sig (impl_LabelsAfter.body k)
theorem impl_LabelsAfter.den (k : Nat) (a0 : List T_impl_Op) : Code.den ti (impl_LabelsAfter.Γ k) (impl_LabelsAfter.LH k) (bodyOf Try.f14) (finK ti Try.f14.results.toList [(2, [some 2])] (flags impl_LabelsAfter.sig).length (rwI (flags impl_LabelsAfter.sig) 0) impl_LabelsAfter.out) ⟨envOf (([.v (.sl 0)]).zipIdx.map fun q => (q.2, q.1)), hpOf [.rows 1 false a0], (flags impl_LabelsAfter.sig).length⟩ = impl_LabelsAfter.f k a0 := by kernel_rfl
theorem impl_LabelsAfter.ok (k : Nat) : CSound Try.prog 14 (impl_LabelsAfter.C k) :=
  csound κ_ok mixed tok (impl_LabelsAfter.hΓ k) (LH := impl_LabelsAfter.LH k) (fn := Try.f14) (c := bodyOf Try.f14) Try.func14 rfl Try.call14 impl_LabelsAfter.sig [(2, [some 2])] (impl_LabelsAfter.body k) (by kernel_rfl) (impl_LabelsAfter.lok k) (by decide) fun vs bs lf y hl hb hy => by
    unfold impl_LabelsAfter.body at hb
    split at hb
    · obtain ⟨_, rfl, hb_1⟩ := asO_bind hb
      obtain rfl := Option.some.inj hb_1
      exact ⟨impl_LabelsAfter.out, impl_LabelsAfter.out_ok, (impl_LabelsAfter.den k _).trans hy⟩
    · cases hb
/-! ### laws_eqIntS -/
def laws_eqIntS.L4 {R : Type} (k : Nat) (xl0 : List Int) (xl1 : List Int) (X0 : Bool → Option R) (X1 : Unit → Option R) (rec : Int → Option R) (x2 : Int) : Option R :=
  (bif decide (x2 < (xl0.length : Int)) then (bif decide (0 ≤ x2) then (bif decide (x2 < (xl0.length : Int)) then (bif decide (0 ≤ x2) then (bif decide (x2 < (xl1.length : Int)) then (bif ((rd_i64 xl0 x2) != (rd_i64 xl1 x2)) then (X0 false) else (rec (w64 (x2 + (1 : Int))))) else none) else none) else none) else none) else (X1 ()))
def laws_eqIntS.l4 {R : Type} (k : Nat) (xl0 : List Int) (xl1 : List Int) (X0 : Bool → Option R) (X1 : Unit → Option R) : Nat → Int → Option R
  | 0 => fun _ => none
  | n + 1 => laws_eqIntS.L4 k xl0 xl1 X0 X1 (laws_eqIntS.l4 k xl0 xl1 X0 X1 n)
def laws_eqIntS.f (k : Nat) (a0 : List Int) (a1 : List Int) : Option Bool :=
  (bif ((a0.length : Int) != (a1.length : Int)) then some false else (laws_eqIntS.l4 k a0 a1 (fun (y1 : Bool) => some y1) (fun (_ : Unit) => some true) k (0 : Int)))
def laws_eqIntS.h4 (k : Nat) {R : Type} (K : Ex → St κ → Option R) (vs : List AV) (bs : List (Blk κ)) : Option R :=
  match vs, bs with
  | [.v (.sl 0), .v (.sl 1), .v (.int .i64 x2)], [qb0, qb1] => (asO 2 false qb0).bind fun xl0 => (asO 2 false qb1).bind fun xl1 => laws_eqIntS.l4 k xl0 xl1 (fun (z0 : Bool) => K .ret (stOf [(4, [])] [.v (.bool z0)] [.rows 2 false xl0, .rows 2 false xl1])) (fun (_ : Unit) => K (.exit 0) (stOf [(4, [])] [.v .any] [.rows 2 false xl0, .rows 2 false xl1])) k x2
  | _, _ => none
def laws_eqIntS.Γ (k : Nat) : Ct κ := assoc []
def laws_eqIntS.LH (k : Nat) : Nat → Option (LHi κ) := assoc [(4, ⟨2, [(0, [some 2]), (1, [some 2]), (5, [])], [(4, [])], @laws_eqIntS.h4 k⟩)]
theorem laws_eqIntS.hΓ (k : Nat) : ∀ f g, laws_eqIntS.Γ k f = some g → CSound Try.prog f g := G_nil
theorem laws_eqIntS.e4 {R : Type} (K : Ex → St κ → Option R) (k : Nat) (xl0 : List Int) (xl1 : List Int) : ∀ (n : Nat) (x2 : Int), loopN 2 (Code.den ti (laws_eqIntS.Γ k) (laws_eqIntS.LH k) (loopAt Try.f15 0)) [(0, [some 2]), (1, [some 2]), (5, [])] [(4, [])] K n [.v (.sl 0), .v (.sl 1), .v (.int .i64 x2)] [.rows 2 false xl0, .rows 2 false xl1] = laws_eqIntS.l4 k xl0 xl1 (fun (z0 : Bool) => K .ret (stOf [(4, [])] [.v (.bool z0)] [.rows 2 false xl0, .rows 2 false xl1])) (fun (_ : Unit) => K (.exit 0) (stOf [(4, [])] [.v .any] [.rows 2 false xl0, .rows 2 false xl1])) n x2
  | 0, _ => rfl
  | n + 1, x2 => (show loopN 2 (Code.den ti (laws_eqIntS.Γ k) (laws_eqIntS.LH k) (loopAt Try.f15 0)) [(0, [some 2]), (1, [some 2]), (5, [])] [(4, [])] K (n + 1) [.v (.sl 0), .v (.sl 1), .v (.int .i64 x2)] [.rows 2 false xl0, .rows 2 false xl1] = laws_eqIntS.L4 k xl0 xl1 (fun (z0 : Bool) => K .ret (stOf [(4, [])] [.v (.bool z0)] [.rows 2 false xl0, .rows 2 false xl1])) (fun (_ : Unit) => K (.exit 0) (stOf [(4, [])] [.v .any] [.rows 2 false xl0, .rows 2 false xl1])) (fun (x2' : Int) => loopN 2 (Code.den ti (laws_eqIntS.Γ k) (laws_eqIntS.LH k) (loopAt Try.f15 0)) [(0, [some 2]), (1, [some 2]), (5, [])] [(4, [])] K n [.v (.sl 0), .v (.sl 1), .v (.int .i64 x2')] [.rows 2 false xl0, .rows 2 false xl1]) x2 by kernel_rfl).trans (congrArg (fun rec => laws_eqIntS.L4 k xl0 xl1 (fun (z0 : Bool) => K .ret (stOf [(4, [])] [.v (.bool z0)] [.rows 2 false xl0, .rows 2 false xl1])) (fun (_ : Unit) => K (.exit 0) (stOf [(4, [])] [.v .any] [.rows 2 false xl0, .rows 2 false xl1])) rec x2) (funext fun x2' => laws_eqIntS.e4 K k xl0 xl1 n x2'))
theorem laws_eqIntS.q4 (k : Nat) {R : Type} (K : Ex → St κ → Option R) (vs : List AV) (bs : List (Blk κ)) (r : R) (h : laws_eqIntS.h4 k K vs bs = some r) : ∃ n, loopN 2 (Code.den ti (laws_eqIntS.Γ k) (laws_eqIntS.LH k) (loopAt Try.f15 0)) [(0, [some 2]), (1, [some 2]), (5, [])] [(4, [])] K n vs bs = some r := by
  unfold laws_eqIntS.h4 at h
  split at h
  · obtain ⟨_, rfl, h_1⟩ := asO_bind h
    obtain ⟨_, rfl, h_2⟩ := asO_bind h_1
    exact ⟨k, (laws_eqIntS.e4 K k _ _ k _).trans h_2⟩
  · cases h
theorem laws_eqIntS.lok (k : Nat) : LOK ti (laws_eqIntS.Γ k) (laws_eqIntS.LH k) 2 (loopsOf (bodyOf Try.f15)) :=
  (show loopsOf (bodyOf Try.f15) = [loopAt Try.f15 0] by kernel_rfl) ▸ (LOK_cons (g := ⟨2, [(0, [some 2]), (1, [some 2]), (5, [])], [(4, [])], @laws_eqIntS.h4 k⟩) (by kernel_rfl) rfl (fun K vs xs r h => laws_eqIntS.q4 k K vs xs r h) (LOK_nil))
def laws_eqIntS.sig : List PSh := [.one (.ro 2), .one (.ro 2)]
def laws_eqIntS.g (y : Bool) : Ret κ := ⟨.v (.bool y), [], []⟩
def laws_eqIntS.out (r : Ret κ) : Option Bool :=
  match r with
  | ⟨.v (.bool z0), [], []⟩ => some (z0)
  | _ => none
theorem laws_eqIntS.out_ok (r : Ret κ) (y : Bool) (h : laws_eqIntS.out r = some y) : r = laws_eqIntS.g y := by
  unfold laws_eqIntS.out at h
  split at h
  · obtain rfl := Option.some.inj h
    rfl
  · cases h
def laws_eqIntS.body (k : Nat) (vs : List AV) (bs : List (Blk κ)) : Option (Lf κ) :=
  match vs, bs with
  | [.v (.sl 0), .v (.sl 1)], [qb0, qb1] => (asO 2 false qb0).bind fun a0 => (asO 2 false qb1).bind fun a1 => some ⟨Bool, laws_eqIntS.f k a0 a1, laws_eqIntS.g⟩
  | _, _ => none
def laws_eqIntS.C (k : Nat) : Nat → List AV → AP κ AV := contract laws_eqIntS.sig (laws_eqIntS.body k)
theorem laws_eqIntS.den (k : Nat) (a0 : List Int) (a1 : List Int) : Code.den ti (laws_eqIntS.Γ k) (laws_eqIntS.LH k) (bodyOf Try.f15) (finK ti Try.f15.results.toList [] (flags laws_eqIntS.sig).length (rwI (flags laws_eqIntS.sig) 0) laws_eqIntS.out) ⟨envOf (([.v (.sl 0), .v (.sl 1)]).zipIdx.map fun q => (q.2, q.1)), hpOf [.rows 2 false a0, .rows 2 false a1], (flags laws_eqIntS.sig).length⟩ = laws_eqIntS.f k a0 a1 := by kernel_rfl
theorem laws_eqIntS.ok (k : Nat) : CSound Try.prog 15 (laws_eqIntS.C k) :=
  csound κ_ok mixed tok (laws_eqIntS.hΓ k) (LH := laws_eqIntS.LH k) (fn := Try.f15) (c := bodyOf Try.f15) Try.func15 rfl Try.call15 laws_eqIntS.sig [] (laws_eqIntS.body k) (by kernel_rfl) (laws_eqIntS.lok k) (by decide) fun vs bs lf y hl hb hy => by
    unfold laws_eqIntS.body at hb
    split at hb
    · obtain ⟨_, rfl, hb_1⟩ := asO_bind hb
      obtain ⟨_, rfl, hb_2⟩ := asO_bind hb_1
      obtain rfl := Option.some.inj hb_2
      exact ⟨laws_eqIntS.out, laws_eqIntS.out_ok, (laws_eqIntS.den k _ _).trans hy⟩
    · cases hb
/-! ### laws_eqOp -/
def laws_eqOp.f (k : Nat) (a0_0 : Int) (a0_1 : Int) (a0_2 : Int) (a0_3 : Int) (a1_0 : Int) (a1_1 : Int) (a1_2 : Int) (a1_3 : Int) : Option Bool :=
  (bif (a0_0 != a1_0) then some false else (bif (a0_1 != a1_1) then some false else (bif (a0_2 != a1_2) then some false else (bif (a0_3 != a1_3) then some false else some true))))
def laws_eqOp.Γ (k : Nat) : Ct κ := assoc []
def laws_eqOp.LH (k : Nat) : Nat → Option (LHi κ) := assoc []
theorem laws_eqOp.hΓ (k : Nat) : ∀ f g, laws_eqOp.Γ k f = some g → CSound Try.prog f g := G_nil
theorem laws_eqOp.lok (k : Nat) : LOK ti (laws_eqOp.Γ k) (laws_eqOp.LH k) 0 (loopsOf (bodyOf Try.f58)) :=
  (show loopsOf (bodyOf Try.f58) = [] by kernel_rfl) ▸ LOK_nil
def laws_eqOp.sig : List PSh := [.agg [.sc, .sc, .sc, .sc], .agg [.sc, .sc, .sc, .sc]]
def laws_eqOp.g (y : Bool) : Ret κ := ⟨.v (.bool y), [], []⟩
def laws_eqOp.out (r : Ret κ) : Option Bool :=
  match r with
  | ⟨.v (.bool z0), [], []⟩ => some (z0)
  | _ => none
theorem laws_eqOp.out_ok (r : Ret κ) (y : Bool) (h : laws_eqOp.out r = some y) : r = laws_eqOp.g y := by
  unfold laws_eqOp.out at h
  split at h
  · obtain rfl := Option.some.inj h
    rfl
  · cases h
def laws_eqOp.body (k : Nat) (vs : List AV) (bs : List (Blk κ)) : Option (Lf κ) :=
  match vs, bs with
  | [.agg [.int .i64 a0_0, .int .i64 a0_1, .int .i64 a0_2, .int .i64 a0_3], .agg [.int .i64 a1_0, .int .i64 a1_1, .int .i64 a1_2, .int .i64 a1_3]], [] => some ⟨Bool, laws_eqOp.f k a0_0 a0_1 a0_2 a0_3 a1_0 a1_1 a1_2 a1_3, laws_eqOp.g⟩
  | _, _ => none
def laws_eqOp.C (k : Nat) : Nat → List AV → AP κ AV := contract laws_eqOp.sig (laws_eqOp.body k)
theorem laws_eqOp.den (k : Nat) (a0_0 : Int) (a0_1 : Int) (a0_2 : Int) (a0_3 : Int) (a1_0 : Int) (a1_1 : Int) (a1_2 : Int) (a1_3 : Int) : Code.den ti (laws_eqOp.Γ k) (laws_eqOp.LH k) (bodyOf Try.f58) (finK ti Try.f58.results.toList [] (flags laws_eqOp.sig).length (rwI (flags laws_eqOp.sig) 0) laws_eqOp.out) ⟨envOf (([.agg [.int .i64 a0_0, .int .i64 a0_1, .int .i64 a0_2, .int .i64 a0_3], .agg [.int .i64 a1_0, .int .i64 a1_1, .int .i64 a1_2, .int .i64 a1_3]]).zipIdx.map fun q => (q.2, q.1)), hpOf [], (flags laws_eqOp.sig).length⟩ = laws_eqOp.f k a0_0 a0_1 a0_2 a0_3 a1_0 a1_1 a1_2 a1_3 := by kernel_rfl
theorem laws_eqOp.ok (k : Nat) : CSound Try.prog 58 (laws_eqOp.C k) :=
  csound κ_ok mixed tok (laws_eqOp.hΓ k) (LH := laws_eqOp.LH k) (fn := Try.f58) (c := bodyOf Try.f58) Try.func58 rfl Try.call58 laws_eqOp.sig [] (laws_eqOp.body k) (by kernel_rfl) (laws_eqOp.lok k) (by decide) fun vs bs lf y hl hb hy => by
    unfold laws_eqOp.body at hb
    split at hb
    · obtain rfl := Option.some.inj hb
      exact ⟨laws_eqOp.out, laws_eqOp.out_ok, (laws_eqOp.den k _ _ _ _ _ _ _ _).trans hy⟩
    · cases hb
/-! ### laws_eqOpS -/
def laws_eqOpS.L4 {R : Type} (k : Nat) (xl0 : List T_impl_Op) (xl1 : List T_impl_Op) (X0 : Bool → Option R) (X1 : Unit → Option R) (rec : Int → Option R) (x2 : Int) : Option R :=
  (bif decide (x2 < (xl0.length : Int)) then (bif decide (0 ≤ x2) then (bif decide (x2 < (xl0.length : Int)) then (bif decide (0 ≤ x2) then (bif decide (x2 < (xl1.length : Int)) then (laws_eqOp.f k ((rd_impl_Op xl0 x2).f0) ((rd_impl_Op xl0 x2).f1) ((rd_impl_Op xl0 x2).f2) ((rd_impl_Op xl0 x2).f3) ((rd_impl_Op xl1 x2).f0) ((rd_impl_Op xl1 x2).f1) ((rd_impl_Op xl1 x2).f2) ((rd_impl_Op xl1 x2).f3)).bind fun t1 => (bif !t1 then (X0 false) else (rec (w64 (x2 + (1 : Int))))) else none) else none) else none) else none) else (X1 ()))
def laws_eqOpS.l4 {R : Type} (k : Nat) (xl0 : List T_impl_Op) (xl1 : List T_impl_Op) (X0 : Bool → Option R) (X1 : Unit → Option R) : Nat → Int → Option R
  | 0 => fun _ => none
  | n + 1 => laws_eqOpS.L4 k xl0 xl1 X0 X1 (laws_eqOpS.l4 k xl0 xl1 X0 X1 n)
def laws_eqOpS.f (k : Nat) (a0 : List T_impl_Op) (a1 : List T_impl_Op) : Option Bool :=
  (bif ((a0.length : Int) != (a1.length : Int)) then some false else (laws_eqOpS.l4 k a0 a1 (fun (y2 : Bool) => some y2) (fun (_ : Unit) => some true) k (0 : Int)))
def laws_eqOpS.h4 (k : Nat) {R : Type} (K : Ex → St κ → Option R) (vs : List AV) (bs : List (Blk κ)) : Option R :=
  match vs, bs with
  | [.v (.sl 0), .v (.sl 1), .v (.int .i64 x2)], [qb0, qb1] => (asO 1 false qb0).bind fun xl0 => (asO 1 false qb1).bind fun xl1 => laws_eqOpS.l4 k xl0 xl1 (fun (z0 : Bool) => K .ret (stOf [(4, [])] [.v (.bool z0)] [.rows 1 false xl0, .rows 1 false xl1])) (fun (_ : Unit) => K (.exit 0) (stOf [(4, [])] [.v .any] [.rows 1 false xl0, .rows 1 false xl1])) k x2
  | _, _ => none
def laws_eqOpS.Γ (k : Nat) : Ct κ := assoc [(58, laws_eqOp.C k)]
def laws_eqOpS.LH (k : Nat) : Nat → Option (LHi κ) := assoc [(4, ⟨2, [(0, [some 1]), (1, [some 1]), (5, [])], [(4, [])], @laws_eqOpS.h4 k⟩)]
theorem laws_eqOpS.hΓ (k : Nat) : ∀ f g, laws_eqOpS.Γ k f = some g → CSound Try.prog f g := G_cons (laws_eqOp.ok k) G_nil
theorem laws_eqOpS.e4 {R : Type} (K : Ex → St κ → Option R) (k : Nat) (xl0 : List T_impl_Op) (xl1 : List T_impl_Op) : ∀ (n : Nat) (x2 : Int), loopN 2 (Code.den ti (laws_eqOpS.Γ k) (laws_eqOpS.LH k) (loopAt Try.f16 0)) [(0, [some 1]), (1, [some 1]), (5, [])] [(4, [])] K n [.v (.sl 0), .v (.sl 1), .v (.int .i64 x2)] [.rows 1 false xl0, .rows 1 false xl1] = laws_eqOpS.l4 k xl0 xl1 (fun (z0 : Bool) => K .ret (stOf [(4, [])] [.v (.bool z0)] [.rows 1 false xl0, .rows 1 false xl1])) (fun (_ : Unit) => K (.exit 0) (stOf [(4, [])] [.v .any] [.rows 1 false xl0, .rows 1 false xl1])) n x2
  | 0, _ => rfl
  | n + 1, x2 => (show loopN 2 (Code.den ti (laws_eqOpS.Γ k) (laws_eqOpS.LH k) (loopAt Try.f16 0)) [(0, [some 1]), (1, [some 1]), (5, [])] [(4, [])] K (n + 1) [.v (.sl 0), .v (.sl 1), .v (.int .i64 x2)] [.rows 1 false xl0, .rows 1 false xl1] = laws_eqOpS.L4 k xl0 xl1 (fun (z0 : Bool) => K .ret (stOf [(4, [])] [.v (.bool z0)] [.rows 1 false xl0, .rows 1 false xl1])) (fun (_ : Unit) => K (.exit 0) (stOf [(4, [])] [.v .any] [.rows 1 false xl0, .rows 1 false xl1])) (fun (x2' : Int) => loopN 2 (Code.den ti (laws_eqOpS.Γ k) (laws_eqOpS.LH k) (loopAt Try.f16 0)) [(0, [some 1]), (1, [some 1]), (5, [])] [(4, [])] K n [.v (.sl 0), .v (.sl 1), .v (.int .i64 x2')] [.rows 1 false xl0, .rows 1 false xl1]) x2 by kernel_rfl).trans (congrArg (fun rec => laws_eqOpS.L4 k xl0 xl1 (fun (z0 : Bool) => K .ret (stOf [(4, [])] [.v (.bool z0)] [.rows 1 false xl0, .rows 1 false xl1])) (fun (_ : Unit) => K (.exit 0) (stOf [(4, [])] [.v .any] [.rows 1 false xl0, .rows 1 false xl1])) rec x2) (funext fun x2' => laws_eqOpS.e4 K k xl0 xl1 n x2'))
theorem laws_eqOpS.q4 (k : Nat) {R : Type} (K : Ex → St κ → Option R) (vs : List AV) (bs : List (Blk κ)) (r : R) (h : laws_eqOpS.h4 k K vs bs = some r) : ∃ n, loopN 2 (Code.den ti (laws_eqOpS.Γ k) (laws_eqOpS.LH k) (loopAt Try.f16 0)) [(0, [some 1]), (1, [some 1]), (5, [])] [(4, [])] K n vs bs = some r := by
  unfold laws_eqOpS.h4 at h
  split at h
  · obtain ⟨_, rfl, h_1⟩ := asO_bind h
    obtain ⟨_, rfl, h_2⟩ := asO_bind h_1
    exact ⟨k, (laws_eqOpS.e4 K k _ _ k _).trans h_2⟩
  · cases h
theorem laws_eqOpS.lok (k : Nat) : LOK ti (laws_eqOpS.Γ k) (laws_eqOpS.LH k) 2 (loopsOf (bodyOf Try.f16)) :=
  (show loopsOf (bodyOf Try.f16) = [loopAt Try.f16 0] by kernel_rfl) ▸ (LOK_cons (g := ⟨2, [(0, [some 1]), (1, [some 1]), (5, [])], [(4, [])], @laws_eqOpS.h4 k⟩) (by kernel_rfl) rfl (fun K vs xs r h => laws_eqOpS.q4 k K vs xs r h) (LOK_nil))
def laws_eqOpS.sig : List PSh := [.one (.ro 1), .one (.ro 1)]
def laws_eqOpS.g (y : Bool) : Ret κ := ⟨.v (.bool y), [], []⟩
def laws_eqOpS.out (r : Ret κ) : Option Bool :=
  match r with
  | ⟨.v (.bool z0), [], []⟩ => some (z0)
  | _ => none
theorem laws_eqOpS.out_ok (r : Ret κ) (y : Bool) (h : laws_eqOpS.out r = some y) : r = laws_eqOpS.g y := by
  unfold laws_eqOpS.out at h
  split at h
  · obtain rfl := Option.some.inj h
    rfl
  · cases h
def laws_eqOpS.body (k : Nat) (vs : List AV) (bs : List (Blk κ)) : Option (Lf κ) :=
  match vs, bs with
  | [.v (.sl 0), .v (.sl 1)], [qb0, qb1] => (asO 1 false qb0).bind fun a0 => (asO 1 false qb1).bind fun a1 => some ⟨Bool, laws_eqOpS.f k a0 a1, laws_eqOpS.g⟩
  | _, _ => none
def laws_eqOpS.C (k : Nat) : Nat → List AV → AP κ AV := contract laws_eqOpS.sig (laws_eqOpS.body k)
theorem laws_eqOpS.den (k : Nat) (a0 : List T_impl_Op) (a1 : List T_impl_Op) : Code.den ti (laws_eqOpS.Γ k) (laws_eqOpS.LH k) (bodyOf Try.f16) (finK ti Try.f16.results.toList [] (flags laws_eqOpS.sig).length (rwI (flags laws_eqOpS.sig) 0) laws_eqOpS.out) ⟨envOf (([.v (.sl 0), .v (.sl 1)]).zipIdx.map fun q => (q.2, q.1)), hpOf [.rows 1 false a0, .rows 1 false a1], (flags laws_eqOpS.sig).length⟩ = laws_eqOpS.f k a0 a1 := by kernel_rfl
theorem laws_eqOpS.ok (k : Nat) : CSound Try.prog 16 (laws_eqOpS.C k) :=
  csound κ_ok mixed tok (laws_eqOpS.hΓ k) (LH := laws_eqOpS.LH k) (fn := Try.f16) (c := bodyOf Try.f16) Try.func16 rfl Try.call16 laws_eqOpS.sig [] (laws_eqOpS.body k) (by kernel_rfl) (laws_eqOpS.lok k) (by decide) fun vs bs lf y hl hb hy => by
    unfold laws_eqOpS.body at hb
    split at hb
    · obtain ⟨_, rfl, hb_1⟩ := asO_bind hb
      obtain ⟨_, rfl, hb_2⟩ := asO_bind hb_1
      obtain rfl := Option.some.inj hb_2
      exact ⟨laws_eqOpS.out, laws_eqOpS.out_ok, (laws_eqOpS.den k _ _).trans hy⟩
    · cases hb
/-! ### laws_markOpS -/
def laws_markOpS.L2 {R : Type} (k : Nat) (X0 : Int → List T_impl_Op → Option R) (rec : Int → Int → List T_impl_Op → Option R) (x1 : Int) (x2 : Int) (xl0 : List T_impl_Op) : Option R :=
  (bif decide (x2 < (xl0.length : Int)) then (bif decide (0 ≤ x2) then (bif decide (x2 < (xl0.length : Int)) then (let l1 : List T_impl_Op := (xl0.set (x2).toNat (⟨x1, (rd_impl_Op xl0 x2).f1, (rd_impl_Op xl0 x2).f2, (rd_impl_Op xl0 x2).f3⟩ : T_impl_Op)); (bif decide (0 ≤ x2) then (bif decide (x2 < (l1.length : Int)) then (let l2 : List T_impl_Op := (l1.set (x2).toNat (⟨(rd_impl_Op l1 x2).f0, (w64 (x1 + (1 : Int))), (rd_impl_Op l1 x2).f2, (rd_impl_Op l1 x2).f3⟩ : T_impl_Op)); (bif decide (0 ≤ x2) then (bif decide (x2 < (l2.length : Int)) then (let l3 : List T_impl_Op := (l2.set (x2).toNat (⟨(rd_impl_Op l2 x2).f0, (rd_impl_Op l2 x2).f1, (w64 ((w64 (x1 + (1 : Int))) + (1 : Int))), (rd_impl_Op l2 x2).f3⟩ : T_impl_Op)); (bif decide (0 ≤ x2) then (bif decide (x2 < (l3.length : Int)) then (let l4 : List T_impl_Op := (l3.set (x2).toNat (⟨(rd_impl_Op l3 x2).f0, (rd_impl_Op l3 x2).f1, (rd_impl_Op l3 x2).f2, (w64 ((w64 ((w64 (x1 + (1 : Int))) + (1 : Int))) + (1 : Int)))⟩ : T_impl_Op)); (rec (w64 ((w64 ((w64 ((w64 (x1 + (1 : Int))) + (1 : Int))) + (1 : Int))) + (1 : Int))) (w64 (x2 + (1 : Int))) l4)) else none) else none)) else none) else none)) else none) else none)) else none) else none) else (X0 x1 xl0))
def laws_markOpS.l2 {R : Type} (k : Nat) (X0 : Int → List T_impl_Op → Option R) : Nat → Int → Int → List T_impl_Op → Option R
  | 0 => fun _ _ _ => none
  | n + 1 => laws_markOpS.L2 k X0 (laws_markOpS.l2 k X0 n)
def laws_markOpS.f (k : Nat) (a0 : List T_impl_Op) (a1 : Int) : Option (Int × List T_impl_Op) :=
  (laws_markOpS.l2 k (fun (y5 : Int) (y6 : List T_impl_Op) => some (y5, y6)) k a1 (0 : Int) a0)
def laws_markOpS.h2 (k : Nat) {R : Type} (K : Ex → St κ → Option R) (vs : List AV) (bs : List (Blk κ)) : Option R :=
  match vs, bs with
  | [.v (.sl 0), .v (.int .i64 x1), .v (.int .i64 x2)], [qb0] => (asO 1 true qb0).bind fun xl0 => laws_markOpS.l2 k (fun (z0 : Int) (zl0 : List T_impl_Op) => K (.exit 0) (stOf [(1, [])] [.v (.int .i64 z0)] [.rows 1 true zl0])) k x1 x2 xl0
  | _, _ => none
def laws_markOpS.Γ (k : Nat) : Ct κ := assoc []
def laws_markOpS.LH (k : Nat) : Nat → Option (LHi κ) := assoc [(2, ⟨1, [(0, [some 1]), (1, []), (5, [])], [(1, [])], @laws_markOpS.h2 k⟩)]
theorem laws_markOpS.hΓ (k : Nat) : ∀ f g, laws_markOpS.Γ k f = some g → CSound Try.prog f g := G_nil
theorem laws_markOpS.e2 {R : Type} (K : Ex → St κ → Option R) (k : Nat) : ∀ (n : Nat) (x1 : Int) (x2 : Int) (xl0 : List T_impl_Op), loopN 1 (Code.den ti (laws_markOpS.Γ k) (laws_markOpS.LH k) (loopAt Try.f17 0)) [(0, [some 1]), (1, []), (5, [])] [(1, [])] K n [.v (.sl 0), .v (.int .i64 x1), .v (.int .i64 x2)] [.rows 1 true xl0] = laws_markOpS.l2 k (fun (z0 : Int) (zl0 : List T_impl_Op) => K (.exit 0) (stOf [(1, [])] [.v (.int .i64 z0)] [.rows 1 true zl0])) n x1 x2 xl0
  | 0, _, _, _ => rfl
  | n + 1, x1, x2, xl0 => (show loopN 1 (Code.den ti (laws_markOpS.Γ k) (laws_markOpS.LH k) (loopAt Try.f17 0)) [(0, [some 1]), (1, []), (5, [])] [(1, [])] K (n + 1) [.v (.sl 0), .v (.int .i64 x1), .v (.int .i64 x2)] [.rows 1 true xl0] = laws_markOpS.L2 k (fun (z0 : Int) (zl0 : List T_impl_Op) => K (.exit 0) (stOf [(1, [])] [.v (.int .i64 z0)] [.rows 1 true zl0])) (fun (x1' : Int) (x2' : Int) (xl0' : List T_impl_Op) => loopN 1 (Code.den ti (laws_markOpS.Γ k) (laws_markOpS.LH k) (loopAt Try.f17 0)) [(0, [some 1]), (1, []), (5, [])] [(1, [])] K n [.v (.sl 0), .v (.int .i64 x1'), .v (.int .i64 x2')] [.rows 1 true xl0']) x1 x2 xl0 by kernel_rfl).trans (congrArg (fun rec => laws_markOpS.L2 k (fun (z0 : Int) (zl0 : List T_impl_Op) => K (.exit 0) (stOf [(1, [])] [.v (.int .i64 z0)] [.rows 1 true zl0])) rec x1 x2 xl0) (funext fun x1' => funext fun x2' => funext fun xl0' => laws_markOpS.e2 K k n x1' x2' xl0'))
theorem laws_markOpS.q2 (k : Nat) {R : Type} (K : Ex → St κ → Option R) (vs : List AV) (bs : List (Blk κ)) (r : R) (h : laws_markOpS.h2 k K vs bs = some r) : ∃ n, loopN 1 (Code.den ti (laws_markOpS.Γ k) (laws_markOpS.LH k) (loopAt Try.f17 0)) [(0, [some 1]), (1, []), (5, [])] [(1, [])] K n vs bs = some r := by
  unfold laws_markOpS.h2 at h
  split at h
  · obtain ⟨_, rfl, h_1⟩ := asO_bind h
    exact ⟨k, (laws_markOpS.e2 K k k _ _ _).trans h_1⟩
  · cases h
theorem laws_markOpS.lok (k : Nat) : LOK ti (laws_markOpS.Γ k) (laws_markOpS.LH k) 1 (loopsOf (bodyOf Try.f17)) :=
  (show loopsOf (bodyOf Try.f17) = [loopAt Try.f17 0] by kernel_rfl) ▸ (LOK_cons (g := ⟨1, [(0, [some 1]), (1, []), (5, [])], [(1, [])], @laws_markOpS.h2 k⟩) (by kernel_rfl) rfl (fun K vs xs r h => laws_markOpS.q2 k K vs xs r h) (LOK_nil))
def laws_markOpS.sig : List PSh := [.one (.rw 1), .one .sc]
def laws_markOpS.g (y : Int × List T_impl_Op) : Ret κ := ⟨.v (.int .i64 y.1), [.rows 1 true y.2], []⟩
def laws_markOpS.out (r : Ret κ) : Option (Int × List T_impl_Op) :=
  match r with
  | ⟨.v (.int .i64 z0), [q1], []⟩ => (asO 1 true q1).bind fun z1 => some (z0, z1)
  | _ => none
theorem laws_markOpS.out_ok (r : Ret κ) (y : Int × List T_impl_Op) (h : laws_markOpS.out r = some y) : r = laws_markOpS.g y := by
  unfold laws_markOpS.out at h
  split at h
  · obtain ⟨_, rfl, h_1⟩ := asO_bind h
    obtain rfl := Option.some.inj h_1
    rfl
  · cases h
def laws_markOpS.body (k : Nat) (vs : List AV) (bs : List (Blk κ)) : Option (Lf κ) :=
  match vs, bs with
  | [.v (.sl 0), .v (.int .i64 a1)], [qb0] => (asO 1 true qb0).bind fun a0 => some ⟨Int × List T_impl_Op, laws_markOpS.f k a0 a1, laws_markOpS.g⟩
  | _, _ => none
def laws_markOpS.C (k : Nat) : Nat → List AV → AP κ AV := contract laws_markOpS.sig (laws_markOpS.body k)
theorem laws_markOpS.den (k : Nat) (a0 : List T_impl_Op) (a1 : Int) : Code.den ti (laws_markOpS.Γ k) (laws_markOpS.LH k) (bodyOf Try.f17) (finK ti Try.f17.results.toList [] (flags laws_markOpS.sig).length (rwI (flags laws_markOpS.sig) 0) laws_markOpS.out) ⟨envOf (([.v (.sl 0), .v (.int .i64 a1)]).zipIdx.map fun q => (q.2, q.1)), hpOf [.rows 1 true a0], (flags laws_markOpS.sig).length⟩ = laws_markOpS.f k a0 a1 := by kernel_rfl
theorem laws_markOpS.ok (k : Nat) : CSound Try.prog 17 (laws_markOpS.C k) :=
  csound κ_ok mixed tok (laws_markOpS.hΓ k) (LH := laws_markOpS.LH k) (fn := Try.f17) (c := bodyOf Try.f17) Try.func17 rfl Try.call17 laws_markOpS.sig [] (laws_markOpS.body k) (by kernel_rfl) (laws_markOpS.lok k) (by decide) fun vs bs lf y hl hb hy => by
    unfold laws_markOpS.body at hb
    split at hb
    · obtain ⟨_, rfl, hb_1⟩ := asO_bind hb
      obtain rfl := Option.some.inj hb_1
      exact ⟨laws_markOpS.out, laws_markOpS.out_ok, (laws_markOpS.den k _ _).trans hy⟩
    · cases hb
end Go.Proofs.Ythjdecnheaifkaa.PFnExactLabelsAfter
