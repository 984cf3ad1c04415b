/- What the functions that the law FnExactCanRollBack reaches come to; no conditions. -/
import Derived.Test.YtoenilndklbceaaGreatPFnExactCanRollBack8
set_option linter.unusedVariables false
set_option maxRecDepth 100000
namespace Go.Proofs.YtoenilndklbceaaGreat.PFnExactCanRollBack
open Go Go.Eng Go.Proofs
/-! ### slices_Contains_Flow -/
def slices_Contains_Flow.f (k : Nat) (a0 : List T_impl_Flow) (a1_0 : Int) (a1_1 : Int) (a1_2 : Int) : Option Bool :=
  (slices_Index_Flow.f k a0 a1_0 a1_1 a1_2).bind fun t1 => some (decide (t1 ≥ (0 : Int)))
def slices_Contains_Flow.Γ (k : Nat) : Ct κ := assoc [(123, slices_Index_Flow.C k)]
def slices_Contains_Flow.LH (k : Nat) : Nat → Option (LHi κ) := assoc []
theorem slices_Contains_Flow.hΓ (k : Nat) : ∀ f g, slices_Contains_Flow.Γ k f = some g → CSound Tryz.prog f g := G_cons (slices_Index_Flow.ok k) G_nil
theorem slices_Contains_Flow.lok (k : Nat) : LOK ti (slices_Contains_Flow.Γ k) (slices_Contains_Flow.LH k) 1 (loopsOf (bodyOf Tryz.f79)) :=
  (show loopsOf (bodyOf Tryz.f79) = [] by kernel_rfl) ▸ LOK_nil
def slices_Contains_Flow.sig : List PSh := [.one (.ro 6), .agg [.sc, .sc, .sc]]
def slices_Contains_Flow.g (y : Bool) : Ret κ := ⟨.v (.bool y), [], []⟩
def slices_Contains_Flow.out (r : Ret κ) : Option Bool :=
  match r with
  | ⟨.v (.bool z0), [], []⟩ => some (z0)
  | _ => none
theorem slices_Contains_Flow.out_ok (r : Ret κ) (y : Bool) (h : slices_Contains_Flow.out r = some y) : r = slices_Contains_Flow.g y := by
  unfold slices_Contains_Flow.out at h
  split at h
  · obtain rfl := Option.some.inj h
    rfl
  · cases h
def slices_Contains_Flow.body (k : Nat) (vs : List AV) (bs : List (Blk κ)) : Option (Lf κ) :=
  match vs, bs with
  | [.v (.sl 0), .agg [.int .i64 a1_0, .int .i64 a1_1, .int .i64 a1_2]], [qb0] => (asO 6 false qb0).bind fun a0 => some ⟨Bool, slices_Contains_Flow.f k a0 a1_0 a1_1 a1_2, slices_Contains_Flow.g⟩
  | _, _ => none
def slices_Contains_Flow.C (k : Nat) : Nat → List AV → AP κ AV := contract slices_Contains_Flow.sig (slices_Contains_Flow.body k)
theorem slices_Contains_Flow.den (k : Nat) (a0 : List T_impl_Flow) (a1_0 : Int) (a1_1 : Int) (a1_2 : Int) : Code.den ti (slices_Contains_Flow.Γ k) (slices_Contains_Flow.LH k) (bodyOf Tryz.f79) (finK ti Tryz.f79.results.toList [] (flags slices_Contains_Flow.sig).length (rwI (flags slices_Contains_Flow.sig) 0) slices_Contains_Flow.out) ⟨envOf (([.v (.sl 0), .agg [.int .i64 a1_0, .int .i64 a1_1, .int .i64 a1_2]]).zipIdx.map fun q => (q.2, q.1)), hpOf [.rows 6 false a0], (flags slices_Contains_Flow.sig).length⟩ = slices_Contains_Flow.f k a0 a1_0 a1_1 a1_2 := by kernel_rfl
theorem slices_Contains_Flow.ok (k : Nat) : CSound Tryz.prog 79 (slices_Contains_Flow.C k) :=
  csound κ_ok mixed tok (slices_Contains_Flow.hΓ k) (LH := slices_Contains_Flow.LH k) (fn := Tryz.f79) (c := bodyOf Tryz.f79) Tryz.func79 rfl Tryz.call79 slices_Contains_Flow.sig [] (slices_Contains_Flow.body k) (by kernel_rfl) (slices_Contains_Flow.lok k) (by decide) fun vs bs lf y hl hb hy => by
    unfold slices_Contains_Flow.body at hb
    split at hb
    · obtain ⟨_, rfl, hb_1⟩ := asO_bind hb
      obtain rfl := Option.some.inj hb_1
      exact ⟨slices_Contains_Flow.out, slices_Contains_Flow.out_ok, (slices_Contains_Flow.den k _ _ _ _).trans hy⟩
    · cases hb
/-! ### impl_NeedsFlows -/
def impl_NeedsFlows.L9 {R : Type} (k : Nat) (x0 : Int) (x4 : Int) (x5 : Int) (x7 : Int) (xl0 : List T_impl_Op) (xc2_0 : Int) (xc2_1 : Int) (xc2_2 : Int) (xl3 : List T_impl_Sent) (xl4 : List Int) (X0 : List T_impl_Flow → Option R) (rec : Int → List T_impl_Flow → Option R) (x8 : Int) (xl1 : List T_impl_Flow) : Option R :=
  (bif decide (x8 < x7) then (bif decide (0 ≤ x8) then (bif decide (x8 < (xl4.length : Int)) then (bif ((rd_i64 xl4 x8) != xc2_0) then (slices_Contains_Flow.f k xl1 x0 (rd_i64 xl4 x8) xc2_0).bind fun t4 => (bif !t4 then (bif decide ((xl1.length + ([(⟨x0, (rd_i64 xl4 x8), xc2_0⟩ : T_impl_Flow)] : List T_impl_Flow).length) * 24 ≤ cap48) then (let l5 : List T_impl_Flow := (xl1 ++ ([(⟨x0, (rd_i64 xl4 x8), xc2_0⟩ : T_impl_Flow)] : List T_impl_Flow)); (rec (w64 (x8 + (1 : Int))) l5)) else none) else (rec (w64 (x8 + (1 : Int))) xl1)) else (rec (w64 (x8 + (1 : Int))) xl1)) else none) else none) else (X0 xl1))
def impl_NeedsFlows.l9 {R : Type} (k : Nat) (x0 : Int) (x4 : Int) (x5 : Int) (x7 : Int) (xl0 : List T_impl_Op) (xc2_0 : Int) (xc2_1 : Int) (xc2_2 : Int) (xl3 : List T_impl_Sent) (xl4 : List Int) (X0 : List T_impl_Flow → Option R) : Nat → Int → List T_impl_Flow → Option R
  | 0 => fun _ _ => none
  | n + 1 => impl_NeedsFlows.L9 k x0 x4 x5 x7 xl0 xc2_0 xc2_1 xc2_2 xl3 xl4 X0 (impl_NeedsFlows.l9 k x0 x4 x5 x7 xl0 xc2_0 xc2_1 xc2_2 xl3 xl4 X0 n)
def impl_NeedsFlows.L6 {R : Type} (k : Nat) (x0 : Int) (x3 : Int) (xl0 : List T_impl_Op) (xl2 : List T_impl_Sent) (X0 : List T_impl_Flow → Option R) (rec : Int → List T_impl_Flow → Option R) (x4 : Int) (xl1 : List T_impl_Flow) : Option R :=
  (bif decide (x4 < x3) then (bif decide (0 ≤ x4) then (bif decide (x4 < (xl2.length : Int)) then (impl_OwnersIn.f k ((rd_impl_Sent xl2 x4).f2)).bind fun t3 => (impl_NeedsFlows.l9 k x0 x3 x4 (t3.length : Int) xl0 ((rd_impl_Sent xl2 x4).f0) ((rd_impl_Sent xl2 x4).f1) ((rd_impl_Sent xl2 x4).f2) xl2 t3 (fun (y4 : List T_impl_Flow) => (rec (w64 (x4 + (1 : Int))) y4)) k (0 : Int) xl1) else none) else none) else (X0 xl1))
def impl_NeedsFlows.l6 {R : Type} (k : Nat) (x0 : Int) (x3 : Int) (xl0 : List T_impl_Op) (xl2 : List T_impl_Sent) (X0 : List T_impl_Flow → Option R) : Nat → Int → List T_impl_Flow → Option R
  | 0 => fun _ _ => none
  | n + 1 => impl_NeedsFlows.L6 k x0 x3 xl0 xl2 X0 (impl_NeedsFlows.l6 k x0 x3 xl0 xl2 X0 n)
def impl_NeedsFlows.f (k : Nat) (a0 : List T_impl_Op) (a1 : Int) : Option (List T_impl_Flow) :=
  (impl_AreOps.f k a0).bind fun t1 => (bif !t1 then some ([] : List T_impl_Flow) else (impl_executed.f k a0 ([] : List Int)).bind fun t2 => (impl_NeedsFlows.l6 k a1 (t2.1.length : Int) a0 t2.1 (fun (y5 : List T_impl_Flow) => some y5) k (0 : Int) ([] : List T_impl_Flow)))
def impl_NeedsFlows.h9 (k : Nat) {R : Type} (K : Ex → St κ → Option R) (vs : List AV) (bs : List (Blk κ)) : Option R :=
  match vs, bs with
  | [.v (.int .i64 x0), .v (.sl 1), .v (.ptr 2 0 0), .v (.sl 3), .v (.int .i64 x4), .v (.int .i64 x5), .v (.sl 4), .v (.int .i64 x7), .v (.int .i64 x8)], [qb0, qb1, .cells 125 [.int .i64 xc2_0, .int .i64 xc2_1, .int .i64 xc2_2], qb3, qb4] => (asO 8 false qb0).bind fun xl0 => (asO 6 true qb1).bind fun xl1 => (asO 11 true qb3).bind fun xl3 => (asO 10 true qb4).bind fun xl4 => impl_NeedsFlows.l9 k x0 x4 x5 x7 xl0 xc2_0 xc2_1 xc2_2 xl3 xl4 (fun (zl1 : List T_impl_Flow) => K (.exit 2) (stOf [(1, []), (5, [some 6]), (23, [some 11]), (24, []), (25, [])] [.v (.int .i64 x0), .v (.sl 1), .v (.sl 2), .v (.int .i64 x4), .v (.int .i64 x5)] [.rows 8 false xl0, .rows 6 true zl1, .rows 11 true xl3])) k x8 xl1
  | _, _ => none
def impl_NeedsFlows.h6 (k : Nat) {R : Type} (K : Ex → St κ → Option R) (vs : List AV) (bs : List (Blk κ)) : Option R :=
  match vs, bs with
  | [.v (.int .i64 x0), .v (.sl 1), .v (.sl 2), .v (.int .i64 x3), .v (.int .i64 x4)], [qb0, qb1, qb2] => (asO 8 false qb0).bind fun xl0 => (asO 6 true qb1).bind fun xl1 => (asO 11 true qb2).bind fun xl2 => impl_NeedsFlows.l6 k x0 x3 xl0 xl2 (fun (zl1 : List T_impl_Flow) => K (.exit 0) (stOf [(5, [some 6])] [.v (.sl 1)] [.rows 8 false xl0, .rows 6 true zl1])) k x4 xl1
  | _, _ => none
def impl_NeedsFlows.Γ (k : Nat) : Ct κ := assoc [(89, impl_AreOps.C k), (92, impl_executed.C k), (138, impl_OwnersIn.C k), (79, slices_Contains_Flow.C k)]
def impl_NeedsFlows.LH (k : Nat) : Nat → Option (LHi κ) := assoc [(9, ⟨1, [(1, []), (5, [some 6]), (9, []), (23, [some 11]), (24, []), (25, []), (31, [some 10]), (32, []), (33, [])], [(1, []), (5, [some 6]), (23, [some 11]), (24, []), (25, [])], @impl_NeedsFlows.h9 k⟩), (6, ⟨1, [(1, []), (5, [some 6]), (23, [some 11]), (24, []), (25, [])], [(5, [some 6])], @impl_NeedsFlows.h6 k⟩)]
theorem impl_NeedsFlows.hΓ (k : Nat) : ∀ f g, impl_NeedsFlows.Γ k f = some g → CSound Tryz.prog f g := G_cons (impl_AreOps.ok k) (G_cons (impl_executed.ok k) (G_cons (impl_OwnersIn.ok k) (G_cons (slices_Contains_Flow.ok k) G_nil)))
theorem impl_NeedsFlows.e9 {R : Type} (K : Ex → St κ → Option R) (k : Nat) (x0 : Int) (x4 : Int) (x5 : Int) (x7 : Int) (xl0 : List T_impl_Op) (xc2_0 : Int) (xc2_1 : Int) (xc2_2 : Int) (xl3 : List T_impl_Sent) (xl4 : List Int) : ∀ (n : Nat) (x8 : Int) (xl1 : List T_impl_Flow), loopN 1 (Code.den ti (impl_NeedsFlows.Γ k) (impl_NeedsFlows.LH k) (loopAt Tryz.f90 1)) [(1, []), (5, [some 6]), (9, []), (23, [some 11]), (24, []), (25, []), (31, [some 10]), (32, []), (33, [])] [(1, []), (5, [some 6]), (23, [some 11]), (24, []), (25, [])] K n [.v (.int .i64 x0), .v (.sl 1), .v (.ptr 2 0 0), .v (.sl 3), .v (.int .i64 x4), .v (.int .i64 x5), .v (.sl 4), .v (.int .i64 x7), .v (.int .i64 x8)] [.rows 8 false xl0, .rows 6 true xl1, .cells 125 [.int .i64 xc2_0, .int .i64 xc2_1, .int .i64 xc2_2], .rows 11 true xl3, .rows 10 true xl4] = impl_NeedsFlows.l9 k x0 x4 x5 x7 xl0 xc2_0 xc2_1 xc2_2 xl3 xl4 (fun (zl1 : List T_impl_Flow) => K (.exit 2) (stOf [(1, []), (5, [some 6]), (23, [some 11]), (24, []), (25, [])] [.v (.int .i64 x0), .v (.sl 1), .v (.sl 2), .v (.int .i64 x4), .v (.int .i64 x5)] [.rows 8 false xl0, .rows 6 true zl1, .rows 11 true xl3])) n x8 xl1
  | 0, _, _ => rfl
  | n + 1, x8, xl1 => (show loopN 1 (Code.den ti (impl_NeedsFlows.Γ k) (impl_NeedsFlows.LH k) (loopAt Tryz.f90 1)) [(1, []), (5, [some 6]), (9, []), (23, [some 11]), (24, []), (25, []), (31, [some 10]), (32, []), (33, [])] [(1, []), (5, [some 6]), (23, [some 11]), (24, []), (25, [])] K (n + 1) [.v (.int .i64 x0), .v (.sl 1), .v (.ptr 2 0 0), .v (.sl 3), .v (.int .i64 x4), .v (.int .i64 x5), .v (.sl 4), .v (.int .i64 x7), .v (.int .i64 x8)] [.rows 8 false xl0, .rows 6 true xl1, .cells 125 [.int .i64 xc2_0, .int .i64 xc2_1, .int .i64 xc2_2], .rows 11 true xl3, .rows 10 true xl4] = impl_NeedsFlows.L9 k x0 x4 x5 x7 xl0 xc2_0 xc2_1 xc2_2 xl3 xl4 (fun (zl1 : List T_impl_Flow) => K (.exit 2) (stOf [(1, []), (5, [some 6]), (23, [some 11]), (24, []), (25, [])] [.v (.int .i64 x0), .v (.sl 1), .v (.sl 2), .v (.int .i64 x4), .v (.int .i64 x5)] [.rows 8 false xl0, .rows 6 true zl1, .rows 11 true xl3])) (fun (x8' : Int) (xl1' : List T_impl_Flow) => loopN 1 (Code.den ti (impl_NeedsFlows.Γ k) (impl_NeedsFlows.LH k) (loopAt Tryz.f90 1)) [(1, []), (5, [some 6]), (9, []), (23, [some 11]), (24, []), (25, []), (31, [some 10]), (32, []), (33, [])] [(1, []), (5, [some 6]), (23, [some 11]), (24, []), (25, [])] K n [.v (.int .i64 x0), .v (.sl 1), .v (.ptr 2 0 0), .v (.sl 3), .v (.int .i64 x4), .v (.int .i64 x5), .v (.sl 4), .v (.int .i64 x7), .v (.int .i64 x8')] [.rows 8 false xl0, .rows 6 true xl1', .cells 125 [.int .i64 xc2_0, .int .i64 xc2_1, .int .i64 xc2_2], .rows 11 true xl3, .rows 10 true xl4]) x8 xl1 by kernel_rfl).trans (congrArg (fun rec => impl_NeedsFlows.L9 k x0 x4 x5 x7 xl0 xc2_0 xc2_1 xc2_2 xl3 xl4 (fun (zl1 : List T_impl_Flow) => K (.exit 2) (stOf [(1, []), (5, [some 6]), (23, [some 11]), (24, []), (25, [])] [.v (.int .i64 x0), .v (.sl 1), .v (.sl 2), .v (.int .i64 x4), .v (.int .i64 x5)] [.rows 8 false xl0, .rows 6 true zl1, .rows 11 true xl3])) rec x8 xl1) (funext fun x8' => funext fun xl1' => impl_NeedsFlows.e9 K k x0 x4 x5 x7 xl0 xc2_0 xc2_1 xc2_2 xl3 xl4 n x8' xl1'))
theorem impl_NeedsFlows.q9 (k : Nat) {R : Type} (K : Ex → St κ → Option R) (vs : List AV) (bs : List (Blk κ)) (r : R) (h : impl_NeedsFlows.h9 k K vs bs = some r) : ∃ n, loopN 1 (Code.den ti (impl_NeedsFlows.Γ k) (impl_NeedsFlows.LH k) (loopAt Tryz.f90 1)) [(1, []), (5, [some 6]), (9, []), (23, [some 11]), (24, []), (25, []), (31, [some 10]), (32, []), (33, [])] [(1, []), (5, [some 6]), (23, [some 11]), (24, []), (25, [])] K n vs bs = some r := by
  unfold impl_NeedsFlows.h9 at h
  split at h
  · obtain ⟨_, rfl, h_1⟩ := asO_bind h
    obtain ⟨_, rfl, h_2⟩ := asO_bind h_1
    obtain ⟨_, rfl, h_3⟩ := asO_bind h_2
    obtain ⟨_, rfl, h_4⟩ := asO_bind h_3
    exact ⟨k, (impl_NeedsFlows.e9 K k _ _ _ _ _ _ _ _ _ _ k _ _).trans h_4⟩
  · cases h
theorem impl_NeedsFlows.e6 {R : Type} (K : Ex → St κ → Option R) (k : Nat) (x0 : Int) (x3 : Int) (xl0 : List T_impl_Op) (xl2 : List T_impl_Sent) : ∀ (n : Nat) (x4 : Int) (xl1 : List T_impl_Flow), loopN 1 (Code.den ti (impl_NeedsFlows.Γ k) (impl_NeedsFlows.LH k) (loopAt Tryz.f90 0)) [(1, []), (5, [some 6]), (23, [some 11]), (24, []), (25, [])] [(5, [some 6])] K n [.v (.int .i64 x0), .v (.sl 1), .v (.sl 2), .v (.int .i64 x3), .v (.int .i64 x4)] [.rows 8 false xl0, .rows 6 true xl1, .rows 11 true xl2] = impl_NeedsFlows.l6 k x0 x3 xl0 xl2 (fun (zl1 : List T_impl_Flow) => K (.exit 0) (stOf [(5, [some 6])] [.v (.sl 1)] [.rows 8 false xl0, .rows 6 true zl1])) n x4 xl1
  | 0, _, _ => rfl
  | n + 1, x4, xl1 => (show loopN 1 (Code.den ti (impl_NeedsFlows.Γ k) (impl_NeedsFlows.LH k) (loopAt Tryz.f90 0)) [(1, []), (5, [some 6]), (23, [some 11]), (24, []), (25, [])] [(5, [some 6])] K (n + 1) [.v (.int .i64 x0), .v (.sl 1), .v (.sl 2), .v (.int .i64 x3), .v (.int .i64 x4)] [.rows 8 false xl0, .rows 6 true xl1, .rows 11 true xl2] = impl_NeedsFlows.L6 k x0 x3 xl0 xl2 (fun (zl1 : List T_impl_Flow) => K (.exit 0) (stOf [(5, [some 6])] [.v (.sl 1)] [.rows 8 false xl0, .rows 6 true zl1])) (fun (x4' : Int) (xl1' : List T_impl_Flow) => loopN 1 (Code.den ti (impl_NeedsFlows.Γ k) (impl_NeedsFlows.LH k) (loopAt Tryz.f90 0)) [(1, []), (5, [some 6]), (23, [some 11]), (24, []), (25, [])] [(5, [some 6])] K n [.v (.int .i64 x0), .v (.sl 1), .v (.sl 2), .v (.int .i64 x3), .v (.int .i64 x4')] [.rows 8 false xl0, .rows 6 true xl1', .rows 11 true xl2]) x4 xl1 by kernel_rfl).trans (congrArg (fun rec => impl_NeedsFlows.L6 k x0 x3 xl0 xl2 (fun (zl1 : List T_impl_Flow) => K (.exit 0) (stOf [(5, [some 6])] [.v (.sl 1)] [.rows 8 false xl0, .rows 6 true zl1])) rec x4 xl1) (funext fun x4' => funext fun xl1' => impl_NeedsFlows.e6 K k x0 x3 xl0 xl2 n x4' xl1'))
theorem impl_NeedsFlows.q6 (k : Nat) {R : Type} (K : Ex → St κ → Option R) (vs : List AV) (bs : List (Blk κ)) (r : R) (h : impl_NeedsFlows.h6 k K vs bs = some r) : ∃ n, loopN 1 (Code.den ti (impl_NeedsFlows.Γ k) (impl_NeedsFlows.LH k) (loopAt Tryz.f90 0)) [(1, []), (5, [some 6]), (23, [some 11]), (24, []), (25, [])] [(5, [some 6])] K n vs bs = some r := by
  unfold impl_NeedsFlows.h6 at h
  split at h
  · obtain ⟨_, rfl, h_1⟩ := asO_bind h
    obtain ⟨_, rfl, h_2⟩ := asO_bind h_1
    obtain ⟨_, rfl, h_3⟩ := asO_bind h_2
    exact ⟨k, (impl_NeedsFlows.e6 K k _ _ _ _ k _ _).trans h_3⟩
  · cases h
theorem impl_NeedsFlows.lok (k : Nat) : LOK ti (impl_NeedsFlows.Γ k) (impl_NeedsFlows.LH k) 1 (loopsOf (bodyOf Tryz.f90)) :=
  (show loopsOf (bodyOf Tryz.f90) = [loopAt Tryz.f90 0, loopAt Tryz.f90 1] by kernel_rfl) ▸ (LOK_cons (g := ⟨1, [(1, []), (5, [some 6]), (23, [some 11]), (24, []), (25, [])], [(5, [some 6])], @impl_NeedsFlows.h6 k⟩) (by kernel_rfl) rfl (fun K vs xs r h => impl_NeedsFlows.q6 k K vs xs r h) (LOK_cons (g := ⟨1, [(1, []), (5, [some 6]), (9, []), (23, [some 11]), (24, []), (25, []), (31, [some 10]), (32, []), (33, [])], [(1, []), (5, [some 6]), (23, [some 11]), (24, []), (25, [])], @impl_NeedsFlows.h9 k⟩) (by kernel_rfl) rfl (fun K vs xs r h => impl_NeedsFlows.q9 k K vs xs r h) (LOK_nil)))
def impl_NeedsFlows.sig : List PSh := [.one (.ro 8), .one .sc]
def impl_NeedsFlows.g (y : List T_impl_Flow) : Ret κ := ⟨.v (.sl 1), [], [.rows 6 true y]⟩
def impl_NeedsFlows.out (r : Ret κ) : Option (List T_impl_Flow) :=
  match r with
  | ⟨.v (.sl 1), [], [q0]⟩ => (asO 6 true q0).bind fun z0 => some (z0)
  | _ => none
theorem impl_NeedsFlows.out_ok (r : Ret κ) (y : List T_impl_Flow) (h : impl_NeedsFlows.out r = some y) : r = impl_NeedsFlows.g y := by
  unfold impl_NeedsFlows.out at h
  split at h
  · obtain ⟨_, rfl, h_1⟩ := asO_bind h
    obtain rfl := Option.some.inj h_1
    rfl
  · cases h
def impl_NeedsFlows.body (k : Nat) (vs : List AV) (bs : List (Blk κ)) : Option (Lf κ) :=
  match vs, bs with
  | [.v (.sl 0), .v (.int .i64 a1)], [qb0] => (asO 8 false qb0).bind fun a0 => some ⟨List T_impl_Flow, impl_NeedsFlows.f k a0 a1, impl_NeedsFlows.g⟩
  | _, _ => none
def impl_NeedsFlows.C (k : Nat) : Nat → List AV → AP κ AV := contract impl_NeedsFlows.sig (impl_NeedsFlows.body k)
theorem impl_NeedsFlows.den (k : Nat) (a0 : List T_impl_Op) (a1 : Int) : Code.den ti (impl_NeedsFlows.Γ k) (impl_NeedsFlows.LH k) (bodyOf Tryz.f90) (finK ti Tryz.f90.results.toList [(4, [some 6])] (flags impl_NeedsFlows.sig).length (rwI (flags impl_NeedsFlows.sig) 0) impl_NeedsFlows.out) ⟨envOf (([.v (.sl 0), .v (.int .i64 a1)]).zipIdx.map fun q => (q.2, q.1)), hpOf [.rows 8 false a0], (flags impl_NeedsFlows.sig).length⟩ = impl_NeedsFlows.f k a0 a1 := by kernel_rfl
theorem impl_NeedsFlows.ok (k : Nat) : CSound Tryz.prog 90 (impl_NeedsFlows.C k) :=
  csound κ_ok mixed tok (impl_NeedsFlows.hΓ k) (LH := impl_NeedsFlows.LH k) (fn := Tryz.f90) (c := bodyOf Tryz.f90) Tryz.func90 rfl Tryz.call90 impl_NeedsFlows.sig [(4, [some 6])] (impl_NeedsFlows.body k) (by kernel_rfl) (impl_NeedsFlows.lok k) (by decide) fun vs bs lf y hl hb hy => by
    unfold impl_NeedsFlows.body at hb
    split at hb
    · obtain ⟨_, rfl, hb_1⟩ := asO_bind hb
      obtain rfl := Option.some.inj hb_1
      exact ⟨impl_NeedsFlows.out, impl_NeedsFlows.out_ok, (impl_NeedsFlows.den k _ _).trans hy⟩
    · cases hb
/-! ### impl_FlowsWithin -/
def impl_FlowsWithin.L2 {R : Type} (k : Nat) (x2 : Int) (xl0 : List T_impl_Flow) (xl1 : List T_impl_Flow) (X0 : Bool → Option R) (X1 : Unit → Option R) (rec : Int → Option R) (x3 : Int) : Option R :=
  (bif decide (x3 < x2) then (bif decide (0 ≤ x3) then (bif decide (x3 < (xl0.length : Int)) then (impl_IsFlow.f k ((rd_impl_Flow xl0 x3).f0) ((rd_impl_Flow xl0 x3).f1) ((rd_impl_Flow xl0 x3).f2)).bind fun t1 => (bif !t1 then (X0 false) else (slices_Contains_Flow.f k xl1 ((rd_impl_Flow xl0 x3).f0) ((rd_impl_Flow xl0 x3).f1) ((rd_impl_Flow xl0 x3).f2)).bind fun t2 => (bif !t2 then (X0 false) else (rec (w64 (x3 + (1 : Int)))))) else none) else none) else (X1 ()))
def impl_FlowsWithin.l2 {R : Type} (k : Nat) (x2 : Int) (xl0 : List T_impl_Flow) (xl1 : List T_impl_Flow) (X0 : Bool → Option R) (X1 : Unit → Option R) : Nat → Int → Option R
  | 0 => fun _ => none
  | n + 1 => impl_FlowsWithin.L2 k x2 xl0 xl1 X0 X1 (impl_FlowsWithin.l2 k x2 xl0 xl1 X0 X1 n)
def impl_FlowsWithin.f (k : Nat) (a0 : List T_impl_Flow) (a1 : List T_impl_Flow) : Option Bool :=
  (impl_FlowsWithin.l2 k (a0.length : Int) a0 a1 (fun (y3 : Bool) => some y3) (fun (_ : Unit) => some true) k (0 : Int))
def impl_FlowsWithin.h2 (k : Nat) {R : Type} (K : Ex → St κ → Option R) (vs : List AV) (bs : List (Blk κ)) : Option R :=
  match vs, bs with
  | [.v (.sl 1), .v (.sl 0), .v (.int .i64 x2), .v (.int .i64 x3)], [qb0, qb1] => (asO 6 false qb0).bind fun xl0 => (asO 6 false qb1).bind fun xl1 => impl_FlowsWithin.l2 k x2 xl0 xl1 (fun (z0 : Bool) => K .ret (stOf [(4, [])] [.v (.bool z0)] [.rows 6 false xl0, .rows 6 false xl1])) (fun (_ : Unit) => K (.exit 0) (stOf [(4, [])] [.v .any] [.rows 6 false xl0, .rows 6 false xl1])) k x3
  | _, _ => none
def impl_FlowsWithin.Γ (k : Nat) : Ct κ := assoc [(78, impl_IsFlow.C k), (79, slices_Contains_Flow.C k)]
def impl_FlowsWithin.LH (k : Nat) : Nat → Option (LHi κ) := assoc [(2, ⟨2, [(1, [some 6]), (7, [some 6]), (8, []), (9, [])], [(4, [])], @impl_FlowsWithin.h2 k⟩)]
theorem impl_FlowsWithin.hΓ (k : Nat) : ∀ f g, impl_FlowsWithin.Γ k f = some g → CSound Tryz.prog f g := G_cons (impl_IsFlow.ok k) (G_cons (slices_Contains_Flow.ok k) G_nil)
theorem impl_FlowsWithin.e2 {R : Type} (K : Ex → St κ → Option R) (k : Nat) (x2 : Int) (xl0 : List T_impl_Flow) (xl1 : List T_impl_Flow) : ∀ (n : Nat) (x3 : Int), loopN 2 (Code.den ti (impl_FlowsWithin.Γ k) (impl_FlowsWithin.LH k) (loopAt Tryz.f28 0)) [(1, [some 6]), (7, [some 6]), (8, []), (9, [])] [(4, [])] K n [.v (.sl 1), .v (.sl 0), .v (.int .i64 x2), .v (.int .i64 x3)] [.rows 6 false xl0, .rows 6 false xl1] = impl_FlowsWithin.l2 k x2 xl0 xl1 (fun (z0 : Bool) => K .ret (stOf [(4, [])] [.v (.bool z0)] [.rows 6 false xl0, .rows 6 false xl1])) (fun (_ : Unit) => K (.exit 0) (stOf [(4, [])] [.v .any] [.rows 6 false xl0, .rows 6 false xl1])) n x3
  | 0, _ => rfl
  | n + 1, x3 => (show loopN 2 (Code.den ti (impl_FlowsWithin.Γ k) (impl_FlowsWithin.LH k) (loopAt Tryz.f28 0)) [(1, [some 6]), (7, [some 6]), (8, []), (9, [])] [(4, [])] K (n + 1) [.v (.sl 1), .v (.sl 0), .v (.int .i64 x2), .v (.int .i64 x3)] [.rows 6 false xl0, .rows 6 false xl1] = impl_FlowsWithin.L2 k x2 xl0 xl1 (fun (z0 : Bool) => K .ret (stOf [(4, [])] [.v (.bool z0)] [.rows 6 false xl0, .rows 6 false xl1])) (fun (_ : Unit) => K (.exit 0) (stOf [(4, [])] [.v .any] [.rows 6 false xl0, .rows 6 false xl1])) (fun (x3' : Int) => loopN 2 (Code.den ti (impl_FlowsWithin.Γ k) (impl_FlowsWithin.LH k) (loopAt Tryz.f28 0)) [(1, [some 6]), (7, [some 6]), (8, []), (9, [])] [(4, [])] K n [.v (.sl 1), .v (.sl 0), .v (.int .i64 x2), .v (.int .i64 x3')] [.rows 6 false xl0, .rows 6 false xl1]) x3 by kernel_rfl).trans (congrArg (fun rec => impl_FlowsWithin.L2 k x2 xl0 xl1 (fun (z0 : Bool) => K .ret (stOf [(4, [])] [.v (.bool z0)] [.rows 6 false xl0, .rows 6 false xl1])) (fun (_ : Unit) => K (.exit 0) (stOf [(4, [])] [.v .any] [.rows 6 false xl0, .rows 6 false xl1])) rec x3) (funext fun x3' => impl_FlowsWithin.e2 K k x2 xl0 xl1 n x3'))
theorem impl_FlowsWithin.q2 (k : Nat) {R : Type} (K : Ex → St κ → Option R) (vs : List AV) (bs : List (Blk κ)) (r : R) (h : impl_FlowsWithin.h2 k K vs bs = some r) : ∃ n, loopN 2 (Code.den ti (impl_FlowsWithin.Γ k) (impl_FlowsWithin.LH k) (loopAt Tryz.f28 0)) [(1, [some 6]), (7, [some 6]), (8, []), (9, [])] [(4, [])] K n vs bs = some r := by
  unfold impl_FlowsWithin.h2 at h
  split at h
  · obtain ⟨_, rfl, h_1⟩ := asO_bind h
    obtain ⟨_, rfl, h_2⟩ := asO_bind h_1
    exact ⟨k, (impl_FlowsWithin.e2 K k _ _ _ k _).trans h_2⟩
  · cases h
theorem impl_FlowsWithin.lok (k : Nat) : LOK ti (impl_FlowsWithin.Γ k) (impl_FlowsWithin.LH k) 2 (loopsOf (bodyOf Tryz.f28)) :=
  (show loopsOf (bodyOf Tryz.f28) = [loopAt Tryz.f28 0] by kernel_rfl) ▸ (LOK_cons (g := ⟨2, [(1, [some 6]), (7, [some 6]), (8, []), (9, [])], [(4, [])], @impl_FlowsWithin.h2 k⟩) (by kernel_rfl) rfl (fun K vs xs r h => impl_FlowsWithin.q2 k K vs xs r h) (LOK_nil))
def impl_FlowsWithin.sig : List PSh := [.one (.ro 6), .one (.ro 6)]
def impl_FlowsWithin.g (y : Bool) : Ret κ := ⟨.v (.bool y), [], []⟩
def impl_FlowsWithin.out (r : Ret κ) : Option Bool :=
  match r with
  | ⟨.v (.bool z0), [], []⟩ => some (z0)
  | _ => none
theorem impl_FlowsWithin.out_ok (r : Ret κ) (y : Bool) (h : impl_FlowsWithin.out r = some y) : r = impl_FlowsWithin.g y := by
  unfold impl_FlowsWithin.out at h
  split at h
  · obtain rfl := Option.some.inj h
    rfl
  · cases h
def impl_FlowsWithin.body (k : Nat) (vs : List AV) (bs : List (Blk κ)) : Option (Lf κ) :=
  match vs, bs with
  | [.v (.sl 0), .v (.sl 1)], [qb0, qb1] => (asO 6 false qb0).bind fun a0 => (asO 6 false qb1).bind fun a1 => some ⟨Bool, impl_FlowsWithin.f k a0 a1, impl_FlowsWithin.g⟩
  | _, _ => none
def impl_FlowsWithin.C (k : Nat) : Nat → List AV → AP κ AV := contract impl_FlowsWithin.sig (impl_FlowsWithin.body k)
theorem impl_FlowsWithin.den (k : Nat) (a0 : List T_impl_Flow) (a1 : List T_impl_Flow) : Code.den ti (impl_FlowsWithin.Γ k) (impl_FlowsWithin.LH k) (bodyOf Tryz.f28) (finK ti Tryz.f28.results.toList [] (flags impl_FlowsWithin.sig).length (rwI (flags impl_FlowsWithin.sig) 0) impl_FlowsWithin.out) ⟨envOf (([.v (.sl 0), .v (.sl 1)]).zipIdx.map fun q => (q.2, q.1)), hpOf [.rows 6 false a0, .rows 6 false a1], (flags impl_FlowsWithin.sig).length⟩ = impl_FlowsWithin.f k a0 a1 := by kernel_rfl
theorem impl_FlowsWithin.ok (k : Nat) : CSound Tryz.prog 28 (impl_FlowsWithin.C k) :=
  csound κ_ok mixed tok (impl_FlowsWithin.hΓ k) (LH := impl_FlowsWithin.LH k) (fn := Tryz.f28) (c := bodyOf Tryz.f28) Tryz.func28 rfl Tryz.call28 impl_FlowsWithin.sig [] (impl_FlowsWithin.body k) (by kernel_rfl) (impl_FlowsWithin.lok k) (by decide) fun vs bs lf y hl hb hy => by
    unfold impl_FlowsWithin.body at hb
    split at hb
    · obtain ⟨_, rfl, hb_1⟩ := asO_bind hb
      obtain ⟨_, rfl, hb_2⟩ := asO_bind hb_1
      obtain rfl := Option.some.inj hb_2
      exact ⟨impl_FlowsWithin.out, impl_FlowsWithin.out_ok, (impl_FlowsWithin.den k _ _).trans hy⟩
    · cases hb
/-! ### impl_IsTightFor -/
def impl_IsTightFor.f (k : Nat) (a0 : List T_impl_Op) (a1 : List T_impl_Flow) (a2 : Int) : Option Bool :=
  (impl_AreOps.f k a0).bind fun t1 => (bif t1 then (impl_NeedsFlows.f k a0 a2).bind fun t2 => (impl_FlowsWithin.f k t2 a1).bind fun t3 => some t3 else some false)
def impl_IsTightFor.Γ (k : Nat) : Ct κ := assoc [(89, impl_AreOps.C k), (90, impl_NeedsFlows.C k), (28, impl_FlowsWithin.C k)]
def impl_IsTightFor.LH (k : Nat) : Nat → Option (LHi κ) := assoc []
theorem impl_IsTightFor.hΓ (k : Nat) : ∀ f g, impl_IsTightFor.Γ k f = some g → CSound Tryz.prog f g := G_cons (impl_AreOps.ok k) (G_cons (impl_NeedsFlows.ok k) (G_cons (impl_FlowsWithin.ok k) G_nil))
theorem impl_IsTightFor.lok (k : Nat) : LOK ti (impl_IsTightFor.Γ k) (impl_IsTightFor.LH k) 2 (loopsOf (bodyOf Tryz.f35)) :=
  (show loopsOf (bodyOf Tryz.f35) = [] by kernel_rfl) ▸ LOK_nil
def impl_IsTightFor.sig : List PSh := [.one (.ro 8), .one (.ro 6), .one .sc]
def impl_IsTightFor.g (y : Bool) : Ret κ := ⟨.v (.bool y), [], []⟩
def impl_IsTightFor.out (r : Ret κ) : Option Bool :=
  match r with
  | ⟨.v (.bool z0), [], []⟩ => some (z0)
  | _ => none
theorem impl_IsTightFor.out_ok (r : Ret κ) (y : Bool) (h : impl_IsTightFor.out r = some y) : r = impl_IsTightFor.g y := by
  unfold impl_IsTightFor.out at h
  split at h
  · obtain rfl := Option.some.inj h
    rfl
  · cases h
def impl_IsTightFor.body (k : Nat) (vs : List AV) (bs : List (Blk κ)) : Option (Lf κ) :=
  match vs, bs with
  | [.v (.sl 0), .v (.sl 1), .v (.int .i64 a2)], [qb0, qb1] => (asO 8 false qb0).bind fun a0 => (asO 6 false qb1).bind fun a1 => some ⟨Bool, impl_IsTightFor.f k a0 a1 a2, impl_IsTightFor.g⟩
  | _, _ => none
def impl_IsTightFor.C (k : Nat) : Nat → List AV → AP κ AV := contract impl_IsTightFor.sig (impl_IsTightFor.body k)
theorem impl_IsTightFor.den (k : Nat) (a0 : List T_impl_Op) (a1 : List T_impl_Flow) (a2 : Int) : Code.den ti (impl_IsTightFor.Γ k) (impl_IsTightFor.LH k) (bodyOf Tryz.f35) (finK ti Tryz.f35.results.toList [] (flags impl_IsTightFor.sig).length (rwI (flags impl_IsTightFor.sig) 0) impl_IsTightFor.out) ⟨envOf (([.v (.sl 0), .v (.sl 1), .v (.int .i64 a2)]).zipIdx.map fun q => (q.2, q.1)), hpOf [.rows 8 false a0, .rows 6 false a1], (flags impl_IsTightFor.sig).length⟩ = impl_IsTightFor.f k a0 a1 a2 := by kernel_rfl
theorem impl_IsTightFor.ok (k : Nat) : CSound Tryz.prog 35 (impl_IsTightFor.C k) :=
  csound κ_ok mixed tok (impl_IsTightFor.hΓ k) (LH := impl_IsTightFor.LH k) (fn := Tryz.f35) (c := bodyOf Tryz.f35) Tryz.func35 rfl Tryz.call35 impl_IsTightFor.sig [] (impl_IsTightFor.body k) (by kernel_rfl) (impl_IsTightFor.lok k) (by decide) fun vs bs lf y hl hb hy => by
    unfold impl_IsTightFor.body at hb
    split at hb
    · obtain ⟨_, rfl, hb_1⟩ := asO_bind hb
      obtain ⟨_, rfl, hb_2⟩ := asO_bind hb_1
      obtain rfl := Option.some.inj hb_2
      exact ⟨impl_IsTightFor.out, impl_IsTightFor.out_ok, (impl_IsTightFor.den k _ _ _).trans hy⟩
    · cases hb
/-! ### impl_ReviewPackage -/
def impl_ReviewPackage.L6 {R : Type} (k : Nat) (x2 : Int) (xl0 : List T_impl_Grant) (xl1 : List T_impl_Flow) (xl2 : List T_impl_Rule) (xl3 : List T_impl_Op) (xc4_0 : Int) (xc4_1 : Int) (xc4_2 : Int) (xc4_7 : Int) (X0 : Int → Option R) (X1 : Unit → Option R) (rec : Int → Option R) (x3 : Int) : Option R :=
  (bif decide (x3 < x2) then (bif decide (0 ≤ x3) then (bif decide (x3 < (xl2.length : Int)) then (impl_covered.f k xl0 ((rd_impl_Rule xl2 x3).f2.f0) ((rd_impl_Rule xl2 x3).f2.f1)).bind fun t3 => (bif !t3 then (X0 (3 : Int)) else (rec (w64 (x3 + (1 : Int))))) else none) else none) else (X1 ()))
def impl_ReviewPackage.l6 {R : Type} (k : Nat) (x2 : Int) (xl0 : List T_impl_Grant) (xl1 : List T_impl_Flow) (xl2 : List T_impl_Rule) (xl3 : List T_impl_Op) (xc4_0 : Int) (xc4_1 : Int) (xc4_2 : Int) (xc4_7 : Int) (X0 : Int → Option R) (X1 : Unit → Option R) : Nat → Int → Option R
  | 0 => fun _ => none
  | n + 1 => impl_ReviewPackage.L6 k x2 xl0 xl1 xl2 xl3 xc4_0 xc4_1 xc4_2 xc4_7 X0 X1 (impl_ReviewPackage.l6 k x2 xl0 xl1 xl2 xl3 xc4_0 xc4_1 xc4_2 xc4_7 X0 X1 n)
def impl_ReviewPackage.f (k : Nat) (a0 : Int) (a1_0 : Int) (a1_1 : Int) (a1_2 : Int) (a1_3 : List T_impl_Grant) (a1_4 : List T_impl_Flow) (a1_5 : List T_impl_Rule) (a1_6 : List T_impl_Op) (a1_7 : Int) : Option Int :=
  (impl_IsPackage.f k a1_0 a1_1 a1_2 a1_3 a1_4 a1_5 a1_6 a1_7).bind fun t1 => (bif !t1 then some (1 : Int) else (impl_IsSealed.f k a0 a1_0 a1_1 a1_2 a1_3 a1_4 a1_5 a1_6 a1_7).bind fun t2 => (bif !t2 then some (2 : Int) else (impl_ReviewPackage.l6 k (a1_5.length : Int) a1_3 a1_4 a1_5 a1_6 a1_0 a1_1 a1_2 a1_7 (fun (y4 : Int) => some y4) (fun (_ : Unit) => (impl_OwnersRead.f k a1_6).bind fun t5 => (impl_allGranted.f k a1_3 (1 : Int) t5).bind fun t6 => (bif !t6 then some (4 : Int) else (impl_OwnersSent.f k a1_6).bind fun t7 => (impl_allGranted.f k a1_3 (3 : Int) t7).bind fun t8 => (bif !t8 then some (5 : Int) else (impl_IsTightFor.f k a1_6 a1_4 a1_0).bind fun t9 => (bif !t9 then some (6 : Int) else some (0 : Int))))) k (0 : Int))))
def impl_ReviewPackage.h6 (k : Nat) {R : Type} (K : Ex → St κ → Option R) (vs : List AV) (bs : List (Blk κ)) : Option R :=
  match vs, bs with
  | [.v (.ptr 4 0 0), .v (.sl 2), .v (.int .i64 x2), .v (.int .i64 x3)], [qb0, qb1, qb2, qb3, .cells 39 [.int .i64 xc4_0, .int .i64 xc4_1, .int .i64 xc4_2, .sl 0, .sl 1, .sl 2, .sl 3, .int .i64 xc4_7]] => (asO 5 false qb0).bind fun xl0 => (asO 6 false qb1).bind fun xl1 => (asO 7 false qb2).bind fun xl2 => (asO 8 false qb3).bind fun xl3 => impl_ReviewPackage.l6 k x2 xl0 xl1 xl2 xl3 xc4_0 xc4_1 xc4_2 xc4_7 (fun (z1 : Int) => K .ret (stOf [(3, [none, none, none, some 5, some 6, some 7, some 8, none]), (4, [])] [.v (.ptr 4 0 0), .v (.int .i64 z1)] [.rows 5 false xl0, .rows 6 false xl1, .rows 7 false xl2, .rows 8 false xl3, .cells 39 [.int .i64 xc4_0, .int .i64 xc4_1, .int .i64 xc4_2, .sl 0, .sl 1, .sl 2, .sl 3, .int .i64 xc4_7]])) (fun (_ : Unit) => K (.exit 0) (stOf [(3, [none, none, none, some 5, some 6, some 7, some 8, none]), (4, [])] [.v (.ptr 4 0 0), .v .any] [.rows 5 false xl0, .rows 6 false xl1, .rows 7 false xl2, .rows 8 false xl3, .cells 39 [.int .i64 xc4_0, .int .i64 xc4_1, .int .i64 xc4_2, .sl 0, .sl 1, .sl 2, .sl 3, .int .i64 xc4_7]])) k x3
  | _, _ => none
def impl_ReviewPackage.Γ (k : Nat) : Ct κ := assoc [(53, impl_IsPackage.C k), (34, impl_IsSealed.C k), (74, impl_covered.C k), (36, impl_OwnersRead.C k), (75, impl_allGranted.C k), (38, impl_OwnersSent.C k), (35, impl_IsTightFor.C k)]
def impl_ReviewPackage.LH (k : Nat) : Nat → Option (LHi κ) := assoc [(6, ⟨4, [(3, [none, none, none, some 5, some 6, some 7, some 8, none]), (15, [some 7]), (16, []), (17, [])], [(3, [none, none, none, some 5, some 6, some 7, some 8, none]), (4, [])], @impl_ReviewPackage.h6 k⟩)]
theorem impl_ReviewPackage.hΓ (k : Nat) : ∀ f g, impl_ReviewPackage.Γ k f = some g → CSound Tryz.prog f g := G_cons (impl_IsPackage.ok k) (G_cons (impl_IsSealed.ok k) (G_cons (impl_covered.ok k) (G_cons (impl_OwnersRead.ok k) (G_cons (impl_allGranted.ok k) (G_cons (impl_OwnersSent.ok k) (G_cons (impl_IsTightFor.ok k) G_nil))))))
theorem impl_ReviewPackage.e6 {R : Type} (K : Ex → St κ → Option R) (k : Nat) (x2 : Int) (xl0 : List T_impl_Grant) (xl1 : List T_impl_Flow) (xl2 : List T_impl_Rule) (xl3 : List T_impl_Op) (xc4_0 : Int) (xc4_1 : Int) (xc4_2 : Int) (xc4_7 : Int) : ∀ (n : Nat) (x3 : Int), loopN 4 (Code.den ti (impl_ReviewPackage.Γ k) (impl_ReviewPackage.LH k) (loopAt Tryz.f26 0)) [(3, [none, none, none, some 5, some 6, some 7, some 8, none]), (15, [some 7]), (16, []), (17, [])] [(3, [none, none, none, some 5, some 6, some 7, some 8, none]), (4, [])] K n [.v (.ptr 4 0 0), .v (.sl 2), .v (.int .i64 x2), .v (.int .i64 x3)] [.rows 5 false xl0, .rows 6 false xl1, .rows 7 false xl2, .rows 8 false xl3, .cells 39 [.int .i64 xc4_0, .int .i64 xc4_1, .int .i64 xc4_2, .sl 0, .sl 1, .sl 2, .sl 3, .int .i64 xc4_7]] = impl_ReviewPackage.l6 k x2 xl0 xl1 xl2 xl3 xc4_0 xc4_1 xc4_2 xc4_7 (fun (z1 : Int) => K .ret (stOf [(3, [none, none, none, some 5, some 6, some 7, some 8, none]), (4, [])] [.v (.ptr 4 0 0), .v (.int .i64 z1)] [.rows 5 false xl0, .rows 6 false xl1, .rows 7 false xl2, .rows 8 false xl3, .cells 39 [.int .i64 xc4_0, .int .i64 xc4_1, .int .i64 xc4_2, .sl 0, .sl 1, .sl 2, .sl 3, .int .i64 xc4_7]])) (fun (_ : Unit) => K (.exit 0) (stOf [(3, [none, none, none, some 5, some 6, some 7, some 8, none]), (4, [])] [.v (.ptr 4 0 0), .v .any] [.rows 5 false xl0, .rows 6 false xl1, .rows 7 false xl2, .rows 8 false xl3, .cells 39 [.int .i64 xc4_0, .int .i64 xc4_1, .int .i64 xc4_2, .sl 0, .sl 1, .sl 2, .sl 3, .int .i64 xc4_7]])) n x3
  | 0, _ => rfl
  | n + 1, x3 => (show loopN 4 (Code.den ti (impl_ReviewPackage.Γ k) (impl_ReviewPackage.LH k) (loopAt Tryz.f26 0)) [(3, [none, none, none, some 5, some 6, some 7, some 8, none]), (15, [some 7]), (16, []), (17, [])] [(3, [none, none, none, some 5, some 6, some 7, some 8, none]), (4, [])] K (n + 1) [.v (.ptr 4 0 0), .v (.sl 2), .v (.int .i64 x2), .v (.int .i64 x3)] [.rows 5 false xl0, .rows 6 false xl1, .rows 7 false xl2, .rows 8 false xl3, .cells 39 [.int .i64 xc4_0, .int .i64 xc4_1, .int .i64 xc4_2, .sl 0, .sl 1, .sl 2, .sl 3, .int .i64 xc4_7]] = impl_ReviewPackage.L6 k x2 xl0 xl1 xl2 xl3 xc4_0 xc4_1 xc4_2 xc4_7 (fun (z1 : Int) => K .ret (stOf [(3, [none, none, none, some 5, some 6, some 7, some 8, none]), (4, [])] [.v (.ptr 4 0 0), .v (.int .i64 z1)] [.rows 5 false xl0, .rows 6 false xl1, .rows 7 false xl2, .rows 8 false xl3, .cells 39 [.int .i64 xc4_0, .int .i64 xc4_1, .int .i64 xc4_2, .sl 0, .sl 1, .sl 2, .sl 3, .int .i64 xc4_7]])) (fun (_ : Unit) => K (.exit 0) (stOf [(3, [none, none, none, some 5, some 6, some 7, some 8, none]), (4, [])] [.v (.ptr 4 0 0), .v .any] [.rows 5 false xl0, .rows 6 false xl1, .rows 7 false xl2, .rows 8 false xl3, .cells 39 [.int .i64 xc4_0, .int .i64 xc4_1, .int .i64 xc4_2, .sl 0, .sl 1, .sl 2, .sl 3, .int .i64 xc4_7]])) (fun (x3' : Int) => loopN 4 (Code.den ti (impl_ReviewPackage.Γ k) (impl_ReviewPackage.LH k) (loopAt Tryz.f26 0)) [(3, [none, none, none, some 5, some 6, some 7, some 8, none]), (15, [some 7]), (16, []), (17, [])] [(3, [none, none, none, some 5, some 6, some 7, some 8, none]), (4, [])] K n [.v (.ptr 4 0 0), .v (.sl 2), .v (.int .i64 x2), .v (.int .i64 x3')] [.rows 5 false xl0, .rows 6 false xl1, .rows 7 false xl2, .rows 8 false xl3, .cells 39 [.int .i64 xc4_0, .int .i64 xc4_1, .int .i64 xc4_2, .sl 0, .sl 1, .sl 2, .sl 3, .int .i64 xc4_7]]) x3 by kernel_rfl).trans (congrArg (fun rec => impl_ReviewPackage.L6 k x2 xl0 xl1 xl2 xl3 xc4_0 xc4_1 xc4_2 xc4_7 (fun (z1 : Int) => K .ret (stOf [(3, [none, none, none, some 5, some 6, some 7, some 8, none]), (4, [])] [.v (.ptr 4 0 0), .v (.int .i64 z1)] [.rows 5 false xl0, .rows 6 false xl1, .rows 7 false xl2, .rows 8 false xl3, .cells 39 [.int .i64 xc4_0, .int .i64 xc4_1, .int .i64 xc4_2, .sl 0, .sl 1, .sl 2, .sl 3, .int .i64 xc4_7]])) (fun (_ : Unit) => K (.exit 0) (stOf [(3, [none, none, none, some 5, some 6, some 7, some 8, none]), (4, [])] [.v (.ptr 4 0 0), .v .any] [.rows 5 false xl0, .rows 6 false xl1, .rows 7 false xl2, .rows 8 false xl3, .cells 39 [.int .i64 xc4_0, .int .i64 xc4_1, .int .i64 xc4_2, .sl 0, .sl 1, .sl 2, .sl 3, .int .i64 xc4_7]])) rec x3) (funext fun x3' => impl_ReviewPackage.e6 K k x2 xl0 xl1 xl2 xl3 xc4_0 xc4_1 xc4_2 xc4_7 n x3'))
theorem impl_ReviewPackage.q6 (k : Nat) {R : Type} (K : Ex → St κ → Option R) (vs : List AV) (bs : List (Blk κ)) (r : R) (h : impl_ReviewPackage.h6 k K vs bs = some r) : ∃ n, loopN 4 (Code.den ti (impl_ReviewPackage.Γ k) (impl_ReviewPackage.LH k) (loopAt Tryz.f26 0)) [(3, [none, none, none, some 5, some 6, some 7, some 8, none]), (15, [some 7]), (16, []), (17, [])] [(3, [none, none, none, some 5, some 6, some 7, some 8, none]), (4, [])] K n vs bs = some r := by
  unfold impl_ReviewPackage.h6 at h
  split at h
  · obtain ⟨_, rfl, h_1⟩ := asO_bind h
    obtain ⟨_, rfl, h_2⟩ := asO_bind h_1
    obtain ⟨_, rfl, h_3⟩ := asO_bind h_2
    obtain ⟨_, rfl, h_4⟩ := asO_bind h_3
    exact ⟨k, (impl_ReviewPackage.e6 K k _ _ _ _ _ _ _ _ _ k _).trans h_4⟩
  · cases h
theorem impl_ReviewPackage.lok (k : Nat) : LOK ti (impl_ReviewPackage.Γ k) (impl_ReviewPackage.LH k) 4 (loopsOf (bodyOf Tryz.f26)) :=
  (show loopsOf (bodyOf Tryz.f26) = [loopAt Tryz.f26 0] by kernel_rfl) ▸ (LOK_cons (g := ⟨4, [(3, [none, none, none, some 5, some 6, some 7, some 8, none]), (15, [some 7]), (16, []), (17, [])], [(3, [none, none, none, some 5, some 6, some 7, some 8, none]), (4, [])], @impl_ReviewPackage.h6 k⟩) (by kernel_rfl) rfl (fun K vs xs r h => impl_ReviewPackage.q6 k K vs xs r h) (LOK_nil))
def impl_ReviewPackage.sig : List PSh := [.one .sc, .agg [.sc, .sc, .sc, .ro 5, .ro 6, .ro 7, .ro 8, .sc]]
def impl_ReviewPackage.g (y : Int) : Ret κ := ⟨.v (.int .i64 y), [], []⟩
def impl_ReviewPackage.out (r : Ret κ) : Option Int :=
  match r with
  | ⟨.v (.int .i64 z0), [], []⟩ => some (z0)
  | _ => none
theorem impl_ReviewPackage.out_ok (r : Ret κ) (y : Int) (h : impl_ReviewPackage.out r = some y) : r = impl_ReviewPackage.g y := by
  unfold impl_ReviewPackage.out at h
  split at h
  · obtain rfl := Option.some.inj h
    rfl
  · cases h
def impl_ReviewPackage.body (k : Nat) (vs : List AV) (bs : List (Blk κ)) : Option (Lf κ) :=
  match vs, bs with
  | [.v (.int .i64 a0), .agg [.int .i64 a1_0, .int .i64 a1_1, .int .i64 a1_2, .sl 0, .sl 1, .sl 2, .sl 3, .int .i64 a1_7]], [qb0, qb1, qb2, qb3] => (asO 5 false qb0).bind fun a1_3 => (asO 6 false qb1).bind fun a1_4 => (asO 7 false qb2).bind fun a1_5 => (asO 8 false qb3).bind fun a1_6 => some ⟨Int, impl_ReviewPackage.f k a0 a1_0 a1_1 a1_2 a1_3 a1_4 a1_5 a1_6 a1_7, impl_ReviewPackage.g⟩
  | _, _ => none
def impl_ReviewPackage.C (k : Nat) : Nat → List AV → AP κ AV := contract impl_ReviewPackage.sig (impl_ReviewPackage.body k)
theorem impl_ReviewPackage.den (k : Nat) (a0 : Int) (a1_0 : Int) (a1_1 : Int) (a1_2 : Int) (a1_3 : List T_impl_Grant) (a1_4 : List T_impl_Flow) (a1_5 : List T_impl_Rule) (a1_6 : List T_impl_Op) (a1_7 : Int) : Code.den ti (impl_ReviewPackage.Γ k) (impl_ReviewPackage.LH k) (bodyOf Tryz.f26) (finK ti Tryz.f26.results.toList [] (flags impl_ReviewPackage.sig).length (rwI (flags impl_ReviewPackage.sig) 0) impl_ReviewPackage.out) ⟨envOf (([.v (.int .i64 a0), .agg [.int .i64 a1_0, .int .i64 a1_1, .int .i64 a1_2, .sl 0, .sl 1, .sl 2, .sl 3, .int .i64 a1_7]]).zipIdx.map fun q => (q.2, q.1)), hpOf [.rows 5 false a1_3, .rows 6 false a1_4, .rows 7 false a1_5, .rows 8 false a1_6], (flags impl_ReviewPackage.sig).length⟩ = impl_ReviewPackage.f k a0 a1_0 a1_1 a1_2 a1_3 a1_4 a1_5 a1_6 a1_7 := by kernel_rfl
theorem impl_ReviewPackage.ok (k : Nat) : CSound Tryz.prog 26 (impl_ReviewPackage.C k) :=
  csound κ_ok mixed tok (impl_ReviewPackage.hΓ k) (LH := impl_ReviewPackage.LH k) (fn := Tryz.f26) (c := bodyOf Tryz.f26) Tryz.func26 rfl Tryz.call26 impl_ReviewPackage.sig [] (impl_ReviewPackage.body k) (by kernel_rfl) (impl_ReviewPackage.lok k) (by decide) fun vs bs lf y hl hb hy => by
    unfold impl_ReviewPackage.body at hb
    split at hb
    · obtain ⟨_, rfl, hb_1⟩ := asO_bind hb
      obtain ⟨_, rfl, hb_2⟩ := asO_bind hb_1
      obtain ⟨_, rfl, hb_3⟩ := asO_bind hb_2
      obtain ⟨_, rfl, hb_4⟩ := asO_bind hb_3
      obtain rfl := Option.some.inj hb_4
      exact ⟨impl_ReviewPackage.out, impl_ReviewPackage.out_ok, (impl_ReviewPackage.den k _ _ _ _ _ _ _ _ _).trans hy⟩
    · cases hb
/-! ### impl_CanRollBack -/
def impl_CanRollBack.f (k : Nat) (a0 : Int) (a1_0 : Int) (a1_1 : Int) (a1_2 : Int) (a1_3 : List T_impl_Grant) (a1_4 : List T_impl_Flow) (a1_5 : List T_impl_Rule) (a1_6 : List T_impl_Op) (a1_7 : Int) (a1_8 : List T_impl_Stored) (a2_0 : Int) (a2_1 : Int) (a2_2 : Int) (a2_3 : List T_impl_Grant) (a2_4 : List T_impl_Flow) (a2_5 : List T_impl_Rule) (a2_6 : List T_impl_Op) (a2_7 : Int) : Option Bool :=
  (impl_ReviewPackage.f k a0 a1_0 a1_1 a1_2 a1_3 a1_4 a1_5 a1_6 a1_7).bind fun t1 => (bif (t1 == (0 : Int)) then (impl_IsPackage.f k a2_0 a2_1 a2_2 a2_3 a2_4 a2_5 a2_6 a2_7).bind fun t2 => (bif t2 then (bif (a2_0 == a1_0) then some (decide (a2_2 > a1_2)) else some false) else some false) else some false)
def impl_CanRollBack.Γ (k : Nat) : Ct κ := assoc [(26, impl_ReviewPackage.C k), (53, impl_IsPackage.C k)]
def impl_CanRollBack.LH (k : Nat) : Nat → Option (LHi κ) := assoc []
theorem impl_CanRollBack.hΓ (k : Nat) : ∀ f g, impl_CanRollBack.Γ k f = some g → CSound Tryz.prog f g := G_cons (impl_ReviewPackage.ok k) (G_cons (impl_IsPackage.ok k) G_nil)
theorem impl_CanRollBack.lok (k : Nat) : LOK ti (impl_CanRollBack.Γ k) (impl_CanRollBack.LH k) 9 (loopsOf (bodyOf Tryz.f14)) :=
  (show loopsOf (bodyOf Tryz.f14) = [] by kernel_rfl) ▸ LOK_nil
def impl_CanRollBack.sig : List PSh := [.one .sc, .agg [.sc, .sc, .sc, .ro 5, .ro 6, .ro 7, .ro 8, .sc, .ro 9], .agg [.sc, .sc, .sc, .ro 5, .ro 6, .ro 7, .ro 8, .sc]]
def impl_CanRollBack.g (y : Bool) : Ret κ := ⟨.v (.bool y), [], []⟩
def impl_CanRollBack.out (r : Ret κ) : Option Bool :=
  match r with
  | ⟨.v (.bool z0), [], []⟩ => some (z0)
  | _ => none
theorem impl_CanRollBack.out_ok (r : Ret κ) (y : Bool) (h : impl_CanRollBack.out r = some y) : r = impl_CanRollBack.g y := by
  unfold impl_CanRollBack.out at h
  split at h
  · obtain rfl := Option.some.inj h
    rfl
  · cases h
def impl_CanRollBack.body (k : Nat) (vs : List AV) (bs : List (Blk κ)) : Option (Lf κ) :=
  match vs, bs with
  | [.v (.int .i64 a0), .agg [.int .i64 a1_0, .int .i64 a1_1, .int .i64 a1_2, .sl 0, .sl 1, .sl 2, .sl 3, .int .i64 a1_7, .sl 4], .agg [.int .i64 a2_0, .int .i64 a2_1, .int .i64 a2_2, .sl 5, .sl 6, .sl 7, .sl 8, .int .i64 a2_7]], [qb0, qb1, qb2, qb3, qb4, qb5, qb6, qb7, qb8] => (asO 5 false qb0).bind fun a1_3 => (asO 6 false qb1).bind fun a1_4 => (asO 7 false qb2).bind fun a1_5 => (asO 8 false qb3).bind fun a1_6 => (asO 9 false qb4).bind fun a1_8 => (asO 5 false qb5).bind fun a2_3 => (asO 6 false qb6).bind fun a2_4 => (asO 7 false qb7).bind fun a2_5 => (asO 8 false qb8).bind fun a2_6 => some ⟨Bool, impl_CanRollBack.f k a0 a1_0 a1_1 a1_2 a1_3 a1_4 a1_5 a1_6 a1_7 a1_8 a2_0 a2_1 a2_2 a2_3 a2_4 a2_5 a2_6 a2_7, impl_CanRollBack.g⟩
  | _, _ => none
def impl_CanRollBack.C (k : Nat) : Nat → List AV → AP κ AV := contract impl_CanRollBack.sig (impl_CanRollBack.body k)
theorem impl_CanRollBack.den (k : Nat) (a0 : Int) (a1_0 : Int) (a1_1 : Int) (a1_2 : Int) (a1_3 : List T_impl_Grant) (a1_4 : List T_impl_Flow) (a1_5 : List T_impl_Rule) (a1_6 : List T_impl_Op) (a1_7 : Int) (a1_8 : List T_impl_Stored) (a2_0 : Int) (a2_1 : Int) (a2_2 : Int) (a2_3 : List T_impl_Grant) (a2_4 : List T_impl_Flow) (a2_5 : List T_impl_Rule) (a2_6 : List T_impl_Op) (a2_7 : Int) : Code.den ti (impl_CanRollBack.Γ k) (impl_CanRollBack.LH k) (bodyOf Tryz.f14) (finK ti Tryz.f14.results.toList [] (flags impl_CanRollBack.sig).length (rwI (flags impl_CanRollBack.sig) 0) impl_CanRollBack.out) ⟨envOf (([.v (.int .i64 a0), .agg [.int .i64 a1_0, .int .i64 a1_1, .int .i64 a1_2, .sl 0, .sl 1, .sl 2, .sl 3, .int .i64 a1_7, .sl 4], .agg [.int .i64 a2_0, .int .i64 a2_1, .int .i64 a2_2, .sl 5, .sl 6, .sl 7, .sl 8, .int .i64 a2_7]]).zipIdx.map fun q => (q.2, q.1)), hpOf [.rows 5 false a1_3, .rows 6 false a1_4, .rows 7 false a1_5, .rows 8 false a1_6, .rows 9 false a1_8, .rows 5 false a2_3, .rows 6 false a2_4, .rows 7 false a2_5, .rows 8 false a2_6], (flags impl_CanRollBack.sig).length⟩ = impl_CanRollBack.f k a0 a1_0 a1_1 a1_2 a1_3 a1_4 a1_5 a1_6 a1_7 a1_8 a2_0 a2_1 a2_2 a2_3 a2_4 a2_5 a2_6 a2_7 := by kernel_rfl
theorem impl_CanRollBack.ok (k : Nat) : CSound Tryz.prog 14 (impl_CanRollBack.C k) :=
  csound κ_ok mixed tok (impl_CanRollBack.hΓ k) (LH := impl_CanRollBack.LH k) (fn := Tryz.f14) (c := bodyOf Tryz.f14) Tryz.func14 rfl Tryz.call14 impl_CanRollBack.sig [] (impl_CanRollBack.body k) (by kernel_rfl) (impl_CanRollBack.lok k) (by decide) fun vs bs lf y hl hb hy => by
    unfold impl_CanRollBack.body at hb
    split at hb
    · obtain ⟨_, rfl, hb_1⟩ := asO_bind hb
      obtain ⟨_, rfl, hb_2⟩ := asO_bind hb_1
      obtain ⟨_, rfl, hb_3⟩ := asO_bind hb_2
      obtain ⟨_, rfl, hb_4⟩ := asO_bind hb_3
      obtain ⟨_, rfl, hb_5⟩ := asO_bind hb_4
      obtain ⟨_, rfl, hb_6⟩ := asO_bind hb_5
      obtain ⟨_, rfl, hb_7⟩ := asO_bind hb_6
      obtain ⟨_, rfl, hb_8⟩ := asO_bind hb_7
      obtain ⟨_, rfl, hb_9⟩ := asO_bind hb_8
      obtain rfl := Option.some.inj hb_9
      exact ⟨impl_CanRollBack.out, impl_CanRollBack.out_ok, (impl_CanRollBack.den k _ _ _ _ _ _ _ _ _ _ _ _ _ _ _ _ _ _).trans hy⟩
    · cases hb
/-! ### laws_eqPattern -/
def laws_eqPattern.f (k : Nat) (a0_0 : Int) (a0_1 : Int) (a1_0 : Int) (a1_1 : Int) : Option Bool :=
  (bif (a0_0 != a1_0) then some false else (bif (a0_1 != a1_1) then some false else some true))
def laws_eqPattern.Γ (k : Nat) : Ct κ := assoc []
def laws_eqPattern.LH (k : Nat) : Nat → Option (LHi κ) := assoc []
theorem laws_eqPattern.hΓ (k : Nat) : ∀ f g, laws_eqPattern.Γ k f = some g → CSound Tryz.prog f g := G_nil
theorem laws_eqPattern.lok (k : Nat) : LOK ti (laws_eqPattern.Γ k) (laws_eqPattern.LH k) 0 (loopsOf (bodyOf Tryz.f154)) :=
  (show loopsOf (bodyOf Tryz.f154) = [] by kernel_rfl) ▸ LOK_nil
def laws_eqPattern.sig : List PSh := [.agg [.sc, .sc], .agg [.sc, .sc]]
def laws_eqPattern.g (y : Bool) : Ret κ := ⟨.v (.bool y), [], []⟩
def laws_eqPattern.out (r : Ret κ) : Option Bool :=
  match r with
  | ⟨.v (.bool z0), [], []⟩ => some (z0)
  | _ => none
theorem laws_eqPattern.out_ok (r : Ret κ) (y : Bool) (h : laws_eqPattern.out r = some y) : r = laws_eqPattern.g y := by
  unfold laws_eqPattern.out at h
  split at h
  · obtain rfl := Option.some.inj h
    rfl
  · cases h
def laws_eqPattern.body (k : Nat) (vs : List AV) (bs : List (Blk κ)) : Option (Lf κ) :=
  match vs, bs with
  | [.agg [.int .i64 a0_0, .int .i64 a0_1], .agg [.int .i64 a1_0, .int .i64 a1_1]], [] => some ⟨Bool, laws_eqPattern.f k a0_0 a0_1 a1_0 a1_1, laws_eqPattern.g⟩
  | _, _ => none
def laws_eqPattern.C (k : Nat) : Nat → List AV → AP κ AV := contract laws_eqPattern.sig (laws_eqPattern.body k)
theorem laws_eqPattern.den (k : Nat) (a0_0 : Int) (a0_1 : Int) (a1_0 : Int) (a1_1 : Int) : Code.den ti (laws_eqPattern.Γ k) (laws_eqPattern.LH k) (bodyOf Tryz.f154) (finK ti Tryz.f154.results.toList [] (flags laws_eqPattern.sig).length (rwI (flags laws_eqPattern.sig) 0) laws_eqPattern.out) ⟨envOf (([.agg [.int .i64 a0_0, .int .i64 a0_1], .agg [.int .i64 a1_0, .int .i64 a1_1]]).zipIdx.map fun q => (q.2, q.1)), hpOf [], (flags laws_eqPattern.sig).length⟩ = laws_eqPattern.f k a0_0 a0_1 a1_0 a1_1 := by kernel_rfl
theorem laws_eqPattern.ok (k : Nat) : CSound Tryz.prog 154 (laws_eqPattern.C k) :=
  csound κ_ok mixed tok (laws_eqPattern.hΓ k) (LH := laws_eqPattern.LH k) (fn := Tryz.f154) (c := bodyOf Tryz.f154) Tryz.func154 rfl Tryz.call154 laws_eqPattern.sig [] (laws_eqPattern.body k) (by kernel_rfl) (laws_eqPattern.lok k) (by decide) fun vs bs lf y hl hb hy => by
    unfold laws_eqPattern.body at hb
    split at hb
    · obtain rfl := Option.some.inj hb
      exact ⟨laws_eqPattern.out, laws_eqPattern.out_ok, (laws_eqPattern.den k _ _ _ _).trans hy⟩
    · cases hb
/-! ### laws_eqGrant -/
def laws_eqGrant.f (k : Nat) (a0_0 : Int) (a0_1 : Int) (a0_2 : Int) (a0_3 : Int) (a0_4 : Int) (a0_5 : Int) (a0_6 : Bool) (a1_0 : Int) (a1_1 : Int) (a1_2 : Int) (a1_3 : Int) (a1_4 : Int) (a1_5 : Int) (a1_6 : Bool) : Option Bool :=
  (bif (a0_0 != a1_0) then some false else (laws_eqPattern.f k a0_1 a0_2 a1_1 a1_2).bind fun t1 => (bif !t1 then some false else (bif (a0_3 != a1_3) then some false else (bif (a0_4 != a1_4) then some false else (bif (a0_5 != a1_5) then some false else (bif !(a0_6 == a1_6) then some false else some true))))))
def laws_eqGrant.Γ (k : Nat) : Ct κ := assoc [(154, laws_eqPattern.C k)]
def laws_eqGrant.LH (k : Nat) : Nat → Option (LHi κ) := assoc []
theorem laws_eqGrant.hΓ (k : Nat) : ∀ f g, laws_eqGrant.Γ k f = some g → CSound Tryz.prog f g := G_cons (laws_eqPattern.ok k) G_nil
theorem laws_eqGrant.lok (k : Nat) : LOK ti (laws_eqGrant.Γ k) (laws_eqGrant.LH k) 0 (loopsOf (bodyOf Tryz.f114)) :=
  (show loopsOf (bodyOf Tryz.f114) = [] by kernel_rfl) ▸ LOK_nil
def laws_eqGrant.sig : List PSh := [.agg [.sc, .sc, .sc, .sc, .sc, .sc, .sc], .agg [.sc, .sc, .sc, .sc, .sc, .sc, .sc]]
def laws_eqGrant.g (y : Bool) : Ret κ := ⟨.v (.bool y), [], []⟩
def laws_eqGrant.out (r : Ret κ) : Option Bool :=
  match r with
  | ⟨.v (.bool z0), [], []⟩ => some (z0)
  | _ => none
theorem laws_eqGrant.out_ok (r : Ret κ) (y : Bool) (h : laws_eqGrant.out r = some y) : r = laws_eqGrant.g y := by
  unfold laws_eqGrant.out at h
  split at h
  · obtain rfl := Option.some.inj h
    rfl
  · cases h
def laws_eqGrant.body (k : Nat) (vs : List AV) (bs : List (Blk κ)) : Option (Lf κ) :=
  match vs, bs with
  | [.agg [.int .i64 a0_0, .int .i64 a0_1, .int .i64 a0_2, .int .i64 a0_3, .int .i64 a0_4, .int .i64 a0_5, .bool a0_6], .agg [.int .i64 a1_0, .int .i64 a1_1, .int .i64 a1_2, .int .i64 a1_3, .int .i64 a1_4, .int .i64 a1_5, .bool a1_6]], [] => some ⟨Bool, laws_eqGrant.f k a0_0 a0_1 a0_2 a0_3 a0_4 a0_5 a0_6 a1_0 a1_1 a1_2 a1_3 a1_4 a1_5 a1_6, laws_eqGrant.g⟩
  | _, _ => none
def laws_eqGrant.C (k : Nat) : Nat → List AV → AP κ AV := contract laws_eqGrant.sig (laws_eqGrant.body k)
theorem laws_eqGrant.den (k : Nat) (a0_0 : Int) (a0_1 : Int) (a0_2 : Int) (a0_3 : Int) (a0_4 : Int) (a0_5 : Int) (a0_6 : Bool) (a1_0 : Int) (a1_1 : Int) (a1_2 : Int) (a1_3 : Int) (a1_4 : Int) (a1_5 : Int) (a1_6 : Bool) : Code.den ti (laws_eqGrant.Γ k) (laws_eqGrant.LH k) (bodyOf Tryz.f114) (finK ti Tryz.f114.results.toList [] (flags laws_eqGrant.sig).length (rwI (flags laws_eqGrant.sig) 0) laws_eqGrant.out) ⟨envOf (([.agg [.int .i64 a0_0, .int .i64 a0_1, .int .i64 a0_2, .int .i64 a0_3, .int .i64 a0_4, .int .i64 a0_5, .bool a0_6], .agg [.int .i64 a1_0, .int .i64 a1_1, .int .i64 a1_2, .int .i64 a1_3, .int .i64 a1_4, .int .i64 a1_5, .bool a1_6]]).zipIdx.map fun q => (q.2, q.1)), hpOf [], (flags laws_eqGrant.sig).length⟩ = laws_eqGrant.f k a0_0 a0_1 a0_2 a0_3 a0_4 a0_5 a0_6 a1_0 a1_1 a1_2 a1_3 a1_4 a1_5 a1_6 := by kernel_rfl
theorem laws_eqGrant.ok (k : Nat) : CSound Tryz.prog 114 (laws_eqGrant.C k) :=
  csound κ_ok mixed tok (laws_eqGrant.hΓ k) (LH := laws_eqGrant.LH k) (fn := Tryz.f114) (c := bodyOf Tryz.f114) Tryz.func114 rfl Tryz.call114 laws_eqGrant.sig [] (laws_eqGrant.body k) (by kernel_rfl) (laws_eqGrant.lok k) (by decide) fun vs bs lf y hl hb hy => by
    unfold laws_eqGrant.body at hb
    split at hb
    · obtain rfl := Option.some.inj hb
      exact ⟨laws_eqGrant.out, laws_eqGrant.out_ok, (laws_eqGrant.den k _ _ _ _ _ _ _ _ _ _ _ _ _ _).trans hy⟩
    · cases hb
/-! ### laws_eqGrantS -/
def laws_eqGrantS.L4 {R : Type} (k : Nat) (xl0 : List T_impl_Grant) (xl1 : List T_impl_Grant) (X0 : Bool → Option R) (X1 : Unit → Option R) (rec : Int → Option R) (x2 : Int) : Option R :=
  (bif decide (x2 < (xl0.length : Int)) then (bif decide (0 ≤ x2) then (bif decide (x2 < (xl0.length : Int)) then (bif decide (0 ≤ x2) then (bif decide (x2 < (xl1.length : Int)) then (laws_eqGrant.f k ((rd_impl_Grant xl0 x2).f0) ((rd_impl_Grant xl0 x2).f1.f0) ((rd_impl_Grant xl0 x2).f1.f1) ((rd_impl_Grant xl0 x2).f2) ((rd_impl_Grant xl0 x2).f3) ((rd_impl_Grant xl0 x2).f4) ((rd_impl_Grant xl0 x2).f5) ((rd_impl_Grant xl1 x2).f0) ((rd_impl_Grant xl1 x2).f1.f0) ((rd_impl_Grant xl1 x2).f1.f1) ((rd_impl_Grant xl1 x2).f2) ((rd_impl_Grant xl1 x2).f3) ((rd_impl_Grant xl1 x2).f4) ((rd_impl_Grant xl1 x2).f5)).bind fun t1 => (bif !t1 then (X0 false) else (rec (w64 (x2 + (1 : Int))))) else none) else none) else none) else none) else (X1 ()))
def laws_eqGrantS.l4 {R : Type} (k : Nat) (xl0 : List T_impl_Grant) (xl1 : List T_impl_Grant) (X0 : Bool → Option R) (X1 : Unit → Option R) : Nat → Int → Option R
  | 0 => fun _ => none
  | n + 1 => laws_eqGrantS.L4 k xl0 xl1 X0 X1 (laws_eqGrantS.l4 k xl0 xl1 X0 X1 n)
def laws_eqGrantS.f (k : Nat) (a0 : List T_impl_Grant) (a1 : List T_impl_Grant) : Option Bool :=
  (bif ((a0.length : Int) != (a1.length : Int)) then some false else (laws_eqGrantS.l4 k a0 a1 (fun (y2 : Bool) => some y2) (fun (_ : Unit) => some true) k (0 : Int)))
def laws_eqGrantS.h4 (k : Nat) {R : Type} (K : Ex → St κ → Option R) (vs : List AV) (bs : List (Blk κ)) : Option R :=
  match vs, bs with
  | [.v (.sl 0), .v (.sl 1), .v (.int .i64 x2)], [qb0, qb1] => (asO 5 false qb0).bind fun xl0 => (asO 5 false qb1).bind fun xl1 => laws_eqGrantS.l4 k xl0 xl1 (fun (z0 : Bool) => K .ret (stOf [(4, [])] [.v (.bool z0)] [.rows 5 false xl0, .rows 5 false xl1])) (fun (_ : Unit) => K (.exit 0) (stOf [(4, [])] [.v .any] [.rows 5 false xl0, .rows 5 false xl1])) k x2
  | _, _ => none
def laws_eqGrantS.Γ (k : Nat) : Ct κ := assoc [(114, laws_eqGrant.C k)]
def laws_eqGrantS.LH (k : Nat) : Nat → Option (LHi κ) := assoc [(4, ⟨2, [(0, [some 5]), (1, [some 5]), (5, [])], [(4, [])], @laws_eqGrantS.h4 k⟩)]
theorem laws_eqGrantS.hΓ (k : Nat) : ∀ f g, laws_eqGrantS.Γ k f = some g → CSound Tryz.prog f g := G_cons (laws_eqGrant.ok k) G_nil
theorem laws_eqGrantS.e4 {R : Type} (K : Ex → St κ → Option R) (k : Nat) (xl0 : List T_impl_Grant) (xl1 : List T_impl_Grant) : ∀ (n : Nat) (x2 : Int), loopN 2 (Code.den ti (laws_eqGrantS.Γ k) (laws_eqGrantS.LH k) (loopAt Tryz.f55 0)) [(0, [some 5]), (1, [some 5]), (5, [])] [(4, [])] K n [.v (.sl 0), .v (.sl 1), .v (.int .i64 x2)] [.rows 5 false xl0, .rows 5 false xl1] = laws_eqGrantS.l4 k xl0 xl1 (fun (z0 : Bool) => K .ret (stOf [(4, [])] [.v (.bool z0)] [.rows 5 false xl0, .rows 5 false xl1])) (fun (_ : Unit) => K (.exit 0) (stOf [(4, [])] [.v .any] [.rows 5 false xl0, .rows 5 false xl1])) n x2
  | 0, _ => rfl
  | n + 1, x2 => (show loopN 2 (Code.den ti (laws_eqGrantS.Γ k) (laws_eqGrantS.LH k) (loopAt Tryz.f55 0)) [(0, [some 5]), (1, [some 5]), (5, [])] [(4, [])] K (n + 1) [.v (.sl 0), .v (.sl 1), .v (.int .i64 x2)] [.rows 5 false xl0, .rows 5 false xl1] = laws_eqGrantS.L4 k xl0 xl1 (fun (z0 : Bool) => K .ret (stOf [(4, [])] [.v (.bool z0)] [.rows 5 false xl0, .rows 5 false xl1])) (fun (_ : Unit) => K (.exit 0) (stOf [(4, [])] [.v .any] [.rows 5 false xl0, .rows 5 false xl1])) (fun (x2' : Int) => loopN 2 (Code.den ti (laws_eqGrantS.Γ k) (laws_eqGrantS.LH k) (loopAt Tryz.f55 0)) [(0, [some 5]), (1, [some 5]), (5, [])] [(4, [])] K n [.v (.sl 0), .v (.sl 1), .v (.int .i64 x2')] [.rows 5 false xl0, .rows 5 false xl1]) x2 by kernel_rfl).trans (congrArg (fun rec => laws_eqGrantS.L4 k xl0 xl1 (fun (z0 : Bool) => K .ret (stOf [(4, [])] [.v (.bool z0)] [.rows 5 false xl0, .rows 5 false xl1])) (fun (_ : Unit) => K (.exit 0) (stOf [(4, [])] [.v .any] [.rows 5 false xl0, .rows 5 false xl1])) rec x2) (funext fun x2' => laws_eqGrantS.e4 K k xl0 xl1 n x2'))
theorem laws_eqGrantS.q4 (k : Nat) {R : Type} (K : Ex → St κ → Option R) (vs : List AV) (bs : List (Blk κ)) (r : R) (h : laws_eqGrantS.h4 k K vs bs = some r) : ∃ n, loopN 2 (Code.den ti (laws_eqGrantS.Γ k) (laws_eqGrantS.LH k) (loopAt Tryz.f55 0)) [(0, [some 5]), (1, [some 5]), (5, [])] [(4, [])] K n vs bs = some r := by
  unfold laws_eqGrantS.h4 at h
  split at h
  · obtain ⟨_, rfl, h_1⟩ := asO_bind h
    obtain ⟨_, rfl, h_2⟩ := asO_bind h_1
    exact ⟨k, (laws_eqGrantS.e4 K k _ _ k _).trans h_2⟩
  · cases h
theorem laws_eqGrantS.lok (k : Nat) : LOK ti (laws_eqGrantS.Γ k) (laws_eqGrantS.LH k) 2 (loopsOf (bodyOf Tryz.f55)) :=
  (show loopsOf (bodyOf Tryz.f55) = [loopAt Tryz.f55 0] by kernel_rfl) ▸ (LOK_cons (g := ⟨2, [(0, [some 5]), (1, [some 5]), (5, [])], [(4, [])], @laws_eqGrantS.h4 k⟩) (by kernel_rfl) rfl (fun K vs xs r h => laws_eqGrantS.q4 k K vs xs r h) (LOK_nil))
def laws_eqGrantS.sig : List PSh := [.one (.ro 5), .one (.ro 5)]
def laws_eqGrantS.g (y : Bool) : Ret κ := ⟨.v (.bool y), [], []⟩
def laws_eqGrantS.out (r : Ret κ) : Option Bool :=
  match r with
  | ⟨.v (.bool z0), [], []⟩ => some (z0)
  | _ => none
theorem laws_eqGrantS.out_ok (r : Ret κ) (y : Bool) (h : laws_eqGrantS.out r = some y) : r = laws_eqGrantS.g y := by
  unfold laws_eqGrantS.out at h
  split at h
  · obtain rfl := Option.some.inj h
    rfl
  · cases h
def laws_eqGrantS.body (k : Nat) (vs : List AV) (bs : List (Blk κ)) : Option (Lf κ) :=
  match vs, bs with
  | [.v (.sl 0), .v (.sl 1)], [qb0, qb1] => (asO 5 false qb0).bind fun a0 => (asO 5 false qb1).bind fun a1 => some ⟨Bool, laws_eqGrantS.f k a0 a1, laws_eqGrantS.g⟩
  | _, _ => none
def laws_eqGrantS.C (k : Nat) : Nat → List AV → AP κ AV := contract laws_eqGrantS.sig (laws_eqGrantS.body k)
theorem laws_eqGrantS.den (k : Nat) (a0 : List T_impl_Grant) (a1 : List T_impl_Grant) : Code.den ti (laws_eqGrantS.Γ k) (laws_eqGrantS.LH k) (bodyOf Tryz.f55) (finK ti Tryz.f55.results.toList [] (flags laws_eqGrantS.sig).length (rwI (flags laws_eqGrantS.sig) 0) laws_eqGrantS.out) ⟨envOf (([.v (.sl 0), .v (.sl 1)]).zipIdx.map fun q => (q.2, q.1)), hpOf [.rows 5 false a0, .rows 5 false a1], (flags laws_eqGrantS.sig).length⟩ = laws_eqGrantS.f k a0 a1 := by kernel_rfl
theorem laws_eqGrantS.ok (k : Nat) : CSound Tryz.prog 55 (laws_eqGrantS.C k) :=
  csound κ_ok mixed tok (laws_eqGrantS.hΓ k) (LH := laws_eqGrantS.LH k) (fn := Tryz.f55) (c := bodyOf Tryz.f55) Tryz.func55 rfl Tryz.call55 laws_eqGrantS.sig [] (laws_eqGrantS.body k) (by kernel_rfl) (laws_eqGrantS.lok k) (by decide) fun vs bs lf y hl hb hy => by
    unfold laws_eqGrantS.body at hb
    split at hb
    · obtain ⟨_, rfl, hb_1⟩ := asO_bind hb
      obtain ⟨_, rfl, hb_2⟩ := asO_bind hb_1
      obtain rfl := Option.some.inj hb_2
      exact ⟨laws_eqGrantS.out, laws_eqGrantS.out_ok, (laws_eqGrantS.den k _ _).trans hy⟩
    · cases hb
/-! ### laws_eqFlow -/
def laws_eqFlow.f (k : Nat) (a0_0 : Int) (a0_1 : Int) (a0_2 : Int) (a1_0 : Int) (a1_1 : Int) (a1_2 : Int) : Option Bool :=
  (bif (a0_0 != a1_0) then some false else (bif (a0_1 != a1_1) then some false else (bif (a0_2 != a1_2) then some false else some true)))
def laws_eqFlow.Γ (k : Nat) : Ct κ := assoc []
def laws_eqFlow.LH (k : Nat) : Nat → Option (LHi κ) := assoc []
theorem laws_eqFlow.hΓ (k : Nat) : ∀ f g, laws_eqFlow.Γ k f = some g → CSound Tryz.prog f g := G_nil
theorem laws_eqFlow.lok (k : Nat) : LOK ti (laws_eqFlow.Γ k) (laws_eqFlow.LH k) 0 (loopsOf (bodyOf Tryz.f115)) :=
  (show loopsOf (bodyOf Tryz.f115) = [] by kernel_rfl) ▸ LOK_nil
def laws_eqFlow.sig : List PSh := [.agg [.sc, .sc, .sc], .agg [.sc, .sc, .sc]]
def laws_eqFlow.g (y : Bool) : Ret κ := ⟨.v (.bool y), [], []⟩
def laws_eqFlow.out (r : Ret κ) : Option Bool :=
  match r with
  | ⟨.v (.bool z0), [], []⟩ => some (z0)
  | _ => none
theorem laws_eqFlow.out_ok (r : Ret κ) (y : Bool) (h : laws_eqFlow.out r = some y) : r = laws_eqFlow.g y := by
  unfold laws_eqFlow.out at h
  split at h
  · obtain rfl := Option.some.inj h
    rfl
  · cases h
def laws_eqFlow.body (k : Nat) (vs : List AV) (bs : List (Blk κ)) : Option (Lf κ) :=
  match vs, bs with
  | [.agg [.int .i64 a0_0, .int .i64 a0_1, .int .i64 a0_2], .agg [.int .i64 a1_0, .int .i64 a1_1, .int .i64 a1_2]], [] => some ⟨Bool, laws_eqFlow.f k a0_0 a0_1 a0_2 a1_0 a1_1 a1_2, laws_eqFlow.g⟩
  | _, _ => none
def laws_eqFlow.C (k : Nat) : Nat → List AV → AP κ AV := contract laws_eqFlow.sig (laws_eqFlow.body k)
theorem laws_eqFlow.den (k : Nat) (a0_0 : Int) (a0_1 : Int) (a0_2 : Int) (a1_0 : Int) (a1_1 : Int) (a1_2 : Int) : Code.den ti (laws_eqFlow.Γ k) (laws_eqFlow.LH k) (bodyOf Tryz.f115) (finK ti Tryz.f115.results.toList [] (flags laws_eqFlow.sig).length (rwI (flags laws_eqFlow.sig) 0) laws_eqFlow.out) ⟨envOf (([.agg [.int .i64 a0_0, .int .i64 a0_1, .int .i64 a0_2], .agg [.int .i64 a1_0, .int .i64 a1_1, .int .i64 a1_2]]).zipIdx.map fun q => (q.2, q.1)), hpOf [], (flags laws_eqFlow.sig).length⟩ = laws_eqFlow.f k a0_0 a0_1 a0_2 a1_0 a1_1 a1_2 := by kernel_rfl
theorem laws_eqFlow.ok (k : Nat) : CSound Tryz.prog 115 (laws_eqFlow.C k) :=
  csound κ_ok mixed tok (laws_eqFlow.hΓ k) (LH := laws_eqFlow.LH k) (fn := Tryz.f115) (c := bodyOf Tryz.f115) Tryz.func115 rfl Tryz.call115 laws_eqFlow.sig [] (laws_eqFlow.body k) (by kernel_rfl) (laws_eqFlow.lok k) (by decide) fun vs bs lf y hl hb hy => by
    unfold laws_eqFlow.body at hb
    split at hb
    · obtain rfl := Option.some.inj hb
      exact ⟨laws_eqFlow.out, laws_eqFlow.out_ok, (laws_eqFlow.den k _ _ _ _ _ _).trans hy⟩
    · cases hb
end Go.Proofs.YtoenilndklbceaaGreat.PFnExactCanRollBack
