/- What the functions that the law FnReviewed reaches come to; no conditions. -/
import Derived.Test.YtoenilndklbceaaGreatPFnReviewed8
set_option linter.unusedVariables false
set_option maxRecDepth 100000
namespace Go.Proofs.YtoenilndklbceaaGreat.PFnReviewed
open Go Go.Eng Go.Proofs
/-! ### slices_Contains_Flow -/
def slices_Contains_Flow.f (k : Nat) (a0 : List T_impl_Flow) (a1_0 : Int) (a1_1 : Int) (a1_2 : Int) : Option Bool :=
  (slices_Index_Flow.f k a0 a1_0 a1_1 a1_2).bind fun t1 => some (decide (t1 ≥ (0 : Int)))
def slices_Contains_Flow.Γ (k : Nat) : Ct κ := assoc [(123, slices_Index_Flow.C k)]
def slices_Contains_Flow.LH (k : Nat) : Nat → Option (LHi κ) := assoc []
theorem slices_Contains_Flow.hΓ (k : Nat) : ∀ f g, slices_Contains_Flow.Γ k f = some g → CSound Tryz.prog f g := G_cons (slices_Index_Flow.ok k) G_nil
theorem slices_Contains_Flow.lok (k : Nat) : LOK ti (slices_Contains_Flow.Γ k) (slices_Contains_Flow.LH k) 1 (loopsOf (bodyOf Tryz.f79)) :=
  (show loopsOf (bodyOf Tryz.f79) = [] by kernel_rfl) ▸ LOK_nil
def slices_Contains_Flow.sig : List PSh := [.one (.ro 3), .agg [.sc, .sc, .sc]]
def slices_Contains_Flow.g (y : Bool) : Ret κ := ⟨.v (.bool y), [], []⟩
def slices_Contains_Flow.out (r : Ret κ) : Option Bool :=
  match r with
  | ⟨.v (.bool z0), [], []⟩ => some (z0)
  | _ => none
theorem slices_Contains_Flow.out_ok (r : Ret κ) (y : Bool) (h : slices_Contains_Flow.out r = some y) : r = slices_Contains_Flow.g y := by
  unfold slices_Contains_Flow.out at h
  split at h
  · obtain rfl := Option.some.inj h
    rfl
  · cases h
def slices_Contains_Flow.body (k : Nat) (vs : List AV) (bs : List (Blk κ)) : Option (Lf κ) :=
  match vs, bs with
  | [.v (.sl 0), .agg [.int .i64 a1_0, .int .i64 a1_1, .int .i64 a1_2]], [qb0] => (asO 3 false qb0).bind fun a0 => some ⟨Bool, slices_Contains_Flow.f k a0 a1_0 a1_1 a1_2, slices_Contains_Flow.g⟩
  | _, _ => none
def slices_Contains_Flow.C (k : Nat) : Nat → List AV → AP κ AV := contract slices_Contains_Flow.sig (slices_Contains_Flow.body k)
theorem slices_Contains_Flow.den (k : Nat) (a0 : List T_impl_Flow) (a1_0 : Int) (a1_1 : Int) (a1_2 : Int) : Code.den ti (slices_Contains_Flow.Γ k) (slices_Contains_Flow.LH k) (bodyOf Tryz.f79) (finK ti Tryz.f79.results.toList [] (flags slices_Contains_Flow.sig).length (rwI (flags slices_Contains_Flow.sig) 0) slices_Contains_Flow.out) ⟨envOf (([.v (.sl 0), .agg [.int .i64 a1_0, .int .i64 a1_1, .int .i64 a1_2]]).zipIdx.map fun q => (q.2, q.1)), hpOf [.rows 3 false a0], (flags slices_Contains_Flow.sig).length⟩ = slices_Contains_Flow.f k a0 a1_0 a1_1 a1_2 := by kernel_rfl
theorem slices_Contains_Flow.ok (k : Nat) : CSound Tryz.prog 79 (slices_Contains_Flow.C k) :=
  csound κ_ok mixed tok (slices_Contains_Flow.hΓ k) (LH := slices_Contains_Flow.LH k) (fn := Tryz.f79) (c := bodyOf Tryz.f79) Tryz.func79 rfl Tryz.call79 slices_Contains_Flow.sig [] (slices_Contains_Flow.body k) (by kernel_rfl) (slices_Contains_Flow.lok k) (by decide) fun vs bs lf y hl hb hy => by
    unfold slices_Contains_Flow.body at hb
    split at hb
    · obtain ⟨_, rfl, hb_1⟩ := asO_bind hb
      obtain rfl := Option.some.inj hb_1
      exact ⟨slices_Contains_Flow.out, slices_Contains_Flow.out_ok, (slices_Contains_Flow.den k _ _ _ _).trans hy⟩
    · cases hb
/-! ### impl_NeedsFlows -/
def impl_NeedsFlows.L9 {R : Type} (k : Nat) (x0 : Int) (x4 : Int) (x5 : Int) (x7 : Int) (xl0 : List T_impl_Op) (xc2_0 : Int) (xc2_1 : Int) (xc2_2 : Int) (xl3 : List T_impl_Sent) (xl4 : List Int) (X0 : List T_impl_Flow → Option R) (rec : Int → List T_impl_Flow → Option R) (x8 : Int) (xl1 : List T_impl_Flow) : Option R :=
  (bif decide (x8 < x7) then (bif decide (0 ≤ x8) then (bif decide (x8 < (xl4.length : Int)) then (bif ((rd_i64 xl4 x8) != xc2_0) then (slices_Contains_Flow.f k xl1 x0 (rd_i64 xl4 x8) xc2_0).bind fun t4 => (bif !t4 then (bif decide ((xl1.length + ([(⟨x0, (rd_i64 xl4 x8), xc2_0⟩ : T_impl_Flow)] : List T_impl_Flow).length) * 24 ≤ cap48) then (let l5 : List T_impl_Flow := (xl1 ++ ([(⟨x0, (rd_i64 xl4 x8), xc2_0⟩ : T_impl_Flow)] : List T_impl_Flow)); (rec (w64 (x8 + (1 : Int))) l5)) else none) else (rec (w64 (x8 + (1 : Int))) xl1)) else (rec (w64 (x8 + (1 : Int))) xl1)) else none) else none) else (X0 xl1))
def impl_NeedsFlows.l9 {R : Type} (k : Nat) (x0 : Int) (x4 : Int) (x5 : Int) (x7 : Int) (xl0 : List T_impl_Op) (xc2_0 : Int) (xc2_1 : Int) (xc2_2 : Int) (xl3 : List T_impl_Sent) (xl4 : List Int) (X0 : List T_impl_Flow → Option R) : Nat → Int → List T_impl_Flow → Option R
  | 0 => fun _ _ => none
  | n + 1 => impl_NeedsFlows.L9 k x0 x4 x5 x7 xl0 xc2_0 xc2_1 xc2_2 xl3 xl4 X0 (impl_NeedsFlows.l9 k x0 x4 x5 x7 xl0 xc2_0 xc2_1 xc2_2 xl3 xl4 X0 n)
def impl_NeedsFlows.L6 {R : Type} (k : Nat) (x0 : Int) (x3 : Int) (xl0 : List T_impl_Op) (xl2 : List T_impl_Sent) (X0 : List T_impl_Flow → Option R) (rec : Int → List T_impl_Flow → Option R) (x4 : Int) (xl1 : List T_impl_Flow) : Option R :=
  (bif decide (x4 < x3) then (bif decide (0 ≤ x4) then (bif decide (x4 < (xl2.length : Int)) then (impl_OwnersIn.f k ((rd_impl_Sent xl2 x4).f2)).bind fun t3 => (impl_NeedsFlows.l9 k x0 x3 x4 (t3.length : Int) xl0 ((rd_impl_Sent xl2 x4).f0) ((rd_impl_Sent xl2 x4).f1) ((rd_impl_Sent xl2 x4).f2) xl2 t3 (fun (y4 : List T_impl_Flow) => (rec (w64 (x4 + (1 : Int))) y4)) k (0 : Int) xl1) else none) else none) else (X0 xl1))
def impl_NeedsFlows.l6 {R : Type} (k : Nat) (x0 : Int) (x3 : Int) (xl0 : List T_impl_Op) (xl2 : List T_impl_Sent) (X0 : List T_impl_Flow → Option R) : Nat → Int → List T_impl_Flow → Option R
  | 0 => fun _ _ => none
  | n + 1 => impl_NeedsFlows.L6 k x0 x3 xl0 xl2 X0 (impl_NeedsFlows.l6 k x0 x3 xl0 xl2 X0 n)
def impl_NeedsFlows.f (k : Nat) (a0 : List T_impl_Op) (a1 : Int) : Option (List T_impl_Flow) :=
  (impl_AreOps.f k a0).bind fun t1 => (bif !t1 then some ([] : List T_impl_Flow) else (impl_executed.f k a0 ([] : List Int)).bind fun t2 => (impl_NeedsFlows.l6 k a1 (t2.1.length : Int) a0 t2.1 (fun (y5 : List T_impl_Flow) => some y5) k (0 : Int) ([] : List T_impl_Flow)))
def impl_NeedsFlows.h9 (k : Nat) {R : Type} (K : Ex → St κ → Option R) (vs : List AV) (bs : List (Blk κ)) : Option R :=
  match vs, bs with
  | [.v (.int .i64 x0), .v (.sl 1), .v (.ptr 2 0 0), .v (.sl 3), .v (.int .i64 x4), .v (.int .i64 x5), .v (.sl 4), .v (.int .i64 x7), .v (.int .i64 x8)], [qb0, qb1, .cells 125 [.int .i64 xc2_0, .int .i64 xc2_1, .int .i64 xc2_2], qb3, qb4] => (asO 1 false qb0).bind fun xl0 => (asO 3 true qb1).bind fun xl1 => (asO 6 true qb3).bind fun xl3 => (asO 5 true qb4).bind fun xl4 => impl_NeedsFlows.l9 k x0 x4 x5 x7 xl0 xc2_0 xc2_1 xc2_2 xl3 xl4 (fun (zl1 : List T_impl_Flow) => K (.exit 2) (stOf [(1, []), (5, [some 3]), (23, [some 6]), (24, []), (25, [])] [.v (.int .i64 x0), .v (.sl 1), .v (.sl 2), .v (.int .i64 x4), .v (.int .i64 x5)] [.rows 1 false xl0, .rows 3 true zl1, .rows 6 true xl3])) k x8 xl1
  | _, _ => none
def impl_NeedsFlows.h6 (k : Nat) {R : Type} (K : Ex → St κ → Option R) (vs : List AV) (bs : List (Blk κ)) : Option R :=
  match vs, bs with
  | [.v (.int .i64 x0), .v (.sl 1), .v (.sl 2), .v (.int .i64 x3), .v (.int .i64 x4)], [qb0, qb1, qb2] => (asO 1 false qb0).bind fun xl0 => (asO 3 true qb1).bind fun xl1 => (asO 6 true qb2).bind fun xl2 => impl_NeedsFlows.l6 k x0 x3 xl0 xl2 (fun (zl1 : List T_impl_Flow) => K (.exit 0) (stOf [(5, [some 3])] [.v (.sl 1)] [.rows 1 false xl0, .rows 3 true zl1])) k x4 xl1
  | _, _ => none
def impl_NeedsFlows.Γ (k : Nat) : Ct κ := assoc [(89, impl_AreOps.C k), (92, impl_executed.C k), (138, impl_OwnersIn.C k), (79, slices_Contains_Flow.C k)]
def impl_NeedsFlows.LH (k : Nat) : Nat → Option (LHi κ) := assoc [(9, ⟨1, [(1, []), (5, [some 3]), (9, []), (23, [some 6]), (24, []), (25, []), (31, [some 5]), (32, []), (33, [])], [(1, []), (5, [some 3]), (23, [some 6]), (24, []), (25, [])], @impl_NeedsFlows.h9 k⟩), (6, ⟨1, [(1, []), (5, [some 3]), (23, [some 6]), (24, []), (25, [])], [(5, [some 3])], @impl_NeedsFlows.h6 k⟩)]
theorem impl_NeedsFlows.hΓ (k : Nat) : ∀ f g, impl_NeedsFlows.Γ k f = some g → CSound Tryz.prog f g := G_cons (impl_AreOps.ok k) (G_cons (impl_executed.ok k) (G_cons (impl_OwnersIn.ok k) (G_cons (slices_Contains_Flow.ok k) G_nil)))
theorem impl_NeedsFlows.e9 {R : Type} (K : Ex → St κ → Option R) (k : Nat) (x0 : Int) (x4 : Int) (x5 : Int) (x7 : Int) (xl0 : List T_impl_Op) (xc2_0 : Int) (xc2_1 : Int) (xc2_2 : Int) (xl3 : List T_impl_Sent) (xl4 : List Int) : ∀ (n : Nat) (x8 : Int) (xl1 : List T_impl_Flow), loopN 1 (Code.den ti (impl_NeedsFlows.Γ k) (impl_NeedsFlows.LH k) (loopAt Tryz.f90 1)) [(1, []), (5, [some 3]), (9, []), (23, [some 6]), (24, []), (25, []), (31, [some 5]), (32, []), (33, [])] [(1, []), (5, [some 3]), (23, [some 6]), (24, []), (25, [])] K n [.v (.int .i64 x0), .v (.sl 1), .v (.ptr 2 0 0), .v (.sl 3), .v (.int .i64 x4), .v (.int .i64 x5), .v (.sl 4), .v (.int .i64 x7), .v (.int .i64 x8)] [.rows 1 false xl0, .rows 3 true xl1, .cells 125 [.int .i64 xc2_0, .int .i64 xc2_1, .int .i64 xc2_2], .rows 6 true xl3, .rows 5 true xl4] = impl_NeedsFlows.l9 k x0 x4 x5 x7 xl0 xc2_0 xc2_1 xc2_2 xl3 xl4 (fun (zl1 : List T_impl_Flow) => K (.exit 2) (stOf [(1, []), (5, [some 3]), (23, [some 6]), (24, []), (25, [])] [.v (.int .i64 x0), .v (.sl 1), .v (.sl 2), .v (.int .i64 x4), .v (.int .i64 x5)] [.rows 1 false xl0, .rows 3 true zl1, .rows 6 true xl3])) n x8 xl1
  | 0, _, _ => rfl
  | n + 1, x8, xl1 => (show loopN 1 (Code.den ti (impl_NeedsFlows.Γ k) (impl_NeedsFlows.LH k) (loopAt Tryz.f90 1)) [(1, []), (5, [some 3]), (9, []), (23, [some 6]), (24, []), (25, []), (31, [some 5]), (32, []), (33, [])] [(1, []), (5, [some 3]), (23, [some 6]), (24, []), (25, [])] K (n + 1) [.v (.int .i64 x0), .v (.sl 1), .v (.ptr 2 0 0), .v (.sl 3), .v (.int .i64 x4), .v (.int .i64 x5), .v (.sl 4), .v (.int .i64 x7), .v (.int .i64 x8)] [.rows 1 false xl0, .rows 3 true xl1, .cells 125 [.int .i64 xc2_0, .int .i64 xc2_1, .int .i64 xc2_2], .rows 6 true xl3, .rows 5 true xl4] = impl_NeedsFlows.L9 k x0 x4 x5 x7 xl0 xc2_0 xc2_1 xc2_2 xl3 xl4 (fun (zl1 : List T_impl_Flow) => K (.exit 2) (stOf [(1, []), (5, [some 3]), (23, [some 6]), (24, []), (25, [])] [.v (.int .i64 x0), .v (.sl 1), .v (.sl 2), .v (.int .i64 x4), .v (.int .i64 x5)] [.rows 1 false xl0, .rows 3 true zl1, .rows 6 true xl3])) (fun (x8' : Int) (xl1' : List T_impl_Flow) => loopN 1 (Code.den ti (impl_NeedsFlows.Γ k) (impl_NeedsFlows.LH k) (loopAt Tryz.f90 1)) [(1, []), (5, [some 3]), (9, []), (23, [some 6]), (24, []), (25, []), (31, [some 5]), (32, []), (33, [])] [(1, []), (5, [some 3]), (23, [some 6]), (24, []), (25, [])] K n [.v (.int .i64 x0), .v (.sl 1), .v (.ptr 2 0 0), .v (.sl 3), .v (.int .i64 x4), .v (.int .i64 x5), .v (.sl 4), .v (.int .i64 x7), .v (.int .i64 x8')] [.rows 1 false xl0, .rows 3 true xl1', .cells 125 [.int .i64 xc2_0, .int .i64 xc2_1, .int .i64 xc2_2], .rows 6 true xl3, .rows 5 true xl4]) x8 xl1 by kernel_rfl).trans (congrArg (fun rec => impl_NeedsFlows.L9 k x0 x4 x5 x7 xl0 xc2_0 xc2_1 xc2_2 xl3 xl4 (fun (zl1 : List T_impl_Flow) => K (.exit 2) (stOf [(1, []), (5, [some 3]), (23, [some 6]), (24, []), (25, [])] [.v (.int .i64 x0), .v (.sl 1), .v (.sl 2), .v (.int .i64 x4), .v (.int .i64 x5)] [.rows 1 false xl0, .rows 3 true zl1, .rows 6 true xl3])) rec x8 xl1) (funext fun x8' => funext fun xl1' => impl_NeedsFlows.e9 K k x0 x4 x5 x7 xl0 xc2_0 xc2_1 xc2_2 xl3 xl4 n x8' xl1'))
theorem impl_NeedsFlows.q9 (k : Nat) {R : Type} (K : Ex → St κ → Option R) (vs : List AV) (bs : List (Blk κ)) (r : R) (h : impl_NeedsFlows.h9 k K vs bs = some r) : ∃ n, loopN 1 (Code.den ti (impl_NeedsFlows.Γ k) (impl_NeedsFlows.LH k) (loopAt Tryz.f90 1)) [(1, []), (5, [some 3]), (9, []), (23, [some 6]), (24, []), (25, []), (31, [some 5]), (32, []), (33, [])] [(1, []), (5, [some 3]), (23, [some 6]), (24, []), (25, [])] K n vs bs = some r := by
  unfold impl_NeedsFlows.h9 at h
  split at h
  · obtain ⟨_, rfl, h_1⟩ := asO_bind h
    obtain ⟨_, rfl, h_2⟩ := asO_bind h_1
    obtain ⟨_, rfl, h_3⟩ := asO_bind h_2
    obtain ⟨_, rfl, h_4⟩ := asO_bind h_3
    exact ⟨k, (impl_NeedsFlows.e9 K k _ _ _ _ _ _ _ _ _ _ k _ _).trans h_4⟩
  · cases h
theorem impl_NeedsFlows.e6 {R : Type} (K : Ex → St κ → Option R) (k : Nat) (x0 : Int) (x3 : Int) (xl0 : List T_impl_Op) (xl2 : List T_impl_Sent) : ∀ (n : Nat) (x4 : Int) (xl1 : List T_impl_Flow), loopN 1 (Code.den ti (impl_NeedsFlows.Γ k) (impl_NeedsFlows.LH k) (loopAt Tryz.f90 0)) [(1, []), (5, [some 3]), (23, [some 6]), (24, []), (25, [])] [(5, [some 3])] K n [.v (.int .i64 x0), .v (.sl 1), .v (.sl 2), .v (.int .i64 x3), .v (.int .i64 x4)] [.rows 1 false xl0, .rows 3 true xl1, .rows 6 true xl2] = impl_NeedsFlows.l6 k x0 x3 xl0 xl2 (fun (zl1 : List T_impl_Flow) => K (.exit 0) (stOf [(5, [some 3])] [.v (.sl 1)] [.rows 1 false xl0, .rows 3 true zl1])) n x4 xl1
  | 0, _, _ => rfl
  | n + 1, x4, xl1 => (show loopN 1 (Code.den ti (impl_NeedsFlows.Γ k) (impl_NeedsFlows.LH k) (loopAt Tryz.f90 0)) [(1, []), (5, [some 3]), (23, [some 6]), (24, []), (25, [])] [(5, [some 3])] K (n + 1) [.v (.int .i64 x0), .v (.sl 1), .v (.sl 2), .v (.int .i64 x3), .v (.int .i64 x4)] [.rows 1 false xl0, .rows 3 true xl1, .rows 6 true xl2] = impl_NeedsFlows.L6 k x0 x3 xl0 xl2 (fun (zl1 : List T_impl_Flow) => K (.exit 0) (stOf [(5, [some 3])] [.v (.sl 1)] [.rows 1 false xl0, .rows 3 true zl1])) (fun (x4' : Int) (xl1' : List T_impl_Flow) => loopN 1 (Code.den ti (impl_NeedsFlows.Γ k) (impl_NeedsFlows.LH k) (loopAt Tryz.f90 0)) [(1, []), (5, [some 3]), (23, [some 6]), (24, []), (25, [])] [(5, [some 3])] K n [.v (.int .i64 x0), .v (.sl 1), .v (.sl 2), .v (.int .i64 x3), .v (.int .i64 x4')] [.rows 1 false xl0, .rows 3 true xl1', .rows 6 true xl2]) x4 xl1 by kernel_rfl).trans (congrArg (fun rec => impl_NeedsFlows.L6 k x0 x3 xl0 xl2 (fun (zl1 : List T_impl_Flow) => K (.exit 0) (stOf [(5, [some 3])] [.v (.sl 1)] [.rows 1 false xl0, .rows 3 true zl1])) rec x4 xl1) (funext fun x4' => funext fun xl1' => impl_NeedsFlows.e6 K k x0 x3 xl0 xl2 n x4' xl1'))
theorem impl_NeedsFlows.q6 (k : Nat) {R : Type} (K : Ex → St κ → Option R) (vs : List AV) (bs : List (Blk κ)) (r : R) (h : impl_NeedsFlows.h6 k K vs bs = some r) : ∃ n, loopN 1 (Code.den ti (impl_NeedsFlows.Γ k) (impl_NeedsFlows.LH k) (loopAt Tryz.f90 0)) [(1, []), (5, [some 3]), (23, [some 6]), (24, []), (25, [])] [(5, [some 3])] K n vs bs = some r := by
  unfold impl_NeedsFlows.h6 at h
  split at h
  · obtain ⟨_, rfl, h_1⟩ := asO_bind h
    obtain ⟨_, rfl, h_2⟩ := asO_bind h_1
    obtain ⟨_, rfl, h_3⟩ := asO_bind h_2
    exact ⟨k, (impl_NeedsFlows.e6 K k _ _ _ _ k _ _).trans h_3⟩
  · cases h
theorem impl_NeedsFlows.lok (k : Nat) : LOK ti (impl_NeedsFlows.Γ k) (impl_NeedsFlows.LH k) 1 (loopsOf (bodyOf Tryz.f90)) :=
  (show loopsOf (bodyOf Tryz.f90) = [loopAt Tryz.f90 0, loopAt Tryz.f90 1] by kernel_rfl) ▸ (LOK_cons (g := ⟨1, [(1, []), (5, [some 3]), (23, [some 6]), (24, []), (25, [])], [(5, [some 3])], @impl_NeedsFlows.h6 k⟩) (by kernel_rfl) rfl (fun K vs xs r h => impl_NeedsFlows.q6 k K vs xs r h) (LOK_cons (g := ⟨1, [(1, []), (5, [some 3]), (9, []), (23, [some 6]), (24, []), (25, []), (31, [some 5]), (32, []), (33, [])], [(1, []), (5, [some 3]), (23, [some 6]), (24, []), (25, [])], @impl_NeedsFlows.h9 k⟩) (by kernel_rfl) rfl (fun K vs xs r h => impl_NeedsFlows.q9 k K vs xs r h) (LOK_nil)))
def impl_NeedsFlows.sig : List PSh := [.one (.ro 1), .one .sc]
def impl_NeedsFlows.g (y : List T_impl_Flow) : Ret κ := ⟨.v (.sl 1), [], [.rows 3 true y]⟩
def impl_NeedsFlows.out (r : Ret κ) : Option (List T_impl_Flow) :=
  match r with
  | ⟨.v (.sl 1), [], [q0]⟩ => (asO 3 true q0).bind fun z0 => some (z0)
  | _ => none
theorem impl_NeedsFlows.out_ok (r : Ret κ) (y : List T_impl_Flow) (h : impl_NeedsFlows.out r = some y) : r = impl_NeedsFlows.g y := by
  unfold impl_NeedsFlows.out at h
  split at h
  · obtain ⟨_, rfl, h_1⟩ := asO_bind h
    obtain rfl := Option.some.inj h_1
    rfl
  · cases h
def impl_NeedsFlows.body (k : Nat) (vs : List AV) (bs : List (Blk κ)) : Option (Lf κ) :=
  match vs, bs with
  | [.v (.sl 0), .v (.int .i64 a1)], [qb0] => (asO 1 false qb0).bind fun a0 => some ⟨List T_impl_Flow, impl_NeedsFlows.f k a0 a1, impl_NeedsFlows.g⟩
  | _, _ => none
def impl_NeedsFlows.C (k : Nat) : Nat → List AV → AP κ AV := contract impl_NeedsFlows.sig (impl_NeedsFlows.body k)
theorem impl_NeedsFlows.den (k : Nat) (a0 : List T_impl_Op) (a1 : Int) : Code.den ti (impl_NeedsFlows.Γ k) (impl_NeedsFlows.LH k) (bodyOf Tryz.f90) (finK ti Tryz.f90.results.toList [(4, [some 3])] (flags impl_NeedsFlows.sig).length (rwI (flags impl_NeedsFlows.sig) 0) impl_NeedsFlows.out) ⟨envOf (([.v (.sl 0), .v (.int .i64 a1)]).zipIdx.map fun q => (q.2, q.1)), hpOf [.rows 1 false a0], (flags impl_NeedsFlows.sig).length⟩ = impl_NeedsFlows.f k a0 a1 := by kernel_rfl
theorem impl_NeedsFlows.ok (k : Nat) : CSound Tryz.prog 90 (impl_NeedsFlows.C k) :=
  csound κ_ok mixed tok (impl_NeedsFlows.hΓ k) (LH := impl_NeedsFlows.LH k) (fn := Tryz.f90) (c := bodyOf Tryz.f90) Tryz.func90 rfl Tryz.call90 impl_NeedsFlows.sig [(4, [some 3])] (impl_NeedsFlows.body k) (by kernel_rfl) (impl_NeedsFlows.lok k) (by decide) fun vs bs lf y hl hb hy => by
    unfold impl_NeedsFlows.body at hb
    split at hb
    · obtain ⟨_, rfl, hb_1⟩ := asO_bind hb
      obtain rfl := Option.some.inj hb_1
      exact ⟨impl_NeedsFlows.out, impl_NeedsFlows.out_ok, (impl_NeedsFlows.den k _ _).trans hy⟩
    · cases hb
/-! ### impl_FlowsWithin -/
def impl_FlowsWithin.L2 {R : Type} (k : Nat) (x2 : Int) (xl0 : List T_impl_Flow) (xl1 : List T_impl_Flow) (X0 : Bool → Option R) (X1 : Unit → Option R) (rec : Int → Option R) (x3 : Int) : Option R :=
  (bif decide (x3 < x2) then (bif decide (0 ≤ x3) then (bif decide (x3 < (xl0.length : Int)) then (impl_IsFlow.f k ((rd_impl_Flow xl0 x3).f0) ((rd_impl_Flow xl0 x3).f1) ((rd_impl_Flow xl0 x3).f2)).bind fun t1 => (bif !t1 then (X0 false) else (slices_Contains_Flow.f k xl1 ((rd_impl_Flow xl0 x3).f0) ((rd_impl_Flow xl0 x3).f1) ((rd_impl_Flow xl0 x3).f2)).bind fun t2 => (bif !t2 then (X0 false) else (rec (w64 (x3 + (1 : Int)))))) else none) else none) else (X1 ()))
def impl_FlowsWithin.l2 {R : Type} (k : Nat) (x2 : Int) (xl0 : List T_impl_Flow) (xl1 : List T_impl_Flow) (X0 : Bool → Option R) (X1 : Unit → Option R) : Nat → Int → Option R
  | 0 => fun _ => none
  | n + 1 => impl_FlowsWithin.L2 k x2 xl0 xl1 X0 X1 (impl_FlowsWithin.l2 k x2 xl0 xl1 X0 X1 n)
def impl_FlowsWithin.f (k : Nat) (a0 : List T_impl_Flow) (a1 : List T_impl_Flow) : Option Bool :=
  (impl_FlowsWithin.l2 k (a0.length : Int) a0 a1 (fun (y3 : Bool) => some y3) (fun (_ : Unit) => some true) k (0 : Int))
def impl_FlowsWithin.h2 (k : Nat) {R : Type} (K : Ex → St κ → Option R) (vs : List AV) (bs : List (Blk κ)) : Option R :=
  match vs, bs with
  | [.v (.sl 1), .v (.sl 0), .v (.int .i64 x2), .v (.int .i64 x3)], [qb0, qb1] => (asO 3 false qb0).bind fun xl0 => (asO 3 false qb1).bind fun xl1 => impl_FlowsWithin.l2 k x2 xl0 xl1 (fun (z0 : Bool) => K .ret (stOf [(4, [])] [.v (.bool z0)] [.rows 3 false xl0, .rows 3 false xl1])) (fun (_ : Unit) => K (.exit 0) (stOf [(4, [])] [.v .any] [.rows 3 false xl0, .rows 3 false xl1])) k x3
  | _, _ => none
def impl_FlowsWithin.Γ (k : Nat) : Ct κ := assoc [(78, impl_IsFlow.C k), (79, slices_Contains_Flow.C k)]
def impl_FlowsWithin.LH (k : Nat) : Nat → Option (LHi κ) := assoc [(2, ⟨2, [(1, [some 3]), (7, [some 3]), (8, []), (9, [])], [(4, [])], @impl_FlowsWithin.h2 k⟩)]
theorem impl_FlowsWithin.hΓ (k : Nat) : ∀ f g, impl_FlowsWithin.Γ k f = some g → CSound Tryz.prog f g := G_cons (impl_IsFlow.ok k) (G_cons (slices_Contains_Flow.ok k) G_nil)
theorem impl_FlowsWithin.e2 {R : Type} (K : Ex → St κ → Option R) (k : Nat) (x2 : Int) (xl0 : List T_impl_Flow) (xl1 : List T_impl_Flow) : ∀ (n : Nat) (x3 : Int), loopN 2 (Code.den ti (impl_FlowsWithin.Γ k) (impl_FlowsWithin.LH k) (loopAt Tryz.f28 0)) [(1, [some 3]), (7, [some 3]), (8, []), (9, [])] [(4, [])] K n [.v (.sl 1), .v (.sl 0), .v (.int .i64 x2), .v (.int .i64 x3)] [.rows 3 false xl0, .rows 3 false xl1] = impl_FlowsWithin.l2 k x2 xl0 xl1 (fun (z0 : Bool) => K .ret (stOf [(4, [])] [.v (.bool z0)] [.rows 3 false xl0, .rows 3 false xl1])) (fun (_ : Unit) => K (.exit 0) (stOf [(4, [])] [.v .any] [.rows 3 false xl0, .rows 3 false xl1])) n x3
  | 0, _ => rfl
  | n + 1, x3 => (show loopN 2 (Code.den ti (impl_FlowsWithin.Γ k) (impl_FlowsWithin.LH k) (loopAt Tryz.f28 0)) [(1, [some 3]), (7, [some 3]), (8, []), (9, [])] [(4, [])] K (n + 1) [.v (.sl 1), .v (.sl 0), .v (.int .i64 x2), .v (.int .i64 x3)] [.rows 3 false xl0, .rows 3 false xl1] = impl_FlowsWithin.L2 k x2 xl0 xl1 (fun (z0 : Bool) => K .ret (stOf [(4, [])] [.v (.bool z0)] [.rows 3 false xl0, .rows 3 false xl1])) (fun (_ : Unit) => K (.exit 0) (stOf [(4, [])] [.v .any] [.rows 3 false xl0, .rows 3 false xl1])) (fun (x3' : Int) => loopN 2 (Code.den ti (impl_FlowsWithin.Γ k) (impl_FlowsWithin.LH k) (loopAt Tryz.f28 0)) [(1, [some 3]), (7, [some 3]), (8, []), (9, [])] [(4, [])] K n [.v (.sl 1), .v (.sl 0), .v (.int .i64 x2), .v (.int .i64 x3')] [.rows 3 false xl0, .rows 3 false xl1]) x3 by kernel_rfl).trans (congrArg (fun rec => impl_FlowsWithin.L2 k x2 xl0 xl1 (fun (z0 : Bool) => K .ret (stOf [(4, [])] [.v (.bool z0)] [.rows 3 false xl0, .rows 3 false xl1])) (fun (_ : Unit) => K (.exit 0) (stOf [(4, [])] [.v .any] [.rows 3 false xl0, .rows 3 false xl1])) rec x3) (funext fun x3' => impl_FlowsWithin.e2 K k x2 xl0 xl1 n x3'))
theorem impl_FlowsWithin.q2 (k : Nat) {R : Type} (K : Ex → St κ → Option R) (vs : List AV) (bs : List (Blk κ)) (r : R) (h : impl_FlowsWithin.h2 k K vs bs = some r) : ∃ n, loopN 2 (Code.den ti (impl_FlowsWithin.Γ k) (impl_FlowsWithin.LH k) (loopAt Tryz.f28 0)) [(1, [some 3]), (7, [some 3]), (8, []), (9, [])] [(4, [])] K n vs bs = some r := by
  unfold impl_FlowsWithin.h2 at h
  split at h
  · obtain ⟨_, rfl, h_1⟩ := asO_bind h
    obtain ⟨_, rfl, h_2⟩ := asO_bind h_1
    exact ⟨k, (impl_FlowsWithin.e2 K k _ _ _ k _).trans h_2⟩
  · cases h
theorem impl_FlowsWithin.lok (k : Nat) : LOK ti (impl_FlowsWithin.Γ k) (impl_FlowsWithin.LH k) 2 (loopsOf (bodyOf Tryz.f28)) :=
  (show loopsOf (bodyOf Tryz.f28) = [loopAt Tryz.f28 0] by kernel_rfl) ▸ (LOK_cons (g := ⟨2, [(1, [some 3]), (7, [some 3]), (8, []), (9, [])], [(4, [])], @impl_FlowsWithin.h2 k⟩) (by kernel_rfl) rfl (fun K vs xs r h => impl_FlowsWithin.q2 k K vs xs r h) (LOK_nil))
def impl_FlowsWithin.sig : List PSh := [.one (.ro 3), .one (.ro 3)]
def impl_FlowsWithin.g (y : Bool) : Ret κ := ⟨.v (.bool y), [], []⟩
def impl_FlowsWithin.out (r : Ret κ) : Option Bool :=
  match r with
  | ⟨.v (.bool z0), [], []⟩ => some (z0)
  | _ => none
theorem impl_FlowsWithin.out_ok (r : Ret κ) (y : Bool) (h : impl_FlowsWithin.out r = some y) : r = impl_FlowsWithin.g y := by
  unfold impl_FlowsWithin.out at h
  split at h
  · obtain rfl := Option.some.inj h
    rfl
  · cases h
def impl_FlowsWithin.body (k : Nat) (vs : List AV) (bs : List (Blk κ)) : Option (Lf κ) :=
  match vs, bs with
  | [.v (.sl 0), .v (.sl 1)], [qb0, qb1] => (asO 3 false qb0).bind fun a0 => (asO 3 false qb1).bind fun a1 => some ⟨Bool, impl_FlowsWithin.f k a0 a1, impl_FlowsWithin.g⟩
  | _, _ => none
def impl_FlowsWithin.C (k : Nat) : Nat → List AV → AP κ AV := contract impl_FlowsWithin.sig (impl_FlowsWithin.body k)
theorem impl_FlowsWithin.den (k : Nat) (a0 : List T_impl_Flow) (a1 : List T_impl_Flow) : Code.den ti (impl_FlowsWithin.Γ k) (impl_FlowsWithin.LH k) (bodyOf Tryz.f28) (finK ti Tryz.f28.results.toList [] (flags impl_FlowsWithin.sig).length (rwI (flags impl_FlowsWithin.sig) 0) impl_FlowsWithin.out) ⟨envOf (([.v (.sl 0), .v (.sl 1)]).zipIdx.map fun q => (q.2, q.1)), hpOf [.rows 3 false a0, .rows 3 false a1], (flags impl_FlowsWithin.sig).length⟩ = impl_FlowsWithin.f k a0 a1 := by kernel_rfl
theorem impl_FlowsWithin.ok (k : Nat) : CSound Tryz.prog 28 (impl_FlowsWithin.C k) :=
  csound κ_ok mixed tok (impl_FlowsWithin.hΓ k) (LH := impl_FlowsWithin.LH k) (fn := Tryz.f28) (c := bodyOf Tryz.f28) Tryz.func28 rfl Tryz.call28 impl_FlowsWithin.sig [] (impl_FlowsWithin.body k) (by kernel_rfl) (impl_FlowsWithin.lok k) (by decide) fun vs bs lf y hl hb hy => by
    unfold impl_FlowsWithin.body at hb
    split at hb
    · obtain ⟨_, rfl, hb_1⟩ := asO_bind hb
      obtain ⟨_, rfl, hb_2⟩ := asO_bind hb_1
      obtain rfl := Option.some.inj hb_2
      exact ⟨impl_FlowsWithin.out, impl_FlowsWithin.out_ok, (impl_FlowsWithin.den k _ _).trans hy⟩
    · cases hb
/-! ### impl_IsTightFor -/
def impl_IsTightFor.f (k : Nat) (a0 : List T_impl_Op) (a1 : List T_impl_Flow) (a2 : Int) : Option Bool :=
  (impl_AreOps.f k a0).bind fun t1 => (bif t1 then (impl_NeedsFlows.f k a0 a2).bind fun t2 => (impl_FlowsWithin.f k t2 a1).bind fun t3 => some t3 else some false)
def impl_IsTightFor.Γ (k : Nat) : Ct κ := assoc [(89, impl_AreOps.C k), (90, impl_NeedsFlows.C k), (28, impl_FlowsWithin.C k)]
def impl_IsTightFor.LH (k : Nat) : Nat → Option (LHi κ) := assoc []
theorem impl_IsTightFor.hΓ (k : Nat) : ∀ f g, impl_IsTightFor.Γ k f = some g → CSound Tryz.prog f g := G_cons (impl_AreOps.ok k) (G_cons (impl_NeedsFlows.ok k) (G_cons (impl_FlowsWithin.ok k) G_nil))
theorem impl_IsTightFor.lok (k : Nat) : LOK ti (impl_IsTightFor.Γ k) (impl_IsTightFor.LH k) 2 (loopsOf (bodyOf Tryz.f35)) :=
  (show loopsOf (bodyOf Tryz.f35) = [] by kernel_rfl) ▸ LOK_nil
def impl_IsTightFor.sig : List PSh := [.one (.ro 1), .one (.ro 3), .one .sc]
def impl_IsTightFor.g (y : Bool) : Ret κ := ⟨.v (.bool y), [], []⟩
def impl_IsTightFor.out (r : Ret κ) : Option Bool :=
  match r with
  | ⟨.v (.bool z0), [], []⟩ => some (z0)
  | _ => none
theorem impl_IsTightFor.out_ok (r : Ret κ) (y : Bool) (h : impl_IsTightFor.out r = some y) : r = impl_IsTightFor.g y := by
  unfold impl_IsTightFor.out at h
  split at h
  · obtain rfl := Option.some.inj h
    rfl
  · cases h
def impl_IsTightFor.body (k : Nat) (vs : List AV) (bs : List (Blk κ)) : Option (Lf κ) :=
  match vs, bs with
  | [.v (.sl 0), .v (.sl 1), .v (.int .i64 a2)], [qb0, qb1] => (asO 1 false qb0).bind fun a0 => (asO 3 false qb1).bind fun a1 => some ⟨Bool, impl_IsTightFor.f k a0 a1 a2, impl_IsTightFor.g⟩
  | _, _ => none
def impl_IsTightFor.C (k : Nat) : Nat → List AV → AP κ AV := contract impl_IsTightFor.sig (impl_IsTightFor.body k)
theorem impl_IsTightFor.den (k : Nat) (a0 : List T_impl_Op) (a1 : List T_impl_Flow) (a2 : Int) : Code.den ti (impl_IsTightFor.Γ k) (impl_IsTightFor.LH k) (bodyOf Tryz.f35) (finK ti Tryz.f35.results.toList [] (flags impl_IsTightFor.sig).length (rwI (flags impl_IsTightFor.sig) 0) impl_IsTightFor.out) ⟨envOf (([.v (.sl 0), .v (.sl 1), .v (.int .i64 a2)]).zipIdx.map fun q => (q.2, q.1)), hpOf [.rows 1 false a0, .rows 3 false a1], (flags impl_IsTightFor.sig).length⟩ = impl_IsTightFor.f k a0 a1 a2 := by kernel_rfl
theorem impl_IsTightFor.ok (k : Nat) : CSound Tryz.prog 35 (impl_IsTightFor.C k) :=
  csound κ_ok mixed tok (impl_IsTightFor.hΓ k) (LH := impl_IsTightFor.LH k) (fn := Tryz.f35) (c := bodyOf Tryz.f35) Tryz.func35 rfl Tryz.call35 impl_IsTightFor.sig [] (impl_IsTightFor.body k) (by kernel_rfl) (impl_IsTightFor.lok k) (by decide) fun vs bs lf y hl hb hy => by
    unfold impl_IsTightFor.body at hb
    split at hb
    · obtain ⟨_, rfl, hb_1⟩ := asO_bind hb
      obtain ⟨_, rfl, hb_2⟩ := asO_bind hb_1
      obtain rfl := Option.some.inj hb_2
      exact ⟨impl_IsTightFor.out, impl_IsTightFor.out_ok, (impl_IsTightFor.den k _ _ _).trans hy⟩
    · cases hb
/-! ### impl_ReviewPackage -/
def impl_ReviewPackage.L6 {R : Type} (k : Nat) (x2 : Int) (xl0 : List T_impl_Grant) (xl1 : List T_impl_Flow) (xl2 : List T_impl_Rule) (xl3 : List T_impl_Op) (xc4_0 : Int) (xc4_1 : Int) (xc4_2 : Int) (xc4_7 : Int) (X0 : Int → Option R) (X1 : Unit → Option R) (rec : Int → Option R) (x3 : Int) : Option R :=
  (bif decide (x3 < x2) then (bif decide (0 ≤ x3) then (bif decide (x3 < (xl2.length : Int)) then (impl_covered.f k xl0 ((rd_impl_Rule xl2 x3).f2.f0) ((rd_impl_Rule xl2 x3).f2.f1)).bind fun t3 => (bif !t3 then (X0 (3 : Int)) else (rec (w64 (x3 + (1 : Int))))) else none) else none) else (X1 ()))
def impl_ReviewPackage.l6 {R : Type} (k : Nat) (x2 : Int) (xl0 : List T_impl_Grant) (xl1 : List T_impl_Flow) (xl2 : List T_impl_Rule) (xl3 : List T_impl_Op) (xc4_0 : Int) (xc4_1 : Int) (xc4_2 : Int) (xc4_7 : Int) (X0 : Int → Option R) (X1 : Unit → Option R) : Nat → Int → Option R
  | 0 => fun _ => none
  | n + 1 => impl_ReviewPackage.L6 k x2 xl0 xl1 xl2 xl3 xc4_0 xc4_1 xc4_2 xc4_7 X0 X1 (impl_ReviewPackage.l6 k x2 xl0 xl1 xl2 xl3 xc4_0 xc4_1 xc4_2 xc4_7 X0 X1 n)
def impl_ReviewPackage.f (k : Nat) (a0 : Int) (a1_0 : Int) (a1_1 : Int) (a1_2 : Int) (a1_3 : List T_impl_Grant) (a1_4 : List T_impl_Flow) (a1_5 : List T_impl_Rule) (a1_6 : List T_impl_Op) (a1_7 : Int) : Option Int :=
  (impl_IsPackage.f k a1_0 a1_1 a1_2 a1_3 a1_4 a1_5 a1_6 a1_7).bind fun t1 => (bif !t1 then some (1 : Int) else (impl_IsSealed.f k a0 a1_0 a1_1 a1_2 a1_3 a1_4 a1_5 a1_6 a1_7).bind fun t2 => (bif !t2 then some (2 : Int) else (impl_ReviewPackage.l6 k (a1_5.length : Int) a1_3 a1_4 a1_5 a1_6 a1_0 a1_1 a1_2 a1_7 (fun (y4 : Int) => some y4) (fun (_ : Unit) => (impl_OwnersRead.f k a1_6).bind fun t5 => (impl_allGranted.f k a1_3 (1 : Int) t5).bind fun t6 => (bif !t6 then some (4 : Int) else (impl_OwnersSent.f k a1_6).bind fun t7 => (impl_allGranted.f k a1_3 (3 : Int) t7).bind fun t8 => (bif !t8 then some (5 : Int) else (impl_IsTightFor.f k a1_6 a1_4 a1_0).bind fun t9 => (bif !t9 then some (6 : Int) else some (0 : Int))))) k (0 : Int))))
def impl_ReviewPackage.h6 (k : Nat) {R : Type} (K : Ex → St κ → Option R) (vs : List AV) (bs : List (Blk κ)) : Option R :=
  match vs, bs with
  | [.v (.ptr 4 0 0), .v (.sl 2), .v (.int .i64 x2), .v (.int .i64 x3)], [qb0, qb1, qb2, qb3, .cells 39 [.int .i64 xc4_0, .int .i64 xc4_1, .int .i64 xc4_2, .sl 0, .sl 1, .sl 2, .sl 3, .int .i64 xc4_7]] => (asO 2 false qb0).bind fun xl0 => (asO 3 false qb1).bind fun xl1 => (asO 4 false qb2).bind fun xl2 => (asO 1 false qb3).bind fun xl3 => impl_ReviewPackage.l6 k x2 xl0 xl1 xl2 xl3 xc4_0 xc4_1 xc4_2 xc4_7 (fun (z1 : Int) => K .ret (stOf [(3, [none, none, none, some 2, some 3, some 4, some 1, none]), (4, [])] [.v (.ptr 4 0 0), .v (.int .i64 z1)] [.rows 2 false xl0, .rows 3 false xl1, .rows 4 false xl2, .rows 1 false xl3, .cells 39 [.int .i64 xc4_0, .int .i64 xc4_1, .int .i64 xc4_2, .sl 0, .sl 1, .sl 2, .sl 3, .int .i64 xc4_7]])) (fun (_ : Unit) => K (.exit 0) (stOf [(3, [none, none, none, some 2, some 3, some 4, some 1, none]), (4, [])] [.v (.ptr 4 0 0), .v .any] [.rows 2 false xl0, .rows 3 false xl1, .rows 4 false xl2, .rows 1 false xl3, .cells 39 [.int .i64 xc4_0, .int .i64 xc4_1, .int .i64 xc4_2, .sl 0, .sl 1, .sl 2, .sl 3, .int .i64 xc4_7]])) k x3
  | _, _ => none
def impl_ReviewPackage.Γ (k : Nat) : Ct κ := assoc [(53, impl_IsPackage.C k), (34, impl_IsSealed.C k), (74, impl_covered.C k), (36, impl_OwnersRead.C k), (75, impl_allGranted.C k), (38, impl_OwnersSent.C k), (35, impl_IsTightFor.C k)]
def impl_ReviewPackage.LH (k : Nat) : Nat → Option (LHi κ) := assoc [(6, ⟨4, [(3, [none, none, none, some 2, some 3, some 4, some 1, none]), (15, [some 4]), (16, []), (17, [])], [(3, [none, none, none, some 2, some 3, some 4, some 1, none]), (4, [])], @impl_ReviewPackage.h6 k⟩)]
theorem impl_ReviewPackage.hΓ (k : Nat) : ∀ f g, impl_ReviewPackage.Γ k f = some g → CSound Tryz.prog f g := G_cons (impl_IsPackage.ok k) (G_cons (impl_IsSealed.ok k) (G_cons (impl_covered.ok k) (G_cons (impl_OwnersRead.ok k) (G_cons (impl_allGranted.ok k) (G_cons (impl_OwnersSent.ok k) (G_cons (impl_IsTightFor.ok k) G_nil))))))
theorem impl_ReviewPackage.e6 {R : Type} (K : Ex → St κ → Option R) (k : Nat) (x2 : Int) (xl0 : List T_impl_Grant) (xl1 : List T_impl_Flow) (xl2 : List T_impl_Rule) (xl3 : List T_impl_Op) (xc4_0 : Int) (xc4_1 : Int) (xc4_2 : Int) (xc4_7 : Int) : ∀ (n : Nat) (x3 : Int), loopN 4 (Code.den ti (impl_ReviewPackage.Γ k) (impl_ReviewPackage.LH k) (loopAt Tryz.f26 0)) [(3, [none, none, none, some 2, some 3, some 4, some 1, none]), (15, [some 4]), (16, []), (17, [])] [(3, [none, none, none, some 2, some 3, some 4, some 1, none]), (4, [])] K n [.v (.ptr 4 0 0), .v (.sl 2), .v (.int .i64 x2), .v (.int .i64 x3)] [.rows 2 false xl0, .rows 3 false xl1, .rows 4 false xl2, .rows 1 false xl3, .cells 39 [.int .i64 xc4_0, .int .i64 xc4_1, .int .i64 xc4_2, .sl 0, .sl 1, .sl 2, .sl 3, .int .i64 xc4_7]] = impl_ReviewPackage.l6 k x2 xl0 xl1 xl2 xl3 xc4_0 xc4_1 xc4_2 xc4_7 (fun (z1 : Int) => K .ret (stOf [(3, [none, none, none, some 2, some 3, some 4, some 1, none]), (4, [])] [.v (.ptr 4 0 0), .v (.int .i64 z1)] [.rows 2 false xl0, .rows 3 false xl1, .rows 4 false xl2, .rows 1 false xl3, .cells 39 [.int .i64 xc4_0, .int .i64 xc4_1, .int .i64 xc4_2, .sl 0, .sl 1, .sl 2, .sl 3, .int .i64 xc4_7]])) (fun (_ : Unit) => K (.exit 0) (stOf [(3, [none, none, none, some 2, some 3, some 4, some 1, none]), (4, [])] [.v (.ptr 4 0 0), .v .any] [.rows 2 false xl0, .rows 3 false xl1, .rows 4 false xl2, .rows 1 false xl3, .cells 39 [.int .i64 xc4_0, .int .i64 xc4_1, .int .i64 xc4_2, .sl 0, .sl 1, .sl 2, .sl 3, .int .i64 xc4_7]])) n x3
  | 0, _ => rfl
  | n + 1, x3 => (show loopN 4 (Code.den ti (impl_ReviewPackage.Γ k) (impl_ReviewPackage.LH k) (loopAt Tryz.f26 0)) [(3, [none, none, none, some 2, some 3, some 4, some 1, none]), (15, [some 4]), (16, []), (17, [])] [(3, [none, none, none, some 2, some 3, some 4, some 1, none]), (4, [])] K (n + 1) [.v (.ptr 4 0 0), .v (.sl 2), .v (.int .i64 x2), .v (.int .i64 x3)] [.rows 2 false xl0, .rows 3 false xl1, .rows 4 false xl2, .rows 1 false xl3, .cells 39 [.int .i64 xc4_0, .int .i64 xc4_1, .int .i64 xc4_2, .sl 0, .sl 1, .sl 2, .sl 3, .int .i64 xc4_7]] = impl_ReviewPackage.L6 k x2 xl0 xl1 xl2 xl3 xc4_0 xc4_1 xc4_2 xc4_7 (fun (z1 : Int) => K .ret (stOf [(3, [none, none, none, some 2, some 3, some 4, some 1, none]), (4, [])] [.v (.ptr 4 0 0), .v (.int .i64 z1)] [.rows 2 false xl0, .rows 3 false xl1, .rows 4 false xl2, .rows 1 false xl3, .cells 39 [.int .i64 xc4_0, .int .i64 xc4_1, .int .i64 xc4_2, .sl 0, .sl 1, .sl 2, .sl 3, .int .i64 xc4_7]])) (fun (_ : Unit) => K (.exit 0) (stOf [(3, [none, none, none, some 2, some 3, some 4, some 1, none]), (4, [])] [.v (.ptr 4 0 0), .v .any] [.rows 2 false xl0, .rows 3 false xl1, .rows 4 false xl2, .rows 1 false xl3, .cells 39 [.int .i64 xc4_0, .int .i64 xc4_1, .int .i64 xc4_2, .sl 0, .sl 1, .sl 2, .sl 3, .int .i64 xc4_7]])) (fun (x3' : Int) => loopN 4 (Code.den ti (impl_ReviewPackage.Γ k) (impl_ReviewPackage.LH k) (loopAt Tryz.f26 0)) [(3, [none, none, none, some 2, some 3, some 4, some 1, none]), (15, [some 4]), (16, []), (17, [])] [(3, [none, none, none, some 2, some 3, some 4, some 1, none]), (4, [])] K n [.v (.ptr 4 0 0), .v (.sl 2), .v (.int .i64 x2), .v (.int .i64 x3')] [.rows 2 false xl0, .rows 3 false xl1, .rows 4 false xl2, .rows 1 false xl3, .cells 39 [.int .i64 xc4_0, .int .i64 xc4_1, .int .i64 xc4_2, .sl 0, .sl 1, .sl 2, .sl 3, .int .i64 xc4_7]]) x3 by kernel_rfl).trans (congrArg (fun rec => impl_ReviewPackage.L6 k x2 xl0 xl1 xl2 xl3 xc4_0 xc4_1 xc4_2 xc4_7 (fun (z1 : Int) => K .ret (stOf [(3, [none, none, none, some 2, some 3, some 4, some 1, none]), (4, [])] [.v (.ptr 4 0 0), .v (.int .i64 z1)] [.rows 2 false xl0, .rows 3 false xl1, .rows 4 false xl2, .rows 1 false xl3, .cells 39 [.int .i64 xc4_0, .int .i64 xc4_1, .int .i64 xc4_2, .sl 0, .sl 1, .sl 2, .sl 3, .int .i64 xc4_7]])) (fun (_ : Unit) => K (.exit 0) (stOf [(3, [none, none, none, some 2, some 3, some 4, some 1, none]), (4, [])] [.v (.ptr 4 0 0), .v .any] [.rows 2 false xl0, .rows 3 false xl1, .rows 4 false xl2, .rows 1 false xl3, .cells 39 [.int .i64 xc4_0, .int .i64 xc4_1, .int .i64 xc4_2, .sl 0, .sl 1, .sl 2, .sl 3, .int .i64 xc4_7]])) rec x3) (funext fun x3' => impl_ReviewPackage.e6 K k x2 xl0 xl1 xl2 xl3 xc4_0 xc4_1 xc4_2 xc4_7 n x3'))
theorem impl_ReviewPackage.q6 (k : Nat) {R : Type} (K : Ex → St κ → Option R) (vs : List AV) (bs : List (Blk κ)) (r : R) (h : impl_ReviewPackage.h6 k K vs bs = some r) : ∃ n, loopN 4 (Code.den ti (impl_ReviewPackage.Γ k) (impl_ReviewPackage.LH k) (loopAt Tryz.f26 0)) [(3, [none, none, none, some 2, some 3, some 4, some 1, none]), (15, [some 4]), (16, []), (17, [])] [(3, [none, none, none, some 2, some 3, some 4, some 1, none]), (4, [])] K n vs bs = some r := by
  unfold impl_ReviewPackage.h6 at h
  split at h
  · obtain ⟨_, rfl, h_1⟩ := asO_bind h
    obtain ⟨_, rfl, h_2⟩ := asO_bind h_1
    obtain ⟨_, rfl, h_3⟩ := asO_bind h_2
    obtain ⟨_, rfl, h_4⟩ := asO_bind h_3
    exact ⟨k, (impl_ReviewPackage.e6 K k _ _ _ _ _ _ _ _ _ k _).trans h_4⟩
  · cases h
theorem impl_ReviewPackage.lok (k : Nat) : LOK ti (impl_ReviewPackage.Γ k) (impl_ReviewPackage.LH k) 4 (loopsOf (bodyOf Tryz.f26)) :=
  (show loopsOf (bodyOf Tryz.f26) = [loopAt Tryz.f26 0] by kernel_rfl) ▸ (LOK_cons (g := ⟨4, [(3, [none, none, none, some 2, some 3, some 4, some 1, none]), (15, [some 4]), (16, []), (17, [])], [(3, [none, none, none, some 2, some 3, some 4, some 1, none]), (4, [])], @impl_ReviewPackage.h6 k⟩) (by kernel_rfl) rfl (fun K vs xs r h => impl_ReviewPackage.q6 k K vs xs r h) (LOK_nil))
def impl_ReviewPackage.sig : List PSh := [.one .sc, .agg [.sc, .sc, .sc, .ro 2, .ro 3, .ro 4, .ro 1, .sc]]
def impl_ReviewPackage.g (y : Int) : Ret κ := ⟨.v (.int .i64 y), [], []⟩
def impl_ReviewPackage.out (r : Ret κ) : Option Int :=
  match r with
  | ⟨.v (.int .i64 z0), [], []⟩ => some (z0)
  | _ => none
theorem impl_ReviewPackage.out_ok (r : Ret κ) (y : Int) (h : impl_ReviewPackage.out r = some y) : r = impl_ReviewPackage.g y := by
  unfold impl_ReviewPackage.out at h
  split at h
  · obtain rfl := Option.some.inj h
    rfl
  · cases h
def impl_ReviewPackage.body (k : Nat) (vs : List AV) (bs : List (Blk κ)) : Option (Lf κ) :=
  match vs, bs with
  | [.v (.int .i64 a0), .agg [.int .i64 a1_0, .int .i64 a1_1, .int .i64 a1_2, .sl 0, .sl 1, .sl 2, .sl 3, .int .i64 a1_7]], [qb0, qb1, qb2, qb3] => (asO 2 false qb0).bind fun a1_3 => (asO 3 false qb1).bind fun a1_4 => (asO 4 false qb2).bind fun a1_5 => (asO 1 false qb3).bind fun a1_6 => some ⟨Int, impl_ReviewPackage.f k a0 a1_0 a1_1 a1_2 a1_3 a1_4 a1_5 a1_6 a1_7, impl_ReviewPackage.g⟩
  | _, _ => none
def impl_ReviewPackage.C (k : Nat) : Nat → List AV → AP κ AV := contract impl_ReviewPackage.sig (impl_ReviewPackage.body k)
theorem impl_ReviewPackage.den (k : Nat) (a0 : Int) (a1_0 : Int) (a1_1 : Int) (a1_2 : Int) (a1_3 : List T_impl_Grant) (a1_4 : List T_impl_Flow) (a1_5 : List T_impl_Rule) (a1_6 : List T_impl_Op) (a1_7 : Int) : Code.den ti (impl_ReviewPackage.Γ k) (impl_ReviewPackage.LH k) (bodyOf Tryz.f26) (finK ti Tryz.f26.results.toList [] (flags impl_ReviewPackage.sig).length (rwI (flags impl_ReviewPackage.sig) 0) impl_ReviewPackage.out) ⟨envOf (([.v (.int .i64 a0), .agg [.int .i64 a1_0, .int .i64 a1_1, .int .i64 a1_2, .sl 0, .sl 1, .sl 2, .sl 3, .int .i64 a1_7]]).zipIdx.map fun q => (q.2, q.1)), hpOf [.rows 2 false a1_3, .rows 3 false a1_4, .rows 4 false a1_5, .rows 1 false a1_6], (flags impl_ReviewPackage.sig).length⟩ = impl_ReviewPackage.f k a0 a1_0 a1_1 a1_2 a1_3 a1_4 a1_5 a1_6 a1_7 := by kernel_rfl
theorem impl_ReviewPackage.ok (k : Nat) : CSound Tryz.prog 26 (impl_ReviewPackage.C k) :=
  csound κ_ok mixed tok (impl_ReviewPackage.hΓ k) (LH := impl_ReviewPackage.LH k) (fn := Tryz.f26) (c := bodyOf Tryz.f26) Tryz.func26 rfl Tryz.call26 impl_ReviewPackage.sig [] (impl_ReviewPackage.body k) (by kernel_rfl) (impl_ReviewPackage.lok k) (by decide) fun vs bs lf y hl hb hy => by
    unfold impl_ReviewPackage.body at hb
    split at hb
    · obtain ⟨_, rfl, hb_1⟩ := asO_bind hb
      obtain ⟨_, rfl, hb_2⟩ := asO_bind hb_1
      obtain ⟨_, rfl, hb_3⟩ := asO_bind hb_2
      obtain ⟨_, rfl, hb_4⟩ := asO_bind hb_3
      obtain rfl := Option.some.inj hb_4
      exact ⟨impl_ReviewPackage.out, impl_ReviewPackage.out_ok, (impl_ReviewPackage.den k _ _ _ _ _ _ _ _ _).trans hy⟩
    · cases hb
/-! ### impl_ReviewName -/
def impl_ReviewName.f (k : Nat) (a0 : Int) : Option ByteArray :=
  (bif (a0 == (0 : Int)) then some (ByteArray.mk #[102, 105, 110, 101]) else (bif (a0 == (1 : Int)) then some (ByteArray.mk #[102, 111, 114, 109]) else (bif (a0 == (2 : Int)) then some (ByteArray.mk #[115, 101, 97, 108]) else (bif (a0 == (3 : Int)) then some (ByteArray.mk #[114, 117, 108, 101]) else (bif (a0 == (4 : Int)) then some (ByteArray.mk #[114, 101, 97, 100]) else (bif (a0 == (5 : Int)) then some (ByteArray.mk #[115, 101, 110, 100]) else (bif (a0 == (6 : Int)) then some (ByteArray.mk #[102, 108, 111, 119]) else some (ByteArray.mk #[]))))))))
def impl_ReviewName.Γ (k : Nat) : Ct κ := assoc []
def impl_ReviewName.LH (k : Nat) : Nat → Option (LHi κ) := assoc []
theorem impl_ReviewName.hΓ (k : Nat) : ∀ f g, impl_ReviewName.Γ k f = some g → CSound Tryz.prog f g := G_nil
theorem impl_ReviewName.lok (k : Nat) : LOK ti (impl_ReviewName.Γ k) (impl_ReviewName.LH k) 0 (loopsOf (bodyOf Tryz.f33)) :=
  (show loopsOf (bodyOf Tryz.f33) = [] by kernel_rfl) ▸ LOK_nil
def impl_ReviewName.sig : List PSh := [.one .sc]
def impl_ReviewName.g (y : ByteArray) : Ret κ := ⟨.v (.str y), [], []⟩
def impl_ReviewName.out (r : Ret κ) : Option ByteArray :=
  match r with
  | ⟨.v (.str z0), [], []⟩ => some (z0)
  | _ => none
theorem impl_ReviewName.out_ok (r : Ret κ) (y : ByteArray) (h : impl_ReviewName.out r = some y) : r = impl_ReviewName.g y := by
  unfold impl_ReviewName.out at h
  split at h
  · obtain rfl := Option.some.inj h
    rfl
  · cases h
def impl_ReviewName.body (k : Nat) (vs : List AV) (bs : List (Blk κ)) : Option (Lf κ) :=
  match vs, bs with
  | [.v (.int .i64 a0)], [] => some ⟨ByteArray, impl_ReviewName.f k a0, impl_ReviewName.g⟩
  | _, _ => none
def impl_ReviewName.C (k : Nat) : Nat → List AV → AP κ AV := contract impl_ReviewName.sig (impl_ReviewName.body k)
theorem impl_ReviewName.den (k : Nat) (a0 : Int) : Code.den ti (impl_ReviewName.Γ k) (impl_ReviewName.LH k) (bodyOf Tryz.f33) (finK ti Tryz.f33.results.toList [] (flags impl_ReviewName.sig).length (rwI (flags impl_ReviewName.sig) 0) impl_ReviewName.out) ⟨envOf (([.v (.int .i64 a0)]).zipIdx.map fun q => (q.2, q.1)), hpOf [], (flags impl_ReviewName.sig).length⟩ = impl_ReviewName.f k a0 := by kernel_rfl
theorem impl_ReviewName.ok (k : Nat) : CSound Tryz.prog 33 (impl_ReviewName.C k) :=
  csound κ_ok mixed tok (impl_ReviewName.hΓ k) (LH := impl_ReviewName.LH k) (fn := Tryz.f33) (c := bodyOf Tryz.f33) Tryz.func33 rfl Tryz.call33 impl_ReviewName.sig [] (impl_ReviewName.body k) (by kernel_rfl) (impl_ReviewName.lok k) (by decide) fun vs bs lf y hl hb hy => by
    unfold impl_ReviewName.body at hb
    split at hb
    · obtain rfl := Option.some.inj hb
      exact ⟨impl_ReviewName.out, impl_ReviewName.out_ok, (impl_ReviewName.den k _).trans hy⟩
    · cases hb
/-! ### impl_MayFlow -/
def impl_MayFlow.L4 {R : Type} (k : Nat) (x1 : Int) (x2 : Int) (x4 : Int) (xl0 : List T_impl_Flow) (xl1 : List Int) (X0 : Bool → Option R) (X1 : Unit → Option R) (rec : Int → Option R) (x5 : Int) : Option R :=
  (bif decide (x5 < x4) then (bif decide (0 ≤ x5) then (bif decide (x5 < (xl1.length : Int)) then (bif ((rd_i64 xl1 x5) != x2) then (impl_IsFlow.f k x1 (rd_i64 xl1 x5) x2).bind fun t4 => (bif !t4 then (X0 false) else (slices_Contains_Flow.f k xl0 x1 (rd_i64 xl1 x5) x2).bind fun t5 => (bif !t5 then (X0 false) else (rec (w64 (x5 + (1 : Int)))))) else (rec (w64 (x5 + (1 : Int))))) else none) else none) else (X1 ()))
def impl_MayFlow.l4 {R : Type} (k : Nat) (x1 : Int) (x2 : Int) (x4 : Int) (xl0 : List T_impl_Flow) (xl1 : List Int) (X0 : Bool → Option R) (X1 : Unit → Option R) : Nat → Int → Option R
  | 0 => fun _ => none
  | n + 1 => impl_MayFlow.L4 k x1 x2 x4 xl0 xl1 X0 X1 (impl_MayFlow.l4 k x1 x2 x4 xl0 xl1 X0 X1 n)
def impl_MayFlow.f (k : Nat) (a0 : List T_impl_Flow) (a1 : Int) (a2 : Int) (a3 : Int) : Option Bool :=
  (impl_IsLabel.f k a2).bind fun t1 => (bif !t1 then some false else (impl_InRange.f k a3 (1 : Int) (9 : Int)).bind fun t2 => (bif !t2 then some false else (impl_OwnersIn.f k a2).bind fun t3 => (impl_MayFlow.l4 k a1 a3 (t3.length : Int) a0 t3 (fun (y6 : Bool) => some y6) (fun (_ : Unit) => some true) k (0 : Int))))
def impl_MayFlow.h4 (k : Nat) {R : Type} (K : Ex → St κ → Option R) (vs : List AV) (bs : List (Blk κ)) : Option R :=
  match vs, bs with
  | [.v (.sl 0), .v (.int .i64 x1), .v (.int .i64 x2), .v (.sl 1), .v (.int .i64 x4), .v (.int .i64 x5)], [qb0, qb1] => (asO 3 false qb0).bind fun xl0 => (asO 5 true qb1).bind fun xl1 => impl_MayFlow.l4 k x1 x2 x4 xl0 xl1 (fun (z0 : Bool) => K .ret (stOf [(8, [])] [.v (.bool z0)] [.rows 3 false xl0])) (fun (_ : Unit) => K (.exit 0) (stOf [(8, [])] [.v .any] [.rows 3 false xl0])) k x5
  | _, _ => none
def impl_MayFlow.Γ (k : Nat) : Ct κ := assoc [(141, impl_IsLabel.C k), (111, impl_InRange.C k), (138, impl_OwnersIn.C k), (78, impl_IsFlow.C k), (79, slices_Contains_Flow.C k)]
def impl_MayFlow.LH (k : Nat) : Nat → Option (LHi κ) := assoc [(4, ⟨1, [(0, [some 3]), (1, []), (3, []), (21, [some 5]), (22, []), (23, [])], [(8, [])], @impl_MayFlow.h4 k⟩)]
theorem impl_MayFlow.hΓ (k : Nat) : ∀ f g, impl_MayFlow.Γ k f = some g → CSound Tryz.prog f g := G_cons (impl_IsLabel.ok k) (G_cons (impl_InRange.ok k) (G_cons (impl_OwnersIn.ok k) (G_cons (impl_IsFlow.ok k) (G_cons (slices_Contains_Flow.ok k) G_nil))))
theorem impl_MayFlow.e4 {R : Type} (K : Ex → St κ → Option R) (k : Nat) (x1 : Int) (x2 : Int) (x4 : Int) (xl0 : List T_impl_Flow) (xl1 : List Int) : ∀ (n : Nat) (x5 : Int), loopN 1 (Code.den ti (impl_MayFlow.Γ k) (impl_MayFlow.LH k) (loopAt Tryz.f93 0)) [(0, [some 3]), (1, []), (3, []), (21, [some 5]), (22, []), (23, [])] [(8, [])] K n [.v (.sl 0), .v (.int .i64 x1), .v (.int .i64 x2), .v (.sl 1), .v (.int .i64 x4), .v (.int .i64 x5)] [.rows 3 false xl0, .rows 5 true xl1] = impl_MayFlow.l4 k x1 x2 x4 xl0 xl1 (fun (z0 : Bool) => K .ret (stOf [(8, [])] [.v (.bool z0)] [.rows 3 false xl0])) (fun (_ : Unit) => K (.exit 0) (stOf [(8, [])] [.v .any] [.rows 3 false xl0])) n x5
  | 0, _ => rfl
  | n + 1, x5 => (show loopN 1 (Code.den ti (impl_MayFlow.Γ k) (impl_MayFlow.LH k) (loopAt Tryz.f93 0)) [(0, [some 3]), (1, []), (3, []), (21, [some 5]), (22, []), (23, [])] [(8, [])] K (n + 1) [.v (.sl 0), .v (.int .i64 x1), .v (.int .i64 x2), .v (.sl 1), .v (.int .i64 x4), .v (.int .i64 x5)] [.rows 3 false xl0, .rows 5 true xl1] = impl_MayFlow.L4 k x1 x2 x4 xl0 xl1 (fun (z0 : Bool) => K .ret (stOf [(8, [])] [.v (.bool z0)] [.rows 3 false xl0])) (fun (_ : Unit) => K (.exit 0) (stOf [(8, [])] [.v .any] [.rows 3 false xl0])) (fun (x5' : Int) => loopN 1 (Code.den ti (impl_MayFlow.Γ k) (impl_MayFlow.LH k) (loopAt Tryz.f93 0)) [(0, [some 3]), (1, []), (3, []), (21, [some 5]), (22, []), (23, [])] [(8, [])] K n [.v (.sl 0), .v (.int .i64 x1), .v (.int .i64 x2), .v (.sl 1), .v (.int .i64 x4), .v (.int .i64 x5')] [.rows 3 false xl0, .rows 5 true xl1]) x5 by kernel_rfl).trans (congrArg (fun rec => impl_MayFlow.L4 k x1 x2 x4 xl0 xl1 (fun (z0 : Bool) => K .ret (stOf [(8, [])] [.v (.bool z0)] [.rows 3 false xl0])) (fun (_ : Unit) => K (.exit 0) (stOf [(8, [])] [.v .any] [.rows 3 false xl0])) rec x5) (funext fun x5' => impl_MayFlow.e4 K k x1 x2 x4 xl0 xl1 n x5'))
theorem impl_MayFlow.q4 (k : Nat) {R : Type} (K : Ex → St κ → Option R) (vs : List AV) (bs : List (Blk κ)) (r : R) (h : impl_MayFlow.h4 k K vs bs = some r) : ∃ n, loopN 1 (Code.den ti (impl_MayFlow.Γ k) (impl_MayFlow.LH k) (loopAt Tryz.f93 0)) [(0, [some 3]), (1, []), (3, []), (21, [some 5]), (22, []), (23, [])] [(8, [])] K n vs bs = some r := by
  unfold impl_MayFlow.h4 at h
  split at h
  · obtain ⟨_, rfl, h_1⟩ := asO_bind h
    obtain ⟨_, rfl, h_2⟩ := asO_bind h_1
    exact ⟨k, (impl_MayFlow.e4 K k _ _ _ _ _ k _).trans h_2⟩
  · cases h
theorem impl_MayFlow.lok (k : Nat) : LOK ti (impl_MayFlow.Γ k) (impl_MayFlow.LH k) 1 (loopsOf (bodyOf Tryz.f93)) :=
  (show loopsOf (bodyOf Tryz.f93) = [loopAt Tryz.f93 0] by kernel_rfl) ▸ (LOK_cons (g := ⟨1, [(0, [some 3]), (1, []), (3, []), (21, [some 5]), (22, []), (23, [])], [(8, [])], @impl_MayFlow.h4 k⟩) (by kernel_rfl) rfl (fun K vs xs r h => impl_MayFlow.q4 k K vs xs r h) (LOK_nil))
def impl_MayFlow.sig : List PSh := [.one (.ro 3), .one .sc, .one .sc, .one .sc]
def impl_MayFlow.g (y : Bool) : Ret κ := ⟨.v (.bool y), [], []⟩
def impl_MayFlow.out (r : Ret κ) : Option Bool :=
  match r with
  | ⟨.v (.bool z0), [], []⟩ => some (z0)
  | _ => none
theorem impl_MayFlow.out_ok (r : Ret κ) (y : Bool) (h : impl_MayFlow.out r = some y) : r = impl_MayFlow.g y := by
  unfold impl_MayFlow.out at h
  split at h
  · obtain rfl := Option.some.inj h
    rfl
  · cases h
def impl_MayFlow.body (k : Nat) (vs : List AV) (bs : List (Blk κ)) : Option (Lf κ) :=
  match vs, bs with
  | [.v (.sl 0), .v (.int .i64 a1), .v (.int .i64 a2), .v (.int .i64 a3)], [qb0] => (asO 3 false qb0).bind fun a0 => some ⟨Bool, impl_MayFlow.f k a0 a1 a2 a3, impl_MayFlow.g⟩
  | _, _ => none
def impl_MayFlow.C (k : Nat) : Nat → List AV → AP κ AV := contract impl_MayFlow.sig (impl_MayFlow.body k)
theorem impl_MayFlow.den (k : Nat) (a0 : List T_impl_Flow) (a1 : Int) (a2 : Int) (a3 : Int) : Code.den ti (impl_MayFlow.Γ k) (impl_MayFlow.LH k) (bodyOf Tryz.f93) (finK ti Tryz.f93.results.toList [] (flags impl_MayFlow.sig).length (rwI (flags impl_MayFlow.sig) 0) impl_MayFlow.out) ⟨envOf (([.v (.sl 0), .v (.int .i64 a1), .v (.int .i64 a2), .v (.int .i64 a3)]).zipIdx.map fun q => (q.2, q.1)), hpOf [.rows 3 false a0], (flags impl_MayFlow.sig).length⟩ = impl_MayFlow.f k a0 a1 a2 a3 := by kernel_rfl
theorem impl_MayFlow.ok (k : Nat) : CSound Tryz.prog 93 (impl_MayFlow.C k) :=
  csound κ_ok mixed tok (impl_MayFlow.hΓ k) (LH := impl_MayFlow.LH k) (fn := Tryz.f93) (c := bodyOf Tryz.f93) Tryz.func93 rfl Tryz.call93 impl_MayFlow.sig [] (impl_MayFlow.body k) (by kernel_rfl) (impl_MayFlow.lok k) (by decide) fun vs bs lf y hl hb hy => by
    unfold impl_MayFlow.body at hb
    split at hb
    · obtain ⟨_, rfl, hb_1⟩ := asO_bind hb
      obtain rfl := Option.some.inj hb_1
      exact ⟨impl_MayFlow.out, impl_MayFlow.out_ok, (impl_MayFlow.den k _ _ _ _).trans hy⟩
    · cases hb
/-! ### impl_RunOps -/
def impl_RunOps.L6 {R : Type} (k : Nat) (x1 : Int) (x4 : Int) (xl0 : List T_impl_Op) (xl1 : List Int) (xl2 : List T_impl_Flow) (xl4 : List T_impl_Sent) (X0 : List T_impl_Sent → Option R) (rec : Int → List T_impl_Sent → Option R) (x5 : Int) (xl3 : List T_impl_Sent) : Option R :=
  (bif decide (x5 < x4) then (bif decide (0 ≤ x5) then (bif decide (x5 < (xl4.length : Int)) then (impl_MayFlow.f k xl2 x1 ((rd_impl_Sent xl4 x5).f2) ((rd_impl_Sent xl4 x5).f0)).bind fun t3 => (bif t3 then (bif decide ((xl3.length + ([(⟨(rd_impl_Sent xl4 x5).f0, (rd_impl_Sent xl4 x5).f1, (rd_impl_Sent xl4 x5).f2⟩ : T_impl_Sent)] : List T_impl_Sent).length) * 24 ≤ cap48) then (let l4 : List T_impl_Sent := (xl3 ++ ([(⟨(rd_impl_Sent xl4 x5).f0, (rd_impl_Sent xl4 x5).f1, (rd_impl_Sent xl4 x5).f2⟩ : T_impl_Sent)] : List T_impl_Sent)); (rec (w64 (x5 + (1 : Int))) l4)) else none) else (rec (w64 (x5 + (1 : Int))) xl3)) else none) else none) else (X0 xl3))
def impl_RunOps.l6 {R : Type} (k : Nat) (x1 : Int) (x4 : Int) (xl0 : List T_impl_Op) (xl1 : List Int) (xl2 : List T_impl_Flow) (xl4 : List T_impl_Sent) (X0 : List T_impl_Sent → Option R) : Nat → Int → List T_impl_Sent → Option R
  | 0 => fun _ _ => none
  | n + 1 => impl_RunOps.L6 k x1 x4 xl0 xl1 xl2 xl4 X0 (impl_RunOps.l6 k x1 x4 xl0 xl1 xl2 xl4 X0 n)
def impl_RunOps.f (k : Nat) (a0 : List T_impl_Op) (a1 : List Int) (a2 : List T_impl_Flow) (a3 : Int) : Option (List T_impl_Sent) :=
  (impl_AreOps.f k a0).bind fun t1 => (bif !t1 then some ([] : List T_impl_Sent) else (impl_executed.f k a0 a1).bind fun t2 => (impl_RunOps.l6 k a3 (t2.1.length : Int) a0 a1 a2 t2.1 (fun (y5 : List T_impl_Sent) => some y5) k (0 : Int) ([] : List T_impl_Sent)))
def impl_RunOps.h6 (k : Nat) {R : Type} (K : Ex → St κ → Option R) (vs : List AV) (bs : List (Blk κ)) : Option R :=
  match vs, bs with
  | [.v (.sl 2), .v (.int .i64 x1), .v (.sl 3), .v (.sl 4), .v (.int .i64 x4), .v (.int .i64 x5)], [qb0, qb1, qb2, qb3, qb4] => (asO 1 false qb0).bind fun xl0 => (asO 5 false qb1).bind fun xl1 => (asO 3 false qb2).bind fun xl2 => (asO 6 true qb3).bind fun xl3 => (asO 6 true qb4).bind fun xl4 => impl_RunOps.l6 k x1 x4 xl0 xl1 xl2 xl4 (fun (zl3 : List T_impl_Sent) => K (.exit 0) (stOf [(9, [some 6])] [.v (.sl 3)] [.rows 1 false xl0, .rows 5 false xl1, .rows 3 false xl2, .rows 6 true zl3])) k x5 xl3
  | _, _ => none
def impl_RunOps.Γ (k : Nat) : Ct κ := assoc [(89, impl_AreOps.C k), (92, impl_executed.C k), (93, impl_MayFlow.C k)]
def impl_RunOps.LH (k : Nat) : Nat → Option (LHi κ) := assoc [(6, ⟨3, [(2, [some 3]), (3, []), (9, [some 6]), (25, [some 6]), (26, []), (27, [])], [(9, [some 6])], @impl_RunOps.h6 k⟩)]
theorem impl_RunOps.hΓ (k : Nat) : ∀ f g, impl_RunOps.Γ k f = some g → CSound Tryz.prog f g := G_cons (impl_AreOps.ok k) (G_cons (impl_executed.ok k) (G_cons (impl_MayFlow.ok k) G_nil))
theorem impl_RunOps.e6 {R : Type} (K : Ex → St κ → Option R) (k : Nat) (x1 : Int) (x4 : Int) (xl0 : List T_impl_Op) (xl1 : List Int) (xl2 : List T_impl_Flow) (xl4 : List T_impl_Sent) : ∀ (n : Nat) (x5 : Int) (xl3 : List T_impl_Sent), loopN 3 (Code.den ti (impl_RunOps.Γ k) (impl_RunOps.LH k) (loopAt Tryz.f39 0)) [(2, [some 3]), (3, []), (9, [some 6]), (25, [some 6]), (26, []), (27, [])] [(9, [some 6])] K n [.v (.sl 2), .v (.int .i64 x1), .v (.sl 3), .v (.sl 4), .v (.int .i64 x4), .v (.int .i64 x5)] [.rows 1 false xl0, .rows 5 false xl1, .rows 3 false xl2, .rows 6 true xl3, .rows 6 true xl4] = impl_RunOps.l6 k x1 x4 xl0 xl1 xl2 xl4 (fun (zl3 : List T_impl_Sent) => K (.exit 0) (stOf [(9, [some 6])] [.v (.sl 3)] [.rows 1 false xl0, .rows 5 false xl1, .rows 3 false xl2, .rows 6 true zl3])) n x5 xl3
  | 0, _, _ => rfl
  | n + 1, x5, xl3 => (show loopN 3 (Code.den ti (impl_RunOps.Γ k) (impl_RunOps.LH k) (loopAt Tryz.f39 0)) [(2, [some 3]), (3, []), (9, [some 6]), (25, [some 6]), (26, []), (27, [])] [(9, [some 6])] K (n + 1) [.v (.sl 2), .v (.int .i64 x1), .v (.sl 3), .v (.sl 4), .v (.int .i64 x4), .v (.int .i64 x5)] [.rows 1 false xl0, .rows 5 false xl1, .rows 3 false xl2, .rows 6 true xl3, .rows 6 true xl4] = impl_RunOps.L6 k x1 x4 xl0 xl1 xl2 xl4 (fun (zl3 : List T_impl_Sent) => K (.exit 0) (stOf [(9, [some 6])] [.v (.sl 3)] [.rows 1 false xl0, .rows 5 false xl1, .rows 3 false xl2, .rows 6 true zl3])) (fun (x5' : Int) (xl3' : List T_impl_Sent) => loopN 3 (Code.den ti (impl_RunOps.Γ k) (impl_RunOps.LH k) (loopAt Tryz.f39 0)) [(2, [some 3]), (3, []), (9, [some 6]), (25, [some 6]), (26, []), (27, [])] [(9, [some 6])] K n [.v (.sl 2), .v (.int .i64 x1), .v (.sl 3), .v (.sl 4), .v (.int .i64 x4), .v (.int .i64 x5')] [.rows 1 false xl0, .rows 5 false xl1, .rows 3 false xl2, .rows 6 true xl3', .rows 6 true xl4]) x5 xl3 by kernel_rfl).trans (congrArg (fun rec => impl_RunOps.L6 k x1 x4 xl0 xl1 xl2 xl4 (fun (zl3 : List T_impl_Sent) => K (.exit 0) (stOf [(9, [some 6])] [.v (.sl 3)] [.rows 1 false xl0, .rows 5 false xl1, .rows 3 false xl2, .rows 6 true zl3])) rec x5 xl3) (funext fun x5' => funext fun xl3' => impl_RunOps.e6 K k x1 x4 xl0 xl1 xl2 xl4 n x5' xl3'))
theorem impl_RunOps.q6 (k : Nat) {R : Type} (K : Ex → St κ → Option R) (vs : List AV) (bs : List (Blk κ)) (r : R) (h : impl_RunOps.h6 k K vs bs = some r) : ∃ n, loopN 3 (Code.den ti (impl_RunOps.Γ k) (impl_RunOps.LH k) (loopAt Tryz.f39 0)) [(2, [some 3]), (3, []), (9, [some 6]), (25, [some 6]), (26, []), (27, [])] [(9, [some 6])] K n vs bs = some r := by
  unfold impl_RunOps.h6 at h
  split at h
  · obtain ⟨_, rfl, h_1⟩ := asO_bind h
    obtain ⟨_, rfl, h_2⟩ := asO_bind h_1
    obtain ⟨_, rfl, h_3⟩ := asO_bind h_2
    obtain ⟨_, rfl, h_4⟩ := asO_bind h_3
    obtain ⟨_, rfl, h_5⟩ := asO_bind h_4
    exact ⟨k, (impl_RunOps.e6 K k _ _ _ _ _ _ k _ _).trans h_5⟩
  · cases h
theorem impl_RunOps.lok (k : Nat) : LOK ti (impl_RunOps.Γ k) (impl_RunOps.LH k) 3 (loopsOf (bodyOf Tryz.f39)) :=
  (show loopsOf (bodyOf Tryz.f39) = [loopAt Tryz.f39 0] by kernel_rfl) ▸ (LOK_cons (g := ⟨3, [(2, [some 3]), (3, []), (9, [some 6]), (25, [some 6]), (26, []), (27, [])], [(9, [some 6])], @impl_RunOps.h6 k⟩) (by kernel_rfl) rfl (fun K vs xs r h => impl_RunOps.q6 k K vs xs r h) (LOK_nil))
def impl_RunOps.sig : List PSh := [.one (.ro 1), .one (.ro 5), .one (.ro 3), .one .sc]
def impl_RunOps.g (y : List T_impl_Sent) : Ret κ := ⟨.v (.sl 3), [], [.rows 6 true y]⟩
def impl_RunOps.out (r : Ret κ) : Option (List T_impl_Sent) :=
  match r with
  | ⟨.v (.sl 3), [], [q0]⟩ => (asO 6 true q0).bind fun z0 => some (z0)
  | _ => none
theorem impl_RunOps.out_ok (r : Ret κ) (y : List T_impl_Sent) (h : impl_RunOps.out r = some y) : r = impl_RunOps.g y := by
  unfold impl_RunOps.out at h
  split at h
  · obtain ⟨_, rfl, h_1⟩ := asO_bind h
    obtain rfl := Option.some.inj h_1
    rfl
  · cases h
def impl_RunOps.body (k : Nat) (vs : List AV) (bs : List (Blk κ)) : Option (Lf κ) :=
  match vs, bs with
  | [.v (.sl 0), .v (.sl 1), .v (.sl 2), .v (.int .i64 a3)], [qb0, qb1, qb2] => (asO 1 false qb0).bind fun a0 => (asO 5 false qb1).bind fun a1 => (asO 3 false qb2).bind fun a2 => some ⟨List T_impl_Sent, impl_RunOps.f k a0 a1 a2 a3, impl_RunOps.g⟩
  | _, _ => none
def impl_RunOps.C (k : Nat) : Nat → List AV → AP κ AV := contract impl_RunOps.sig (impl_RunOps.body k)
theorem impl_RunOps.den (k : Nat) (a0 : List T_impl_Op) (a1 : List Int) (a2 : List T_impl_Flow) (a3 : Int) : Code.den ti (impl_RunOps.Γ k) (impl_RunOps.LH k) (bodyOf Tryz.f39) (finK ti Tryz.f39.results.toList [(8, [some 6])] (flags impl_RunOps.sig).length (rwI (flags impl_RunOps.sig) 0) impl_RunOps.out) ⟨envOf (([.v (.sl 0), .v (.sl 1), .v (.sl 2), .v (.int .i64 a3)]).zipIdx.map fun q => (q.2, q.1)), hpOf [.rows 1 false a0, .rows 5 false a1, .rows 3 false a2], (flags impl_RunOps.sig).length⟩ = impl_RunOps.f k a0 a1 a2 a3 := by kernel_rfl
theorem impl_RunOps.ok (k : Nat) : CSound Tryz.prog 39 (impl_RunOps.C k) :=
  csound κ_ok mixed tok (impl_RunOps.hΓ k) (LH := impl_RunOps.LH k) (fn := Tryz.f39) (c := bodyOf Tryz.f39) Tryz.func39 rfl Tryz.call39 impl_RunOps.sig [(8, [some 6])] (impl_RunOps.body k) (by kernel_rfl) (impl_RunOps.lok k) (by decide) fun vs bs lf y hl hb hy => by
    unfold impl_RunOps.body at hb
    split at hb
    · obtain ⟨_, rfl, hb_1⟩ := asO_bind hb
      obtain ⟨_, rfl, hb_2⟩ := asO_bind hb_1
      obtain ⟨_, rfl, hb_3⟩ := asO_bind hb_2
      obtain rfl := Option.some.inj hb_3
      exact ⟨impl_RunOps.out, impl_RunOps.out_ok, (impl_RunOps.den k _ _ _ _).trans hy⟩
    · cases hb
/-! ### laws_FnReviewed -/
def laws_FnReviewed.L13 {R : Type} (k : Nat) (xl0 : List Int) (xc1_0 : Int) (xc1_1 : Int) (xc1_2 : Int) (xc1_7 : Int) (xl2 : List Int) (xl3 : List T_impl_Grant) (xl4 : List T_impl_Flow) (xl5 : List T_impl_Rule) (xl6 : List T_impl_Op) (X0 : Bool → Option R) (X1 : Unit → Option R) (rec : Int → Option R) (x2 : Int) : Option R :=
  (bif decide (x2 < (xl2.length : Int)) then (bif decide (0 ≤ x2) then (bif decide (x2 < (xl2.length : Int)) then (impl_HasGrantFor.f k xl3 (1 : Int) (rd_i64 xl2 x2)).bind fun t8 => (bif !t8 then (X0 false) else (rec (w64 (x2 + (1 : Int))))) else none) else none) else (X1 ()))
def laws_FnReviewed.l13 {R : Type} (k : Nat) (xl0 : List Int) (xc1_0 : Int) (xc1_1 : Int) (xc1_2 : Int) (xc1_7 : Int) (xl2 : List Int) (xl3 : List T_impl_Grant) (xl4 : List T_impl_Flow) (xl5 : List T_impl_Rule) (xl6 : List T_impl_Op) (X0 : Bool → Option R) (X1 : Unit → Option R) : Nat → Int → Option R
  | 0 => fun _ => none
  | n + 1 => laws_FnReviewed.L13 k xl0 xc1_0 xc1_1 xc1_2 xc1_7 xl2 xl3 xl4 xl5 xl6 X0 X1 (laws_FnReviewed.l13 k xl0 xc1_0 xc1_1 xc1_2 xc1_7 xl2 xl3 xl4 xl5 xl6 X0 X1 n)
def laws_FnReviewed.L19 {R : Type} (k : Nat) (xl0 : List Int) (xc1_0 : Int) (xc1_1 : Int) (xc1_2 : Int) (xc1_7 : Int) (xl2 : List Int) (xl3 : List T_impl_Grant) (xl4 : List T_impl_Flow) (xl5 : List T_impl_Rule) (xl6 : List T_impl_Op) (X0 : Bool → Option R) (X1 : Unit → Option R) (rec : Int → Option R) (x2 : Int) : Option R :=
  (bif decide (x2 < (xl2.length : Int)) then (bif decide (0 ≤ x2) then (bif decide (x2 < (xl2.length : Int)) then (impl_HasGrantFor.f k xl3 (3 : Int) (rd_i64 xl2 x2)).bind fun t11 => (bif !t11 then (X0 false) else (rec (w64 (x2 + (1 : Int))))) else none) else none) else (X1 ()))
def laws_FnReviewed.l19 {R : Type} (k : Nat) (xl0 : List Int) (xc1_0 : Int) (xc1_1 : Int) (xc1_2 : Int) (xc1_7 : Int) (xl2 : List Int) (xl3 : List T_impl_Grant) (xl4 : List T_impl_Flow) (xl5 : List T_impl_Rule) (xl6 : List T_impl_Op) (X0 : Bool → Option R) (X1 : Unit → Option R) : Nat → Int → Option R
  | 0 => fun _ => none
  | n + 1 => laws_FnReviewed.L19 k xl0 xc1_0 xc1_1 xc1_2 xc1_7 xl2 xl3 xl4 xl5 xl6 X0 X1 (laws_FnReviewed.l19 k xl0 xc1_0 xc1_1 xc1_2 xc1_7 xl2 xl3 xl4 xl5 xl6 X0 X1 n)
def laws_FnReviewed.L26 {R : Type} (k : Nat) (xl0 : List Int) (xc1_0 : Int) (xc1_1 : Int) (xc1_2 : Int) (xc1_7 : Int) (xl2 : List T_impl_Sent) (xl3 : List T_impl_Grant) (xl4 : List T_impl_Flow) (xl5 : List T_impl_Rule) (xl6 : List T_impl_Op) (X0 : Int → Option R) (rec : Int → Int → Option R) (x2 : Int) (x3 : Int) : Option R :=
  (bif decide (x3 < (xl6.length : Int)) then (bif decide (0 ≤ x3) then (bif decide (x3 < (xl6.length : Int)) then (bif ((rd_impl_Op xl6 x3).f0 == (5 : Int)) then (rec (w64 (x2 + (1 : Int))) (w64 (x3 + (1 : Int)))) else (rec x2 (w64 (x3 + (1 : Int))))) else none) else none) else (X0 x2))
def laws_FnReviewed.l26 {R : Type} (k : Nat) (xl0 : List Int) (xc1_0 : Int) (xc1_1 : Int) (xc1_2 : Int) (xc1_7 : Int) (xl2 : List T_impl_Sent) (xl3 : List T_impl_Grant) (xl4 : List T_impl_Flow) (xl5 : List T_impl_Rule) (xl6 : List T_impl_Op) (X0 : Int → Option R) : Nat → Int → Int → Option R
  | 0 => fun _ _ => none
  | n + 1 => laws_FnReviewed.L26 k xl0 xc1_0 xc1_1 xc1_2 xc1_7 xl2 xl3 xl4 xl5 xl6 X0 (laws_FnReviewed.l26 k xl0 xc1_0 xc1_1 xc1_2 xc1_7 xl2 xl3 xl4 xl5 xl6 X0 n)
def laws_FnReviewed.f (k : Nat) (a0 : List Int) : Option Bool :=
  (laws_big.f k a0).bind fun t1 => (bif t1 then some true else (spec_DrawReviewPackage.f k a0).bind fun t2 => (impl_ReviewPackage.f k t2.1 t2.2.1 t2.2.2.1 t2.2.2.2.1 t2.2.2.2.2.2.1 t2.2.2.2.2.2.2.1 t2.2.2.2.2.2.2.2.1 t2.2.2.2.2.2.2.2.2 t2.2.2.2.2.1).bind fun t3 => (impl_ReviewName.f k t3).bind fun t4 => (bif (t4.toList == (ByteArray.mk #[]).toList) then some false else (bif (t3 != (0 : Int)) then some true else (impl_IsSealed.f k t2.1 t2.2.1 t2.2.2.1 t2.2.2.2.1 t2.2.2.2.2.2.1 t2.2.2.2.2.2.2.1 t2.2.2.2.2.2.2.2.1 t2.2.2.2.2.2.2.2.2 t2.2.2.2.2.1).bind fun t5 => (bif !t5 then some false else (impl_IsTightFor.f k t2.2.2.2.2.2.2.2.2 t2.2.2.2.2.2.2.1 t2.2.1).bind fun t6 => (bif !t6 then some false else (impl_OwnersRead.f k t2.2.2.2.2.2.2.2.2).bind fun t7 => (laws_FnReviewed.l13 k a0 t2.2.1 t2.2.2.1 t2.2.2.2.1 t2.2.2.2.2.1 t7 t2.2.2.2.2.2.1 t2.2.2.2.2.2.2.1 t2.2.2.2.2.2.2.2.1 t2.2.2.2.2.2.2.2.2 (fun (y9 : Bool) => some y9) (fun (_ : Unit) => (impl_OwnersSent.f k t2.2.2.2.2.2.2.2.2).bind fun t10 => (laws_FnReviewed.l19 k a0 t2.2.1 t2.2.2.1 t2.2.2.2.1 t2.2.2.2.2.1 t10 t2.2.2.2.2.2.1 t2.2.2.2.2.2.2.1 t2.2.2.2.2.2.2.2.1 t2.2.2.2.2.2.2.2.2 (fun (y12 : Bool) => some y12) (fun (_ : Unit) => (impl_RunOps.f k t2.2.2.2.2.2.2.2.2 ([] : List Int) t2.2.2.2.2.2.2.1 t2.2.1).bind fun t13 => (laws_FnReviewed.l26 k a0 t2.2.1 t2.2.2.1 t2.2.2.2.1 t2.2.2.2.2.1 t13 t2.2.2.2.2.2.1 t2.2.2.2.2.2.2.1 t2.2.2.2.2.2.2.2.1 t2.2.2.2.2.2.2.2.2 (fun (y14 : Int) => some ((t13.length : Int) == y14)) k (0 : Int) (0 : Int))) k (0 : Int))) k (0 : Int)))))))
def laws_FnReviewed.h13 (k : Nat) {R : Type} (K : Ex → St κ → Option R) (vs : List AV) (bs : List (Blk κ)) : Option R :=
  match vs, bs with
  | [.v (.ptr 1 0 0), .v (.sl 2), .v (.int .i64 x2)], [qb0, .cells 39 [.int .i64 xc1_0, .int .i64 xc1_1, .int .i64 xc1_2, .sl 3, .sl 4, .sl 5, .sl 6, .int .i64 xc1_7], qb2, qb3, qb4, qb5, qb6] => (asO 0 false qb0).bind fun xl0 => (asO 5 true qb2).bind fun xl2 => (asO 2 true qb3).bind fun xl3 => (asO 3 true qb4).bind fun xl4 => (asO 4 true qb5).bind fun xl5 => (asO 1 true qb6).bind fun xl6 => laws_FnReviewed.l13 k xl0 xc1_0 xc1_1 xc1_2 xc1_7 xl2 xl3 xl4 xl5 xl6 (fun (z0 : Bool) => K .ret (stOf [(2, []), (4, [none, none, none, some 2, some 3, some 4, some 1, none])] [.v (.bool z0), .v (.ptr 1 0 0)] [.rows 0 false xl0, .cells 39 [.int .i64 xc1_0, .int .i64 xc1_1, .int .i64 xc1_2, .sl 2, .sl 3, .sl 4, .sl 5, .int .i64 xc1_7], .rows 2 true xl3, .rows 3 true xl4, .rows 4 true xl5, .rows 1 true xl6])) (fun (_ : Unit) => K (.exit 0) (stOf [(2, []), (4, [none, none, none, some 2, some 3, some 4, some 1, none])] [.v .any, .v (.ptr 1 0 0)] [.rows 0 false xl0, .cells 39 [.int .i64 xc1_0, .int .i64 xc1_1, .int .i64 xc1_2, .sl 2, .sl 3, .sl 4, .sl 5, .int .i64 xc1_7], .rows 2 true xl3, .rows 3 true xl4, .rows 4 true xl5, .rows 1 true xl6])) k x2
  | _, _ => none
def laws_FnReviewed.h19 (k : Nat) {R : Type} (K : Ex → St κ → Option R) (vs : List AV) (bs : List (Blk κ)) : Option R :=
  match vs, bs with
  | [.v (.ptr 1 0 0), .v (.sl 2), .v (.int .i64 x2)], [qb0, .cells 39 [.int .i64 xc1_0, .int .i64 xc1_1, .int .i64 xc1_2, .sl 3, .sl 4, .sl 5, .sl 6, .int .i64 xc1_7], qb2, qb3, qb4, qb5, qb6] => (asO 0 false qb0).bind fun xl0 => (asO 5 true qb2).bind fun xl2 => (asO 2 true qb3).bind fun xl3 => (asO 3 true qb4).bind fun xl4 => (asO 4 true qb5).bind fun xl5 => (asO 1 true qb6).bind fun xl6 => laws_FnReviewed.l19 k xl0 xc1_0 xc1_1 xc1_2 xc1_7 xl2 xl3 xl4 xl5 xl6 (fun (z0 : Bool) => K .ret (stOf [(2, []), (4, [none, none, none, some 2, some 3, some 4, some 1, none])] [.v (.bool z0), .v (.ptr 1 0 0)] [.rows 0 false xl0, .cells 39 [.int .i64 xc1_0, .int .i64 xc1_1, .int .i64 xc1_2, .sl 2, .sl 3, .sl 4, .sl 5, .int .i64 xc1_7], .rows 2 true xl3, .rows 3 true xl4, .rows 4 true xl5, .rows 1 true xl6])) (fun (_ : Unit) => K (.exit 2) (stOf [(2, []), (4, [none, none, none, some 2, some 3, some 4, some 1, none])] [.v .any, .v (.ptr 1 0 0)] [.rows 0 false xl0, .cells 39 [.int .i64 xc1_0, .int .i64 xc1_1, .int .i64 xc1_2, .sl 2, .sl 3, .sl 4, .sl 5, .int .i64 xc1_7], .rows 2 true xl3, .rows 3 true xl4, .rows 4 true xl5, .rows 1 true xl6])) k x2
  | _, _ => none
def laws_FnReviewed.h26 (k : Nat) {R : Type} (K : Ex → St κ → Option R) (vs : List AV) (bs : List (Blk κ)) : Option R :=
  match vs, bs with
  | [.v (.ptr 1 0 0), .v (.sl 2), .v (.int .i64 x2), .v (.int .i64 x3)], [qb0, .cells 39 [.int .i64 xc1_0, .int .i64 xc1_1, .int .i64 xc1_2, .sl 3, .sl 4, .sl 5, .sl 6, .int .i64 xc1_7], qb2, qb3, qb4, qb5, qb6] => (asO 0 false qb0).bind fun xl0 => (asO 6 true qb2).bind fun xl2 => (asO 2 true qb3).bind fun xl3 => (asO 3 true qb4).bind fun xl4 => (asO 4 true qb5).bind fun xl5 => (asO 1 true qb6).bind fun xl6 => laws_FnReviewed.l26 k xl0 xc1_0 xc1_1 xc1_2 xc1_7 xl2 xl3 xl4 xl5 xl6 (fun (z1 : Int) => K (.exit 4) (stOf [(10, [some 6]), (11, [])] [.v (.sl 1), .v (.int .i64 z1)] [.rows 0 false xl0, .rows 6 true xl2])) k x2 x3
  | _, _ => none
def laws_FnReviewed.Γ (k : Nat) : Ct κ := assoc [(21, laws_big.C k), (32, spec_DrawReviewPackage.C k), (26, impl_ReviewPackage.C k), (33, impl_ReviewName.C k), (34, impl_IsSealed.C k), (35, impl_IsTightFor.C k), (36, impl_OwnersRead.C k), (37, impl_HasGrantFor.C k), (38, impl_OwnersSent.C k), (39, impl_RunOps.C k)]
def laws_FnReviewed.LH (k : Nat) : Nat → Option (LHi κ) := assoc [(13, ⟨1, [(4, [none, none, none, some 2, some 3, some 4, some 1, none]), (6, [some 5]), (7, [])], [(2, []), (4, [none, none, none, some 2, some 3, some 4, some 1, none])], @laws_FnReviewed.h13 k⟩), (19, ⟨1, [(4, [none, none, none, some 2, some 3, some 4, some 1, none]), (8, [some 5]), (9, [])], [(2, []), (4, [none, none, none, some 2, some 3, some 4, some 1, none])], @laws_FnReviewed.h19 k⟩), (26, ⟨1, [(4, [none, none, none, some 2, some 3, some 4, some 1, none]), (10, [some 6]), (11, []), (12, [])], [(10, [some 6]), (11, [])], @laws_FnReviewed.h26 k⟩)]
theorem laws_FnReviewed.hΓ (k : Nat) : ∀ f g, laws_FnReviewed.Γ k f = some g → CSound Tryz.prog f g := G_cons (laws_big.ok k) (G_cons (spec_DrawReviewPackage.ok k) (G_cons (impl_ReviewPackage.ok k) (G_cons (impl_ReviewName.ok k) (G_cons (impl_IsSealed.ok k) (G_cons (impl_IsTightFor.ok k) (G_cons (impl_OwnersRead.ok k) (G_cons (impl_HasGrantFor.ok k) (G_cons (impl_OwnersSent.ok k) (G_cons (impl_RunOps.ok k) G_nil)))))))))
theorem laws_FnReviewed.e13 {R : Type} (K : Ex → St κ → Option R) (k : Nat) (xl0 : List Int) (xc1_0 : Int) (xc1_1 : Int) (xc1_2 : Int) (xc1_7 : Int) (xl2 : List Int) (xl3 : List T_impl_Grant) (xl4 : List T_impl_Flow) (xl5 : List T_impl_Rule) (xl6 : List T_impl_Op) : ∀ (n : Nat) (x2 : Int), loopN 1 (Code.den ti (laws_FnReviewed.Γ k) (laws_FnReviewed.LH k) (loopAt Tryz.f6 0)) [(4, [none, none, none, some 2, some 3, some 4, some 1, none]), (6, [some 5]), (7, [])] [(2, []), (4, [none, none, none, some 2, some 3, some 4, some 1, none])] K n [.v (.ptr 1 0 0), .v (.sl 2), .v (.int .i64 x2)] [.rows 0 false xl0, .cells 39 [.int .i64 xc1_0, .int .i64 xc1_1, .int .i64 xc1_2, .sl 3, .sl 4, .sl 5, .sl 6, .int .i64 xc1_7], .rows 5 true xl2, .rows 2 true xl3, .rows 3 true xl4, .rows 4 true xl5, .rows 1 true xl6] = laws_FnReviewed.l13 k xl0 xc1_0 xc1_1 xc1_2 xc1_7 xl2 xl3 xl4 xl5 xl6 (fun (z0 : Bool) => K .ret (stOf [(2, []), (4, [none, none, none, some 2, some 3, some 4, some 1, none])] [.v (.bool z0), .v (.ptr 1 0 0)] [.rows 0 false xl0, .cells 39 [.int .i64 xc1_0, .int .i64 xc1_1, .int .i64 xc1_2, .sl 2, .sl 3, .sl 4, .sl 5, .int .i64 xc1_7], .rows 2 true xl3, .rows 3 true xl4, .rows 4 true xl5, .rows 1 true xl6])) (fun (_ : Unit) => K (.exit 0) (stOf [(2, []), (4, [none, none, none, some 2, some 3, some 4, some 1, none])] [.v .any, .v (.ptr 1 0 0)] [.rows 0 false xl0, .cells 39 [.int .i64 xc1_0, .int .i64 xc1_1, .int .i64 xc1_2, .sl 2, .sl 3, .sl 4, .sl 5, .int .i64 xc1_7], .rows 2 true xl3, .rows 3 true xl4, .rows 4 true xl5, .rows 1 true xl6])) n x2
  | 0, _ => rfl
  | n + 1, x2 => (show loopN 1 (Code.den ti (laws_FnReviewed.Γ k) (laws_FnReviewed.LH k) (loopAt Tryz.f6 0)) [(4, [none, none, none, some 2, some 3, some 4, some 1, none]), (6, [some 5]), (7, [])] [(2, []), (4, [none, none, none, some 2, some 3, some 4, some 1, none])] K (n + 1) [.v (.ptr 1 0 0), .v (.sl 2), .v (.int .i64 x2)] [.rows 0 false xl0, .cells 39 [.int .i64 xc1_0, .int .i64 xc1_1, .int .i64 xc1_2, .sl 3, .sl 4, .sl 5, .sl 6, .int .i64 xc1_7], .rows 5 true xl2, .rows 2 true xl3, .rows 3 true xl4, .rows 4 true xl5, .rows 1 true xl6] = laws_FnReviewed.L13 k xl0 xc1_0 xc1_1 xc1_2 xc1_7 xl2 xl3 xl4 xl5 xl6 (fun (z0 : Bool) => K .ret (stOf [(2, []), (4, [none, none, none, some 2, some 3, some 4, some 1, none])] [.v (.bool z0), .v (.ptr 1 0 0)] [.rows 0 false xl0, .cells 39 [.int .i64 xc1_0, .int .i64 xc1_1, .int .i64 xc1_2, .sl 2, .sl 3, .sl 4, .sl 5, .int .i64 xc1_7], .rows 2 true xl3, .rows 3 true xl4, .rows 4 true xl5, .rows 1 true xl6])) (fun (_ : Unit) => K (.exit 0) (stOf [(2, []), (4, [none, none, none, some 2, some 3, some 4, some 1, none])] [.v .any, .v (.ptr 1 0 0)] [.rows 0 false xl0, .cells 39 [.int .i64 xc1_0, .int .i64 xc1_1, .int .i64 xc1_2, .sl 2, .sl 3, .sl 4, .sl 5, .int .i64 xc1_7], .rows 2 true xl3, .rows 3 true xl4, .rows 4 true xl5, .rows 1 true xl6])) (fun (x2' : Int) => loopN 1 (Code.den ti (laws_FnReviewed.Γ k) (laws_FnReviewed.LH k) (loopAt Tryz.f6 0)) [(4, [none, none, none, some 2, some 3, some 4, some 1, none]), (6, [some 5]), (7, [])] [(2, []), (4, [none, none, none, some 2, some 3, some 4, some 1, none])] K n [.v (.ptr 1 0 0), .v (.sl 2), .v (.int .i64 x2')] [.rows 0 false xl0, .cells 39 [.int .i64 xc1_0, .int .i64 xc1_1, .int .i64 xc1_2, .sl 3, .sl 4, .sl 5, .sl 6, .int .i64 xc1_7], .rows 5 true xl2, .rows 2 true xl3, .rows 3 true xl4, .rows 4 true xl5, .rows 1 true xl6]) x2 by kernel_rfl).trans (congrArg (fun rec => laws_FnReviewed.L13 k xl0 xc1_0 xc1_1 xc1_2 xc1_7 xl2 xl3 xl4 xl5 xl6 (fun (z0 : Bool) => K .ret (stOf [(2, []), (4, [none, none, none, some 2, some 3, some 4, some 1, none])] [.v (.bool z0), .v (.ptr 1 0 0)] [.rows 0 false xl0, .cells 39 [.int .i64 xc1_0, .int .i64 xc1_1, .int .i64 xc1_2, .sl 2, .sl 3, .sl 4, .sl 5, .int .i64 xc1_7], .rows 2 true xl3, .rows 3 true xl4, .rows 4 true xl5, .rows 1 true xl6])) (fun (_ : Unit) => K (.exit 0) (stOf [(2, []), (4, [none, none, none, some 2, some 3, some 4, some 1, none])] [.v .any, .v (.ptr 1 0 0)] [.rows 0 false xl0, .cells 39 [.int .i64 xc1_0, .int .i64 xc1_1, .int .i64 xc1_2, .sl 2, .sl 3, .sl 4, .sl 5, .int .i64 xc1_7], .rows 2 true xl3, .rows 3 true xl4, .rows 4 true xl5, .rows 1 true xl6])) rec x2) (funext fun x2' => laws_FnReviewed.e13 K k xl0 xc1_0 xc1_1 xc1_2 xc1_7 xl2 xl3 xl4 xl5 xl6 n x2'))
theorem laws_FnReviewed.q13 (k : Nat) {R : Type} (K : Ex → St κ → Option R) (vs : List AV) (bs : List (Blk κ)) (r : R) (h : laws_FnReviewed.h13 k K vs bs = some r) : ∃ n, loopN 1 (Code.den ti (laws_FnReviewed.Γ k) (laws_FnReviewed.LH k) (loopAt Tryz.f6 0)) [(4, [none, none, none, some 2, some 3, some 4, some 1, none]), (6, [some 5]), (7, [])] [(2, []), (4, [none, none, none, some 2, some 3, some 4, some 1, none])] K n vs bs = some r := by
  unfold laws_FnReviewed.h13 at h
  split at h
  · obtain ⟨_, rfl, h_1⟩ := asO_bind h
    obtain ⟨_, rfl, h_2⟩ := asO_bind h_1
    obtain ⟨_, rfl, h_3⟩ := asO_bind h_2
    obtain ⟨_, rfl, h_4⟩ := asO_bind h_3
    obtain ⟨_, rfl, h_5⟩ := asO_bind h_4
    obtain ⟨_, rfl, h_6⟩ := asO_bind h_5
    exact ⟨k, (laws_FnReviewed.e13 K k _ _ _ _ _ _ _ _ _ _ k _).trans h_6⟩
  · cases h
theorem laws_FnReviewed.e19 {R : Type} (K : Ex → St κ → Option R) (k : Nat) (xl0 : List Int) (xc1_0 : Int) (xc1_1 : Int) (xc1_2 : Int) (xc1_7 : Int) (xl2 : List Int) (xl3 : List T_impl_Grant) (xl4 : List T_impl_Flow) (xl5 : List T_impl_Rule) (xl6 : List T_impl_Op) : ∀ (n : Nat) (x2 : Int), loopN 1 (Code.den ti (laws_FnReviewed.Γ k) (laws_FnReviewed.LH k) (loopAt Tryz.f6 1)) [(4, [none, none, none, some 2, some 3, some 4, some 1, none]), (8, [some 5]), (9, [])] [(2, []), (4, [none, none, none, some 2, some 3, some 4, some 1, none])] K n [.v (.ptr 1 0 0), .v (.sl 2), .v (.int .i64 x2)] [.rows 0 false xl0, .cells 39 [.int .i64 xc1_0, .int .i64 xc1_1, .int .i64 xc1_2, .sl 3, .sl 4, .sl 5, .sl 6, .int .i64 xc1_7], .rows 5 true xl2, .rows 2 true xl3, .rows 3 true xl4, .rows 4 true xl5, .rows 1 true xl6] = laws_FnReviewed.l19 k xl0 xc1_0 xc1_1 xc1_2 xc1_7 xl2 xl3 xl4 xl5 xl6 (fun (z0 : Bool) => K .ret (stOf [(2, []), (4, [none, none, none, some 2, some 3, some 4, some 1, none])] [.v (.bool z0), .v (.ptr 1 0 0)] [.rows 0 false xl0, .cells 39 [.int .i64 xc1_0, .int .i64 xc1_1, .int .i64 xc1_2, .sl 2, .sl 3, .sl 4, .sl 5, .int .i64 xc1_7], .rows 2 true xl3, .rows 3 true xl4, .rows 4 true xl5, .rows 1 true xl6])) (fun (_ : Unit) => K (.exit 2) (stOf [(2, []), (4, [none, none, none, some 2, some 3, some 4, some 1, none])] [.v .any, .v (.ptr 1 0 0)] [.rows 0 false xl0, .cells 39 [.int .i64 xc1_0, .int .i64 xc1_1, .int .i64 xc1_2, .sl 2, .sl 3, .sl 4, .sl 5, .int .i64 xc1_7], .rows 2 true xl3, .rows 3 true xl4, .rows 4 true xl5, .rows 1 true xl6])) n x2
  | 0, _ => rfl
  | n + 1, x2 => (show loopN 1 (Code.den ti (laws_FnReviewed.Γ k) (laws_FnReviewed.LH k) (loopAt Tryz.f6 1)) [(4, [none, none, none, some 2, some 3, some 4, some 1, none]), (8, [some 5]), (9, [])] [(2, []), (4, [none, none, none, some 2, some 3, some 4, some 1, none])] K (n + 1) [.v (.ptr 1 0 0), .v (.sl 2), .v (.int .i64 x2)] [.rows 0 false xl0, .cells 39 [.int .i64 xc1_0, .int .i64 xc1_1, .int .i64 xc1_2, .sl 3, .sl 4, .sl 5, .sl 6, .int .i64 xc1_7], .rows 5 true xl2, .rows 2 true xl3, .rows 3 true xl4, .rows 4 true xl5, .rows 1 true xl6] = laws_FnReviewed.L19 k xl0 xc1_0 xc1_1 xc1_2 xc1_7 xl2 xl3 xl4 xl5 xl6 (fun (z0 : Bool) => K .ret (stOf [(2, []), (4, [none, none, none, some 2, some 3, some 4, some 1, none])] [.v (.bool z0), .v (.ptr 1 0 0)] [.rows 0 false xl0, .cells 39 [.int .i64 xc1_0, .int .i64 xc1_1, .int .i64 xc1_2, .sl 2, .sl 3, .sl 4, .sl 5, .int .i64 xc1_7], .rows 2 true xl3, .rows 3 true xl4, .rows 4 true xl5, .rows 1 true xl6])) (fun (_ : Unit) => K (.exit 2) (stOf [(2, []), (4, [none, none, none, some 2, some 3, some 4, some 1, none])] [.v .any, .v (.ptr 1 0 0)] [.rows 0 false xl0, .cells 39 [.int .i64 xc1_0, .int .i64 xc1_1, .int .i64 xc1_2, .sl 2, .sl 3, .sl 4, .sl 5, .int .i64 xc1_7], .rows 2 true xl3, .rows 3 true xl4, .rows 4 true xl5, .rows 1 true xl6])) (fun (x2' : Int) => loopN 1 (Code.den ti (laws_FnReviewed.Γ k) (laws_FnReviewed.LH k) (loopAt Tryz.f6 1)) [(4, [none, none, none, some 2, some 3, some 4, some 1, none]), (8, [some 5]), (9, [])] [(2, []), (4, [none, none, none, some 2, some 3, some 4, some 1, none])] K n [.v (.ptr 1 0 0), .v (.sl 2), .v (.int .i64 x2')] [.rows 0 false xl0, .cells 39 [.int .i64 xc1_0, .int .i64 xc1_1, .int .i64 xc1_2, .sl 3, .sl 4, .sl 5, .sl 6, .int .i64 xc1_7], .rows 5 true xl2, .rows 2 true xl3, .rows 3 true xl4, .rows 4 true xl5, .rows 1 true xl6]) x2 by kernel_rfl).trans (congrArg (fun rec => laws_FnReviewed.L19 k xl0 xc1_0 xc1_1 xc1_2 xc1_7 xl2 xl3 xl4 xl5 xl6 (fun (z0 : Bool) => K .ret (stOf [(2, []), (4, [none, none, none, some 2, some 3, some 4, some 1, none])] [.v (.bool z0), .v (.ptr 1 0 0)] [.rows 0 false xl0, .cells 39 [.int .i64 xc1_0, .int .i64 xc1_1, .int .i64 xc1_2, .sl 2, .sl 3, .sl 4, .sl 5, .int .i64 xc1_7], .rows 2 true xl3, .rows 3 true xl4, .rows 4 true xl5, .rows 1 true xl6])) (fun (_ : Unit) => K (.exit 2) (stOf [(2, []), (4, [none, none, none, some 2, some 3, some 4, some 1, none])] [.v .any, .v (.ptr 1 0 0)] [.rows 0 false xl0, .cells 39 [.int .i64 xc1_0, .int .i64 xc1_1, .int .i64 xc1_2, .sl 2, .sl 3, .sl 4, .sl 5, .int .i64 xc1_7], .rows 2 true xl3, .rows 3 true xl4, .rows 4 true xl5, .rows 1 true xl6])) rec x2) (funext fun x2' => laws_FnReviewed.e19 K k xl0 xc1_0 xc1_1 xc1_2 xc1_7 xl2 xl3 xl4 xl5 xl6 n x2'))
theorem laws_FnReviewed.q19 (k : Nat) {R : Type} (K : Ex → St κ → Option R) (vs : List AV) (bs : List (Blk κ)) (r : R) (h : laws_FnReviewed.h19 k K vs bs = some r) : ∃ n, loopN 1 (Code.den ti (laws_FnReviewed.Γ k) (laws_FnReviewed.LH k) (loopAt Tryz.f6 1)) [(4, [none, none, none, some 2, some 3, some 4, some 1, none]), (8, [some 5]), (9, [])] [(2, []), (4, [none, none, none, some 2, some 3, some 4, some 1, none])] K n vs bs = some r := by
  unfold laws_FnReviewed.h19 at h
  split at h
  · obtain ⟨_, rfl, h_1⟩ := asO_bind h
    obtain ⟨_, rfl, h_2⟩ := asO_bind h_1
    obtain ⟨_, rfl, h_3⟩ := asO_bind h_2
    obtain ⟨_, rfl, h_4⟩ := asO_bind h_3
    obtain ⟨_, rfl, h_5⟩ := asO_bind h_4
    obtain ⟨_, rfl, h_6⟩ := asO_bind h_5
    exact ⟨k, (laws_FnReviewed.e19 K k _ _ _ _ _ _ _ _ _ _ k _).trans h_6⟩
  · cases h
theorem laws_FnReviewed.e26 {R : Type} (K : Ex → St κ → Option R) (k : Nat) (xl0 : List Int) (xc1_0 : Int) (xc1_1 : Int) (xc1_2 : Int) (xc1_7 : Int) (xl2 : List T_impl_Sent) (xl3 : List T_impl_Grant) (xl4 : List T_impl_Flow) (xl5 : List T_impl_Rule) (xl6 : List T_impl_Op) : ∀ (n : Nat) (x2 : Int) (x3 : Int), loopN 1 (Code.den ti (laws_FnReviewed.Γ k) (laws_FnReviewed.LH k) (loopAt Tryz.f6 2)) [(4, [none, none, none, some 2, some 3, some 4, some 1, none]), (10, [some 6]), (11, []), (12, [])] [(10, [some 6]), (11, [])] K n [.v (.ptr 1 0 0), .v (.sl 2), .v (.int .i64 x2), .v (.int .i64 x3)] [.rows 0 false xl0, .cells 39 [.int .i64 xc1_0, .int .i64 xc1_1, .int .i64 xc1_2, .sl 3, .sl 4, .sl 5, .sl 6, .int .i64 xc1_7], .rows 6 true xl2, .rows 2 true xl3, .rows 3 true xl4, .rows 4 true xl5, .rows 1 true xl6] = laws_FnReviewed.l26 k xl0 xc1_0 xc1_1 xc1_2 xc1_7 xl2 xl3 xl4 xl5 xl6 (fun (z1 : Int) => K (.exit 4) (stOf [(10, [some 6]), (11, [])] [.v (.sl 1), .v (.int .i64 z1)] [.rows 0 false xl0, .rows 6 true xl2])) n x2 x3
  | 0, _, _ => rfl
  | n + 1, x2, x3 => (show loopN 1 (Code.den ti (laws_FnReviewed.Γ k) (laws_FnReviewed.LH k) (loopAt Tryz.f6 2)) [(4, [none, none, none, some 2, some 3, some 4, some 1, none]), (10, [some 6]), (11, []), (12, [])] [(10, [some 6]), (11, [])] K (n + 1) [.v (.ptr 1 0 0), .v (.sl 2), .v (.int .i64 x2), .v (.int .i64 x3)] [.rows 0 false xl0, .cells 39 [.int .i64 xc1_0, .int .i64 xc1_1, .int .i64 xc1_2, .sl 3, .sl 4, .sl 5, .sl 6, .int .i64 xc1_7], .rows 6 true xl2, .rows 2 true xl3, .rows 3 true xl4, .rows 4 true xl5, .rows 1 true xl6] = laws_FnReviewed.L26 k xl0 xc1_0 xc1_1 xc1_2 xc1_7 xl2 xl3 xl4 xl5 xl6 (fun (z1 : Int) => K (.exit 4) (stOf [(10, [some 6]), (11, [])] [.v (.sl 1), .v (.int .i64 z1)] [.rows 0 false xl0, .rows 6 true xl2])) (fun (x2' : Int) (x3' : Int) => loopN 1 (Code.den ti (laws_FnReviewed.Γ k) (laws_FnReviewed.LH k) (loopAt Tryz.f6 2)) [(4, [none, none, none, some 2, some 3, some 4, some 1, none]), (10, [some 6]), (11, []), (12, [])] [(10, [some 6]), (11, [])] K n [.v (.ptr 1 0 0), .v (.sl 2), .v (.int .i64 x2'), .v (.int .i64 x3')] [.rows 0 false xl0, .cells 39 [.int .i64 xc1_0, .int .i64 xc1_1, .int .i64 xc1_2, .sl 3, .sl 4, .sl 5, .sl 6, .int .i64 xc1_7], .rows 6 true xl2, .rows 2 true xl3, .rows 3 true xl4, .rows 4 true xl5, .rows 1 true xl6]) x2 x3 by kernel_rfl).trans (congrArg (fun rec => laws_FnReviewed.L26 k xl0 xc1_0 xc1_1 xc1_2 xc1_7 xl2 xl3 xl4 xl5 xl6 (fun (z1 : Int) => K (.exit 4) (stOf [(10, [some 6]), (11, [])] [.v (.sl 1), .v (.int .i64 z1)] [.rows 0 false xl0, .rows 6 true xl2])) rec x2 x3) (funext fun x2' => funext fun x3' => laws_FnReviewed.e26 K k xl0 xc1_0 xc1_1 xc1_2 xc1_7 xl2 xl3 xl4 xl5 xl6 n x2' x3'))
theorem laws_FnReviewed.q26 (k : Nat) {R : Type} (K : Ex → St κ → Option R) (vs : List AV) (bs : List (Blk κ)) (r : R) (h : laws_FnReviewed.h26 k K vs bs = some r) : ∃ n, loopN 1 (Code.den ti (laws_FnReviewed.Γ k) (laws_FnReviewed.LH k) (loopAt Tryz.f6 2)) [(4, [none, none, none, some 2, some 3, some 4, some 1, none]), (10, [some 6]), (11, []), (12, [])] [(10, [some 6]), (11, [])] K n vs bs = some r := by
  unfold laws_FnReviewed.h26 at h
  split at h
  · obtain ⟨_, rfl, h_1⟩ := asO_bind h
    obtain ⟨_, rfl, h_2⟩ := asO_bind h_1
    obtain ⟨_, rfl, h_3⟩ := asO_bind h_2
    obtain ⟨_, rfl, h_4⟩ := asO_bind h_3
    obtain ⟨_, rfl, h_5⟩ := asO_bind h_4
    obtain ⟨_, rfl, h_6⟩ := asO_bind h_5
    exact ⟨k, (laws_FnReviewed.e26 K k _ _ _ _ _ _ _ _ _ _ k _ _).trans h_6⟩
  · cases h
theorem laws_FnReviewed.lok (k : Nat) : LOK ti (laws_FnReviewed.Γ k) (laws_FnReviewed.LH k) 1 (loopsOf (bodyOf Tryz.f6)) :=
  (show loopsOf (bodyOf Tryz.f6) = [loopAt Tryz.f6 0, loopAt Tryz.f6 1, loopAt Tryz.f6 2] by kernel_rfl) ▸ (LOK_cons (g := ⟨1, [(4, [none, none, none, some 2, some 3, some 4, some 1, none]), (6, [some 5]), (7, [])], [(2, []), (4, [none, none, none, some 2, some 3, some 4, some 1, none])], @laws_FnReviewed.h13 k⟩) (by kernel_rfl) rfl (fun K vs xs r h => laws_FnReviewed.q13 k K vs xs r h) (LOK_cons (g := ⟨1, [(4, [none, none, none, some 2, some 3, some 4, some 1, none]), (8, [some 5]), (9, [])], [(2, []), (4, [none, none, none, some 2, some 3, some 4, some 1, none])], @laws_FnReviewed.h19 k⟩) (by kernel_rfl) rfl (fun K vs xs r h => laws_FnReviewed.q19 k K vs xs r h) (LOK_cons (g := ⟨1, [(4, [none, none, none, some 2, some 3, some 4, some 1, none]), (10, [some 6]), (11, []), (12, [])], [(10, [some 6]), (11, [])], @laws_FnReviewed.h26 k⟩) (by kernel_rfl) rfl (fun K vs xs r h => laws_FnReviewed.q26 k K vs xs r h) (LOK_nil))))
def laws_FnReviewed.sig : List PSh := [.one (.ro 0)]
def laws_FnReviewed.g (y : Bool) : Ret κ := ⟨.v (.bool y), [], []⟩
def laws_FnReviewed.out (r : Ret κ) : Option Bool :=
  match r with
  | ⟨.v (.bool z0), [], []⟩ => some (z0)
  | _ => none
theorem laws_FnReviewed.out_ok (r : Ret κ) (y : Bool) (h : laws_FnReviewed.out r = some y) : r = laws_FnReviewed.g y := by
  unfold laws_FnReviewed.out at h
  split at h
  · obtain rfl := Option.some.inj h
    rfl
  · cases h
def laws_FnReviewed.body (k : Nat) (vs : List AV) (bs : List (Blk κ)) : Option (Lf κ) :=
  match vs, bs with
  | [.v (.sl 0)], [qb0] => (asO 0 false qb0).bind fun a0 => some ⟨Bool, laws_FnReviewed.f k a0, laws_FnReviewed.g⟩
  | _, _ => none
def laws_FnReviewed.C (k : Nat) : Nat → List AV → AP κ AV := contract laws_FnReviewed.sig (laws_FnReviewed.body k)
theorem laws_FnReviewed.den (k : Nat) (a0 : List Int) : Code.den ti (laws_FnReviewed.Γ k) (laws_FnReviewed.LH k) (bodyOf Tryz.f6) (finK ti Tryz.f6.results.toList [] (flags laws_FnReviewed.sig).length (rwI (flags laws_FnReviewed.sig) 0) laws_FnReviewed.out) ⟨envOf (([.v (.sl 0)]).zipIdx.map fun q => (q.2, q.1)), hpOf [.rows 0 false a0], (flags laws_FnReviewed.sig).length⟩ = laws_FnReviewed.f k a0 := by kernel_rfl
theorem laws_FnReviewed.ok (k : Nat) : CSound Tryz.prog 6 (laws_FnReviewed.C k) :=
  csound κ_ok mixed tok (laws_FnReviewed.hΓ k) (LH := laws_FnReviewed.LH k) (fn := Tryz.f6) (c := bodyOf Tryz.f6) Tryz.func6 rfl Tryz.call6 laws_FnReviewed.sig [] (laws_FnReviewed.body k) (by kernel_rfl) (laws_FnReviewed.lok k) (by decide) fun vs bs lf y hl hb hy => by
    unfold laws_FnReviewed.body at hb
    split at hb
    · obtain ⟨_, rfl, hb_1⟩ := asO_bind hb
      obtain rfl := Option.some.inj hb_1
      exact ⟨laws_FnReviewed.out, laws_FnReviewed.out_ok, (laws_FnReviewed.den k _).trans hy⟩
    · cases hb
end Go.Proofs.YtoenilndklbceaaGreat.PFnReviewed
