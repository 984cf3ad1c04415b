/- What the functions that the law FnUpdated reaches come to; no conditions. -/
import Derived.Test.YtoenilndklbceaaGreatPFnUpdated7
set_option linter.unusedVariables false
set_option maxRecDepth 100000
namespace Go.Proofs.YtoenilndklbceaaGreat.PFnUpdated
open Go Go.Eng Go.Proofs
/-! ### slices_Contains_Flow -/
def slices_Contains_Flow.f (k : Nat) (a0 : List T_impl_Flow) (a1_0 : Int) (a1_1 : Int) (a1_2 : Int) : Option Bool :=
  (slices_Index_Flow.f k a0 a1_0 a1_1 a1_2).bind fun t1 => some (decide (t1 ≥ (0 : Int)))
def slices_Contains_Flow.Γ (k : Nat) : Ct κ := assoc [(123, slices_Index_Flow.C k)]
def slices_Contains_Flow.LH (k : Nat) : Nat → Option (LHi κ) := assoc []
theorem slices_Contains_Flow.hΓ (k : Nat) : ∀ f g, slices_Contains_Flow.Γ k f = some g → CSound Tryz.prog f g := G_cons (slices_Index_Flow.ok k) G_nil
theorem slices_Contains_Flow.lok (k : Nat) : LOK ti (slices_Contains_Flow.Γ k) (slices_Contains_Flow.LH k) 1 (loopsOf (bodyOf Tryz.f79)) :=
  (show loopsOf (bodyOf Tryz.f79) = [] by kernel_rfl) ▸ LOK_nil
def slices_Contains_Flow.sig : List PSh := [.one (.ro 3), .agg [.sc, .sc, .sc]]
def slices_Contains_Flow.g (y : Bool) : Ret κ := ⟨.v (.bool y), [], []⟩
def slices_Contains_Flow.out (r : Ret κ) : Option Bool :=
  match r with
  | ⟨.v (.bool z0), [], []⟩ => some (z0)
  | _ => none
theorem slices_Contains_Flow.out_ok (r : Ret κ) (y : Bool) (h : slices_Contains_Flow.out r = some y) : r = slices_Contains_Flow.g y := by
  unfold slices_Contains_Flow.out at h
  split at h
  · obtain rfl := Option.some.inj h
    rfl
  · cases h
def slices_Contains_Flow.body (k : Nat) (vs : List AV) (bs : List (Blk κ)) : Option (Lf κ) :=
  match vs, bs with
  | [.v (.sl 0), .agg [.int .i64 a1_0, .int .i64 a1_1, .int .i64 a1_2]], [qb0] => (asO 3 false qb0).bind fun a0 => some ⟨Bool, slices_Contains_Flow.f k a0 a1_0 a1_1 a1_2, slices_Contains_Flow.g⟩
  | _, _ => none
def slices_Contains_Flow.C (k : Nat) : Nat → List AV → AP κ AV := contract slices_Contains_Flow.sig (slices_Contains_Flow.body k)
theorem slices_Contains_Flow.den (k : Nat) (a0 : List T_impl_Flow) (a1_0 : Int) (a1_1 : Int) (a1_2 : Int) : Code.den ti (slices_Contains_Flow.Γ k) (slices_Contains_Flow.LH k) (bodyOf Tryz.f79) (finK ti Tryz.f79.results.toList [] (flags slices_Contains_Flow.sig).length (rwI (flags slices_Contains_Flow.sig) 0) slices_Contains_Flow.out) ⟨envOf (([.v (.sl 0), .agg [.int .i64 a1_0, .int .i64 a1_1, .int .i64 a1_2]]).zipIdx.map fun q => (q.2, q.1)), hpOf [.rows 3 false a0], (flags slices_Contains_Flow.sig).length⟩ = slices_Contains_Flow.f k a0 a1_0 a1_1 a1_2 := by kernel_rfl
theorem slices_Contains_Flow.ok (k : Nat) : CSound Tryz.prog 79 (slices_Contains_Flow.C k) :=
  csound κ_ok mixed tok (slices_Contains_Flow.hΓ k) (LH := slices_Contains_Flow.LH k) (fn := Tryz.f79) (c := bodyOf Tryz.f79) Tryz.func79 rfl Tryz.call79 slices_Contains_Flow.sig [] (slices_Contains_Flow.body k) (by kernel_rfl) (slices_Contains_Flow.lok k) (by decide) fun vs bs lf y hl hb hy => by
    unfold slices_Contains_Flow.body at hb
    split at hb
    · obtain ⟨_, rfl, hb_1⟩ := asO_bind hb
      obtain rfl := Option.some.inj hb_1
      exact ⟨slices_Contains_Flow.out, slices_Contains_Flow.out_ok, (slices_Contains_Flow.den k _ _ _ _).trans hy⟩
    · cases hb
/-! ### impl_NeedsFlows -/
def impl_NeedsFlows.L9 {R : Type} (k : Nat) (x0 : Int) (x4 : Int) (x5 : Int) (x7 : Int) (xl0 : List T_impl_Op) (xc2_0 : Int) (xc2_1 : Int) (xc2_2 : Int) (xl3 : List T_impl_Sent) (xl4 : List Int) (X0 : List T_impl_Flow → Option R) (rec : Int → List T_impl_Flow → Option R) (x8 : Int) (xl1 : List T_impl_Flow) : Option R :=
  (bif decide (x8 < x7) then (bif decide (0 ≤ x8) then (bif decide (x8 < (xl4.length : Int)) then (bif ((rd_i64 xl4 x8) != xc2_0) then (slices_Contains_Flow.f k xl1 x0 (rd_i64 xl4 x8) xc2_0).bind fun t4 => (bif !t4 then (bif decide ((xl1.length + ([(⟨x0, (rd_i64 xl4 x8), xc2_0⟩ : T_impl_Flow)] : List T_impl_Flow).length) * 24 ≤ cap48) then (let l5 : List T_impl_Flow := (xl1 ++ ([(⟨x0, (rd_i64 xl4 x8), xc2_0⟩ : T_impl_Flow)] : List T_impl_Flow)); (rec (w64 (x8 + (1 : Int))) l5)) else none) else (rec (w64 (x8 + (1 : Int))) xl1)) else (rec (w64 (x8 + (1 : Int))) xl1)) else none) else none) else (X0 xl1))
def impl_NeedsFlows.l9 {R : Type} (k : Nat) (x0 : Int) (x4 : Int) (x5 : Int) (x7 : Int) (xl0 : List T_impl_Op) (xc2_0 : Int) (xc2_1 : Int) (xc2_2 : Int) (xl3 : List T_impl_Sent) (xl4 : List Int) (X0 : List T_impl_Flow → Option R) : Nat → Int → List T_impl_Flow → Option R
  | 0 => fun _ _ => none
  | n + 1 => impl_NeedsFlows.L9 k x0 x4 x5 x7 xl0 xc2_0 xc2_1 xc2_2 xl3 xl4 X0 (impl_NeedsFlows.l9 k x0 x4 x5 x7 xl0 xc2_0 xc2_1 xc2_2 xl3 xl4 X0 n)
def impl_NeedsFlows.L6 {R : Type} (k : Nat) (x0 : Int) (x3 : Int) (xl0 : List T_impl_Op) (xl2 : List T_impl_Sent) (X0 : List T_impl_Flow → Option R) (rec : Int → List T_impl_Flow → Option R) (x4 : Int) (xl1 : List T_impl_Flow) : Option R :=
  (bif decide (x4 < x3) then (bif decide (0 ≤ x4) then (bif decide (x4 < (xl2.length : Int)) then (impl_OwnersIn.f k ((rd_impl_Sent xl2 x4).f2)).bind fun t3 => (impl_NeedsFlows.l9 k x0 x3 x4 (t3.length : Int) xl0 ((rd_impl_Sent xl2 x4).f0) ((rd_impl_Sent xl2 x4).f1) ((rd_impl_Sent xl2 x4).f2) xl2 t3 (fun (y4 : List T_impl_Flow) => (rec (w64 (x4 + (1 : Int))) y4)) k (0 : Int) xl1) else none) else none) else (X0 xl1))
def impl_NeedsFlows.l6 {R : Type} (k : Nat) (x0 : Int) (x3 : Int) (xl0 : List T_impl_Op) (xl2 : List T_impl_Sent) (X0 : List T_impl_Flow → Option R) : Nat → Int → List T_impl_Flow → Option R
  | 0 => fun _ _ => none
  | n + 1 => impl_NeedsFlows.L6 k x0 x3 xl0 xl2 X0 (impl_NeedsFlows.l6 k x0 x3 xl0 xl2 X0 n)
def impl_NeedsFlows.f (k : Nat) (a0 : List T_impl_Op) (a1 : Int) : Option (List T_impl_Flow) :=
  (impl_AreOps.f k a0).bind fun t1 => (bif !t1 then some ([] : List T_impl_Flow) else (impl_executed.f k a0 ([] : List Int)).bind fun t2 => (impl_NeedsFlows.l6 k a1 (t2.1.length : Int) a0 t2.1 (fun (y5 : List T_impl_Flow) => some y5) k (0 : Int) ([] : List T_impl_Flow)))
def impl_NeedsFlows.h9 (k : Nat) {R : Type} (K : Ex → St κ → Option R) (vs : List AV) (bs : List (Blk κ)) : Option R :=
  match vs, bs with
  | [.v (.int .i64 x0), .v (.sl 1), .v (.ptr 2 0 0), .v (.sl 3), .v (.int .i64 x4), .v (.int .i64 x5), .v (.sl 4), .v (.int .i64 x7), .v (.int .i64 x8)], [qb0, qb1, .cells 125 [.int .i64 xc2_0, .int .i64 xc2_1, .int .i64 xc2_2], qb3, qb4] => (asO 1 false qb0).bind fun xl0 => (asO 3 true qb1).bind fun xl1 => (asO 6 true qb3).bind fun xl3 => (asO 5 true qb4).bind fun xl4 => impl_NeedsFlows.l9 k x0 x4 x5 x7 xl0 xc2_0 xc2_1 xc2_2 xl3 xl4 (fun (zl1 : List T_impl_Flow) => K (.exit 2) (stOf [(1, []), (5, [some 3]), (23, [some 6]), (24, []), (25, [])] [.v (.int .i64 x0), .v (.sl 1), .v (.sl 2), .v (.int .i64 x4), .v (.int .i64 x5)] [.rows 1 false xl0, .rows 3 true zl1, .rows 6 true xl3])) k x8 xl1
  | _, _ => none
def impl_NeedsFlows.h6 (k : Nat) {R : Type} (K : Ex → St κ → Option R) (vs : List AV) (bs : List (Blk κ)) : Option R :=
  match vs, bs with
  | [.v (.int .i64 x0), .v (.sl 1), .v (.sl 2), .v (.int .i64 x3), .v (.int .i64 x4)], [qb0, qb1, qb2] => (asO 1 false qb0).bind fun xl0 => (asO 3 true qb1).bind fun xl1 => (asO 6 true qb2).bind fun xl2 => impl_NeedsFlows.l6 k x0 x3 xl0 xl2 (fun (zl1 : List T_impl_Flow) => K (.exit 0) (stOf [(5, [some 3])] [.v (.sl 1)] [.rows 1 false xl0, .rows 3 true zl1])) k x4 xl1
  | _, _ => none
def impl_NeedsFlows.Γ (k : Nat) : Ct κ := assoc [(89, impl_AreOps.C k), (92, impl_executed.C k), (138, impl_OwnersIn.C k), (79, slices_Contains_Flow.C k)]
def impl_NeedsFlows.LH (k : Nat) : Nat → Option (LHi κ) := assoc [(9, ⟨1, [(1, []), (5, [some 3]), (9, []), (23, [some 6]), (24, []), (25, []), (31, [some 5]), (32, []), (33, [])], [(1, []), (5, [some 3]), (23, [some 6]), (24, []), (25, [])], @impl_NeedsFlows.h9 k⟩), (6, ⟨1, [(1, []), (5, [some 3]), (23, [some 6]), (24, []), (25, [])], [(5, [some 3])], @impl_NeedsFlows.h6 k⟩)]
theorem impl_NeedsFlows.hΓ (k : Nat) : ∀ f g, impl_NeedsFlows.Γ k f = some g → CSound Tryz.prog f g := G_cons (impl_AreOps.ok k) (G_cons (impl_executed.ok k) (G_cons (impl_OwnersIn.ok k) (G_cons (slices_Contains_Flow.ok k) G_nil)))
theorem impl_NeedsFlows.e9 {R : Type} (K : Ex → St κ → Option R) (k : Nat) (x0 : Int) (x4 : Int) (x5 : Int) (x7 : Int) (xl0 : List T_impl_Op) (xc2_0 : Int) (xc2_1 : Int) (xc2_2 : Int) (xl3 : List T_impl_Sent) (xl4 : List Int) : ∀ (n : Nat) (x8 : Int) (xl1 : List T_impl_Flow), loopN 1 (Code.den ti (impl_NeedsFlows.Γ k) (impl_NeedsFlows.LH k) (loopAt Tryz.f90 1)) [(1, []), (5, [some 3]), (9, []), (23, [some 6]), (24, []), (25, []), (31, [some 5]), (32, []), (33, [])] [(1, []), (5, [some 3]), (23, [some 6]), (24, []), (25, [])] K n [.v (.int .i64 x0), .v (.sl 1), .v (.ptr 2 0 0), .v (.sl 3), .v (.int .i64 x4), .v (.int .i64 x5), .v (.sl 4), .v (.int .i64 x7), .v (.int .i64 x8)] [.rows 1 false xl0, .rows 3 true xl1, .cells 125 [.int .i64 xc2_0, .int .i64 xc2_1, .int .i64 xc2_2], .rows 6 true xl3, .rows 5 true xl4] = impl_NeedsFlows.l9 k x0 x4 x5 x7 xl0 xc2_0 xc2_1 xc2_2 xl3 xl4 (fun (zl1 : List T_impl_Flow) => K (.exit 2) (stOf [(1, []), (5, [some 3]), (23, [some 6]), (24, []), (25, [])] [.v (.int .i64 x0), .v (.sl 1), .v (.sl 2), .v (.int .i64 x4), .v (.int .i64 x5)] [.rows 1 false xl0, .rows 3 true zl1, .rows 6 true xl3])) n x8 xl1
  | 0, _, _ => rfl
  | n + 1, x8, xl1 => (show loopN 1 (Code.den ti (impl_NeedsFlows.Γ k) (impl_NeedsFlows.LH k) (loopAt Tryz.f90 1)) [(1, []), (5, [some 3]), (9, []), (23, [some 6]), (24, []), (25, []), (31, [some 5]), (32, []), (33, [])] [(1, []), (5, [some 3]), (23, [some 6]), (24, []), (25, [])] K (n + 1) [.v (.int .i64 x0), .v (.sl 1), .v (.ptr 2 0 0), .v (.sl 3), .v (.int .i64 x4), .v (.int .i64 x5), .v (.sl 4), .v (.int .i64 x7), .v (.int .i64 x8)] [.rows 1 false xl0, .rows 3 true xl1, .cells 125 [.int .i64 xc2_0, .int .i64 xc2_1, .int .i64 xc2_2], .rows 6 true xl3, .rows 5 true xl4] = impl_NeedsFlows.L9 k x0 x4 x5 x7 xl0 xc2_0 xc2_1 xc2_2 xl3 xl4 (fun (zl1 : List T_impl_Flow) => K (.exit 2) (stOf [(1, []), (5, [some 3]), (23, [some 6]), (24, []), (25, [])] [.v (.int .i64 x0), .v (.sl 1), .v (.sl 2), .v (.int .i64 x4), .v (.int .i64 x5)] [.rows 1 false xl0, .rows 3 true zl1, .rows 6 true xl3])) (fun (x8' : Int) (xl1' : List T_impl_Flow) => loopN 1 (Code.den ti (impl_NeedsFlows.Γ k) (impl_NeedsFlows.LH k) (loopAt Tryz.f90 1)) [(1, []), (5, [some 3]), (9, []), (23, [some 6]), (24, []), (25, []), (31, [some 5]), (32, []), (33, [])] [(1, []), (5, [some 3]), (23, [some 6]), (24, []), (25, [])] K n [.v (.int .i64 x0), .v (.sl 1), .v (.ptr 2 0 0), .v (.sl 3), .v (.int .i64 x4), .v (.int .i64 x5), .v (.sl 4), .v (.int .i64 x7), .v (.int .i64 x8')] [.rows 1 false xl0, .rows 3 true xl1', .cells 125 [.int .i64 xc2_0, .int .i64 xc2_1, .int .i64 xc2_2], .rows 6 true xl3, .rows 5 true xl4]) x8 xl1 by kernel_rfl).trans (congrArg (fun rec => impl_NeedsFlows.L9 k x0 x4 x5 x7 xl0 xc2_0 xc2_1 xc2_2 xl3 xl4 (fun (zl1 : List T_impl_Flow) => K (.exit 2) (stOf [(1, []), (5, [some 3]), (23, [some 6]), (24, []), (25, [])] [.v (.int .i64 x0), .v (.sl 1), .v (.sl 2), .v (.int .i64 x4), .v (.int .i64 x5)] [.rows 1 false xl0, .rows 3 true zl1, .rows 6 true xl3])) rec x8 xl1) (funext fun x8' => funext fun xl1' => impl_NeedsFlows.e9 K k x0 x4 x5 x7 xl0 xc2_0 xc2_1 xc2_2 xl3 xl4 n x8' xl1'))
theorem impl_NeedsFlows.q9 (k : Nat) {R : Type} (K : Ex → St κ → Option R) (vs : List AV) (bs : List (Blk κ)) (r : R) (h : impl_NeedsFlows.h9 k K vs bs = some r) : ∃ n, loopN 1 (Code.den ti (impl_NeedsFlows.Γ k) (impl_NeedsFlows.LH k) (loopAt Tryz.f90 1)) [(1, []), (5, [some 3]), (9, []), (23, [some 6]), (24, []), (25, []), (31, [some 5]), (32, []), (33, [])] [(1, []), (5, [some 3]), (23, [some 6]), (24, []), (25, [])] K n vs bs = some r := by
  unfold impl_NeedsFlows.h9 at h
  split at h
  · obtain ⟨_, rfl, h_1⟩ := asO_bind h
    obtain ⟨_, rfl, h_2⟩ := asO_bind h_1
    obtain ⟨_, rfl, h_3⟩ := asO_bind h_2
    obtain ⟨_, rfl, h_4⟩ := asO_bind h_3
    exact ⟨k, (impl_NeedsFlows.e9 K k _ _ _ _ _ _ _ _ _ _ k _ _).trans h_4⟩
  · cases h
theorem impl_NeedsFlows.e6 {R : Type} (K : Ex → St κ → Option R) (k : Nat) (x0 : Int) (x3 : Int) (xl0 : List T_impl_Op) (xl2 : List T_impl_Sent) : ∀ (n : Nat) (x4 : Int) (xl1 : List T_impl_Flow), loopN 1 (Code.den ti (impl_NeedsFlows.Γ k) (impl_NeedsFlows.LH k) (loopAt Tryz.f90 0)) [(1, []), (5, [some 3]), (23, [some 6]), (24, []), (25, [])] [(5, [some 3])] K n [.v (.int .i64 x0), .v (.sl 1), .v (.sl 2), .v (.int .i64 x3), .v (.int .i64 x4)] [.rows 1 false xl0, .rows 3 true xl1, .rows 6 true xl2] = impl_NeedsFlows.l6 k x0 x3 xl0 xl2 (fun (zl1 : List T_impl_Flow) => K (.exit 0) (stOf [(5, [some 3])] [.v (.sl 1)] [.rows 1 false xl0, .rows 3 true zl1])) n x4 xl1
  | 0, _, _ => rfl
  | n + 1, x4, xl1 => (show loopN 1 (Code.den ti (impl_NeedsFlows.Γ k) (impl_NeedsFlows.LH k) (loopAt Tryz.f90 0)) [(1, []), (5, [some 3]), (23, [some 6]), (24, []), (25, [])] [(5, [some 3])] K (n + 1) [.v (.int .i64 x0), .v (.sl 1), .v (.sl 2), .v (.int .i64 x3), .v (.int .i64 x4)] [.rows 1 false xl0, .rows 3 true xl1, .rows 6 true xl2] = impl_NeedsFlows.L6 k x0 x3 xl0 xl2 (fun (zl1 : List T_impl_Flow) => K (.exit 0) (stOf [(5, [some 3])] [.v (.sl 1)] [.rows 1 false xl0, .rows 3 true zl1])) (fun (x4' : Int) (xl1' : List T_impl_Flow) => loopN 1 (Code.den ti (impl_NeedsFlows.Γ k) (impl_NeedsFlows.LH k) (loopAt Tryz.f90 0)) [(1, []), (5, [some 3]), (23, [some 6]), (24, []), (25, [])] [(5, [some 3])] K n [.v (.int .i64 x0), .v (.sl 1), .v (.sl 2), .v (.int .i64 x3), .v (.int .i64 x4')] [.rows 1 false xl0, .rows 3 true xl1', .rows 6 true xl2]) x4 xl1 by kernel_rfl).trans (congrArg (fun rec => impl_NeedsFlows.L6 k x0 x3 xl0 xl2 (fun (zl1 : List T_impl_Flow) => K (.exit 0) (stOf [(5, [some 3])] [.v (.sl 1)] [.rows 1 false xl0, .rows 3 true zl1])) rec x4 xl1) (funext fun x4' => funext fun xl1' => impl_NeedsFlows.e6 K k x0 x3 xl0 xl2 n x4' xl1'))
theorem impl_NeedsFlows.q6 (k : Nat) {R : Type} (K : Ex → St κ → Option R) (vs : List AV) (bs : List (Blk κ)) (r : R) (h : impl_NeedsFlows.h6 k K vs bs = some r) : ∃ n, loopN 1 (Code.den ti (impl_NeedsFlows.Γ k) (impl_NeedsFlows.LH k) (loopAt Tryz.f90 0)) [(1, []), (5, [some 3]), (23, [some 6]), (24, []), (25, [])] [(5, [some 3])] K n vs bs = some r := by
  unfold impl_NeedsFlows.h6 at h
  split at h
  · obtain ⟨_, rfl, h_1⟩ := asO_bind h
    obtain ⟨_, rfl, h_2⟩ := asO_bind h_1
    obtain ⟨_, rfl, h_3⟩ := asO_bind h_2
    exact ⟨k, (impl_NeedsFlows.e6 K k _ _ _ _ k _ _).trans h_3⟩
  · cases h
theorem impl_NeedsFlows.lok (k : Nat) : LOK ti (impl_NeedsFlows.Γ k) (impl_NeedsFlows.LH k) 1 (loopsOf (bodyOf Tryz.f90)) :=
  (show loopsOf (bodyOf Tryz.f90) = [loopAt Tryz.f90 0, loopAt Tryz.f90 1] by kernel_rfl) ▸ (LOK_cons (g := ⟨1, [(1, []), (5, [some 3]), (23, [some 6]), (24, []), (25, [])], [(5, [some 3])], @impl_NeedsFlows.h6 k⟩) (by kernel_rfl) rfl (fun K vs xs r h => impl_NeedsFlows.q6 k K vs xs r h) (LOK_cons (g := ⟨1, [(1, []), (5, [some 3]), (9, []), (23, [some 6]), (24, []), (25, []), (31, [some 5]), (32, []), (33, [])], [(1, []), (5, [some 3]), (23, [some 6]), (24, []), (25, [])], @impl_NeedsFlows.h9 k⟩) (by kernel_rfl) rfl (fun K vs xs r h => impl_NeedsFlows.q9 k K vs xs r h) (LOK_nil)))
def impl_NeedsFlows.sig : List PSh := [.one (.ro 1), .one .sc]
def impl_NeedsFlows.g (y : List T_impl_Flow) : Ret κ := ⟨.v (.sl 1), [], [.rows 3 true y]⟩
def impl_NeedsFlows.out (r : Ret κ) : Option (List T_impl_Flow) :=
  match r with
  | ⟨.v (.sl 1), [], [q0]⟩ => (asO 3 true q0).bind fun z0 => some (z0)
  | _ => none
theorem impl_NeedsFlows.out_ok (r : Ret κ) (y : List T_impl_Flow) (h : impl_NeedsFlows.out r = some y) : r = impl_NeedsFlows.g y := by
  unfold impl_NeedsFlows.out at h
  split at h
  · obtain ⟨_, rfl, h_1⟩ := asO_bind h
    obtain rfl := Option.some.inj h_1
    rfl
  · cases h
def impl_NeedsFlows.body (k : Nat) (vs : List AV) (bs : List (Blk κ)) : Option (Lf κ) :=
  match vs, bs with
  | [.v (.sl 0), .v (.int .i64 a1)], [qb0] => (asO 1 false qb0).bind fun a0 => some ⟨List T_impl_Flow, impl_NeedsFlows.f k a0 a1, impl_NeedsFlows.g⟩
  | _, _ => none
def impl_NeedsFlows.C (k : Nat) : Nat → List AV → AP κ AV := contract impl_NeedsFlows.sig (impl_NeedsFlows.body k)
theorem impl_NeedsFlows.den (k : Nat) (a0 : List T_impl_Op) (a1 : Int) : Code.den ti (impl_NeedsFlows.Γ k) (impl_NeedsFlows.LH k) (bodyOf Tryz.f90) (finK ti Tryz.f90.results.toList [(4, [some 3])] (flags impl_NeedsFlows.sig).length (rwI (flags impl_NeedsFlows.sig) 0) impl_NeedsFlows.out) ⟨envOf (([.v (.sl 0), .v (.int .i64 a1)]).zipIdx.map fun q => (q.2, q.1)), hpOf [.rows 1 false a0], (flags impl_NeedsFlows.sig).length⟩ = impl_NeedsFlows.f k a0 a1 := by kernel_rfl
theorem impl_NeedsFlows.ok (k : Nat) : CSound Tryz.prog 90 (impl_NeedsFlows.C k) :=
  csound κ_ok mixed tok (impl_NeedsFlows.hΓ k) (LH := impl_NeedsFlows.LH k) (fn := Tryz.f90) (c := bodyOf Tryz.f90) Tryz.func90 rfl Tryz.call90 impl_NeedsFlows.sig [(4, [some 3])] (impl_NeedsFlows.body k) (by kernel_rfl) (impl_NeedsFlows.lok k) (by decide) fun vs bs lf y hl hb hy => by
    unfold impl_NeedsFlows.body at hb
    split at hb
    · obtain ⟨_, rfl, hb_1⟩ := asO_bind hb
      obtain rfl := Option.some.inj hb_1
      exact ⟨impl_NeedsFlows.out, impl_NeedsFlows.out_ok, (impl_NeedsFlows.den k _ _).trans hy⟩
    · cases hb
/-! ### impl_FlowsWithin -/
def impl_FlowsWithin.L2 {R : Type} (k : Nat) (x2 : Int) (xl0 : List T_impl_Flow) (xl1 : List T_impl_Flow) (X0 : Bool → Option R) (X1 : Unit → Option R) (rec : Int → Option R) (x3 : Int) : Option R :=
  (bif decide (x3 < x2) then (bif decide (0 ≤ x3) then (bif decide (x3 < (xl0.length : Int)) then (impl_IsFlow.f k ((rd_impl_Flow xl0 x3).f0) ((rd_impl_Flow xl0 x3).f1) ((rd_impl_Flow xl0 x3).f2)).bind fun t1 => (bif !t1 then (X0 false) else (slices_Contains_Flow.f k xl1 ((rd_impl_Flow xl0 x3).f0) ((rd_impl_Flow xl0 x3).f1) ((rd_impl_Flow xl0 x3).f2)).bind fun t2 => (bif !t2 then (X0 false) else (rec (w64 (x3 + (1 : Int)))))) else none) else none) else (X1 ()))
def impl_FlowsWithin.l2 {R : Type} (k : Nat) (x2 : Int) (xl0 : List T_impl_Flow) (xl1 : List T_impl_Flow) (X0 : Bool → Option R) (X1 : Unit → Option R) : Nat → Int → Option R
  | 0 => fun _ => none
  | n + 1 => impl_FlowsWithin.L2 k x2 xl0 xl1 X0 X1 (impl_FlowsWithin.l2 k x2 xl0 xl1 X0 X1 n)
def impl_FlowsWithin.f (k : Nat) (a0 : List T_impl_Flow) (a1 : List T_impl_Flow) : Option Bool :=
  (impl_FlowsWithin.l2 k (a0.length : Int) a0 a1 (fun (y3 : Bool) => some y3) (fun (_ : Unit) => some true) k (0 : Int))
def impl_FlowsWithin.h2 (k : Nat) {R : Type} (K : Ex → St κ → Option R) (vs : List AV) (bs : List (Blk κ)) : Option R :=
  match vs, bs with
  | [.v (.sl 1), .v (.sl 0), .v (.int .i64 x2), .v (.int .i64 x3)], [qb0, qb1] => (asO 3 false qb0).bind fun xl0 => (asO 3 false qb1).bind fun xl1 => impl_FlowsWithin.l2 k x2 xl0 xl1 (fun (z0 : Bool) => K .ret (stOf [(4, [])] [.v (.bool z0)] [.rows 3 false xl0, .rows 3 false xl1])) (fun (_ : Unit) => K (.exit 0) (stOf [(4, [])] [.v .any] [.rows 3 false xl0, .rows 3 false xl1])) k x3
  | _, _ => none
def impl_FlowsWithin.Γ (k : Nat) : Ct κ := assoc [(78, impl_IsFlow.C k), (79, slices_Contains_Flow.C k)]
def impl_FlowsWithin.LH (k : Nat) : Nat → Option (LHi κ) := assoc [(2, ⟨2, [(1, [some 3]), (7, [some 3]), (8, []), (9, [])], [(4, [])], @impl_FlowsWithin.h2 k⟩)]
theorem impl_FlowsWithin.hΓ (k : Nat) : ∀ f g, impl_FlowsWithin.Γ k f = some g → CSound Tryz.prog f g := G_cons (impl_IsFlow.ok k) (G_cons (slices_Contains_Flow.ok k) G_nil)
theorem impl_FlowsWithin.e2 {R : Type} (K : Ex → St κ → Option R) (k : Nat) (x2 : Int) (xl0 : List T_impl_Flow) (xl1 : List T_impl_Flow) : ∀ (n : Nat) (x3 : Int), loopN 2 (Code.den ti (impl_FlowsWithin.Γ k) (impl_FlowsWithin.LH k) (loopAt Tryz.f28 0)) [(1, [some 3]), (7, [some 3]), (8, []), (9, [])] [(4, [])] K n [.v (.sl 1), .v (.sl 0), .v (.int .i64 x2), .v (.int .i64 x3)] [.rows 3 false xl0, .rows 3 false xl1] = impl_FlowsWithin.l2 k x2 xl0 xl1 (fun (z0 : Bool) => K .ret (stOf [(4, [])] [.v (.bool z0)] [.rows 3 false xl0, .rows 3 false xl1])) (fun (_ : Unit) => K (.exit 0) (stOf [(4, [])] [.v .any] [.rows 3 false xl0, .rows 3 false xl1])) n x3
  | 0, _ => rfl
  | n + 1, x3 => (show loopN 2 (Code.den ti (impl_FlowsWithin.Γ k) (impl_FlowsWithin.LH k) (loopAt Tryz.f28 0)) [(1, [some 3]), (7, [some 3]), (8, []), (9, [])] [(4, [])] K (n + 1) [.v (.sl 1), .v (.sl 0), .v (.int .i64 x2), .v (.int .i64 x3)] [.rows 3 false xl0, .rows 3 false xl1] = impl_FlowsWithin.L2 k x2 xl0 xl1 (fun (z0 : Bool) => K .ret (stOf [(4, [])] [.v (.bool z0)] [.rows 3 false xl0, .rows 3 false xl1])) (fun (_ : Unit) => K (.exit 0) (stOf [(4, [])] [.v .any] [.rows 3 false xl0, .rows 3 false xl1])) (fun (x3' : Int) => loopN 2 (Code.den ti (impl_FlowsWithin.Γ k) (impl_FlowsWithin.LH k) (loopAt Tryz.f28 0)) [(1, [some 3]), (7, [some 3]), (8, []), (9, [])] [(4, [])] K n [.v (.sl 1), .v (.sl 0), .v (.int .i64 x2), .v (.int .i64 x3')] [.rows 3 false xl0, .rows 3 false xl1]) x3 by kernel_rfl).trans (congrArg (fun rec => impl_FlowsWithin.L2 k x2 xl0 xl1 (fun (z0 : Bool) => K .ret (stOf [(4, [])] [.v (.bool z0)] [.rows 3 false xl0, .rows 3 false xl1])) (fun (_ : Unit) => K (.exit 0) (stOf [(4, [])] [.v .any] [.rows 3 false xl0, .rows 3 false xl1])) rec x3) (funext fun x3' => impl_FlowsWithin.e2 K k x2 xl0 xl1 n x3'))
theorem impl_FlowsWithin.q2 (k : Nat) {R : Type} (K : Ex → St κ → Option R) (vs : List AV) (bs : List (Blk κ)) (r : R) (h : impl_FlowsWithin.h2 k K vs bs = some r) : ∃ n, loopN 2 (Code.den ti (impl_FlowsWithin.Γ k) (impl_FlowsWithin.LH k) (loopAt Tryz.f28 0)) [(1, [some 3]), (7, [some 3]), (8, []), (9, [])] [(4, [])] K n vs bs = some r := by
  unfold impl_FlowsWithin.h2 at h
  split at h
  · obtain ⟨_, rfl, h_1⟩ := asO_bind h
    obtain ⟨_, rfl, h_2⟩ := asO_bind h_1
    exact ⟨k, (impl_FlowsWithin.e2 K k _ _ _ k _).trans h_2⟩
  · cases h
theorem impl_FlowsWithin.lok (k : Nat) : LOK ti (impl_FlowsWithin.Γ k) (impl_FlowsWithin.LH k) 2 (loopsOf (bodyOf Tryz.f28)) :=
  (show loopsOf (bodyOf Tryz.f28) = [loopAt Tryz.f28 0] by kernel_rfl) ▸ (LOK_cons (g := ⟨2, [(1, [some 3]), (7, [some 3]), (8, []), (9, [])], [(4, [])], @impl_FlowsWithin.h2 k⟩) (by kernel_rfl) rfl (fun K vs xs r h => impl_FlowsWithin.q2 k K vs xs r h) (LOK_nil))
def impl_FlowsWithin.sig : List PSh := [.one (.ro 3), .one (.ro 3)]
def impl_FlowsWithin.g (y : Bool) : Ret κ := ⟨.v (.bool y), [], []⟩
def impl_FlowsWithin.out (r : Ret κ) : Option Bool :=
  match r with
  | ⟨.v (.bool z0), [], []⟩ => some (z0)
  | _ => none
theorem impl_FlowsWithin.out_ok (r : Ret κ) (y : Bool) (h : impl_FlowsWithin.out r = some y) : r = impl_FlowsWithin.g y := by
  unfold impl_FlowsWithin.out at h
  split at h
  · obtain rfl := Option.some.inj h
    rfl
  · cases h
def impl_FlowsWithin.body (k : Nat) (vs : List AV) (bs : List (Blk κ)) : Option (Lf κ) :=
  match vs, bs with
  | [.v (.sl 0), .v (.sl 1)], [qb0, qb1] => (asO 3 false qb0).bind fun a0 => (asO 3 false qb1).bind fun a1 => some ⟨Bool, impl_FlowsWithin.f k a0 a1, impl_FlowsWithin.g⟩
  | _, _ => none
def impl_FlowsWithin.C (k : Nat) : Nat → List AV → AP κ AV := contract impl_FlowsWithin.sig (impl_FlowsWithin.body k)
theorem impl_FlowsWithin.den (k : Nat) (a0 : List T_impl_Flow) (a1 : List T_impl_Flow) : Code.den ti (impl_FlowsWithin.Γ k) (impl_FlowsWithin.LH k) (bodyOf Tryz.f28) (finK ti Tryz.f28.results.toList [] (flags impl_FlowsWithin.sig).length (rwI (flags impl_FlowsWithin.sig) 0) impl_FlowsWithin.out) ⟨envOf (([.v (.sl 0), .v (.sl 1)]).zipIdx.map fun q => (q.2, q.1)), hpOf [.rows 3 false a0, .rows 3 false a1], (flags impl_FlowsWithin.sig).length⟩ = impl_FlowsWithin.f k a0 a1 := by kernel_rfl
theorem impl_FlowsWithin.ok (k : Nat) : CSound Tryz.prog 28 (impl_FlowsWithin.C k) :=
  csound κ_ok mixed tok (impl_FlowsWithin.hΓ k) (LH := impl_FlowsWithin.LH k) (fn := Tryz.f28) (c := bodyOf Tryz.f28) Tryz.func28 rfl Tryz.call28 impl_FlowsWithin.sig [] (impl_FlowsWithin.body k) (by kernel_rfl) (impl_FlowsWithin.lok k) (by decide) fun vs bs lf y hl hb hy => by
    unfold impl_FlowsWithin.body at hb
    split at hb
    · obtain ⟨_, rfl, hb_1⟩ := asO_bind hb
      obtain ⟨_, rfl, hb_2⟩ := asO_bind hb_1
      obtain rfl := Option.some.inj hb_2
      exact ⟨impl_FlowsWithin.out, impl_FlowsWithin.out_ok, (impl_FlowsWithin.den k _ _).trans hy⟩
    · cases hb
/-! ### impl_IsTightFor -/
def impl_IsTightFor.f (k : Nat) (a0 : List T_impl_Op) (a1 : List T_impl_Flow) (a2 : Int) : Option Bool :=
  (impl_AreOps.f k a0).bind fun t1 => (bif t1 then (impl_NeedsFlows.f k a0 a2).bind fun t2 => (impl_FlowsWithin.f k t2 a1).bind fun t3 => some t3 else some false)
def impl_IsTightFor.Γ (k : Nat) : Ct κ := assoc [(89, impl_AreOps.C k), (90, impl_NeedsFlows.C k), (28, impl_FlowsWithin.C k)]
def impl_IsTightFor.LH (k : Nat) : Nat → Option (LHi κ) := assoc []
theorem impl_IsTightFor.hΓ (k : Nat) : ∀ f g, impl_IsTightFor.Γ k f = some g → CSound Tryz.prog f g := G_cons (impl_AreOps.ok k) (G_cons (impl_NeedsFlows.ok k) (G_cons (impl_FlowsWithin.ok k) G_nil))
theorem impl_IsTightFor.lok (k : Nat) : LOK ti (impl_IsTightFor.Γ k) (impl_IsTightFor.LH k) 2 (loopsOf (bodyOf Tryz.f35)) :=
  (show loopsOf (bodyOf Tryz.f35) = [] by kernel_rfl) ▸ LOK_nil
def impl_IsTightFor.sig : List PSh := [.one (.ro 1), .one (.ro 3), .one .sc]
def impl_IsTightFor.g (y : Bool) : Ret κ := ⟨.v (.bool y), [], []⟩
def impl_IsTightFor.out (r : Ret κ) : Option Bool :=
  match r with
  | ⟨.v (.bool z0), [], []⟩ => some (z0)
  | _ => none
theorem impl_IsTightFor.out_ok (r : Ret κ) (y : Bool) (h : impl_IsTightFor.out r = some y) : r = impl_IsTightFor.g y := by
  unfold impl_IsTightFor.out at h
  split at h
  · obtain rfl := Option.some.inj h
    rfl
  · cases h
def impl_IsTightFor.body (k : Nat) (vs : List AV) (bs : List (Blk κ)) : Option (Lf κ) :=
  match vs, bs with
  | [.v (.sl 0), .v (.sl 1), .v (.int .i64 a2)], [qb0, qb1] => (asO 1 false qb0).bind fun a0 => (asO 3 false qb1).bind fun a1 => some ⟨Bool, impl_IsTightFor.f k a0 a1 a2, impl_IsTightFor.g⟩
  | _, _ => none
def impl_IsTightFor.C (k : Nat) : Nat → List AV → AP κ AV := contract impl_IsTightFor.sig (impl_IsTightFor.body k)
theorem impl_IsTightFor.den (k : Nat) (a0 : List T_impl_Op) (a1 : List T_impl_Flow) (a2 : Int) : Code.den ti (impl_IsTightFor.Γ k) (impl_IsTightFor.LH k) (bodyOf Tryz.f35) (finK ti Tryz.f35.results.toList [] (flags impl_IsTightFor.sig).length (rwI (flags impl_IsTightFor.sig) 0) impl_IsTightFor.out) ⟨envOf (([.v (.sl 0), .v (.sl 1), .v (.int .i64 a2)]).zipIdx.map fun q => (q.2, q.1)), hpOf [.rows 1 false a0, .rows 3 false a1], (flags impl_IsTightFor.sig).length⟩ = impl_IsTightFor.f k a0 a1 a2 := by kernel_rfl
theorem impl_IsTightFor.ok (k : Nat) : CSound Tryz.prog 35 (impl_IsTightFor.C k) :=
  csound κ_ok mixed tok (impl_IsTightFor.hΓ k) (LH := impl_IsTightFor.LH k) (fn := Tryz.f35) (c := bodyOf Tryz.f35) Tryz.func35 rfl Tryz.call35 impl_IsTightFor.sig [] (impl_IsTightFor.body k) (by kernel_rfl) (impl_IsTightFor.lok k) (by decide) fun vs bs lf y hl hb hy => by
    unfold impl_IsTightFor.body at hb
    split at hb
    · obtain ⟨_, rfl, hb_1⟩ := asO_bind hb
      obtain ⟨_, rfl, hb_2⟩ := asO_bind hb_1
      obtain rfl := Option.some.inj hb_2
      exact ⟨impl_IsTightFor.out, impl_IsTightFor.out_ok, (impl_IsTightFor.den k _ _ _).trans hy⟩
    · cases hb
/-! ### impl_ReviewPackage -/
def impl_ReviewPackage.L6 {R : Type} (k : Nat) (x2 : Int) (xl0 : List T_impl_Grant) (xl1 : List T_impl_Flow) (xl2 : List T_impl_Rule) (xl3 : List T_impl_Op) (xc4_0 : Int) (xc4_1 : Int) (xc4_2 : Int) (xc4_7 : Int) (X0 : Int → Option R) (X1 : Unit → Option R) (rec : Int → Option R) (x3 : Int) : Option R :=
  (bif decide (x3 < x2) then (bif decide (0 ≤ x3) then (bif decide (x3 < (xl2.length : Int)) then (impl_covered.f k xl0 ((rd_impl_Rule xl2 x3).f2.f0) ((rd_impl_Rule xl2 x3).f2.f1)).bind fun t3 => (bif !t3 then (X0 (3 : Int)) else (rec (w64 (x3 + (1 : Int))))) else none) else none) else (X1 ()))
def impl_ReviewPackage.l6 {R : Type} (k : Nat) (x2 : Int) (xl0 : List T_impl_Grant) (xl1 : List T_impl_Flow) (xl2 : List T_impl_Rule) (xl3 : List T_impl_Op) (xc4_0 : Int) (xc4_1 : Int) (xc4_2 : Int) (xc4_7 : Int) (X0 : Int → Option R) (X1 : Unit → Option R) : Nat → Int → Option R
  | 0 => fun _ => none
  | n + 1 => impl_ReviewPackage.L6 k x2 xl0 xl1 xl2 xl3 xc4_0 xc4_1 xc4_2 xc4_7 X0 X1 (impl_ReviewPackage.l6 k x2 xl0 xl1 xl2 xl3 xc4_0 xc4_1 xc4_2 xc4_7 X0 X1 n)
def impl_ReviewPackage.f (k : Nat) (a0 : Int) (a1_0 : Int) (a1_1 : Int) (a1_2 : Int) (a1_3 : List T_impl_Grant) (a1_4 : List T_impl_Flow) (a1_5 : List T_impl_Rule) (a1_6 : List T_impl_Op) (a1_7 : Int) : Option Int :=
  (impl_IsPackage.f k a1_0 a1_1 a1_2 a1_3 a1_4 a1_5 a1_6 a1_7).bind fun t1 => (bif !t1 then some (1 : Int) else (impl_IsSealed.f k a0 a1_0 a1_1 a1_2 a1_3 a1_4 a1_5 a1_6 a1_7).bind fun t2 => (bif !t2 then some (2 : Int) else (impl_ReviewPackage.l6 k (a1_5.length : Int) a1_3 a1_4 a1_5 a1_6 a1_0 a1_1 a1_2 a1_7 (fun (y4 : Int) => some y4) (fun (_ : Unit) => (impl_OwnersRead.f k a1_6).bind fun t5 => (impl_allGranted.f k a1_3 (1 : Int) t5).bind fun t6 => (bif !t6 then some (4 : Int) else (impl_OwnersSent.f k a1_6).bind fun t7 => (impl_allGranted.f k a1_3 (3 : Int) t7).bind fun t8 => (bif !t8 then some (5 : Int) else (impl_IsTightFor.f k a1_6 a1_4 a1_0).bind fun t9 => (bif !t9 then some (6 : Int) else some (0 : Int))))) k (0 : Int))))
def impl_ReviewPackage.h6 (k : Nat) {R : Type} (K : Ex → St κ → Option R) (vs : List AV) (bs : List (Blk κ)) : Option R :=
  match vs, bs with
  | [.v (.ptr 4 0 0), .v (.sl 2), .v (.int .i64 x2), .v (.int .i64 x3)], [qb0, qb1, qb2, qb3, .cells 39 [.int .i64 xc4_0, .int .i64 xc4_1, .int .i64 xc4_2, .sl 0, .sl 1, .sl 2, .sl 3, .int .i64 xc4_7]] => (asO 2 false qb0).bind fun xl0 => (asO 3 false qb1).bind fun xl1 => (asO 4 false qb2).bind fun xl2 => (asO 1 false qb3).bind fun xl3 => impl_ReviewPackage.l6 k x2 xl0 xl1 xl2 xl3 xc4_0 xc4_1 xc4_2 xc4_7 (fun (z1 : Int) => K .ret (stOf [(3, [none, none, none, some 2, some 3, some 4, some 1, none]), (4, [])] [.v (.ptr 4 0 0), .v (.int .i64 z1)] [.rows 2 false xl0, .rows 3 false xl1, .rows 4 false xl2, .rows 1 false xl3, .cells 39 [.int .i64 xc4_0, .int .i64 xc4_1, .int .i64 xc4_2, .sl 0, .sl 1, .sl 2, .sl 3, .int .i64 xc4_7]])) (fun (_ : Unit) => K (.exit 0) (stOf [(3, [none, none, none, some 2, some 3, some 4, some 1, none]), (4, [])] [.v (.ptr 4 0 0), .v .any] [.rows 2 false xl0, .rows 3 false xl1, .rows 4 false xl2, .rows 1 false xl3, .cells 39 [.int .i64 xc4_0, .int .i64 xc4_1, .int .i64 xc4_2, .sl 0, .sl 1, .sl 2, .sl 3, .int .i64 xc4_7]])) k x3
  | _, _ => none
def impl_ReviewPackage.Γ (k : Nat) : Ct κ := assoc [(53, impl_IsPackage.C k), (34, impl_IsSealed.C k), (74, impl_covered.C k), (36, impl_OwnersRead.C k), (75, impl_allGranted.C k), (38, impl_OwnersSent.C k), (35, impl_IsTightFor.C k)]
def impl_ReviewPackage.LH (k : Nat) : Nat → Option (LHi κ) := assoc [(6, ⟨4, [(3, [none, none, none, some 2, some 3, some 4, some 1, none]), (15, [some 4]), (16, []), (17, [])], [(3, [none, none, none, some 2, some 3, some 4, some 1, none]), (4, [])], @impl_ReviewPackage.h6 k⟩)]
theorem impl_ReviewPackage.hΓ (k : Nat) : ∀ f g, impl_ReviewPackage.Γ k f = some g → CSound Tryz.prog f g := G_cons (impl_IsPackage.ok k) (G_cons (impl_IsSealed.ok k) (G_cons (impl_covered.ok k) (G_cons (impl_OwnersRead.ok k) (G_cons (impl_allGranted.ok k) (G_cons (impl_OwnersSent.ok k) (G_cons (impl_IsTightFor.ok k) G_nil))))))
theorem impl_ReviewPackage.e6 {R : Type} (K : Ex → St κ → Option R) (k : Nat) (x2 : Int) (xl0 : List T_impl_Grant) (xl1 : List T_impl_Flow) (xl2 : List T_impl_Rule) (xl3 : List T_impl_Op) (xc4_0 : Int) (xc4_1 : Int) (xc4_2 : Int) (xc4_7 : Int) : ∀ (n : Nat) (x3 : Int), loopN 4 (Code.den ti (impl_ReviewPackage.Γ k) (impl_ReviewPackage.LH k) (loopAt Tryz.f26 0)) [(3, [none, none, none, some 2, some 3, some 4, some 1, none]), (15, [some 4]), (16, []), (17, [])] [(3, [none, none, none, some 2, some 3, some 4, some 1, none]), (4, [])] K n [.v (.ptr 4 0 0), .v (.sl 2), .v (.int .i64 x2), .v (.int .i64 x3)] [.rows 2 false xl0, .rows 3 false xl1, .rows 4 false xl2, .rows 1 false xl3, .cells 39 [.int .i64 xc4_0, .int .i64 xc4_1, .int .i64 xc4_2, .sl 0, .sl 1, .sl 2, .sl 3, .int .i64 xc4_7]] = impl_ReviewPackage.l6 k x2 xl0 xl1 xl2 xl3 xc4_0 xc4_1 xc4_2 xc4_7 (fun (z1 : Int) => K .ret (stOf [(3, [none, none, none, some 2, some 3, some 4, some 1, none]), (4, [])] [.v (.ptr 4 0 0), .v (.int .i64 z1)] [.rows 2 false xl0, .rows 3 false xl1, .rows 4 false xl2, .rows 1 false xl3, .cells 39 [.int .i64 xc4_0, .int .i64 xc4_1, .int .i64 xc4_2, .sl 0, .sl 1, .sl 2, .sl 3, .int .i64 xc4_7]])) (fun (_ : Unit) => K (.exit 0) (stOf [(3, [none, none, none, some 2, some 3, some 4, some 1, none]), (4, [])] [.v (.ptr 4 0 0), .v .any] [.rows 2 false xl0, .rows 3 false xl1, .rows 4 false xl2, .rows 1 false xl3, .cells 39 [.int .i64 xc4_0, .int .i64 xc4_1, .int .i64 xc4_2, .sl 0, .sl 1, .sl 2, .sl 3, .int .i64 xc4_7]])) n x3
  | 0, _ => rfl
  | n + 1, x3 => (show loopN 4 (Code.den ti (impl_ReviewPackage.Γ k) (impl_ReviewPackage.LH k) (loopAt Tryz.f26 0)) [(3, [none, none, none, some 2, some 3, some 4, some 1, none]), (15, [some 4]), (16, []), (17, [])] [(3, [none, none, none, some 2, some 3, some 4, some 1, none]), (4, [])] K (n + 1) [.v (.ptr 4 0 0), .v (.sl 2), .v (.int .i64 x2), .v (.int .i64 x3)] [.rows 2 false xl0, .rows 3 false xl1, .rows 4 false xl2, .rows 1 false xl3, .cells 39 [.int .i64 xc4_0, .int .i64 xc4_1, .int .i64 xc4_2, .sl 0, .sl 1, .sl 2, .sl 3, .int .i64 xc4_7]] = impl_ReviewPackage.L6 k x2 xl0 xl1 xl2 xl3 xc4_0 xc4_1 xc4_2 xc4_7 (fun (z1 : Int) => K .ret (stOf [(3, [none, none, none, some 2, some 3, some 4, some 1, none]), (4, [])] [.v (.ptr 4 0 0), .v (.int .i64 z1)] [.rows 2 false xl0, .rows 3 false xl1, .rows 4 false xl2, .rows 1 false xl3, .cells 39 [.int .i64 xc4_0, .int .i64 xc4_1, .int .i64 xc4_2, .sl 0, .sl 1, .sl 2, .sl 3, .int .i64 xc4_7]])) (fun (_ : Unit) => K (.exit 0) (stOf [(3, [none, none, none, some 2, some 3, some 4, some 1, none]), (4, [])] [.v (.ptr 4 0 0), .v .any] [.rows 2 false xl0, .rows 3 false xl1, .rows 4 false xl2, .rows 1 false xl3, .cells 39 [.int .i64 xc4_0, .int .i64 xc4_1, .int .i64 xc4_2, .sl 0, .sl 1, .sl 2, .sl 3, .int .i64 xc4_7]])) (fun (x3' : Int) => loopN 4 (Code.den ti (impl_ReviewPackage.Γ k) (impl_ReviewPackage.LH k) (loopAt Tryz.f26 0)) [(3, [none, none, none, some 2, some 3, some 4, some 1, none]), (15, [some 4]), (16, []), (17, [])] [(3, [none, none, none, some 2, some 3, some 4, some 1, none]), (4, [])] K n [.v (.ptr 4 0 0), .v (.sl 2), .v (.int .i64 x2), .v (.int .i64 x3')] [.rows 2 false xl0, .rows 3 false xl1, .rows 4 false xl2, .rows 1 false xl3, .cells 39 [.int .i64 xc4_0, .int .i64 xc4_1, .int .i64 xc4_2, .sl 0, .sl 1, .sl 2, .sl 3, .int .i64 xc4_7]]) x3 by kernel_rfl).trans (congrArg (fun rec => impl_ReviewPackage.L6 k x2 xl0 xl1 xl2 xl3 xc4_0 xc4_1 xc4_2 xc4_7 (fun (z1 : Int) => K .ret (stOf [(3, [none, none, none, some 2, some 3, some 4, some 1, none]), (4, [])] [.v (.ptr 4 0 0), .v (.int .i64 z1)] [.rows 2 false xl0, .rows 3 false xl1, .rows 4 false xl2, .rows 1 false xl3, .cells 39 [.int .i64 xc4_0, .int .i64 xc4_1, .int .i64 xc4_2, .sl 0, .sl 1, .sl 2, .sl 3, .int .i64 xc4_7]])) (fun (_ : Unit) => K (.exit 0) (stOf [(3, [none, none, none, some 2, some 3, some 4, some 1, none]), (4, [])] [.v (.ptr 4 0 0), .v .any] [.rows 2 false xl0, .rows 3 false xl1, .rows 4 false xl2, .rows 1 false xl3, .cells 39 [.int .i64 xc4_0, .int .i64 xc4_1, .int .i64 xc4_2, .sl 0, .sl 1, .sl 2, .sl 3, .int .i64 xc4_7]])) rec x3) (funext fun x3' => impl_ReviewPackage.e6 K k x2 xl0 xl1 xl2 xl3 xc4_0 xc4_1 xc4_2 xc4_7 n x3'))
theorem impl_ReviewPackage.q6 (k : Nat) {R : Type} (K : Ex → St κ → Option R) (vs : List AV) (bs : List (Blk κ)) (r : R) (h : impl_ReviewPackage.h6 k K vs bs = some r) : ∃ n, loopN 4 (Code.den ti (impl_ReviewPackage.Γ k) (impl_ReviewPackage.LH k) (loopAt Tryz.f26 0)) [(3, [none, none, none, some 2, some 3, some 4, some 1, none]), (15, [some 4]), (16, []), (17, [])] [(3, [none, none, none, some 2, some 3, some 4, some 1, none]), (4, [])] K n vs bs = some r := by
  unfold impl_ReviewPackage.h6 at h
  split at h
  · obtain ⟨_, rfl, h_1⟩ := asO_bind h
    obtain ⟨_, rfl, h_2⟩ := asO_bind h_1
    obtain ⟨_, rfl, h_3⟩ := asO_bind h_2
    obtain ⟨_, rfl, h_4⟩ := asO_bind h_3
    exact ⟨k, (impl_ReviewPackage.e6 K k _ _ _ _ _ _ _ _ _ k _).trans h_4⟩
  · cases h
theorem impl_ReviewPackage.lok (k : Nat) : LOK ti (impl_ReviewPackage.Γ k) (impl_ReviewPackage.LH k) 4 (loopsOf (bodyOf Tryz.f26)) :=
  (show loopsOf (bodyOf Tryz.f26) = [loopAt Tryz.f26 0] by kernel_rfl) ▸ (LOK_cons (g := ⟨4, [(3, [none, none, none, some 2, some 3, some 4, some 1, none]), (15, [some 4]), (16, []), (17, [])], [(3, [none, none, none, some 2, some 3, some 4, some 1, none]), (4, [])], @impl_ReviewPackage.h6 k⟩) (by kernel_rfl) rfl (fun K vs xs r h => impl_ReviewPackage.q6 k K vs xs r h) (LOK_nil))
def impl_ReviewPackage.sig : List PSh := [.one .sc, .agg [.sc, .sc, .sc, .ro 2, .ro 3, .ro 4, .ro 1, .sc]]
def impl_ReviewPackage.g (y : Int) : Ret κ := ⟨.v (.int .i64 y), [], []⟩
def impl_ReviewPackage.out (r : Ret κ) : Option Int :=
  match r with
  | ⟨.v (.int .i64 z0), [], []⟩ => some (z0)
  | _ => none
theorem impl_ReviewPackage.out_ok (r : Ret κ) (y : Int) (h : impl_ReviewPackage.out r = some y) : r = impl_ReviewPackage.g y := by
  unfold impl_ReviewPackage.out at h
  split at h
  · obtain rfl := Option.some.inj h
    rfl
  · cases h
def impl_ReviewPackage.body (k : Nat) (vs : List AV) (bs : List (Blk κ)) : Option (Lf κ) :=
  match vs, bs with
  | [.v (.int .i64 a0), .agg [.int .i64 a1_0, .int .i64 a1_1, .int .i64 a1_2, .sl 0, .sl 1, .sl 2, .sl 3, .int .i64 a1_7]], [qb0, qb1, qb2, qb3] => (asO 2 false qb0).bind fun a1_3 => (asO 3 false qb1).bind fun a1_4 => (asO 4 false qb2).bind fun a1_5 => (asO 1 false qb3).bind fun a1_6 => some ⟨Int, impl_ReviewPackage.f k a0 a1_0 a1_1 a1_2 a1_3 a1_4 a1_5 a1_6 a1_7, impl_ReviewPackage.g⟩
  | _, _ => none
def impl_ReviewPackage.C (k : Nat) : Nat → List AV → AP κ AV := contract impl_ReviewPackage.sig (impl_ReviewPackage.body k)
theorem impl_ReviewPackage.den (k : Nat) (a0 : Int) (a1_0 : Int) (a1_1 : Int) (a1_2 : Int) (a1_3 : List T_impl_Grant) (a1_4 : List T_impl_Flow) (a1_5 : List T_impl_Rule) (a1_6 : List T_impl_Op) (a1_7 : Int) : Code.den ti (impl_ReviewPackage.Γ k) (impl_ReviewPackage.LH k) (bodyOf Tryz.f26) (finK ti Tryz.f26.results.toList [] (flags impl_ReviewPackage.sig).length (rwI (flags impl_ReviewPackage.sig) 0) impl_ReviewPackage.out) ⟨envOf (([.v (.int .i64 a0), .agg [.int .i64 a1_0, .int .i64 a1_1, .int .i64 a1_2, .sl 0, .sl 1, .sl 2, .sl 3, .int .i64 a1_7]]).zipIdx.map fun q => (q.2, q.1)), hpOf [.rows 2 false a1_3, .rows 3 false a1_4, .rows 4 false a1_5, .rows 1 false a1_6], (flags impl_ReviewPackage.sig).length⟩ = impl_ReviewPackage.f k a0 a1_0 a1_1 a1_2 a1_3 a1_4 a1_5 a1_6 a1_7 := by kernel_rfl
theorem impl_ReviewPackage.ok (k : Nat) : CSound Tryz.prog 26 (impl_ReviewPackage.C k) :=
  csound κ_ok mixed tok (impl_ReviewPackage.hΓ k) (LH := impl_ReviewPackage.LH k) (fn := Tryz.f26) (c := bodyOf Tryz.f26) Tryz.func26 rfl Tryz.call26 impl_ReviewPackage.sig [] (impl_ReviewPackage.body k) (by kernel_rfl) (impl_ReviewPackage.lok k) (by decide) fun vs bs lf y hl hb hy => by
    unfold impl_ReviewPackage.body at hb
    split at hb
    · obtain ⟨_, rfl, hb_1⟩ := asO_bind hb
      obtain ⟨_, rfl, hb_2⟩ := asO_bind hb_1
      obtain ⟨_, rfl, hb_3⟩ := asO_bind hb_2
      obtain ⟨_, rfl, hb_4⟩ := asO_bind hb_3
      obtain rfl := Option.some.inj hb_4
      exact ⟨impl_ReviewPackage.out, impl_ReviewPackage.out_ok, (impl_ReviewPackage.den k _ _ _ _ _ _ _ _ _).trans hy⟩
    · cases hb
/-! ### impl_IsWithinGrants -/
def impl_IsWithinGrants.L6 {R : Type} (k : Nat) (x2 : Bool) (x4 : Int) (x5 : Int) (x7 : Int) (xl0 : List T_impl_Grant) (xl1 : List T_impl_Grant) (xc2_0 : Int) (xc2_1 : Int) (xc2_2 : Int) (xc2_3 : Int) (xc2_4 : Int) (xc2_5 : Int) (xc2_6 : Bool) (X0 : Bool → Option R) (rec : Int → Option R) (x8 : Int) : Option R :=
  (bif decide (x8 < x7) then (bif decide (0 ≤ x8) then (bif decide (x8 < (xl1.length : Int)) then (impl_IsGrant.f k xc2_0 xc2_1 xc2_2 xc2_3 xc2_4 xc2_5 xc2_6).bind fun t1 => (bif t1 then (impl_IsGrant.f k ((rd_impl_Grant xl1 x8).f0) ((rd_impl_Grant xl1 x8).f1.f0) ((rd_impl_Grant xl1 x8).f1.f1) ((rd_impl_Grant xl1 x8).f2) ((rd_impl_Grant xl1 x8).f3) ((rd_impl_Grant xl1 x8).f4) ((rd_impl_Grant xl1 x8).f5)).bind fun t2 => (bif t2 then (bif (xc2_0 == (rd_impl_Grant xl1 x8).f0) then (bif (xc2_3 == (rd_impl_Grant xl1 x8).f2) then (impl_IsNarrower.f k xc2_1 xc2_2 ((rd_impl_Grant xl1 x8).f1.f0) ((rd_impl_Grant xl1 x8).f1.f1)).bind fun t3 => (bif t3 then (bif decide ((rd_impl_Grant xl1 x8).f3 ≤ xc2_4) then (bif decide (xc2_5 ≤ (rd_impl_Grant xl1 x8).f4) then (bif xc2_6 then (X0 true) else (bif !((rd_impl_Grant xl1 x8).f5) then (X0 true) else (rec (w64 (x8 + (1 : Int)))))) else (rec (w64 (x8 + (1 : Int))))) else (rec (w64 (x8 + (1 : Int))))) else (rec (w64 (x8 + (1 : Int))))) else (rec (w64 (x8 + (1 : Int))))) else (rec (w64 (x8 + (1 : Int))))) else (rec (w64 (x8 + (1 : Int))))) else (rec (w64 (x8 + (1 : Int))))) else none) else none) else (X0 x2))
def impl_IsWithinGrants.l6 {R : Type} (k : Nat) (x2 : Bool) (x4 : Int) (x5 : Int) (x7 : Int) (xl0 : List T_impl_Grant) (xl1 : List T_impl_Grant) (xc2_0 : Int) (xc2_1 : Int) (xc2_2 : Int) (xc2_3 : Int) (xc2_4 : Int) (xc2_5 : Int) (xc2_6 : Bool) (X0 : Bool → Option R) : Nat → Int → Option R
  | 0 => fun _ => none
  | n + 1 => impl_IsWithinGrants.L6 k x2 x4 x5 x7 xl0 xl1 xc2_0 xc2_1 xc2_2 xc2_3 xc2_4 xc2_5 xc2_6 X0 (impl_IsWithinGrants.l6 k x2 x4 x5 x7 xl0 xl1 xc2_0 xc2_1 xc2_2 xc2_3 xc2_4 xc2_5 xc2_6 X0 n)
def impl_IsWithinGrants.L2 {R : Type} (k : Nat) (x2 : Int) (xl0 : List T_impl_Grant) (xl1 : List T_impl_Grant) (X0 : Bool → Option R) (X1 : Unit → Option R) (rec : Int → Option R) (x3 : Int) : Option R :=
  (bif decide (x3 < x2) then (bif decide (0 ≤ x3) then (bif decide (x3 < (xl0.length : Int)) then (impl_IsWithinGrants.l6 k false x2 x3 (xl1.length : Int) xl0 xl1 ((rd_impl_Grant xl0 x3).f0) ((rd_impl_Grant xl0 x3).f1.f0) ((rd_impl_Grant xl0 x3).f1.f1) ((rd_impl_Grant xl0 x3).f2) ((rd_impl_Grant xl0 x3).f3) ((rd_impl_Grant xl0 x3).f4) ((rd_impl_Grant xl0 x3).f5) (fun (y1 : Bool) => (bif !y1 then (X0 false) else (rec (w64 (x3 + (1 : Int)))))) k (0 : Int)) else none) else none) else (X1 ()))
def impl_IsWithinGrants.l2 {R : Type} (k : Nat) (x2 : Int) (xl0 : List T_impl_Grant) (xl1 : List T_impl_Grant) (X0 : Bool → Option R) (X1 : Unit → Option R) : Nat → Int → Option R
  | 0 => fun _ => none
  | n + 1 => impl_IsWithinGrants.L2 k x2 xl0 xl1 X0 X1 (impl_IsWithinGrants.l2 k x2 xl0 xl1 X0 X1 n)
def impl_IsWithinGrants.f (k : Nat) (a0 : List T_impl_Grant) (a1 : List T_impl_Grant) : Option Bool :=
  (impl_IsWithinGrants.l2 k (a0.length : Int) a0 a1 (fun (y2 : Bool) => some y2) (fun (_ : Unit) => some true) k (0 : Int))
def impl_IsWithinGrants.h6 (k : Nat) {R : Type} (K : Ex → St κ → Option R) (vs : List AV) (bs : List (Blk κ)) : Option R :=
  match vs, bs with
  | [.v (.sl 1), .v (.ptr 2 0 0), .v (.bool x2), .v (.sl 0), .v (.int .i64 x4), .v (.int .i64 x5), .v (.sl 1), .v (.int .i64 x7), .v (.int .i64 x8)], [qb0, qb1, .cells 98 [.int .i64 xc2_0, .int .i64 xc2_1, .int .i64 xc2_2, .int .i64 xc2_3, .int .i64 xc2_4, .int .i64 xc2_5, .bool xc2_6]] => (asO 2 false qb0).bind fun xl0 => (asO 2 false qb1).bind fun xl1 => impl_IsWithinGrants.l6 k x2 x4 x5 x7 xl0 xl1 xc2_0 xc2_1 xc2_2 xc2_3 xc2_4 xc2_5 xc2_6 (fun (z1 : Bool) => K (.exit 2) (stOf [(1, [some 2]), (7, []), (10, [some 2]), (11, []), (12, [])] [.v (.sl 1), .v (.bool z1), .v (.sl 0), .v (.int .i64 x4), .v (.int .i64 x5)] [.rows 2 false xl0, .rows 2 false xl1])) k x8
  | _, _ => none
def impl_IsWithinGrants.h2 (k : Nat) {R : Type} (K : Ex → St κ → Option R) (vs : List AV) (bs : List (Blk κ)) : Option R :=
  match vs, bs with
  | [.v (.sl 1), .v (.sl 0), .v (.int .i64 x2), .v (.int .i64 x3)], [qb0, qb1] => (asO 2 false qb0).bind fun xl0 => (asO 2 false qb1).bind fun xl1 => impl_IsWithinGrants.l2 k x2 xl0 xl1 (fun (z0 : Bool) => K .ret (stOf [(4, [])] [.v (.bool z0)] [.rows 2 false xl0, .rows 2 false xl1])) (fun (_ : Unit) => K (.exit 0) (stOf [(4, [])] [.v .any] [.rows 2 false xl0, .rows 2 false xl1])) k x3
  | _, _ => none
def impl_IsWithinGrants.Γ (k : Nat) : Ct κ := assoc [(76, impl_IsGrant.C k), (77, impl_IsNarrower.C k)]
def impl_IsWithinGrants.LH (k : Nat) : Nat → Option (LHi κ) := assoc [(6, ⟨2, [(1, [some 2]), (6, []), (7, []), (10, [some 2]), (11, []), (12, []), (16, [some 2]), (17, []), (18, [])], [(1, [some 2]), (7, []), (10, [some 2]), (11, []), (12, [])], @impl_IsWithinGrants.h6 k⟩), (2, ⟨2, [(1, [some 2]), (10, [some 2]), (11, []), (12, [])], [(4, [])], @impl_IsWithinGrants.h2 k⟩)]
theorem impl_IsWithinGrants.hΓ (k : Nat) : ∀ f g, impl_IsWithinGrants.Γ k f = some g → CSound Tryz.prog f g := G_cons (impl_IsGrant.ok k) (G_cons (impl_IsNarrower.ok k) G_nil)
theorem impl_IsWithinGrants.e6 {R : Type} (K : Ex → St κ → Option R) (k : Nat) (x2 : Bool) (x4 : Int) (x5 : Int) (x7 : Int) (xl0 : List T_impl_Grant) (xl1 : List T_impl_Grant) (xc2_0 : Int) (xc2_1 : Int) (xc2_2 : Int) (xc2_3 : Int) (xc2_4 : Int) (xc2_5 : Int) (xc2_6 : Bool) : ∀ (n : Nat) (x8 : Int), loopN 2 (Code.den ti (impl_IsWithinGrants.Γ k) (impl_IsWithinGrants.LH k) (loopAt Tryz.f27 1)) [(1, [some 2]), (6, []), (7, []), (10, [some 2]), (11, []), (12, []), (16, [some 2]), (17, []), (18, [])] [(1, [some 2]), (7, []), (10, [some 2]), (11, []), (12, [])] K n [.v (.sl 1), .v (.ptr 2 0 0), .v (.bool x2), .v (.sl 0), .v (.int .i64 x4), .v (.int .i64 x5), .v (.sl 1), .v (.int .i64 x7), .v (.int .i64 x8)] [.rows 2 false xl0, .rows 2 false xl1, .cells 98 [.int .i64 xc2_0, .int .i64 xc2_1, .int .i64 xc2_2, .int .i64 xc2_3, .int .i64 xc2_4, .int .i64 xc2_5, .bool xc2_6]] = impl_IsWithinGrants.l6 k x2 x4 x5 x7 xl0 xl1 xc2_0 xc2_1 xc2_2 xc2_3 xc2_4 xc2_5 xc2_6 (fun (z1 : Bool) => K (.exit 2) (stOf [(1, [some 2]), (7, []), (10, [some 2]), (11, []), (12, [])] [.v (.sl 1), .v (.bool z1), .v (.sl 0), .v (.int .i64 x4), .v (.int .i64 x5)] [.rows 2 false xl0, .rows 2 false xl1])) n x8
  | 0, _ => rfl
  | n + 1, x8 => (show loopN 2 (Code.den ti (impl_IsWithinGrants.Γ k) (impl_IsWithinGrants.LH k) (loopAt Tryz.f27 1)) [(1, [some 2]), (6, []), (7, []), (10, [some 2]), (11, []), (12, []), (16, [some 2]), (17, []), (18, [])] [(1, [some 2]), (7, []), (10, [some 2]), (11, []), (12, [])] K (n + 1) [.v (.sl 1), .v (.ptr 2 0 0), .v (.bool x2), .v (.sl 0), .v (.int .i64 x4), .v (.int .i64 x5), .v (.sl 1), .v (.int .i64 x7), .v (.int .i64 x8)] [.rows 2 false xl0, .rows 2 false xl1, .cells 98 [.int .i64 xc2_0, .int .i64 xc2_1, .int .i64 xc2_2, .int .i64 xc2_3, .int .i64 xc2_4, .int .i64 xc2_5, .bool xc2_6]] = impl_IsWithinGrants.L6 k x2 x4 x5 x7 xl0 xl1 xc2_0 xc2_1 xc2_2 xc2_3 xc2_4 xc2_5 xc2_6 (fun (z1 : Bool) => K (.exit 2) (stOf [(1, [some 2]), (7, []), (10, [some 2]), (11, []), (12, [])] [.v (.sl 1), .v (.bool z1), .v (.sl 0), .v (.int .i64 x4), .v (.int .i64 x5)] [.rows 2 false xl0, .rows 2 false xl1])) (fun (x8' : Int) => loopN 2 (Code.den ti (impl_IsWithinGrants.Γ k) (impl_IsWithinGrants.LH k) (loopAt Tryz.f27 1)) [(1, [some 2]), (6, []), (7, []), (10, [some 2]), (11, []), (12, []), (16, [some 2]), (17, []), (18, [])] [(1, [some 2]), (7, []), (10, [some 2]), (11, []), (12, [])] K n [.v (.sl 1), .v (.ptr 2 0 0), .v (.bool x2), .v (.sl 0), .v (.int .i64 x4), .v (.int .i64 x5), .v (.sl 1), .v (.int .i64 x7), .v (.int .i64 x8')] [.rows 2 false xl0, .rows 2 false xl1, .cells 98 [.int .i64 xc2_0, .int .i64 xc2_1, .int .i64 xc2_2, .int .i64 xc2_3, .int .i64 xc2_4, .int .i64 xc2_5, .bool xc2_6]]) x8 by kernel_rfl).trans (congrArg (fun rec => impl_IsWithinGrants.L6 k x2 x4 x5 x7 xl0 xl1 xc2_0 xc2_1 xc2_2 xc2_3 xc2_4 xc2_5 xc2_6 (fun (z1 : Bool) => K (.exit 2) (stOf [(1, [some 2]), (7, []), (10, [some 2]), (11, []), (12, [])] [.v (.sl 1), .v (.bool z1), .v (.sl 0), .v (.int .i64 x4), .v (.int .i64 x5)] [.rows 2 false xl0, .rows 2 false xl1])) rec x8) (funext fun x8' => impl_IsWithinGrants.e6 K k x2 x4 x5 x7 xl0 xl1 xc2_0 xc2_1 xc2_2 xc2_3 xc2_4 xc2_5 xc2_6 n x8'))
theorem impl_IsWithinGrants.q6 (k : Nat) {R : Type} (K : Ex → St κ → Option R) (vs : List AV) (bs : List (Blk κ)) (r : R) (h : impl_IsWithinGrants.h6 k K vs bs = some r) : ∃ n, loopN 2 (Code.den ti (impl_IsWithinGrants.Γ k) (impl_IsWithinGrants.LH k) (loopAt Tryz.f27 1)) [(1, [some 2]), (6, []), (7, []), (10, [some 2]), (11, []), (12, []), (16, [some 2]), (17, []), (18, [])] [(1, [some 2]), (7, []), (10, [some 2]), (11, []), (12, [])] K n vs bs = some r := by
  unfold impl_IsWithinGrants.h6 at h
  split at h
  · obtain ⟨_, rfl, h_1⟩ := asO_bind h
    obtain ⟨_, rfl, h_2⟩ := asO_bind h_1
    exact ⟨k, (impl_IsWithinGrants.e6 K k _ _ _ _ _ _ _ _ _ _ _ _ _ k _).trans h_2⟩
  · cases h
theorem impl_IsWithinGrants.e2 {R : Type} (K : Ex → St κ → Option R) (k : Nat) (x2 : Int) (xl0 : List T_impl_Grant) (xl1 : List T_impl_Grant) : ∀ (n : Nat) (x3 : Int), loopN 2 (Code.den ti (impl_IsWithinGrants.Γ k) (impl_IsWithinGrants.LH k) (loopAt Tryz.f27 0)) [(1, [some 2]), (10, [some 2]), (11, []), (12, [])] [(4, [])] K n [.v (.sl 1), .v (.sl 0), .v (.int .i64 x2), .v (.int .i64 x3)] [.rows 2 false xl0, .rows 2 false xl1] = impl_IsWithinGrants.l2 k x2 xl0 xl1 (fun (z0 : Bool) => K .ret (stOf [(4, [])] [.v (.bool z0)] [.rows 2 false xl0, .rows 2 false xl1])) (fun (_ : Unit) => K (.exit 0) (stOf [(4, [])] [.v .any] [.rows 2 false xl0, .rows 2 false xl1])) n x3
  | 0, _ => rfl
  | n + 1, x3 => (show loopN 2 (Code.den ti (impl_IsWithinGrants.Γ k) (impl_IsWithinGrants.LH k) (loopAt Tryz.f27 0)) [(1, [some 2]), (10, [some 2]), (11, []), (12, [])] [(4, [])] K (n + 1) [.v (.sl 1), .v (.sl 0), .v (.int .i64 x2), .v (.int .i64 x3)] [.rows 2 false xl0, .rows 2 false xl1] = impl_IsWithinGrants.L2 k x2 xl0 xl1 (fun (z0 : Bool) => K .ret (stOf [(4, [])] [.v (.bool z0)] [.rows 2 false xl0, .rows 2 false xl1])) (fun (_ : Unit) => K (.exit 0) (stOf [(4, [])] [.v .any] [.rows 2 false xl0, .rows 2 false xl1])) (fun (x3' : Int) => loopN 2 (Code.den ti (impl_IsWithinGrants.Γ k) (impl_IsWithinGrants.LH k) (loopAt Tryz.f27 0)) [(1, [some 2]), (10, [some 2]), (11, []), (12, [])] [(4, [])] K n [.v (.sl 1), .v (.sl 0), .v (.int .i64 x2), .v (.int .i64 x3')] [.rows 2 false xl0, .rows 2 false xl1]) x3 by kernel_rfl).trans (congrArg (fun rec => impl_IsWithinGrants.L2 k x2 xl0 xl1 (fun (z0 : Bool) => K .ret (stOf [(4, [])] [.v (.bool z0)] [.rows 2 false xl0, .rows 2 false xl1])) (fun (_ : Unit) => K (.exit 0) (stOf [(4, [])] [.v .any] [.rows 2 false xl0, .rows 2 false xl1])) rec x3) (funext fun x3' => impl_IsWithinGrants.e2 K k x2 xl0 xl1 n x3'))
theorem impl_IsWithinGrants.q2 (k : Nat) {R : Type} (K : Ex → St κ → Option R) (vs : List AV) (bs : List (Blk κ)) (r : R) (h : impl_IsWithinGrants.h2 k K vs bs = some r) : ∃ n, loopN 2 (Code.den ti (impl_IsWithinGrants.Γ k) (impl_IsWithinGrants.LH k) (loopAt Tryz.f27 0)) [(1, [some 2]), (10, [some 2]), (11, []), (12, [])] [(4, [])] K n vs bs = some r := by
  unfold impl_IsWithinGrants.h2 at h
  split at h
  · obtain ⟨_, rfl, h_1⟩ := asO_bind h
    obtain ⟨_, rfl, h_2⟩ := asO_bind h_1
    exact ⟨k, (impl_IsWithinGrants.e2 K k _ _ _ k _).trans h_2⟩
  · cases h
theorem impl_IsWithinGrants.lok (k : Nat) : LOK ti (impl_IsWithinGrants.Γ k) (impl_IsWithinGrants.LH k) 2 (loopsOf (bodyOf Tryz.f27)) :=
  (show loopsOf (bodyOf Tryz.f27) = [loopAt Tryz.f27 0, loopAt Tryz.f27 1] by kernel_rfl) ▸ (LOK_cons (g := ⟨2, [(1, [some 2]), (10, [some 2]), (11, []), (12, [])], [(4, [])], @impl_IsWithinGrants.h2 k⟩) (by kernel_rfl) rfl (fun K vs xs r h => impl_IsWithinGrants.q2 k K vs xs r h) (LOK_cons (g := ⟨2, [(1, [some 2]), (6, []), (7, []), (10, [some 2]), (11, []), (12, []), (16, [some 2]), (17, []), (18, [])], [(1, [some 2]), (7, []), (10, [some 2]), (11, []), (12, [])], @impl_IsWithinGrants.h6 k⟩) (by kernel_rfl) rfl (fun K vs xs r h => impl_IsWithinGrants.q6 k K vs xs r h) (LOK_nil)))
def impl_IsWithinGrants.sig : List PSh := [.one (.ro 2), .one (.ro 2)]
def impl_IsWithinGrants.g (y : Bool) : Ret κ := ⟨.v (.bool y), [], []⟩
def impl_IsWithinGrants.out (r : Ret κ) : Option Bool :=
  match r with
  | ⟨.v (.bool z0), [], []⟩ => some (z0)
  | _ => none
theorem impl_IsWithinGrants.out_ok (r : Ret κ) (y : Bool) (h : impl_IsWithinGrants.out r = some y) : r = impl_IsWithinGrants.g y := by
  unfold impl_IsWithinGrants.out at h
  split at h
  · obtain rfl := Option.some.inj h
    rfl
  · cases h
def impl_IsWithinGrants.body (k : Nat) (vs : List AV) (bs : List (Blk κ)) : Option (Lf κ) :=
  match vs, bs with
  | [.v (.sl 0), .v (.sl 1)], [qb0, qb1] => (asO 2 false qb0).bind fun a0 => (asO 2 false qb1).bind fun a1 => some ⟨Bool, impl_IsWithinGrants.f k a0 a1, impl_IsWithinGrants.g⟩
  | _, _ => none
def impl_IsWithinGrants.C (k : Nat) : Nat → List AV → AP κ AV := contract impl_IsWithinGrants.sig (impl_IsWithinGrants.body k)
theorem impl_IsWithinGrants.den (k : Nat) (a0 : List T_impl_Grant) (a1 : List T_impl_Grant) : Code.den ti (impl_IsWithinGrants.Γ k) (impl_IsWithinGrants.LH k) (bodyOf Tryz.f27) (finK ti Tryz.f27.results.toList [] (flags impl_IsWithinGrants.sig).length (rwI (flags impl_IsWithinGrants.sig) 0) impl_IsWithinGrants.out) ⟨envOf (([.v (.sl 0), .v (.sl 1)]).zipIdx.map fun q => (q.2, q.1)), hpOf [.rows 2 false a0, .rows 2 false a1], (flags impl_IsWithinGrants.sig).length⟩ = impl_IsWithinGrants.f k a0 a1 := by kernel_rfl
theorem impl_IsWithinGrants.ok (k : Nat) : CSound Tryz.prog 27 (impl_IsWithinGrants.C k) :=
  csound κ_ok mixed tok (impl_IsWithinGrants.hΓ k) (LH := impl_IsWithinGrants.LH k) (fn := Tryz.f27) (c := bodyOf Tryz.f27) Tryz.func27 rfl Tryz.call27 impl_IsWithinGrants.sig [] (impl_IsWithinGrants.body k) (by kernel_rfl) (impl_IsWithinGrants.lok k) (by decide) fun vs bs lf y hl hb hy => by
    unfold impl_IsWithinGrants.body at hb
    split at hb
    · obtain ⟨_, rfl, hb_1⟩ := asO_bind hb
      obtain ⟨_, rfl, hb_2⟩ := asO_bind hb_1
      obtain rfl := Option.some.inj hb_2
      exact ⟨impl_IsWithinGrants.out, impl_IsWithinGrants.out_ok, (impl_IsWithinGrants.den k _ _).trans hy⟩
    · cases hb
/-! ### impl_IsWider -/
def impl_IsWider.f (k : Nat) (a0_0 : Int) (a0_1 : Int) (a0_2 : Int) (a0_3 : List T_impl_Grant) (a0_4 : List T_impl_Flow) (a0_5 : List T_impl_Rule) (a0_6 : List T_impl_Op) (a0_7 : Int) (a1_0 : Int) (a1_1 : Int) (a1_2 : Int) (a1_3 : List T_impl_Grant) (a1_4 : List T_impl_Flow) (a1_5 : List T_impl_Rule) (a1_6 : List T_impl_Op) (a1_7 : Int) : Option Bool :=
  (impl_IsWithinGrants.f k a1_3 a0_3).bind fun t1 => (bif !t1 then some true else (impl_FlowsWithin.f k a1_4 a0_4).bind fun t2 => some (!t2))
def impl_IsWider.Γ (k : Nat) : Ct κ := assoc [(27, impl_IsWithinGrants.C k), (28, impl_FlowsWithin.C k)]
def impl_IsWider.LH (k : Nat) : Nat → Option (LHi κ) := assoc []
theorem impl_IsWider.hΓ (k : Nat) : ∀ f g, impl_IsWider.Γ k f = some g → CSound Tryz.prog f g := G_cons (impl_IsWithinGrants.ok k) (G_cons (impl_FlowsWithin.ok k) G_nil)
theorem impl_IsWider.lok (k : Nat) : LOK ti (impl_IsWider.Γ k) (impl_IsWider.LH k) 8 (loopsOf (bodyOf Tryz.f30)) :=
  (show loopsOf (bodyOf Tryz.f30) = [] by kernel_rfl) ▸ LOK_nil
def impl_IsWider.sig : List PSh := [.agg [.sc, .sc, .sc, .ro 2, .ro 3, .ro 4, .ro 1, .sc], .agg [.sc, .sc, .sc, .ro 2, .ro 3, .ro 4, .ro 1, .sc]]
def impl_IsWider.g (y : Bool) : Ret κ := ⟨.v (.bool y), [], []⟩
def impl_IsWider.out (r : Ret κ) : Option Bool :=
  match r with
  | ⟨.v (.bool z0), [], []⟩ => some (z0)
  | _ => none
theorem impl_IsWider.out_ok (r : Ret κ) (y : Bool) (h : impl_IsWider.out r = some y) : r = impl_IsWider.g y := by
  unfold impl_IsWider.out at h
  split at h
  · obtain rfl := Option.some.inj h
    rfl
  · cases h
def impl_IsWider.body (k : Nat) (vs : List AV) (bs : List (Blk κ)) : Option (Lf κ) :=
  match vs, bs with
  | [.agg [.int .i64 a0_0, .int .i64 a0_1, .int .i64 a0_2, .sl 0, .sl 1, .sl 2, .sl 3, .int .i64 a0_7], .agg [.int .i64 a1_0, .int .i64 a1_1, .int .i64 a1_2, .sl 4, .sl 5, .sl 6, .sl 7, .int .i64 a1_7]], [qb0, qb1, qb2, qb3, qb4, qb5, qb6, qb7] => (asO 2 false qb0).bind fun a0_3 => (asO 3 false qb1).bind fun a0_4 => (asO 4 false qb2).bind fun a0_5 => (asO 1 false qb3).bind fun a0_6 => (asO 2 false qb4).bind fun a1_3 => (asO 3 false qb5).bind fun a1_4 => (asO 4 false qb6).bind fun a1_5 => (asO 1 false qb7).bind fun a1_6 => some ⟨Bool, impl_IsWider.f k a0_0 a0_1 a0_2 a0_3 a0_4 a0_5 a0_6 a0_7 a1_0 a1_1 a1_2 a1_3 a1_4 a1_5 a1_6 a1_7, impl_IsWider.g⟩
  | _, _ => none
def impl_IsWider.C (k : Nat) : Nat → List AV → AP κ AV := contract impl_IsWider.sig (impl_IsWider.body k)
theorem impl_IsWider.den (k : Nat) (a0_0 : Int) (a0_1 : Int) (a0_2 : Int) (a0_3 : List T_impl_Grant) (a0_4 : List T_impl_Flow) (a0_5 : List T_impl_Rule) (a0_6 : List T_impl_Op) (a0_7 : Int) (a1_0 : Int) (a1_1 : Int) (a1_2 : Int) (a1_3 : List T_impl_Grant) (a1_4 : List T_impl_Flow) (a1_5 : List T_impl_Rule) (a1_6 : List T_impl_Op) (a1_7 : Int) : Code.den ti (impl_IsWider.Γ k) (impl_IsWider.LH k) (bodyOf Tryz.f30) (finK ti Tryz.f30.results.toList [] (flags impl_IsWider.sig).length (rwI (flags impl_IsWider.sig) 0) impl_IsWider.out) ⟨envOf (([.agg [.int .i64 a0_0, .int .i64 a0_1, .int .i64 a0_2, .sl 0, .sl 1, .sl 2, .sl 3, .int .i64 a0_7], .agg [.int .i64 a1_0, .int .i64 a1_1, .int .i64 a1_2, .sl 4, .sl 5, .sl 6, .sl 7, .int .i64 a1_7]]).zipIdx.map fun q => (q.2, q.1)), hpOf [.rows 2 false a0_3, .rows 3 false a0_4, .rows 4 false a0_5, .rows 1 false a0_6, .rows 2 false a1_3, .rows 3 false a1_4, .rows 4 false a1_5, .rows 1 false a1_6], (flags impl_IsWider.sig).length⟩ = impl_IsWider.f k a0_0 a0_1 a0_2 a0_3 a0_4 a0_5 a0_6 a0_7 a1_0 a1_1 a1_2 a1_3 a1_4 a1_5 a1_6 a1_7 := by kernel_rfl
theorem impl_IsWider.ok (k : Nat) : CSound Tryz.prog 30 (impl_IsWider.C k) :=
  csound κ_ok mixed tok (impl_IsWider.hΓ k) (LH := impl_IsWider.LH k) (fn := Tryz.f30) (c := bodyOf Tryz.f30) Tryz.func30 rfl Tryz.call30 impl_IsWider.sig [] (impl_IsWider.body k) (by kernel_rfl) (impl_IsWider.lok k) (by decide) fun vs bs lf y hl hb hy => by
    unfold impl_IsWider.body at hb
    split at hb
    · obtain ⟨_, rfl, hb_1⟩ := asO_bind hb
      obtain ⟨_, rfl, hb_2⟩ := asO_bind hb_1
      obtain ⟨_, rfl, hb_3⟩ := asO_bind hb_2
      obtain ⟨_, rfl, hb_4⟩ := asO_bind hb_3
      obtain ⟨_, rfl, hb_5⟩ := asO_bind hb_4
      obtain ⟨_, rfl, hb_6⟩ := asO_bind hb_5
      obtain ⟨_, rfl, hb_7⟩ := asO_bind hb_6
      obtain ⟨_, rfl, hb_8⟩ := asO_bind hb_7
      obtain rfl := Option.some.inj hb_8
      exact ⟨impl_IsWider.out, impl_IsWider.out_ok, (impl_IsWider.den k _ _ _ _ _ _ _ _ _ _ _ _ _ _ _ _).trans hy⟩
    · cases hb
/-! ### impl_UpdateCode -/
def impl_UpdateCode.f (k : Nat) (a0 : Int) (a1_0 : Int) (a1_1 : Int) (a1_2 : Int) (a1_3 : List T_impl_Grant) (a1_4 : List T_impl_Flow) (a1_5 : List T_impl_Rule) (a1_6 : List T_impl_Op) (a1_7 : Int) (a2_0 : Int) (a2_1 : Int) (a2_2 : Int) (a2_3 : List T_impl_Grant) (a2_4 : List T_impl_Flow) (a2_5 : List T_impl_Rule) (a2_6 : List T_impl_Op) (a2_7 : Int) (a3 : Bool) : Option Int :=
  (impl_IsPackage.f k a1_0 a1_1 a1_2 a1_3 a1_4 a1_5 a1_6 a1_7).bind fun t1 => (bif !t1 then some (1 : Int) else (impl_ReviewPackage.f k a0 a2_0 a2_1 a2_2 a2_3 a2_4 a2_5 a2_6 a2_7).bind fun t2 => (bif (t2 != (0 : Int)) then some (1 : Int) else (bif (a1_0 != a2_0) then some (1 : Int) else (bif (a1_1 != a2_1) then some (1 : Int) else (bif decide (a2_2 ≤ a1_2) then some (2 : Int) else (impl_IsWider.f k a1_0 a1_1 a1_2 a1_3 a1_4 a1_5 a1_6 a1_7 a2_0 a2_1 a2_2 a2_3 a2_4 a2_5 a2_6 a2_7).bind fun t3 => (bif t3 then (bif !a3 then some (3 : Int) else some (0 : Int)) else some (0 : Int)))))))
def impl_UpdateCode.Γ (k : Nat) : Ct κ := assoc [(53, impl_IsPackage.C k), (26, impl_ReviewPackage.C k), (30, impl_IsWider.C k)]
def impl_UpdateCode.LH (k : Nat) : Nat → Option (LHi κ) := assoc []
theorem impl_UpdateCode.hΓ (k : Nat) : ∀ f g, impl_UpdateCode.Γ k f = some g → CSound Tryz.prog f g := G_cons (impl_IsPackage.ok k) (G_cons (impl_ReviewPackage.ok k) (G_cons (impl_IsWider.ok k) G_nil))
theorem impl_UpdateCode.lok (k : Nat) : LOK ti (impl_UpdateCode.Γ k) (impl_UpdateCode.LH k) 8 (loopsOf (bodyOf Tryz.f23)) :=
  (show loopsOf (bodyOf Tryz.f23) = [] by kernel_rfl) ▸ LOK_nil
def impl_UpdateCode.sig : List PSh := [.one .sc, .agg [.sc, .sc, .sc, .ro 2, .ro 3, .ro 4, .ro 1, .sc], .agg [.sc, .sc, .sc, .ro 2, .ro 3, .ro 4, .ro 1, .sc], .one .sc]
def impl_UpdateCode.g (y : Int) : Ret κ := ⟨.v (.int .i64 y), [], []⟩
def impl_UpdateCode.out (r : Ret κ) : Option Int :=
  match r with
  | ⟨.v (.int .i64 z0), [], []⟩ => some (z0)
  | _ => none
theorem impl_UpdateCode.out_ok (r : Ret κ) (y : Int) (h : impl_UpdateCode.out r = some y) : r = impl_UpdateCode.g y := by
  unfold impl_UpdateCode.out at h
  split at h
  · obtain rfl := Option.some.inj h
    rfl
  · cases h
def impl_UpdateCode.body (k : Nat) (vs : List AV) (bs : List (Blk κ)) : Option (Lf κ) :=
  match vs, bs with
  | [.v (.int .i64 a0), .agg [.int .i64 a1_0, .int .i64 a1_1, .int .i64 a1_2, .sl 0, .sl 1, .sl 2, .sl 3, .int .i64 a1_7], .agg [.int .i64 a2_0, .int .i64 a2_1, .int .i64 a2_2, .sl 4, .sl 5, .sl 6, .sl 7, .int .i64 a2_7], .v (.bool a3)], [qb0, qb1, qb2, qb3, qb4, qb5, qb6, qb7] => (asO 2 false qb0).bind fun a1_3 => (asO 3 false qb1).bind fun a1_4 => (asO 4 false qb2).bind fun a1_5 => (asO 1 false qb3).bind fun a1_6 => (asO 2 false qb4).bind fun a2_3 => (asO 3 false qb5).bind fun a2_4 => (asO 4 false qb6).bind fun a2_5 => (asO 1 false qb7).bind fun a2_6 => some ⟨Int, impl_UpdateCode.f k a0 a1_0 a1_1 a1_2 a1_3 a1_4 a1_5 a1_6 a1_7 a2_0 a2_1 a2_2 a2_3 a2_4 a2_5 a2_6 a2_7 a3, impl_UpdateCode.g⟩
  | _, _ => none
def impl_UpdateCode.C (k : Nat) : Nat → List AV → AP κ AV := contract impl_UpdateCode.sig (impl_UpdateCode.body k)
theorem impl_UpdateCode.den (k : Nat) (a0 : Int) (a1_0 : Int) (a1_1 : Int) (a1_2 : Int) (a1_3 : List T_impl_Grant) (a1_4 : List T_impl_Flow) (a1_5 : List T_impl_Rule) (a1_6 : List T_impl_Op) (a1_7 : Int) (a2_0 : Int) (a2_1 : Int) (a2_2 : Int) (a2_3 : List T_impl_Grant) (a2_4 : List T_impl_Flow) (a2_5 : List T_impl_Rule) (a2_6 : List T_impl_Op) (a2_7 : Int) (a3 : Bool) : Code.den ti (impl_UpdateCode.Γ k) (impl_UpdateCode.LH k) (bodyOf Tryz.f23) (finK ti Tryz.f23.results.toList [] (flags impl_UpdateCode.sig).length (rwI (flags impl_UpdateCode.sig) 0) impl_UpdateCode.out) ⟨envOf (([.v (.int .i64 a0), .agg [.int .i64 a1_0, .int .i64 a1_1, .int .i64 a1_2, .sl 0, .sl 1, .sl 2, .sl 3, .int .i64 a1_7], .agg [.int .i64 a2_0, .int .i64 a2_1, .int .i64 a2_2, .sl 4, .sl 5, .sl 6, .sl 7, .int .i64 a2_7], .v (.bool a3)]).zipIdx.map fun q => (q.2, q.1)), hpOf [.rows 2 false a1_3, .rows 3 false a1_4, .rows 4 false a1_5, .rows 1 false a1_6, .rows 2 false a2_3, .rows 3 false a2_4, .rows 4 false a2_5, .rows 1 false a2_6], (flags impl_UpdateCode.sig).length⟩ = impl_UpdateCode.f k a0 a1_0 a1_1 a1_2 a1_3 a1_4 a1_5 a1_6 a1_7 a2_0 a2_1 a2_2 a2_3 a2_4 a2_5 a2_6 a2_7 a3 := by kernel_rfl
theorem impl_UpdateCode.ok (k : Nat) : CSound Tryz.prog 23 (impl_UpdateCode.C k) :=
  csound κ_ok mixed tok (impl_UpdateCode.hΓ k) (LH := impl_UpdateCode.LH k) (fn := Tryz.f23) (c := bodyOf Tryz.f23) Tryz.func23 rfl Tryz.call23 impl_UpdateCode.sig [] (impl_UpdateCode.body k) (by kernel_rfl) (impl_UpdateCode.lok k) (by decide) fun vs bs lf y hl hb hy => by
    unfold impl_UpdateCode.body at hb
    split at hb
    · obtain ⟨_, rfl, hb_1⟩ := asO_bind hb
      obtain ⟨_, rfl, hb_2⟩ := asO_bind hb_1
      obtain ⟨_, rfl, hb_3⟩ := asO_bind hb_2
      obtain ⟨_, rfl, hb_4⟩ := asO_bind hb_3
      obtain ⟨_, rfl, hb_5⟩ := asO_bind hb_4
      obtain ⟨_, rfl, hb_6⟩ := asO_bind hb_5
      obtain ⟨_, rfl, hb_7⟩ := asO_bind hb_6
      obtain ⟨_, rfl, hb_8⟩ := asO_bind hb_7
      obtain rfl := Option.some.inj hb_8
      exact ⟨impl_UpdateCode.out, impl_UpdateCode.out_ok, (impl_UpdateCode.den k _ _ _ _ _ _ _ _ _ _ _ _ _ _ _ _ _ _).trans hy⟩
    · cases hb
end Go.Proofs.YtoenilndklbceaaGreat.PFnUpdated
