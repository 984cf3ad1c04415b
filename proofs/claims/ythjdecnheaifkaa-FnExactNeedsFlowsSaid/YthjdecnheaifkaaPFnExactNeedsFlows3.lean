/- What the functions that the law FnExactNeedsFlows reaches come to; no conditions. -/
import Derived.Test.YthjdecnheaifkaaPFnExactNeedsFlows2
set_option linter.unusedVariables false
set_option maxRecDepth 100000
namespace Go.Proofs.Ythjdecnheaifkaa.PFnExactNeedsFlows
open Go Go.Eng Go.Proofs
/-! ### slices_Contains_Flow -/
def slices_Contains_Flow.f (k : Nat) (a0 : List T_impl_Flow) (a1_0 : Int) (a1_1 : Int) (a1_2 : Int) : Option Bool :=
  (slices_Index_Flow.f k a0 a1_0 a1_1 a1_2).bind fun t1 => some (decide (t1 ≥ (0 : Int)))
def slices_Contains_Flow.Γ (k : Nat) : Ct κ := assoc [(94, slices_Index_Flow.C k)]
def slices_Contains_Flow.LH (k : Nat) : Nat → Option (LHi κ) := assoc []
theorem slices_Contains_Flow.hΓ (k : Nat) : ∀ f g, slices_Contains_Flow.Γ k f = some g → CSound Try.prog f g := G_cons (slices_Index_Flow.ok k) G_nil
theorem slices_Contains_Flow.lok (k : Nat) : LOK ti (slices_Contains_Flow.Γ k) (slices_Contains_Flow.LH k) 1 (loopsOf (bodyOf Try.f67)) :=
  (show loopsOf (bodyOf Try.f67) = [] by kernel_rfl) ▸ LOK_nil
def slices_Contains_Flow.sig : List PSh := [.one (.ro 2), .agg [.sc, .sc, .sc]]
def slices_Contains_Flow.g (y : Bool) : Ret κ := ⟨.v (.bool y), [], []⟩
def slices_Contains_Flow.out (r : Ret κ) : Option Bool :=
  match r with
  | ⟨.v (.bool z0), [], []⟩ => some (z0)
  | _ => none
theorem slices_Contains_Flow.out_ok (r : Ret κ) (y : Bool) (h : slices_Contains_Flow.out r = some y) : r = slices_Contains_Flow.g y := by
  unfold slices_Contains_Flow.out at h
  split at h
  · obtain rfl := Option.some.inj h
    rfl
  · cases h
def slices_Contains_Flow.body (k : Nat) (vs : List AV) (bs : List (Blk κ)) : Option (Lf κ) :=
  match vs, bs with
  | [.v (.sl 0), .agg [.int .i64 a1_0, .int .i64 a1_1, .int .i64 a1_2]], [qb0] => (asO 2 false qb0).bind fun a0 => some ⟨Bool, slices_Contains_Flow.f k a0 a1_0 a1_1 a1_2, slices_Contains_Flow.g⟩
  | _, _ => none
def slices_Contains_Flow.C (k : Nat) : Nat → List AV → AP κ AV := contract slices_Contains_Flow.sig (slices_Contains_Flow.body k)
theorem slices_Contains_Flow.den (k : Nat) (a0 : List T_impl_Flow) (a1_0 : Int) (a1_1 : Int) (a1_2 : Int) : Code.den ti (slices_Contains_Flow.Γ k) (slices_Contains_Flow.LH k) (bodyOf Try.f67) (finK ti Try.f67.results.toList [] (flags slices_Contains_Flow.sig).length (rwI (flags slices_Contains_Flow.sig) 0) slices_Contains_Flow.out) ⟨envOf (([.v (.sl 0), .agg [.int .i64 a1_0, .int .i64 a1_1, .int .i64 a1_2]]).zipIdx.map fun q => (q.2, q.1)), hpOf [.rows 2 false a0], (flags slices_Contains_Flow.sig).length⟩ = slices_Contains_Flow.f k a0 a1_0 a1_1 a1_2 := by kernel_rfl
theorem slices_Contains_Flow.ok (k : Nat) : CSound Try.prog 67 (slices_Contains_Flow.C k) :=
  csound κ_ok mixed tok (slices_Contains_Flow.hΓ k) (LH := slices_Contains_Flow.LH k) (fn := Try.f67) (c := bodyOf Try.f67) Try.func67 rfl Try.call67 slices_Contains_Flow.sig [] (slices_Contains_Flow.body k) (by kernel_rfl) (slices_Contains_Flow.lok k) (by decide) fun vs bs lf y hl hb hy => by
    unfold slices_Contains_Flow.body at hb
    split at hb
    · obtain ⟨_, rfl, hb_1⟩ := asO_bind hb
      obtain rfl := Option.some.inj hb_1
      exact ⟨slices_Contains_Flow.out, slices_Contains_Flow.out_ok, (slices_Contains_Flow.den k _ _ _ _).trans hy⟩
    · cases hb
/-! ### impl_NeedsFlows -/
def impl_NeedsFlows.L9 {R : Type} (k : Nat) (x0 : Int) (x4 : Int) (x5 : Int) (x7 : Int) (xl0 : List T_impl_Op) (xc2_0 : Int) (xc2_1 : Int) (xc2_2 : Int) (xl3 : List T_impl_Sent) (xl4 : List Int) (X0 : List T_impl_Flow → Option R) (rec : Int → List T_impl_Flow → Option R) (x8 : Int) (xl1 : List T_impl_Flow) : Option R :=
  (bif decide (x8 < x7) then (bif decide (0 ≤ x8) then (bif decide (x8 < (xl4.length : Int)) then (bif ((rd_i64 xl4 x8) != xc2_0) then (slices_Contains_Flow.f k xl1 x0 (rd_i64 xl4 x8) xc2_0).bind fun t4 => (bif !t4 then (bif decide ((xl1.length + ([(⟨x0, (rd_i64 xl4 x8), xc2_0⟩ : T_impl_Flow)] : List T_impl_Flow).length) * 24 ≤ cap48) then (let l5 : List T_impl_Flow := (xl1 ++ ([(⟨x0, (rd_i64 xl4 x8), xc2_0⟩ : T_impl_Flow)] : List T_impl_Flow)); (rec (w64 (x8 + (1 : Int))) l5)) else none) else (rec (w64 (x8 + (1 : Int))) xl1)) else (rec (w64 (x8 + (1 : Int))) xl1)) else none) else none) else (X0 xl1))
def impl_NeedsFlows.l9 {R : Type} (k : Nat) (x0 : Int) (x4 : Int) (x5 : Int) (x7 : Int) (xl0 : List T_impl_Op) (xc2_0 : Int) (xc2_1 : Int) (xc2_2 : Int) (xl3 : List T_impl_Sent) (xl4 : List Int) (X0 : List T_impl_Flow → Option R) : Nat → Int → List T_impl_Flow → Option R
  | 0 => fun _ _ => none
  | n + 1 => impl_NeedsFlows.L9 k x0 x4 x5 x7 xl0 xc2_0 xc2_1 xc2_2 xl3 xl4 X0 (impl_NeedsFlows.l9 k x0 x4 x5 x7 xl0 xc2_0 xc2_1 xc2_2 xl3 xl4 X0 n)
def impl_NeedsFlows.L6 {R : Type} (k : Nat) (x0 : Int) (x3 : Int) (xl0 : List T_impl_Op) (xl2 : List T_impl_Sent) (X0 : List T_impl_Flow → Option R) (rec : Int → List T_impl_Flow → Option R) (x4 : Int) (xl1 : List T_impl_Flow) : Option R :=
  (bif decide (x4 < x3) then (bif decide (0 ≤ x4) then (bif decide (x4 < (xl2.length : Int)) then (impl_OwnersIn.f k ((rd_impl_Sent xl2 x4).f2)).bind fun t3 => (impl_NeedsFlows.l9 k x0 x3 x4 (t3.length : Int) xl0 ((rd_impl_Sent xl2 x4).f0) ((rd_impl_Sent xl2 x4).f1) ((rd_impl_Sent xl2 x4).f2) xl2 t3 (fun (y4 : List T_impl_Flow) => (rec (w64 (x4 + (1 : Int))) y4)) k (0 : Int) xl1) else none) else none) else (X0 xl1))
def impl_NeedsFlows.l6 {R : Type} (k : Nat) (x0 : Int) (x3 : Int) (xl0 : List T_impl_Op) (xl2 : List T_impl_Sent) (X0 : List T_impl_Flow → Option R) : Nat → Int → List T_impl_Flow → Option R
  | 0 => fun _ _ => none
  | n + 1 => impl_NeedsFlows.L6 k x0 x3 xl0 xl2 X0 (impl_NeedsFlows.l6 k x0 x3 xl0 xl2 X0 n)
def impl_NeedsFlows.f (k : Nat) (a0 : List T_impl_Op) (a1 : Int) : Option (List T_impl_Flow) :=
  (impl_AreOps.f k a0).bind fun t1 => (bif !t1 then some ([] : List T_impl_Flow) else (impl_executed.f k a0 ([] : List Int)).bind fun t2 => (impl_NeedsFlows.l6 k a1 (t2.1.length : Int) a0 t2.1 (fun (y5 : List T_impl_Flow) => some y5) k (0 : Int) ([] : List T_impl_Flow)))
def impl_NeedsFlows.h9 (k : Nat) {R : Type} (K : Ex → St κ → Option R) (vs : List AV) (bs : List (Blk κ)) : Option R :=
  match vs, bs with
  | [.v (.int .i64 x0), .v (.sl 1), .v (.ptr 2 0 0), .v (.sl 3), .v (.int .i64 x4), .v (.int .i64 x5), .v (.sl 4), .v (.int .i64 x7), .v (.int .i64 x8)], [qb0, qb1, .cells 44 [.int .i64 xc2_0, .int .i64 xc2_1, .int .i64 xc2_2], qb3, qb4] => (asO 1 false qb0).bind fun xl0 => (asO 2 true qb1).bind fun xl1 => (asO 4 true qb3).bind fun xl3 => (asO 3 true qb4).bind fun xl4 => impl_NeedsFlows.l9 k x0 x4 x5 x7 xl0 xc2_0 xc2_1 xc2_2 xl3 xl4 (fun (zl1 : List T_impl_Flow) => K (.exit 2) (stOf [(1, []), (5, [some 2]), (23, [some 4]), (24, []), (25, [])] [.v (.int .i64 x0), .v (.sl 1), .v (.sl 2), .v (.int .i64 x4), .v (.int .i64 x5)] [.rows 1 false xl0, .rows 2 true zl1, .rows 4 true xl3])) k x8 xl1
  | _, _ => none
def impl_NeedsFlows.h6 (k : Nat) {R : Type} (K : Ex → St κ → Option R) (vs : List AV) (bs : List (Blk κ)) : Option R :=
  match vs, bs with
  | [.v (.int .i64 x0), .v (.sl 1), .v (.sl 2), .v (.int .i64 x3), .v (.int .i64 x4)], [qb0, qb1, qb2] => (asO 1 false qb0).bind fun xl0 => (asO 2 true qb1).bind fun xl1 => (asO 4 true qb2).bind fun xl2 => impl_NeedsFlows.l6 k x0 x3 xl0 xl2 (fun (zl1 : List T_impl_Flow) => K (.exit 0) (stOf [(5, [some 2])] [.v (.sl 1)] [.rows 1 false xl0, .rows 2 true zl1])) k x4 xl1
  | _, _ => none
def impl_NeedsFlows.Γ (k : Nat) : Ct κ := assoc [(23, impl_AreOps.C k), (57, impl_executed.C k), (66, impl_OwnersIn.C k), (67, slices_Contains_Flow.C k)]
def impl_NeedsFlows.LH (k : Nat) : Nat → Option (LHi κ) := assoc [(9, ⟨1, [(1, []), (5, [some 2]), (9, []), (23, [some 4]), (24, []), (25, []), (31, [some 3]), (32, []), (33, [])], [(1, []), (5, [some 2]), (23, [some 4]), (24, []), (25, [])], @impl_NeedsFlows.h9 k⟩), (6, ⟨1, [(1, []), (5, [some 2]), (23, [some 4]), (24, []), (25, [])], [(5, [some 2])], @impl_NeedsFlows.h6 k⟩)]
theorem impl_NeedsFlows.hΓ (k : Nat) : ∀ f g, impl_NeedsFlows.Γ k f = some g → CSound Try.prog f g := G_cons (impl_AreOps.ok k) (G_cons (impl_executed.ok k) (G_cons (impl_OwnersIn.ok k) (G_cons (slices_Contains_Flow.ok k) G_nil)))
theorem impl_NeedsFlows.e9 {R : Type} (K : Ex → St κ → Option R) (k : Nat) (x0 : Int) (x4 : Int) (x5 : Int) (x7 : Int) (xl0 : List T_impl_Op) (xc2_0 : Int) (xc2_1 : Int) (xc2_2 : Int) (xl3 : List T_impl_Sent) (xl4 : List Int) : ∀ (n : Nat) (x8 : Int) (xl1 : List T_impl_Flow), loopN 1 (Code.den ti (impl_NeedsFlows.Γ k) (impl_NeedsFlows.LH k) (loopAt Try.f25 1)) [(1, []), (5, [some 2]), (9, []), (23, [some 4]), (24, []), (25, []), (31, [some 3]), (32, []), (33, [])] [(1, []), (5, [some 2]), (23, [some 4]), (24, []), (25, [])] K n [.v (.int .i64 x0), .v (.sl 1), .v (.ptr 2 0 0), .v (.sl 3), .v (.int .i64 x4), .v (.int .i64 x5), .v (.sl 4), .v (.int .i64 x7), .v (.int .i64 x8)] [.rows 1 false xl0, .rows 2 true xl1, .cells 44 [.int .i64 xc2_0, .int .i64 xc2_1, .int .i64 xc2_2], .rows 4 true xl3, .rows 3 true xl4] = impl_NeedsFlows.l9 k x0 x4 x5 x7 xl0 xc2_0 xc2_1 xc2_2 xl3 xl4 (fun (zl1 : List T_impl_Flow) => K (.exit 2) (stOf [(1, []), (5, [some 2]), (23, [some 4]), (24, []), (25, [])] [.v (.int .i64 x0), .v (.sl 1), .v (.sl 2), .v (.int .i64 x4), .v (.int .i64 x5)] [.rows 1 false xl0, .rows 2 true zl1, .rows 4 true xl3])) n x8 xl1
  | 0, _, _ => rfl
  | n + 1, x8, xl1 => (show loopN 1 (Code.den ti (impl_NeedsFlows.Γ k) (impl_NeedsFlows.LH k) (loopAt Try.f25 1)) [(1, []), (5, [some 2]), (9, []), (23, [some 4]), (24, []), (25, []), (31, [some 3]), (32, []), (33, [])] [(1, []), (5, [some 2]), (23, [some 4]), (24, []), (25, [])] K (n + 1) [.v (.int .i64 x0), .v (.sl 1), .v (.ptr 2 0 0), .v (.sl 3), .v (.int .i64 x4), .v (.int .i64 x5), .v (.sl 4), .v (.int .i64 x7), .v (.int .i64 x8)] [.rows 1 false xl0, .rows 2 true xl1, .cells 44 [.int .i64 xc2_0, .int .i64 xc2_1, .int .i64 xc2_2], .rows 4 true xl3, .rows 3 true xl4] = impl_NeedsFlows.L9 k x0 x4 x5 x7 xl0 xc2_0 xc2_1 xc2_2 xl3 xl4 (fun (zl1 : List T_impl_Flow) => K (.exit 2) (stOf [(1, []), (5, [some 2]), (23, [some 4]), (24, []), (25, [])] [.v (.int .i64 x0), .v (.sl 1), .v (.sl 2), .v (.int .i64 x4), .v (.int .i64 x5)] [.rows 1 false xl0, .rows 2 true zl1, .rows 4 true xl3])) (fun (x8' : Int) (xl1' : List T_impl_Flow) => loopN 1 (Code.den ti (impl_NeedsFlows.Γ k) (impl_NeedsFlows.LH k) (loopAt Try.f25 1)) [(1, []), (5, [some 2]), (9, []), (23, [some 4]), (24, []), (25, []), (31, [some 3]), (32, []), (33, [])] [(1, []), (5, [some 2]), (23, [some 4]), (24, []), (25, [])] K n [.v (.int .i64 x0), .v (.sl 1), .v (.ptr 2 0 0), .v (.sl 3), .v (.int .i64 x4), .v (.int .i64 x5), .v (.sl 4), .v (.int .i64 x7), .v (.int .i64 x8')] [.rows 1 false xl0, .rows 2 true xl1', .cells 44 [.int .i64 xc2_0, .int .i64 xc2_1, .int .i64 xc2_2], .rows 4 true xl3, .rows 3 true xl4]) x8 xl1 by kernel_rfl).trans (congrArg (fun rec => impl_NeedsFlows.L9 k x0 x4 x5 x7 xl0 xc2_0 xc2_1 xc2_2 xl3 xl4 (fun (zl1 : List T_impl_Flow) => K (.exit 2) (stOf [(1, []), (5, [some 2]), (23, [some 4]), (24, []), (25, [])] [.v (.int .i64 x0), .v (.sl 1), .v (.sl 2), .v (.int .i64 x4), .v (.int .i64 x5)] [.rows 1 false xl0, .rows 2 true zl1, .rows 4 true xl3])) rec x8 xl1) (funext fun x8' => funext fun xl1' => impl_NeedsFlows.e9 K k x0 x4 x5 x7 xl0 xc2_0 xc2_1 xc2_2 xl3 xl4 n x8' xl1'))
theorem impl_NeedsFlows.q9 (k : Nat) {R : Type} (K : Ex → St κ → Option R) (vs : List AV) (bs : List (Blk κ)) (r : R) (h : impl_NeedsFlows.h9 k K vs bs = some r) : ∃ n, loopN 1 (Code.den ti (impl_NeedsFlows.Γ k) (impl_NeedsFlows.LH k) (loopAt Try.f25 1)) [(1, []), (5, [some 2]), (9, []), (23, [some 4]), (24, []), (25, []), (31, [some 3]), (32, []), (33, [])] [(1, []), (5, [some 2]), (23, [some 4]), (24, []), (25, [])] K n vs bs = some r := by
  unfold impl_NeedsFlows.h9 at h
  split at h
  · obtain ⟨_, rfl, h_1⟩ := asO_bind h
    obtain ⟨_, rfl, h_2⟩ := asO_bind h_1
    obtain ⟨_, rfl, h_3⟩ := asO_bind h_2
    obtain ⟨_, rfl, h_4⟩ := asO_bind h_3
    exact ⟨k, (impl_NeedsFlows.e9 K k _ _ _ _ _ _ _ _ _ _ k _ _).trans h_4⟩
  · cases h
theorem impl_NeedsFlows.e6 {R : Type} (K : Ex → St κ → Option R) (k : Nat) (x0 : Int) (x3 : Int) (xl0 : List T_impl_Op) (xl2 : List T_impl_Sent) : ∀ (n : Nat) (x4 : Int) (xl1 : List T_impl_Flow), loopN 1 (Code.den ti (impl_NeedsFlows.Γ k) (impl_NeedsFlows.LH k) (loopAt Try.f25 0)) [(1, []), (5, [some 2]), (23, [some 4]), (24, []), (25, [])] [(5, [some 2])] K n [.v (.int .i64 x0), .v (.sl 1), .v (.sl 2), .v (.int .i64 x3), .v (.int .i64 x4)] [.rows 1 false xl0, .rows 2 true xl1, .rows 4 true xl2] = impl_NeedsFlows.l6 k x0 x3 xl0 xl2 (fun (zl1 : List T_impl_Flow) => K (.exit 0) (stOf [(5, [some 2])] [.v (.sl 1)] [.rows 1 false xl0, .rows 2 true zl1])) n x4 xl1
  | 0, _, _ => rfl
  | n + 1, x4, xl1 => (show loopN 1 (Code.den ti (impl_NeedsFlows.Γ k) (impl_NeedsFlows.LH k) (loopAt Try.f25 0)) [(1, []), (5, [some 2]), (23, [some 4]), (24, []), (25, [])] [(5, [some 2])] K (n + 1) [.v (.int .i64 x0), .v (.sl 1), .v (.sl 2), .v (.int .i64 x3), .v (.int .i64 x4)] [.rows 1 false xl0, .rows 2 true xl1, .rows 4 true xl2] = impl_NeedsFlows.L6 k x0 x3 xl0 xl2 (fun (zl1 : List T_impl_Flow) => K (.exit 0) (stOf [(5, [some 2])] [.v (.sl 1)] [.rows 1 false xl0, .rows 2 true zl1])) (fun (x4' : Int) (xl1' : List T_impl_Flow) => loopN 1 (Code.den ti (impl_NeedsFlows.Γ k) (impl_NeedsFlows.LH k) (loopAt Try.f25 0)) [(1, []), (5, [some 2]), (23, [some 4]), (24, []), (25, [])] [(5, [some 2])] K n [.v (.int .i64 x0), .v (.sl 1), .v (.sl 2), .v (.int .i64 x3), .v (.int .i64 x4')] [.rows 1 false xl0, .rows 2 true xl1', .rows 4 true xl2]) x4 xl1 by kernel_rfl).trans (congrArg (fun rec => impl_NeedsFlows.L6 k x0 x3 xl0 xl2 (fun (zl1 : List T_impl_Flow) => K (.exit 0) (stOf [(5, [some 2])] [.v (.sl 1)] [.rows 1 false xl0, .rows 2 true zl1])) rec x4 xl1) (funext fun x4' => funext fun xl1' => impl_NeedsFlows.e6 K k x0 x3 xl0 xl2 n x4' xl1'))
theorem impl_NeedsFlows.q6 (k : Nat) {R : Type} (K : Ex → St κ → Option R) (vs : List AV) (bs : List (Blk κ)) (r : R) (h : impl_NeedsFlows.h6 k K vs bs = some r) : ∃ n, loopN 1 (Code.den ti (impl_NeedsFlows.Γ k) (impl_NeedsFlows.LH k) (loopAt Try.f25 0)) [(1, []), (5, [some 2]), (23, [some 4]), (24, []), (25, [])] [(5, [some 2])] K n vs bs = some r := by
  unfold impl_NeedsFlows.h6 at h
  split at h
  · obtain ⟨_, rfl, h_1⟩ := asO_bind h
    obtain ⟨_, rfl, h_2⟩ := asO_bind h_1
    obtain ⟨_, rfl, h_3⟩ := asO_bind h_2
    exact ⟨k, (impl_NeedsFlows.e6 K k _ _ _ _ k _ _).trans h_3⟩
  · cases h
theorem impl_NeedsFlows.lok (k : Nat) : LOK ti (impl_NeedsFlows.Γ k) (impl_NeedsFlows.LH k) 1 (loopsOf (bodyOf Try.f25)) :=
  (show loopsOf (bodyOf Try.f25) = [loopAt Try.f25 0, loopAt Try.f25 1] by kernel_rfl) ▸ (LOK_cons (g := ⟨1, [(1, []), (5, [some 2]), (23, [some 4]), (24, []), (25, [])], [(5, [some 2])], @impl_NeedsFlows.h6 k⟩) (by kernel_rfl) rfl (fun K vs xs r h => impl_NeedsFlows.q6 k K vs xs r h) (LOK_cons (g := ⟨1, [(1, []), (5, [some 2]), (9, []), (23, [some 4]), (24, []), (25, []), (31, [some 3]), (32, []), (33, [])], [(1, []), (5, [some 2]), (23, [some 4]), (24, []), (25, [])], @impl_NeedsFlows.h9 k⟩) (by kernel_rfl) rfl (fun K vs xs r h => impl_NeedsFlows.q9 k K vs xs r h) (LOK_nil)))
def impl_NeedsFlows.sig : List PSh := [.one (.ro 1), .one .sc]
def impl_NeedsFlows.g (y : List T_impl_Flow) : Ret κ := ⟨.v (.sl 1), [], [.rows 2 true y]⟩
def impl_NeedsFlows.out (r : Ret κ) : Option (List T_impl_Flow) :=
  match r with
  | ⟨.v (.sl 1), [], [q0]⟩ => (asO 2 true q0).bind fun z0 => some (z0)
  | _ => none
theorem impl_NeedsFlows.out_ok (r : Ret κ) (y : List T_impl_Flow) (h : impl_NeedsFlows.out r = some y) : r = impl_NeedsFlows.g y := by
  unfold impl_NeedsFlows.out at h
  split at h
  · obtain ⟨_, rfl, h_1⟩ := asO_bind h
    obtain rfl := Option.some.inj h_1
    rfl
  · cases h
def impl_NeedsFlows.body (k : Nat) (vs : List AV) (bs : List (Blk κ)) : Option (Lf κ) :=
  match vs, bs with
  | [.v (.sl 0), .v (.int .i64 a1)], [qb0] => (asO 1 false qb0).bind fun a0 => some ⟨List T_impl_Flow, impl_NeedsFlows.f k a0 a1, impl_NeedsFlows.g⟩
  | _, _ => none
def impl_NeedsFlows.C (k : Nat) : Nat → List AV → AP κ AV := contract impl_NeedsFlows.sig (impl_NeedsFlows.body k)
theorem impl_NeedsFlows.den (k : Nat) (a0 : List T_impl_Op) (a1 : Int) : Code.den ti (impl_NeedsFlows.Γ k) (impl_NeedsFlows.LH k) (bodyOf Try.f25) (finK ti Try.f25.results.toList [(4, [some 2])] (flags impl_NeedsFlows.sig).length (rwI (flags impl_NeedsFlows.sig) 0) impl_NeedsFlows.out) ⟨envOf (([.v (.sl 0), .v (.int .i64 a1)]).zipIdx.map fun q => (q.2, q.1)), hpOf [.rows 1 false a0], (flags impl_NeedsFlows.sig).length⟩ = impl_NeedsFlows.f k a0 a1 := by kernel_rfl
theorem impl_NeedsFlows.ok (k : Nat) : CSound Try.prog 25 (impl_NeedsFlows.C k) :=
  csound κ_ok mixed tok (impl_NeedsFlows.hΓ k) (LH := impl_NeedsFlows.LH k) (fn := Try.f25) (c := bodyOf Try.f25) Try.func25 rfl Try.call25 impl_NeedsFlows.sig [(4, [some 2])] (impl_NeedsFlows.body k) (by kernel_rfl) (impl_NeedsFlows.lok k) (by decide) fun vs bs lf y hl hb hy => by
    unfold impl_NeedsFlows.body at hb
    split at hb
    · obtain ⟨_, rfl, hb_1⟩ := asO_bind hb
      obtain rfl := Option.some.inj hb_1
      exact ⟨impl_NeedsFlows.out, impl_NeedsFlows.out_ok, (impl_NeedsFlows.den k _ _).trans hy⟩
    · cases hb
/-! ### laws_eqFlow -/
def laws_eqFlow.f (k : Nat) (a0_0 : Int) (a0_1 : Int) (a0_2 : Int) (a1_0 : Int) (a1_1 : Int) (a1_2 : Int) : Option Bool :=
  (bif (a0_0 != a1_0) then some false else (bif (a0_1 != a1_1) then some false else (bif (a0_2 != a1_2) then some false else some true)))
def laws_eqFlow.Γ (k : Nat) : Ct κ := assoc []
def laws_eqFlow.LH (k : Nat) : Nat → Option (LHi κ) := assoc []
theorem laws_eqFlow.hΓ (k : Nat) : ∀ f g, laws_eqFlow.Γ k f = some g → CSound Try.prog f g := G_nil
theorem laws_eqFlow.lok (k : Nat) : LOK ti (laws_eqFlow.Γ k) (laws_eqFlow.LH k) 0 (loopsOf (bodyOf Try.f73)) :=
  (show loopsOf (bodyOf Try.f73) = [] by kernel_rfl) ▸ LOK_nil
def laws_eqFlow.sig : List PSh := [.agg [.sc, .sc, .sc], .agg [.sc, .sc, .sc]]
def laws_eqFlow.g (y : Bool) : Ret κ := ⟨.v (.bool y), [], []⟩
def laws_eqFlow.out (r : Ret κ) : Option Bool :=
  match r with
  | ⟨.v (.bool z0), [], []⟩ => some (z0)
  | _ => none
theorem laws_eqFlow.out_ok (r : Ret κ) (y : Bool) (h : laws_eqFlow.out r = some y) : r = laws_eqFlow.g y := by
  unfold laws_eqFlow.out at h
  split at h
  · obtain rfl := Option.some.inj h
    rfl
  · cases h
def laws_eqFlow.body (k : Nat) (vs : List AV) (bs : List (Blk κ)) : Option (Lf κ) :=
  match vs, bs with
  | [.agg [.int .i64 a0_0, .int .i64 a0_1, .int .i64 a0_2], .agg [.int .i64 a1_0, .int .i64 a1_1, .int .i64 a1_2]], [] => some ⟨Bool, laws_eqFlow.f k a0_0 a0_1 a0_2 a1_0 a1_1 a1_2, laws_eqFlow.g⟩
  | _, _ => none
def laws_eqFlow.C (k : Nat) : Nat → List AV → AP κ AV := contract laws_eqFlow.sig (laws_eqFlow.body k)
theorem laws_eqFlow.den (k : Nat) (a0_0 : Int) (a0_1 : Int) (a0_2 : Int) (a1_0 : Int) (a1_1 : Int) (a1_2 : Int) : Code.den ti (laws_eqFlow.Γ k) (laws_eqFlow.LH k) (bodyOf Try.f73) (finK ti Try.f73.results.toList [] (flags laws_eqFlow.sig).length (rwI (flags laws_eqFlow.sig) 0) laws_eqFlow.out) ⟨envOf (([.agg [.int .i64 a0_0, .int .i64 a0_1, .int .i64 a0_2], .agg [.int .i64 a1_0, .int .i64 a1_1, .int .i64 a1_2]]).zipIdx.map fun q => (q.2, q.1)), hpOf [], (flags laws_eqFlow.sig).length⟩ = laws_eqFlow.f k a0_0 a0_1 a0_2 a1_0 a1_1 a1_2 := by kernel_rfl
theorem laws_eqFlow.ok (k : Nat) : CSound Try.prog 73 (laws_eqFlow.C k) :=
  csound κ_ok mixed tok (laws_eqFlow.hΓ k) (LH := laws_eqFlow.LH k) (fn := Try.f73) (c := bodyOf Try.f73) Try.func73 rfl Try.call73 laws_eqFlow.sig [] (laws_eqFlow.body k) (by kernel_rfl) (laws_eqFlow.lok k) (by decide) fun vs bs lf y hl hb hy => by
    unfold laws_eqFlow.body at hb
    split at hb
    · obtain rfl := Option.some.inj hb
      exact ⟨laws_eqFlow.out, laws_eqFlow.out_ok, (laws_eqFlow.den k _ _ _ _ _ _).trans hy⟩
    · cases hb
/-! ### laws_eqFlowS -/
def laws_eqFlowS.L4 {R : Type} (k : Nat) (xl0 : List T_impl_Flow) (xl1 : List T_impl_Flow) (X0 : Bool → Option R) (X1 : Unit → Option R) (rec : Int → Option R) (x2 : Int) : Option R :=
  (bif decide (x2 < (xl0.length : Int)) then (bif decide (0 ≤ x2) then (bif decide (x2 < (xl0.length : Int)) then (bif decide (0 ≤ x2) then (bif decide (x2 < (xl1.length : Int)) then (laws_eqFlow.f k ((rd_impl_Flow xl0 x2).f0) ((rd_impl_Flow xl0 x2).f1) ((rd_impl_Flow xl0 x2).f2) ((rd_impl_Flow xl1 x2).f0) ((rd_impl_Flow xl1 x2).f1) ((rd_impl_Flow xl1 x2).f2)).bind fun t1 => (bif !t1 then (X0 false) else (rec (w64 (x2 + (1 : Int))))) else none) else none) else none) else none) else (X1 ()))
def laws_eqFlowS.l4 {R : Type} (k : Nat) (xl0 : List T_impl_Flow) (xl1 : List T_impl_Flow) (X0 : Bool → Option R) (X1 : Unit → Option R) : Nat → Int → Option R
  | 0 => fun _ => none
  | n + 1 => laws_eqFlowS.L4 k xl0 xl1 X0 X1 (laws_eqFlowS.l4 k xl0 xl1 X0 X1 n)
def laws_eqFlowS.f (k : Nat) (a0 : List T_impl_Flow) (a1 : List T_impl_Flow) : Option Bool :=
  (bif ((a0.length : Int) != (a1.length : Int)) then some false else (laws_eqFlowS.l4 k a0 a1 (fun (y2 : Bool) => some y2) (fun (_ : Unit) => some true) k (0 : Int)))
def laws_eqFlowS.h4 (k : Nat) {R : Type} (K : Ex → St κ → Option R) (vs : List AV) (bs : List (Blk κ)) : Option R :=
  match vs, bs with
  | [.v (.sl 0), .v (.sl 1), .v (.int .i64 x2)], [qb0, qb1] => (asO 2 false qb0).bind fun xl0 => (asO 2 false qb1).bind fun xl1 => laws_eqFlowS.l4 k xl0 xl1 (fun (z0 : Bool) => K .ret (stOf [(4, [])] [.v (.bool z0)] [.rows 2 false xl0, .rows 2 false xl1])) (fun (_ : Unit) => K (.exit 0) (stOf [(4, [])] [.v .any] [.rows 2 false xl0, .rows 2 false xl1])) k x2
  | _, _ => none
def laws_eqFlowS.Γ (k : Nat) : Ct κ := assoc [(73, laws_eqFlow.C k)]
def laws_eqFlowS.LH (k : Nat) : Nat → Option (LHi κ) := assoc [(4, ⟨2, [(0, [some 2]), (1, [some 2]), (5, [])], [(4, [])], @laws_eqFlowS.h4 k⟩)]
theorem laws_eqFlowS.hΓ (k : Nat) : ∀ f g, laws_eqFlowS.Γ k f = some g → CSound Try.prog f g := G_cons (laws_eqFlow.ok k) G_nil
theorem laws_eqFlowS.e4 {R : Type} (K : Ex → St κ → Option R) (k : Nat) (xl0 : List T_impl_Flow) (xl1 : List T_impl_Flow) : ∀ (n : Nat) (x2 : Int), loopN 2 (Code.den ti (laws_eqFlowS.Γ k) (laws_eqFlowS.LH k) (loopAt Try.f30 0)) [(0, [some 2]), (1, [some 2]), (5, [])] [(4, [])] K n [.v (.sl 0), .v (.sl 1), .v (.int .i64 x2)] [.rows 2 false xl0, .rows 2 false xl1] = laws_eqFlowS.l4 k xl0 xl1 (fun (z0 : Bool) => K .ret (stOf [(4, [])] [.v (.bool z0)] [.rows 2 false xl0, .rows 2 false xl1])) (fun (_ : Unit) => K (.exit 0) (stOf [(4, [])] [.v .any] [.rows 2 false xl0, .rows 2 false xl1])) n x2
  | 0, _ => rfl
  | n + 1, x2 => (show loopN 2 (Code.den ti (laws_eqFlowS.Γ k) (laws_eqFlowS.LH k) (loopAt Try.f30 0)) [(0, [some 2]), (1, [some 2]), (5, [])] [(4, [])] K (n + 1) [.v (.sl 0), .v (.sl 1), .v (.int .i64 x2)] [.rows 2 false xl0, .rows 2 false xl1] = laws_eqFlowS.L4 k xl0 xl1 (fun (z0 : Bool) => K .ret (stOf [(4, [])] [.v (.bool z0)] [.rows 2 false xl0, .rows 2 false xl1])) (fun (_ : Unit) => K (.exit 0) (stOf [(4, [])] [.v .any] [.rows 2 false xl0, .rows 2 false xl1])) (fun (x2' : Int) => loopN 2 (Code.den ti (laws_eqFlowS.Γ k) (laws_eqFlowS.LH k) (loopAt Try.f30 0)) [(0, [some 2]), (1, [some 2]), (5, [])] [(4, [])] K n [.v (.sl 0), .v (.sl 1), .v (.int .i64 x2')] [.rows 2 false xl0, .rows 2 false xl1]) x2 by kernel_rfl).trans (congrArg (fun rec => laws_eqFlowS.L4 k xl0 xl1 (fun (z0 : Bool) => K .ret (stOf [(4, [])] [.v (.bool z0)] [.rows 2 false xl0, .rows 2 false xl1])) (fun (_ : Unit) => K (.exit 0) (stOf [(4, [])] [.v .any] [.rows 2 false xl0, .rows 2 false xl1])) rec x2) (funext fun x2' => laws_eqFlowS.e4 K k xl0 xl1 n x2'))
theorem laws_eqFlowS.q4 (k : Nat) {R : Type} (K : Ex → St κ → Option R) (vs : List AV) (bs : List (Blk κ)) (r : R) (h : laws_eqFlowS.h4 k K vs bs = some r) : ∃ n, loopN 2 (Code.den ti (laws_eqFlowS.Γ k) (laws_eqFlowS.LH k) (loopAt Try.f30 0)) [(0, [some 2]), (1, [some 2]), (5, [])] [(4, [])] K n vs bs = some r := by
  unfold laws_eqFlowS.h4 at h
  split at h
  · obtain ⟨_, rfl, h_1⟩ := asO_bind h
    obtain ⟨_, rfl, h_2⟩ := asO_bind h_1
    exact ⟨k, (laws_eqFlowS.e4 K k _ _ k _).trans h_2⟩
  · cases h
theorem laws_eqFlowS.lok (k : Nat) : LOK ti (laws_eqFlowS.Γ k) (laws_eqFlowS.LH k) 2 (loopsOf (bodyOf Try.f30)) :=
  (show loopsOf (bodyOf Try.f30) = [loopAt Try.f30 0] by kernel_rfl) ▸ (LOK_cons (g := ⟨2, [(0, [some 2]), (1, [some 2]), (5, [])], [(4, [])], @laws_eqFlowS.h4 k⟩) (by kernel_rfl) rfl (fun K vs xs r h => laws_eqFlowS.q4 k K vs xs r h) (LOK_nil))
def laws_eqFlowS.sig : List PSh := [.one (.ro 2), .one (.ro 2)]
def laws_eqFlowS.g (y : Bool) : Ret κ := ⟨.v (.bool y), [], []⟩
def laws_eqFlowS.out (r : Ret κ) : Option Bool :=
  match r with
  | ⟨.v (.bool z0), [], []⟩ => some (z0)
  | _ => none
theorem laws_eqFlowS.out_ok (r : Ret κ) (y : Bool) (h : laws_eqFlowS.out r = some y) : r = laws_eqFlowS.g y := by
  unfold laws_eqFlowS.out at h
  split at h
  · obtain rfl := Option.some.inj h
    rfl
  · cases h
def laws_eqFlowS.body (k : Nat) (vs : List AV) (bs : List (Blk κ)) : Option (Lf κ) :=
  match vs, bs with
  | [.v (.sl 0), .v (.sl 1)], [qb0, qb1] => (asO 2 false qb0).bind fun a0 => (asO 2 false qb1).bind fun a1 => some ⟨Bool, laws_eqFlowS.f k a0 a1, laws_eqFlowS.g⟩
  | _, _ => none
def laws_eqFlowS.C (k : Nat) : Nat → List AV → AP κ AV := contract laws_eqFlowS.sig (laws_eqFlowS.body k)
theorem laws_eqFlowS.den (k : Nat) (a0 : List T_impl_Flow) (a1 : List T_impl_Flow) : Code.den ti (laws_eqFlowS.Γ k) (laws_eqFlowS.LH k) (bodyOf Try.f30) (finK ti Try.f30.results.toList [] (flags laws_eqFlowS.sig).length (rwI (flags laws_eqFlowS.sig) 0) laws_eqFlowS.out) ⟨envOf (([.v (.sl 0), .v (.sl 1)]).zipIdx.map fun q => (q.2, q.1)), hpOf [.rows 2 false a0, .rows 2 false a1], (flags laws_eqFlowS.sig).length⟩ = laws_eqFlowS.f k a0 a1 := by kernel_rfl
theorem laws_eqFlowS.ok (k : Nat) : CSound Try.prog 30 (laws_eqFlowS.C k) :=
  csound κ_ok mixed tok (laws_eqFlowS.hΓ k) (LH := laws_eqFlowS.LH k) (fn := Try.f30) (c := bodyOf Try.f30) Try.func30 rfl Try.call30 laws_eqFlowS.sig [] (laws_eqFlowS.body k) (by kernel_rfl) (laws_eqFlowS.lok k) (by decide) fun vs bs lf y hl hb hy => by
    unfold laws_eqFlowS.body at hb
    split at hb
    · obtain ⟨_, rfl, hb_1⟩ := asO_bind hb
      obtain ⟨_, rfl, hb_2⟩ := asO_bind hb_1
      obtain rfl := Option.some.inj hb_2
      exact ⟨laws_eqFlowS.out, laws_eqFlowS.out_ok, (laws_eqFlowS.den k _ _).trans hy⟩
    · cases hb
/-! ### laws_eqOp -/
def laws_eqOp.f (k : Nat) (a0_0 : Int) (a0_1 : Int) (a0_2 : Int) (a0_3 : Int) (a1_0 : Int) (a1_1 : Int) (a1_2 : Int) (a1_3 : Int) : Option Bool :=
  (bif (a0_0 != a1_0) then some false else (bif (a0_1 != a1_1) then some false else (bif (a0_2 != a1_2) then some false else (bif (a0_3 != a1_3) then some false else some true))))
def laws_eqOp.Γ (k : Nat) : Ct κ := assoc []
def laws_eqOp.LH (k : Nat) : Nat → Option (LHi κ) := assoc []
theorem laws_eqOp.hΓ (k : Nat) : ∀ f g, laws_eqOp.Γ k f = some g → CSound Try.prog f g := G_nil
theorem laws_eqOp.lok (k : Nat) : LOK ti (laws_eqOp.Γ k) (laws_eqOp.LH k) 0 (loopsOf (bodyOf Try.f58)) :=
  (show loopsOf (bodyOf Try.f58) = [] by kernel_rfl) ▸ LOK_nil
def laws_eqOp.sig : List PSh := [.agg [.sc, .sc, .sc, .sc], .agg [.sc, .sc, .sc, .sc]]
def laws_eqOp.g (y : Bool) : Ret κ := ⟨.v (.bool y), [], []⟩
def laws_eqOp.out (r : Ret κ) : Option Bool :=
  match r with
  | ⟨.v (.bool z0), [], []⟩ => some (z0)
  | _ => none
theorem laws_eqOp.out_ok (r : Ret κ) (y : Bool) (h : laws_eqOp.out r = some y) : r = laws_eqOp.g y := by
  unfold laws_eqOp.out at h
  split at h
  · obtain rfl := Option.some.inj h
    rfl
  · cases h
def laws_eqOp.body (k : Nat) (vs : List AV) (bs : List (Blk κ)) : Option (Lf κ) :=
  match vs, bs with
  | [.agg [.int .i64 a0_0, .int .i64 a0_1, .int .i64 a0_2, .int .i64 a0_3], .agg [.int .i64 a1_0, .int .i64 a1_1, .int .i64 a1_2, .int .i64 a1_3]], [] => some ⟨Bool, laws_eqOp.f k a0_0 a0_1 a0_2 a0_3 a1_0 a1_1 a1_2 a1_3, laws_eqOp.g⟩
  | _, _ => none
def laws_eqOp.C (k : Nat) : Nat → List AV → AP κ AV := contract laws_eqOp.sig (laws_eqOp.body k)
theorem laws_eqOp.den (k : Nat) (a0_0 : Int) (a0_1 : Int) (a0_2 : Int) (a0_3 : Int) (a1_0 : Int) (a1_1 : Int) (a1_2 : Int) (a1_3 : Int) : Code.den ti (laws_eqOp.Γ k) (laws_eqOp.LH k) (bodyOf Try.f58) (finK ti Try.f58.results.toList [] (flags laws_eqOp.sig).length (rwI (flags laws_eqOp.sig) 0) laws_eqOp.out) ⟨envOf (([.agg [.int .i64 a0_0, .int .i64 a0_1, .int .i64 a0_2, .int .i64 a0_3], .agg [.int .i64 a1_0, .int .i64 a1_1, .int .i64 a1_2, .int .i64 a1_3]]).zipIdx.map fun q => (q.2, q.1)), hpOf [], (flags laws_eqOp.sig).length⟩ = laws_eqOp.f k a0_0 a0_1 a0_2 a0_3 a1_0 a1_1 a1_2 a1_3 := by kernel_rfl
theorem laws_eqOp.ok (k : Nat) : CSound Try.prog 58 (laws_eqOp.C k) :=
  csound κ_ok mixed tok (laws_eqOp.hΓ k) (LH := laws_eqOp.LH k) (fn := Try.f58) (c := bodyOf Try.f58) Try.func58 rfl Try.call58 laws_eqOp.sig [] (laws_eqOp.body k) (by kernel_rfl) (laws_eqOp.lok k) (by decide) fun vs bs lf y hl hb hy => by
    unfold laws_eqOp.body at hb
    split at hb
    · obtain rfl := Option.some.inj hb
      exact ⟨laws_eqOp.out, laws_eqOp.out_ok, (laws_eqOp.den k _ _ _ _ _ _ _ _).trans hy⟩
    · cases hb
/-! ### laws_eqOpS -/
def laws_eqOpS.L4 {R : Type} (k : Nat) (xl0 : List T_impl_Op) (xl1 : List T_impl_Op) (X0 : Bool → Option R) (X1 : Unit → Option R) (rec : Int → Option R) (x2 : Int) : Option R :=
  (bif decide (x2 < (xl0.length : Int)) then (bif decide (0 ≤ x2) then (bif decide (x2 < (xl0.length : Int)) then (bif decide (0 ≤ x2) then (bif decide (x2 < (xl1.length : Int)) then (laws_eqOp.f k ((rd_impl_Op xl0 x2).f0) ((rd_impl_Op xl0 x2).f1) ((rd_impl_Op xl0 x2).f2) ((rd_impl_Op xl0 x2).f3) ((rd_impl_Op xl1 x2).f0) ((rd_impl_Op xl1 x2).f1) ((rd_impl_Op xl1 x2).f2) ((rd_impl_Op xl1 x2).f3)).bind fun t1 => (bif !t1 then (X0 false) else (rec (w64 (x2 + (1 : Int))))) else none) else none) else none) else none) else (X1 ()))
def laws_eqOpS.l4 {R : Type} (k : Nat) (xl0 : List T_impl_Op) (xl1 : List T_impl_Op) (X0 : Bool → Option R) (X1 : Unit → Option R) : Nat → Int → Option R
  | 0 => fun _ => none
  | n + 1 => laws_eqOpS.L4 k xl0 xl1 X0 X1 (laws_eqOpS.l4 k xl0 xl1 X0 X1 n)
def laws_eqOpS.f (k : Nat) (a0 : List T_impl_Op) (a1 : List T_impl_Op) : Option Bool :=
  (bif ((a0.length : Int) != (a1.length : Int)) then some false else (laws_eqOpS.l4 k a0 a1 (fun (y2 : Bool) => some y2) (fun (_ : Unit) => some true) k (0 : Int)))
def laws_eqOpS.h4 (k : Nat) {R : Type} (K : Ex → St κ → Option R) (vs : List AV) (bs : List (Blk κ)) : Option R :=
  match vs, bs with
  | [.v (.sl 0), .v (.sl 1), .v (.int .i64 x2)], [qb0, qb1] => (asO 1 false qb0).bind fun xl0 => (asO 1 false qb1).bind fun xl1 => laws_eqOpS.l4 k xl0 xl1 (fun (z0 : Bool) => K .ret (stOf [(4, [])] [.v (.bool z0)] [.rows 1 false xl0, .rows 1 false xl1])) (fun (_ : Unit) => K (.exit 0) (stOf [(4, [])] [.v .any] [.rows 1 false xl0, .rows 1 false xl1])) k x2
  | _, _ => none
def laws_eqOpS.Γ (k : Nat) : Ct κ := assoc [(58, laws_eqOp.C k)]
def laws_eqOpS.LH (k : Nat) : Nat → Option (LHi κ) := assoc [(4, ⟨2, [(0, [some 1]), (1, [some 1]), (5, [])], [(4, [])], @laws_eqOpS.h4 k⟩)]
theorem laws_eqOpS.hΓ (k : Nat) : ∀ f g, laws_eqOpS.Γ k f = some g → CSound Try.prog f g := G_cons (laws_eqOp.ok k) G_nil
theorem laws_eqOpS.e4 {R : Type} (K : Ex → St κ → Option R) (k : Nat) (xl0 : List T_impl_Op) (xl1 : List T_impl_Op) : ∀ (n : Nat) (x2 : Int), loopN 2 (Code.den ti (laws_eqOpS.Γ k) (laws_eqOpS.LH k) (loopAt Try.f16 0)) [(0, [some 1]), (1, [some 1]), (5, [])] [(4, [])] K n [.v (.sl 0), .v (.sl 1), .v (.int .i64 x2)] [.rows 1 false xl0, .rows 1 false xl1] = laws_eqOpS.l4 k xl0 xl1 (fun (z0 : Bool) => K .ret (stOf [(4, [])] [.v (.bool z0)] [.rows 1 false xl0, .rows 1 false xl1])) (fun (_ : Unit) => K (.exit 0) (stOf [(4, [])] [.v .any] [.rows 1 false xl0, .rows 1 false xl1])) n x2
  | 0, _ => rfl
  | n + 1, x2 => (show loopN 2 (Code.den ti (laws_eqOpS.Γ k) (laws_eqOpS.LH k) (loopAt Try.f16 0)) [(0, [some 1]), (1, [some 1]), (5, [])] [(4, [])] K (n + 1) [.v (.sl 0), .v (.sl 1), .v (.int .i64 x2)] [.rows 1 false xl0, .rows 1 false xl1] = laws_eqOpS.L4 k xl0 xl1 (fun (z0 : Bool) => K .ret (stOf [(4, [])] [.v (.bool z0)] [.rows 1 false xl0, .rows 1 false xl1])) (fun (_ : Unit) => K (.exit 0) (stOf [(4, [])] [.v .any] [.rows 1 false xl0, .rows 1 false xl1])) (fun (x2' : Int) => loopN 2 (Code.den ti (laws_eqOpS.Γ k) (laws_eqOpS.LH k) (loopAt Try.f16 0)) [(0, [some 1]), (1, [some 1]), (5, [])] [(4, [])] K n [.v (.sl 0), .v (.sl 1), .v (.int .i64 x2')] [.rows 1 false xl0, .rows 1 false xl1]) x2 by kernel_rfl).trans (congrArg (fun rec => laws_eqOpS.L4 k xl0 xl1 (fun (z0 : Bool) => K .ret (stOf [(4, [])] [.v (.bool z0)] [.rows 1 false xl0, .rows 1 false xl1])) (fun (_ : Unit) => K (.exit 0) (stOf [(4, [])] [.v .any] [.rows 1 false xl0, .rows 1 false xl1])) rec x2) (funext fun x2' => laws_eqOpS.e4 K k xl0 xl1 n x2'))
theorem laws_eqOpS.q4 (k : Nat) {R : Type} (K : Ex → St κ → Option R) (vs : List AV) (bs : List (Blk κ)) (r : R) (h : laws_eqOpS.h4 k K vs bs = some r) : ∃ n, loopN 2 (Code.den ti (laws_eqOpS.Γ k) (laws_eqOpS.LH k) (loopAt Try.f16 0)) [(0, [some 1]), (1, [some 1]), (5, [])] [(4, [])] K n vs bs = some r := by
  unfold laws_eqOpS.h4 at h
  split at h
  · obtain ⟨_, rfl, h_1⟩ := asO_bind h
    obtain ⟨_, rfl, h_2⟩ := asO_bind h_1
    exact ⟨k, (laws_eqOpS.e4 K k _ _ k _).trans h_2⟩
  · cases h
theorem laws_eqOpS.lok (k : Nat) : LOK ti (laws_eqOpS.Γ k) (laws_eqOpS.LH k) 2 (loopsOf (bodyOf Try.f16)) :=
  (show loopsOf (bodyOf Try.f16) = [loopAt Try.f16 0] by kernel_rfl) ▸ (LOK_cons (g := ⟨2, [(0, [some 1]), (1, [some 1]), (5, [])], [(4, [])], @laws_eqOpS.h4 k⟩) (by kernel_rfl) rfl (fun K vs xs r h => laws_eqOpS.q4 k K vs xs r h) (LOK_nil))
def laws_eqOpS.sig : List PSh := [.one (.ro 1), .one (.ro 1)]
def laws_eqOpS.g (y : Bool) : Ret κ := ⟨.v (.bool y), [], []⟩
def laws_eqOpS.out (r : Ret κ) : Option Bool :=
  match r with
  | ⟨.v (.bool z0), [], []⟩ => some (z0)
  | _ => none
theorem laws_eqOpS.out_ok (r : Ret κ) (y : Bool) (h : laws_eqOpS.out r = some y) : r = laws_eqOpS.g y := by
  unfold laws_eqOpS.out at h
  split at h
  · obtain rfl := Option.some.inj h
    rfl
  · cases h
def laws_eqOpS.body (k : Nat) (vs : List AV) (bs : List (Blk κ)) : Option (Lf κ) :=
  match vs, bs with
  | [.v (.sl 0), .v (.sl 1)], [qb0, qb1] => (asO 1 false qb0).bind fun a0 => (asO 1 false qb1).bind fun a1 => some ⟨Bool, laws_eqOpS.f k a0 a1, laws_eqOpS.g⟩
  | _, _ => none
def laws_eqOpS.C (k : Nat) : Nat → List AV → AP κ AV := contract laws_eqOpS.sig (laws_eqOpS.body k)
theorem laws_eqOpS.den (k : Nat) (a0 : List T_impl_Op) (a1 : List T_impl_Op) : Code.den ti (laws_eqOpS.Γ k) (laws_eqOpS.LH k) (bodyOf Try.f16) (finK ti Try.f16.results.toList [] (flags laws_eqOpS.sig).length (rwI (flags laws_eqOpS.sig) 0) laws_eqOpS.out) ⟨envOf (([.v (.sl 0), .v (.sl 1)]).zipIdx.map fun q => (q.2, q.1)), hpOf [.rows 1 false a0, .rows 1 false a1], (flags laws_eqOpS.sig).length⟩ = laws_eqOpS.f k a0 a1 := by kernel_rfl
theorem laws_eqOpS.ok (k : Nat) : CSound Try.prog 16 (laws_eqOpS.C k) :=
  csound κ_ok mixed tok (laws_eqOpS.hΓ k) (LH := laws_eqOpS.LH k) (fn := Try.f16) (c := bodyOf Try.f16) Try.func16 rfl Try.call16 laws_eqOpS.sig [] (laws_eqOpS.body k) (by kernel_rfl) (laws_eqOpS.lok k) (by decide) fun vs bs lf y hl hb hy => by
    unfold laws_eqOpS.body at hb
    split at hb
    · obtain ⟨_, rfl, hb_1⟩ := asO_bind hb
      obtain ⟨_, rfl, hb_2⟩ := asO_bind hb_1
      obtain rfl := Option.some.inj hb_2
      exact ⟨laws_eqOpS.out, laws_eqOpS.out_ok, (laws_eqOpS.den k _ _).trans hy⟩
    · cases hb
/-! ### laws_markOpS -/
def laws_markOpS.L2 {R : Type} (k : Nat) (X0 : Int → List T_impl_Op → Option R) (rec : Int → Int → List T_impl_Op → Option R) (x1 : Int) (x2 : Int) (xl0 : List T_impl_Op) : Option R :=
  (bif decide (x2 < (xl0.length : Int)) then (bif decide (0 ≤ x2) then (bif decide (x2 < (xl0.length : Int)) then (let l1 : List T_impl_Op := (xl0.set (x2).toNat (⟨x1, (rd_impl_Op xl0 x2).f1, (rd_impl_Op xl0 x2).f2, (rd_impl_Op xl0 x2).f3⟩ : T_impl_Op)); (bif decide (0 ≤ x2) then (bif decide (x2 < (l1.length : Int)) then (let l2 : List T_impl_Op := (l1.set (x2).toNat (⟨(rd_impl_Op l1 x2).f0, (w64 (x1 + (1 : Int))), (rd_impl_Op l1 x2).f2, (rd_impl_Op l1 x2).f3⟩ : T_impl_Op)); (bif decide (0 ≤ x2) then (bif decide (x2 < (l2.length : Int)) then (let l3 : List T_impl_Op := (l2.set (x2).toNat (⟨(rd_impl_Op l2 x2).f0, (rd_impl_Op l2 x2).f1, (w64 ((w64 (x1 + (1 : Int))) + (1 : Int))), (rd_impl_Op l2 x2).f3⟩ : T_impl_Op)); (bif decide (0 ≤ x2) then (bif decide (x2 < (l3.length : Int)) then (let l4 : List T_impl_Op := (l3.set (x2).toNat (⟨(rd_impl_Op l3 x2).f0, (rd_impl_Op l3 x2).f1, (rd_impl_Op l3 x2).f2, (w64 ((w64 ((w64 (x1 + (1 : Int))) + (1 : Int))) + (1 : Int)))⟩ : T_impl_Op)); (rec (w64 ((w64 ((w64 ((w64 (x1 + (1 : Int))) + (1 : Int))) + (1 : Int))) + (1 : Int))) (w64 (x2 + (1 : Int))) l4)) else none) else none)) else none) else none)) else none) else none)) else none) else none) else (X0 x1 xl0))
def laws_markOpS.l2 {R : Type} (k : Nat) (X0 : Int → List T_impl_Op → Option R) : Nat → Int → Int → List T_impl_Op → Option R
  | 0 => fun _ _ _ => none
  | n + 1 => laws_markOpS.L2 k X0 (laws_markOpS.l2 k X0 n)
def laws_markOpS.f (k : Nat) (a0 : List T_impl_Op) (a1 : Int) : Option (Int × List T_impl_Op) :=
  (laws_markOpS.l2 k (fun (y5 : Int) (y6 : List T_impl_Op) => some (y5, y6)) k a1 (0 : Int) a0)
def laws_markOpS.h2 (k : Nat) {R : Type} (K : Ex → St κ → Option R) (vs : List AV) (bs : List (Blk κ)) : Option R :=
  match vs, bs with
  | [.v (.sl 0), .v (.int .i64 x1), .v (.int .i64 x2)], [qb0] => (asO 1 true qb0).bind fun xl0 => laws_markOpS.l2 k (fun (z0 : Int) (zl0 : List T_impl_Op) => K (.exit 0) (stOf [(1, [])] [.v (.int .i64 z0)] [.rows 1 true zl0])) k x1 x2 xl0
  | _, _ => none
def laws_markOpS.Γ (k : Nat) : Ct κ := assoc []
def laws_markOpS.LH (k : Nat) : Nat → Option (LHi κ) := assoc [(2, ⟨1, [(0, [some 1]), (1, []), (5, [])], [(1, [])], @laws_markOpS.h2 k⟩)]
theorem laws_markOpS.hΓ (k : Nat) : ∀ f g, laws_markOpS.Γ k f = some g → CSound Try.prog f g := G_nil
theorem laws_markOpS.e2 {R : Type} (K : Ex → St κ → Option R) (k : Nat) : ∀ (n : Nat) (x1 : Int) (x2 : Int) (xl0 : List T_impl_Op), loopN 1 (Code.den ti (laws_markOpS.Γ k) (laws_markOpS.LH k) (loopAt Try.f17 0)) [(0, [some 1]), (1, []), (5, [])] [(1, [])] K n [.v (.sl 0), .v (.int .i64 x1), .v (.int .i64 x2)] [.rows 1 true xl0] = laws_markOpS.l2 k (fun (z0 : Int) (zl0 : List T_impl_Op) => K (.exit 0) (stOf [(1, [])] [.v (.int .i64 z0)] [.rows 1 true zl0])) n x1 x2 xl0
  | 0, _, _, _ => rfl
  | n + 1, x1, x2, xl0 => (show loopN 1 (Code.den ti (laws_markOpS.Γ k) (laws_markOpS.LH k) (loopAt Try.f17 0)) [(0, [some 1]), (1, []), (5, [])] [(1, [])] K (n + 1) [.v (.sl 0), .v (.int .i64 x1), .v (.int .i64 x2)] [.rows 1 true xl0] = laws_markOpS.L2 k (fun (z0 : Int) (zl0 : List T_impl_Op) => K (.exit 0) (stOf [(1, [])] [.v (.int .i64 z0)] [.rows 1 true zl0])) (fun (x1' : Int) (x2' : Int) (xl0' : List T_impl_Op) => loopN 1 (Code.den ti (laws_markOpS.Γ k) (laws_markOpS.LH k) (loopAt Try.f17 0)) [(0, [some 1]), (1, []), (5, [])] [(1, [])] K n [.v (.sl 0), .v (.int .i64 x1'), .v (.int .i64 x2')] [.rows 1 true xl0']) x1 x2 xl0 by kernel_rfl).trans (congrArg (fun rec => laws_markOpS.L2 k (fun (z0 : Int) (zl0 : List T_impl_Op) => K (.exit 0) (stOf [(1, [])] [.v (.int .i64 z0)] [.rows 1 true zl0])) rec x1 x2 xl0) (funext fun x1' => funext fun x2' => funext fun xl0' => laws_markOpS.e2 K k n x1' x2' xl0'))
theorem laws_markOpS.q2 (k : Nat) {R : Type} (K : Ex → St κ → Option R) (vs : List AV) (bs : List (Blk κ)) (r : R) (h : laws_markOpS.h2 k K vs bs = some r) : ∃ n, loopN 1 (Code.den ti (laws_markOpS.Γ k) (laws_markOpS.LH k) (loopAt Try.f17 0)) [(0, [some 1]), (1, []), (5, [])] [(1, [])] K n vs bs = some r := by
  unfold laws_markOpS.h2 at h
  split at h
  · obtain ⟨_, rfl, h_1⟩ := asO_bind h
    exact ⟨k, (laws_markOpS.e2 K k k _ _ _).trans h_1⟩
  · cases h
theorem laws_markOpS.lok (k : Nat) : LOK ti (laws_markOpS.Γ k) (laws_markOpS.LH k) 1 (loopsOf (bodyOf Try.f17)) :=
  (show loopsOf (bodyOf Try.f17) = [loopAt Try.f17 0] by kernel_rfl) ▸ (LOK_cons (g := ⟨1, [(0, [some 1]), (1, []), (5, [])], [(1, [])], @laws_markOpS.h2 k⟩) (by kernel_rfl) rfl (fun K vs xs r h => laws_markOpS.q2 k K vs xs r h) (LOK_nil))
def laws_markOpS.sig : List PSh := [.one (.rw 1), .one .sc]
def laws_markOpS.g (y : Int × List T_impl_Op) : Ret κ := ⟨.v (.int .i64 y.1), [.rows 1 true y.2], []⟩
def laws_markOpS.out (r : Ret κ) : Option (Int × List T_impl_Op) :=
  match r with
  | ⟨.v (.int .i64 z0), [q1], []⟩ => (asO 1 true q1).bind fun z1 => some (z0, z1)
  | _ => none
theorem laws_markOpS.out_ok (r : Ret κ) (y : Int × List T_impl_Op) (h : laws_markOpS.out r = some y) : r = laws_markOpS.g y := by
  unfold laws_markOpS.out at h
  split at h
  · obtain ⟨_, rfl, h_1⟩ := asO_bind h
    obtain rfl := Option.some.inj h_1
    rfl
  · cases h
def laws_markOpS.body (k : Nat) (vs : List AV) (bs : List (Blk κ)) : Option (Lf κ) :=
  match vs, bs with
  | [.v (.sl 0), .v (.int .i64 a1)], [qb0] => (asO 1 true qb0).bind fun a0 => some ⟨Int × List T_impl_Op, laws_markOpS.f k a0 a1, laws_markOpS.g⟩
  | _, _ => none
def laws_markOpS.C (k : Nat) : Nat → List AV → AP κ AV := contract laws_markOpS.sig (laws_markOpS.body k)
theorem laws_markOpS.den (k : Nat) (a0 : List T_impl_Op) (a1 : Int) : Code.den ti (laws_markOpS.Γ k) (laws_markOpS.LH k) (bodyOf Try.f17) (finK ti Try.f17.results.toList [] (flags laws_markOpS.sig).length (rwI (flags laws_markOpS.sig) 0) laws_markOpS.out) ⟨envOf (([.v (.sl 0), .v (.int .i64 a1)]).zipIdx.map fun q => (q.2, q.1)), hpOf [.rows 1 true a0], (flags laws_markOpS.sig).length⟩ = laws_markOpS.f k a0 a1 := by kernel_rfl
theorem laws_markOpS.ok (k : Nat) : CSound Try.prog 17 (laws_markOpS.C k) :=
  csound κ_ok mixed tok (laws_markOpS.hΓ k) (LH := laws_markOpS.LH k) (fn := Try.f17) (c := bodyOf Try.f17) Try.func17 rfl Try.call17 laws_markOpS.sig [] (laws_markOpS.body k) (by kernel_rfl) (laws_markOpS.lok k) (by decide) fun vs bs lf y hl hb hy => by
    unfold laws_markOpS.body at hb
    split at hb
    · obtain ⟨_, rfl, hb_1⟩ := asO_bind hb
      obtain rfl := Option.some.inj hb_1
      exact ⟨laws_markOpS.out, laws_markOpS.out_ok, (laws_markOpS.den k _ _).trans hy⟩
    · cases hb
/-! ### laws_markFlowS -/
def laws_markFlowS.L2 {R : Type} (k : Nat) (X0 : Int → List T_impl_Flow → Option R) (rec : Int → Int → List T_impl_Flow → Option R) (x1 : Int) (x2 : Int) (xl0 : List T_impl_Flow) : Option R :=
  (bif decide (x2 < (xl0.length : Int)) then (bif decide (0 ≤ x2) then (bif decide (x2 < (xl0.length : Int)) then (let l1 : List T_impl_Flow := (xl0.set (x2).toNat (⟨x1, (rd_impl_Flow xl0 x2).f1, (rd_impl_Flow xl0 x2).f2⟩ : T_impl_Flow)); (bif decide (0 ≤ x2) then (bif decide (x2 < (l1.length : Int)) then (let l2 : List T_impl_Flow := (l1.set (x2).toNat (⟨(rd_impl_Flow l1 x2).f0, (w64 (x1 + (1 : Int))), (rd_impl_Flow l1 x2).f2⟩ : T_impl_Flow)); (bif decide (0 ≤ x2) then (bif decide (x2 < (l2.length : Int)) then (let l3 : List T_impl_Flow := (l2.set (x2).toNat (⟨(rd_impl_Flow l2 x2).f0, (rd_impl_Flow l2 x2).f1, (w64 ((w64 (x1 + (1 : Int))) + (1 : Int)))⟩ : T_impl_Flow)); (rec (w64 ((w64 ((w64 (x1 + (1 : Int))) + (1 : Int))) + (1 : Int))) (w64 (x2 + (1 : Int))) l3)) else none) else none)) else none) else none)) else none) else none) else (X0 x1 xl0))
def laws_markFlowS.l2 {R : Type} (k : Nat) (X0 : Int → List T_impl_Flow → Option R) : Nat → Int → Int → List T_impl_Flow → Option R
  | 0 => fun _ _ _ => none
  | n + 1 => laws_markFlowS.L2 k X0 (laws_markFlowS.l2 k X0 n)
def laws_markFlowS.f (k : Nat) (a0 : List T_impl_Flow) (a1 : Int) : Option (Int × List T_impl_Flow) :=
  (laws_markFlowS.l2 k (fun (y4 : Int) (y5 : List T_impl_Flow) => some (y4, y5)) k a1 (0 : Int) a0)
def laws_markFlowS.h2 (k : Nat) {R : Type} (K : Ex → St κ → Option R) (vs : List AV) (bs : List (Blk κ)) : Option R :=
  match vs, bs with
  | [.v (.sl 0), .v (.int .i64 x1), .v (.int .i64 x2)], [qb0] => (asO 2 true qb0).bind fun xl0 => laws_markFlowS.l2 k (fun (z0 : Int) (zl0 : List T_impl_Flow) => K (.exit 0) (stOf [(1, [])] [.v (.int .i64 z0)] [.rows 2 true zl0])) k x1 x2 xl0
  | _, _ => none
def laws_markFlowS.Γ (k : Nat) : Ct κ := assoc []
def laws_markFlowS.LH (k : Nat) : Nat → Option (LHi κ) := assoc [(2, ⟨1, [(0, [some 2]), (1, []), (5, [])], [(1, [])], @laws_markFlowS.h2 k⟩)]
theorem laws_markFlowS.hΓ (k : Nat) : ∀ f g, laws_markFlowS.Γ k f = some g → CSound Try.prog f g := G_nil
theorem laws_markFlowS.e2 {R : Type} (K : Ex → St κ → Option R) (k : Nat) : ∀ (n : Nat) (x1 : Int) (x2 : Int) (xl0 : List T_impl_Flow), loopN 1 (Code.den ti (laws_markFlowS.Γ k) (laws_markFlowS.LH k) (loopAt Try.f31 0)) [(0, [some 2]), (1, []), (5, [])] [(1, [])] K n [.v (.sl 0), .v (.int .i64 x1), .v (.int .i64 x2)] [.rows 2 true xl0] = laws_markFlowS.l2 k (fun (z0 : Int) (zl0 : List T_impl_Flow) => K (.exit 0) (stOf [(1, [])] [.v (.int .i64 z0)] [.rows 2 true zl0])) n x1 x2 xl0
  | 0, _, _, _ => rfl
  | n + 1, x1, x2, xl0 => (show loopN 1 (Code.den ti (laws_markFlowS.Γ k) (laws_markFlowS.LH k) (loopAt Try.f31 0)) [(0, [some 2]), (1, []), (5, [])] [(1, [])] K (n + 1) [.v (.sl 0), .v (.int .i64 x1), .v (.int .i64 x2)] [.rows 2 true xl0] = laws_markFlowS.L2 k (fun (z0 : Int) (zl0 : List T_impl_Flow) => K (.exit 0) (stOf [(1, [])] [.v (.int .i64 z0)] [.rows 2 true zl0])) (fun (x1' : Int) (x2' : Int) (xl0' : List T_impl_Flow) => loopN 1 (Code.den ti (laws_markFlowS.Γ k) (laws_markFlowS.LH k) (loopAt Try.f31 0)) [(0, [some 2]), (1, []), (5, [])] [(1, [])] K n [.v (.sl 0), .v (.int .i64 x1'), .v (.int .i64 x2')] [.rows 2 true xl0']) x1 x2 xl0 by kernel_rfl).trans (congrArg (fun rec => laws_markFlowS.L2 k (fun (z0 : Int) (zl0 : List T_impl_Flow) => K (.exit 0) (stOf [(1, [])] [.v (.int .i64 z0)] [.rows 2 true zl0])) rec x1 x2 xl0) (funext fun x1' => funext fun x2' => funext fun xl0' => laws_markFlowS.e2 K k n x1' x2' xl0'))
theorem laws_markFlowS.q2 (k : Nat) {R : Type} (K : Ex → St κ → Option R) (vs : List AV) (bs : List (Blk κ)) (r : R) (h : laws_markFlowS.h2 k K vs bs = some r) : ∃ n, loopN 1 (Code.den ti (laws_markFlowS.Γ k) (laws_markFlowS.LH k) (loopAt Try.f31 0)) [(0, [some 2]), (1, []), (5, [])] [(1, [])] K n vs bs = some r := by
  unfold laws_markFlowS.h2 at h
  split at h
  · obtain ⟨_, rfl, h_1⟩ := asO_bind h
    exact ⟨k, (laws_markFlowS.e2 K k k _ _ _).trans h_1⟩
  · cases h
theorem laws_markFlowS.lok (k : Nat) : LOK ti (laws_markFlowS.Γ k) (laws_markFlowS.LH k) 1 (loopsOf (bodyOf Try.f31)) :=
  (show loopsOf (bodyOf Try.f31) = [loopAt Try.f31 0] by kernel_rfl) ▸ (LOK_cons (g := ⟨1, [(0, [some 2]), (1, []), (5, [])], [(1, [])], @laws_markFlowS.h2 k⟩) (by kernel_rfl) rfl (fun K vs xs r h => laws_markFlowS.q2 k K vs xs r h) (LOK_nil))
def laws_markFlowS.sig : List PSh := [.one (.rw 2), .one .sc]
def laws_markFlowS.g (y : Int × List T_impl_Flow) : Ret κ := ⟨.v (.int .i64 y.1), [.rows 2 true y.2], []⟩
def laws_markFlowS.out (r : Ret κ) : Option (Int × List T_impl_Flow) :=
  match r with
  | ⟨.v (.int .i64 z0), [q1], []⟩ => (asO 2 true q1).bind fun z1 => some (z0, z1)
  | _ => none
theorem laws_markFlowS.out_ok (r : Ret κ) (y : Int × List T_impl_Flow) (h : laws_markFlowS.out r = some y) : r = laws_markFlowS.g y := by
  unfold laws_markFlowS.out at h
  split at h
  · obtain ⟨_, rfl, h_1⟩ := asO_bind h
    obtain rfl := Option.some.inj h_1
    rfl
  · cases h
def laws_markFlowS.body (k : Nat) (vs : List AV) (bs : List (Blk κ)) : Option (Lf κ) :=
  match vs, bs with
  | [.v (.sl 0), .v (.int .i64 a1)], [qb0] => (asO 2 true qb0).bind fun a0 => some ⟨Int × List T_impl_Flow, laws_markFlowS.f k a0 a1, laws_markFlowS.g⟩
  | _, _ => none
def laws_markFlowS.C (k : Nat) : Nat → List AV → AP κ AV := contract laws_markFlowS.sig (laws_markFlowS.body k)
theorem laws_markFlowS.den (k : Nat) (a0 : List T_impl_Flow) (a1 : Int) : Code.den ti (laws_markFlowS.Γ k) (laws_markFlowS.LH k) (bodyOf Try.f31) (finK ti Try.f31.results.toList [] (flags laws_markFlowS.sig).length (rwI (flags laws_markFlowS.sig) 0) laws_markFlowS.out) ⟨envOf (([.v (.sl 0), .v (.int .i64 a1)]).zipIdx.map fun q => (q.2, q.1)), hpOf [.rows 2 true a0], (flags laws_markFlowS.sig).length⟩ = laws_markFlowS.f k a0 a1 := by kernel_rfl
theorem laws_markFlowS.ok (k : Nat) : CSound Try.prog 31 (laws_markFlowS.C k) :=
  csound κ_ok mixed tok (laws_markFlowS.hΓ k) (LH := laws_markFlowS.LH k) (fn := Try.f31) (c := bodyOf Try.f31) Try.func31 rfl Try.call31 laws_markFlowS.sig [] (laws_markFlowS.body k) (by kernel_rfl) (laws_markFlowS.lok k) (by decide) fun vs bs lf y hl hb hy => by
    unfold laws_markFlowS.body at hb
    split at hb
    · obtain ⟨_, rfl, hb_1⟩ := asO_bind hb
      obtain rfl := Option.some.inj hb_1
      exact ⟨laws_markFlowS.out, laws_markFlowS.out_ok, (laws_markFlowS.den k _ _).trans hy⟩
    · cases hb
/-! ### laws_heldFlowS -/
def laws_heldFlowS.L2 {R : Type} (k : Nat) (xl0 : List T_impl_Flow) (X0 : Int → Int → Option R) (X1 : Int → Option R) (rec : Int → Int → Option R) (x1 : Int) (x2 : Int) : Option R :=
  (bif decide (x2 < (xl0.length : Int)) then (bif decide (0 ≤ x2) then (bif decide (x2 < (xl0.length : Int)) then (bif ((rd_impl_Flow xl0 x2).f0 != x1) then (X0 x1 (-1 : Int)) else (bif decide (0 ≤ x2) then (bif decide (x2 < (xl0.length : Int)) then (bif ((rd_impl_Flow xl0 x2).f1 != (w64 (x1 + (1 : Int)))) then (X0 (w64 (x1 + (1 : Int))) (-1 : Int)) else (bif decide (0 ≤ x2) then (bif decide (x2 < (xl0.length : Int)) then (bif ((rd_impl_Flow xl0 x2).f2 != (w64 ((w64 (x1 + (1 : Int))) + (1 : Int)))) then (X0 (w64 ((w64 (x1 + (1 : Int))) + (1 : Int))) (-1 : Int)) else (rec (w64 ((w64 ((w64 (x1 + (1 : Int))) + (1 : Int))) + (1 : Int))) (w64 (x2 + (1 : Int))))) else none) else none)) else none) else none)) else none) else none) else (X1 x1))
def laws_heldFlowS.l2 {R : Type} (k : Nat) (xl0 : List T_impl_Flow) (X0 : Int → Int → Option R) (X1 : Int → Option R) : Nat → Int → Int → Option R
  | 0 => fun _ _ => none
  | n + 1 => laws_heldFlowS.L2 k xl0 X0 X1 (laws_heldFlowS.l2 k xl0 X0 X1 n)
def laws_heldFlowS.f (k : Nat) (a0 : List T_impl_Flow) (a1 : Int) : Option Int :=
  (laws_heldFlowS.l2 k a0 (fun (y1 : Int) (y2 : Int) => some y2) (fun (y3 : Int) => some y3) k a1 (0 : Int))
def laws_heldFlowS.h2 (k : Nat) {R : Type} (K : Ex → St κ → Option R) (vs : List AV) (bs : List (Blk κ)) : Option R :=
  match vs, bs with
  | [.v (.sl 0), .v (.int .i64 x1), .v (.int .i64 x2)], [qb0] => (asO 2 false qb0).bind fun xl0 => laws_heldFlowS.l2 k xl0 (fun (z0 : Int) (z1 : Int) => K .ret (stOf [(1, []), (4, [])] [.v (.int .i64 z0), .v (.int .i64 z1)] [.rows 2 false xl0])) (fun (z0 : Int) => K (.exit 0) (stOf [(1, []), (4, [])] [.v (.int .i64 z0), .v .any] [.rows 2 false xl0])) k x1 x2
  | _, _ => none
def laws_heldFlowS.Γ (k : Nat) : Ct κ := assoc []
def laws_heldFlowS.LH (k : Nat) : Nat → Option (LHi κ) := assoc [(2, ⟨1, [(0, [some 2]), (1, []), (5, [])], [(1, []), (4, [])], @laws_heldFlowS.h2 k⟩)]
theorem laws_heldFlowS.hΓ (k : Nat) : ∀ f g, laws_heldFlowS.Γ k f = some g → CSound Try.prog f g := G_nil
theorem laws_heldFlowS.e2 {R : Type} (K : Ex → St κ → Option R) (k : Nat) (xl0 : List T_impl_Flow) : ∀ (n : Nat) (x1 : Int) (x2 : Int), loopN 1 (Code.den ti (laws_heldFlowS.Γ k) (laws_heldFlowS.LH k) (loopAt Try.f32 0)) [(0, [some 2]), (1, []), (5, [])] [(1, []), (4, [])] K n [.v (.sl 0), .v (.int .i64 x1), .v (.int .i64 x2)] [.rows 2 false xl0] = laws_heldFlowS.l2 k xl0 (fun (z0 : Int) (z1 : Int) => K .ret (stOf [(1, []), (4, [])] [.v (.int .i64 z0), .v (.int .i64 z1)] [.rows 2 false xl0])) (fun (z0 : Int) => K (.exit 0) (stOf [(1, []), (4, [])] [.v (.int .i64 z0), .v .any] [.rows 2 false xl0])) n x1 x2
  | 0, _, _ => rfl
  | n + 1, x1, x2 => (show loopN 1 (Code.den ti (laws_heldFlowS.Γ k) (laws_heldFlowS.LH k) (loopAt Try.f32 0)) [(0, [some 2]), (1, []), (5, [])] [(1, []), (4, [])] K (n + 1) [.v (.sl 0), .v (.int .i64 x1), .v (.int .i64 x2)] [.rows 2 false xl0] = laws_heldFlowS.L2 k xl0 (fun (z0 : Int) (z1 : Int) => K .ret (stOf [(1, []), (4, [])] [.v (.int .i64 z0), .v (.int .i64 z1)] [.rows 2 false xl0])) (fun (z0 : Int) => K (.exit 0) (stOf [(1, []), (4, [])] [.v (.int .i64 z0), .v .any] [.rows 2 false xl0])) (fun (x1' : Int) (x2' : Int) => loopN 1 (Code.den ti (laws_heldFlowS.Γ k) (laws_heldFlowS.LH k) (loopAt Try.f32 0)) [(0, [some 2]), (1, []), (5, [])] [(1, []), (4, [])] K n [.v (.sl 0), .v (.int .i64 x1'), .v (.int .i64 x2')] [.rows 2 false xl0]) x1 x2 by kernel_rfl).trans (congrArg (fun rec => laws_heldFlowS.L2 k xl0 (fun (z0 : Int) (z1 : Int) => K .ret (stOf [(1, []), (4, [])] [.v (.int .i64 z0), .v (.int .i64 z1)] [.rows 2 false xl0])) (fun (z0 : Int) => K (.exit 0) (stOf [(1, []), (4, [])] [.v (.int .i64 z0), .v .any] [.rows 2 false xl0])) rec x1 x2) (funext fun x1' => funext fun x2' => laws_heldFlowS.e2 K k xl0 n x1' x2'))
theorem laws_heldFlowS.q2 (k : Nat) {R : Type} (K : Ex → St κ → Option R) (vs : List AV) (bs : List (Blk κ)) (r : R) (h : laws_heldFlowS.h2 k K vs bs = some r) : ∃ n, loopN 1 (Code.den ti (laws_heldFlowS.Γ k) (laws_heldFlowS.LH k) (loopAt Try.f32 0)) [(0, [some 2]), (1, []), (5, [])] [(1, []), (4, [])] K n vs bs = some r := by
  unfold laws_heldFlowS.h2 at h
  split at h
  · obtain ⟨_, rfl, h_1⟩ := asO_bind h
    exact ⟨k, (laws_heldFlowS.e2 K k _ k _ _).trans h_1⟩
  · cases h
theorem laws_heldFlowS.lok (k : Nat) : LOK ti (laws_heldFlowS.Γ k) (laws_heldFlowS.LH k) 1 (loopsOf (bodyOf Try.f32)) :=
  (show loopsOf (bodyOf Try.f32) = [loopAt Try.f32 0] by kernel_rfl) ▸ (LOK_cons (g := ⟨1, [(0, [some 2]), (1, []), (5, [])], [(1, []), (4, [])], @laws_heldFlowS.h2 k⟩) (by kernel_rfl) rfl (fun K vs xs r h => laws_heldFlowS.q2 k K vs xs r h) (LOK_nil))
def laws_heldFlowS.sig : List PSh := [.one (.ro 2), .one .sc]
def laws_heldFlowS.g (y : Int) : Ret κ := ⟨.v (.int .i64 y), [], []⟩
def laws_heldFlowS.out (r : Ret κ) : Option Int :=
  match r with
  | ⟨.v (.int .i64 z0), [], []⟩ => some (z0)
  | _ => none
theorem laws_heldFlowS.out_ok (r : Ret κ) (y : Int) (h : laws_heldFlowS.out r = some y) : r = laws_heldFlowS.g y := by
  unfold laws_heldFlowS.out at h
  split at h
  · obtain rfl := Option.some.inj h
    rfl
  · cases h
def laws_heldFlowS.body (k : Nat) (vs : List AV) (bs : List (Blk κ)) : Option (Lf κ) :=
  match vs, bs with
  | [.v (.sl 0), .v (.int .i64 a1)], [qb0] => (asO 2 false qb0).bind fun a0 => some ⟨Int, laws_heldFlowS.f k a0 a1, laws_heldFlowS.g⟩
  | _, _ => none
def laws_heldFlowS.C (k : Nat) : Nat → List AV → AP κ AV := contract laws_heldFlowS.sig (laws_heldFlowS.body k)
theorem laws_heldFlowS.den (k : Nat) (a0 : List T_impl_Flow) (a1 : Int) : Code.den ti (laws_heldFlowS.Γ k) (laws_heldFlowS.LH k) (bodyOf Try.f32) (finK ti Try.f32.results.toList [] (flags laws_heldFlowS.sig).length (rwI (flags laws_heldFlowS.sig) 0) laws_heldFlowS.out) ⟨envOf (([.v (.sl 0), .v (.int .i64 a1)]).zipIdx.map fun q => (q.2, q.1)), hpOf [.rows 2 false a0], (flags laws_heldFlowS.sig).length⟩ = laws_heldFlowS.f k a0 a1 := by kernel_rfl
theorem laws_heldFlowS.ok (k : Nat) : CSound Try.prog 32 (laws_heldFlowS.C k) :=
  csound κ_ok mixed tok (laws_heldFlowS.hΓ k) (LH := laws_heldFlowS.LH k) (fn := Try.f32) (c := bodyOf Try.f32) Try.func32 rfl Try.call32 laws_heldFlowS.sig [] (laws_heldFlowS.body k) (by kernel_rfl) (laws_heldFlowS.lok k) (by decide) fun vs bs lf y hl hb hy => by
    unfold laws_heldFlowS.body at hb
    split at hb
    · obtain ⟨_, rfl, hb_1⟩ := asO_bind hb
      obtain rfl := Option.some.inj hb_1
      exact ⟨laws_heldFlowS.out, laws_heldFlowS.out_ok, (laws_heldFlowS.den k _ _).trans hy⟩
    · cases hb
/-! ### laws_FnExactNeedsFlows -/
def laws_FnExactNeedsFlows.f (k : Nat) (a0 : List T_laws_Op) (a1 : Int) : Option Bool :=
  (laws_szOpS.f k a0 (1048576 : Int)).bind fun t1 => (bif decide (t1 < (0 : Int)) then some true else (laws_toOpS.f k a0).bind fun t2 => (spec_NeedsFlows.f k t2 a1).bind fun t3 => (laws_toOpS.f k a0).bind fun t4 => (impl_NeedsFlows.f k t4 a1).bind fun t5 => (laws_eqFlowS.f k t5 t3).bind fun t6 => (bif !t6 then some false else (laws_toOpS.f k a0).bind fun t7 => (laws_eqOpS.f k t4 t7).bind fun t8 => (bif !t8 then some false else (laws_markOpS.f k t4 (1 : Int)).bind fun t9 => (bif decide (t9.1 < (0 : Int)) then some false else (laws_eqFlowS.f k t5 t3).bind fun t10 => (bif !t10 then some false else (laws_markFlowS.f k t5 (1 : Int)).bind fun t11 => (laws_heldFlowS.f k t11.2 (1 : Int)).bind fun t12 => (bif decide (t12 < (0 : Int)) then some false else (bif (t12 != t11.1) then some false else (laws_toOpS.f k a0).bind fun t13 => (impl_NeedsFlows.f k t13 a1).bind fun t14 => (laws_eqFlowS.f k t14 t3).bind fun t15 => (bif !t15 then some false else (laws_heldFlowS.f k t11.2 (1 : Int)).bind fun t16 => (bif decide (t16 < (0 : Int)) then some false else (bif (t16 != t11.1) then some false else some true))))))))))
def laws_FnExactNeedsFlows.Γ (k : Nat) : Ct κ := assoc [(11, laws_szOpS.C k), (13, laws_toOpS.C k), (29, spec_NeedsFlows.C k), (25, impl_NeedsFlows.C k), (30, laws_eqFlowS.C k), (16, laws_eqOpS.C k), (17, laws_markOpS.C k), (31, laws_markFlowS.C k), (32, laws_heldFlowS.C k)]
def laws_FnExactNeedsFlows.LH (k : Nat) : Nat → Option (LHi κ) := assoc []
theorem laws_FnExactNeedsFlows.hΓ (k : Nat) : ∀ f g, laws_FnExactNeedsFlows.Γ k f = some g → CSound Try.prog f g := G_cons (laws_szOpS.ok k) (G_cons (laws_toOpS.ok k) (G_cons (spec_NeedsFlows.ok k) (G_cons (impl_NeedsFlows.ok k) (G_cons (laws_eqFlowS.ok k) (G_cons (laws_eqOpS.ok k) (G_cons (laws_markOpS.ok k) (G_cons (laws_markFlowS.ok k) (G_cons (laws_heldFlowS.ok k) G_nil))))))))
theorem laws_FnExactNeedsFlows.lok (k : Nat) : LOK ti (laws_FnExactNeedsFlows.Γ k) (laws_FnExactNeedsFlows.LH k) 1 (loopsOf (bodyOf Try.f5)) :=
  (show loopsOf (bodyOf Try.f5) = [] by kernel_rfl) ▸ LOK_nil
def laws_FnExactNeedsFlows.sig : List PSh := [.one (.ro 0), .one .sc]
def laws_FnExactNeedsFlows.g (y : Bool) : Ret κ := ⟨.v (.bool y), [], []⟩
def laws_FnExactNeedsFlows.out (r : Ret κ) : Option Bool :=
  match r with
  | ⟨.v (.bool z0), [], []⟩ => some (z0)
  | _ => none
theorem laws_FnExactNeedsFlows.out_ok (r : Ret κ) (y : Bool) (h : laws_FnExactNeedsFlows.out r = some y) : r = laws_FnExactNeedsFlows.g y := by
  unfold laws_FnExactNeedsFlows.out at h
  split at h
  · obtain rfl := Option.some.inj h
    rfl
  · cases h
def laws_FnExactNeedsFlows.body (k : Nat) (vs : List AV) (bs : List (Blk κ)) : Option (Lf κ) :=
  match vs, bs with
  | [.v (.sl 0), .v (.int .i64 a1)], [qb0] => (asO 0 false qb0).bind fun a0 => some ⟨Bool, laws_FnExactNeedsFlows.f k a0 a1, laws_FnExactNeedsFlows.g⟩
  | _, _ => none
def laws_FnExactNeedsFlows.C (k : Nat) : Nat → List AV → AP κ AV := contract laws_FnExactNeedsFlows.sig (laws_FnExactNeedsFlows.body k)
theorem laws_FnExactNeedsFlows.den (k : Nat) (a0 : List T_laws_Op) (a1 : Int) : Code.den ti (laws_FnExactNeedsFlows.Γ k) (laws_FnExactNeedsFlows.LH k) (bodyOf Try.f5) (finK ti Try.f5.results.toList [] (flags laws_FnExactNeedsFlows.sig).length (rwI (flags laws_FnExactNeedsFlows.sig) 0) laws_FnExactNeedsFlows.out) ⟨envOf (([.v (.sl 0), .v (.int .i64 a1)]).zipIdx.map fun q => (q.2, q.1)), hpOf [.rows 0 false a0], (flags laws_FnExactNeedsFlows.sig).length⟩ = laws_FnExactNeedsFlows.f k a0 a1 := by kernel_rfl
theorem laws_FnExactNeedsFlows.ok (k : Nat) : CSound Try.prog 5 (laws_FnExactNeedsFlows.C k) :=
  csound κ_ok mixed tok (laws_FnExactNeedsFlows.hΓ k) (LH := laws_FnExactNeedsFlows.LH k) (fn := Try.f5) (c := bodyOf Try.f5) Try.func5 rfl Try.call5 laws_FnExactNeedsFlows.sig [] (laws_FnExactNeedsFlows.body k) (by kernel_rfl) (laws_FnExactNeedsFlows.lok k) (by decide) fun vs bs lf y hl hb hy => by
    unfold laws_FnExactNeedsFlows.body at hb
    split at hb
    · obtain ⟨_, rfl, hb_1⟩ := asO_bind hb
      obtain rfl := Option.some.inj hb_1
      exact ⟨laws_FnExactNeedsFlows.out, laws_FnExactNeedsFlows.out_ok, (laws_FnExactNeedsFlows.den k _ _).trans hy⟩
    · cases hb
end Go.Proofs.Ythjdecnheaifkaa.PFnExactNeedsFlows
