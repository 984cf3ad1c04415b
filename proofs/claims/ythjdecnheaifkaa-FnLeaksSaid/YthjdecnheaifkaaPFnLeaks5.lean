/- What the functions that the law FnLeaks reaches come to; no conditions. -/
import Derived.Test.YthjdecnheaifkaaPFnLeaks4
set_option linter.unusedVariables false
set_option maxRecDepth 100000
namespace Go.Proofs.Ythjdecnheaifkaa.PFnLeaks
open Go Go.Eng Go.Proofs
/-! ### spec_NeedsFlows -/
def spec_NeedsFlows.L10 {R : Type} (k : Nat) (x1 : Int) (x5 : Int) (x7 : Bool) (xl0 : List T_impl_Op) (xl2 : List Int) (xl3 : List Int) (xc4_0 : Int) (xc4_1 : Int) (xc4_2 : Int) (xl5 : List Int) (X0 : List T_impl_Flow → Option R) (rec : Int → List T_impl_Flow → Option R) (x9 : Int) (xl1 : List T_impl_Flow) : Option R :=
  (bif decide (x9 < (xl5.length : Int)) then (bif x7 then (bif decide (0 ≤ x9) then (bif decide (x9 < (xl5.length : Int)) then (bif decide (0 ≤ x9) then (bif decide (x9 < (xl5.length : Int)) then (bif ((rd_i64 xl5 x9) != xc4_0) then (spec_l20Has.f k xl1 x1 (rd_i64 xl5 x9) xc4_0).bind fun t6 => (bif !t6 then (bif decide ((xl1.length + ([(⟨x1, (rd_i64 xl5 x9), xc4_0⟩ : T_impl_Flow)] : List T_impl_Flow).length) * 24 ≤ cap48) then (let l7 : List T_impl_Flow := (xl1 ++ ([(⟨x1, (rd_i64 xl5 x9), xc4_0⟩ : T_impl_Flow)] : List T_impl_Flow)); (rec (w64 (x9 + (1 : Int))) l7)) else none) else (rec (w64 (x9 + (1 : Int))) xl1)) else (rec (w64 (x9 + (1 : Int))) xl1)) else none) else none) else none) else none) else (X0 xl1)) else (X0 xl1))
def spec_NeedsFlows.l10 {R : Type} (k : Nat) (x1 : Int) (x5 : Int) (x7 : Bool) (xl0 : List T_impl_Op) (xl2 : List Int) (xl3 : List Int) (xc4_0 : Int) (xc4_1 : Int) (xc4_2 : Int) (xl5 : List Int) (X0 : List T_impl_Flow → Option R) : Nat → Int → List T_impl_Flow → Option R
  | 0 => fun _ _ => none
  | n + 1 => spec_NeedsFlows.L10 k x1 x5 x7 xl0 xl2 xl3 xc4_0 xc4_1 xc4_2 xl5 X0 (spec_NeedsFlows.l10 k x1 x5 x7 xl0 xl2 xl3 xc4_0 xc4_1 xc4_2 xl5 X0 n)
def spec_NeedsFlows.L5 {R : Type} (k : Nat) (x1 : Int) (xl0 : List T_impl_Op) (X0 : List T_impl_Flow → Option R) (rec : Int → List T_impl_Flow → List Int → List Int → Option R) (x5 : Int) (xl1 : List T_impl_Flow) (xl2 : List Int) (xl3 : List Int) : Option R :=
  (bif decide (x5 < (xl0.length : Int)) then (spec_AreOps.f k xl0).bind fun t3 => (bif t3 then (bif decide (0 ≤ x5) then (bif decide (x5 < (xl0.length : Int)) then (spec_l21Step.f k ((rd_impl_Op xl0 x5).f0) ((rd_impl_Op xl0 x5).f1) ((rd_impl_Op xl0 x5).f2) ((rd_impl_Op xl0 x5).f3) ([] : List Int) xl2 xl3).bind fun t4 => (spec_OwnersIn.f k t4.2.2.1).bind fun t5 => (spec_NeedsFlows.l10 k x1 x5 t4.2.2.2.1 xl0 t4.2.2.2.2.1 t4.2.2.2.2.2 t4.1 t4.2.1 t4.2.2.1 t5 (fun (y6 : List T_impl_Flow) => (rec (w64 (x5 + (1 : Int))) y6 t4.2.2.2.2.1 t4.2.2.2.2.2)) k (0 : Int) xl1) else none) else none) else (X0 xl1)) else (X0 xl1))
def spec_NeedsFlows.l5 {R : Type} (k : Nat) (x1 : Int) (xl0 : List T_impl_Op) (X0 : List T_impl_Flow → Option R) : Nat → Int → List T_impl_Flow → List Int → List Int → Option R
  | 0 => fun _ _ _ _ => none
  | n + 1 => spec_NeedsFlows.L5 k x1 xl0 X0 (spec_NeedsFlows.l5 k x1 xl0 X0 n)
def spec_NeedsFlows.f (k : Nat) (a0 : List T_impl_Op) (a1 : Int) : Option (List T_impl_Flow) :=
  (spec_l21Zeros.f k).bind fun t1 => (spec_l21Zeros.f k).bind fun t2 => (spec_NeedsFlows.l5 k a1 a0 (fun (y7 : List T_impl_Flow) => some y7) k (0 : Int) ([] : List T_impl_Flow) t1 t2)
def spec_NeedsFlows.h10 (k : Nat) {R : Type} (K : Ex → St κ → Option R) (vs : List AV) (bs : List (Blk κ)) : Option R :=
  match vs, bs with
  | [.v (.sl 0), .v (.int .i64 x1), .v (.sl 1), .v (.sl 2), .v (.sl 3), .v (.int .i64 x5), .v (.ptr 4 0 0), .v (.bool x7), .v (.sl 5), .v (.int .i64 x9)], [qb0, qb1, qb2, qb3, .cells 44 [.int .i64 xc4_0, .int .i64 xc4_1, .int .i64 xc4_2], qb5] => (asO 1 false qb0).bind fun xl0 => (asO 3 true qb1).bind fun xl1 => (asO 2 true qb2).bind fun xl2 => (asO 2 true qb3).bind fun xl3 => (asO 2 true qb5).bind fun xl5 => spec_NeedsFlows.l10 k x1 x5 x7 xl0 xl2 xl3 xc4_0 xc4_1 xc4_2 xl5 (fun (zl1 : List T_impl_Flow) => K (.exit 2) (stOf [(0, [some 1]), (1, []), (5, [some 3]), (6, [some 2]), (7, [some 2]), (8, [])] [.v (.sl 0), .v (.int .i64 x1), .v (.sl 1), .v (.sl 2), .v (.sl 3), .v (.int .i64 x5)] [.rows 1 false xl0, .rows 3 true zl1, .rows 2 true xl2, .rows 2 true xl3])) k x9 xl1
  | _, _ => none
def spec_NeedsFlows.h5 (k : Nat) {R : Type} (K : Ex → St κ → Option R) (vs : List AV) (bs : List (Blk κ)) : Option R :=
  match vs, bs with
  | [.v (.sl 0), .v (.int .i64 x1), .v (.sl 1), .v (.sl 2), .v (.sl 3), .v (.int .i64 x5)], [qb0, qb1, qb2, qb3] => (asO 1 false qb0).bind fun xl0 => (asO 3 true qb1).bind fun xl1 => (asO 2 true qb2).bind fun xl2 => (asO 2 true qb3).bind fun xl3 => spec_NeedsFlows.l5 k x1 xl0 (fun (zl1 : List T_impl_Flow) => K (.exit 0) (stOf [(5, [some 3])] [.v (.sl 1)] [.rows 1 false xl0, .rows 3 true zl1])) k x5 xl1 xl2 xl3
  | _, _ => none
def spec_NeedsFlows.Γ (k : Nat) : Ct κ := assoc [(54, spec_l21Zeros.C k), (24, spec_AreOps.C k), (55, spec_l21Step.C k), (71, spec_OwnersIn.C k), (72, spec_l20Has.C k)]
def spec_NeedsFlows.LH (k : Nat) : Nat → Option (LHi κ) := assoc [(10, ⟨1, [(0, [some 1]), (1, []), (5, [some 3]), (6, [some 2]), (7, [some 2]), (8, []), (9, []), (10, []), (11, [some 2]), (12, [])], [(0, [some 1]), (1, []), (5, [some 3]), (6, [some 2]), (7, [some 2]), (8, [])], @spec_NeedsFlows.h10 k⟩), (5, ⟨1, [(0, [some 1]), (1, []), (5, [some 3]), (6, [some 2]), (7, [some 2]), (8, [])], [(5, [some 3])], @spec_NeedsFlows.h5 k⟩)]
theorem spec_NeedsFlows.hΓ (k : Nat) : ∀ f g, spec_NeedsFlows.Γ k f = some g → CSound Try.prog f g := G_cons (spec_l21Zeros.ok k) (G_cons (spec_AreOps.ok k) (G_cons (spec_l21Step.ok k) (G_cons (spec_OwnersIn.ok k) (G_cons (spec_l20Has.ok k) G_nil))))
theorem spec_NeedsFlows.e10 {R : Type} (K : Ex → St κ → Option R) (k : Nat) (x1 : Int) (x5 : Int) (x7 : Bool) (xl0 : List T_impl_Op) (xl2 : List Int) (xl3 : List Int) (xc4_0 : Int) (xc4_1 : Int) (xc4_2 : Int) (xl5 : List Int) : ∀ (n : Nat) (x9 : Int) (xl1 : List T_impl_Flow), loopN 1 (Code.den ti (spec_NeedsFlows.Γ k) (spec_NeedsFlows.LH k) (loopAt Try.f29 1)) [(0, [some 1]), (1, []), (5, [some 3]), (6, [some 2]), (7, [some 2]), (8, []), (9, []), (10, []), (11, [some 2]), (12, [])] [(0, [some 1]), (1, []), (5, [some 3]), (6, [some 2]), (7, [some 2]), (8, [])] K n [.v (.sl 0), .v (.int .i64 x1), .v (.sl 1), .v (.sl 2), .v (.sl 3), .v (.int .i64 x5), .v (.ptr 4 0 0), .v (.bool x7), .v (.sl 5), .v (.int .i64 x9)] [.rows 1 false xl0, .rows 3 true xl1, .rows 2 true xl2, .rows 2 true xl3, .cells 44 [.int .i64 xc4_0, .int .i64 xc4_1, .int .i64 xc4_2], .rows 2 true xl5] = spec_NeedsFlows.l10 k x1 x5 x7 xl0 xl2 xl3 xc4_0 xc4_1 xc4_2 xl5 (fun (zl1 : List T_impl_Flow) => K (.exit 2) (stOf [(0, [some 1]), (1, []), (5, [some 3]), (6, [some 2]), (7, [some 2]), (8, [])] [.v (.sl 0), .v (.int .i64 x1), .v (.sl 1), .v (.sl 2), .v (.sl 3), .v (.int .i64 x5)] [.rows 1 false xl0, .rows 3 true zl1, .rows 2 true xl2, .rows 2 true xl3])) n x9 xl1
  | 0, _, _ => rfl
  | n + 1, x9, xl1 => (show loopN 1 (Code.den ti (spec_NeedsFlows.Γ k) (spec_NeedsFlows.LH k) (loopAt Try.f29 1)) [(0, [some 1]), (1, []), (5, [some 3]), (6, [some 2]), (7, [some 2]), (8, []), (9, []), (10, []), (11, [some 2]), (12, [])] [(0, [some 1]), (1, []), (5, [some 3]), (6, [some 2]), (7, [some 2]), (8, [])] K (n + 1) [.v (.sl 0), .v (.int .i64 x1), .v (.sl 1), .v (.sl 2), .v (.sl 3), .v (.int .i64 x5), .v (.ptr 4 0 0), .v (.bool x7), .v (.sl 5), .v (.int .i64 x9)] [.rows 1 false xl0, .rows 3 true xl1, .rows 2 true xl2, .rows 2 true xl3, .cells 44 [.int .i64 xc4_0, .int .i64 xc4_1, .int .i64 xc4_2], .rows 2 true xl5] = spec_NeedsFlows.L10 k x1 x5 x7 xl0 xl2 xl3 xc4_0 xc4_1 xc4_2 xl5 (fun (zl1 : List T_impl_Flow) => K (.exit 2) (stOf [(0, [some 1]), (1, []), (5, [some 3]), (6, [some 2]), (7, [some 2]), (8, [])] [.v (.sl 0), .v (.int .i64 x1), .v (.sl 1), .v (.sl 2), .v (.sl 3), .v (.int .i64 x5)] [.rows 1 false xl0, .rows 3 true zl1, .rows 2 true xl2, .rows 2 true xl3])) (fun (x9' : Int) (xl1' : List T_impl_Flow) => loopN 1 (Code.den ti (spec_NeedsFlows.Γ k) (spec_NeedsFlows.LH k) (loopAt Try.f29 1)) [(0, [some 1]), (1, []), (5, [some 3]), (6, [some 2]), (7, [some 2]), (8, []), (9, []), (10, []), (11, [some 2]), (12, [])] [(0, [some 1]), (1, []), (5, [some 3]), (6, [some 2]), (7, [some 2]), (8, [])] K n [.v (.sl 0), .v (.int .i64 x1), .v (.sl 1), .v (.sl 2), .v (.sl 3), .v (.int .i64 x5), .v (.ptr 4 0 0), .v (.bool x7), .v (.sl 5), .v (.int .i64 x9')] [.rows 1 false xl0, .rows 3 true xl1', .rows 2 true xl2, .rows 2 true xl3, .cells 44 [.int .i64 xc4_0, .int .i64 xc4_1, .int .i64 xc4_2], .rows 2 true xl5]) x9 xl1 by kernel_rfl).trans (congrArg (fun rec => spec_NeedsFlows.L10 k x1 x5 x7 xl0 xl2 xl3 xc4_0 xc4_1 xc4_2 xl5 (fun (zl1 : List T_impl_Flow) => K (.exit 2) (stOf [(0, [some 1]), (1, []), (5, [some 3]), (6, [some 2]), (7, [some 2]), (8, [])] [.v (.sl 0), .v (.int .i64 x1), .v (.sl 1), .v (.sl 2), .v (.sl 3), .v (.int .i64 x5)] [.rows 1 false xl0, .rows 3 true zl1, .rows 2 true xl2, .rows 2 true xl3])) rec x9 xl1) (funext fun x9' => funext fun xl1' => spec_NeedsFlows.e10 K k x1 x5 x7 xl0 xl2 xl3 xc4_0 xc4_1 xc4_2 xl5 n x9' xl1'))
theorem spec_NeedsFlows.q10 (k : Nat) {R : Type} (K : Ex → St κ → Option R) (vs : List AV) (bs : List (Blk κ)) (r : R) (h : spec_NeedsFlows.h10 k K vs bs = some r) : ∃ n, loopN 1 (Code.den ti (spec_NeedsFlows.Γ k) (spec_NeedsFlows.LH k) (loopAt Try.f29 1)) [(0, [some 1]), (1, []), (5, [some 3]), (6, [some 2]), (7, [some 2]), (8, []), (9, []), (10, []), (11, [some 2]), (12, [])] [(0, [some 1]), (1, []), (5, [some 3]), (6, [some 2]), (7, [some 2]), (8, [])] K n vs bs = some r := by
  unfold spec_NeedsFlows.h10 at h
  split at h
  · obtain ⟨_, rfl, h_1⟩ := asO_bind h
    obtain ⟨_, rfl, h_2⟩ := asO_bind h_1
    obtain ⟨_, rfl, h_3⟩ := asO_bind h_2
    obtain ⟨_, rfl, h_4⟩ := asO_bind h_3
    obtain ⟨_, rfl, h_5⟩ := asO_bind h_4
    exact ⟨k, (spec_NeedsFlows.e10 K k _ _ _ _ _ _ _ _ _ _ k _ _).trans h_5⟩
  · cases h
theorem spec_NeedsFlows.e5 {R : Type} (K : Ex → St κ → Option R) (k : Nat) (x1 : Int) (xl0 : List T_impl_Op) : ∀ (n : Nat) (x5 : Int) (xl1 : List T_impl_Flow) (xl2 : List Int) (xl3 : List Int), loopN 1 (Code.den ti (spec_NeedsFlows.Γ k) (spec_NeedsFlows.LH k) (loopAt Try.f29 0)) [(0, [some 1]), (1, []), (5, [some 3]), (6, [some 2]), (7, [some 2]), (8, [])] [(5, [some 3])] K n [.v (.sl 0), .v (.int .i64 x1), .v (.sl 1), .v (.sl 2), .v (.sl 3), .v (.int .i64 x5)] [.rows 1 false xl0, .rows 3 true xl1, .rows 2 true xl2, .rows 2 true xl3] = spec_NeedsFlows.l5 k x1 xl0 (fun (zl1 : List T_impl_Flow) => K (.exit 0) (stOf [(5, [some 3])] [.v (.sl 1)] [.rows 1 false xl0, .rows 3 true zl1])) n x5 xl1 xl2 xl3
  | 0, _, _, _, _ => rfl
  | n + 1, x5, xl1, xl2, xl3 => (show loopN 1 (Code.den ti (spec_NeedsFlows.Γ k) (spec_NeedsFlows.LH k) (loopAt Try.f29 0)) [(0, [some 1]), (1, []), (5, [some 3]), (6, [some 2]), (7, [some 2]), (8, [])] [(5, [some 3])] K (n + 1) [.v (.sl 0), .v (.int .i64 x1), .v (.sl 1), .v (.sl 2), .v (.sl 3), .v (.int .i64 x5)] [.rows 1 false xl0, .rows 3 true xl1, .rows 2 true xl2, .rows 2 true xl3] = spec_NeedsFlows.L5 k x1 xl0 (fun (zl1 : List T_impl_Flow) => K (.exit 0) (stOf [(5, [some 3])] [.v (.sl 1)] [.rows 1 false xl0, .rows 3 true zl1])) (fun (x5' : Int) (xl1' : List T_impl_Flow) (xl2' : List Int) (xl3' : List Int) => loopN 1 (Code.den ti (spec_NeedsFlows.Γ k) (spec_NeedsFlows.LH k) (loopAt Try.f29 0)) [(0, [some 1]), (1, []), (5, [some 3]), (6, [some 2]), (7, [some 2]), (8, [])] [(5, [some 3])] K n [.v (.sl 0), .v (.int .i64 x1), .v (.sl 1), .v (.sl 2), .v (.sl 3), .v (.int .i64 x5')] [.rows 1 false xl0, .rows 3 true xl1', .rows 2 true xl2', .rows 2 true xl3']) x5 xl1 xl2 xl3 by kernel_rfl).trans (congrArg (fun rec => spec_NeedsFlows.L5 k x1 xl0 (fun (zl1 : List T_impl_Flow) => K (.exit 0) (stOf [(5, [some 3])] [.v (.sl 1)] [.rows 1 false xl0, .rows 3 true zl1])) rec x5 xl1 xl2 xl3) (funext fun x5' => funext fun xl1' => funext fun xl2' => funext fun xl3' => spec_NeedsFlows.e5 K k x1 xl0 n x5' xl1' xl2' xl3'))
theorem spec_NeedsFlows.q5 (k : Nat) {R : Type} (K : Ex → St κ → Option R) (vs : List AV) (bs : List (Blk κ)) (r : R) (h : spec_NeedsFlows.h5 k K vs bs = some r) : ∃ n, loopN 1 (Code.den ti (spec_NeedsFlows.Γ k) (spec_NeedsFlows.LH k) (loopAt Try.f29 0)) [(0, [some 1]), (1, []), (5, [some 3]), (6, [some 2]), (7, [some 2]), (8, [])] [(5, [some 3])] K n vs bs = some r := by
  unfold spec_NeedsFlows.h5 at h
  split at h
  · obtain ⟨_, rfl, h_1⟩ := asO_bind h
    obtain ⟨_, rfl, h_2⟩ := asO_bind h_1
    obtain ⟨_, rfl, h_3⟩ := asO_bind h_2
    obtain ⟨_, rfl, h_4⟩ := asO_bind h_3
    exact ⟨k, (spec_NeedsFlows.e5 K k _ _ k _ _ _ _).trans h_4⟩
  · cases h
theorem spec_NeedsFlows.lok (k : Nat) : LOK ti (spec_NeedsFlows.Γ k) (spec_NeedsFlows.LH k) 1 (loopsOf (bodyOf Try.f29)) :=
  (show loopsOf (bodyOf Try.f29) = [loopAt Try.f29 0, loopAt Try.f29 1] by kernel_rfl) ▸ (LOK_cons (g := ⟨1, [(0, [some 1]), (1, []), (5, [some 3]), (6, [some 2]), (7, [some 2]), (8, [])], [(5, [some 3])], @spec_NeedsFlows.h5 k⟩) (by kernel_rfl) rfl (fun K vs xs r h => spec_NeedsFlows.q5 k K vs xs r h) (LOK_cons (g := ⟨1, [(0, [some 1]), (1, []), (5, [some 3]), (6, [some 2]), (7, [some 2]), (8, []), (9, []), (10, []), (11, [some 2]), (12, [])], [(0, [some 1]), (1, []), (5, [some 3]), (6, [some 2]), (7, [some 2]), (8, [])], @spec_NeedsFlows.h10 k⟩) (by kernel_rfl) rfl (fun K vs xs r h => spec_NeedsFlows.q10 k K vs xs r h) (LOK_nil)))
def spec_NeedsFlows.sig : List PSh := [.one (.ro 1), .one .sc]
def spec_NeedsFlows.g (y : List T_impl_Flow) : Ret κ := ⟨.v (.sl 1), [], [.rows 3 true y]⟩
def spec_NeedsFlows.out (r : Ret κ) : Option (List T_impl_Flow) :=
  match r with
  | ⟨.v (.sl 1), [], [q0]⟩ => (asO 3 true q0).bind fun z0 => some (z0)
  | _ => none
theorem spec_NeedsFlows.out_ok (r : Ret κ) (y : List T_impl_Flow) (h : spec_NeedsFlows.out r = some y) : r = spec_NeedsFlows.g y := by
  unfold spec_NeedsFlows.out at h
  split at h
  · obtain ⟨_, rfl, h_1⟩ := asO_bind h
    obtain rfl := Option.some.inj h_1
    rfl
  · cases h
def spec_NeedsFlows.body (k : Nat) (vs : List AV) (bs : List (Blk κ)) : Option (Lf κ) :=
  match vs, bs with
  | [.v (.sl 0), .v (.int .i64 a1)], [qb0] => (asO 1 false qb0).bind fun a0 => some ⟨List T_impl_Flow, spec_NeedsFlows.f k a0 a1, spec_NeedsFlows.g⟩
  | _, _ => none
def spec_NeedsFlows.C (k : Nat) : Nat → List AV → AP κ AV := contract spec_NeedsFlows.sig (spec_NeedsFlows.body k)
theorem spec_NeedsFlows.den (k : Nat) (a0 : List T_impl_Op) (a1 : Int) : Code.den ti (spec_NeedsFlows.Γ k) (spec_NeedsFlows.LH k) (bodyOf Try.f29) (finK ti Try.f29.results.toList [(4, [some 3])] (flags spec_NeedsFlows.sig).length (rwI (flags spec_NeedsFlows.sig) 0) spec_NeedsFlows.out) ⟨envOf (([.v (.sl 0), .v (.int .i64 a1)]).zipIdx.map fun q => (q.2, q.1)), hpOf [.rows 1 false a0], (flags spec_NeedsFlows.sig).length⟩ = spec_NeedsFlows.f k a0 a1 := by kernel_rfl
theorem spec_NeedsFlows.ok (k : Nat) : CSound Try.prog 29 (spec_NeedsFlows.C k) :=
  csound κ_ok mixed tok (spec_NeedsFlows.hΓ k) (LH := spec_NeedsFlows.LH k) (fn := Try.f29) (c := bodyOf Try.f29) Try.func29 rfl Try.call29 spec_NeedsFlows.sig [(4, [some 3])] (spec_NeedsFlows.body k) (by kernel_rfl) (spec_NeedsFlows.lok k) (by decide) fun vs bs lf y hl hb hy => by
    unfold spec_NeedsFlows.body at hb
    split at hb
    · obtain ⟨_, rfl, hb_1⟩ := asO_bind hb
      obtain rfl := Option.some.inj hb_1
      exact ⟨spec_NeedsFlows.out, spec_NeedsFlows.out_ok, (spec_NeedsFlows.den k _ _).trans hy⟩
    · cases hb
/-! ### spec_DrawIsTightFor -/
def spec_DrawIsTightFor.f (k : Nat) (a0 : List Int) : Option (Int × List T_impl_Op × List T_impl_Flow) :=
  (spec_DrawRunOps.f k a0).bind fun t1 => (spec_l1New.f k a0).bind fun t2 => (spec_l1Once.f k a0 t2.1 t2.2 (3 : Int)).bind fun t3 => (bif t3.1 then (spec_NeedsFlows.f k t1.2.1 t1.1).bind fun t4 => some (t1.1, t1.2.1, t4) else some (t1.1, t1.2.1, t1.2.2.2))
def spec_DrawIsTightFor.Γ (k : Nat) : Ct κ := assoc [(21, spec_DrawRunOps.C k), (59, spec_l1New.C k), (83, spec_l1Once.C k), (29, spec_NeedsFlows.C k)]
def spec_DrawIsTightFor.LH (k : Nat) : Nat → Option (LHi κ) := assoc []
theorem spec_DrawIsTightFor.hΓ (k : Nat) : ∀ f g, spec_DrawIsTightFor.Γ k f = some g → CSound Try.prog f g := G_cons (spec_DrawRunOps.ok k) (G_cons (spec_l1New.ok k) (G_cons (spec_l1Once.ok k) (G_cons (spec_NeedsFlows.ok k) G_nil)))
theorem spec_DrawIsTightFor.lok (k : Nat) : LOK ti (spec_DrawIsTightFor.Γ k) (spec_DrawIsTightFor.LH k) 1 (loopsOf (bodyOf Try.f52)) :=
  (show loopsOf (bodyOf Try.f52) = [] by kernel_rfl) ▸ LOK_nil
def spec_DrawIsTightFor.sig : List PSh := [.one (.ro 0)]
def spec_DrawIsTightFor.g (y : Int × List T_impl_Op × List T_impl_Flow) : Ret κ := ⟨.tup [(false, [.sl 1]), (false, [.sl 2]), (false, [.int .i64 y.1])], [], [.rows 1 true y.2.1, .rows 3 true y.2.2]⟩
def spec_DrawIsTightFor.out (r : Ret κ) : Option (Int × List T_impl_Op × List T_impl_Flow) :=
  match r with
  | ⟨.tup [(false, [.sl 1]), (false, [.sl 2]), (false, [.int .i64 z0])], [], [q1, q2]⟩ => (asO 1 true q1).bind fun z1 => (asO 3 true q2).bind fun z2 => some (z0, z1, z2)
  | _ => none
theorem spec_DrawIsTightFor.out_ok (r : Ret κ) (y : Int × List T_impl_Op × List T_impl_Flow) (h : spec_DrawIsTightFor.out r = some y) : r = spec_DrawIsTightFor.g y := by
  unfold spec_DrawIsTightFor.out at h
  split at h
  · obtain ⟨_, rfl, h_1⟩ := asO_bind h
    obtain ⟨_, rfl, h_2⟩ := asO_bind h_1
    obtain rfl := Option.some.inj h_2
    rfl
  · cases h
def spec_DrawIsTightFor.body (k : Nat) (vs : List AV) (bs : List (Blk κ)) : Option (Lf κ) :=
  match vs, bs with
  | [.v (.sl 0)], [qb0] => (asO 0 false qb0).bind fun a0 => some ⟨Int × List T_impl_Op × List T_impl_Flow, spec_DrawIsTightFor.f k a0, spec_DrawIsTightFor.g⟩
  | _, _ => none
def spec_DrawIsTightFor.C (k : Nat) : Nat → List AV → AP κ AV := contract spec_DrawIsTightFor.sig (spec_DrawIsTightFor.body k)
theorem spec_DrawIsTightFor.den (k : Nat) (a0 : List Int) : Code.den ti (spec_DrawIsTightFor.Γ k) (spec_DrawIsTightFor.LH k) (bodyOf Try.f52) (finK ti Try.f52.results.toList [(2, [some 1]), (3, [some 3])] (flags spec_DrawIsTightFor.sig).length (rwI (flags spec_DrawIsTightFor.sig) 0) spec_DrawIsTightFor.out) ⟨envOf (([.v (.sl 0)]).zipIdx.map fun q => (q.2, q.1)), hpOf [.rows 0 false a0], (flags spec_DrawIsTightFor.sig).length⟩ = spec_DrawIsTightFor.f k a0 := by kernel_rfl
theorem spec_DrawIsTightFor.ok (k : Nat) : CSound Try.prog 52 (spec_DrawIsTightFor.C k) :=
  csound κ_ok mixed tok (spec_DrawIsTightFor.hΓ k) (LH := spec_DrawIsTightFor.LH k) (fn := Try.f52) (c := bodyOf Try.f52) Try.func52 rfl Try.call52 spec_DrawIsTightFor.sig [(2, [some 1]), (3, [some 3])] (spec_DrawIsTightFor.body k) (by kernel_rfl) (spec_DrawIsTightFor.lok k) (by decide) fun vs bs lf y hl hb hy => by
    unfold spec_DrawIsTightFor.body at hb
    split at hb
    · obtain ⟨_, rfl, hb_1⟩ := asO_bind hb
      obtain rfl := Option.some.inj hb_1
      exact ⟨spec_DrawIsTightFor.out, spec_DrawIsTightFor.out_ok, (spec_DrawIsTightFor.den k _).trans hy⟩
    · cases hb
/-! ### impl_NeedsFlows -/
def impl_NeedsFlows.L9 {R : Type} (k : Nat) (x0 : Int) (x4 : Int) (x5 : Int) (x7 : Int) (xl0 : List T_impl_Op) (xc2_0 : Int) (xc2_1 : Int) (xc2_2 : Int) (xl3 : List T_impl_Sent) (xl4 : List Int) (X0 : List T_impl_Flow → Option R) (rec : Int → List T_impl_Flow → Option R) (x8 : Int) (xl1 : List T_impl_Flow) : Option R :=
  (bif decide (x8 < x7) then (bif decide (0 ≤ x8) then (bif decide (x8 < (xl4.length : Int)) then (bif ((rd_i64 xl4 x8) != xc2_0) then (slices_Contains_Flow.f k xl1 x0 (rd_i64 xl4 x8) xc2_0).bind fun t4 => (bif !t4 then (bif decide ((xl1.length + ([(⟨x0, (rd_i64 xl4 x8), xc2_0⟩ : T_impl_Flow)] : List T_impl_Flow).length) * 24 ≤ cap48) then (let l5 : List T_impl_Flow := (xl1 ++ ([(⟨x0, (rd_i64 xl4 x8), xc2_0⟩ : T_impl_Flow)] : List T_impl_Flow)); (rec (w64 (x8 + (1 : Int))) l5)) else none) else (rec (w64 (x8 + (1 : Int))) xl1)) else (rec (w64 (x8 + (1 : Int))) xl1)) else none) else none) else (X0 xl1))
def impl_NeedsFlows.l9 {R : Type} (k : Nat) (x0 : Int) (x4 : Int) (x5 : Int) (x7 : Int) (xl0 : List T_impl_Op) (xc2_0 : Int) (xc2_1 : Int) (xc2_2 : Int) (xl3 : List T_impl_Sent) (xl4 : List Int) (X0 : List T_impl_Flow → Option R) : Nat → Int → List T_impl_Flow → Option R
  | 0 => fun _ _ => none
  | n + 1 => impl_NeedsFlows.L9 k x0 x4 x5 x7 xl0 xc2_0 xc2_1 xc2_2 xl3 xl4 X0 (impl_NeedsFlows.l9 k x0 x4 x5 x7 xl0 xc2_0 xc2_1 xc2_2 xl3 xl4 X0 n)
def impl_NeedsFlows.L6 {R : Type} (k : Nat) (x0 : Int) (x3 : Int) (xl0 : List T_impl_Op) (xl2 : List T_impl_Sent) (X0 : List T_impl_Flow → Option R) (rec : Int → List T_impl_Flow → Option R) (x4 : Int) (xl1 : List T_impl_Flow) : Option R :=
  (bif decide (x4 < x3) then (bif decide (0 ≤ x4) then (bif decide (x4 < (xl2.length : Int)) then (impl_OwnersIn.f k ((rd_impl_Sent xl2 x4).f2)).bind fun t3 => (impl_NeedsFlows.l9 k x0 x3 x4 (t3.length : Int) xl0 ((rd_impl_Sent xl2 x4).f0) ((rd_impl_Sent xl2 x4).f1) ((rd_impl_Sent xl2 x4).f2) xl2 t3 (fun (y4 : List T_impl_Flow) => (rec (w64 (x4 + (1 : Int))) y4)) k (0 : Int) xl1) else none) else none) else (X0 xl1))
def impl_NeedsFlows.l6 {R : Type} (k : Nat) (x0 : Int) (x3 : Int) (xl0 : List T_impl_Op) (xl2 : List T_impl_Sent) (X0 : List T_impl_Flow → Option R) : Nat → Int → List T_impl_Flow → Option R
  | 0 => fun _ _ => none
  | n + 1 => impl_NeedsFlows.L6 k x0 x3 xl0 xl2 X0 (impl_NeedsFlows.l6 k x0 x3 xl0 xl2 X0 n)
def impl_NeedsFlows.f (k : Nat) (a0 : List T_impl_Op) (a1 : Int) : Option (List T_impl_Flow) :=
  (impl_AreOps.f k a0).bind fun t1 => (bif !t1 then some ([] : List T_impl_Flow) else (impl_executed.f k a0 ([] : List Int)).bind fun t2 => (impl_NeedsFlows.l6 k a1 (t2.1.length : Int) a0 t2.1 (fun (y5 : List T_impl_Flow) => some y5) k (0 : Int) ([] : List T_impl_Flow)))
def impl_NeedsFlows.h9 (k : Nat) {R : Type} (K : Ex → St κ → Option R) (vs : List AV) (bs : List (Blk κ)) : Option R :=
  match vs, bs with
  | [.v (.int .i64 x0), .v (.sl 1), .v (.ptr 2 0 0), .v (.sl 3), .v (.int .i64 x4), .v (.int .i64 x5), .v (.sl 4), .v (.int .i64 x7), .v (.int .i64 x8)], [qb0, qb1, .cells 44 [.int .i64 xc2_0, .int .i64 xc2_1, .int .i64 xc2_2], qb3, qb4] => (asO 1 false qb0).bind fun xl0 => (asO 3 true qb1).bind fun xl1 => (asO 4 true qb3).bind fun xl3 => (asO 2 true qb4).bind fun xl4 => impl_NeedsFlows.l9 k x0 x4 x5 x7 xl0 xc2_0 xc2_1 xc2_2 xl3 xl4 (fun (zl1 : List T_impl_Flow) => K (.exit 2) (stOf [(1, []), (5, [some 3]), (23, [some 4]), (24, []), (25, [])] [.v (.int .i64 x0), .v (.sl 1), .v (.sl 2), .v (.int .i64 x4), .v (.int .i64 x5)] [.rows 1 false xl0, .rows 3 true zl1, .rows 4 true xl3])) k x8 xl1
  | _, _ => none
def impl_NeedsFlows.h6 (k : Nat) {R : Type} (K : Ex → St κ → Option R) (vs : List AV) (bs : List (Blk κ)) : Option R :=
  match vs, bs with
  | [.v (.int .i64 x0), .v (.sl 1), .v (.sl 2), .v (.int .i64 x3), .v (.int .i64 x4)], [qb0, qb1, qb2] => (asO 1 false qb0).bind fun xl0 => (asO 3 true qb1).bind fun xl1 => (asO 4 true qb2).bind fun xl2 => impl_NeedsFlows.l6 k x0 x3 xl0 xl2 (fun (zl1 : List T_impl_Flow) => K (.exit 0) (stOf [(5, [some 3])] [.v (.sl 1)] [.rows 1 false xl0, .rows 3 true zl1])) k x4 xl1
  | _, _ => none
def impl_NeedsFlows.Γ (k : Nat) : Ct κ := assoc [(23, impl_AreOps.C k), (57, impl_executed.C k), (66, impl_OwnersIn.C k), (67, slices_Contains_Flow.C k)]
def impl_NeedsFlows.LH (k : Nat) : Nat → Option (LHi κ) := assoc [(9, ⟨1, [(1, []), (5, [some 3]), (9, []), (23, [some 4]), (24, []), (25, []), (31, [some 2]), (32, []), (33, [])], [(1, []), (5, [some 3]), (23, [some 4]), (24, []), (25, [])], @impl_NeedsFlows.h9 k⟩), (6, ⟨1, [(1, []), (5, [some 3]), (23, [some 4]), (24, []), (25, [])], [(5, [some 3])], @impl_NeedsFlows.h6 k⟩)]
theorem impl_NeedsFlows.hΓ (k : Nat) : ∀ f g, impl_NeedsFlows.Γ k f = some g → CSound Try.prog f g := G_cons (impl_AreOps.ok k) (G_cons (impl_executed.ok k) (G_cons (impl_OwnersIn.ok k) (G_cons (slices_Contains_Flow.ok k) G_nil)))
theorem impl_NeedsFlows.e9 {R : Type} (K : Ex → St κ → Option R) (k : Nat) (x0 : Int) (x4 : Int) (x5 : Int) (x7 : Int) (xl0 : List T_impl_Op) (xc2_0 : Int) (xc2_1 : Int) (xc2_2 : Int) (xl3 : List T_impl_Sent) (xl4 : List Int) : ∀ (n : Nat) (x8 : Int) (xl1 : List T_impl_Flow), loopN 1 (Code.den ti (impl_NeedsFlows.Γ k) (impl_NeedsFlows.LH k) (loopAt Try.f25 1)) [(1, []), (5, [some 3]), (9, []), (23, [some 4]), (24, []), (25, []), (31, [some 2]), (32, []), (33, [])] [(1, []), (5, [some 3]), (23, [some 4]), (24, []), (25, [])] K n [.v (.int .i64 x0), .v (.sl 1), .v (.ptr 2 0 0), .v (.sl 3), .v (.int .i64 x4), .v (.int .i64 x5), .v (.sl 4), .v (.int .i64 x7), .v (.int .i64 x8)] [.rows 1 false xl0, .rows 3 true xl1, .cells 44 [.int .i64 xc2_0, .int .i64 xc2_1, .int .i64 xc2_2], .rows 4 true xl3, .rows 2 true xl4] = impl_NeedsFlows.l9 k x0 x4 x5 x7 xl0 xc2_0 xc2_1 xc2_2 xl3 xl4 (fun (zl1 : List T_impl_Flow) => K (.exit 2) (stOf [(1, []), (5, [some 3]), (23, [some 4]), (24, []), (25, [])] [.v (.int .i64 x0), .v (.sl 1), .v (.sl 2), .v (.int .i64 x4), .v (.int .i64 x5)] [.rows 1 false xl0, .rows 3 true zl1, .rows 4 true xl3])) n x8 xl1
  | 0, _, _ => rfl
  | n + 1, x8, xl1 => (show loopN 1 (Code.den ti (impl_NeedsFlows.Γ k) (impl_NeedsFlows.LH k) (loopAt Try.f25 1)) [(1, []), (5, [some 3]), (9, []), (23, [some 4]), (24, []), (25, []), (31, [some 2]), (32, []), (33, [])] [(1, []), (5, [some 3]), (23, [some 4]), (24, []), (25, [])] K (n + 1) [.v (.int .i64 x0), .v (.sl 1), .v (.ptr 2 0 0), .v (.sl 3), .v (.int .i64 x4), .v (.int .i64 x5), .v (.sl 4), .v (.int .i64 x7), .v (.int .i64 x8)] [.rows 1 false xl0, .rows 3 true xl1, .cells 44 [.int .i64 xc2_0, .int .i64 xc2_1, .int .i64 xc2_2], .rows 4 true xl3, .rows 2 true xl4] = impl_NeedsFlows.L9 k x0 x4 x5 x7 xl0 xc2_0 xc2_1 xc2_2 xl3 xl4 (fun (zl1 : List T_impl_Flow) => K (.exit 2) (stOf [(1, []), (5, [some 3]), (23, [some 4]), (24, []), (25, [])] [.v (.int .i64 x0), .v (.sl 1), .v (.sl 2), .v (.int .i64 x4), .v (.int .i64 x5)] [.rows 1 false xl0, .rows 3 true zl1, .rows 4 true xl3])) (fun (x8' : Int) (xl1' : List T_impl_Flow) => loopN 1 (Code.den ti (impl_NeedsFlows.Γ k) (impl_NeedsFlows.LH k) (loopAt Try.f25 1)) [(1, []), (5, [some 3]), (9, []), (23, [some 4]), (24, []), (25, []), (31, [some 2]), (32, []), (33, [])] [(1, []), (5, [some 3]), (23, [some 4]), (24, []), (25, [])] K n [.v (.int .i64 x0), .v (.sl 1), .v (.ptr 2 0 0), .v (.sl 3), .v (.int .i64 x4), .v (.int .i64 x5), .v (.sl 4), .v (.int .i64 x7), .v (.int .i64 x8')] [.rows 1 false xl0, .rows 3 true xl1', .cells 44 [.int .i64 xc2_0, .int .i64 xc2_1, .int .i64 xc2_2], .rows 4 true xl3, .rows 2 true xl4]) x8 xl1 by kernel_rfl).trans (congrArg (fun rec => impl_NeedsFlows.L9 k x0 x4 x5 x7 xl0 xc2_0 xc2_1 xc2_2 xl3 xl4 (fun (zl1 : List T_impl_Flow) => K (.exit 2) (stOf [(1, []), (5, [some 3]), (23, [some 4]), (24, []), (25, [])] [.v (.int .i64 x0), .v (.sl 1), .v (.sl 2), .v (.int .i64 x4), .v (.int .i64 x5)] [.rows 1 false xl0, .rows 3 true zl1, .rows 4 true xl3])) rec x8 xl1) (funext fun x8' => funext fun xl1' => impl_NeedsFlows.e9 K k x0 x4 x5 x7 xl0 xc2_0 xc2_1 xc2_2 xl3 xl4 n x8' xl1'))
theorem impl_NeedsFlows.q9 (k : Nat) {R : Type} (K : Ex → St κ → Option R) (vs : List AV) (bs : List (Blk κ)) (r : R) (h : impl_NeedsFlows.h9 k K vs bs = some r) : ∃ n, loopN 1 (Code.den ti (impl_NeedsFlows.Γ k) (impl_NeedsFlows.LH k) (loopAt Try.f25 1)) [(1, []), (5, [some 3]), (9, []), (23, [some 4]), (24, []), (25, []), (31, [some 2]), (32, []), (33, [])] [(1, []), (5, [some 3]), (23, [some 4]), (24, []), (25, [])] K n vs bs = some r := by
  unfold impl_NeedsFlows.h9 at h
  split at h
  · obtain ⟨_, rfl, h_1⟩ := asO_bind h
    obtain ⟨_, rfl, h_2⟩ := asO_bind h_1
    obtain ⟨_, rfl, h_3⟩ := asO_bind h_2
    obtain ⟨_, rfl, h_4⟩ := asO_bind h_3
    exact ⟨k, (impl_NeedsFlows.e9 K k _ _ _ _ _ _ _ _ _ _ k _ _).trans h_4⟩
  · cases h
theorem impl_NeedsFlows.e6 {R : Type} (K : Ex → St κ → Option R) (k : Nat) (x0 : Int) (x3 : Int) (xl0 : List T_impl_Op) (xl2 : List T_impl_Sent) : ∀ (n : Nat) (x4 : Int) (xl1 : List T_impl_Flow), loopN 1 (Code.den ti (impl_NeedsFlows.Γ k) (impl_NeedsFlows.LH k) (loopAt Try.f25 0)) [(1, []), (5, [some 3]), (23, [some 4]), (24, []), (25, [])] [(5, [some 3])] K n [.v (.int .i64 x0), .v (.sl 1), .v (.sl 2), .v (.int .i64 x3), .v (.int .i64 x4)] [.rows 1 false xl0, .rows 3 true xl1, .rows 4 true xl2] = impl_NeedsFlows.l6 k x0 x3 xl0 xl2 (fun (zl1 : List T_impl_Flow) => K (.exit 0) (stOf [(5, [some 3])] [.v (.sl 1)] [.rows 1 false xl0, .rows 3 true zl1])) n x4 xl1
  | 0, _, _ => rfl
  | n + 1, x4, xl1 => (show loopN 1 (Code.den ti (impl_NeedsFlows.Γ k) (impl_NeedsFlows.LH k) (loopAt Try.f25 0)) [(1, []), (5, [some 3]), (23, [some 4]), (24, []), (25, [])] [(5, [some 3])] K (n + 1) [.v (.int .i64 x0), .v (.sl 1), .v (.sl 2), .v (.int .i64 x3), .v (.int .i64 x4)] [.rows 1 false xl0, .rows 3 true xl1, .rows 4 true xl2] = impl_NeedsFlows.L6 k x0 x3 xl0 xl2 (fun (zl1 : List T_impl_Flow) => K (.exit 0) (stOf [(5, [some 3])] [.v (.sl 1)] [.rows 1 false xl0, .rows 3 true zl1])) (fun (x4' : Int) (xl1' : List T_impl_Flow) => loopN 1 (Code.den ti (impl_NeedsFlows.Γ k) (impl_NeedsFlows.LH k) (loopAt Try.f25 0)) [(1, []), (5, [some 3]), (23, [some 4]), (24, []), (25, [])] [(5, [some 3])] K n [.v (.int .i64 x0), .v (.sl 1), .v (.sl 2), .v (.int .i64 x3), .v (.int .i64 x4')] [.rows 1 false xl0, .rows 3 true xl1', .rows 4 true xl2]) x4 xl1 by kernel_rfl).trans (congrArg (fun rec => impl_NeedsFlows.L6 k x0 x3 xl0 xl2 (fun (zl1 : List T_impl_Flow) => K (.exit 0) (stOf [(5, [some 3])] [.v (.sl 1)] [.rows 1 false xl0, .rows 3 true zl1])) rec x4 xl1) (funext fun x4' => funext fun xl1' => impl_NeedsFlows.e6 K k x0 x3 xl0 xl2 n x4' xl1'))
theorem impl_NeedsFlows.q6 (k : Nat) {R : Type} (K : Ex → St κ → Option R) (vs : List AV) (bs : List (Blk κ)) (r : R) (h : impl_NeedsFlows.h6 k K vs bs = some r) : ∃ n, loopN 1 (Code.den ti (impl_NeedsFlows.Γ k) (impl_NeedsFlows.LH k) (loopAt Try.f25 0)) [(1, []), (5, [some 3]), (23, [some 4]), (24, []), (25, [])] [(5, [some 3])] K n vs bs = some r := by
  unfold impl_NeedsFlows.h6 at h
  split at h
  · obtain ⟨_, rfl, h_1⟩ := asO_bind h
    obtain ⟨_, rfl, h_2⟩ := asO_bind h_1
    obtain ⟨_, rfl, h_3⟩ := asO_bind h_2
    exact ⟨k, (impl_NeedsFlows.e6 K k _ _ _ _ k _ _).trans h_3⟩
  · cases h
theorem impl_NeedsFlows.lok (k : Nat) : LOK ti (impl_NeedsFlows.Γ k) (impl_NeedsFlows.LH k) 1 (loopsOf (bodyOf Try.f25)) :=
  (show loopsOf (bodyOf Try.f25) = [loopAt Try.f25 0, loopAt Try.f25 1] by kernel_rfl) ▸ (LOK_cons (g := ⟨1, [(1, []), (5, [some 3]), (23, [some 4]), (24, []), (25, [])], [(5, [some 3])], @impl_NeedsFlows.h6 k⟩) (by kernel_rfl) rfl (fun K vs xs r h => impl_NeedsFlows.q6 k K vs xs r h) (LOK_cons (g := ⟨1, [(1, []), (5, [some 3]), (9, []), (23, [some 4]), (24, []), (25, []), (31, [some 2]), (32, []), (33, [])], [(1, []), (5, [some 3]), (23, [some 4]), (24, []), (25, [])], @impl_NeedsFlows.h9 k⟩) (by kernel_rfl) rfl (fun K vs xs r h => impl_NeedsFlows.q9 k K vs xs r h) (LOK_nil)))
def impl_NeedsFlows.sig : List PSh := [.one (.ro 1), .one .sc]
def impl_NeedsFlows.g (y : List T_impl_Flow) : Ret κ := ⟨.v (.sl 1), [], [.rows 3 true y]⟩
def impl_NeedsFlows.out (r : Ret κ) : Option (List T_impl_Flow) :=
  match r with
  | ⟨.v (.sl 1), [], [q0]⟩ => (asO 3 true q0).bind fun z0 => some (z0)
  | _ => none
theorem impl_NeedsFlows.out_ok (r : Ret κ) (y : List T_impl_Flow) (h : impl_NeedsFlows.out r = some y) : r = impl_NeedsFlows.g y := by
  unfold impl_NeedsFlows.out at h
  split at h
  · obtain ⟨_, rfl, h_1⟩ := asO_bind h
    obtain rfl := Option.some.inj h_1
    rfl
  · cases h
def impl_NeedsFlows.body (k : Nat) (vs : List AV) (bs : List (Blk κ)) : Option (Lf κ) :=
  match vs, bs with
  | [.v (.sl 0), .v (.int .i64 a1)], [qb0] => (asO 1 false qb0).bind fun a0 => some ⟨List T_impl_Flow, impl_NeedsFlows.f k a0 a1, impl_NeedsFlows.g⟩
  | _, _ => none
def impl_NeedsFlows.C (k : Nat) : Nat → List AV → AP κ AV := contract impl_NeedsFlows.sig (impl_NeedsFlows.body k)
theorem impl_NeedsFlows.den (k : Nat) (a0 : List T_impl_Op) (a1 : Int) : Code.den ti (impl_NeedsFlows.Γ k) (impl_NeedsFlows.LH k) (bodyOf Try.f25) (finK ti Try.f25.results.toList [(4, [some 3])] (flags impl_NeedsFlows.sig).length (rwI (flags impl_NeedsFlows.sig) 0) impl_NeedsFlows.out) ⟨envOf (([.v (.sl 0), .v (.int .i64 a1)]).zipIdx.map fun q => (q.2, q.1)), hpOf [.rows 1 false a0], (flags impl_NeedsFlows.sig).length⟩ = impl_NeedsFlows.f k a0 a1 := by kernel_rfl
theorem impl_NeedsFlows.ok (k : Nat) : CSound Try.prog 25 (impl_NeedsFlows.C k) :=
  csound κ_ok mixed tok (impl_NeedsFlows.hΓ k) (LH := impl_NeedsFlows.LH k) (fn := Try.f25) (c := bodyOf Try.f25) Try.func25 rfl Try.call25 impl_NeedsFlows.sig [(4, [some 3])] (impl_NeedsFlows.body k) (by kernel_rfl) (impl_NeedsFlows.lok k) (by decide) fun vs bs lf y hl hb hy => by
    unfold impl_NeedsFlows.body at hb
    split at hb
    · obtain ⟨_, rfl, hb_1⟩ := asO_bind hb
      obtain rfl := Option.some.inj hb_1
      exact ⟨impl_NeedsFlows.out, impl_NeedsFlows.out_ok, (impl_NeedsFlows.den k _ _).trans hy⟩
    · cases hb
/-! ### impl_FlowsWithin -/
def impl_FlowsWithin.L2 {R : Type} (k : Nat) (x2 : Int) (xl0 : List T_impl_Flow) (xl1 : List T_impl_Flow) (X0 : Bool → Option R) (X1 : Unit → Option R) (rec : Int → Option R) (x3 : Int) : Option R :=
  (bif decide (x3 < x2) then (bif decide (0 ≤ x3) then (bif decide (x3 < (xl0.length : Int)) then (impl_IsFlow.f k ((rd_impl_Flow xl0 x3).f0) ((rd_impl_Flow xl0 x3).f1) ((rd_impl_Flow xl0 x3).f2)).bind fun t1 => (bif !t1 then (X0 false) else (slices_Contains_Flow.f k xl1 ((rd_impl_Flow xl0 x3).f0) ((rd_impl_Flow xl0 x3).f1) ((rd_impl_Flow xl0 x3).f2)).bind fun t2 => (bif !t2 then (X0 false) else (rec (w64 (x3 + (1 : Int)))))) else none) else none) else (X1 ()))
def impl_FlowsWithin.l2 {R : Type} (k : Nat) (x2 : Int) (xl0 : List T_impl_Flow) (xl1 : List T_impl_Flow) (X0 : Bool → Option R) (X1 : Unit → Option R) : Nat → Int → Option R
  | 0 => fun _ => none
  | n + 1 => impl_FlowsWithin.L2 k x2 xl0 xl1 X0 X1 (impl_FlowsWithin.l2 k x2 xl0 xl1 X0 X1 n)
def impl_FlowsWithin.f (k : Nat) (a0 : List T_impl_Flow) (a1 : List T_impl_Flow) : Option Bool :=
  (impl_FlowsWithin.l2 k (a0.length : Int) a0 a1 (fun (y3 : Bool) => some y3) (fun (_ : Unit) => some true) k (0 : Int))
def impl_FlowsWithin.h2 (k : Nat) {R : Type} (K : Ex → St κ → Option R) (vs : List AV) (bs : List (Blk κ)) : Option R :=
  match vs, bs with
  | [.v (.sl 1), .v (.sl 0), .v (.int .i64 x2), .v (.int .i64 x3)], [qb0, qb1] => (asO 3 false qb0).bind fun xl0 => (asO 3 false qb1).bind fun xl1 => impl_FlowsWithin.l2 k x2 xl0 xl1 (fun (z0 : Bool) => K .ret (stOf [(4, [])] [.v (.bool z0)] [.rows 3 false xl0, .rows 3 false xl1])) (fun (_ : Unit) => K (.exit 0) (stOf [(4, [])] [.v .any] [.rows 3 false xl0, .rows 3 false xl1])) k x3
  | _, _ => none
def impl_FlowsWithin.Γ (k : Nat) : Ct κ := assoc [(69, impl_IsFlow.C k), (67, slices_Contains_Flow.C k)]
def impl_FlowsWithin.LH (k : Nat) : Nat → Option (LHi κ) := assoc [(2, ⟨2, [(1, [some 3]), (7, [some 3]), (8, []), (9, [])], [(4, [])], @impl_FlowsWithin.h2 k⟩)]
theorem impl_FlowsWithin.hΓ (k : Nat) : ∀ f g, impl_FlowsWithin.Γ k f = some g → CSound Try.prog f g := G_cons (impl_IsFlow.ok k) (G_cons (slices_Contains_Flow.ok k) G_nil)
theorem impl_FlowsWithin.e2 {R : Type} (K : Ex → St κ → Option R) (k : Nat) (x2 : Int) (xl0 : List T_impl_Flow) (xl1 : List T_impl_Flow) : ∀ (n : Nat) (x3 : Int), loopN 2 (Code.den ti (impl_FlowsWithin.Γ k) (impl_FlowsWithin.LH k) (loopAt Try.f53 0)) [(1, [some 3]), (7, [some 3]), (8, []), (9, [])] [(4, [])] K n [.v (.sl 1), .v (.sl 0), .v (.int .i64 x2), .v (.int .i64 x3)] [.rows 3 false xl0, .rows 3 false xl1] = impl_FlowsWithin.l2 k x2 xl0 xl1 (fun (z0 : Bool) => K .ret (stOf [(4, [])] [.v (.bool z0)] [.rows 3 false xl0, .rows 3 false xl1])) (fun (_ : Unit) => K (.exit 0) (stOf [(4, [])] [.v .any] [.rows 3 false xl0, .rows 3 false xl1])) n x3
  | 0, _ => rfl
  | n + 1, x3 => (show loopN 2 (Code.den ti (impl_FlowsWithin.Γ k) (impl_FlowsWithin.LH k) (loopAt Try.f53 0)) [(1, [some 3]), (7, [some 3]), (8, []), (9, [])] [(4, [])] K (n + 1) [.v (.sl 1), .v (.sl 0), .v (.int .i64 x2), .v (.int .i64 x3)] [.rows 3 false xl0, .rows 3 false xl1] = impl_FlowsWithin.L2 k x2 xl0 xl1 (fun (z0 : Bool) => K .ret (stOf [(4, [])] [.v (.bool z0)] [.rows 3 false xl0, .rows 3 false xl1])) (fun (_ : Unit) => K (.exit 0) (stOf [(4, [])] [.v .any] [.rows 3 false xl0, .rows 3 false xl1])) (fun (x3' : Int) => loopN 2 (Code.den ti (impl_FlowsWithin.Γ k) (impl_FlowsWithin.LH k) (loopAt Try.f53 0)) [(1, [some 3]), (7, [some 3]), (8, []), (9, [])] [(4, [])] K n [.v (.sl 1), .v (.sl 0), .v (.int .i64 x2), .v (.int .i64 x3')] [.rows 3 false xl0, .rows 3 false xl1]) x3 by kernel_rfl).trans (congrArg (fun rec => impl_FlowsWithin.L2 k x2 xl0 xl1 (fun (z0 : Bool) => K .ret (stOf [(4, [])] [.v (.bool z0)] [.rows 3 false xl0, .rows 3 false xl1])) (fun (_ : Unit) => K (.exit 0) (stOf [(4, [])] [.v .any] [.rows 3 false xl0, .rows 3 false xl1])) rec x3) (funext fun x3' => impl_FlowsWithin.e2 K k x2 xl0 xl1 n x3'))
theorem impl_FlowsWithin.q2 (k : Nat) {R : Type} (K : Ex → St κ → Option R) (vs : List AV) (bs : List (Blk κ)) (r : R) (h : impl_FlowsWithin.h2 k K vs bs = some r) : ∃ n, loopN 2 (Code.den ti (impl_FlowsWithin.Γ k) (impl_FlowsWithin.LH k) (loopAt Try.f53 0)) [(1, [some 3]), (7, [some 3]), (8, []), (9, [])] [(4, [])] K n vs bs = some r := by
  unfold impl_FlowsWithin.h2 at h
  split at h
  · obtain ⟨_, rfl, h_1⟩ := asO_bind h
    obtain ⟨_, rfl, h_2⟩ := asO_bind h_1
    exact ⟨k, (impl_FlowsWithin.e2 K k _ _ _ k _).trans h_2⟩
  · cases h
theorem impl_FlowsWithin.lok (k : Nat) : LOK ti (impl_FlowsWithin.Γ k) (impl_FlowsWithin.LH k) 2 (loopsOf (bodyOf Try.f53)) :=
  (show loopsOf (bodyOf Try.f53) = [loopAt Try.f53 0] by kernel_rfl) ▸ (LOK_cons (g := ⟨2, [(1, [some 3]), (7, [some 3]), (8, []), (9, [])], [(4, [])], @impl_FlowsWithin.h2 k⟩) (by kernel_rfl) rfl (fun K vs xs r h => impl_FlowsWithin.q2 k K vs xs r h) (LOK_nil))
def impl_FlowsWithin.sig : List PSh := [.one (.ro 3), .one (.ro 3)]
def impl_FlowsWithin.g (y : Bool) : Ret κ := ⟨.v (.bool y), [], []⟩
def impl_FlowsWithin.out (r : Ret κ) : Option Bool :=
  match r with
  | ⟨.v (.bool z0), [], []⟩ => some (z0)
  | _ => none
theorem impl_FlowsWithin.out_ok (r : Ret κ) (y : Bool) (h : impl_FlowsWithin.out r = some y) : r = impl_FlowsWithin.g y := by
  unfold impl_FlowsWithin.out at h
  split at h
  · obtain rfl := Option.some.inj h
    rfl
  · cases h
def impl_FlowsWithin.body (k : Nat) (vs : List AV) (bs : List (Blk κ)) : Option (Lf κ) :=
  match vs, bs with
  | [.v (.sl 0), .v (.sl 1)], [qb0, qb1] => (asO 3 false qb0).bind fun a0 => (asO 3 false qb1).bind fun a1 => some ⟨Bool, impl_FlowsWithin.f k a0 a1, impl_FlowsWithin.g⟩
  | _, _ => none
def impl_FlowsWithin.C (k : Nat) : Nat → List AV → AP κ AV := contract impl_FlowsWithin.sig (impl_FlowsWithin.body k)
theorem impl_FlowsWithin.den (k : Nat) (a0 : List T_impl_Flow) (a1 : List T_impl_Flow) : Code.den ti (impl_FlowsWithin.Γ k) (impl_FlowsWithin.LH k) (bodyOf Try.f53) (finK ti Try.f53.results.toList [] (flags impl_FlowsWithin.sig).length (rwI (flags impl_FlowsWithin.sig) 0) impl_FlowsWithin.out) ⟨envOf (([.v (.sl 0), .v (.sl 1)]).zipIdx.map fun q => (q.2, q.1)), hpOf [.rows 3 false a0, .rows 3 false a1], (flags impl_FlowsWithin.sig).length⟩ = impl_FlowsWithin.f k a0 a1 := by kernel_rfl
theorem impl_FlowsWithin.ok (k : Nat) : CSound Try.prog 53 (impl_FlowsWithin.C k) :=
  csound κ_ok mixed tok (impl_FlowsWithin.hΓ k) (LH := impl_FlowsWithin.LH k) (fn := Try.f53) (c := bodyOf Try.f53) Try.func53 rfl Try.call53 impl_FlowsWithin.sig [] (impl_FlowsWithin.body k) (by kernel_rfl) (impl_FlowsWithin.lok k) (by decide) fun vs bs lf y hl hb hy => by
    unfold impl_FlowsWithin.body at hb
    split at hb
    · obtain ⟨_, rfl, hb_1⟩ := asO_bind hb
      obtain ⟨_, rfl, hb_2⟩ := asO_bind hb_1
      obtain rfl := Option.some.inj hb_2
      exact ⟨impl_FlowsWithin.out, impl_FlowsWithin.out_ok, (impl_FlowsWithin.den k _ _).trans hy⟩
    · cases hb
/-! ### impl_IsTightFor -/
def impl_IsTightFor.f (k : Nat) (a0 : List T_impl_Op) (a1 : List T_impl_Flow) (a2 : Int) : Option Bool :=
  (impl_AreOps.f k a0).bind fun t1 => (bif t1 then (impl_NeedsFlows.f k a0 a2).bind fun t2 => (impl_FlowsWithin.f k t2 a1).bind fun t3 => some t3 else some false)
def impl_IsTightFor.Γ (k : Nat) : Ct κ := assoc [(23, impl_AreOps.C k), (25, impl_NeedsFlows.C k), (53, impl_FlowsWithin.C k)]
def impl_IsTightFor.LH (k : Nat) : Nat → Option (LHi κ) := assoc []
theorem impl_IsTightFor.hΓ (k : Nat) : ∀ f g, impl_IsTightFor.Γ k f = some g → CSound Try.prog f g := G_cons (impl_AreOps.ok k) (G_cons (impl_NeedsFlows.ok k) (G_cons (impl_FlowsWithin.ok k) G_nil))
theorem impl_IsTightFor.lok (k : Nat) : LOK ti (impl_IsTightFor.Γ k) (impl_IsTightFor.LH k) 2 (loopsOf (bodyOf Try.f36)) :=
  (show loopsOf (bodyOf Try.f36) = [] by kernel_rfl) ▸ LOK_nil
def impl_IsTightFor.sig : List PSh := [.one (.ro 1), .one (.ro 3), .one .sc]
def impl_IsTightFor.g (y : Bool) : Ret κ := ⟨.v (.bool y), [], []⟩
def impl_IsTightFor.out (r : Ret κ) : Option Bool :=
  match r with
  | ⟨.v (.bool z0), [], []⟩ => some (z0)
  | _ => none
theorem impl_IsTightFor.out_ok (r : Ret κ) (y : Bool) (h : impl_IsTightFor.out r = some y) : r = impl_IsTightFor.g y := by
  unfold impl_IsTightFor.out at h
  split at h
  · obtain rfl := Option.some.inj h
    rfl
  · cases h
def impl_IsTightFor.body (k : Nat) (vs : List AV) (bs : List (Blk κ)) : Option (Lf κ) :=
  match vs, bs with
  | [.v (.sl 0), .v (.sl 1), .v (.int .i64 a2)], [qb0, qb1] => (asO 1 false qb0).bind fun a0 => (asO 3 false qb1).bind fun a1 => some ⟨Bool, impl_IsTightFor.f k a0 a1 a2, impl_IsTightFor.g⟩
  | _, _ => none
def impl_IsTightFor.C (k : Nat) : Nat → List AV → AP κ AV := contract impl_IsTightFor.sig (impl_IsTightFor.body k)
theorem impl_IsTightFor.den (k : Nat) (a0 : List T_impl_Op) (a1 : List T_impl_Flow) (a2 : Int) : Code.den ti (impl_IsTightFor.Γ k) (impl_IsTightFor.LH k) (bodyOf Try.f36) (finK ti Try.f36.results.toList [] (flags impl_IsTightFor.sig).length (rwI (flags impl_IsTightFor.sig) 0) impl_IsTightFor.out) ⟨envOf (([.v (.sl 0), .v (.sl 1), .v (.int .i64 a2)]).zipIdx.map fun q => (q.2, q.1)), hpOf [.rows 1 false a0, .rows 3 false a1], (flags impl_IsTightFor.sig).length⟩ = impl_IsTightFor.f k a0 a1 a2 := by kernel_rfl
theorem impl_IsTightFor.ok (k : Nat) : CSound Try.prog 36 (impl_IsTightFor.C k) :=
  csound κ_ok mixed tok (impl_IsTightFor.hΓ k) (LH := impl_IsTightFor.LH k) (fn := Try.f36) (c := bodyOf Try.f36) Try.func36 rfl Try.call36 impl_IsTightFor.sig [] (impl_IsTightFor.body k) (by kernel_rfl) (impl_IsTightFor.lok k) (by decide) fun vs bs lf y hl hb hy => by
    unfold impl_IsTightFor.body at hb
    split at hb
    · obtain ⟨_, rfl, hb_1⟩ := asO_bind hb
      obtain ⟨_, rfl, hb_2⟩ := asO_bind hb_1
      obtain rfl := Option.some.inj hb_2
      exact ⟨impl_IsTightFor.out, impl_IsTightFor.out_ok, (impl_IsTightFor.den k _ _ _).trans hy⟩
    · cases hb
/-! ### laws_FnLeaks -/
def laws_FnLeaks.L16 {R : Type} (k : Nat) (x4 : Int) (x6 : Int) (xl0 : List Int) (xl1 : List T_impl_Op) (xl2 : List Int) (xl3 : List T_impl_Flow) (xl4 : List T_impl_Sent) (xl5 : List Int) (X0 : Bool → Option R) (X1 : Unit → Option R) (rec : Int → Option R) (x8 : Int) : Option R :=
  (bif decide (x8 < (xl5.length : Int)) then (impl_LabelOf.f k ([x6] : List Int)).bind fun t12 => (bif decide (0 ≤ x8) then (bif decide (x8 < (xl5.length : Int)) then (impl_MayFlow.f k xl3 x4 t12 (rd_i64 xl5 x8)).bind fun t13 => (bif !t13 then (X0 false) else (rec (w64 (x8 + (1 : Int))))) else none) else none) else (X1 ()))
def laws_FnLeaks.l16 {R : Type} (k : Nat) (x4 : Int) (x6 : Int) (xl0 : List Int) (xl1 : List T_impl_Op) (xl2 : List Int) (xl3 : List T_impl_Flow) (xl4 : List T_impl_Sent) (xl5 : List Int) (X0 : Bool → Option R) (X1 : Unit → Option R) : Nat → Int → Option R
  | 0 => fun _ => none
  | n + 1 => laws_FnLeaks.L16 k x4 x6 xl0 xl1 xl2 xl3 xl4 xl5 X0 X1 (laws_FnLeaks.l16 k x4 x6 xl0 xl1 xl2 xl3 xl4 xl5 X0 X1 n)
def laws_FnLeaks.L6 {R : Type} (k : Nat) (x4 : Int) (xl0 : List Int) (xl1 : List T_impl_Op) (xl2 : List Int) (xl3 : List T_impl_Flow) (xl4 : List T_impl_Sent) (X0 : Bool → Option R) (X1 : Unit → Option R) (rec : Int → Option R) (x6 : Int) : Option R :=
  (bif decide (x6 ≤ (5 : Int)) then (laws_at.f k xl0 x6).bind fun t4 => (impl_ChangeValue.f k xl2 x6 ((w64 ((w64 ((7 : Int) * x6)) + t4)).tmod (1000 : Int))).bind fun t5 => (impl_RunOps.f k xl1 t5 xl3 x4).bind fun t6 => (impl_SameSent.f k xl4 t6 x6).bind fun t7 => (bif !t7 then (X0 false) else (impl_Depends.f k xl1 xl3 x4 x6).bind fun t8 => (bif !t8 then (impl_EqualSent.f k xl4 t6).bind fun t9 => (bif !t9 then (X0 false) else (impl_LeakTo.f k xl1 xl3 x4 x6).bind fun t10 => (impl_Depends.f k xl1 xl3 x4 x6).bind fun t11 => (bif !(t11 == (decide ((t10.length : Int) > (0 : Int)))) then (X0 false) else (laws_FnLeaks.l16 k x4 x6 xl0 xl1 xl2 xl3 xl4 t10 (fun (y12 : Bool) => (X0 y12)) (fun (_ : Unit) => (rec (w64 (x6 + (1 : Int))))) k (0 : Int)))) else (impl_LeakTo.f k xl1 xl3 x4 x6).bind fun t13 => (impl_Depends.f k xl1 xl3 x4 x6).bind fun t14 => (bif !(t14 == (decide ((t13.length : Int) > (0 : Int)))) then (X0 false) else (laws_FnLeaks.l16 k x4 x6 xl0 xl1 xl2 xl3 xl4 t13 (fun (y15 : Bool) => (X0 y15)) (fun (_ : Unit) => (rec (w64 (x6 + (1 : Int))))) k (0 : Int))))) else (X1 ()))
def laws_FnLeaks.l6 {R : Type} (k : Nat) (x4 : Int) (xl0 : List Int) (xl1 : List T_impl_Op) (xl2 : List Int) (xl3 : List T_impl_Flow) (xl4 : List T_impl_Sent) (X0 : Bool → Option R) (X1 : Unit → Option R) : Nat → Int → Option R
  | 0 => fun _ => none
  | n + 1 => laws_FnLeaks.L6 k x4 xl0 xl1 xl2 xl3 xl4 X0 X1 (laws_FnLeaks.l6 k x4 xl0 xl1 xl2 xl3 xl4 X0 X1 n)
def laws_FnLeaks.f (k : Nat) (a0 : List Int) : Option Bool :=
  (laws_big.f k a0).bind fun t1 => (bif t1 then some true else (spec_DrawRunOps.f k a0).bind fun t2 => (impl_RunOps.f k t2.2.1 t2.2.2.1 t2.2.2.2 t2.1).bind fun t3 => (laws_FnLeaks.l6 k t2.1 a0 t2.2.1 t2.2.2.1 t2.2.2.2 t3 (fun (y16 : Bool) => some y16) (fun (_ : Unit) => (spec_DrawIsTightFor.f k a0).bind fun t17 => (impl_IsTightFor.f k t17.2.1 t17.2.2 t17.1).bind fun t18 => (impl_AreOps.f k t17.2.1).bind fun t19 => (bif t19 then (impl_NeedsFlows.f k t17.2.1 t17.1).bind fun t20 => (impl_FlowsWithin.f k t20 t17.2.2).bind fun t21 => (bif (t18 == t21) then (impl_ChangeValue.f k t2.2.2.1 (1 : Int) (5 : Int)).bind fun t22 => some ((t22.length : Int) == (9 : Int)) else some false) else (bif (t18 == false) then (impl_ChangeValue.f k t2.2.2.1 (1 : Int) (5 : Int)).bind fun t23 => some ((t23.length : Int) == (9 : Int)) else some false))) k (1 : Int)))
def laws_FnLeaks.h16 (k : Nat) {R : Type} (K : Ex → St κ → Option R) (vs : List AV) (bs : List (Blk κ)) : Option R :=
  match vs, bs with
  | [.v (.sl 0), .v (.sl 1), .v (.sl 2), .v (.sl 3), .v (.int .i64 x4), .v (.sl 4), .v (.int .i64 x6), .v (.sl 5), .v (.int .i64 x8)], [qb0, qb1, qb2, qb3, qb4, qb5] => (asO 0 false qb0).bind fun xl0 => (asO 1 true qb1).bind fun xl1 => (asO 2 true qb2).bind fun xl2 => (asO 3 true qb3).bind fun xl3 => (asO 4 true qb4).bind fun xl4 => (asO 2 true qb5).bind fun xl5 => laws_FnLeaks.l16 k x4 x6 xl0 xl1 xl2 xl3 xl4 xl5 (fun (z1 : Bool) => K .ret (stOf [(0, [some 0]), (2, []), (3, [some 1]), (4, [some 2]), (5, [some 3]), (6, []), (7, [some 4]), (8, [])] [.v (.sl 0), .v (.bool z1), .v (.sl 1), .v (.sl 2), .v (.sl 3), .v (.int .i64 x4), .v (.sl 4), .v (.int .i64 x6)] [.rows 0 false xl0, .rows 1 true xl1, .rows 2 true xl2, .rows 3 true xl3, .rows 4 true xl4])) (fun (_ : Unit) => K (.exit 2) (stOf [(0, [some 0]), (2, []), (3, [some 1]), (4, [some 2]), (5, [some 3]), (6, []), (7, [some 4]), (8, [])] [.v (.sl 0), .v .any, .v (.sl 1), .v (.sl 2), .v (.sl 3), .v (.int .i64 x4), .v (.sl 4), .v (.int .i64 x6)] [.rows 0 false xl0, .rows 1 true xl1, .rows 2 true xl2, .rows 3 true xl3, .rows 4 true xl4])) k x8
  | _, _ => none
def laws_FnLeaks.h6 (k : Nat) {R : Type} (K : Ex → St κ → Option R) (vs : List AV) (bs : List (Blk κ)) : Option R :=
  match vs, bs with
  | [.v (.sl 0), .v (.sl 1), .v (.sl 2), .v (.sl 3), .v (.int .i64 x4), .v (.sl 4), .v (.int .i64 x6)], [qb0, qb1, qb2, qb3, qb4] => (asO 0 false qb0).bind fun xl0 => (asO 1 true qb1).bind fun xl1 => (asO 2 true qb2).bind fun xl2 => (asO 3 true qb3).bind fun xl3 => (asO 4 true qb4).bind fun xl4 => laws_FnLeaks.l6 k x4 xl0 xl1 xl2 xl3 xl4 (fun (z1 : Bool) => K .ret (stOf [(0, [some 0]), (2, []), (4, [some 2])] [.v (.sl 0), .v (.bool z1), .v (.sl 1)] [.rows 0 false xl0, .rows 2 true xl2])) (fun (_ : Unit) => K (.exit 0) (stOf [(0, [some 0]), (2, []), (4, [some 2])] [.v (.sl 0), .v .any, .v (.sl 1)] [.rows 0 false xl0, .rows 2 true xl2])) k x6
  | _, _ => none
def laws_FnLeaks.Γ (k : Nat) : Ct κ := assoc [(20, laws_big.C k), (21, spec_DrawRunOps.C k), (22, impl_RunOps.C k), (47, laws_at.C k), (46, impl_ChangeValue.C k), (48, impl_SameSent.C k), (49, impl_Depends.C k), (28, impl_EqualSent.C k), (50, impl_LeakTo.C k), (51, impl_LabelOf.C k), (26, impl_MayFlow.C k), (52, spec_DrawIsTightFor.C k), (36, impl_IsTightFor.C k), (23, impl_AreOps.C k), (25, impl_NeedsFlows.C k), (53, impl_FlowsWithin.C k)]
def laws_FnLeaks.LH (k : Nat) : Nat → Option (LHi κ) := assoc [(16, ⟨1, [(0, [some 0]), (3, [some 1]), (4, [some 2]), (5, [some 3]), (6, []), (7, [some 4]), (8, []), (11, [some 2]), (12, [])], [(0, [some 0]), (2, []), (3, [some 1]), (4, [some 2]), (5, [some 3]), (6, []), (7, [some 4]), (8, [])], @laws_FnLeaks.h16 k⟩), (6, ⟨1, [(0, [some 0]), (3, [some 1]), (4, [some 2]), (5, [some 3]), (6, []), (7, [some 4]), (8, [])], [(0, [some 0]), (2, []), (4, [some 2])], @laws_FnLeaks.h6 k⟩)]
theorem laws_FnLeaks.hΓ (k : Nat) : ∀ f g, laws_FnLeaks.Γ k f = some g → CSound Try.prog f g := G_cons (laws_big.ok k) (G_cons (spec_DrawRunOps.ok k) (G_cons (impl_RunOps.ok k) (G_cons (laws_at.ok k) (G_cons (impl_ChangeValue.ok k) (G_cons (impl_SameSent.ok k) (G_cons (impl_Depends.ok k) (G_cons (impl_EqualSent.ok k) (G_cons (impl_LeakTo.ok k) (G_cons (impl_LabelOf.ok k) (G_cons (impl_MayFlow.ok k) (G_cons (spec_DrawIsTightFor.ok k) (G_cons (impl_IsTightFor.ok k) (G_cons (impl_AreOps.ok k) (G_cons (impl_NeedsFlows.ok k) (G_cons (impl_FlowsWithin.ok k) G_nil)))))))))))))))
theorem laws_FnLeaks.e16 {R : Type} (K : Ex → St κ → Option R) (k : Nat) (x4 : Int) (x6 : Int) (xl0 : List Int) (xl1 : List T_impl_Op) (xl2 : List Int) (xl3 : List T_impl_Flow) (xl4 : List T_impl_Sent) (xl5 : List Int) : ∀ (n : Nat) (x8 : Int), loopN 1 (Code.den ti (laws_FnLeaks.Γ k) (laws_FnLeaks.LH k) (loopAt Try.f10 1)) [(0, [some 0]), (3, [some 1]), (4, [some 2]), (5, [some 3]), (6, []), (7, [some 4]), (8, []), (11, [some 2]), (12, [])] [(0, [some 0]), (2, []), (3, [some 1]), (4, [some 2]), (5, [some 3]), (6, []), (7, [some 4]), (8, [])] K n [.v (.sl 0), .v (.sl 1), .v (.sl 2), .v (.sl 3), .v (.int .i64 x4), .v (.sl 4), .v (.int .i64 x6), .v (.sl 5), .v (.int .i64 x8)] [.rows 0 false xl0, .rows 1 true xl1, .rows 2 true xl2, .rows 3 true xl3, .rows 4 true xl4, .rows 2 true xl5] = laws_FnLeaks.l16 k x4 x6 xl0 xl1 xl2 xl3 xl4 xl5 (fun (z1 : Bool) => K .ret (stOf [(0, [some 0]), (2, []), (3, [some 1]), (4, [some 2]), (5, [some 3]), (6, []), (7, [some 4]), (8, [])] [.v (.sl 0), .v (.bool z1), .v (.sl 1), .v (.sl 2), .v (.sl 3), .v (.int .i64 x4), .v (.sl 4), .v (.int .i64 x6)] [.rows 0 false xl0, .rows 1 true xl1, .rows 2 true xl2, .rows 3 true xl3, .rows 4 true xl4])) (fun (_ : Unit) => K (.exit 2) (stOf [(0, [some 0]), (2, []), (3, [some 1]), (4, [some 2]), (5, [some 3]), (6, []), (7, [some 4]), (8, [])] [.v (.sl 0), .v .any, .v (.sl 1), .v (.sl 2), .v (.sl 3), .v (.int .i64 x4), .v (.sl 4), .v (.int .i64 x6)] [.rows 0 false xl0, .rows 1 true xl1, .rows 2 true xl2, .rows 3 true xl3, .rows 4 true xl4])) n x8
  | 0, _ => rfl
  | n + 1, x8 => (show loopN 1 (Code.den ti (laws_FnLeaks.Γ k) (laws_FnLeaks.LH k) (loopAt Try.f10 1)) [(0, [some 0]), (3, [some 1]), (4, [some 2]), (5, [some 3]), (6, []), (7, [some 4]), (8, []), (11, [some 2]), (12, [])] [(0, [some 0]), (2, []), (3, [some 1]), (4, [some 2]), (5, [some 3]), (6, []), (7, [some 4]), (8, [])] K (n + 1) [.v (.sl 0), .v (.sl 1), .v (.sl 2), .v (.sl 3), .v (.int .i64 x4), .v (.sl 4), .v (.int .i64 x6), .v (.sl 5), .v (.int .i64 x8)] [.rows 0 false xl0, .rows 1 true xl1, .rows 2 true xl2, .rows 3 true xl3, .rows 4 true xl4, .rows 2 true xl5] = laws_FnLeaks.L16 k x4 x6 xl0 xl1 xl2 xl3 xl4 xl5 (fun (z1 : Bool) => K .ret (stOf [(0, [some 0]), (2, []), (3, [some 1]), (4, [some 2]), (5, [some 3]), (6, []), (7, [some 4]), (8, [])] [.v (.sl 0), .v (.bool z1), .v (.sl 1), .v (.sl 2), .v (.sl 3), .v (.int .i64 x4), .v (.sl 4), .v (.int .i64 x6)] [.rows 0 false xl0, .rows 1 true xl1, .rows 2 true xl2, .rows 3 true xl3, .rows 4 true xl4])) (fun (_ : Unit) => K (.exit 2) (stOf [(0, [some 0]), (2, []), (3, [some 1]), (4, [some 2]), (5, [some 3]), (6, []), (7, [some 4]), (8, [])] [.v (.sl 0), .v .any, .v (.sl 1), .v (.sl 2), .v (.sl 3), .v (.int .i64 x4), .v (.sl 4), .v (.int .i64 x6)] [.rows 0 false xl0, .rows 1 true xl1, .rows 2 true xl2, .rows 3 true xl3, .rows 4 true xl4])) (fun (x8' : Int) => loopN 1 (Code.den ti (laws_FnLeaks.Γ k) (laws_FnLeaks.LH k) (loopAt Try.f10 1)) [(0, [some 0]), (3, [some 1]), (4, [some 2]), (5, [some 3]), (6, []), (7, [some 4]), (8, []), (11, [some 2]), (12, [])] [(0, [some 0]), (2, []), (3, [some 1]), (4, [some 2]), (5, [some 3]), (6, []), (7, [some 4]), (8, [])] K n [.v (.sl 0), .v (.sl 1), .v (.sl 2), .v (.sl 3), .v (.int .i64 x4), .v (.sl 4), .v (.int .i64 x6), .v (.sl 5), .v (.int .i64 x8')] [.rows 0 false xl0, .rows 1 true xl1, .rows 2 true xl2, .rows 3 true xl3, .rows 4 true xl4, .rows 2 true xl5]) x8 by kernel_rfl).trans (congrArg (fun rec => laws_FnLeaks.L16 k x4 x6 xl0 xl1 xl2 xl3 xl4 xl5 (fun (z1 : Bool) => K .ret (stOf [(0, [some 0]), (2, []), (3, [some 1]), (4, [some 2]), (5, [some 3]), (6, []), (7, [some 4]), (8, [])] [.v (.sl 0), .v (.bool z1), .v (.sl 1), .v (.sl 2), .v (.sl 3), .v (.int .i64 x4), .v (.sl 4), .v (.int .i64 x6)] [.rows 0 false xl0, .rows 1 true xl1, .rows 2 true xl2, .rows 3 true xl3, .rows 4 true xl4])) (fun (_ : Unit) => K (.exit 2) (stOf [(0, [some 0]), (2, []), (3, [some 1]), (4, [some 2]), (5, [some 3]), (6, []), (7, [some 4]), (8, [])] [.v (.sl 0), .v .any, .v (.sl 1), .v (.sl 2), .v (.sl 3), .v (.int .i64 x4), .v (.sl 4), .v (.int .i64 x6)] [.rows 0 false xl0, .rows 1 true xl1, .rows 2 true xl2, .rows 3 true xl3, .rows 4 true xl4])) rec x8) (funext fun x8' => laws_FnLeaks.e16 K k x4 x6 xl0 xl1 xl2 xl3 xl4 xl5 n x8'))
theorem laws_FnLeaks.q16 (k : Nat) {R : Type} (K : Ex → St κ → Option R) (vs : List AV) (bs : List (Blk κ)) (r : R) (h : laws_FnLeaks.h16 k K vs bs = some r) : ∃ n, loopN 1 (Code.den ti (laws_FnLeaks.Γ k) (laws_FnLeaks.LH k) (loopAt Try.f10 1)) [(0, [some 0]), (3, [some 1]), (4, [some 2]), (5, [some 3]), (6, []), (7, [some 4]), (8, []), (11, [some 2]), (12, [])] [(0, [some 0]), (2, []), (3, [some 1]), (4, [some 2]), (5, [some 3]), (6, []), (7, [some 4]), (8, [])] K n vs bs = some r := by
  unfold laws_FnLeaks.h16 at h
  split at h
  · obtain ⟨_, rfl, h_1⟩ := asO_bind h
    obtain ⟨_, rfl, h_2⟩ := asO_bind h_1
    obtain ⟨_, rfl, h_3⟩ := asO_bind h_2
    obtain ⟨_, rfl, h_4⟩ := asO_bind h_3
    obtain ⟨_, rfl, h_5⟩ := asO_bind h_4
    obtain ⟨_, rfl, h_6⟩ := asO_bind h_5
    exact ⟨k, (laws_FnLeaks.e16 K k _ _ _ _ _ _ _ _ k _).trans h_6⟩
  · cases h
theorem laws_FnLeaks.e6 {R : Type} (K : Ex → St κ → Option R) (k : Nat) (x4 : Int) (xl0 : List Int) (xl1 : List T_impl_Op) (xl2 : List Int) (xl3 : List T_impl_Flow) (xl4 : List T_impl_Sent) : ∀ (n : Nat) (x6 : Int), loopN 1 (Code.den ti (laws_FnLeaks.Γ k) (laws_FnLeaks.LH k) (loopAt Try.f10 0)) [(0, [some 0]), (3, [some 1]), (4, [some 2]), (5, [some 3]), (6, []), (7, [some 4]), (8, [])] [(0, [some 0]), (2, []), (4, [some 2])] K n [.v (.sl 0), .v (.sl 1), .v (.sl 2), .v (.sl 3), .v (.int .i64 x4), .v (.sl 4), .v (.int .i64 x6)] [.rows 0 false xl0, .rows 1 true xl1, .rows 2 true xl2, .rows 3 true xl3, .rows 4 true xl4] = laws_FnLeaks.l6 k x4 xl0 xl1 xl2 xl3 xl4 (fun (z1 : Bool) => K .ret (stOf [(0, [some 0]), (2, []), (4, [some 2])] [.v (.sl 0), .v (.bool z1), .v (.sl 1)] [.rows 0 false xl0, .rows 2 true xl2])) (fun (_ : Unit) => K (.exit 0) (stOf [(0, [some 0]), (2, []), (4, [some 2])] [.v (.sl 0), .v .any, .v (.sl 1)] [.rows 0 false xl0, .rows 2 true xl2])) n x6
  | 0, _ => rfl
  | n + 1, x6 => (show loopN 1 (Code.den ti (laws_FnLeaks.Γ k) (laws_FnLeaks.LH k) (loopAt Try.f10 0)) [(0, [some 0]), (3, [some 1]), (4, [some 2]), (5, [some 3]), (6, []), (7, [some 4]), (8, [])] [(0, [some 0]), (2, []), (4, [some 2])] K (n + 1) [.v (.sl 0), .v (.sl 1), .v (.sl 2), .v (.sl 3), .v (.int .i64 x4), .v (.sl 4), .v (.int .i64 x6)] [.rows 0 false xl0, .rows 1 true xl1, .rows 2 true xl2, .rows 3 true xl3, .rows 4 true xl4] = laws_FnLeaks.L6 k x4 xl0 xl1 xl2 xl3 xl4 (fun (z1 : Bool) => K .ret (stOf [(0, [some 0]), (2, []), (4, [some 2])] [.v (.sl 0), .v (.bool z1), .v (.sl 1)] [.rows 0 false xl0, .rows 2 true xl2])) (fun (_ : Unit) => K (.exit 0) (stOf [(0, [some 0]), (2, []), (4, [some 2])] [.v (.sl 0), .v .any, .v (.sl 1)] [.rows 0 false xl0, .rows 2 true xl2])) (fun (x6' : Int) => loopN 1 (Code.den ti (laws_FnLeaks.Γ k) (laws_FnLeaks.LH k) (loopAt Try.f10 0)) [(0, [some 0]), (3, [some 1]), (4, [some 2]), (5, [some 3]), (6, []), (7, [some 4]), (8, [])] [(0, [some 0]), (2, []), (4, [some 2])] K n [.v (.sl 0), .v (.sl 1), .v (.sl 2), .v (.sl 3), .v (.int .i64 x4), .v (.sl 4), .v (.int .i64 x6')] [.rows 0 false xl0, .rows 1 true xl1, .rows 2 true xl2, .rows 3 true xl3, .rows 4 true xl4]) x6 by kernel_rfl).trans (congrArg (fun rec => laws_FnLeaks.L6 k x4 xl0 xl1 xl2 xl3 xl4 (fun (z1 : Bool) => K .ret (stOf [(0, [some 0]), (2, []), (4, [some 2])] [.v (.sl 0), .v (.bool z1), .v (.sl 1)] [.rows 0 false xl0, .rows 2 true xl2])) (fun (_ : Unit) => K (.exit 0) (stOf [(0, [some 0]), (2, []), (4, [some 2])] [.v (.sl 0), .v .any, .v (.sl 1)] [.rows 0 false xl0, .rows 2 true xl2])) rec x6) (funext fun x6' => laws_FnLeaks.e6 K k x4 xl0 xl1 xl2 xl3 xl4 n x6'))
theorem laws_FnLeaks.q6 (k : Nat) {R : Type} (K : Ex → St κ → Option R) (vs : List AV) (bs : List (Blk κ)) (r : R) (h : laws_FnLeaks.h6 k K vs bs = some r) : ∃ n, loopN 1 (Code.den ti (laws_FnLeaks.Γ k) (laws_FnLeaks.LH k) (loopAt Try.f10 0)) [(0, [some 0]), (3, [some 1]), (4, [some 2]), (5, [some 3]), (6, []), (7, [some 4]), (8, [])] [(0, [some 0]), (2, []), (4, [some 2])] K n vs bs = some r := by
  unfold laws_FnLeaks.h6 at h
  split at h
  · obtain ⟨_, rfl, h_1⟩ := asO_bind h
    obtain ⟨_, rfl, h_2⟩ := asO_bind h_1
    obtain ⟨_, rfl, h_3⟩ := asO_bind h_2
    obtain ⟨_, rfl, h_4⟩ := asO_bind h_3
    obtain ⟨_, rfl, h_5⟩ := asO_bind h_4
    exact ⟨k, (laws_FnLeaks.e6 K k _ _ _ _ _ _ k _).trans h_5⟩
  · cases h
theorem laws_FnLeaks.lok (k : Nat) : LOK ti (laws_FnLeaks.Γ k) (laws_FnLeaks.LH k) 1 (loopsOf (bodyOf Try.f10)) :=
  (show loopsOf (bodyOf Try.f10) = [loopAt Try.f10 0, loopAt Try.f10 1] by kernel_rfl) ▸ (LOK_cons (g := ⟨1, [(0, [some 0]), (3, [some 1]), (4, [some 2]), (5, [some 3]), (6, []), (7, [some 4]), (8, [])], [(0, [some 0]), (2, []), (4, [some 2])], @laws_FnLeaks.h6 k⟩) (by kernel_rfl) rfl (fun K vs xs r h => laws_FnLeaks.q6 k K vs xs r h) (LOK_cons (g := ⟨1, [(0, [some 0]), (3, [some 1]), (4, [some 2]), (5, [some 3]), (6, []), (7, [some 4]), (8, []), (11, [some 2]), (12, [])], [(0, [some 0]), (2, []), (3, [some 1]), (4, [some 2]), (5, [some 3]), (6, []), (7, [some 4]), (8, [])], @laws_FnLeaks.h16 k⟩) (by kernel_rfl) rfl (fun K vs xs r h => laws_FnLeaks.q16 k K vs xs r h) (LOK_nil)))
def laws_FnLeaks.sig : List PSh := [.one (.ro 0)]
def laws_FnLeaks.g (y : Bool) : Ret κ := ⟨.v (.bool y), [], []⟩
def laws_FnLeaks.out (r : Ret κ) : Option Bool :=
  match r with
  | ⟨.v (.bool z0), [], []⟩ => some (z0)
  | _ => none
theorem laws_FnLeaks.out_ok (r : Ret κ) (y : Bool) (h : laws_FnLeaks.out r = some y) : r = laws_FnLeaks.g y := by
  unfold laws_FnLeaks.out at h
  split at h
  · obtain rfl := Option.some.inj h
    rfl
  · cases h
def laws_FnLeaks.body (k : Nat) (vs : List AV) (bs : List (Blk κ)) : Option (Lf κ) :=
  match vs, bs with
  | [.v (.sl 0)], [qb0] => (asO 0 false qb0).bind fun a0 => some ⟨Bool, laws_FnLeaks.f k a0, laws_FnLeaks.g⟩
  | _, _ => none
def laws_FnLeaks.C (k : Nat) : Nat → List AV → AP κ AV := contract laws_FnLeaks.sig (laws_FnLeaks.body k)
theorem laws_FnLeaks.den (k : Nat) (a0 : List Int) : Code.den ti (laws_FnLeaks.Γ k) (laws_FnLeaks.LH k) (bodyOf Try.f10) (finK ti Try.f10.results.toList [] (flags laws_FnLeaks.sig).length (rwI (flags laws_FnLeaks.sig) 0) laws_FnLeaks.out) ⟨envOf (([.v (.sl 0)]).zipIdx.map fun q => (q.2, q.1)), hpOf [.rows 0 false a0], (flags laws_FnLeaks.sig).length⟩ = laws_FnLeaks.f k a0 := by kernel_rfl
theorem laws_FnLeaks.ok (k : Nat) : CSound Try.prog 10 (laws_FnLeaks.C k) :=
  csound κ_ok mixed tok (laws_FnLeaks.hΓ k) (LH := laws_FnLeaks.LH k) (fn := Try.f10) (c := bodyOf Try.f10) Try.func10 rfl Try.call10 laws_FnLeaks.sig [] (laws_FnLeaks.body k) (by kernel_rfl) (laws_FnLeaks.lok k) (by decide) fun vs bs lf y hl hb hy => by
    unfold laws_FnLeaks.body at hb
    split at hb
    · obtain ⟨_, rfl, hb_1⟩ := asO_bind hb
      obtain rfl := Option.some.inj hb_1
      exact ⟨laws_FnLeaks.out, laws_FnLeaks.out_ok, (laws_FnLeaks.den k _).trans hy⟩
    · cases hb
end Go.Proofs.Ythjdecnheaifkaa.PFnLeaks
