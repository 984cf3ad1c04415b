/- What the functions that the law FnExactCanRollBack reaches come to; no conditions. -/
import Derived.Test.YtoenilndklbceaaGreatPFnExactCanRollBack3
set_option linter.unusedVariables false
set_option maxRecDepth 100000
namespace Go.Proofs.YtoenilndklbceaaGreat.PFnExactCanRollBack
open Go Go.Eng Go.Proofs
/-! ### spec_l27Rules -/
def spec_l27Rules.L6 {R : Type} (k : Nat) (x1 : Int) (xl0 : List T_impl_Grant) (xl1 : List T_impl_Flow) (xl2 : List T_impl_Rule) (xl3 : List T_impl_Op) (xc4_0 : Int) (xc4_1 : Int) (xc4_2 : Int) (xc4_7 : Int) (X0 : Bool → Option R) (rec : Bool → Int → Option R) (x2 : Bool) (x3 : Int) : Option R :=
  (bif decide (x3 < (xl0.length : Int)) then (bif x2 then (rec true (w64 (x3 + (1 : Int)))) else (bif decide (0 ≤ x3) then (bif decide (x3 < (xl0.length : Int)) then (bif ((rd_impl_Grant xl0 x3).f2 == (3 : Int)) then (bif decide (0 ≤ x1) then (bif decide (x1 < (xl2.length : Int)) then (bif decide (0 ≤ x3) then (bif decide (x3 < (xl0.length : Int)) then (spec_IsNarrower.f k ((rd_impl_Rule xl2 x1).f2.f0) ((rd_impl_Rule xl2 x1).f2.f1) ((rd_impl_Grant xl0 x3).f1.f0) ((rd_impl_Grant xl0 x3).f1.f1)).bind fun t1 => (rec t1 (w64 (x3 + (1 : Int)))) else none) else none) else none) else none) else (rec false (w64 (x3 + (1 : Int))))) else none) else none)) else (X0 x2))
def spec_l27Rules.l6 {R : Type} (k : Nat) (x1 : Int) (xl0 : List T_impl_Grant) (xl1 : List T_impl_Flow) (xl2 : List T_impl_Rule) (xl3 : List T_impl_Op) (xc4_0 : Int) (xc4_1 : Int) (xc4_2 : Int) (xc4_7 : Int) (X0 : Bool → Option R) : Nat → Bool → Int → Option R
  | 0 => fun _ _ => none
  | n + 1 => spec_l27Rules.L6 k x1 xl0 xl1 xl2 xl3 xc4_0 xc4_1 xc4_2 xc4_7 X0 (spec_l27Rules.l6 k x1 xl0 xl1 xl2 xl3 xc4_0 xc4_1 xc4_2 xc4_7 X0 n)
def spec_l27Rules.L2 {R : Type} (k : Nat) (xl0 : List T_impl_Grant) (xl1 : List T_impl_Flow) (xl2 : List T_impl_Rule) (xl3 : List T_impl_Op) (xc4_0 : Int) (xc4_1 : Int) (xc4_2 : Int) (xc4_7 : Int) (X0 : Bool → Option R) (X1 : Unit → Option R) (rec : Int → Option R) (x1 : Int) : Option R :=
  (bif decide (x1 < (xl2.length : Int)) then (spec_l27Rules.l6 k x1 xl0 xl1 xl2 xl3 xc4_0 xc4_1 xc4_2 xc4_7 (fun (y1 : Bool) => (bif !y1 then (X0 false) else (rec (w64 (x1 + (1 : Int)))))) k false (0 : Int)) else (X1 ()))
def spec_l27Rules.l2 {R : Type} (k : Nat) (xl0 : List T_impl_Grant) (xl1 : List T_impl_Flow) (xl2 : List T_impl_Rule) (xl3 : List T_impl_Op) (xc4_0 : Int) (xc4_1 : Int) (xc4_2 : Int) (xc4_7 : Int) (X0 : Bool → Option R) (X1 : Unit → Option R) : Nat → Int → Option R
  | 0 => fun _ => none
  | n + 1 => spec_l27Rules.L2 k xl0 xl1 xl2 xl3 xc4_0 xc4_1 xc4_2 xc4_7 X0 X1 (spec_l27Rules.l2 k xl0 xl1 xl2 xl3 xc4_0 xc4_1 xc4_2 xc4_7 X0 X1 n)
def spec_l27Rules.f (k : Nat) (a0_0 : Int) (a0_1 : Int) (a0_2 : Int) (a0_3 : List T_impl_Grant) (a0_4 : List T_impl_Flow) (a0_5 : List T_impl_Rule) (a0_6 : List T_impl_Op) (a0_7 : Int) : Option Bool :=
  (spec_l27Rules.l2 k a0_3 a0_4 a0_5 a0_6 a0_0 a0_1 a0_2 a0_7 (fun (y2 : Bool) => some y2) (fun (_ : Unit) => some true) k (0 : Int))
def spec_l27Rules.h6 (k : Nat) {R : Type} (K : Ex → St κ → Option R) (vs : List AV) (bs : List (Blk κ)) : Option R :=
  match vs, bs with
  | [.v (.ptr 4 0 0), .v (.int .i64 x1), .v (.bool x2), .v (.int .i64 x3)], [qb0, qb1, qb2, qb3, .cells 39 [.int .i64 xc4_0, .int .i64 xc4_1, .int .i64 xc4_2, .sl 0, .sl 1, .sl 2, .sl 3, .int .i64 xc4_7]] => (asO 5 false qb0).bind fun xl0 => (asO 6 false qb1).bind fun xl1 => (asO 7 false qb2).bind fun xl2 => (asO 8 false qb3).bind fun xl3 => spec_l27Rules.l6 k x1 xl0 xl1 xl2 xl3 xc4_0 xc4_1 xc4_2 xc4_7 (fun (z2 : Bool) => K (.exit 2) (stOf [(1, [none, none, none, some 5, some 6, some 7, some 8, none]), (3, []), (4, [])] [.v (.ptr 4 0 0), .v (.int .i64 x1), .v (.bool z2)] [.rows 5 false xl0, .rows 6 false xl1, .rows 7 false xl2, .rows 8 false xl3, .cells 39 [.int .i64 xc4_0, .int .i64 xc4_1, .int .i64 xc4_2, .sl 0, .sl 1, .sl 2, .sl 3, .int .i64 xc4_7]])) k x2 x3
  | _, _ => none
def spec_l27Rules.h2 (k : Nat) {R : Type} (K : Ex → St κ → Option R) (vs : List AV) (bs : List (Blk κ)) : Option R :=
  match vs, bs with
  | [.v (.ptr 4 0 0), .v (.int .i64 x1)], [qb0, qb1, qb2, qb3, .cells 39 [.int .i64 xc4_0, .int .i64 xc4_1, .int .i64 xc4_2, .sl 0, .sl 1, .sl 2, .sl 3, .int .i64 xc4_7]] => (asO 5 false qb0).bind fun xl0 => (asO 6 false qb1).bind fun xl1 => (asO 7 false qb2).bind fun xl2 => (asO 8 false qb3).bind fun xl3 => spec_l27Rules.l2 k xl0 xl1 xl2 xl3 xc4_0 xc4_1 xc4_2 xc4_7 (fun (z0 : Bool) => K .ret (stOf [(2, [])] [.v (.bool z0)] [.rows 5 false xl0, .rows 6 false xl1, .rows 7 false xl2, .rows 8 false xl3])) (fun (_ : Unit) => K (.exit 0) (stOf [(2, [])] [.v .any] [.rows 5 false xl0, .rows 6 false xl1, .rows 7 false xl2, .rows 8 false xl3])) k x1
  | _, _ => none
def spec_l27Rules.Γ (k : Nat) : Ct κ := assoc [(143, spec_IsNarrower.C k)]
def spec_l27Rules.LH (k : Nat) : Nat → Option (LHi κ) := assoc [(6, ⟨4, [(1, [none, none, none, some 5, some 6, some 7, some 8, none]), (3, []), (4, []), (5, [])], [(1, [none, none, none, some 5, some 6, some 7, some 8, none]), (3, []), (4, [])], @spec_l27Rules.h6 k⟩), (2, ⟨4, [(1, [none, none, none, some 5, some 6, some 7, some 8, none]), (3, [])], [(2, [])], @spec_l27Rules.h2 k⟩)]
theorem spec_l27Rules.hΓ (k : Nat) : ∀ f g, spec_l27Rules.Γ k f = some g → CSound Tryz.prog f g := G_cons (spec_IsNarrower.ok k) G_nil
theorem spec_l27Rules.e6 {R : Type} (K : Ex → St κ → Option R) (k : Nat) (x1 : Int) (xl0 : List T_impl_Grant) (xl1 : List T_impl_Flow) (xl2 : List T_impl_Rule) (xl3 : List T_impl_Op) (xc4_0 : Int) (xc4_1 : Int) (xc4_2 : Int) (xc4_7 : Int) : ∀ (n : Nat) (x2 : Bool) (x3 : Int), loopN 4 (Code.den ti (spec_l27Rules.Γ k) (spec_l27Rules.LH k) (loopAt Tryz.f95 1)) [(1, [none, none, none, some 5, some 6, some 7, some 8, none]), (3, []), (4, []), (5, [])] [(1, [none, none, none, some 5, some 6, some 7, some 8, none]), (3, []), (4, [])] K n [.v (.ptr 4 0 0), .v (.int .i64 x1), .v (.bool x2), .v (.int .i64 x3)] [.rows 5 false xl0, .rows 6 false xl1, .rows 7 false xl2, .rows 8 false xl3, .cells 39 [.int .i64 xc4_0, .int .i64 xc4_1, .int .i64 xc4_2, .sl 0, .sl 1, .sl 2, .sl 3, .int .i64 xc4_7]] = spec_l27Rules.l6 k x1 xl0 xl1 xl2 xl3 xc4_0 xc4_1 xc4_2 xc4_7 (fun (z2 : Bool) => K (.exit 2) (stOf [(1, [none, none, none, some 5, some 6, some 7, some 8, none]), (3, []), (4, [])] [.v (.ptr 4 0 0), .v (.int .i64 x1), .v (.bool z2)] [.rows 5 false xl0, .rows 6 false xl1, .rows 7 false xl2, .rows 8 false xl3, .cells 39 [.int .i64 xc4_0, .int .i64 xc4_1, .int .i64 xc4_2, .sl 0, .sl 1, .sl 2, .sl 3, .int .i64 xc4_7]])) n x2 x3
  | 0, _, _ => rfl
  | n + 1, x2, x3 => (show loopN 4 (Code.den ti (spec_l27Rules.Γ k) (spec_l27Rules.LH k) (loopAt Tryz.f95 1)) [(1, [none, none, none, some 5, some 6, some 7, some 8, none]), (3, []), (4, []), (5, [])] [(1, [none, none, none, some 5, some 6, some 7, some 8, none]), (3, []), (4, [])] K (n + 1) [.v (.ptr 4 0 0), .v (.int .i64 x1), .v (.bool x2), .v (.int .i64 x3)] [.rows 5 false xl0, .rows 6 false xl1, .rows 7 false xl2, .rows 8 false xl3, .cells 39 [.int .i64 xc4_0, .int .i64 xc4_1, .int .i64 xc4_2, .sl 0, .sl 1, .sl 2, .sl 3, .int .i64 xc4_7]] = spec_l27Rules.L6 k x1 xl0 xl1 xl2 xl3 xc4_0 xc4_1 xc4_2 xc4_7 (fun (z2 : Bool) => K (.exit 2) (stOf [(1, [none, none, none, some 5, some 6, some 7, some 8, none]), (3, []), (4, [])] [.v (.ptr 4 0 0), .v (.int .i64 x1), .v (.bool z2)] [.rows 5 false xl0, .rows 6 false xl1, .rows 7 false xl2, .rows 8 false xl3, .cells 39 [.int .i64 xc4_0, .int .i64 xc4_1, .int .i64 xc4_2, .sl 0, .sl 1, .sl 2, .sl 3, .int .i64 xc4_7]])) (fun (x2' : Bool) (x3' : Int) => loopN 4 (Code.den ti (spec_l27Rules.Γ k) (spec_l27Rules.LH k) (loopAt Tryz.f95 1)) [(1, [none, none, none, some 5, some 6, some 7, some 8, none]), (3, []), (4, []), (5, [])] [(1, [none, none, none, some 5, some 6, some 7, some 8, none]), (3, []), (4, [])] K n [.v (.ptr 4 0 0), .v (.int .i64 x1), .v (.bool x2'), .v (.int .i64 x3')] [.rows 5 false xl0, .rows 6 false xl1, .rows 7 false xl2, .rows 8 false xl3, .cells 39 [.int .i64 xc4_0, .int .i64 xc4_1, .int .i64 xc4_2, .sl 0, .sl 1, .sl 2, .sl 3, .int .i64 xc4_7]]) x2 x3 by kernel_rfl).trans (congrArg (fun rec => spec_l27Rules.L6 k x1 xl0 xl1 xl2 xl3 xc4_0 xc4_1 xc4_2 xc4_7 (fun (z2 : Bool) => K (.exit 2) (stOf [(1, [none, none, none, some 5, some 6, some 7, some 8, none]), (3, []), (4, [])] [.v (.ptr 4 0 0), .v (.int .i64 x1), .v (.bool z2)] [.rows 5 false xl0, .rows 6 false xl1, .rows 7 false xl2, .rows 8 false xl3, .cells 39 [.int .i64 xc4_0, .int .i64 xc4_1, .int .i64 xc4_2, .sl 0, .sl 1, .sl 2, .sl 3, .int .i64 xc4_7]])) rec x2 x3) (funext fun x2' => funext fun x3' => spec_l27Rules.e6 K k x1 xl0 xl1 xl2 xl3 xc4_0 xc4_1 xc4_2 xc4_7 n x2' x3'))
theorem spec_l27Rules.q6 (k : Nat) {R : Type} (K : Ex → St κ → Option R) (vs : List AV) (bs : List (Blk κ)) (r : R) (h : spec_l27Rules.h6 k K vs bs = some r) : ∃ n, loopN 4 (Code.den ti (spec_l27Rules.Γ k) (spec_l27Rules.LH k) (loopAt Tryz.f95 1)) [(1, [none, none, none, some 5, some 6, some 7, some 8, none]), (3, []), (4, []), (5, [])] [(1, [none, none, none, some 5, some 6, some 7, some 8, none]), (3, []), (4, [])] K n vs bs = some r := by
  unfold spec_l27Rules.h6 at h
  split at h
  · obtain ⟨_, rfl, h_1⟩ := asO_bind h
    obtain ⟨_, rfl, h_2⟩ := asO_bind h_1
    obtain ⟨_, rfl, h_3⟩ := asO_bind h_2
    obtain ⟨_, rfl, h_4⟩ := asO_bind h_3
    exact ⟨k, (spec_l27Rules.e6 K k _ _ _ _ _ _ _ _ _ k _ _).trans h_4⟩
  · cases h
theorem spec_l27Rules.e2 {R : Type} (K : Ex → St κ → Option R) (k : Nat) (xl0 : List T_impl_Grant) (xl1 : List T_impl_Flow) (xl2 : List T_impl_Rule) (xl3 : List T_impl_Op) (xc4_0 : Int) (xc4_1 : Int) (xc4_2 : Int) (xc4_7 : Int) : ∀ (n : Nat) (x1 : Int), loopN 4 (Code.den ti (spec_l27Rules.Γ k) (spec_l27Rules.LH k) (loopAt Tryz.f95 0)) [(1, [none, none, none, some 5, some 6, some 7, some 8, none]), (3, [])] [(2, [])] K n [.v (.ptr 4 0 0), .v (.int .i64 x1)] [.rows 5 false xl0, .rows 6 false xl1, .rows 7 false xl2, .rows 8 false xl3, .cells 39 [.int .i64 xc4_0, .int .i64 xc4_1, .int .i64 xc4_2, .sl 0, .sl 1, .sl 2, .sl 3, .int .i64 xc4_7]] = spec_l27Rules.l2 k xl0 xl1 xl2 xl3 xc4_0 xc4_1 xc4_2 xc4_7 (fun (z0 : Bool) => K .ret (stOf [(2, [])] [.v (.bool z0)] [.rows 5 false xl0, .rows 6 false xl1, .rows 7 false xl2, .rows 8 false xl3])) (fun (_ : Unit) => K (.exit 0) (stOf [(2, [])] [.v .any] [.rows 5 false xl0, .rows 6 false xl1, .rows 7 false xl2, .rows 8 false xl3])) n x1
  | 0, _ => rfl
  | n + 1, x1 => (show loopN 4 (Code.den ti (spec_l27Rules.Γ k) (spec_l27Rules.LH k) (loopAt Tryz.f95 0)) [(1, [none, none, none, some 5, some 6, some 7, some 8, none]), (3, [])] [(2, [])] K (n + 1) [.v (.ptr 4 0 0), .v (.int .i64 x1)] [.rows 5 false xl0, .rows 6 false xl1, .rows 7 false xl2, .rows 8 false xl3, .cells 39 [.int .i64 xc4_0, .int .i64 xc4_1, .int .i64 xc4_2, .sl 0, .sl 1, .sl 2, .sl 3, .int .i64 xc4_7]] = spec_l27Rules.L2 k xl0 xl1 xl2 xl3 xc4_0 xc4_1 xc4_2 xc4_7 (fun (z0 : Bool) => K .ret (stOf [(2, [])] [.v (.bool z0)] [.rows 5 false xl0, .rows 6 false xl1, .rows 7 false xl2, .rows 8 false xl3])) (fun (_ : Unit) => K (.exit 0) (stOf [(2, [])] [.v .any] [.rows 5 false xl0, .rows 6 false xl1, .rows 7 false xl2, .rows 8 false xl3])) (fun (x1' : Int) => loopN 4 (Code.den ti (spec_l27Rules.Γ k) (spec_l27Rules.LH k) (loopAt Tryz.f95 0)) [(1, [none, none, none, some 5, some 6, some 7, some 8, none]), (3, [])] [(2, [])] K n [.v (.ptr 4 0 0), .v (.int .i64 x1')] [.rows 5 false xl0, .rows 6 false xl1, .rows 7 false xl2, .rows 8 false xl3, .cells 39 [.int .i64 xc4_0, .int .i64 xc4_1, .int .i64 xc4_2, .sl 0, .sl 1, .sl 2, .sl 3, .int .i64 xc4_7]]) x1 by kernel_rfl).trans (congrArg (fun rec => spec_l27Rules.L2 k xl0 xl1 xl2 xl3 xc4_0 xc4_1 xc4_2 xc4_7 (fun (z0 : Bool) => K .ret (stOf [(2, [])] [.v (.bool z0)] [.rows 5 false xl0, .rows 6 false xl1, .rows 7 false xl2, .rows 8 false xl3])) (fun (_ : Unit) => K (.exit 0) (stOf [(2, [])] [.v .any] [.rows 5 false xl0, .rows 6 false xl1, .rows 7 false xl2, .rows 8 false xl3])) rec x1) (funext fun x1' => spec_l27Rules.e2 K k xl0 xl1 xl2 xl3 xc4_0 xc4_1 xc4_2 xc4_7 n x1'))
theorem spec_l27Rules.q2 (k : Nat) {R : Type} (K : Ex → St κ → Option R) (vs : List AV) (bs : List (Blk κ)) (r : R) (h : spec_l27Rules.h2 k K vs bs = some r) : ∃ n, loopN 4 (Code.den ti (spec_l27Rules.Γ k) (spec_l27Rules.LH k) (loopAt Tryz.f95 0)) [(1, [none, none, none, some 5, some 6, some 7, some 8, none]), (3, [])] [(2, [])] K n vs bs = some r := by
  unfold spec_l27Rules.h2 at h
  split at h
  · obtain ⟨_, rfl, h_1⟩ := asO_bind h
    obtain ⟨_, rfl, h_2⟩ := asO_bind h_1
    obtain ⟨_, rfl, h_3⟩ := asO_bind h_2
    obtain ⟨_, rfl, h_4⟩ := asO_bind h_3
    exact ⟨k, (spec_l27Rules.e2 K k _ _ _ _ _ _ _ _ k _).trans h_4⟩
  · cases h
theorem spec_l27Rules.lok (k : Nat) : LOK ti (spec_l27Rules.Γ k) (spec_l27Rules.LH k) 4 (loopsOf (bodyOf Tryz.f95)) :=
  (show loopsOf (bodyOf Tryz.f95) = [loopAt Tryz.f95 0, loopAt Tryz.f95 1] by kernel_rfl) ▸ (LOK_cons (g := ⟨4, [(1, [none, none, none, some 5, some 6, some 7, some 8, none]), (3, [])], [(2, [])], @spec_l27Rules.h2 k⟩) (by kernel_rfl) rfl (fun K vs xs r h => spec_l27Rules.q2 k K vs xs r h) (LOK_cons (g := ⟨4, [(1, [none, none, none, some 5, some 6, some 7, some 8, none]), (3, []), (4, []), (5, [])], [(1, [none, none, none, some 5, some 6, some 7, some 8, none]), (3, []), (4, [])], @spec_l27Rules.h6 k⟩) (by kernel_rfl) rfl (fun K vs xs r h => spec_l27Rules.q6 k K vs xs r h) (LOK_nil)))
def spec_l27Rules.sig : List PSh := [.agg [.sc, .sc, .sc, .ro 5, .ro 6, .ro 7, .ro 8, .sc]]
def spec_l27Rules.g (y : Bool) : Ret κ := ⟨.v (.bool y), [], []⟩
def spec_l27Rules.out (r : Ret κ) : Option Bool :=
  match r with
  | ⟨.v (.bool z0), [], []⟩ => some (z0)
  | _ => none
theorem spec_l27Rules.out_ok (r : Ret κ) (y : Bool) (h : spec_l27Rules.out r = some y) : r = spec_l27Rules.g y := by
  unfold spec_l27Rules.out at h
  split at h
  · obtain rfl := Option.some.inj h
    rfl
  · cases h
def spec_l27Rules.body (k : Nat) (vs : List AV) (bs : List (Blk κ)) : Option (Lf κ) :=
  match vs, bs with
  | [.agg [.int .i64 a0_0, .int .i64 a0_1, .int .i64 a0_2, .sl 0, .sl 1, .sl 2, .sl 3, .int .i64 a0_7]], [qb0, qb1, qb2, qb3] => (asO 5 false qb0).bind fun a0_3 => (asO 6 false qb1).bind fun a0_4 => (asO 7 false qb2).bind fun a0_5 => (asO 8 false qb3).bind fun a0_6 => some ⟨Bool, spec_l27Rules.f k a0_0 a0_1 a0_2 a0_3 a0_4 a0_5 a0_6 a0_7, spec_l27Rules.g⟩
  | _, _ => none
def spec_l27Rules.C (k : Nat) : Nat → List AV → AP κ AV := contract spec_l27Rules.sig (spec_l27Rules.body k)
theorem spec_l27Rules.den (k : Nat) (a0_0 : Int) (a0_1 : Int) (a0_2 : Int) (a0_3 : List T_impl_Grant) (a0_4 : List T_impl_Flow) (a0_5 : List T_impl_Rule) (a0_6 : List T_impl_Op) (a0_7 : Int) : Code.den ti (spec_l27Rules.Γ k) (spec_l27Rules.LH k) (bodyOf Tryz.f95) (finK ti Tryz.f95.results.toList [] (flags spec_l27Rules.sig).length (rwI (flags spec_l27Rules.sig) 0) spec_l27Rules.out) ⟨envOf (([.agg [.int .i64 a0_0, .int .i64 a0_1, .int .i64 a0_2, .sl 0, .sl 1, .sl 2, .sl 3, .int .i64 a0_7]]).zipIdx.map fun q => (q.2, q.1)), hpOf [.rows 5 false a0_3, .rows 6 false a0_4, .rows 7 false a0_5, .rows 8 false a0_6], (flags spec_l27Rules.sig).length⟩ = spec_l27Rules.f k a0_0 a0_1 a0_2 a0_3 a0_4 a0_5 a0_6 a0_7 := by kernel_rfl
theorem spec_l27Rules.ok (k : Nat) : CSound Tryz.prog 95 (spec_l27Rules.C k) :=
  csound κ_ok mixed tok (spec_l27Rules.hΓ k) (LH := spec_l27Rules.LH k) (fn := Tryz.f95) (c := bodyOf Tryz.f95) Tryz.func95 rfl Tryz.call95 spec_l27Rules.sig [] (spec_l27Rules.body k) (by kernel_rfl) (spec_l27Rules.lok k) (by decide) fun vs bs lf y hl hb hy => by
    unfold spec_l27Rules.body at hb
    split at hb
    · obtain ⟨_, rfl, hb_1⟩ := asO_bind hb
      obtain ⟨_, rfl, hb_2⟩ := asO_bind hb_1
      obtain ⟨_, rfl, hb_3⟩ := asO_bind hb_2
      obtain ⟨_, rfl, hb_4⟩ := asO_bind hb_3
      obtain rfl := Option.some.inj hb_4
      exact ⟨spec_l27Rules.out, spec_l27Rules.out_ok, (spec_l27Rules.den k _ _ _ _ _ _ _ _).trans hy⟩
    · cases hb
/-! ### spec_l6Put -/
def spec_l6Put.L2 {R : Type} (k : Nat) (x1 : Int) (xl0 : List Int) (X0 : Int → Option R) (rec : Int → Option R) (x2 : Int) : Option R :=
  (bif decide (x2 < (xl0.length : Int)) then (bif decide (0 ≤ x2) then (bif decide (x2 < (xl0.length : Int)) then (bif decide ((rd_i64 xl0 x2) < x1) then (rec (w64 (x2 + (1 : Int)))) else (X0 x2)) else none) else none) else (X0 x2))
def spec_l6Put.l2 {R : Type} (k : Nat) (x1 : Int) (xl0 : List Int) (X0 : Int → Option R) : Nat → Int → Option R
  | 0 => fun _ => none
  | n + 1 => spec_l6Put.L2 k x1 xl0 X0 (spec_l6Put.l2 k x1 xl0 X0 n)
def spec_l6Put.f (k : Nat) (a0 : List Int) (a1 : Int) : Option (List Int) :=
  (spec_l6Put.l2 k a1 a0 (fun (y1 : Int) => (bif decide (y1 < (a0.length : Int)) then (bif decide (0 ≤ y1) then (bif decide (y1 < (a0.length : Int)) then (bif ((rd_i64 a0 y1) == a1) then (bif decide ((([] : List Int).length + a0.length) * 8 ≤ cap48) then some (([] : List Int) ++ a0) else none) else (bif decide (0 ≤ y1) then (bif decide (y1 ≤ (a0.length : Int)) then (bif decide (0 ≤ (0 : Int)) then (bif decide ((0 : Int) ≤ y1) then (bif decide ((([] : List Int).length + ((a0.take (y1).toNat).drop ((0 : Int)).toNat).length) * 8 ≤ cap48) then (let l2 : List Int := (([] : List Int) ++ ((a0.take (y1).toNat).drop ((0 : Int)).toNat)); (bif decide ((l2.length + ([a1] : List Int).length) * 8 ≤ cap48) then (bif decide (0 ≤ (a0.length : Int)) then (bif decide ((a0.length : Int) ≤ (a0.length : Int)) then (bif decide (0 ≤ y1) then (bif decide (y1 ≤ (a0.length : Int)) then (bif decide (((l2 ++ ([a1] : List Int)).length + ((a0.take ((a0.length : Int)).toNat).drop (y1).toNat).length) * 8 ≤ cap48) then (let l3 : List Int := ((l2 ++ ([a1] : List Int)) ++ ((a0.take ((a0.length : Int)).toNat).drop (y1).toNat)); some l3) else none) else none) else none) else none) else none) else none)) else none) else none) else none) else none) else none)) else none) else none) else (bif decide (0 ≤ y1) then (bif decide (y1 ≤ (a0.length : Int)) then (bif decide (0 ≤ (0 : Int)) then (bif decide ((0 : Int) ≤ y1) then (bif decide ((([] : List Int).length + ((a0.take (y1).toNat).drop ((0 : Int)).toNat).length) * 8 ≤ cap48) then (let l4 : List Int := (([] : List Int) ++ ((a0.take (y1).toNat).drop ((0 : Int)).toNat)); (bif decide ((l4.length + ([a1] : List Int).length) * 8 ≤ cap48) then (bif decide (0 ≤ (a0.length : Int)) then (bif decide ((a0.length : Int) ≤ (a0.length : Int)) then (bif decide (0 ≤ y1) then (bif decide (y1 ≤ (a0.length : Int)) then (bif decide (((l4 ++ ([a1] : List Int)).length + ((a0.take ((a0.length : Int)).toNat).drop (y1).toNat).length) * 8 ≤ cap48) then (let l5 : List Int := ((l4 ++ ([a1] : List Int)) ++ ((a0.take ((a0.length : Int)).toNat).drop (y1).toNat)); some l5) else none) else none) else none) else none) else none) else none)) else none) else none) else none) else none) else none))) k (0 : Int))
def spec_l6Put.h2 (k : Nat) {R : Type} (K : Ex → St κ → Option R) (vs : List AV) (bs : List (Blk κ)) : Option R :=
  match vs, bs with
  | [.v (.sl 0), .v (.int .i64 x1), .v (.int .i64 x2)], [qb0] => (asO 10 false qb0).bind fun xl0 => spec_l6Put.l2 k x1 xl0 (fun (z2 : Int) => K (.exit 0) (stOf [(0, [some 10]), (1, []), (5, [])] [.v (.sl 0), .v (.int .i64 x1), .v (.int .i64 z2)] [.rows 10 false xl0])) k x2
  | _, _ => none
def spec_l6Put.Γ (k : Nat) : Ct κ := assoc []
def spec_l6Put.LH (k : Nat) : Nat → Option (LHi κ) := assoc [(2, ⟨1, [(0, [some 10]), (1, []), (5, [])], [(0, [some 10]), (1, []), (5, [])], @spec_l6Put.h2 k⟩)]
theorem spec_l6Put.hΓ (k : Nat) : ∀ f g, spec_l6Put.Γ k f = some g → CSound Tryz.prog f g := G_nil
theorem spec_l6Put.e2 {R : Type} (K : Ex → St κ → Option R) (k : Nat) (x1 : Int) (xl0 : List Int) : ∀ (n : Nat) (x2 : Int), loopN 1 (Code.den ti (spec_l6Put.Γ k) (spec_l6Put.LH k) (loopAt Tryz.f172 0)) [(0, [some 10]), (1, []), (5, [])] [(0, [some 10]), (1, []), (5, [])] K n [.v (.sl 0), .v (.int .i64 x1), .v (.int .i64 x2)] [.rows 10 false xl0] = spec_l6Put.l2 k x1 xl0 (fun (z2 : Int) => K (.exit 0) (stOf [(0, [some 10]), (1, []), (5, [])] [.v (.sl 0), .v (.int .i64 x1), .v (.int .i64 z2)] [.rows 10 false xl0])) n x2
  | 0, _ => rfl
  | n + 1, x2 => (show loopN 1 (Code.den ti (spec_l6Put.Γ k) (spec_l6Put.LH k) (loopAt Tryz.f172 0)) [(0, [some 10]), (1, []), (5, [])] [(0, [some 10]), (1, []), (5, [])] K (n + 1) [.v (.sl 0), .v (.int .i64 x1), .v (.int .i64 x2)] [.rows 10 false xl0] = spec_l6Put.L2 k x1 xl0 (fun (z2 : Int) => K (.exit 0) (stOf [(0, [some 10]), (1, []), (5, [])] [.v (.sl 0), .v (.int .i64 x1), .v (.int .i64 z2)] [.rows 10 false xl0])) (fun (x2' : Int) => loopN 1 (Code.den ti (spec_l6Put.Γ k) (spec_l6Put.LH k) (loopAt Tryz.f172 0)) [(0, [some 10]), (1, []), (5, [])] [(0, [some 10]), (1, []), (5, [])] K n [.v (.sl 0), .v (.int .i64 x1), .v (.int .i64 x2')] [.rows 10 false xl0]) x2 by kernel_rfl).trans (congrArg (fun rec => spec_l6Put.L2 k x1 xl0 (fun (z2 : Int) => K (.exit 0) (stOf [(0, [some 10]), (1, []), (5, [])] [.v (.sl 0), .v (.int .i64 x1), .v (.int .i64 z2)] [.rows 10 false xl0])) rec x2) (funext fun x2' => spec_l6Put.e2 K k x1 xl0 n x2'))
theorem spec_l6Put.q2 (k : Nat) {R : Type} (K : Ex → St κ → Option R) (vs : List AV) (bs : List (Blk κ)) (r : R) (h : spec_l6Put.h2 k K vs bs = some r) : ∃ n, loopN 1 (Code.den ti (spec_l6Put.Γ k) (spec_l6Put.LH k) (loopAt Tryz.f172 0)) [(0, [some 10]), (1, []), (5, [])] [(0, [some 10]), (1, []), (5, [])] K n vs bs = some r := by
  unfold spec_l6Put.h2 at h
  split at h
  · obtain ⟨_, rfl, h_1⟩ := asO_bind h
    exact ⟨k, (spec_l6Put.e2 K k _ _ k _).trans h_1⟩
  · cases h
theorem spec_l6Put.lok (k : Nat) : LOK ti (spec_l6Put.Γ k) (spec_l6Put.LH k) 1 (loopsOf (bodyOf Tryz.f172)) :=
  (show loopsOf (bodyOf Tryz.f172) = [loopAt Tryz.f172 0] by kernel_rfl) ▸ (LOK_cons (g := ⟨1, [(0, [some 10]), (1, []), (5, [])], [(0, [some 10]), (1, []), (5, [])], @spec_l6Put.h2 k⟩) (by kernel_rfl) rfl (fun K vs xs r h => spec_l6Put.q2 k K vs xs r h) (LOK_nil))
def spec_l6Put.sig : List PSh := [.one (.ro 10), .one .sc]
def spec_l6Put.g (y : List Int) : Ret κ := ⟨.v (.sl 1), [], [.rows 10 true y]⟩
def spec_l6Put.out (r : Ret κ) : Option (List Int) :=
  match r with
  | ⟨.v (.sl 1), [], [q0]⟩ => (asO 10 true q0).bind fun z0 => some (z0)
  | _ => none
theorem spec_l6Put.out_ok (r : Ret κ) (y : List Int) (h : spec_l6Put.out r = some y) : r = spec_l6Put.g y := by
  unfold spec_l6Put.out at h
  split at h
  · obtain ⟨_, rfl, h_1⟩ := asO_bind h
    obtain rfl := Option.some.inj h_1
    rfl
  · cases h
def spec_l6Put.body (k : Nat) (vs : List AV) (bs : List (Blk κ)) : Option (Lf κ) :=
  match vs, bs with
  | [.v (.sl 0), .v (.int .i64 a1)], [qb0] => (asO 10 false qb0).bind fun a0 => some ⟨List Int, spec_l6Put.f k a0 a1, spec_l6Put.g⟩
  | _, _ => none
def spec_l6Put.C (k : Nat) : Nat → List AV → AP κ AV := contract spec_l6Put.sig (spec_l6Put.body k)
theorem spec_l6Put.den (k : Nat) (a0 : List Int) (a1 : Int) : Code.den ti (spec_l6Put.Γ k) (spec_l6Put.LH k) (bodyOf Tryz.f172) (finK ti Tryz.f172.results.toList [(4, [some 10])] (flags spec_l6Put.sig).length (rwI (flags spec_l6Put.sig) 0) spec_l6Put.out) ⟨envOf (([.v (.sl 0), .v (.int .i64 a1)]).zipIdx.map fun q => (q.2, q.1)), hpOf [.rows 10 false a0], (flags spec_l6Put.sig).length⟩ = spec_l6Put.f k a0 a1 := by kernel_rfl
theorem spec_l6Put.ok (k : Nat) : CSound Tryz.prog 172 (spec_l6Put.C k) :=
  csound κ_ok mixed tok (spec_l6Put.hΓ k) (LH := spec_l6Put.LH k) (fn := Tryz.f172) (c := bodyOf Tryz.f172) Tryz.func172 rfl Tryz.call172 spec_l6Put.sig [(4, [some 10])] (spec_l6Put.body k) (by kernel_rfl) (spec_l6Put.lok k) (by decide) fun vs bs lf y hl hb hy => by
    unfold spec_l6Put.body at hb
    split at hb
    · obtain ⟨_, rfl, hb_1⟩ := asO_bind hb
      obtain rfl := Option.some.inj hb_1
      exact ⟨spec_l6Put.out, spec_l6Put.out_ok, (spec_l6Put.den k _ _).trans hy⟩
    · cases hb
/-! ### spec_l27Owners -/
def spec_l27Owners.L3 {R : Type} (k : Nat) (x1 : Int) (xl0 : List T_impl_Op) (X0 : List Int → Option R) (rec : Int → List Int → Option R) (x3 : Int) (xl1 : List Int) : Option R :=
  (bif decide (x3 < (xl0.length : Int)) then (spec_AreOps.f k xl0).bind fun t1 => (bif t1 then (bif decide (0 ≤ x3) then (bif decide (x3 < (xl0.length : Int)) then (bif ((rd_impl_Op xl0 x3).f0 == x1) then (bif decide (0 ≤ x3) then (bif decide (x3 < (xl0.length : Int)) then (spec_l6Put.f k xl1 ((rd_impl_Op xl0 x3).f2)).bind fun t2 => (rec (w64 (x3 + (1 : Int))) t2) else none) else none) else (rec (w64 (x3 + (1 : Int))) xl1)) else none) else none) else (X0 xl1)) else (X0 xl1))
def spec_l27Owners.l3 {R : Type} (k : Nat) (x1 : Int) (xl0 : List T_impl_Op) (X0 : List Int → Option R) : Nat → Int → List Int → Option R
  | 0 => fun _ _ => none
  | n + 1 => spec_l27Owners.L3 k x1 xl0 X0 (spec_l27Owners.l3 k x1 xl0 X0 n)
def spec_l27Owners.f (k : Nat) (a0 : List T_impl_Op) (a1 : Int) : Option (List Int) :=
  (spec_l27Owners.l3 k a1 a0 (fun (y3 : List Int) => some y3) k (0 : Int) ([] : List Int))
def spec_l27Owners.h3 (k : Nat) {R : Type} (K : Ex → St κ → Option R) (vs : List AV) (bs : List (Blk κ)) : Option R :=
  match vs, bs with
  | [.v (.sl 0), .v (.int .i64 x1), .v (.sl 1), .v (.int .i64 x3)], [qb0, qb1] => (asO 8 false qb0).bind fun xl0 => (asO 10 true qb1).bind fun xl1 => spec_l27Owners.l3 k x1 xl0 (fun (zl1 : List Int) => K (.exit 0) (stOf [(5, [some 10])] [.v (.sl 1)] [.rows 8 false xl0, .rows 10 true zl1])) k x3 xl1
  | _, _ => none
def spec_l27Owners.Γ (k : Nat) : Ct κ := assoc [(102, spec_AreOps.C k), (172, spec_l6Put.C k)]
def spec_l27Owners.LH (k : Nat) : Nat → Option (LHi κ) := assoc [(3, ⟨1, [(0, [some 8]), (1, []), (5, [some 10]), (6, [])], [(5, [some 10])], @spec_l27Owners.h3 k⟩)]
theorem spec_l27Owners.hΓ (k : Nat) : ∀ f g, spec_l27Owners.Γ k f = some g → CSound Tryz.prog f g := G_cons (spec_AreOps.ok k) (G_cons (spec_l6Put.ok k) G_nil)
theorem spec_l27Owners.e3 {R : Type} (K : Ex → St κ → Option R) (k : Nat) (x1 : Int) (xl0 : List T_impl_Op) : ∀ (n : Nat) (x3 : Int) (xl1 : List Int), loopN 1 (Code.den ti (spec_l27Owners.Γ k) (spec_l27Owners.LH k) (loopAt Tryz.f145 0)) [(0, [some 8]), (1, []), (5, [some 10]), (6, [])] [(5, [some 10])] K n [.v (.sl 0), .v (.int .i64 x1), .v (.sl 1), .v (.int .i64 x3)] [.rows 8 false xl0, .rows 10 true xl1] = spec_l27Owners.l3 k x1 xl0 (fun (zl1 : List Int) => K (.exit 0) (stOf [(5, [some 10])] [.v (.sl 1)] [.rows 8 false xl0, .rows 10 true zl1])) n x3 xl1
  | 0, _, _ => rfl
  | n + 1, x3, xl1 => (show loopN 1 (Code.den ti (spec_l27Owners.Γ k) (spec_l27Owners.LH k) (loopAt Tryz.f145 0)) [(0, [some 8]), (1, []), (5, [some 10]), (6, [])] [(5, [some 10])] K (n + 1) [.v (.sl 0), .v (.int .i64 x1), .v (.sl 1), .v (.int .i64 x3)] [.rows 8 false xl0, .rows 10 true xl1] = spec_l27Owners.L3 k x1 xl0 (fun (zl1 : List Int) => K (.exit 0) (stOf [(5, [some 10])] [.v (.sl 1)] [.rows 8 false xl0, .rows 10 true zl1])) (fun (x3' : Int) (xl1' : List Int) => loopN 1 (Code.den ti (spec_l27Owners.Γ k) (spec_l27Owners.LH k) (loopAt Tryz.f145 0)) [(0, [some 8]), (1, []), (5, [some 10]), (6, [])] [(5, [some 10])] K n [.v (.sl 0), .v (.int .i64 x1), .v (.sl 1), .v (.int .i64 x3')] [.rows 8 false xl0, .rows 10 true xl1']) x3 xl1 by kernel_rfl).trans (congrArg (fun rec => spec_l27Owners.L3 k x1 xl0 (fun (zl1 : List Int) => K (.exit 0) (stOf [(5, [some 10])] [.v (.sl 1)] [.rows 8 false xl0, .rows 10 true zl1])) rec x3 xl1) (funext fun x3' => funext fun xl1' => spec_l27Owners.e3 K k x1 xl0 n x3' xl1'))
theorem spec_l27Owners.q3 (k : Nat) {R : Type} (K : Ex → St κ → Option R) (vs : List AV) (bs : List (Blk κ)) (r : R) (h : spec_l27Owners.h3 k K vs bs = some r) : ∃ n, loopN 1 (Code.den ti (spec_l27Owners.Γ k) (spec_l27Owners.LH k) (loopAt Tryz.f145 0)) [(0, [some 8]), (1, []), (5, [some 10]), (6, [])] [(5, [some 10])] K n vs bs = some r := by
  unfold spec_l27Owners.h3 at h
  split at h
  · obtain ⟨_, rfl, h_1⟩ := asO_bind h
    obtain ⟨_, rfl, h_2⟩ := asO_bind h_1
    exact ⟨k, (spec_l27Owners.e3 K k _ _ k _ _).trans h_2⟩
  · cases h
theorem spec_l27Owners.lok (k : Nat) : LOK ti (spec_l27Owners.Γ k) (spec_l27Owners.LH k) 1 (loopsOf (bodyOf Tryz.f145)) :=
  (show loopsOf (bodyOf Tryz.f145) = [loopAt Tryz.f145 0] by kernel_rfl) ▸ (LOK_cons (g := ⟨1, [(0, [some 8]), (1, []), (5, [some 10]), (6, [])], [(5, [some 10])], @spec_l27Owners.h3 k⟩) (by kernel_rfl) rfl (fun K vs xs r h => spec_l27Owners.q3 k K vs xs r h) (LOK_nil))
def spec_l27Owners.sig : List PSh := [.one (.ro 8), .one .sc]
def spec_l27Owners.g (y : List Int) : Ret κ := ⟨.v (.sl 1), [], [.rows 10 true y]⟩
def spec_l27Owners.out (r : Ret κ) : Option (List Int) :=
  match r with
  | ⟨.v (.sl 1), [], [q0]⟩ => (asO 10 true q0).bind fun z0 => some (z0)
  | _ => none
theorem spec_l27Owners.out_ok (r : Ret κ) (y : List Int) (h : spec_l27Owners.out r = some y) : r = spec_l27Owners.g y := by
  unfold spec_l27Owners.out at h
  split at h
  · obtain ⟨_, rfl, h_1⟩ := asO_bind h
    obtain rfl := Option.some.inj h_1
    rfl
  · cases h
def spec_l27Owners.body (k : Nat) (vs : List AV) (bs : List (Blk κ)) : Option (Lf κ) :=
  match vs, bs with
  | [.v (.sl 0), .v (.int .i64 a1)], [qb0] => (asO 8 false qb0).bind fun a0 => some ⟨List Int, spec_l27Owners.f k a0 a1, spec_l27Owners.g⟩
  | _, _ => none
def spec_l27Owners.C (k : Nat) : Nat → List AV → AP κ AV := contract spec_l27Owners.sig (spec_l27Owners.body k)
theorem spec_l27Owners.den (k : Nat) (a0 : List T_impl_Op) (a1 : Int) : Code.den ti (spec_l27Owners.Γ k) (spec_l27Owners.LH k) (bodyOf Tryz.f145) (finK ti Tryz.f145.results.toList [(4, [some 10])] (flags spec_l27Owners.sig).length (rwI (flags spec_l27Owners.sig) 0) spec_l27Owners.out) ⟨envOf (([.v (.sl 0), .v (.int .i64 a1)]).zipIdx.map fun q => (q.2, q.1)), hpOf [.rows 8 false a0], (flags spec_l27Owners.sig).length⟩ = spec_l27Owners.f k a0 a1 := by kernel_rfl
theorem spec_l27Owners.ok (k : Nat) : CSound Tryz.prog 145 (spec_l27Owners.C k) :=
  csound κ_ok mixed tok (spec_l27Owners.hΓ k) (LH := spec_l27Owners.LH k) (fn := Tryz.f145) (c := bodyOf Tryz.f145) Tryz.func145 rfl Tryz.call145 spec_l27Owners.sig [(4, [some 10])] (spec_l27Owners.body k) (by kernel_rfl) (spec_l27Owners.lok k) (by decide) fun vs bs lf y hl hb hy => by
    unfold spec_l27Owners.body at hb
    split at hb
    · obtain ⟨_, rfl, hb_1⟩ := asO_bind hb
      obtain rfl := Option.some.inj hb_1
      exact ⟨spec_l27Owners.out, spec_l27Owners.out_ok, (spec_l27Owners.den k _ _).trans hy⟩
    · cases hb
/-! ### spec_OwnersRead -/
def spec_OwnersRead.f (k : Nat) (a0 : List T_impl_Op) : Option (List Int) :=
  (spec_l27Owners.f k a0 (1 : Int)).bind fun t1 => some t1
def spec_OwnersRead.Γ (k : Nat) : Ct κ := assoc [(145, spec_l27Owners.C k)]
def spec_OwnersRead.LH (k : Nat) : Nat → Option (LHi κ) := assoc []
theorem spec_OwnersRead.hΓ (k : Nat) : ∀ f g, spec_OwnersRead.Γ k f = some g → CSound Tryz.prog f g := G_cons (spec_l27Owners.ok k) G_nil
theorem spec_OwnersRead.lok (k : Nat) : LOK ti (spec_OwnersRead.Γ k) (spec_OwnersRead.LH k) 1 (loopsOf (bodyOf Tryz.f97)) :=
  (show loopsOf (bodyOf Tryz.f97) = [] by kernel_rfl) ▸ LOK_nil
def spec_OwnersRead.sig : List PSh := [.one (.ro 8)]
def spec_OwnersRead.g (y : List Int) : Ret κ := ⟨.v (.sl 1), [], [.rows 10 true y]⟩
def spec_OwnersRead.out (r : Ret κ) : Option (List Int) :=
  match r with
  | ⟨.v (.sl 1), [], [q0]⟩ => (asO 10 true q0).bind fun z0 => some (z0)
  | _ => none
theorem spec_OwnersRead.out_ok (r : Ret κ) (y : List Int) (h : spec_OwnersRead.out r = some y) : r = spec_OwnersRead.g y := by
  unfold spec_OwnersRead.out at h
  split at h
  · obtain ⟨_, rfl, h_1⟩ := asO_bind h
    obtain rfl := Option.some.inj h_1
    rfl
  · cases h
def spec_OwnersRead.body (k : Nat) (vs : List AV) (bs : List (Blk κ)) : Option (Lf κ) :=
  match vs, bs with
  | [.v (.sl 0)], [qb0] => (asO 8 false qb0).bind fun a0 => some ⟨List Int, spec_OwnersRead.f k a0, spec_OwnersRead.g⟩
  | _, _ => none
def spec_OwnersRead.C (k : Nat) : Nat → List AV → AP κ AV := contract spec_OwnersRead.sig (spec_OwnersRead.body k)
theorem spec_OwnersRead.den (k : Nat) (a0 : List T_impl_Op) : Code.den ti (spec_OwnersRead.Γ k) (spec_OwnersRead.LH k) (bodyOf Tryz.f97) (finK ti Tryz.f97.results.toList [(2, [some 10])] (flags spec_OwnersRead.sig).length (rwI (flags spec_OwnersRead.sig) 0) spec_OwnersRead.out) ⟨envOf (([.v (.sl 0)]).zipIdx.map fun q => (q.2, q.1)), hpOf [.rows 8 false a0], (flags spec_OwnersRead.sig).length⟩ = spec_OwnersRead.f k a0 := by kernel_rfl
theorem spec_OwnersRead.ok (k : Nat) : CSound Tryz.prog 97 (spec_OwnersRead.C k) :=
  csound κ_ok mixed tok (spec_OwnersRead.hΓ k) (LH := spec_OwnersRead.LH k) (fn := Tryz.f97) (c := bodyOf Tryz.f97) Tryz.func97 rfl Tryz.call97 spec_OwnersRead.sig [(2, [some 10])] (spec_OwnersRead.body k) (by kernel_rfl) (spec_OwnersRead.lok k) (by decide) fun vs bs lf y hl hb hy => by
    unfold spec_OwnersRead.body at hb
    split at hb
    · obtain ⟨_, rfl, hb_1⟩ := asO_bind hb
      obtain rfl := Option.some.inj hb_1
      exact ⟨spec_OwnersRead.out, spec_OwnersRead.out_ok, (spec_OwnersRead.den k _).trans hy⟩
    · cases hb
/-! ### spec_HasGrantFor -/
def spec_HasGrantFor.L2 {R : Type} (k : Nat) (x1 : Int) (x2 : Int) (xl0 : List T_impl_Grant) (X0 : Bool → Option R) (X1 : Unit → Option R) (rec : Int → Option R) (x3 : Int) : Option R :=
  (bif decide (x3 < (xl0.length : Int)) then (bif decide (0 ≤ x3) then (bif decide (x3 < (xl0.length : Int)) then (spec_IsGrant.f k ((rd_impl_Grant xl0 x3).f0) ((rd_impl_Grant xl0 x3).f1.f0) ((rd_impl_Grant xl0 x3).f1.f1) ((rd_impl_Grant xl0 x3).f2) ((rd_impl_Grant xl0 x3).f3) ((rd_impl_Grant xl0 x3).f4) ((rd_impl_Grant xl0 x3).f5)).bind fun t1 => (bif t1 then (bif decide (0 ≤ x3) then (bif decide (x3 < (xl0.length : Int)) then (bif ((rd_impl_Grant xl0 x3).f2 == x1) then (bif decide (0 ≤ x3) then (bif decide (x3 < (xl0.length : Int)) then (bif ((rd_impl_Grant xl0 x3).f1.f0 == x2) then (X0 true) else (bif decide (0 ≤ x3) then (bif decide (x3 < (xl0.length : Int)) then (bif ((rd_impl_Grant xl0 x3).f1.f0 == (0 : Int)) then (X0 true) else (rec (w64 (x3 + (1 : Int))))) else none) else none)) else none) else none) else (rec (w64 (x3 + (1 : Int))))) else none) else none) else (rec (w64 (x3 + (1 : Int))))) else none) else none) else (X1 ()))
def spec_HasGrantFor.l2 {R : Type} (k : Nat) (x1 : Int) (x2 : Int) (xl0 : List T_impl_Grant) (X0 : Bool → Option R) (X1 : Unit → Option R) : Nat → Int → Option R
  | 0 => fun _ => none
  | n + 1 => spec_HasGrantFor.L2 k x1 x2 xl0 X0 X1 (spec_HasGrantFor.l2 k x1 x2 xl0 X0 X1 n)
def spec_HasGrantFor.f (k : Nat) (a0 : List T_impl_Grant) (a1 : Int) (a2 : Int) : Option Bool :=
  (spec_HasGrantFor.l2 k a1 a2 a0 (fun (y2 : Bool) => some y2) (fun (_ : Unit) => some false) k (0 : Int))
def spec_HasGrantFor.h2 (k : Nat) {R : Type} (K : Ex → St κ → Option R) (vs : List AV) (bs : List (Blk κ)) : Option R :=
  match vs, bs with
  | [.v (.sl 0), .v (.int .i64 x1), .v (.int .i64 x2), .v (.int .i64 x3)], [qb0] => (asO 5 false qb0).bind fun xl0 => spec_HasGrantFor.l2 k x1 x2 xl0 (fun (z0 : Bool) => K .ret (stOf [(6, [])] [.v (.bool z0)] [.rows 5 false xl0])) (fun (_ : Unit) => K (.exit 0) (stOf [(6, [])] [.v .any] [.rows 5 false xl0])) k x3
  | _, _ => none
def spec_HasGrantFor.Γ (k : Nat) : Ct κ := assoc [(103, spec_IsGrant.C k)]
def spec_HasGrantFor.LH (k : Nat) : Nat → Option (LHi κ) := assoc [(2, ⟨1, [(0, [some 5]), (1, []), (2, []), (7, [])], [(6, [])], @spec_HasGrantFor.h2 k⟩)]
theorem spec_HasGrantFor.hΓ (k : Nat) : ∀ f g, spec_HasGrantFor.Γ k f = some g → CSound Tryz.prog f g := G_cons (spec_IsGrant.ok k) G_nil
theorem spec_HasGrantFor.e2 {R : Type} (K : Ex → St κ → Option R) (k : Nat) (x1 : Int) (x2 : Int) (xl0 : List T_impl_Grant) : ∀ (n : Nat) (x3 : Int), loopN 1 (Code.den ti (spec_HasGrantFor.Γ k) (spec_HasGrantFor.LH k) (loopAt Tryz.f144 0)) [(0, [some 5]), (1, []), (2, []), (7, [])] [(6, [])] K n [.v (.sl 0), .v (.int .i64 x1), .v (.int .i64 x2), .v (.int .i64 x3)] [.rows 5 false xl0] = spec_HasGrantFor.l2 k x1 x2 xl0 (fun (z0 : Bool) => K .ret (stOf [(6, [])] [.v (.bool z0)] [.rows 5 false xl0])) (fun (_ : Unit) => K (.exit 0) (stOf [(6, [])] [.v .any] [.rows 5 false xl0])) n x3
  | 0, _ => rfl
  | n + 1, x3 => (show loopN 1 (Code.den ti (spec_HasGrantFor.Γ k) (spec_HasGrantFor.LH k) (loopAt Tryz.f144 0)) [(0, [some 5]), (1, []), (2, []), (7, [])] [(6, [])] K (n + 1) [.v (.sl 0), .v (.int .i64 x1), .v (.int .i64 x2), .v (.int .i64 x3)] [.rows 5 false xl0] = spec_HasGrantFor.L2 k x1 x2 xl0 (fun (z0 : Bool) => K .ret (stOf [(6, [])] [.v (.bool z0)] [.rows 5 false xl0])) (fun (_ : Unit) => K (.exit 0) (stOf [(6, [])] [.v .any] [.rows 5 false xl0])) (fun (x3' : Int) => loopN 1 (Code.den ti (spec_HasGrantFor.Γ k) (spec_HasGrantFor.LH k) (loopAt Tryz.f144 0)) [(0, [some 5]), (1, []), (2, []), (7, [])] [(6, [])] K n [.v (.sl 0), .v (.int .i64 x1), .v (.int .i64 x2), .v (.int .i64 x3')] [.rows 5 false xl0]) x3 by kernel_rfl).trans (congrArg (fun rec => spec_HasGrantFor.L2 k x1 x2 xl0 (fun (z0 : Bool) => K .ret (stOf [(6, [])] [.v (.bool z0)] [.rows 5 false xl0])) (fun (_ : Unit) => K (.exit 0) (stOf [(6, [])] [.v .any] [.rows 5 false xl0])) rec x3) (funext fun x3' => spec_HasGrantFor.e2 K k x1 x2 xl0 n x3'))
theorem spec_HasGrantFor.q2 (k : Nat) {R : Type} (K : Ex → St κ → Option R) (vs : List AV) (bs : List (Blk κ)) (r : R) (h : spec_HasGrantFor.h2 k K vs bs = some r) : ∃ n, loopN 1 (Code.den ti (spec_HasGrantFor.Γ k) (spec_HasGrantFor.LH k) (loopAt Tryz.f144 0)) [(0, [some 5]), (1, []), (2, []), (7, [])] [(6, [])] K n vs bs = some r := by
  unfold spec_HasGrantFor.h2 at h
  split at h
  · obtain ⟨_, rfl, h_1⟩ := asO_bind h
    exact ⟨k, (spec_HasGrantFor.e2 K k _ _ _ k _).trans h_1⟩
  · cases h
theorem spec_HasGrantFor.lok (k : Nat) : LOK ti (spec_HasGrantFor.Γ k) (spec_HasGrantFor.LH k) 1 (loopsOf (bodyOf Tryz.f144)) :=
  (show loopsOf (bodyOf Tryz.f144) = [loopAt Tryz.f144 0] by kernel_rfl) ▸ (LOK_cons (g := ⟨1, [(0, [some 5]), (1, []), (2, []), (7, [])], [(6, [])], @spec_HasGrantFor.h2 k⟩) (by kernel_rfl) rfl (fun K vs xs r h => spec_HasGrantFor.q2 k K vs xs r h) (LOK_nil))
def spec_HasGrantFor.sig : List PSh := [.one (.ro 5), .one .sc, .one .sc]
def spec_HasGrantFor.g (y : Bool) : Ret κ := ⟨.v (.bool y), [], []⟩
def spec_HasGrantFor.out (r : Ret κ) : Option Bool :=
  match r with
  | ⟨.v (.bool z0), [], []⟩ => some (z0)
  | _ => none
theorem spec_HasGrantFor.out_ok (r : Ret κ) (y : Bool) (h : spec_HasGrantFor.out r = some y) : r = spec_HasGrantFor.g y := by
  unfold spec_HasGrantFor.out at h
  split at h
  · obtain rfl := Option.some.inj h
    rfl
  · cases h
def spec_HasGrantFor.body (k : Nat) (vs : List AV) (bs : List (Blk κ)) : Option (Lf κ) :=
  match vs, bs with
  | [.v (.sl 0), .v (.int .i64 a1), .v (.int .i64 a2)], [qb0] => (asO 5 false qb0).bind fun a0 => some ⟨Bool, spec_HasGrantFor.f k a0 a1 a2, spec_HasGrantFor.g⟩
  | _, _ => none
def spec_HasGrantFor.C (k : Nat) : Nat → List AV → AP κ AV := contract spec_HasGrantFor.sig (spec_HasGrantFor.body k)
theorem spec_HasGrantFor.den (k : Nat) (a0 : List T_impl_Grant) (a1 : Int) (a2 : Int) : Code.den ti (spec_HasGrantFor.Γ k) (spec_HasGrantFor.LH k) (bodyOf Tryz.f144) (finK ti Tryz.f144.results.toList [] (flags spec_HasGrantFor.sig).length (rwI (flags spec_HasGrantFor.sig) 0) spec_HasGrantFor.out) ⟨envOf (([.v (.sl 0), .v (.int .i64 a1), .v (.int .i64 a2)]).zipIdx.map fun q => (q.2, q.1)), hpOf [.rows 5 false a0], (flags spec_HasGrantFor.sig).length⟩ = spec_HasGrantFor.f k a0 a1 a2 := by kernel_rfl
theorem spec_HasGrantFor.ok (k : Nat) : CSound Tryz.prog 144 (spec_HasGrantFor.C k) :=
  csound κ_ok mixed tok (spec_HasGrantFor.hΓ k) (LH := spec_HasGrantFor.LH k) (fn := Tryz.f144) (c := bodyOf Tryz.f144) Tryz.func144 rfl Tryz.call144 spec_HasGrantFor.sig [] (spec_HasGrantFor.body k) (by kernel_rfl) (spec_HasGrantFor.lok k) (by decide) fun vs bs lf y hl hb hy => by
    unfold spec_HasGrantFor.body at hb
    split at hb
    · obtain ⟨_, rfl, hb_1⟩ := asO_bind hb
      obtain rfl := Option.some.inj hb_1
      exact ⟨spec_HasGrantFor.out, spec_HasGrantFor.out_ok, (spec_HasGrantFor.den k _ _ _).trans hy⟩
    · cases hb
/-! ### spec_l27All -/
def spec_l27All.L2 {R : Type} (k : Nat) (x1 : Int) (xl0 : List T_impl_Grant) (xl1 : List Int) (X0 : Bool → Option R) (X1 : Unit → Option R) (rec : Int → Option R) (x3 : Int) : Option R :=
  (bif decide (x3 < (xl1.length : Int)) then (bif decide (0 ≤ x3) then (bif decide (x3 < (xl1.length : Int)) then (spec_HasGrantFor.f k xl0 x1 (rd_i64 xl1 x3)).bind fun t1 => (bif !t1 then (X0 false) else (rec (w64 (x3 + (1 : Int))))) else none) else none) else (X1 ()))
def spec_l27All.l2 {R : Type} (k : Nat) (x1 : Int) (xl0 : List T_impl_Grant) (xl1 : List Int) (X0 : Bool → Option R) (X1 : Unit → Option R) : Nat → Int → Option R
  | 0 => fun _ => none
  | n + 1 => spec_l27All.L2 k x1 xl0 xl1 X0 X1 (spec_l27All.l2 k x1 xl0 xl1 X0 X1 n)
def spec_l27All.f (k : Nat) (a0 : List T_impl_Grant) (a1 : Int) (a2 : List Int) : Option Bool :=
  (spec_l27All.l2 k a1 a0 a2 (fun (y2 : Bool) => some y2) (fun (_ : Unit) => some true) k (0 : Int))
def spec_l27All.h2 (k : Nat) {R : Type} (K : Ex → St κ → Option R) (vs : List AV) (bs : List (Blk κ)) : Option R :=
  match vs, bs with
  | [.v (.sl 0), .v (.int .i64 x1), .v (.sl 1), .v (.int .i64 x3)], [qb0, qb1] => (asO 5 false qb0).bind fun xl0 => (asO 10 false qb1).bind fun xl1 => spec_l27All.l2 k x1 xl0 xl1 (fun (z0 : Bool) => K .ret (stOf [(6, [])] [.v (.bool z0)] [.rows 5 false xl0, .rows 10 false xl1])) (fun (_ : Unit) => K (.exit 0) (stOf [(6, [])] [.v .any] [.rows 5 false xl0, .rows 10 false xl1])) k x3
  | _, _ => none
def spec_l27All.Γ (k : Nat) : Ct κ := assoc [(144, spec_HasGrantFor.C k)]
def spec_l27All.LH (k : Nat) : Nat → Option (LHi κ) := assoc [(2, ⟨2, [(0, [some 5]), (1, []), (2, [some 10]), (7, [])], [(6, [])], @spec_l27All.h2 k⟩)]
theorem spec_l27All.hΓ (k : Nat) : ∀ f g, spec_l27All.Γ k f = some g → CSound Tryz.prog f g := G_cons (spec_HasGrantFor.ok k) G_nil
theorem spec_l27All.e2 {R : Type} (K : Ex → St κ → Option R) (k : Nat) (x1 : Int) (xl0 : List T_impl_Grant) (xl1 : List Int) : ∀ (n : Nat) (x3 : Int), loopN 2 (Code.den ti (spec_l27All.Γ k) (spec_l27All.LH k) (loopAt Tryz.f96 0)) [(0, [some 5]), (1, []), (2, [some 10]), (7, [])] [(6, [])] K n [.v (.sl 0), .v (.int .i64 x1), .v (.sl 1), .v (.int .i64 x3)] [.rows 5 false xl0, .rows 10 false xl1] = spec_l27All.l2 k x1 xl0 xl1 (fun (z0 : Bool) => K .ret (stOf [(6, [])] [.v (.bool z0)] [.rows 5 false xl0, .rows 10 false xl1])) (fun (_ : Unit) => K (.exit 0) (stOf [(6, [])] [.v .any] [.rows 5 false xl0, .rows 10 false xl1])) n x3
  | 0, _ => rfl
  | n + 1, x3 => (show loopN 2 (Code.den ti (spec_l27All.Γ k) (spec_l27All.LH k) (loopAt Tryz.f96 0)) [(0, [some 5]), (1, []), (2, [some 10]), (7, [])] [(6, [])] K (n + 1) [.v (.sl 0), .v (.int .i64 x1), .v (.sl 1), .v (.int .i64 x3)] [.rows 5 false xl0, .rows 10 false xl1] = spec_l27All.L2 k x1 xl0 xl1 (fun (z0 : Bool) => K .ret (stOf [(6, [])] [.v (.bool z0)] [.rows 5 false xl0, .rows 10 false xl1])) (fun (_ : Unit) => K (.exit 0) (stOf [(6, [])] [.v .any] [.rows 5 false xl0, .rows 10 false xl1])) (fun (x3' : Int) => loopN 2 (Code.den ti (spec_l27All.Γ k) (spec_l27All.LH k) (loopAt Tryz.f96 0)) [(0, [some 5]), (1, []), (2, [some 10]), (7, [])] [(6, [])] K n [.v (.sl 0), .v (.int .i64 x1), .v (.sl 1), .v (.int .i64 x3')] [.rows 5 false xl0, .rows 10 false xl1]) x3 by kernel_rfl).trans (congrArg (fun rec => spec_l27All.L2 k x1 xl0 xl1 (fun (z0 : Bool) => K .ret (stOf [(6, [])] [.v (.bool z0)] [.rows 5 false xl0, .rows 10 false xl1])) (fun (_ : Unit) => K (.exit 0) (stOf [(6, [])] [.v .any] [.rows 5 false xl0, .rows 10 false xl1])) rec x3) (funext fun x3' => spec_l27All.e2 K k x1 xl0 xl1 n x3'))
theorem spec_l27All.q2 (k : Nat) {R : Type} (K : Ex → St κ → Option R) (vs : List AV) (bs : List (Blk κ)) (r : R) (h : spec_l27All.h2 k K vs bs = some r) : ∃ n, loopN 2 (Code.den ti (spec_l27All.Γ k) (spec_l27All.LH k) (loopAt Tryz.f96 0)) [(0, [some 5]), (1, []), (2, [some 10]), (7, [])] [(6, [])] K n vs bs = some r := by
  unfold spec_l27All.h2 at h
  split at h
  · obtain ⟨_, rfl, h_1⟩ := asO_bind h
    obtain ⟨_, rfl, h_2⟩ := asO_bind h_1
    exact ⟨k, (spec_l27All.e2 K k _ _ _ k _).trans h_2⟩
  · cases h
theorem spec_l27All.lok (k : Nat) : LOK ti (spec_l27All.Γ k) (spec_l27All.LH k) 2 (loopsOf (bodyOf Tryz.f96)) :=
  (show loopsOf (bodyOf Tryz.f96) = [loopAt Tryz.f96 0] by kernel_rfl) ▸ (LOK_cons (g := ⟨2, [(0, [some 5]), (1, []), (2, [some 10]), (7, [])], [(6, [])], @spec_l27All.h2 k⟩) (by kernel_rfl) rfl (fun K vs xs r h => spec_l27All.q2 k K vs xs r h) (LOK_nil))
def spec_l27All.sig : List PSh := [.one (.ro 5), .one .sc, .one (.ro 10)]
def spec_l27All.g (y : Bool) : Ret κ := ⟨.v (.bool y), [], []⟩
def spec_l27All.out (r : Ret κ) : Option Bool :=
  match r with
  | ⟨.v (.bool z0), [], []⟩ => some (z0)
  | _ => none
theorem spec_l27All.out_ok (r : Ret κ) (y : Bool) (h : spec_l27All.out r = some y) : r = spec_l27All.g y := by
  unfold spec_l27All.out at h
  split at h
  · obtain rfl := Option.some.inj h
    rfl
  · cases h
def spec_l27All.body (k : Nat) (vs : List AV) (bs : List (Blk κ)) : Option (Lf κ) :=
  match vs, bs with
  | [.v (.sl 0), .v (.int .i64 a1), .v (.sl 1)], [qb0, qb1] => (asO 5 false qb0).bind fun a0 => (asO 10 false qb1).bind fun a2 => some ⟨Bool, spec_l27All.f k a0 a1 a2, spec_l27All.g⟩
  | _, _ => none
def spec_l27All.C (k : Nat) : Nat → List AV → AP κ AV := contract spec_l27All.sig (spec_l27All.body k)
theorem spec_l27All.den (k : Nat) (a0 : List T_impl_Grant) (a1 : Int) (a2 : List Int) : Code.den ti (spec_l27All.Γ k) (spec_l27All.LH k) (bodyOf Tryz.f96) (finK ti Tryz.f96.results.toList [] (flags spec_l27All.sig).length (rwI (flags spec_l27All.sig) 0) spec_l27All.out) ⟨envOf (([.v (.sl 0), .v (.int .i64 a1), .v (.sl 1)]).zipIdx.map fun q => (q.2, q.1)), hpOf [.rows 5 false a0, .rows 10 false a2], (flags spec_l27All.sig).length⟩ = spec_l27All.f k a0 a1 a2 := by kernel_rfl
theorem spec_l27All.ok (k : Nat) : CSound Tryz.prog 96 (spec_l27All.C k) :=
  csound κ_ok mixed tok (spec_l27All.hΓ k) (LH := spec_l27All.LH k) (fn := Tryz.f96) (c := bodyOf Tryz.f96) Tryz.func96 rfl Tryz.call96 spec_l27All.sig [] (spec_l27All.body k) (by kernel_rfl) (spec_l27All.lok k) (by decide) fun vs bs lf y hl hb hy => by
    unfold spec_l27All.body at hb
    split at hb
    · obtain ⟨_, rfl, hb_1⟩ := asO_bind hb
      obtain ⟨_, rfl, hb_2⟩ := asO_bind hb_1
      obtain rfl := Option.some.inj hb_2
      exact ⟨spec_l27All.out, spec_l27All.out_ok, (spec_l27All.den k _ _ _).trans hy⟩
    · cases hb
/-! ### spec_OwnersSent -/
def spec_OwnersSent.f (k : Nat) (a0 : List T_impl_Op) : Option (List Int) :=
  (spec_l27Owners.f k a0 (5 : Int)).bind fun t1 => some t1
def spec_OwnersSent.Γ (k : Nat) : Ct κ := assoc [(145, spec_l27Owners.C k)]
def spec_OwnersSent.LH (k : Nat) : Nat → Option (LHi κ) := assoc []
theorem spec_OwnersSent.hΓ (k : Nat) : ∀ f g, spec_OwnersSent.Γ k f = some g → CSound Tryz.prog f g := G_cons (spec_l27Owners.ok k) G_nil
theorem spec_OwnersSent.lok (k : Nat) : LOK ti (spec_OwnersSent.Γ k) (spec_OwnersSent.LH k) 1 (loopsOf (bodyOf Tryz.f98)) :=
  (show loopsOf (bodyOf Tryz.f98) = [] by kernel_rfl) ▸ LOK_nil
def spec_OwnersSent.sig : List PSh := [.one (.ro 8)]
def spec_OwnersSent.g (y : List Int) : Ret κ := ⟨.v (.sl 1), [], [.rows 10 true y]⟩
def spec_OwnersSent.out (r : Ret κ) : Option (List Int) :=
  match r with
  | ⟨.v (.sl 1), [], [q0]⟩ => (asO 10 true q0).bind fun z0 => some (z0)
  | _ => none
theorem spec_OwnersSent.out_ok (r : Ret κ) (y : List Int) (h : spec_OwnersSent.out r = some y) : r = spec_OwnersSent.g y := by
  unfold spec_OwnersSent.out at h
  split at h
  · obtain ⟨_, rfl, h_1⟩ := asO_bind h
    obtain rfl := Option.some.inj h_1
    rfl
  · cases h
def spec_OwnersSent.body (k : Nat) (vs : List AV) (bs : List (Blk κ)) : Option (Lf κ) :=
  match vs, bs with
  | [.v (.sl 0)], [qb0] => (asO 8 false qb0).bind fun a0 => some ⟨List Int, spec_OwnersSent.f k a0, spec_OwnersSent.g⟩
  | _, _ => none
def spec_OwnersSent.C (k : Nat) : Nat → List AV → AP κ AV := contract spec_OwnersSent.sig (spec_OwnersSent.body k)
theorem spec_OwnersSent.den (k : Nat) (a0 : List T_impl_Op) : Code.den ti (spec_OwnersSent.Γ k) (spec_OwnersSent.LH k) (bodyOf Tryz.f98) (finK ti Tryz.f98.results.toList [(2, [some 10])] (flags spec_OwnersSent.sig).length (rwI (flags spec_OwnersSent.sig) 0) spec_OwnersSent.out) ⟨envOf (([.v (.sl 0)]).zipIdx.map fun q => (q.2, q.1)), hpOf [.rows 8 false a0], (flags spec_OwnersSent.sig).length⟩ = spec_OwnersSent.f k a0 := by kernel_rfl
theorem spec_OwnersSent.ok (k : Nat) : CSound Tryz.prog 98 (spec_OwnersSent.C k) :=
  csound κ_ok mixed tok (spec_OwnersSent.hΓ k) (LH := spec_OwnersSent.LH k) (fn := Tryz.f98) (c := bodyOf Tryz.f98) Tryz.func98 rfl Tryz.call98 spec_OwnersSent.sig [(2, [some 10])] (spec_OwnersSent.body k) (by kernel_rfl) (spec_OwnersSent.lok k) (by decide) fun vs bs lf y hl hb hy => by
    unfold spec_OwnersSent.body at hb
    split at hb
    · obtain ⟨_, rfl, hb_1⟩ := asO_bind hb
      obtain rfl := Option.some.inj hb_1
      exact ⟨spec_OwnersSent.out, spec_OwnersSent.out_ok, (spec_OwnersSent.den k _).trans hy⟩
    · cases hb
/-! ### spec_l21Zeros -/
def spec_l21Zeros.L3 {R : Type} (k : Nat) (X0 : List Int → Option R) (rec : Int → List Int → Option R) (x1 : Int) (xl0 : List Int) : Option R :=
  (bif decide (x1 < (6 : Int)) then (bif decide ((xl0.length + ([(0 : Int)] : List Int).length) * 8 ≤ cap48) then (rec (w64 (x1 + (1 : Int))) (xl0 ++ ([(0 : Int)] : List Int))) else none) else (X0 xl0))
def spec_l21Zeros.l3 {R : Type} (k : Nat) (X0 : List Int → Option R) : Nat → Int → List Int → Option R
  | 0 => fun _ _ => none
  | n + 1 => spec_l21Zeros.L3 k X0 (spec_l21Zeros.l3 k X0 n)
def spec_l21Zeros.f (k : Nat) : Option (List Int) :=
  (spec_l21Zeros.l3 k (fun (y1 : List Int) => some y1) k (0 : Int) ([] : List Int))
def spec_l21Zeros.h3 (k : Nat) {R : Type} (K : Ex → St κ → Option R) (vs : List AV) (bs : List (Blk κ)) : Option R :=
  match vs, bs with
  | [.v (.sl 0), .v (.int .i64 x1)], [qb0] => (asO 10 true qb0).bind fun xl0 => spec_l21Zeros.l3 k (fun (zl0 : List Int) => K (.exit 0) (stOf [(1, [some 10])] [.v (.sl 0)] [.rows 10 true zl0])) k x1 xl0
  | _, _ => none
def spec_l21Zeros.Γ (k : Nat) : Ct κ := assoc []
def spec_l21Zeros.LH (k : Nat) : Nat → Option (LHi κ) := assoc [(3, ⟨0, [(1, [some 10]), (2, [])], [(1, [some 10])], @spec_l21Zeros.h3 k⟩)]
theorem spec_l21Zeros.hΓ (k : Nat) : ∀ f g, spec_l21Zeros.Γ k f = some g → CSound Tryz.prog f g := G_nil
theorem spec_l21Zeros.e3 {R : Type} (K : Ex → St κ → Option R) (k : Nat) : ∀ (n : Nat) (x1 : Int) (xl0 : List Int), loopN 0 (Code.den ti (spec_l21Zeros.Γ k) (spec_l21Zeros.LH k) (loopAt Tryz.f161 0)) [(1, [some 10]), (2, [])] [(1, [some 10])] K n [.v (.sl 0), .v (.int .i64 x1)] [.rows 10 true xl0] = spec_l21Zeros.l3 k (fun (zl0 : List Int) => K (.exit 0) (stOf [(1, [some 10])] [.v (.sl 0)] [.rows 10 true zl0])) n x1 xl0
  | 0, _, _ => rfl
  | n + 1, x1, xl0 => (show loopN 0 (Code.den ti (spec_l21Zeros.Γ k) (spec_l21Zeros.LH k) (loopAt Tryz.f161 0)) [(1, [some 10]), (2, [])] [(1, [some 10])] K (n + 1) [.v (.sl 0), .v (.int .i64 x1)] [.rows 10 true xl0] = spec_l21Zeros.L3 k (fun (zl0 : List Int) => K (.exit 0) (stOf [(1, [some 10])] [.v (.sl 0)] [.rows 10 true zl0])) (fun (x1' : Int) (xl0' : List Int) => loopN 0 (Code.den ti (spec_l21Zeros.Γ k) (spec_l21Zeros.LH k) (loopAt Tryz.f161 0)) [(1, [some 10]), (2, [])] [(1, [some 10])] K n [.v (.sl 0), .v (.int .i64 x1')] [.rows 10 true xl0']) x1 xl0 by kernel_rfl).trans (congrArg (fun rec => spec_l21Zeros.L3 k (fun (zl0 : List Int) => K (.exit 0) (stOf [(1, [some 10])] [.v (.sl 0)] [.rows 10 true zl0])) rec x1 xl0) (funext fun x1' => funext fun xl0' => spec_l21Zeros.e3 K k n x1' xl0'))
theorem spec_l21Zeros.q3 (k : Nat) {R : Type} (K : Ex → St κ → Option R) (vs : List AV) (bs : List (Blk κ)) (r : R) (h : spec_l21Zeros.h3 k K vs bs = some r) : ∃ n, loopN 0 (Code.den ti (spec_l21Zeros.Γ k) (spec_l21Zeros.LH k) (loopAt Tryz.f161 0)) [(1, [some 10]), (2, [])] [(1, [some 10])] K n vs bs = some r := by
  unfold spec_l21Zeros.h3 at h
  split at h
  · obtain ⟨_, rfl, h_1⟩ := asO_bind h
    exact ⟨k, (spec_l21Zeros.e3 K k k _ _).trans h_1⟩
  · cases h
theorem spec_l21Zeros.lok (k : Nat) : LOK ti (spec_l21Zeros.Γ k) (spec_l21Zeros.LH k) 0 (loopsOf (bodyOf Tryz.f161)) :=
  (show loopsOf (bodyOf Tryz.f161) = [loopAt Tryz.f161 0] by kernel_rfl) ▸ (LOK_cons (g := ⟨0, [(1, [some 10]), (2, [])], [(1, [some 10])], @spec_l21Zeros.h3 k⟩) (by kernel_rfl) rfl (fun K vs xs r h => spec_l21Zeros.q3 k K vs xs r h) (LOK_nil))
def spec_l21Zeros.sig : List PSh := []
def spec_l21Zeros.g (y : List Int) : Ret κ := ⟨.v (.sl 0), [], [.rows 10 true y]⟩
def spec_l21Zeros.out (r : Ret κ) : Option (List Int) :=
  match r with
  | ⟨.v (.sl 0), [], [q0]⟩ => (asO 10 true q0).bind fun z0 => some (z0)
  | _ => none
theorem spec_l21Zeros.out_ok (r : Ret κ) (y : List Int) (h : spec_l21Zeros.out r = some y) : r = spec_l21Zeros.g y := by
  unfold spec_l21Zeros.out at h
  split at h
  · obtain ⟨_, rfl, h_1⟩ := asO_bind h
    obtain rfl := Option.some.inj h_1
    rfl
  · cases h
def spec_l21Zeros.body (k : Nat) (vs : List AV) (bs : List (Blk κ)) : Option (Lf κ) :=
  match vs, bs with
  | [], [] => some ⟨List Int, spec_l21Zeros.f k, spec_l21Zeros.g⟩
  | _, _ => none
def spec_l21Zeros.C (k : Nat) : Nat → List AV → AP κ AV := contract spec_l21Zeros.sig (spec_l21Zeros.body k)
theorem spec_l21Zeros.den (k : Nat) : Code.den ti (spec_l21Zeros.Γ k) (spec_l21Zeros.LH k) (bodyOf Tryz.f161) (finK ti Tryz.f161.results.toList [(0, [some 10])] (flags spec_l21Zeros.sig).length (rwI (flags spec_l21Zeros.sig) 0) spec_l21Zeros.out) ⟨envOf (([]).zipIdx.map fun q => (q.2, q.1)), hpOf [], (flags spec_l21Zeros.sig).length⟩ = spec_l21Zeros.f k := by kernel_rfl
theorem spec_l21Zeros.ok (k : Nat) : CSound Tryz.prog 161 (spec_l21Zeros.C k) :=
  csound κ_ok mixed tok (spec_l21Zeros.hΓ k) (LH := spec_l21Zeros.LH k) (fn := Tryz.f161) (c := bodyOf Tryz.f161) Tryz.func161 rfl Tryz.call161 spec_l21Zeros.sig [(0, [some 10])] (spec_l21Zeros.body k) (by kernel_rfl) (spec_l21Zeros.lok k) (by decide) fun vs bs lf y hl hb hy => by
    unfold spec_l21Zeros.body at hb
    split at hb
    · obtain rfl := Option.some.inj hb
      exact ⟨spec_l21Zeros.out, spec_l21Zeros.out_ok, (spec_l21Zeros.den k).trans hy⟩
    · cases hb
/-! ### spec_l21Value -/
def spec_l21Value.f (k : Nat) (a0 : List Int) (a1 : Int) : Option Int :=
  (bif decide (a1 > (a0.length : Int)) then some (0 : Int) else (bif decide (0 ≤ (w64 (a1 - (1 : Int)))) then (bif decide ((w64 (a1 - (1 : Int))) < (a0.length : Int)) then (spec_l1In.f k (rd_i64 a0 (w64 (a1 - (1 : Int)))) (0 : Int) (999 : Int)).bind fun t1 => (bif !t1 then some (0 : Int) else (bif decide (0 ≤ (w64 (a1 - (1 : Int)))) then (bif decide ((w64 (a1 - (1 : Int))) < (a0.length : Int)) then some (rd_i64 a0 (w64 (a1 - (1 : Int)))) else none) else none)) else none) else none))
def spec_l21Value.Γ (k : Nat) : Ct κ := assoc [(101, spec_l1In.C k)]
def spec_l21Value.LH (k : Nat) : Nat → Option (LHi κ) := assoc []
theorem spec_l21Value.hΓ (k : Nat) : ∀ f g, spec_l21Value.Γ k f = some g → CSound Tryz.prog f g := G_cons (spec_l1In.ok k) G_nil
theorem spec_l21Value.lok (k : Nat) : LOK ti (spec_l21Value.Γ k) (spec_l21Value.LH k) 1 (loopsOf (bodyOf Tryz.f175)) :=
  (show loopsOf (bodyOf Tryz.f175) = [] by kernel_rfl) ▸ LOK_nil
def spec_l21Value.sig : List PSh := [.one (.ro 10), .one .sc]
def spec_l21Value.g (y : Int) : Ret κ := ⟨.v (.int .i64 y), [], []⟩
def spec_l21Value.out (r : Ret κ) : Option Int :=
  match r with
  | ⟨.v (.int .i64 z0), [], []⟩ => some (z0)
  | _ => none
theorem spec_l21Value.out_ok (r : Ret κ) (y : Int) (h : spec_l21Value.out r = some y) : r = spec_l21Value.g y := by
  unfold spec_l21Value.out at h
  split at h
  · obtain rfl := Option.some.inj h
    rfl
  · cases h
def spec_l21Value.body (k : Nat) (vs : List AV) (bs : List (Blk κ)) : Option (Lf κ) :=
  match vs, bs with
  | [.v (.sl 0), .v (.int .i64 a1)], [qb0] => (asO 10 false qb0).bind fun a0 => some ⟨Int, spec_l21Value.f k a0 a1, spec_l21Value.g⟩
  | _, _ => none
def spec_l21Value.C (k : Nat) : Nat → List AV → AP κ AV := contract spec_l21Value.sig (spec_l21Value.body k)
theorem spec_l21Value.den (k : Nat) (a0 : List Int) (a1 : Int) : Code.den ti (spec_l21Value.Γ k) (spec_l21Value.LH k) (bodyOf Tryz.f175) (finK ti Tryz.f175.results.toList [] (flags spec_l21Value.sig).length (rwI (flags spec_l21Value.sig) 0) spec_l21Value.out) ⟨envOf (([.v (.sl 0), .v (.int .i64 a1)]).zipIdx.map fun q => (q.2, q.1)), hpOf [.rows 10 false a0], (flags spec_l21Value.sig).length⟩ = spec_l21Value.f k a0 a1 := by kernel_rfl
theorem spec_l21Value.ok (k : Nat) : CSound Tryz.prog 175 (spec_l21Value.C k) :=
  csound κ_ok mixed tok (spec_l21Value.hΓ k) (LH := spec_l21Value.LH k) (fn := Tryz.f175) (c := bodyOf Tryz.f175) Tryz.func175 rfl Tryz.call175 spec_l21Value.sig [] (spec_l21Value.body k) (by kernel_rfl) (spec_l21Value.lok k) (by decide) fun vs bs lf y hl hb hy => by
    unfold spec_l21Value.body at hb
    split at hb
    · obtain ⟨_, rfl, hb_1⟩ := asO_bind hb
      obtain rfl := Option.some.inj hb_1
      exact ⟨spec_l21Value.out, spec_l21Value.out_ok, (spec_l21Value.den k _ _).trans hy⟩
    · cases hb
/-! ### spec_l7Has -/
def spec_l7Has.L2 {R : Type} (k : Nat) (x1 : Int) (xl0 : List Int) (X0 : Bool → Option R) (X1 : Unit → Option R) (rec : Int → Option R) (x2 : Int) : Option R :=
  (bif decide (x2 < (xl0.length : Int)) then (bif decide (0 ≤ x2) then (bif decide (x2 < (xl0.length : Int)) then (bif ((rd_i64 xl0 x2) == x1) then (X0 true) else (rec (w64 (x2 + (1 : Int))))) else none) else none) else (X1 ()))
def spec_l7Has.l2 {R : Type} (k : Nat) (x1 : Int) (xl0 : List Int) (X0 : Bool → Option R) (X1 : Unit → Option R) : Nat → Int → Option R
  | 0 => fun _ => none
  | n + 1 => spec_l7Has.L2 k x1 xl0 X0 X1 (spec_l7Has.l2 k x1 xl0 X0 X1 n)
def spec_l7Has.f (k : Nat) (a0 : List Int) (a1 : Int) : Option Bool :=
  (spec_l7Has.l2 k a1 a0 (fun (y1 : Bool) => some y1) (fun (_ : Unit) => some false) k (0 : Int))
def spec_l7Has.h2 (k : Nat) {R : Type} (K : Ex → St κ → Option R) (vs : List AV) (bs : List (Blk κ)) : Option R :=
  match vs, bs with
  | [.v (.sl 0), .v (.int .i64 x1), .v (.int .i64 x2)], [qb0] => (asO 10 false qb0).bind fun xl0 => spec_l7Has.l2 k x1 xl0 (fun (z0 : Bool) => K .ret (stOf [(4, [])] [.v (.bool z0)] [.rows 10 false xl0])) (fun (_ : Unit) => K (.exit 0) (stOf [(4, [])] [.v .any] [.rows 10 false xl0])) k x2
  | _, _ => none
def spec_l7Has.Γ (k : Nat) : Ct κ := assoc []
def spec_l7Has.LH (k : Nat) : Nat → Option (LHi κ) := assoc [(2, ⟨1, [(0, [some 10]), (1, []), (5, [])], [(4, [])], @spec_l7Has.h2 k⟩)]
theorem spec_l7Has.hΓ (k : Nat) : ∀ f g, spec_l7Has.Γ k f = some g → CSound Tryz.prog f g := G_nil
theorem spec_l7Has.e2 {R : Type} (K : Ex → St κ → Option R) (k : Nat) (x1 : Int) (xl0 : List Int) : ∀ (n : Nat) (x2 : Int), loopN 1 (Code.den ti (spec_l7Has.Γ k) (spec_l7Has.LH k) (loopAt Tryz.f184 0)) [(0, [some 10]), (1, []), (5, [])] [(4, [])] K n [.v (.sl 0), .v (.int .i64 x1), .v (.int .i64 x2)] [.rows 10 false xl0] = spec_l7Has.l2 k x1 xl0 (fun (z0 : Bool) => K .ret (stOf [(4, [])] [.v (.bool z0)] [.rows 10 false xl0])) (fun (_ : Unit) => K (.exit 0) (stOf [(4, [])] [.v .any] [.rows 10 false xl0])) n x2
  | 0, _ => rfl
  | n + 1, x2 => (show loopN 1 (Code.den ti (spec_l7Has.Γ k) (spec_l7Has.LH k) (loopAt Tryz.f184 0)) [(0, [some 10]), (1, []), (5, [])] [(4, [])] K (n + 1) [.v (.sl 0), .v (.int .i64 x1), .v (.int .i64 x2)] [.rows 10 false xl0] = spec_l7Has.L2 k x1 xl0 (fun (z0 : Bool) => K .ret (stOf [(4, [])] [.v (.bool z0)] [.rows 10 false xl0])) (fun (_ : Unit) => K (.exit 0) (stOf [(4, [])] [.v .any] [.rows 10 false xl0])) (fun (x2' : Int) => loopN 1 (Code.den ti (spec_l7Has.Γ k) (spec_l7Has.LH k) (loopAt Tryz.f184 0)) [(0, [some 10]), (1, []), (5, [])] [(4, [])] K n [.v (.sl 0), .v (.int .i64 x1), .v (.int .i64 x2')] [.rows 10 false xl0]) x2 by kernel_rfl).trans (congrArg (fun rec => spec_l7Has.L2 k x1 xl0 (fun (z0 : Bool) => K .ret (stOf [(4, [])] [.v (.bool z0)] [.rows 10 false xl0])) (fun (_ : Unit) => K (.exit 0) (stOf [(4, [])] [.v .any] [.rows 10 false xl0])) rec x2) (funext fun x2' => spec_l7Has.e2 K k x1 xl0 n x2'))
theorem spec_l7Has.q2 (k : Nat) {R : Type} (K : Ex → St κ → Option R) (vs : List AV) (bs : List (Blk κ)) (r : R) (h : spec_l7Has.h2 k K vs bs = some r) : ∃ n, loopN 1 (Code.den ti (spec_l7Has.Γ k) (spec_l7Has.LH k) (loopAt Tryz.f184 0)) [(0, [some 10]), (1, []), (5, [])] [(4, [])] K n vs bs = some r := by
  unfold spec_l7Has.h2 at h
  split at h
  · obtain ⟨_, rfl, h_1⟩ := asO_bind h
    exact ⟨k, (spec_l7Has.e2 K k _ _ k _).trans h_1⟩
  · cases h
theorem spec_l7Has.lok (k : Nat) : LOK ti (spec_l7Has.Γ k) (spec_l7Has.LH k) 1 (loopsOf (bodyOf Tryz.f184)) :=
  (show loopsOf (bodyOf Tryz.f184) = [loopAt Tryz.f184 0] by kernel_rfl) ▸ (LOK_cons (g := ⟨1, [(0, [some 10]), (1, []), (5, [])], [(4, [])], @spec_l7Has.h2 k⟩) (by kernel_rfl) rfl (fun K vs xs r h => spec_l7Has.q2 k K vs xs r h) (LOK_nil))
def spec_l7Has.sig : List PSh := [.one (.ro 10), .one .sc]
def spec_l7Has.g (y : Bool) : Ret κ := ⟨.v (.bool y), [], []⟩
def spec_l7Has.out (r : Ret κ) : Option Bool :=
  match r with
  | ⟨.v (.bool z0), [], []⟩ => some (z0)
  | _ => none
theorem spec_l7Has.out_ok (r : Ret κ) (y : Bool) (h : spec_l7Has.out r = some y) : r = spec_l7Has.g y := by
  unfold spec_l7Has.out at h
  split at h
  · obtain rfl := Option.some.inj h
    rfl
  · cases h
def spec_l7Has.body (k : Nat) (vs : List AV) (bs : List (Blk κ)) : Option (Lf κ) :=
  match vs, bs with
  | [.v (.sl 0), .v (.int .i64 a1)], [qb0] => (asO 10 false qb0).bind fun a0 => some ⟨Bool, spec_l7Has.f k a0 a1, spec_l7Has.g⟩
  | _, _ => none
def spec_l7Has.C (k : Nat) : Nat → List AV → AP κ AV := contract spec_l7Has.sig (spec_l7Has.body k)
theorem spec_l7Has.den (k : Nat) (a0 : List Int) (a1 : Int) : Code.den ti (spec_l7Has.Γ k) (spec_l7Has.LH k) (bodyOf Tryz.f184) (finK ti Tryz.f184.results.toList [] (flags spec_l7Has.sig).length (rwI (flags spec_l7Has.sig) 0) spec_l7Has.out) ⟨envOf (([.v (.sl 0), .v (.int .i64 a1)]).zipIdx.map fun q => (q.2, q.1)), hpOf [.rows 10 false a0], (flags spec_l7Has.sig).length⟩ = spec_l7Has.f k a0 a1 := by kernel_rfl
theorem spec_l7Has.ok (k : Nat) : CSound Tryz.prog 184 (spec_l7Has.C k) :=
  csound κ_ok mixed tok (spec_l7Has.hΓ k) (LH := spec_l7Has.LH k) (fn := Tryz.f184) (c := bodyOf Tryz.f184) Tryz.func184 rfl Tryz.call184 spec_l7Has.sig [] (spec_l7Has.body k) (by kernel_rfl) (spec_l7Has.lok k) (by decide) fun vs bs lf y hl hb hy => by
    unfold spec_l7Has.body at hb
    split at hb
    · obtain ⟨_, rfl, hb_1⟩ := asO_bind hb
      obtain rfl := Option.some.inj hb_1
      exact ⟨spec_l7Has.out, spec_l7Has.out_ok, (spec_l7Has.den k _ _).trans hy⟩
    · cases hb
end Go.Proofs.YtoenilndklbceaaGreat.PFnExactCanRollBack
