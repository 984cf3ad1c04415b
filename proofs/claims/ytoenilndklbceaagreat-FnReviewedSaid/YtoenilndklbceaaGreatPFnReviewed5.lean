/- What the functions that the law FnReviewed reaches come to; no conditions. -/
import Derived.Test.YtoenilndklbceaaGreatPFnReviewed4
set_option linter.unusedVariables false
set_option maxRecDepth 100000
namespace Go.Proofs.YtoenilndklbceaaGreat.PFnReviewed
open Go Go.Eng Go.Proofs
/-! ### spec_l26Draw -/
def spec_l26Draw.L3 {R : Type} (k : Nat) (x1 : Int) (xl1 : List Int) (xc2_0 : Int) (xc2_1 : Int) (xc2_2 : Int) (xc2_7 : Int) (xc3_0 : Int) (xc3_1 : Int) (xc3_2 : Int) (xc3_7 : Int) (xl4 : List T_impl_Grant) (xl5 : List T_impl_Flow) (xl6 : List T_impl_Rule) (xl7 : List T_impl_Op) (xl9 : List T_impl_Flow) (xl10 : List T_impl_Rule) (xl11 : List T_impl_Op) (X0 : Int → Int → List T_impl_Grant → Option R) (rec : Int → Int → Int → List T_impl_Grant → Option R) (x4 : Int) (xc0_1 : Int) (xc0_2 : Int) (xl8 : List T_impl_Grant) : Option R :=
  (bif decide (x4 > (0 : Int)) then (spec_l10Draw.f k xl1 xc0_1 xc0_2).bind fun t5 => (bif decide ((xl8.length + ([(⟨x1, (⟨t5.2.1, t5.2.2.1⟩ : T_impl_Pattern), t5.2.2.2.1, t5.2.2.2.2.1, t5.2.2.2.2.2.1, t5.2.2.2.2.2.2.1⟩ : T_impl_Grant)] : List T_impl_Grant).length) * 56 ≤ cap48) then (let l6 : List T_impl_Grant := (xl8 ++ ([(⟨x1, (⟨t5.2.1, t5.2.2.1⟩ : T_impl_Pattern), t5.2.2.2.1, t5.2.2.2.2.1, t5.2.2.2.2.2.1, t5.2.2.2.2.2.2.1⟩ : T_impl_Grant)] : List T_impl_Grant)); (rec (w64 (x4 - (1 : Int))) t5.2.2.2.2.2.2.2.1 t5.2.2.2.2.2.2.2.2 l6)) else none) else (X0 xc0_1 xc0_2 xl8))
def spec_l26Draw.l3 {R : Type} (k : Nat) (x1 : Int) (xl1 : List Int) (xc2_0 : Int) (xc2_1 : Int) (xc2_2 : Int) (xc2_7 : Int) (xc3_0 : Int) (xc3_1 : Int) (xc3_2 : Int) (xc3_7 : Int) (xl4 : List T_impl_Grant) (xl5 : List T_impl_Flow) (xl6 : List T_impl_Rule) (xl7 : List T_impl_Op) (xl9 : List T_impl_Flow) (xl10 : List T_impl_Rule) (xl11 : List T_impl_Op) (X0 : Int → Int → List T_impl_Grant → Option R) : Nat → Int → Int → Int → List T_impl_Grant → Option R
  | 0 => fun _ _ _ _ => none
  | n + 1 => spec_l26Draw.L3 k x1 xl1 xc2_0 xc2_1 xc2_2 xc2_7 xc3_0 xc3_1 xc3_2 xc3_7 xl4 xl5 xl6 xl7 xl9 xl10 xl11 X0 (spec_l26Draw.l3 k x1 xl1 xc2_0 xc2_1 xc2_2 xc2_7 xc3_0 xc3_1 xc3_2 xc3_7 xl4 xl5 xl6 xl7 xl9 xl10 xl11 X0 n)
def spec_l26Draw.L9 {R : Type} (k : Nat) (x1 : Int) (xl1 : List Int) (xc2_0 : Int) (xc2_1 : Int) (xc2_2 : Int) (xc2_7 : Int) (xc3_0 : Int) (xc3_1 : Int) (xc3_2 : Int) (xc3_7 : Int) (xl4 : List T_impl_Grant) (xl5 : List T_impl_Flow) (xl6 : List T_impl_Rule) (xl7 : List T_impl_Op) (xl8 : List T_impl_Grant) (xl10 : List T_impl_Rule) (xl11 : List T_impl_Op) (X0 : Int → Int → List T_impl_Flow → Option R) (rec : Int → Int → Int → List T_impl_Flow → Option R) (x4 : Int) (xc0_1 : Int) (xc0_2 : Int) (xl9 : List T_impl_Flow) : Option R :=
  (bif decide (x4 > (0 : Int)) then (spec_l20Draw.f k xl1 xc0_1 xc0_2).bind fun t11 => (bif decide ((xl9.length + ([(⟨x1, t11.2.1, t11.2.2.1⟩ : T_impl_Flow)] : List T_impl_Flow).length) * 24 ≤ cap48) then (let l12 : List T_impl_Flow := (xl9 ++ ([(⟨x1, t11.2.1, t11.2.2.1⟩ : T_impl_Flow)] : List T_impl_Flow)); (rec (w64 (x4 - (1 : Int))) t11.2.2.2.1 t11.2.2.2.2 l12)) else none) else (X0 xc0_1 xc0_2 xl9))
def spec_l26Draw.l9 {R : Type} (k : Nat) (x1 : Int) (xl1 : List Int) (xc2_0 : Int) (xc2_1 : Int) (xc2_2 : Int) (xc2_7 : Int) (xc3_0 : Int) (xc3_1 : Int) (xc3_2 : Int) (xc3_7 : Int) (xl4 : List T_impl_Grant) (xl5 : List T_impl_Flow) (xl6 : List T_impl_Rule) (xl7 : List T_impl_Op) (xl8 : List T_impl_Grant) (xl10 : List T_impl_Rule) (xl11 : List T_impl_Op) (X0 : Int → Int → List T_impl_Flow → Option R) : Nat → Int → Int → Int → List T_impl_Flow → Option R
  | 0 => fun _ _ _ _ => none
  | n + 1 => spec_l26Draw.L9 k x1 xl1 xc2_0 xc2_1 xc2_2 xc2_7 xc3_0 xc3_1 xc3_2 xc3_7 xl4 xl5 xl6 xl7 xl8 xl10 xl11 X0 (spec_l26Draw.l9 k x1 xl1 xc2_0 xc2_1 xc2_2 xc2_7 xc3_0 xc3_1 xc3_2 xc3_7 xl4 xl5 xl6 xl7 xl8 xl10 xl11 X0 n)
def spec_l26Draw.L15 {R : Type} (k : Nat) (x1 : Int) (xl1 : List Int) (xc2_0 : Int) (xc2_1 : Int) (xc2_2 : Int) (xc2_7 : Int) (xc3_0 : Int) (xc3_1 : Int) (xc3_2 : Int) (xc3_7 : Int) (xl4 : List T_impl_Grant) (xl5 : List T_impl_Flow) (xl6 : List T_impl_Rule) (xl7 : List T_impl_Op) (xl8 : List T_impl_Grant) (xl9 : List T_impl_Flow) (xl11 : List T_impl_Op) (X0 : Int → Int → List T_impl_Rule → Option R) (rec : Int → Int → Int → List T_impl_Rule → Option R) (x4 : Int) (xc0_1 : Int) (xc0_2 : Int) (xl10 : List T_impl_Rule) : Option R :=
  (bif decide (x4 > (0 : Int)) then (spec_l13Draw.f k xl1 xc0_1 xc0_2).bind fun t17 => (bif decide ((xl10.length + ([(⟨x1, t17.2.1, (⟨t17.2.2.1, t17.2.2.2.1⟩ : T_impl_Pattern), t17.2.2.2.2.1, t17.2.2.2.2.2.1, (⟨t17.2.2.2.2.2.2.1, t17.2.2.2.2.2.2.2.1⟩ : T_impl_Site)⟩ : T_impl_Rule)] : List T_impl_Rule).length) * 64 ≤ cap48) then (let l18 : List T_impl_Rule := (xl10 ++ ([(⟨x1, t17.2.1, (⟨t17.2.2.1, t17.2.2.2.1⟩ : T_impl_Pattern), t17.2.2.2.2.1, t17.2.2.2.2.2.1, (⟨t17.2.2.2.2.2.2.1, t17.2.2.2.2.2.2.2.1⟩ : T_impl_Site)⟩ : T_impl_Rule)] : List T_impl_Rule)); (rec (w64 (x4 - (1 : Int))) t17.2.2.2.2.2.2.2.2.1 t17.2.2.2.2.2.2.2.2.2 l18)) else none) else (X0 xc0_1 xc0_2 xl10))
def spec_l26Draw.l15 {R : Type} (k : Nat) (x1 : Int) (xl1 : List Int) (xc2_0 : Int) (xc2_1 : Int) (xc2_2 : Int) (xc2_7 : Int) (xc3_0 : Int) (xc3_1 : Int) (xc3_2 : Int) (xc3_7 : Int) (xl4 : List T_impl_Grant) (xl5 : List T_impl_Flow) (xl6 : List T_impl_Rule) (xl7 : List T_impl_Op) (xl8 : List T_impl_Grant) (xl9 : List T_impl_Flow) (xl11 : List T_impl_Op) (X0 : Int → Int → List T_impl_Rule → Option R) : Nat → Int → Int → Int → List T_impl_Rule → Option R
  | 0 => fun _ _ _ _ => none
  | n + 1 => spec_l26Draw.L15 k x1 xl1 xc2_0 xc2_1 xc2_2 xc2_7 xc3_0 xc3_1 xc3_2 xc3_7 xl4 xl5 xl6 xl7 xl8 xl9 xl11 X0 (spec_l26Draw.l15 k x1 xl1 xc2_0 xc2_1 xc2_2 xc2_7 xc3_0 xc3_1 xc3_2 xc3_7 xl4 xl5 xl6 xl7 xl8 xl9 xl11 X0 n)
def spec_l26Draw.f (k : Nat) (a0_0 : List Int) (a0_1 : Int) (a0_2 : Int) (a1 : Int) : Option (Int × Int × Int × Int × Int × Int × List T_impl_Grant × List T_impl_Flow × List T_impl_Rule × List T_impl_Op) :=
  (spec_l1Below.f k a0_0 a0_1 a0_2 (3 : Int)).bind fun t1 => (spec_l1Below.f k a0_0 t1.2.1 t1.2.2 (3 : Int)).bind fun t2 => (spec_l21Ops.f k a0_0 t2.2.1 t2.2.2).bind fun t3 => (spec_l1Below.f k a0_0 t3.1 t3.2.1 (4 : Int)).bind fun t4 => (spec_l26Draw.l3 k a1 a0_0 (0 : Int) (0 : Int) (0 : Int) (0 : Int) a1 (w64 ((1 : Int) + t1.1)) (w64 ((1 : Int) + t2.1)) (0 : Int) ([] : List T_impl_Grant) ([] : List T_impl_Flow) ([] : List T_impl_Rule) ([] : List T_impl_Op) ([] : List T_impl_Flow) ([] : List T_impl_Rule) t3.2.2 (fun (y7 : Int) (y8 : Int) (y9 : List T_impl_Grant) => (spec_l1Below.f k a0_0 y7 y8 (4 : Int)).bind fun t10 => (spec_l26Draw.l9 k a1 a0_0 (0 : Int) (0 : Int) (0 : Int) (0 : Int) a1 (w64 ((1 : Int) + t1.1)) (w64 ((1 : Int) + t2.1)) (0 : Int) ([] : List T_impl_Grant) ([] : List T_impl_Flow) ([] : List T_impl_Rule) ([] : List T_impl_Op) y9 ([] : List T_impl_Rule) t3.2.2 (fun (y13 : Int) (y14 : Int) (y15 : List T_impl_Flow) => (spec_l1Below.f k a0_0 y13 y14 (3 : Int)).bind fun t16 => (spec_l26Draw.l15 k a1 a0_0 (0 : Int) (0 : Int) (0 : Int) (0 : Int) a1 (w64 ((1 : Int) + t1.1)) (w64 ((1 : Int) + t2.1)) (0 : Int) ([] : List T_impl_Grant) ([] : List T_impl_Flow) ([] : List T_impl_Rule) ([] : List T_impl_Op) y9 y15 t3.2.2 (fun (y19 : Int) (y20 : Int) (y21 : List T_impl_Rule) => (spec_SealPackage.f k (5 : Int) a1 (w64 ((1 : Int) + t1.1)) (w64 ((1 : Int) + t2.1)) y9 y15 y21 t3.2.2 (0 : Int)).bind fun t22 => some (t22.1, t22.2.1, t22.2.2.1, t22.2.2.2.1, y19, y20, t22.2.2.2.2.1, t22.2.2.2.2.2.1, t22.2.2.2.2.2.2.1, t22.2.2.2.2.2.2.2)) k t16.1 t16.2.1 t16.2.2 ([] : List T_impl_Rule))) k t10.1 t10.2.1 t10.2.2 ([] : List T_impl_Flow))) k t4.1 t4.2.1 t4.2.2 ([] : List T_impl_Grant))
def spec_l26Draw.h3 (k : Nat) {R : Type} (K : Ex → St κ → Option R) (vs : List AV) (bs : List (Blk κ)) : Option R :=
  match vs, bs with
  | [.v (.ptr 0 0 0), .v (.int .i64 x1), .v (.ptr 2 0 0), .v (.ptr 3 0 0), .v (.int .i64 x4)], [.cells 157 [.sl 1, .int .i64 xc0_1, .int .i64 xc0_2], qb1, .cells 39 [.int .i64 xc2_0, .int .i64 xc2_1, .int .i64 xc2_2, .sl 4, .sl 5, .sl 6, .sl 7, .int .i64 xc2_7], .cells 39 [.int .i64 xc3_0, .int .i64 xc3_1, .int .i64 xc3_2, .sl 8, .sl 9, .sl 10, .sl 11, .int .i64 xc3_7], qb4, qb5, qb6, qb7, qb8, qb9, qb10, qb11] => (asO 0 false qb1).bind fun xl1 => (asO 2 true qb4).bind fun xl4 => (asO 3 true qb5).bind fun xl5 => (asO 4 true qb6).bind fun xl6 => (asO 1 true qb7).bind fun xl7 => (asO 2 true qb8).bind fun xl8 => (asO 3 true qb9).bind fun xl9 => (asO 4 true qb10).bind fun xl10 => (asO 1 true qb11).bind fun xl11 => spec_l26Draw.l3 k x1 xl1 xc2_0 xc2_1 xc2_2 xc2_7 xc3_0 xc3_1 xc3_2 xc3_7 xl4 xl5 xl6 xl7 xl9 xl10 xl11 (fun (zc0_1 : Int) (zc0_2 : Int) (zl8 : List T_impl_Grant) => K (.exit 0) (stOf [(0, [some 0, none, none]), (1, []), (4, [none, none, none, some 2, some 3, some 4, some 1, none]), (5, [none, none, none, some 2, some 3, some 4, some 1, none])] [.v (.ptr 0 0 0), .v (.int .i64 x1), .v (.ptr 2 0 0), .v (.ptr 3 0 0)] [.cells 157 [.sl 1, .int .i64 zc0_1, .int .i64 zc0_2], .rows 0 false xl1, .cells 39 [.int .i64 xc2_0, .int .i64 xc2_1, .int .i64 xc2_2, .sl 4, .sl 5, .sl 6, .sl 7, .int .i64 xc2_7], .cells 39 [.int .i64 xc3_0, .int .i64 xc3_1, .int .i64 xc3_2, .sl 8, .sl 9, .sl 10, .sl 11, .int .i64 xc3_7], .rows 2 true xl4, .rows 3 true xl5, .rows 4 true xl6, .rows 1 true xl7, .rows 2 true zl8, .rows 3 true xl9, .rows 4 true xl10, .rows 1 true xl11])) k x4 xc0_1 xc0_2 xl8
  | _, _ => none
def spec_l26Draw.h9 (k : Nat) {R : Type} (K : Ex → St κ → Option R) (vs : List AV) (bs : List (Blk κ)) : Option R :=
  match vs, bs with
  | [.v (.ptr 0 0 0), .v (.int .i64 x1), .v (.ptr 2 0 0), .v (.ptr 3 0 0), .v (.int .i64 x4)], [.cells 157 [.sl 1, .int .i64 xc0_1, .int .i64 xc0_2], qb1, .cells 39 [.int .i64 xc2_0, .int .i64 xc2_1, .int .i64 xc2_2, .sl 4, .sl 5, .sl 6, .sl 7, .int .i64 xc2_7], .cells 39 [.int .i64 xc3_0, .int .i64 xc3_1, .int .i64 xc3_2, .sl 8, .sl 9, .sl 10, .sl 11, .int .i64 xc3_7], qb4, qb5, qb6, qb7, qb8, qb9, qb10, qb11] => (asO 0 false qb1).bind fun xl1 => (asO 2 true qb4).bind fun xl4 => (asO 3 true qb5).bind fun xl5 => (asO 4 true qb6).bind fun xl6 => (asO 1 true qb7).bind fun xl7 => (asO 2 true qb8).bind fun xl8 => (asO 3 true qb9).bind fun xl9 => (asO 4 true qb10).bind fun xl10 => (asO 1 true qb11).bind fun xl11 => spec_l26Draw.l9 k x1 xl1 xc2_0 xc2_1 xc2_2 xc2_7 xc3_0 xc3_1 xc3_2 xc3_7 xl4 xl5 xl6 xl7 xl8 xl10 xl11 (fun (zc0_1 : Int) (zc0_2 : Int) (zl9 : List T_impl_Flow) => K (.exit 2) (stOf [(0, [some 0, none, none]), (1, []), (4, [none, none, none, some 2, some 3, some 4, some 1, none]), (5, [none, none, none, some 2, some 3, some 4, some 1, none])] [.v (.ptr 0 0 0), .v (.int .i64 x1), .v (.ptr 2 0 0), .v (.ptr 3 0 0)] [.cells 157 [.sl 1, .int .i64 zc0_1, .int .i64 zc0_2], .rows 0 false xl1, .cells 39 [.int .i64 xc2_0, .int .i64 xc2_1, .int .i64 xc2_2, .sl 4, .sl 5, .sl 6, .sl 7, .int .i64 xc2_7], .cells 39 [.int .i64 xc3_0, .int .i64 xc3_1, .int .i64 xc3_2, .sl 8, .sl 9, .sl 10, .sl 11, .int .i64 xc3_7], .rows 2 true xl4, .rows 3 true xl5, .rows 4 true xl6, .rows 1 true xl7, .rows 2 true xl8, .rows 3 true zl9, .rows 4 true xl10, .rows 1 true xl11])) k x4 xc0_1 xc0_2 xl9
  | _, _ => none
def spec_l26Draw.h15 (k : Nat) {R : Type} (K : Ex → St κ → Option R) (vs : List AV) (bs : List (Blk κ)) : Option R :=
  match vs, bs with
  | [.v (.ptr 0 0 0), .v (.int .i64 x1), .v (.ptr 2 0 0), .v (.ptr 3 0 0), .v (.int .i64 x4)], [.cells 157 [.sl 1, .int .i64 xc0_1, .int .i64 xc0_2], qb1, .cells 39 [.int .i64 xc2_0, .int .i64 xc2_1, .int .i64 xc2_2, .sl 4, .sl 5, .sl 6, .sl 7, .int .i64 xc2_7], .cells 39 [.int .i64 xc3_0, .int .i64 xc3_1, .int .i64 xc3_2, .sl 8, .sl 9, .sl 10, .sl 11, .int .i64 xc3_7], qb4, qb5, qb6, qb7, qb8, qb9, qb10, qb11] => (asO 0 false qb1).bind fun xl1 => (asO 2 true qb4).bind fun xl4 => (asO 3 true qb5).bind fun xl5 => (asO 4 true qb6).bind fun xl6 => (asO 1 true qb7).bind fun xl7 => (asO 2 true qb8).bind fun xl8 => (asO 3 true qb9).bind fun xl9 => (asO 4 true qb10).bind fun xl10 => (asO 1 true qb11).bind fun xl11 => spec_l26Draw.l15 k x1 xl1 xc2_0 xc2_1 xc2_2 xc2_7 xc3_0 xc3_1 xc3_2 xc3_7 xl4 xl5 xl6 xl7 xl8 xl9 xl11 (fun (zc0_1 : Int) (zc0_2 : Int) (zl10 : List T_impl_Rule) => K (.exit 4) (stOf [(4, [none, none, none, some 2, some 3, some 4, some 1, none]), (5, [none, none, none, some 2, some 3, some 4, some 1, none])] [.v (.ptr 2 0 0), .v (.ptr 3 0 0)] [.cells 157 [.sl 1, .int .i64 zc0_1, .int .i64 zc0_2], .rows 0 false xl1, .cells 39 [.int .i64 xc2_0, .int .i64 xc2_1, .int .i64 xc2_2, .sl 4, .sl 5, .sl 6, .sl 7, .int .i64 xc2_7], .cells 39 [.int .i64 xc3_0, .int .i64 xc3_1, .int .i64 xc3_2, .sl 8, .sl 9, .sl 10, .sl 11, .int .i64 xc3_7], .rows 2 true xl4, .rows 3 true xl5, .rows 4 true xl6, .rows 1 true xl7, .rows 2 true xl8, .rows 3 true xl9, .rows 4 true zl10, .rows 1 true xl11])) k x4 xc0_1 xc0_2 xl10
  | _, _ => none
def spec_l26Draw.Γ (k : Nat) : Ct κ := assoc [(83, spec_l1Below.C k), (125, spec_l21Ops.C k), (165, spec_l10Draw.C k), (132, spec_l20Draw.C k), (126, spec_l13Draw.C k), (124, spec_SealPackage.C k)]
def spec_l26Draw.LH (k : Nat) : Nat → Option (LHi κ) := assoc [(3, ⟨2, [(0, [some 0, none, none]), (1, []), (4, [none, none, none, some 2, some 3, some 4, some 1, none]), (5, [none, none, none, some 2, some 3, some 4, some 1, none]), (6, [])], [(0, [some 0, none, none]), (1, []), (4, [none, none, none, some 2, some 3, some 4, some 1, none]), (5, [none, none, none, some 2, some 3, some 4, some 1, none])], @spec_l26Draw.h3 k⟩), (9, ⟨2, [(0, [some 0, none, none]), (1, []), (4, [none, none, none, some 2, some 3, some 4, some 1, none]), (5, [none, none, none, some 2, some 3, some 4, some 1, none]), (8, [])], [(0, [some 0, none, none]), (1, []), (4, [none, none, none, some 2, some 3, some 4, some 1, none]), (5, [none, none, none, some 2, some 3, some 4, some 1, none])], @spec_l26Draw.h9 k⟩), (15, ⟨2, [(0, [some 0, none, none]), (1, []), (4, [none, none, none, some 2, some 3, some 4, some 1, none]), (5, [none, none, none, some 2, some 3, some 4, some 1, none]), (10, [])], [(4, [none, none, none, some 2, some 3, some 4, some 1, none]), (5, [none, none, none, some 2, some 3, some 4, some 1, none])], @spec_l26Draw.h15 k⟩)]
theorem spec_l26Draw.hΓ (k : Nat) : ∀ f g, spec_l26Draw.Γ k f = some g → CSound Tryz.prog f g := G_cons (spec_l1Below.ok k) (G_cons (spec_l21Ops.ok k) (G_cons (spec_l10Draw.ok k) (G_cons (spec_l20Draw.ok k) (G_cons (spec_l13Draw.ok k) (G_cons (spec_SealPackage.ok k) G_nil)))))
theorem spec_l26Draw.e3 {R : Type} (K : Ex → St κ → Option R) (k : Nat) (x1 : Int) (xl1 : List Int) (xc2_0 : Int) (xc2_1 : Int) (xc2_2 : Int) (xc2_7 : Int) (xc3_0 : Int) (xc3_1 : Int) (xc3_2 : Int) (xc3_7 : Int) (xl4 : List T_impl_Grant) (xl5 : List T_impl_Flow) (xl6 : List T_impl_Rule) (xl7 : List T_impl_Op) (xl9 : List T_impl_Flow) (xl10 : List T_impl_Rule) (xl11 : List T_impl_Op) : ∀ (n : Nat) (x4 : Int) (xc0_1 : Int) (xc0_2 : Int) (xl8 : List T_impl_Grant), loopN 2 (Code.den ti (spec_l26Draw.Γ k) (spec_l26Draw.LH k) (loopAt Tryz.f129 0)) [(0, [some 0, none, none]), (1, []), (4, [none, none, none, some 2, some 3, some 4, some 1, none]), (5, [none, none, none, some 2, some 3, some 4, some 1, none]), (6, [])] [(0, [some 0, none, none]), (1, []), (4, [none, none, none, some 2, some 3, some 4, some 1, none]), (5, [none, none, none, some 2, some 3, some 4, some 1, none])] K n [.v (.ptr 0 0 0), .v (.int .i64 x1), .v (.ptr 2 0 0), .v (.ptr 3 0 0), .v (.int .i64 x4)] [.cells 157 [.sl 1, .int .i64 xc0_1, .int .i64 xc0_2], .rows 0 false xl1, .cells 39 [.int .i64 xc2_0, .int .i64 xc2_1, .int .i64 xc2_2, .sl 4, .sl 5, .sl 6, .sl 7, .int .i64 xc2_7], .cells 39 [.int .i64 xc3_0, .int .i64 xc3_1, .int .i64 xc3_2, .sl 8, .sl 9, .sl 10, .sl 11, .int .i64 xc3_7], .rows 2 true xl4, .rows 3 true xl5, .rows 4 true xl6, .rows 1 true xl7, .rows 2 true xl8, .rows 3 true xl9, .rows 4 true xl10, .rows 1 true xl11] = spec_l26Draw.l3 k x1 xl1 xc2_0 xc2_1 xc2_2 xc2_7 xc3_0 xc3_1 xc3_2 xc3_7 xl4 xl5 xl6 xl7 xl9 xl10 xl11 (fun (zc0_1 : Int) (zc0_2 : Int) (zl8 : List T_impl_Grant) => K (.exit 0) (stOf [(0, [some 0, none, none]), (1, []), (4, [none, none, none, some 2, some 3, some 4, some 1, none]), (5, [none, none, none, some 2, some 3, some 4, some 1, none])] [.v (.ptr 0 0 0), .v (.int .i64 x1), .v (.ptr 2 0 0), .v (.ptr 3 0 0)] [.cells 157 [.sl 1, .int .i64 zc0_1, .int .i64 zc0_2], .rows 0 false xl1, .cells 39 [.int .i64 xc2_0, .int .i64 xc2_1, .int .i64 xc2_2, .sl 4, .sl 5, .sl 6, .sl 7, .int .i64 xc2_7], .cells 39 [.int .i64 xc3_0, .int .i64 xc3_1, .int .i64 xc3_2, .sl 8, .sl 9, .sl 10, .sl 11, .int .i64 xc3_7], .rows 2 true xl4, .rows 3 true xl5, .rows 4 true xl6, .rows 1 true xl7, .rows 2 true zl8, .rows 3 true xl9, .rows 4 true xl10, .rows 1 true xl11])) n x4 xc0_1 xc0_2 xl8
  | 0, _, _, _, _ => rfl
  | n + 1, x4, xc0_1, xc0_2, xl8 => (show loopN 2 (Code.den ti (spec_l26Draw.Γ k) (spec_l26Draw.LH k) (loopAt Tryz.f129 0)) [(0, [some 0, none, none]), (1, []), (4, [none, none, none, some 2, some 3, some 4, some 1, none]), (5, [none, none, none, some 2, some 3, some 4, some 1, none]), (6, [])] [(0, [some 0, none, none]), (1, []), (4, [none, none, none, some 2, some 3, some 4, some 1, none]), (5, [none, none, none, some 2, some 3, some 4, some 1, none])] K (n + 1) [.v (.ptr 0 0 0), .v (.int .i64 x1), .v (.ptr 2 0 0), .v (.ptr 3 0 0), .v (.int .i64 x4)] [.cells 157 [.sl 1, .int .i64 xc0_1, .int .i64 xc0_2], .rows 0 false xl1, .cells 39 [.int .i64 xc2_0, .int .i64 xc2_1, .int .i64 xc2_2, .sl 4, .sl 5, .sl 6, .sl 7, .int .i64 xc2_7], .cells 39 [.int .i64 xc3_0, .int .i64 xc3_1, .int .i64 xc3_2, .sl 8, .sl 9, .sl 10, .sl 11, .int .i64 xc3_7], .rows 2 true xl4, .rows 3 true xl5, .rows 4 true xl6, .rows 1 true xl7, .rows 2 true xl8, .rows 3 true xl9, .rows 4 true xl10, .rows 1 true xl11] = spec_l26Draw.L3 k x1 xl1 xc2_0 xc2_1 xc2_2 xc2_7 xc3_0 xc3_1 xc3_2 xc3_7 xl4 xl5 xl6 xl7 xl9 xl10 xl11 (fun (zc0_1 : Int) (zc0_2 : Int) (zl8 : List T_impl_Grant) => K (.exit 0) (stOf [(0, [some 0, none, none]), (1, []), (4, [none, none, none, some 2, some 3, some 4, some 1, none]), (5, [none, none, none, some 2, some 3, some 4, some 1, none])] [.v (.ptr 0 0 0), .v (.int .i64 x1), .v (.ptr 2 0 0), .v (.ptr 3 0 0)] [.cells 157 [.sl 1, .int .i64 zc0_1, .int .i64 zc0_2], .rows 0 false xl1, .cells 39 [.int .i64 xc2_0, .int .i64 xc2_1, .int .i64 xc2_2, .sl 4, .sl 5, .sl 6, .sl 7, .int .i64 xc2_7], .cells 39 [.int .i64 xc3_0, .int .i64 xc3_1, .int .i64 xc3_2, .sl 8, .sl 9, .sl 10, .sl 11, .int .i64 xc3_7], .rows 2 true xl4, .rows 3 true xl5, .rows 4 true xl6, .rows 1 true xl7, .rows 2 true zl8, .rows 3 true xl9, .rows 4 true xl10, .rows 1 true xl11])) (fun (x4' : Int) (xc0_1' : Int) (xc0_2' : Int) (xl8' : List T_impl_Grant) => loopN 2 (Code.den ti (spec_l26Draw.Γ k) (spec_l26Draw.LH k) (loopAt Tryz.f129 0)) [(0, [some 0, none, none]), (1, []), (4, [none, none, none, some 2, some 3, some 4, some 1, none]), (5, [none, none, none, some 2, some 3, some 4, some 1, none]), (6, [])] [(0, [some 0, none, none]), (1, []), (4, [none, none, none, some 2, some 3, some 4, some 1, none]), (5, [none, none, none, some 2, some 3, some 4, some 1, none])] K n [.v (.ptr 0 0 0), .v (.int .i64 x1), .v (.ptr 2 0 0), .v (.ptr 3 0 0), .v (.int .i64 x4')] [.cells 157 [.sl 1, .int .i64 xc0_1', .int .i64 xc0_2'], .rows 0 false xl1, .cells 39 [.int .i64 xc2_0, .int .i64 xc2_1, .int .i64 xc2_2, .sl 4, .sl 5, .sl 6, .sl 7, .int .i64 xc2_7], .cells 39 [.int .i64 xc3_0, .int .i64 xc3_1, .int .i64 xc3_2, .sl 8, .sl 9, .sl 10, .sl 11, .int .i64 xc3_7], .rows 2 true xl4, .rows 3 true xl5, .rows 4 true xl6, .rows 1 true xl7, .rows 2 true xl8', .rows 3 true xl9, .rows 4 true xl10, .rows 1 true xl11]) x4 xc0_1 xc0_2 xl8 by kernel_rfl).trans (congrArg (fun rec => spec_l26Draw.L3 k x1 xl1 xc2_0 xc2_1 xc2_2 xc2_7 xc3_0 xc3_1 xc3_2 xc3_7 xl4 xl5 xl6 xl7 xl9 xl10 xl11 (fun (zc0_1 : Int) (zc0_2 : Int) (zl8 : List T_impl_Grant) => K (.exit 0) (stOf [(0, [some 0, none, none]), (1, []), (4, [none, none, none, some 2, some 3, some 4, some 1, none]), (5, [none, none, none, some 2, some 3, some 4, some 1, none])] [.v (.ptr 0 0 0), .v (.int .i64 x1), .v (.ptr 2 0 0), .v (.ptr 3 0 0)] [.cells 157 [.sl 1, .int .i64 zc0_1, .int .i64 zc0_2], .rows 0 false xl1, .cells 39 [.int .i64 xc2_0, .int .i64 xc2_1, .int .i64 xc2_2, .sl 4, .sl 5, .sl 6, .sl 7, .int .i64 xc2_7], .cells 39 [.int .i64 xc3_0, .int .i64 xc3_1, .int .i64 xc3_2, .sl 8, .sl 9, .sl 10, .sl 11, .int .i64 xc3_7], .rows 2 true xl4, .rows 3 true xl5, .rows 4 true xl6, .rows 1 true xl7, .rows 2 true zl8, .rows 3 true xl9, .rows 4 true xl10, .rows 1 true xl11])) rec x4 xc0_1 xc0_2 xl8) (funext fun x4' => funext fun xc0_1' => funext fun xc0_2' => funext fun xl8' => spec_l26Draw.e3 K k x1 xl1 xc2_0 xc2_1 xc2_2 xc2_7 xc3_0 xc3_1 xc3_2 xc3_7 xl4 xl5 xl6 xl7 xl9 xl10 xl11 n x4' xc0_1' xc0_2' xl8'))
theorem spec_l26Draw.q3 (k : Nat) {R : Type} (K : Ex → St κ → Option R) (vs : List AV) (bs : List (Blk κ)) (r : R) (h : spec_l26Draw.h3 k K vs bs = some r) : ∃ n, loopN 2 (Code.den ti (spec_l26Draw.Γ k) (spec_l26Draw.LH k) (loopAt Tryz.f129 0)) [(0, [some 0, none, none]), (1, []), (4, [none, none, none, some 2, some 3, some 4, some 1, none]), (5, [none, none, none, some 2, some 3, some 4, some 1, none]), (6, [])] [(0, [some 0, none, none]), (1, []), (4, [none, none, none, some 2, some 3, some 4, some 1, none]), (5, [none, none, none, some 2, some 3, some 4, some 1, none])] K n vs bs = some r := by
  unfold spec_l26Draw.h3 at h
  split at h
  · obtain ⟨_, rfl, h_1⟩ := asO_bind h
    obtain ⟨_, rfl, h_2⟩ := asO_bind h_1
    obtain ⟨_, rfl, h_3⟩ := asO_bind h_2
    obtain ⟨_, rfl, h_4⟩ := asO_bind h_3
    obtain ⟨_, rfl, h_5⟩ := asO_bind h_4
    obtain ⟨_, rfl, h_6⟩ := asO_bind h_5
    obtain ⟨_, rfl, h_7⟩ := asO_bind h_6
    obtain ⟨_, rfl, h_8⟩ := asO_bind h_7
    obtain ⟨_, rfl, h_9⟩ := asO_bind h_8
    exact ⟨k, (spec_l26Draw.e3 K k _ _ _ _ _ _ _ _ _ _ _ _ _ _ _ _ _ k _ _ _ _).trans h_9⟩
  · cases h
theorem spec_l26Draw.e9 {R : Type} (K : Ex → St κ → Option R) (k : Nat) (x1 : Int) (xl1 : List Int) (xc2_0 : Int) (xc2_1 : Int) (xc2_2 : Int) (xc2_7 : Int) (xc3_0 : Int) (xc3_1 : Int) (xc3_2 : Int) (xc3_7 : Int) (xl4 : List T_impl_Grant) (xl5 : List T_impl_Flow) (xl6 : List T_impl_Rule) (xl7 : List T_impl_Op) (xl8 : List T_impl_Grant) (xl10 : List T_impl_Rule) (xl11 : List T_impl_Op) : ∀ (n : Nat) (x4 : Int) (xc0_1 : Int) (xc0_2 : Int) (xl9 : List T_impl_Flow), loopN 2 (Code.den ti (spec_l26Draw.Γ k) (spec_l26Draw.LH k) (loopAt Tryz.f129 1)) [(0, [some 0, none, none]), (1, []), (4, [none, none, none, some 2, some 3, some 4, some 1, none]), (5, [none, none, none, some 2, some 3, some 4, some 1, none]), (8, [])] [(0, [some 0, none, none]), (1, []), (4, [none, none, none, some 2, some 3, some 4, some 1, none]), (5, [none, none, none, some 2, some 3, some 4, some 1, none])] K n [.v (.ptr 0 0 0), .v (.int .i64 x1), .v (.ptr 2 0 0), .v (.ptr 3 0 0), .v (.int .i64 x4)] [.cells 157 [.sl 1, .int .i64 xc0_1, .int .i64 xc0_2], .rows 0 false xl1, .cells 39 [.int .i64 xc2_0, .int .i64 xc2_1, .int .i64 xc2_2, .sl 4, .sl 5, .sl 6, .sl 7, .int .i64 xc2_7], .cells 39 [.int .i64 xc3_0, .int .i64 xc3_1, .int .i64 xc3_2, .sl 8, .sl 9, .sl 10, .sl 11, .int .i64 xc3_7], .rows 2 true xl4, .rows 3 true xl5, .rows 4 true xl6, .rows 1 true xl7, .rows 2 true xl8, .rows 3 true xl9, .rows 4 true xl10, .rows 1 true xl11] = spec_l26Draw.l9 k x1 xl1 xc2_0 xc2_1 xc2_2 xc2_7 xc3_0 xc3_1 xc3_2 xc3_7 xl4 xl5 xl6 xl7 xl8 xl10 xl11 (fun (zc0_1 : Int) (zc0_2 : Int) (zl9 : List T_impl_Flow) => K (.exit 2) (stOf [(0, [some 0, none, none]), (1, []), (4, [none, none, none, some 2, some 3, some 4, some 1, none]), (5, [none, none, none, some 2, some 3, some 4, some 1, none])] [.v (.ptr 0 0 0), .v (.int .i64 x1), .v (.ptr 2 0 0), .v (.ptr 3 0 0)] [.cells 157 [.sl 1, .int .i64 zc0_1, .int .i64 zc0_2], .rows 0 false xl1, .cells 39 [.int .i64 xc2_0, .int .i64 xc2_1, .int .i64 xc2_2, .sl 4, .sl 5, .sl 6, .sl 7, .int .i64 xc2_7], .cells 39 [.int .i64 xc3_0, .int .i64 xc3_1, .int .i64 xc3_2, .sl 8, .sl 9, .sl 10, .sl 11, .int .i64 xc3_7], .rows 2 true xl4, .rows 3 true xl5, .rows 4 true xl6, .rows 1 true xl7, .rows 2 true xl8, .rows 3 true zl9, .rows 4 true xl10, .rows 1 true xl11])) n x4 xc0_1 xc0_2 xl9
  | 0, _, _, _, _ => rfl
  | n + 1, x4, xc0_1, xc0_2, xl9 => (show loopN 2 (Code.den ti (spec_l26Draw.Γ k) (spec_l26Draw.LH k) (loopAt Tryz.f129 1)) [(0, [some 0, none, none]), (1, []), (4, [none, none, none, some 2, some 3, some 4, some 1, none]), (5, [none, none, none, some 2, some 3, some 4, some 1, none]), (8, [])] [(0, [some 0, none, none]), (1, []), (4, [none, none, none, some 2, some 3, some 4, some 1, none]), (5, [none, none, none, some 2, some 3, some 4, some 1, none])] K (n + 1) [.v (.ptr 0 0 0), .v (.int .i64 x1), .v (.ptr 2 0 0), .v (.ptr 3 0 0), .v (.int .i64 x4)] [.cells 157 [.sl 1, .int .i64 xc0_1, .int .i64 xc0_2], .rows 0 false xl1, .cells 39 [.int .i64 xc2_0, .int .i64 xc2_1, .int .i64 xc2_2, .sl 4, .sl 5, .sl 6, .sl 7, .int .i64 xc2_7], .cells 39 [.int .i64 xc3_0, .int .i64 xc3_1, .int .i64 xc3_2, .sl 8, .sl 9, .sl 10, .sl 11, .int .i64 xc3_7], .rows 2 true xl4, .rows 3 true xl5, .rows 4 true xl6, .rows 1 true xl7, .rows 2 true xl8, .rows 3 true xl9, .rows 4 true xl10, .rows 1 true xl11] = spec_l26Draw.L9 k x1 xl1 xc2_0 xc2_1 xc2_2 xc2_7 xc3_0 xc3_1 xc3_2 xc3_7 xl4 xl5 xl6 xl7 xl8 xl10 xl11 (fun (zc0_1 : Int) (zc0_2 : Int) (zl9 : List T_impl_Flow) => K (.exit 2) (stOf [(0, [some 0, none, none]), (1, []), (4, [none, none, none, some 2, some 3, some 4, some 1, none]), (5, [none, none, none, some 2, some 3, some 4, some 1, none])] [.v (.ptr 0 0 0), .v (.int .i64 x1), .v (.ptr 2 0 0), .v (.ptr 3 0 0)] [.cells 157 [.sl 1, .int .i64 zc0_1, .int .i64 zc0_2], .rows 0 false xl1, .cells 39 [.int .i64 xc2_0, .int .i64 xc2_1, .int .i64 xc2_2, .sl 4, .sl 5, .sl 6, .sl 7, .int .i64 xc2_7], .cells 39 [.int .i64 xc3_0, .int .i64 xc3_1, .int .i64 xc3_2, .sl 8, .sl 9, .sl 10, .sl 11, .int .i64 xc3_7], .rows 2 true xl4, .rows 3 true xl5, .rows 4 true xl6, .rows 1 true xl7, .rows 2 true xl8, .rows 3 true zl9, .rows 4 true xl10, .rows 1 true xl11])) (fun (x4' : Int) (xc0_1' : Int) (xc0_2' : Int) (xl9' : List T_impl_Flow) => loopN 2 (Code.den ti (spec_l26Draw.Γ k) (spec_l26Draw.LH k) (loopAt Tryz.f129 1)) [(0, [some 0, none, none]), (1, []), (4, [none, none, none, some 2, some 3, some 4, some 1, none]), (5, [none, none, none, some 2, some 3, some 4, some 1, none]), (8, [])] [(0, [some 0, none, none]), (1, []), (4, [none, none, none, some 2, some 3, some 4, some 1, none]), (5, [none, none, none, some 2, some 3, some 4, some 1, none])] K n [.v (.ptr 0 0 0), .v (.int .i64 x1), .v (.ptr 2 0 0), .v (.ptr 3 0 0), .v (.int .i64 x4')] [.cells 157 [.sl 1, .int .i64 xc0_1', .int .i64 xc0_2'], .rows 0 false xl1, .cells 39 [.int .i64 xc2_0, .int .i64 xc2_1, .int .i64 xc2_2, .sl 4, .sl 5, .sl 6, .sl 7, .int .i64 xc2_7], .cells 39 [.int .i64 xc3_0, .int .i64 xc3_1, .int .i64 xc3_2, .sl 8, .sl 9, .sl 10, .sl 11, .int .i64 xc3_7], .rows 2 true xl4, .rows 3 true xl5, .rows 4 true xl6, .rows 1 true xl7, .rows 2 true xl8, .rows 3 true xl9', .rows 4 true xl10, .rows 1 true xl11]) x4 xc0_1 xc0_2 xl9 by kernel_rfl).trans (congrArg (fun rec => spec_l26Draw.L9 k x1 xl1 xc2_0 xc2_1 xc2_2 xc2_7 xc3_0 xc3_1 xc3_2 xc3_7 xl4 xl5 xl6 xl7 xl8 xl10 xl11 (fun (zc0_1 : Int) (zc0_2 : Int) (zl9 : List T_impl_Flow) => K (.exit 2) (stOf [(0, [some 0, none, none]), (1, []), (4, [none, none, none, some 2, some 3, some 4, some 1, none]), (5, [none, none, none, some 2, some 3, some 4, some 1, none])] [.v (.ptr 0 0 0), .v (.int .i64 x1), .v (.ptr 2 0 0), .v (.ptr 3 0 0)] [.cells 157 [.sl 1, .int .i64 zc0_1, .int .i64 zc0_2], .rows 0 false xl1, .cells 39 [.int .i64 xc2_0, .int .i64 xc2_1, .int .i64 xc2_2, .sl 4, .sl 5, .sl 6, .sl 7, .int .i64 xc2_7], .cells 39 [.int .i64 xc3_0, .int .i64 xc3_1, .int .i64 xc3_2, .sl 8, .sl 9, .sl 10, .sl 11, .int .i64 xc3_7], .rows 2 true xl4, .rows 3 true xl5, .rows 4 true xl6, .rows 1 true xl7, .rows 2 true xl8, .rows 3 true zl9, .rows 4 true xl10, .rows 1 true xl11])) rec x4 xc0_1 xc0_2 xl9) (funext fun x4' => funext fun xc0_1' => funext fun xc0_2' => funext fun xl9' => spec_l26Draw.e9 K k x1 xl1 xc2_0 xc2_1 xc2_2 xc2_7 xc3_0 xc3_1 xc3_2 xc3_7 xl4 xl5 xl6 xl7 xl8 xl10 xl11 n x4' xc0_1' xc0_2' xl9'))
theorem spec_l26Draw.q9 (k : Nat) {R : Type} (K : Ex → St κ → Option R) (vs : List AV) (bs : List (Blk κ)) (r : R) (h : spec_l26Draw.h9 k K vs bs = some r) : ∃ n, loopN 2 (Code.den ti (spec_l26Draw.Γ k) (spec_l26Draw.LH k) (loopAt Tryz.f129 1)) [(0, [some 0, none, none]), (1, []), (4, [none, none, none, some 2, some 3, some 4, some 1, none]), (5, [none, none, none, some 2, some 3, some 4, some 1, none]), (8, [])] [(0, [some 0, none, none]), (1, []), (4, [none, none, none, some 2, some 3, some 4, some 1, none]), (5, [none, none, none, some 2, some 3, some 4, some 1, none])] K n vs bs = some r := by
  unfold spec_l26Draw.h9 at h
  split at h
  · obtain ⟨_, rfl, h_1⟩ := asO_bind h
    obtain ⟨_, rfl, h_2⟩ := asO_bind h_1
    obtain ⟨_, rfl, h_3⟩ := asO_bind h_2
    obtain ⟨_, rfl, h_4⟩ := asO_bind h_3
    obtain ⟨_, rfl, h_5⟩ := asO_bind h_4
    obtain ⟨_, rfl, h_6⟩ := asO_bind h_5
    obtain ⟨_, rfl, h_7⟩ := asO_bind h_6
    obtain ⟨_, rfl, h_8⟩ := asO_bind h_7
    obtain ⟨_, rfl, h_9⟩ := asO_bind h_8
    exact ⟨k, (spec_l26Draw.e9 K k _ _ _ _ _ _ _ _ _ _ _ _ _ _ _ _ _ k _ _ _ _).trans h_9⟩
  · cases h
theorem spec_l26Draw.e15 {R : Type} (K : Ex → St κ → Option R) (k : Nat) (x1 : Int) (xl1 : List Int) (xc2_0 : Int) (xc2_1 : Int) (xc2_2 : Int) (xc2_7 : Int) (xc3_0 : Int) (xc3_1 : Int) (xc3_2 : Int) (xc3_7 : Int) (xl4 : List T_impl_Grant) (xl5 : List T_impl_Flow) (xl6 : List T_impl_Rule) (xl7 : List T_impl_Op) (xl8 : List T_impl_Grant) (xl9 : List T_impl_Flow) (xl11 : List T_impl_Op) : ∀ (n : Nat) (x4 : Int) (xc0_1 : Int) (xc0_2 : Int) (xl10 : List T_impl_Rule), loopN 2 (Code.den ti (spec_l26Draw.Γ k) (spec_l26Draw.LH k) (loopAt Tryz.f129 2)) [(0, [some 0, none, none]), (1, []), (4, [none, none, none, some 2, some 3, some 4, some 1, none]), (5, [none, none, none, some 2, some 3, some 4, some 1, none]), (10, [])] [(4, [none, none, none, some 2, some 3, some 4, some 1, none]), (5, [none, none, none, some 2, some 3, some 4, some 1, none])] K n [.v (.ptr 0 0 0), .v (.int .i64 x1), .v (.ptr 2 0 0), .v (.ptr 3 0 0), .v (.int .i64 x4)] [.cells 157 [.sl 1, .int .i64 xc0_1, .int .i64 xc0_2], .rows 0 false xl1, .cells 39 [.int .i64 xc2_0, .int .i64 xc2_1, .int .i64 xc2_2, .sl 4, .sl 5, .sl 6, .sl 7, .int .i64 xc2_7], .cells 39 [.int .i64 xc3_0, .int .i64 xc3_1, .int .i64 xc3_2, .sl 8, .sl 9, .sl 10, .sl 11, .int .i64 xc3_7], .rows 2 true xl4, .rows 3 true xl5, .rows 4 true xl6, .rows 1 true xl7, .rows 2 true xl8, .rows 3 true xl9, .rows 4 true xl10, .rows 1 true xl11] = spec_l26Draw.l15 k x1 xl1 xc2_0 xc2_1 xc2_2 xc2_7 xc3_0 xc3_1 xc3_2 xc3_7 xl4 xl5 xl6 xl7 xl8 xl9 xl11 (fun (zc0_1 : Int) (zc0_2 : Int) (zl10 : List T_impl_Rule) => K (.exit 4) (stOf [(4, [none, none, none, some 2, some 3, some 4, some 1, none]), (5, [none, none, none, some 2, some 3, some 4, some 1, none])] [.v (.ptr 2 0 0), .v (.ptr 3 0 0)] [.cells 157 [.sl 1, .int .i64 zc0_1, .int .i64 zc0_2], .rows 0 false xl1, .cells 39 [.int .i64 xc2_0, .int .i64 xc2_1, .int .i64 xc2_2, .sl 4, .sl 5, .sl 6, .sl 7, .int .i64 xc2_7], .cells 39 [.int .i64 xc3_0, .int .i64 xc3_1, .int .i64 xc3_2, .sl 8, .sl 9, .sl 10, .sl 11, .int .i64 xc3_7], .rows 2 true xl4, .rows 3 true xl5, .rows 4 true xl6, .rows 1 true xl7, .rows 2 true xl8, .rows 3 true xl9, .rows 4 true zl10, .rows 1 true xl11])) n x4 xc0_1 xc0_2 xl10
  | 0, _, _, _, _ => rfl
  | n + 1, x4, xc0_1, xc0_2, xl10 => (show loopN 2 (Code.den ti (spec_l26Draw.Γ k) (spec_l26Draw.LH k) (loopAt Tryz.f129 2)) [(0, [some 0, none, none]), (1, []), (4, [none, none, none, some 2, some 3, some 4, some 1, none]), (5, [none, none, none, some 2, some 3, some 4, some 1, none]), (10, [])] [(4, [none, none, none, some 2, some 3, some 4, some 1, none]), (5, [none, none, none, some 2, some 3, some 4, some 1, none])] K (n + 1) [.v (.ptr 0 0 0), .v (.int .i64 x1), .v (.ptr 2 0 0), .v (.ptr 3 0 0), .v (.int .i64 x4)] [.cells 157 [.sl 1, .int .i64 xc0_1, .int .i64 xc0_2], .rows 0 false xl1, .cells 39 [.int .i64 xc2_0, .int .i64 xc2_1, .int .i64 xc2_2, .sl 4, .sl 5, .sl 6, .sl 7, .int .i64 xc2_7], .cells 39 [.int .i64 xc3_0, .int .i64 xc3_1, .int .i64 xc3_2, .sl 8, .sl 9, .sl 10, .sl 11, .int .i64 xc3_7], .rows 2 true xl4, .rows 3 true xl5, .rows 4 true xl6, .rows 1 true xl7, .rows 2 true xl8, .rows 3 true xl9, .rows 4 true xl10, .rows 1 true xl11] = spec_l26Draw.L15 k x1 xl1 xc2_0 xc2_1 xc2_2 xc2_7 xc3_0 xc3_1 xc3_2 xc3_7 xl4 xl5 xl6 xl7 xl8 xl9 xl11 (fun (zc0_1 : Int) (zc0_2 : Int) (zl10 : List T_impl_Rule) => K (.exit 4) (stOf [(4, [none, none, none, some 2, some 3, some 4, some 1, none]), (5, [none, none, none, some 2, some 3, some 4, some 1, none])] [.v (.ptr 2 0 0), .v (.ptr 3 0 0)] [.cells 157 [.sl 1, .int .i64 zc0_1, .int .i64 zc0_2], .rows 0 false xl1, .cells 39 [.int .i64 xc2_0, .int .i64 xc2_1, .int .i64 xc2_2, .sl 4, .sl 5, .sl 6, .sl 7, .int .i64 xc2_7], .cells 39 [.int .i64 xc3_0, .int .i64 xc3_1, .int .i64 xc3_2, .sl 8, .sl 9, .sl 10, .sl 11, .int .i64 xc3_7], .rows 2 true xl4, .rows 3 true xl5, .rows 4 true xl6, .rows 1 true xl7, .rows 2 true xl8, .rows 3 true xl9, .rows 4 true zl10, .rows 1 true xl11])) (fun (x4' : Int) (xc0_1' : Int) (xc0_2' : Int) (xl10' : List T_impl_Rule) => loopN 2 (Code.den ti (spec_l26Draw.Γ k) (spec_l26Draw.LH k) (loopAt Tryz.f129 2)) [(0, [some 0, none, none]), (1, []), (4, [none, none, none, some 2, some 3, some 4, some 1, none]), (5, [none, none, none, some 2, some 3, some 4, some 1, none]), (10, [])] [(4, [none, none, none, some 2, some 3, some 4, some 1, none]), (5, [none, none, none, some 2, some 3, some 4, some 1, none])] K n [.v (.ptr 0 0 0), .v (.int .i64 x1), .v (.ptr 2 0 0), .v (.ptr 3 0 0), .v (.int .i64 x4')] [.cells 157 [.sl 1, .int .i64 xc0_1', .int .i64 xc0_2'], .rows 0 false xl1, .cells 39 [.int .i64 xc2_0, .int .i64 xc2_1, .int .i64 xc2_2, .sl 4, .sl 5, .sl 6, .sl 7, .int .i64 xc2_7], .cells 39 [.int .i64 xc3_0, .int .i64 xc3_1, .int .i64 xc3_2, .sl 8, .sl 9, .sl 10, .sl 11, .int .i64 xc3_7], .rows 2 true xl4, .rows 3 true xl5, .rows 4 true xl6, .rows 1 true xl7, .rows 2 true xl8, .rows 3 true xl9, .rows 4 true xl10', .rows 1 true xl11]) x4 xc0_1 xc0_2 xl10 by kernel_rfl).trans (congrArg (fun rec => spec_l26Draw.L15 k x1 xl1 xc2_0 xc2_1 xc2_2 xc2_7 xc3_0 xc3_1 xc3_2 xc3_7 xl4 xl5 xl6 xl7 xl8 xl9 xl11 (fun (zc0_1 : Int) (zc0_2 : Int) (zl10 : List T_impl_Rule) => K (.exit 4) (stOf [(4, [none, none, none, some 2, some 3, some 4, some 1, none]), (5, [none, none, none, some 2, some 3, some 4, some 1, none])] [.v (.ptr 2 0 0), .v (.ptr 3 0 0)] [.cells 157 [.sl 1, .int .i64 zc0_1, .int .i64 zc0_2], .rows 0 false xl1, .cells 39 [.int .i64 xc2_0, .int .i64 xc2_1, .int .i64 xc2_2, .sl 4, .sl 5, .sl 6, .sl 7, .int .i64 xc2_7], .cells 39 [.int .i64 xc3_0, .int .i64 xc3_1, .int .i64 xc3_2, .sl 8, .sl 9, .sl 10, .sl 11, .int .i64 xc3_7], .rows 2 true xl4, .rows 3 true xl5, .rows 4 true xl6, .rows 1 true xl7, .rows 2 true xl8, .rows 3 true xl9, .rows 4 true zl10, .rows 1 true xl11])) rec x4 xc0_1 xc0_2 xl10) (funext fun x4' => funext fun xc0_1' => funext fun xc0_2' => funext fun xl10' => spec_l26Draw.e15 K k x1 xl1 xc2_0 xc2_1 xc2_2 xc2_7 xc3_0 xc3_1 xc3_2 xc3_7 xl4 xl5 xl6 xl7 xl8 xl9 xl11 n x4' xc0_1' xc0_2' xl10'))
theorem spec_l26Draw.q15 (k : Nat) {R : Type} (K : Ex → St κ → Option R) (vs : List AV) (bs : List (Blk κ)) (r : R) (h : spec_l26Draw.h15 k K vs bs = some r) : ∃ n, loopN 2 (Code.den ti (spec_l26Draw.Γ k) (spec_l26Draw.LH k) (loopAt Tryz.f129 2)) [(0, [some 0, none, none]), (1, []), (4, [none, none, none, some 2, some 3, some 4, some 1, none]), (5, [none, none, none, some 2, some 3, some 4, some 1, none]), (10, [])] [(4, [none, none, none, some 2, some 3, some 4, some 1, none]), (5, [none, none, none, some 2, some 3, some 4, some 1, none])] K n vs bs = some r := by
  unfold spec_l26Draw.h15 at h
  split at h
  · obtain ⟨_, rfl, h_1⟩ := asO_bind h
    obtain ⟨_, rfl, h_2⟩ := asO_bind h_1
    obtain ⟨_, rfl, h_3⟩ := asO_bind h_2
    obtain ⟨_, rfl, h_4⟩ := asO_bind h_3
    obtain ⟨_, rfl, h_5⟩ := asO_bind h_4
    obtain ⟨_, rfl, h_6⟩ := asO_bind h_5
    obtain ⟨_, rfl, h_7⟩ := asO_bind h_6
    obtain ⟨_, rfl, h_8⟩ := asO_bind h_7
    obtain ⟨_, rfl, h_9⟩ := asO_bind h_8
    exact ⟨k, (spec_l26Draw.e15 K k _ _ _ _ _ _ _ _ _ _ _ _ _ _ _ _ _ k _ _ _ _).trans h_9⟩
  · cases h
theorem spec_l26Draw.lok (k : Nat) : LOK ti (spec_l26Draw.Γ k) (spec_l26Draw.LH k) 2 (loopsOf (bodyOf Tryz.f129)) :=
  (show loopsOf (bodyOf Tryz.f129) = [loopAt Tryz.f129 0, loopAt Tryz.f129 1, loopAt Tryz.f129 2] by kernel_rfl) ▸ (LOK_cons (g := ⟨2, [(0, [some 0, none, none]), (1, []), (4, [none, none, none, some 2, some 3, some 4, some 1, none]), (5, [none, none, none, some 2, some 3, some 4, some 1, none]), (6, [])], [(0, [some 0, none, none]), (1, []), (4, [none, none, none, some 2, some 3, some 4, some 1, none]), (5, [none, none, none, some 2, some 3, some 4, some 1, none])], @spec_l26Draw.h3 k⟩) (by kernel_rfl) rfl (fun K vs xs r h => spec_l26Draw.q3 k K vs xs r h) (LOK_cons (g := ⟨2, [(0, [some 0, none, none]), (1, []), (4, [none, none, none, some 2, some 3, some 4, some 1, none]), (5, [none, none, none, some 2, some 3, some 4, some 1, none]), (8, [])], [(0, [some 0, none, none]), (1, []), (4, [none, none, none, some 2, some 3, some 4, some 1, none]), (5, [none, none, none, some 2, some 3, some 4, some 1, none])], @spec_l26Draw.h9 k⟩) (by kernel_rfl) rfl (fun K vs xs r h => spec_l26Draw.q9 k K vs xs r h) (LOK_cons (g := ⟨2, [(0, [some 0, none, none]), (1, []), (4, [none, none, none, some 2, some 3, some 4, some 1, none]), (5, [none, none, none, some 2, some 3, some 4, some 1, none]), (10, [])], [(4, [none, none, none, some 2, some 3, some 4, some 1, none]), (5, [none, none, none, some 2, some 3, some 4, some 1, none])], @spec_l26Draw.h15 k⟩) (by kernel_rfl) rfl (fun K vs xs r h => spec_l26Draw.q15 k K vs xs r h) (LOK_nil))))
def spec_l26Draw.sig : List PSh := [.cur 157 [.ro 0, .sc, .sc], .one .sc]
def spec_l26Draw.g (y : Int × Int × Int × Int × Int × Int × List T_impl_Grant × List T_impl_Flow × List T_impl_Rule × List T_impl_Op) : Ret κ := ⟨.agg [.int .i64 y.1, .int .i64 y.2.1, .int .i64 y.2.2.1, .sl 2, .sl 3, .sl 4, .sl 5, .int .i64 y.2.2.2.1], [.cells 157 [.sl 1, .int .i64 y.2.2.2.2.1, .int .i64 y.2.2.2.2.2.1]], [.rows 2 true y.2.2.2.2.2.2.1, .rows 3 true y.2.2.2.2.2.2.2.1, .rows 4 true y.2.2.2.2.2.2.2.2.1, .rows 1 true y.2.2.2.2.2.2.2.2.2]⟩
def spec_l26Draw.out (r : Ret κ) : Option (Int × Int × Int × Int × Int × Int × List T_impl_Grant × List T_impl_Flow × List T_impl_Rule × List T_impl_Op) :=
  match r with
  | ⟨.agg [.int .i64 z0, .int .i64 z1, .int .i64 z2, .sl 2, .sl 3, .sl 4, .sl 5, .int .i64 z3], [.cells 157 [.sl 1, .int .i64 z4, .int .i64 z5]], [q6, q7, q8, q9]⟩ => (asO 2 true q6).bind fun z6 => (asO 3 true q7).bind fun z7 => (asO 4 true q8).bind fun z8 => (asO 1 true q9).bind fun z9 => some (z0, z1, z2, z3, z4, z5, z6, z7, z8, z9)
  | _ => none
theorem spec_l26Draw.out_ok (r : Ret κ) (y : Int × Int × Int × Int × Int × Int × List T_impl_Grant × List T_impl_Flow × List T_impl_Rule × List T_impl_Op) (h : spec_l26Draw.out r = some y) : r = spec_l26Draw.g y := by
  unfold spec_l26Draw.out at h
  split at h
  · obtain ⟨_, rfl, h_1⟩ := asO_bind h
    obtain ⟨_, rfl, h_2⟩ := asO_bind h_1
    obtain ⟨_, rfl, h_3⟩ := asO_bind h_2
    obtain ⟨_, rfl, h_4⟩ := asO_bind h_3
    obtain rfl := Option.some.inj h_4
    rfl
  · cases h
def spec_l26Draw.body (k : Nat) (vs : List AV) (bs : List (Blk κ)) : Option (Lf κ) :=
  match vs, bs with
  | [.v (.ptr 0 0 0), .v (.int .i64 a1)], [.cells 157 [.sl 1, .int .i64 a0_1, .int .i64 a0_2], qb1] => (asO 0 false qb1).bind fun a0_0 => some ⟨Int × Int × Int × Int × Int × Int × List T_impl_Grant × List T_impl_Flow × List T_impl_Rule × List T_impl_Op, spec_l26Draw.f k a0_0 a0_1 a0_2 a1, spec_l26Draw.g⟩
  | _, _ => none
def spec_l26Draw.C (k : Nat) : Nat → List AV → AP κ AV := contract spec_l26Draw.sig (spec_l26Draw.body k)
theorem spec_l26Draw.den (k : Nat) (a0_0 : List Int) (a0_1 : Int) (a0_2 : Int) (a1 : Int) : Code.den ti (spec_l26Draw.Γ k) (spec_l26Draw.LH k) (bodyOf Tryz.f129) (finK ti Tryz.f129.results.toList [(4, [none, none, none, some 2, some 3, some 4, some 1, none])] (flags spec_l26Draw.sig).length (rwI (flags spec_l26Draw.sig) 0) spec_l26Draw.out) ⟨envOf (([.v (.ptr 0 0 0), .v (.int .i64 a1)]).zipIdx.map fun q => (q.2, q.1)), hpOf [.cells 157 [.sl 1, .int .i64 a0_1, .int .i64 a0_2], .rows 0 false a0_0], (flags spec_l26Draw.sig).length⟩ = spec_l26Draw.f k a0_0 a0_1 a0_2 a1 := by kernel_rfl
theorem spec_l26Draw.ok (k : Nat) : CSound Tryz.prog 129 (spec_l26Draw.C k) :=
  csound κ_ok mixed tok (spec_l26Draw.hΓ k) (LH := spec_l26Draw.LH k) (fn := Tryz.f129) (c := bodyOf Tryz.f129) Tryz.func129 rfl Tryz.call129 spec_l26Draw.sig [(4, [none, none, none, some 2, some 3, some 4, some 1, none])] (spec_l26Draw.body k) (by kernel_rfl) (spec_l26Draw.lok k) (by decide) fun vs bs lf y hl hb hy => by
    unfold spec_l26Draw.body at hb
    split at hb
    · obtain ⟨_, rfl, hb_1⟩ := asO_bind hb
      obtain rfl := Option.some.inj hb_1
      exact ⟨spec_l26Draw.out, spec_l26Draw.out_ok, (spec_l26Draw.den k _ _ _ _).trans hy⟩
    · cases hb
/-! ### spec_l1Int -/
def spec_l1Int.f (k : Nat) (a0_0 : List Int) (a0_1 : Int) (a0_2 : Int) (a1 : List Int) : Option (Int × Int × Int) :=
  (spec_l1Below.f k a0_0 a0_1 a0_2 (a1.length : Int)).bind fun t1 => (bif decide (0 ≤ t1.1) then (bif decide (t1.1 < (a1.length : Int)) then some ((rd_i64 a1 t1.1), t1.2.1, t1.2.2) else none) else none)
def spec_l1Int.Γ (k : Nat) : Ct κ := assoc [(83, spec_l1Below.C k)]
def spec_l1Int.LH (k : Nat) : Nat → Option (LHi κ) := assoc []
theorem spec_l1Int.hΓ (k : Nat) : ∀ f g, spec_l1Int.Γ k f = some g → CSound Tryz.prog f g := G_cons (spec_l1Below.ok k) G_nil
theorem spec_l1Int.lok (k : Nat) : LOK ti (spec_l1Int.Γ k) (spec_l1Int.LH k) 3 (loopsOf (bodyOf Tryz.f86)) :=
  (show loopsOf (bodyOf Tryz.f86) = [] by kernel_rfl) ▸ LOK_nil
def spec_l1Int.sig : List PSh := [.cur 157 [.ro 0, .sc, .sc], .one (.ro 5)]
def spec_l1Int.g (y : Int × Int × Int) : Ret κ := ⟨.v (.int .i64 y.1), [.cells 157 [.sl 1, .int .i64 y.2.1, .int .i64 y.2.2]], []⟩
def spec_l1Int.out (r : Ret κ) : Option (Int × Int × Int) :=
  match r with
  | ⟨.v (.int .i64 z0), [.cells 157 [.sl 1, .int .i64 z1, .int .i64 z2]], []⟩ => some (z0, z1, z2)
  | _ => none
theorem spec_l1Int.out_ok (r : Ret κ) (y : Int × Int × Int) (h : spec_l1Int.out r = some y) : r = spec_l1Int.g y := by
  unfold spec_l1Int.out at h
  split at h
  · obtain rfl := Option.some.inj h
    rfl
  · cases h
def spec_l1Int.body (k : Nat) (vs : List AV) (bs : List (Blk κ)) : Option (Lf κ) :=
  match vs, bs with
  | [.v (.ptr 0 0 0), .v (.sl 2)], [.cells 157 [.sl 1, .int .i64 a0_1, .int .i64 a0_2], qb1, qb2] => (asO 0 false qb1).bind fun a0_0 => (asO 5 false qb2).bind fun a1 => some ⟨Int × Int × Int, spec_l1Int.f k a0_0 a0_1 a0_2 a1, spec_l1Int.g⟩
  | _, _ => none
def spec_l1Int.C (k : Nat) : Nat → List AV → AP κ AV := contract spec_l1Int.sig (spec_l1Int.body k)
theorem spec_l1Int.den (k : Nat) (a0_0 : List Int) (a0_1 : Int) (a0_2 : Int) (a1 : List Int) : Code.den ti (spec_l1Int.Γ k) (spec_l1Int.LH k) (bodyOf Tryz.f86) (finK ti Tryz.f86.results.toList [] (flags spec_l1Int.sig).length (rwI (flags spec_l1Int.sig) 0) spec_l1Int.out) ⟨envOf (([.v (.ptr 0 0 0), .v (.sl 2)]).zipIdx.map fun q => (q.2, q.1)), hpOf [.cells 157 [.sl 1, .int .i64 a0_1, .int .i64 a0_2], .rows 0 false a0_0, .rows 5 false a1], (flags spec_l1Int.sig).length⟩ = spec_l1Int.f k a0_0 a0_1 a0_2 a1 := by kernel_rfl
theorem spec_l1Int.ok (k : Nat) : CSound Tryz.prog 86 (spec_l1Int.C k) :=
  csound κ_ok mixed tok (spec_l1Int.hΓ k) (LH := spec_l1Int.LH k) (fn := Tryz.f86) (c := bodyOf Tryz.f86) Tryz.func86 rfl Tryz.call86 spec_l1Int.sig [] (spec_l1Int.body k) (by kernel_rfl) (spec_l1Int.lok k) (by decide) fun vs bs lf y hl hb hy => by
    unfold spec_l1Int.body at hb
    split at hb
    · obtain ⟨_, rfl, hb_1⟩ := asO_bind hb
      obtain ⟨_, rfl, hb_2⟩ := asO_bind hb_1
      obtain rfl := Option.some.inj hb_2
      exact ⟨spec_l1Int.out, spec_l1Int.out_ok, (spec_l1Int.den k _ _ _ _).trans hy⟩
    · cases hb
/-! ### spec_l9Raw -/
def spec_l9Raw.f (k : Nat) (a0_0 : List Int) (a0_1 : Int) (a0_2 : Int) : Option (Int × Int × Int) :=
  (spec_l1Int.f k a0_0 a0_1 a0_2 ([(-2 : Int), (-1 : Int), (0 : Int), (9 : Int), (10 : Int), (9223372036854775807 : Int), (-9223372036854775808 : Int)] : List Int)).bind fun t1 => some (t1.1, t1.2.1, t1.2.2)
def spec_l9Raw.Γ (k : Nat) : Ct κ := assoc [(86, spec_l1Int.C k)]
def spec_l9Raw.LH (k : Nat) : Nat → Option (LHi κ) := assoc []
theorem spec_l9Raw.hΓ (k : Nat) : ∀ f g, spec_l9Raw.Γ k f = some g → CSound Tryz.prog f g := G_cons (spec_l1Int.ok k) G_nil
theorem spec_l9Raw.lok (k : Nat) : LOK ti (spec_l9Raw.Γ k) (spec_l9Raw.LH k) 2 (loopsOf (bodyOf Tryz.f130)) :=
  (show loopsOf (bodyOf Tryz.f130) = [] by kernel_rfl) ▸ LOK_nil
def spec_l9Raw.sig : List PSh := [.cur 157 [.ro 0, .sc, .sc]]
def spec_l9Raw.g (y : Int × Int × Int) : Ret κ := ⟨.v (.int .i64 y.1), [.cells 157 [.sl 1, .int .i64 y.2.1, .int .i64 y.2.2]], []⟩
def spec_l9Raw.out (r : Ret κ) : Option (Int × Int × Int) :=
  match r with
  | ⟨.v (.int .i64 z0), [.cells 157 [.sl 1, .int .i64 z1, .int .i64 z2]], []⟩ => some (z0, z1, z2)
  | _ => none
theorem spec_l9Raw.out_ok (r : Ret κ) (y : Int × Int × Int) (h : spec_l9Raw.out r = some y) : r = spec_l9Raw.g y := by
  unfold spec_l9Raw.out at h
  split at h
  · obtain rfl := Option.some.inj h
    rfl
  · cases h
def spec_l9Raw.body (k : Nat) (vs : List AV) (bs : List (Blk κ)) : Option (Lf κ) :=
  match vs, bs with
  | [.v (.ptr 0 0 0)], [.cells 157 [.sl 1, .int .i64 a0_1, .int .i64 a0_2], qb1] => (asO 0 false qb1).bind fun a0_0 => some ⟨Int × Int × Int, spec_l9Raw.f k a0_0 a0_1 a0_2, spec_l9Raw.g⟩
  | _, _ => none
def spec_l9Raw.C (k : Nat) : Nat → List AV → AP κ AV := contract spec_l9Raw.sig (spec_l9Raw.body k)
theorem spec_l9Raw.den (k : Nat) (a0_0 : List Int) (a0_1 : Int) (a0_2 : Int) : Code.den ti (spec_l9Raw.Γ k) (spec_l9Raw.LH k) (bodyOf Tryz.f130) (finK ti Tryz.f130.results.toList [] (flags spec_l9Raw.sig).length (rwI (flags spec_l9Raw.sig) 0) spec_l9Raw.out) ⟨envOf (([.v (.ptr 0 0 0)]).zipIdx.map fun q => (q.2, q.1)), hpOf [.cells 157 [.sl 1, .int .i64 a0_1, .int .i64 a0_2], .rows 0 false a0_0], (flags spec_l9Raw.sig).length⟩ = spec_l9Raw.f k a0_0 a0_1 a0_2 := by kernel_rfl
theorem spec_l9Raw.ok (k : Nat) : CSound Tryz.prog 130 (spec_l9Raw.C k) :=
  csound κ_ok mixed tok (spec_l9Raw.hΓ k) (LH := spec_l9Raw.LH k) (fn := Tryz.f130) (c := bodyOf Tryz.f130) Tryz.func130 rfl Tryz.call130 spec_l9Raw.sig [] (spec_l9Raw.body k) (by kernel_rfl) (spec_l9Raw.lok k) (by decide) fun vs bs lf y hl hb hy => by
    unfold spec_l9Raw.body at hb
    split at hb
    · obtain ⟨_, rfl, hb_1⟩ := asO_bind hb
      obtain rfl := Option.some.inj hb_1
      exact ⟨spec_l9Raw.out, spec_l9Raw.out_ok, (spec_l9Raw.den k _ _ _).trans hy⟩
    · cases hb
/-! ### spec_l9Any -/
def spec_l9Any.f (k : Nat) (a0_0 : List Int) (a0_1 : Int) (a0_2 : Int) : Option (Int × Int × Int × Int) :=
  (spec_l9Pattern.f k a0_0 a0_1 a0_2).bind fun t1 => (spec_l1Below.f k a0_0 t1.2.2.1 t1.2.2.2 (10 : Int)).bind fun t2 => (bif (t2.1 == (0 : Int)) then (spec_l9Raw.f k a0_0 t2.2.1 t2.2.2).bind fun t3 => some (t3.1, t1.2.1, t3.2.1, t3.2.2) else (bif (t2.1 == (1 : Int)) then (spec_l9Raw.f k a0_0 t2.2.1 t2.2.2).bind fun t4 => some (t1.1, t4.1, t4.2.1, t4.2.2) else some (t1.1, t1.2.1, t2.2.1, t2.2.2)))
def spec_l9Any.Γ (k : Nat) : Ct κ := assoc [(159, spec_l9Pattern.C k), (83, spec_l1Below.C k), (130, spec_l9Raw.C k)]
def spec_l9Any.LH (k : Nat) : Nat → Option (LHi κ) := assoc []
theorem spec_l9Any.hΓ (k : Nat) : ∀ f g, spec_l9Any.Γ k f = some g → CSound Tryz.prog f g := G_cons (spec_l9Pattern.ok k) (G_cons (spec_l1Below.ok k) (G_cons (spec_l9Raw.ok k) G_nil))
theorem spec_l9Any.lok (k : Nat) : LOK ti (spec_l9Any.Γ k) (spec_l9Any.LH k) 2 (loopsOf (bodyOf Tryz.f166)) :=
  (show loopsOf (bodyOf Tryz.f166) = [] by kernel_rfl) ▸ LOK_nil
def spec_l9Any.sig : List PSh := [.cur 157 [.ro 0, .sc, .sc]]
def spec_l9Any.g (y : Int × Int × Int × Int) : Ret κ := ⟨.agg [.int .i64 y.1, .int .i64 y.2.1], [.cells 157 [.sl 1, .int .i64 y.2.2.1, .int .i64 y.2.2.2]], []⟩
def spec_l9Any.out (r : Ret κ) : Option (Int × Int × Int × Int) :=
  match r with
  | ⟨.agg [.int .i64 z0, .int .i64 z1], [.cells 157 [.sl 1, .int .i64 z2, .int .i64 z3]], []⟩ => some (z0, z1, z2, z3)
  | _ => none
theorem spec_l9Any.out_ok (r : Ret κ) (y : Int × Int × Int × Int) (h : spec_l9Any.out r = some y) : r = spec_l9Any.g y := by
  unfold spec_l9Any.out at h
  split at h
  · obtain rfl := Option.some.inj h
    rfl
  · cases h
def spec_l9Any.body (k : Nat) (vs : List AV) (bs : List (Blk κ)) : Option (Lf κ) :=
  match vs, bs with
  | [.v (.ptr 0 0 0)], [.cells 157 [.sl 1, .int .i64 a0_1, .int .i64 a0_2], qb1] => (asO 0 false qb1).bind fun a0_0 => some ⟨Int × Int × Int × Int, spec_l9Any.f k a0_0 a0_1 a0_2, spec_l9Any.g⟩
  | _, _ => none
def spec_l9Any.C (k : Nat) : Nat → List AV → AP κ AV := contract spec_l9Any.sig (spec_l9Any.body k)
theorem spec_l9Any.den (k : Nat) (a0_0 : List Int) (a0_1 : Int) (a0_2 : Int) : Code.den ti (spec_l9Any.Γ k) (spec_l9Any.LH k) (bodyOf Tryz.f166) (finK ti Tryz.f166.results.toList [] (flags spec_l9Any.sig).length (rwI (flags spec_l9Any.sig) 0) spec_l9Any.out) ⟨envOf (([.v (.ptr 0 0 0)]).zipIdx.map fun q => (q.2, q.1)), hpOf [.cells 157 [.sl 1, .int .i64 a0_1, .int .i64 a0_2], .rows 0 false a0_0], (flags spec_l9Any.sig).length⟩ = spec_l9Any.f k a0_0 a0_1 a0_2 := by kernel_rfl
theorem spec_l9Any.ok (k : Nat) : CSound Tryz.prog 166 (spec_l9Any.C k) :=
  csound κ_ok mixed tok (spec_l9Any.hΓ k) (LH := spec_l9Any.LH k) (fn := Tryz.f166) (c := bodyOf Tryz.f166) Tryz.func166 rfl Tryz.call166 spec_l9Any.sig [] (spec_l9Any.body k) (by kernel_rfl) (spec_l9Any.lok k) (by decide) fun vs bs lf y hl hb hy => by
    unfold spec_l9Any.body at hb
    split at hb
    · obtain ⟨_, rfl, hb_1⟩ := asO_bind hb
      obtain rfl := Option.some.inj hb_1
      exact ⟨spec_l9Any.out, spec_l9Any.out_ok, (spec_l9Any.den k _ _ _).trans hy⟩
    · cases hb
/-! ### spec_l10Any -/
def spec_l10Any.f (k : Nat) (a0_0 : List Int) (a0_1 : Int) (a0_2 : Int) : Option (Int × Int × Int × Int × Int × Int × Bool × Int × Int) :=
  (spec_l10Draw.f k a0_0 a0_1 a0_2).bind fun t1 => (spec_l1Below.f k a0_0 t1.2.2.2.2.2.2.2.1 t1.2.2.2.2.2.2.2.2 (12 : Int)).bind fun t2 => (bif (t2.1 == (0 : Int)) then (spec_l9Raw.f k a0_0 t2.2.1 t2.2.2).bind fun t3 => some (t3.1, t1.2.1, t1.2.2.1, t1.2.2.2.1, t1.2.2.2.2.1, t1.2.2.2.2.2.1, t1.2.2.2.2.2.2.1, t3.2.1, t3.2.2) else (bif (t2.1 == (1 : Int)) then (spec_l1Int.f k a0_0 t2.2.1 t2.2.2 ([(0 : Int), (5 : Int)] : List Int)).bind fun t4 => some (t1.1, t1.2.1, t1.2.2.1, t4.1, t1.2.2.2.2.1, t1.2.2.2.2.2.1, t1.2.2.2.2.2.2.1, t4.2.1, t4.2.2) else (bif (t2.1 == (2 : Int)) then (spec_l1Int.f k a0_0 t2.2.1 t2.2.2 ([(-1 : Int), (30 : Int)] : List Int)).bind fun t5 => some (t1.1, t1.2.1, t1.2.2.1, t1.2.2.2.1, t5.1, t1.2.2.2.2.2.1, t1.2.2.2.2.2.2.1, t5.2.1, t5.2.2) else (bif (t2.1 == (3 : Int)) then (spec_l1Int.f k a0_0 t2.2.1 t2.2.2 ([(10000 : Int), (10001 : Int), (9223372036854775807 : Int)] : List Int)).bind fun t6 => some (t1.1, t1.2.1, t1.2.2.1, t1.2.2.2.1, t1.2.2.2.2.1, t6.1, t1.2.2.2.2.2.2.1, t6.2.1, t6.2.2) else (bif (t2.1 == (4 : Int)) then (spec_l9Any.f k a0_0 t2.2.1 t2.2.2).bind fun t7 => some (t1.1, t7.1, t7.2.1, t1.2.2.2.1, t1.2.2.2.2.1, t1.2.2.2.2.2.1, t1.2.2.2.2.2.2.1, t7.2.2.1, t7.2.2.2) else some (t1.1, t1.2.1, t1.2.2.1, t1.2.2.2.1, t1.2.2.2.2.1, t1.2.2.2.2.2.1, t1.2.2.2.2.2.2.1, t2.2.1, t2.2.2))))))
def spec_l10Any.Γ (k : Nat) : Ct κ := assoc [(165, spec_l10Draw.C k), (83, spec_l1Below.C k), (130, spec_l9Raw.C k), (86, spec_l1Int.C k), (166, spec_l9Any.C k)]
def spec_l10Any.LH (k : Nat) : Nat → Option (LHi κ) := assoc []
theorem spec_l10Any.hΓ (k : Nat) : ∀ f g, spec_l10Any.Γ k f = some g → CSound Tryz.prog f g := G_cons (spec_l10Draw.ok k) (G_cons (spec_l1Below.ok k) (G_cons (spec_l9Raw.ok k) (G_cons (spec_l1Int.ok k) (G_cons (spec_l9Any.ok k) G_nil))))
theorem spec_l10Any.lok (k : Nat) : LOK ti (spec_l10Any.Γ k) (spec_l10Any.LH k) 2 (loopsOf (bodyOf Tryz.f131)) :=
  (show loopsOf (bodyOf Tryz.f131) = [] by kernel_rfl) ▸ LOK_nil
def spec_l10Any.sig : List PSh := [.cur 157 [.ro 0, .sc, .sc]]
def spec_l10Any.g (y : Int × Int × Int × Int × Int × Int × Bool × Int × Int) : Ret κ := ⟨.agg [.int .i64 y.1, .int .i64 y.2.1, .int .i64 y.2.2.1, .int .i64 y.2.2.2.1, .int .i64 y.2.2.2.2.1, .int .i64 y.2.2.2.2.2.1, .bool y.2.2.2.2.2.2.1], [.cells 157 [.sl 1, .int .i64 y.2.2.2.2.2.2.2.1, .int .i64 y.2.2.2.2.2.2.2.2]], []⟩
def spec_l10Any.out (r : Ret κ) : Option (Int × Int × Int × Int × Int × Int × Bool × Int × Int) :=
  match r with
  | ⟨.agg [.int .i64 z0, .int .i64 z1, .int .i64 z2, .int .i64 z3, .int .i64 z4, .int .i64 z5, .bool z6], [.cells 157 [.sl 1, .int .i64 z7, .int .i64 z8]], []⟩ => some (z0, z1, z2, z3, z4, z5, z6, z7, z8)
  | _ => none
theorem spec_l10Any.out_ok (r : Ret κ) (y : Int × Int × Int × Int × Int × Int × Bool × Int × Int) (h : spec_l10Any.out r = some y) : r = spec_l10Any.g y := by
  unfold spec_l10Any.out at h
  split at h
  · obtain rfl := Option.some.inj h
    rfl
  · cases h
def spec_l10Any.body (k : Nat) (vs : List AV) (bs : List (Blk κ)) : Option (Lf κ) :=
  match vs, bs with
  | [.v (.ptr 0 0 0)], [.cells 157 [.sl 1, .int .i64 a0_1, .int .i64 a0_2], qb1] => (asO 0 false qb1).bind fun a0_0 => some ⟨Int × Int × Int × Int × Int × Int × Bool × Int × Int, spec_l10Any.f k a0_0 a0_1 a0_2, spec_l10Any.g⟩
  | _, _ => none
def spec_l10Any.C (k : Nat) : Nat → List AV → AP κ AV := contract spec_l10Any.sig (spec_l10Any.body k)
theorem spec_l10Any.den (k : Nat) (a0_0 : List Int) (a0_1 : Int) (a0_2 : Int) : Code.den ti (spec_l10Any.Γ k) (spec_l10Any.LH k) (bodyOf Tryz.f131) (finK ti Tryz.f131.results.toList [] (flags spec_l10Any.sig).length (rwI (flags spec_l10Any.sig) 0) spec_l10Any.out) ⟨envOf (([.v (.ptr 0 0 0)]).zipIdx.map fun q => (q.2, q.1)), hpOf [.cells 157 [.sl 1, .int .i64 a0_1, .int .i64 a0_2], .rows 0 false a0_0], (flags spec_l10Any.sig).length⟩ = spec_l10Any.f k a0_0 a0_1 a0_2 := by kernel_rfl
theorem spec_l10Any.ok (k : Nat) : CSound Tryz.prog 131 (spec_l10Any.C k) :=
  csound κ_ok mixed tok (spec_l10Any.hΓ k) (LH := spec_l10Any.LH k) (fn := Tryz.f131) (c := bodyOf Tryz.f131) Tryz.func131 rfl Tryz.call131 spec_l10Any.sig [] (spec_l10Any.body k) (by kernel_rfl) (spec_l10Any.lok k) (by decide) fun vs bs lf y hl hb hy => by
    unfold spec_l10Any.body at hb
    split at hb
    · obtain ⟨_, rfl, hb_1⟩ := asO_bind hb
      obtain rfl := Option.some.inj hb_1
      exact ⟨spec_l10Any.out, spec_l10Any.out_ok, (spec_l10Any.den k _ _ _).trans hy⟩
    · cases hb
/-! ### spec_l13Any -/
def spec_l13Any.f (k : Nat) (a0_0 : List Int) (a0_1 : Int) (a0_2 : Int) : Option (Int × Int × Int × Int × Int × Int × Int × Int × Int × Int) :=
  (spec_l13Draw.f k a0_0 a0_1 a0_2).bind fun t1 => (spec_l1Below.f k a0_0 t1.2.2.2.2.2.2.2.2.1 t1.2.2.2.2.2.2.2.2.2 (12 : Int)).bind fun t2 => (bif (t2.1 == (0 : Int)) then (spec_l9Raw.f k a0_0 t2.2.1 t2.2.2).bind fun t3 => some (t3.1, t1.2.1, t1.2.2.1, t1.2.2.2.1, t1.2.2.2.2.1, t1.2.2.2.2.2.1, t1.2.2.2.2.2.2.1, t1.2.2.2.2.2.2.2.1, t3.2.1, t3.2.2) else (bif (t2.1 == (1 : Int)) then (spec_l1Int.f k a0_0 t2.2.1 t2.2.2 ([(0 : Int), (9 : Int), (10 : Int)] : List Int)).bind fun t4 => some (t1.1, t4.1, t1.2.2.1, t1.2.2.2.1, t1.2.2.2.2.1, t1.2.2.2.2.2.1, t1.2.2.2.2.2.2.1, t1.2.2.2.2.2.2.2.1, t4.2.1, t4.2.2) else (bif (t2.1 == (2 : Int)) then (spec_l9Any.f k a0_0 t2.2.1 t2.2.2).bind fun t5 => some (t1.1, t1.2.1, t5.1, t5.2.1, t1.2.2.2.2.1, t1.2.2.2.2.2.1, t1.2.2.2.2.2.2.1, t1.2.2.2.2.2.2.2.1, t5.2.2.1, t5.2.2.2) else (bif (t2.1 == (3 : Int)) then (spec_l1Int.f k a0_0 t2.2.1 t2.2.2 ([(-1 : Int), (4 : Int), (5 : Int)] : List Int)).bind fun t6 => some (t1.1, t1.2.1, t1.2.2.1, t1.2.2.2.1, t6.1, t1.2.2.2.2.2.1, t1.2.2.2.2.2.2.1, t1.2.2.2.2.2.2.2.1, t6.2.1, t6.2.2) else (bif (t2.1 == (4 : Int)) then (spec_l1Int.f k a0_0 t2.2.1 t2.2.2 ([(0 : Int), (3 : Int), (4 : Int)] : List Int)).bind fun t7 => some (t1.1, t1.2.1, t1.2.2.1, t1.2.2.2.1, t1.2.2.2.2.1, t7.1, t1.2.2.2.2.2.2.1, t1.2.2.2.2.2.2.2.1, t7.2.1, t7.2.2) else (bif (t2.1 == (5 : Int)) then (spec_l9Raw.f k a0_0 t2.2.1 t2.2.2).bind fun t8 => some (t1.1, t1.2.1, t1.2.2.1, t1.2.2.2.1, t1.2.2.2.2.1, t1.2.2.2.2.2.1, t8.1, t1.2.2.2.2.2.2.2.1, t8.2.1, t8.2.2) else some (t1.1, t1.2.1, t1.2.2.1, t1.2.2.2.1, t1.2.2.2.2.1, t1.2.2.2.2.2.1, t1.2.2.2.2.2.2.1, t1.2.2.2.2.2.2.2.1, t2.2.1, t2.2.2)))))))
def spec_l13Any.Γ (k : Nat) : Ct κ := assoc [(126, spec_l13Draw.C k), (83, spec_l1Below.C k), (130, spec_l9Raw.C k), (86, spec_l1Int.C k), (166, spec_l9Any.C k)]
def spec_l13Any.LH (k : Nat) : Nat → Option (LHi κ) := assoc []
theorem spec_l13Any.hΓ (k : Nat) : ∀ f g, spec_l13Any.Γ k f = some g → CSound Tryz.prog f g := G_cons (spec_l13Draw.ok k) (G_cons (spec_l1Below.ok k) (G_cons (spec_l9Raw.ok k) (G_cons (spec_l1Int.ok k) (G_cons (spec_l9Any.ok k) G_nil))))
theorem spec_l13Any.lok (k : Nat) : LOK ti (spec_l13Any.Γ k) (spec_l13Any.LH k) 2 (loopsOf (bodyOf Tryz.f133)) :=
  (show loopsOf (bodyOf Tryz.f133) = [] by kernel_rfl) ▸ LOK_nil
def spec_l13Any.sig : List PSh := [.cur 157 [.ro 0, .sc, .sc]]
def spec_l13Any.g (y : Int × Int × Int × Int × Int × Int × Int × Int × Int × Int) : Ret κ := ⟨.agg [.int .i64 y.1, .int .i64 y.2.1, .int .i64 y.2.2.1, .int .i64 y.2.2.2.1, .int .i64 y.2.2.2.2.1, .int .i64 y.2.2.2.2.2.1, .int .i64 y.2.2.2.2.2.2.1, .int .i64 y.2.2.2.2.2.2.2.1], [.cells 157 [.sl 1, .int .i64 y.2.2.2.2.2.2.2.2.1, .int .i64 y.2.2.2.2.2.2.2.2.2]], []⟩
def spec_l13Any.out (r : Ret κ) : Option (Int × Int × Int × Int × Int × Int × Int × Int × Int × Int) :=
  match r with
  | ⟨.agg [.int .i64 z0, .int .i64 z1, .int .i64 z2, .int .i64 z3, .int .i64 z4, .int .i64 z5, .int .i64 z6, .int .i64 z7], [.cells 157 [.sl 1, .int .i64 z8, .int .i64 z9]], []⟩ => some (z0, z1, z2, z3, z4, z5, z6, z7, z8, z9)
  | _ => none
theorem spec_l13Any.out_ok (r : Ret κ) (y : Int × Int × Int × Int × Int × Int × Int × Int × Int × Int) (h : spec_l13Any.out r = some y) : r = spec_l13Any.g y := by
  unfold spec_l13Any.out at h
  split at h
  · obtain rfl := Option.some.inj h
    rfl
  · cases h
def spec_l13Any.body (k : Nat) (vs : List AV) (bs : List (Blk κ)) : Option (Lf κ) :=
  match vs, bs with
  | [.v (.ptr 0 0 0)], [.cells 157 [.sl 1, .int .i64 a0_1, .int .i64 a0_2], qb1] => (asO 0 false qb1).bind fun a0_0 => some ⟨Int × Int × Int × Int × Int × Int × Int × Int × Int × Int, spec_l13Any.f k a0_0 a0_1 a0_2, spec_l13Any.g⟩
  | _, _ => none
def spec_l13Any.C (k : Nat) : Nat → List AV → AP κ AV := contract spec_l13Any.sig (spec_l13Any.body k)
theorem spec_l13Any.den (k : Nat) (a0_0 : List Int) (a0_1 : Int) (a0_2 : Int) : Code.den ti (spec_l13Any.Γ k) (spec_l13Any.LH k) (bodyOf Tryz.f133) (finK ti Tryz.f133.results.toList [] (flags spec_l13Any.sig).length (rwI (flags spec_l13Any.sig) 0) spec_l13Any.out) ⟨envOf (([.v (.ptr 0 0 0)]).zipIdx.map fun q => (q.2, q.1)), hpOf [.cells 157 [.sl 1, .int .i64 a0_1, .int .i64 a0_2], .rows 0 false a0_0], (flags spec_l13Any.sig).length⟩ = spec_l13Any.f k a0_0 a0_1 a0_2 := by kernel_rfl
theorem spec_l13Any.ok (k : Nat) : CSound Tryz.prog 133 (spec_l13Any.C k) :=
  csound κ_ok mixed tok (spec_l13Any.hΓ k) (LH := spec_l13Any.LH k) (fn := Tryz.f133) (c := bodyOf Tryz.f133) Tryz.func133 rfl Tryz.call133 spec_l13Any.sig [] (spec_l13Any.body k) (by kernel_rfl) (spec_l13Any.lok k) (by decide) fun vs bs lf y hl hb hy => by
    unfold spec_l13Any.body at hb
    split at hb
    · obtain ⟨_, rfl, hb_1⟩ := asO_bind hb
      obtain rfl := Option.some.inj hb_1
      exact ⟨spec_l13Any.out, spec_l13Any.out_ok, (spec_l13Any.den k _ _ _).trans hy⟩
    · cases hb
/-! ### spec_l21Any -/
def spec_l21Any.L15 {R : Type} (k : Nat) (xc0_1 : Int) (xc0_2 : Int) (xl1 : List Int) (X0 : List T_impl_Op → Option R) (rec : List T_impl_Op → Option R) (xl2 : List T_impl_Op) : Option R :=
  (bif decide ((xl2.length : Int) < (17 : Int)) then (bif decide ((xl2.length + ([(⟨(2 : Int), (0 : Int), (0 : Int), (0 : Int)⟩ : T_impl_Op)] : List T_impl_Op).length) * 32 ≤ cap48) then (let l12 : List T_impl_Op := (xl2 ++ ([(⟨(2 : Int), (0 : Int), (0 : Int), (0 : Int)⟩ : T_impl_Op)] : List T_impl_Op)); (rec l12)) else none) else (X0 xl2))
def spec_l21Any.l15 {R : Type} (k : Nat) (xc0_1 : Int) (xc0_2 : Int) (xl1 : List Int) (X0 : List T_impl_Op → Option R) : Nat → List T_impl_Op → Option R
  | 0 => fun _ => none
  | n + 1 => spec_l21Any.L15 k xc0_1 xc0_2 xl1 X0 (spec_l21Any.l15 k xc0_1 xc0_2 xl1 X0 n)
def spec_l21Any.f (k : Nat) (a0_0 : List Int) (a0_1 : Int) (a0_2 : Int) : Option (Int × Int × List T_impl_Op) :=
  (spec_l21Ops.f k a0_0 a0_1 a0_2).bind fun t1 => (bif ((t1.2.2.length : Int) == (0 : Int)) then some (t1.1, t1.2.1, t1.2.2) else (spec_l1Below.f k a0_0 t1.1 t1.2.1 (t1.2.2.length : Int)).bind fun t2 => (spec_l1Below.f k a0_0 t2.2.1 t2.2.2 (12 : Int)).bind fun t3 => (bif (t3.1 == (0 : Int)) then (spec_l1Int.f k a0_0 t3.2.1 t3.2.2 ([(0 : Int), (6 : Int), (5 : Int)] : List Int)).bind fun t4 => (bif decide (0 ≤ t2.1) then (bif decide (t2.1 < (t1.2.2.length : Int)) then (let l5 : List T_impl_Op := (t1.2.2.set (t2.1).toNat (⟨t4.1, (rd_impl_Op t1.2.2 t2.1).f1, (rd_impl_Op t1.2.2 t2.1).f2, (rd_impl_Op t1.2.2 t2.1).f3⟩ : T_impl_Op)); some (t4.2.1, t4.2.2, l5)) else none) else none) else (bif (t3.1 == (1 : Int)) then (spec_l1Int.f k a0_0 t3.2.1 t3.2.2 ([(-1 : Int), (5 : Int), (6 : Int)] : List Int)).bind fun t6 => (bif decide (0 ≤ t2.1) then (bif decide (t2.1 < (t1.2.2.length : Int)) then (let l7 : List T_impl_Op := (t1.2.2.set (t2.1).toNat (⟨(rd_impl_Op t1.2.2 t2.1).f0, t6.1, (rd_impl_Op t1.2.2 t2.1).f2, (rd_impl_Op t1.2.2 t2.1).f3⟩ : T_impl_Op)); some (t6.2.1, t6.2.2, l7)) else none) else none) else (bif (t3.1 == (2 : Int)) then (spec_l9Raw.f k a0_0 t3.2.1 t3.2.2).bind fun t8 => (bif decide (0 ≤ t2.1) then (bif decide (t2.1 < (t1.2.2.length : Int)) then (let l9 : List T_impl_Op := (t1.2.2.set (t2.1).toNat (⟨(rd_impl_Op t1.2.2 t2.1).f0, (rd_impl_Op t1.2.2 t2.1).f1, t8.1, (rd_impl_Op t1.2.2 t2.1).f3⟩ : T_impl_Op)); some (t8.2.1, t8.2.2, l9)) else none) else none) else (bif (t3.1 == (3 : Int)) then (spec_l1Int.f k a0_0 t3.2.1 t3.2.2 ([(-1 : Int), (1 : Int), (6 : Int)] : List Int)).bind fun t10 => (bif decide (0 ≤ t2.1) then (bif decide (t2.1 < (t1.2.2.length : Int)) then (let l11 : List T_impl_Op := (t1.2.2.set (t2.1).toNat (⟨(rd_impl_Op t1.2.2 t2.1).f0, (rd_impl_Op t1.2.2 t2.1).f1, (rd_impl_Op t1.2.2 t2.1).f2, t10.1⟩ : T_impl_Op)); some (t10.2.1, t10.2.2, l11)) else none) else none) else (bif (t3.1 == (4 : Int)) then (spec_l21Any.l15 k t3.2.1 t3.2.2 a0_0 (fun (y13 : List T_impl_Op) => some (t3.2.1, t3.2.2, y13)) k t1.2.2) else some (t3.2.1, t3.2.2, t1.2.2)))))))
def spec_l21Any.h15 (k : Nat) {R : Type} (K : Ex → St κ → Option R) (vs : List AV) (bs : List (Blk κ)) : Option R :=
  match vs, bs with
  | [.v (.sl 2)], [.cells 157 [.sl 1, .int .i64 xc0_1, .int .i64 xc0_2], qb1, qb2] => (asO 0 false qb1).bind fun xl1 => (asO 1 true qb2).bind fun xl2 => spec_l21Any.l15 k xc0_1 xc0_2 xl1 (fun (zl2 : List T_impl_Op) => K (.exit 1) (stOf [(3, [some 1])] [.v (.sl 2)] [.cells 157 [.sl 1, .int .i64 xc0_1, .int .i64 xc0_2], .rows 0 false xl1, .rows 1 true zl2])) k xl2
  | _, _ => none
def spec_l21Any.Γ (k : Nat) : Ct κ := assoc [(125, spec_l21Ops.C k), (83, spec_l1Below.C k), (86, spec_l1Int.C k), (130, spec_l9Raw.C k)]
def spec_l21Any.LH (k : Nat) : Nat → Option (LHi κ) := assoc [(15, ⟨2, [(3, [some 1])], [(3, [some 1])], @spec_l21Any.h15 k⟩)]
theorem spec_l21Any.hΓ (k : Nat) : ∀ f g, spec_l21Any.Γ k f = some g → CSound Tryz.prog f g := G_cons (spec_l21Ops.ok k) (G_cons (spec_l1Below.ok k) (G_cons (spec_l1Int.ok k) (G_cons (spec_l9Raw.ok k) G_nil)))
theorem spec_l21Any.e15 {R : Type} (K : Ex → St κ → Option R) (k : Nat) (xc0_1 : Int) (xc0_2 : Int) (xl1 : List Int) : ∀ (n : Nat) (xl2 : List T_impl_Op), loopN 2 (Code.den ti (spec_l21Any.Γ k) (spec_l21Any.LH k) (loopAt Tryz.f134 0)) [(3, [some 1])] [(3, [some 1])] K n [.v (.sl 2)] [.cells 157 [.sl 1, .int .i64 xc0_1, .int .i64 xc0_2], .rows 0 false xl1, .rows 1 true xl2] = spec_l21Any.l15 k xc0_1 xc0_2 xl1 (fun (zl2 : List T_impl_Op) => K (.exit 1) (stOf [(3, [some 1])] [.v (.sl 2)] [.cells 157 [.sl 1, .int .i64 xc0_1, .int .i64 xc0_2], .rows 0 false xl1, .rows 1 true zl2])) n xl2
  | 0, _ => rfl
  | n + 1, xl2 => (show loopN 2 (Code.den ti (spec_l21Any.Γ k) (spec_l21Any.LH k) (loopAt Tryz.f134 0)) [(3, [some 1])] [(3, [some 1])] K (n + 1) [.v (.sl 2)] [.cells 157 [.sl 1, .int .i64 xc0_1, .int .i64 xc0_2], .rows 0 false xl1, .rows 1 true xl2] = spec_l21Any.L15 k xc0_1 xc0_2 xl1 (fun (zl2 : List T_impl_Op) => K (.exit 1) (stOf [(3, [some 1])] [.v (.sl 2)] [.cells 157 [.sl 1, .int .i64 xc0_1, .int .i64 xc0_2], .rows 0 false xl1, .rows 1 true zl2])) (fun (xl2' : List T_impl_Op) => loopN 2 (Code.den ti (spec_l21Any.Γ k) (spec_l21Any.LH k) (loopAt Tryz.f134 0)) [(3, [some 1])] [(3, [some 1])] K n [.v (.sl 2)] [.cells 157 [.sl 1, .int .i64 xc0_1, .int .i64 xc0_2], .rows 0 false xl1, .rows 1 true xl2']) xl2 by kernel_rfl).trans (congrArg (fun rec => spec_l21Any.L15 k xc0_1 xc0_2 xl1 (fun (zl2 : List T_impl_Op) => K (.exit 1) (stOf [(3, [some 1])] [.v (.sl 2)] [.cells 157 [.sl 1, .int .i64 xc0_1, .int .i64 xc0_2], .rows 0 false xl1, .rows 1 true zl2])) rec xl2) (funext fun xl2' => spec_l21Any.e15 K k xc0_1 xc0_2 xl1 n xl2'))
theorem spec_l21Any.q15 (k : Nat) {R : Type} (K : Ex → St κ → Option R) (vs : List AV) (bs : List (Blk κ)) (r : R) (h : spec_l21Any.h15 k K vs bs = some r) : ∃ n, loopN 2 (Code.den ti (spec_l21Any.Γ k) (spec_l21Any.LH k) (loopAt Tryz.f134 0)) [(3, [some 1])] [(3, [some 1])] K n vs bs = some r := by
  unfold spec_l21Any.h15 at h
  split at h
  · obtain ⟨_, rfl, h_1⟩ := asO_bind h
    obtain ⟨_, rfl, h_2⟩ := asO_bind h_1
    exact ⟨k, (spec_l21Any.e15 K k _ _ _ k _).trans h_2⟩
  · cases h
theorem spec_l21Any.lok (k : Nat) : LOK ti (spec_l21Any.Γ k) (spec_l21Any.LH k) 2 (loopsOf (bodyOf Tryz.f134)) :=
  (show loopsOf (bodyOf Tryz.f134) = [loopAt Tryz.f134 0] by kernel_rfl) ▸ (LOK_cons (g := ⟨2, [(3, [some 1])], [(3, [some 1])], @spec_l21Any.h15 k⟩) (by kernel_rfl) rfl (fun K vs xs r h => spec_l21Any.q15 k K vs xs r h) (LOK_nil))
def spec_l21Any.sig : List PSh := [.cur 157 [.ro 0, .sc, .sc]]
def spec_l21Any.g (y : Int × Int × List T_impl_Op) : Ret κ := ⟨.v (.sl 2), [.cells 157 [.sl 1, .int .i64 y.1, .int .i64 y.2.1]], [.rows 1 true y.2.2]⟩
def spec_l21Any.out (r : Ret κ) : Option (Int × Int × List T_impl_Op) :=
  match r with
  | ⟨.v (.sl 2), [.cells 157 [.sl 1, .int .i64 z0, .int .i64 z1]], [q2]⟩ => (asO 1 true q2).bind fun z2 => some (z0, z1, z2)
  | _ => none
theorem spec_l21Any.out_ok (r : Ret κ) (y : Int × Int × List T_impl_Op) (h : spec_l21Any.out r = some y) : r = spec_l21Any.g y := by
  unfold spec_l21Any.out at h
  split at h
  · obtain ⟨_, rfl, h_1⟩ := asO_bind h
    obtain rfl := Option.some.inj h_1
    rfl
  · cases h
def spec_l21Any.body (k : Nat) (vs : List AV) (bs : List (Blk κ)) : Option (Lf κ) :=
  match vs, bs with
  | [.v (.ptr 0 0 0)], [.cells 157 [.sl 1, .int .i64 a0_1, .int .i64 a0_2], qb1] => (asO 0 false qb1).bind fun a0_0 => some ⟨Int × Int × List T_impl_Op, spec_l21Any.f k a0_0 a0_1 a0_2, spec_l21Any.g⟩
  | _, _ => none
def spec_l21Any.C (k : Nat) : Nat → List AV → AP κ AV := contract spec_l21Any.sig (spec_l21Any.body k)
theorem spec_l21Any.den (k : Nat) (a0_0 : List Int) (a0_1 : Int) (a0_2 : Int) : Code.den ti (spec_l21Any.Γ k) (spec_l21Any.LH k) (bodyOf Tryz.f134) (finK ti Tryz.f134.results.toList [(2, [some 1])] (flags spec_l21Any.sig).length (rwI (flags spec_l21Any.sig) 0) spec_l21Any.out) ⟨envOf (([.v (.ptr 0 0 0)]).zipIdx.map fun q => (q.2, q.1)), hpOf [.cells 157 [.sl 1, .int .i64 a0_1, .int .i64 a0_2], .rows 0 false a0_0], (flags spec_l21Any.sig).length⟩ = spec_l21Any.f k a0_0 a0_1 a0_2 := by kernel_rfl
theorem spec_l21Any.ok (k : Nat) : CSound Tryz.prog 134 (spec_l21Any.C k) :=
  csound κ_ok mixed tok (spec_l21Any.hΓ k) (LH := spec_l21Any.LH k) (fn := Tryz.f134) (c := bodyOf Tryz.f134) Tryz.func134 rfl Tryz.call134 spec_l21Any.sig [(2, [some 1])] (spec_l21Any.body k) (by kernel_rfl) (spec_l21Any.lok k) (by decide) fun vs bs lf y hl hb hy => by
    unfold spec_l21Any.body at hb
    split at hb
    · obtain ⟨_, rfl, hb_1⟩ := asO_bind hb
      obtain rfl := Option.some.inj hb_1
      exact ⟨spec_l21Any.out, spec_l21Any.out_ok, (spec_l21Any.den k _ _ _).trans hy⟩
    · cases hb
end Go.Proofs.YtoenilndklbceaaGreat.PFnReviewed
