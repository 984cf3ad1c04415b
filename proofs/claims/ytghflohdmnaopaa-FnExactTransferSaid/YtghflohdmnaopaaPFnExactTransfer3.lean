/- What the functions that the law FnExactTransfer reaches come to; no conditions. -/
import Derived.Test.YtghflohdmnaopaaPFnExactTransfer2
set_option linter.unusedVariables false
set_option maxRecDepth 100000
namespace Go.Proofs.Ytghflohdmnaopaa.PFnExactTransfer
open Go Go.Eng Go.Proofs
/-! ### spec_PackageInts -/
def spec_PackageInts.L5 {R : Type} (k : Nat) (xl0 : List T_impl_Grant) (xl1 : List T_impl_Flow) (xl2 : List T_impl_Rule) (xl3 : List T_impl_Op) (xc4_0 : Int) (xc4_1 : Int) (xc4_2 : Int) (xc4_7 : Int) (X0 : List Int → Option R) (rec : Int → List Int → Option R) (x2 : Int) (xl5 : List Int) : Option R :=
  (bif decide (x2 < (xl0.length : Int)) then (bif decide (0 ≤ x2) then (bif decide (x2 < (xl0.length : Int)) then (bif (rd_impl_Grant xl0 x2).f5 then (bif decide ((xl5.length + ([(rd_impl_Grant xl0 x2).f1.f0, (rd_impl_Grant xl0 x2).f1.f1, (rd_impl_Grant xl0 x2).f2, (rd_impl_Grant xl0 x2).f3, (rd_impl_Grant xl0 x2).f4, (1 : Int)] : List Int).length) * 8 ≤ cap48) then (let l2 : List Int := (xl5 ++ ([(rd_impl_Grant xl0 x2).f1.f0, (rd_impl_Grant xl0 x2).f1.f1, (rd_impl_Grant xl0 x2).f2, (rd_impl_Grant xl0 x2).f3, (rd_impl_Grant xl0 x2).f4, (1 : Int)] : List Int)); (rec (w64 (x2 + (1 : Int))) l2)) else none) else (bif decide ((xl5.length + ([(rd_impl_Grant xl0 x2).f1.f0, (rd_impl_Grant xl0 x2).f1.f1, (rd_impl_Grant xl0 x2).f2, (rd_impl_Grant xl0 x2).f3, (rd_impl_Grant xl0 x2).f4, (0 : Int)] : List Int).length) * 8 ≤ cap48) then (let l3 : List Int := (xl5 ++ ([(rd_impl_Grant xl0 x2).f1.f0, (rd_impl_Grant xl0 x2).f1.f1, (rd_impl_Grant xl0 x2).f2, (rd_impl_Grant xl0 x2).f3, (rd_impl_Grant xl0 x2).f4, (0 : Int)] : List Int)); (rec (w64 (x2 + (1 : Int))) l3)) else none)) else none) else none) else (X0 xl5))
def spec_PackageInts.l5 {R : Type} (k : Nat) (xl0 : List T_impl_Grant) (xl1 : List T_impl_Flow) (xl2 : List T_impl_Rule) (xl3 : List T_impl_Op) (xc4_0 : Int) (xc4_1 : Int) (xc4_2 : Int) (xc4_7 : Int) (X0 : List Int → Option R) : Nat → Int → List Int → Option R
  | 0 => fun _ _ => none
  | n + 1 => spec_PackageInts.L5 k xl0 xl1 xl2 xl3 xc4_0 xc4_1 xc4_2 xc4_7 X0 (spec_PackageInts.l5 k xl0 xl1 xl2 xl3 xc4_0 xc4_1 xc4_2 xc4_7 X0 n)
def spec_PackageInts.L14 {R : Type} (k : Nat) (xl0 : List T_impl_Grant) (xl1 : List T_impl_Flow) (xl2 : List T_impl_Rule) (xl3 : List T_impl_Op) (xc4_0 : Int) (xc4_1 : Int) (xc4_2 : Int) (xc4_7 : Int) (X0 : List Int → Option R) (rec : Int → List Int → Option R) (x2 : Int) (xl5 : List Int) : Option R :=
  (bif decide (x2 < (xl1.length : Int)) then (bif decide (0 ≤ x2) then (bif decide (x2 < (xl1.length : Int)) then (bif decide (0 ≤ x2) then (bif decide (x2 < (xl1.length : Int)) then (bif decide ((xl5.length + ([(rd_impl_Flow xl1 x2).f1, (rd_impl_Flow xl1 x2).f2] : List Int).length) * 8 ≤ cap48) then (let l5 : List Int := (xl5 ++ ([(rd_impl_Flow xl1 x2).f1, (rd_impl_Flow xl1 x2).f2] : List Int)); (rec (w64 (x2 + (1 : Int))) l5)) else none) else none) else none) else none) else none) else (X0 xl5))
def spec_PackageInts.l14 {R : Type} (k : Nat) (xl0 : List T_impl_Grant) (xl1 : List T_impl_Flow) (xl2 : List T_impl_Rule) (xl3 : List T_impl_Op) (xc4_0 : Int) (xc4_1 : Int) (xc4_2 : Int) (xc4_7 : Int) (X0 : List Int → Option R) : Nat → Int → List Int → Option R
  | 0 => fun _ _ => none
  | n + 1 => spec_PackageInts.L14 k xl0 xl1 xl2 xl3 xc4_0 xc4_1 xc4_2 xc4_7 X0 (spec_PackageInts.l14 k xl0 xl1 xl2 xl3 xc4_0 xc4_1 xc4_2 xc4_7 X0 n)
def spec_PackageInts.L19 {R : Type} (k : Nat) (xl0 : List T_impl_Grant) (xl1 : List T_impl_Flow) (xl2 : List T_impl_Rule) (xl3 : List T_impl_Op) (xc4_0 : Int) (xc4_1 : Int) (xc4_2 : Int) (xc4_7 : Int) (X0 : List Int → Option R) (rec : Int → List Int → Option R) (x2 : Int) (xl5 : List Int) : Option R :=
  (bif decide (x2 < (xl2.length : Int)) then (bif decide (0 ≤ x2) then (bif decide (x2 < (xl2.length : Int)) then (bif decide ((xl5.length + ([(rd_impl_Rule xl2 x2).f1, (rd_impl_Rule xl2 x2).f2.f0, (rd_impl_Rule xl2 x2).f2.f1, (rd_impl_Rule xl2 x2).f3, (rd_impl_Rule xl2 x2).f4, (rd_impl_Rule xl2 x2).f5.f0, (rd_impl_Rule xl2 x2).f5.f1] : List Int).length) * 8 ≤ cap48) then (let l7 : List Int := (xl5 ++ ([(rd_impl_Rule xl2 x2).f1, (rd_impl_Rule xl2 x2).f2.f0, (rd_impl_Rule xl2 x2).f2.f1, (rd_impl_Rule xl2 x2).f3, (rd_impl_Rule xl2 x2).f4, (rd_impl_Rule xl2 x2).f5.f0, (rd_impl_Rule xl2 x2).f5.f1] : List Int)); (rec (w64 (x2 + (1 : Int))) l7)) else none) else none) else none) else (X0 xl5))
def spec_PackageInts.l19 {R : Type} (k : Nat) (xl0 : List T_impl_Grant) (xl1 : List T_impl_Flow) (xl2 : List T_impl_Rule) (xl3 : List T_impl_Op) (xc4_0 : Int) (xc4_1 : Int) (xc4_2 : Int) (xc4_7 : Int) (X0 : List Int → Option R) : Nat → Int → List Int → Option R
  | 0 => fun _ _ => none
  | n + 1 => spec_PackageInts.L19 k xl0 xl1 xl2 xl3 xc4_0 xc4_1 xc4_2 xc4_7 X0 (spec_PackageInts.l19 k xl0 xl1 xl2 xl3 xc4_0 xc4_1 xc4_2 xc4_7 X0 n)
def spec_PackageInts.L25 {R : Type} (k : Nat) (xl0 : List T_impl_Grant) (xl1 : List T_impl_Flow) (xl2 : List T_impl_Rule) (xl3 : List T_impl_Op) (xc4_0 : Int) (xc4_1 : Int) (xc4_2 : Int) (xc4_7 : Int) (X0 : List Int → Option R) (rec : Int → List Int → Option R) (x2 : Int) (xl5 : List Int) : Option R :=
  (bif decide (x2 < (xl3.length : Int)) then (bif decide (0 ≤ x2) then (bif decide (x2 < (xl3.length : Int)) then (bif decide (0 ≤ x2) then (bif decide (x2 < (xl3.length : Int)) then (bif decide (0 ≤ x2) then (bif decide (x2 < (xl3.length : Int)) then (bif decide (0 ≤ x2) then (bif decide (x2 < (xl3.length : Int)) then (bif decide ((xl5.length + ([(rd_impl_Op xl3 x2).f0, (rd_impl_Op xl3 x2).f1, (rd_impl_Op xl3 x2).f2, (rd_impl_Op xl3 x2).f3] : List Int).length) * 8 ≤ cap48) then (let l9 : List Int := (xl5 ++ ([(rd_impl_Op xl3 x2).f0, (rd_impl_Op xl3 x2).f1, (rd_impl_Op xl3 x2).f2, (rd_impl_Op xl3 x2).f3] : List Int)); (rec (w64 (x2 + (1 : Int))) l9)) else none) else none) else none) else none) else none) else none) else none) else none) else none) else (X0 xl5))
def spec_PackageInts.l25 {R : Type} (k : Nat) (xl0 : List T_impl_Grant) (xl1 : List T_impl_Flow) (xl2 : List T_impl_Rule) (xl3 : List T_impl_Op) (xc4_0 : Int) (xc4_1 : Int) (xc4_2 : Int) (xc4_7 : Int) (X0 : List Int → Option R) : Nat → Int → List Int → Option R
  | 0 => fun _ _ => none
  | n + 1 => spec_PackageInts.L25 k xl0 xl1 xl2 xl3 xc4_0 xc4_1 xc4_2 xc4_7 X0 (spec_PackageInts.l25 k xl0 xl1 xl2 xl3 xc4_0 xc4_1 xc4_2 xc4_7 X0 n)
def spec_PackageInts.f (k : Nat) (a0_0 : Int) (a0_1 : Int) (a0_2 : Int) (a0_3 : List T_impl_Grant) (a0_4 : List T_impl_Flow) (a0_5 : List T_impl_Rule) (a0_6 : List T_impl_Op) (a0_7 : Int) : Option (List Int) :=
  (spec_IsPackage.f k a0_0 a0_1 a0_2 a0_3 a0_4 a0_5 a0_6 a0_7).bind fun t1 => (bif !t1 then some ([] : List Int) else (spec_PackageInts.l5 k a0_3 a0_4 a0_5 a0_6 a0_0 a0_1 a0_2 a0_7 (fun (y4 : List Int) => (bif decide ((y4.length + ([(a0_4.length : Int)] : List Int).length) * 8 ≤ cap48) then (spec_PackageInts.l14 k a0_3 a0_4 a0_5 a0_6 a0_0 a0_1 a0_2 a0_7 (fun (y6 : List Int) => (bif decide ((y6.length + ([(a0_5.length : Int)] : List Int).length) * 8 ≤ cap48) then (spec_PackageInts.l19 k a0_3 a0_4 a0_5 a0_6 a0_0 a0_1 a0_2 a0_7 (fun (y8 : List Int) => (bif decide ((y8.length + ([(a0_6.length : Int)] : List Int).length) * 8 ≤ cap48) then (spec_PackageInts.l25 k a0_3 a0_4 a0_5 a0_6 a0_0 a0_1 a0_2 a0_7 (fun (y10 : List Int) => some y10) k (0 : Int) (y8 ++ ([(a0_6.length : Int)] : List Int))) else none)) k (0 : Int) (y6 ++ ([(a0_5.length : Int)] : List Int))) else none)) k (0 : Int) (y4 ++ ([(a0_4.length : Int)] : List Int))) else none)) k (0 : Int) ([a0_0, a0_1, a0_2, (a0_3.length : Int)] : List Int)))
def spec_PackageInts.h5 (k : Nat) {R : Type} (K : Ex → St κ → Option R) (vs : List AV) (bs : List (Blk κ)) : Option R :=
  match vs, bs with
  | [.v (.ptr 4 0 0), .v (.sl 5), .v (.int .i64 x2)], [qb0, qb1, qb2, qb3, .cells 35 [.int .i64 xc4_0, .int .i64 xc4_1, .int .i64 xc4_2, .sl 0, .sl 1, .sl 2, .sl 3, .int .i64 xc4_7], qb5] => (asO 4 false qb0).bind fun xl0 => (asO 5 false qb1).bind fun xl1 => (asO 6 false qb2).bind fun xl2 => (asO 7 false qb3).bind fun xl3 => (asO 8 true qb5).bind fun xl5 => spec_PackageInts.l5 k xl0 xl1 xl2 xl3 xc4_0 xc4_1 xc4_2 xc4_7 (fun (zl5 : List Int) => K (.exit 0) (stOf [(1, [none, none, none, some 4, some 5, some 6, some 7, none]), (3, [some 8])] [.v (.ptr 4 0 0), .v (.sl 5)] [.rows 4 false xl0, .rows 5 false xl1, .rows 6 false xl2, .rows 7 false xl3, .cells 35 [.int .i64 xc4_0, .int .i64 xc4_1, .int .i64 xc4_2, .sl 0, .sl 1, .sl 2, .sl 3, .int .i64 xc4_7], .rows 8 true zl5])) k x2 xl5
  | _, _ => none
def spec_PackageInts.h14 (k : Nat) {R : Type} (K : Ex → St κ → Option R) (vs : List AV) (bs : List (Blk κ)) : Option R :=
  match vs, bs with
  | [.v (.ptr 4 0 0), .v (.sl 5), .v (.int .i64 x2)], [qb0, qb1, qb2, qb3, .cells 35 [.int .i64 xc4_0, .int .i64 xc4_1, .int .i64 xc4_2, .sl 0, .sl 1, .sl 2, .sl 3, .int .i64 xc4_7], qb5] => (asO 4 false qb0).bind fun xl0 => (asO 5 false qb1).bind fun xl1 => (asO 6 false qb2).bind fun xl2 => (asO 7 false qb3).bind fun xl3 => (asO 8 true qb5).bind fun xl5 => spec_PackageInts.l14 k xl0 xl1 xl2 xl3 xc4_0 xc4_1 xc4_2 xc4_7 (fun (zl5 : List Int) => K (.exit 2) (stOf [(1, [none, none, none, some 4, some 5, some 6, some 7, none]), (3, [some 8])] [.v (.ptr 4 0 0), .v (.sl 5)] [.rows 4 false xl0, .rows 5 false xl1, .rows 6 false xl2, .rows 7 false xl3, .cells 35 [.int .i64 xc4_0, .int .i64 xc4_1, .int .i64 xc4_2, .sl 0, .sl 1, .sl 2, .sl 3, .int .i64 xc4_7], .rows 8 true zl5])) k x2 xl5
  | _, _ => none
def spec_PackageInts.h19 (k : Nat) {R : Type} (K : Ex → St κ → Option R) (vs : List AV) (bs : List (Blk κ)) : Option R :=
  match vs, bs with
  | [.v (.ptr 4 0 0), .v (.sl 5), .v (.int .i64 x2)], [qb0, qb1, qb2, qb3, .cells 35 [.int .i64 xc4_0, .int .i64 xc4_1, .int .i64 xc4_2, .sl 0, .sl 1, .sl 2, .sl 3, .int .i64 xc4_7], qb5] => (asO 4 false qb0).bind fun xl0 => (asO 5 false qb1).bind fun xl1 => (asO 6 false qb2).bind fun xl2 => (asO 7 false qb3).bind fun xl3 => (asO 8 true qb5).bind fun xl5 => spec_PackageInts.l19 k xl0 xl1 xl2 xl3 xc4_0 xc4_1 xc4_2 xc4_7 (fun (zl5 : List Int) => K (.exit 4) (stOf [(1, [none, none, none, some 4, some 5, some 6, some 7, none]), (3, [some 8])] [.v (.ptr 4 0 0), .v (.sl 5)] [.rows 4 false xl0, .rows 5 false xl1, .rows 6 false xl2, .rows 7 false xl3, .cells 35 [.int .i64 xc4_0, .int .i64 xc4_1, .int .i64 xc4_2, .sl 0, .sl 1, .sl 2, .sl 3, .int .i64 xc4_7], .rows 8 true zl5])) k x2 xl5
  | _, _ => none
def spec_PackageInts.h25 (k : Nat) {R : Type} (K : Ex → St κ → Option R) (vs : List AV) (bs : List (Blk κ)) : Option R :=
  match vs, bs with
  | [.v (.ptr 4 0 0), .v (.sl 5), .v (.int .i64 x2)], [qb0, qb1, qb2, qb3, .cells 35 [.int .i64 xc4_0, .int .i64 xc4_1, .int .i64 xc4_2, .sl 0, .sl 1, .sl 2, .sl 3, .int .i64 xc4_7], qb5] => (asO 4 false qb0).bind fun xl0 => (asO 5 false qb1).bind fun xl1 => (asO 6 false qb2).bind fun xl2 => (asO 7 false qb3).bind fun xl3 => (asO 8 true qb5).bind fun xl5 => spec_PackageInts.l25 k xl0 xl1 xl2 xl3 xc4_0 xc4_1 xc4_2 xc4_7 (fun (zl4 : List Int) => K (.exit 6) (stOf [(3, [some 8])] [.v (.sl 4)] [.rows 4 false xl0, .rows 5 false xl1, .rows 6 false xl2, .rows 7 false xl3, .rows 8 true zl4])) k x2 xl5
  | _, _ => none
def spec_PackageInts.Γ (k : Nat) : Ct κ := assoc [(58, spec_IsPackage.C k)]
def spec_PackageInts.LH (k : Nat) : Nat → Option (LHi κ) := assoc [(5, ⟨4, [(1, [none, none, none, some 4, some 5, some 6, some 7, none]), (3, [some 8]), (4, [])], [(1, [none, none, none, some 4, some 5, some 6, some 7, none]), (3, [some 8])], @spec_PackageInts.h5 k⟩), (14, ⟨4, [(1, [none, none, none, some 4, some 5, some 6, some 7, none]), (3, [some 8]), (7, [])], [(1, [none, none, none, some 4, some 5, some 6, some 7, none]), (3, [some 8])], @spec_PackageInts.h14 k⟩), (19, ⟨4, [(1, [none, none, none, some 4, some 5, some 6, some 7, none]), (3, [some 8]), (8, [])], [(1, [none, none, none, some 4, some 5, some 6, some 7, none]), (3, [some 8])], @spec_PackageInts.h19 k⟩), (25, ⟨4, [(1, [none, none, none, some 4, some 5, some 6, some 7, none]), (3, [some 8]), (10, [])], [(3, [some 8])], @spec_PackageInts.h25 k⟩)]
theorem spec_PackageInts.hΓ (k : Nat) : ∀ f g, spec_PackageInts.Γ k f = some g → CSound Try.prog f g := G_cons (spec_IsPackage.ok k) G_nil
theorem spec_PackageInts.e5 {R : Type} (K : Ex → St κ → Option R) (k : Nat) (xl0 : List T_impl_Grant) (xl1 : List T_impl_Flow) (xl2 : List T_impl_Rule) (xl3 : List T_impl_Op) (xc4_0 : Int) (xc4_1 : Int) (xc4_2 : Int) (xc4_7 : Int) : ∀ (n : Nat) (x2 : Int) (xl5 : List Int), loopN 4 (Code.den ti (spec_PackageInts.Γ k) (spec_PackageInts.LH k) (loopAt Try.f31 0)) [(1, [none, none, none, some 4, some 5, some 6, some 7, none]), (3, [some 8]), (4, [])] [(1, [none, none, none, some 4, some 5, some 6, some 7, none]), (3, [some 8])] K n [.v (.ptr 4 0 0), .v (.sl 5), .v (.int .i64 x2)] [.rows 4 false xl0, .rows 5 false xl1, .rows 6 false xl2, .rows 7 false xl3, .cells 35 [.int .i64 xc4_0, .int .i64 xc4_1, .int .i64 xc4_2, .sl 0, .sl 1, .sl 2, .sl 3, .int .i64 xc4_7], .rows 8 true xl5] = spec_PackageInts.l5 k xl0 xl1 xl2 xl3 xc4_0 xc4_1 xc4_2 xc4_7 (fun (zl5 : List Int) => K (.exit 0) (stOf [(1, [none, none, none, some 4, some 5, some 6, some 7, none]), (3, [some 8])] [.v (.ptr 4 0 0), .v (.sl 5)] [.rows 4 false xl0, .rows 5 false xl1, .rows 6 false xl2, .rows 7 false xl3, .cells 35 [.int .i64 xc4_0, .int .i64 xc4_1, .int .i64 xc4_2, .sl 0, .sl 1, .sl 2, .sl 3, .int .i64 xc4_7], .rows 8 true zl5])) n x2 xl5
  | 0, _, _ => rfl
  | n + 1, x2, xl5 => (show loopN 4 (Code.den ti (spec_PackageInts.Γ k) (spec_PackageInts.LH k) (loopAt Try.f31 0)) [(1, [none, none, none, some 4, some 5, some 6, some 7, none]), (3, [some 8]), (4, [])] [(1, [none, none, none, some 4, some 5, some 6, some 7, none]), (3, [some 8])] K (n + 1) [.v (.ptr 4 0 0), .v (.sl 5), .v (.int .i64 x2)] [.rows 4 false xl0, .rows 5 false xl1, .rows 6 false xl2, .rows 7 false xl3, .cells 35 [.int .i64 xc4_0, .int .i64 xc4_1, .int .i64 xc4_2, .sl 0, .sl 1, .sl 2, .sl 3, .int .i64 xc4_7], .rows 8 true xl5] = spec_PackageInts.L5 k xl0 xl1 xl2 xl3 xc4_0 xc4_1 xc4_2 xc4_7 (fun (zl5 : List Int) => K (.exit 0) (stOf [(1, [none, none, none, some 4, some 5, some 6, some 7, none]), (3, [some 8])] [.v (.ptr 4 0 0), .v (.sl 5)] [.rows 4 false xl0, .rows 5 false xl1, .rows 6 false xl2, .rows 7 false xl3, .cells 35 [.int .i64 xc4_0, .int .i64 xc4_1, .int .i64 xc4_2, .sl 0, .sl 1, .sl 2, .sl 3, .int .i64 xc4_7], .rows 8 true zl5])) (fun (x2' : Int) (xl5' : List Int) => loopN 4 (Code.den ti (spec_PackageInts.Γ k) (spec_PackageInts.LH k) (loopAt Try.f31 0)) [(1, [none, none, none, some 4, some 5, some 6, some 7, none]), (3, [some 8]), (4, [])] [(1, [none, none, none, some 4, some 5, some 6, some 7, none]), (3, [some 8])] K n [.v (.ptr 4 0 0), .v (.sl 5), .v (.int .i64 x2')] [.rows 4 false xl0, .rows 5 false xl1, .rows 6 false xl2, .rows 7 false xl3, .cells 35 [.int .i64 xc4_0, .int .i64 xc4_1, .int .i64 xc4_2, .sl 0, .sl 1, .sl 2, .sl 3, .int .i64 xc4_7], .rows 8 true xl5']) x2 xl5 by kernel_rfl).trans (congrArg (fun rec => spec_PackageInts.L5 k xl0 xl1 xl2 xl3 xc4_0 xc4_1 xc4_2 xc4_7 (fun (zl5 : List Int) => K (.exit 0) (stOf [(1, [none, none, none, some 4, some 5, some 6, some 7, none]), (3, [some 8])] [.v (.ptr 4 0 0), .v (.sl 5)] [.rows 4 false xl0, .rows 5 false xl1, .rows 6 false xl2, .rows 7 false xl3, .cells 35 [.int .i64 xc4_0, .int .i64 xc4_1, .int .i64 xc4_2, .sl 0, .sl 1, .sl 2, .sl 3, .int .i64 xc4_7], .rows 8 true zl5])) rec x2 xl5) (funext fun x2' => funext fun xl5' => spec_PackageInts.e5 K k xl0 xl1 xl2 xl3 xc4_0 xc4_1 xc4_2 xc4_7 n x2' xl5'))
theorem spec_PackageInts.q5 (k : Nat) {R : Type} (K : Ex → St κ → Option R) (vs : List AV) (bs : List (Blk κ)) (r : R) (h : spec_PackageInts.h5 k K vs bs = some r) : ∃ n, loopN 4 (Code.den ti (spec_PackageInts.Γ k) (spec_PackageInts.LH k) (loopAt Try.f31 0)) [(1, [none, none, none, some 4, some 5, some 6, some 7, none]), (3, [some 8]), (4, [])] [(1, [none, none, none, some 4, some 5, some 6, some 7, none]), (3, [some 8])] K n vs bs = some r := by
  unfold spec_PackageInts.h5 at h
  split at h
  · obtain ⟨_, rfl, h_1⟩ := asO_bind h
    obtain ⟨_, rfl, h_2⟩ := asO_bind h_1
    obtain ⟨_, rfl, h_3⟩ := asO_bind h_2
    obtain ⟨_, rfl, h_4⟩ := asO_bind h_3
    obtain ⟨_, rfl, h_5⟩ := asO_bind h_4
    exact ⟨k, (spec_PackageInts.e5 K k _ _ _ _ _ _ _ _ k _ _).trans h_5⟩
  · cases h
theorem spec_PackageInts.e14 {R : Type} (K : Ex → St κ → Option R) (k : Nat) (xl0 : List T_impl_Grant) (xl1 : List T_impl_Flow) (xl2 : List T_impl_Rule) (xl3 : List T_impl_Op) (xc4_0 : Int) (xc4_1 : Int) (xc4_2 : Int) (xc4_7 : Int) : ∀ (n : Nat) (x2 : Int) (xl5 : List Int), loopN 4 (Code.den ti (spec_PackageInts.Γ k) (spec_PackageInts.LH k) (loopAt Try.f31 1)) [(1, [none, none, none, some 4, some 5, some 6, some 7, none]), (3, [some 8]), (7, [])] [(1, [none, none, none, some 4, some 5, some 6, some 7, none]), (3, [some 8])] K n [.v (.ptr 4 0 0), .v (.sl 5), .v (.int .i64 x2)] [.rows 4 false xl0, .rows 5 false xl1, .rows 6 false xl2, .rows 7 false xl3, .cells 35 [.int .i64 xc4_0, .int .i64 xc4_1, .int .i64 xc4_2, .sl 0, .sl 1, .sl 2, .sl 3, .int .i64 xc4_7], .rows 8 true xl5] = spec_PackageInts.l14 k xl0 xl1 xl2 xl3 xc4_0 xc4_1 xc4_2 xc4_7 (fun (zl5 : List Int) => K (.exit 2) (stOf [(1, [none, none, none, some 4, some 5, some 6, some 7, none]), (3, [some 8])] [.v (.ptr 4 0 0), .v (.sl 5)] [.rows 4 false xl0, .rows 5 false xl1, .rows 6 false xl2, .rows 7 false xl3, .cells 35 [.int .i64 xc4_0, .int .i64 xc4_1, .int .i64 xc4_2, .sl 0, .sl 1, .sl 2, .sl 3, .int .i64 xc4_7], .rows 8 true zl5])) n x2 xl5
  | 0, _, _ => rfl
  | n + 1, x2, xl5 => (show loopN 4 (Code.den ti (spec_PackageInts.Γ k) (spec_PackageInts.LH k) (loopAt Try.f31 1)) [(1, [none, none, none, some 4, some 5, some 6, some 7, none]), (3, [some 8]), (7, [])] [(1, [none, none, none, some 4, some 5, some 6, some 7, none]), (3, [some 8])] K (n + 1) [.v (.ptr 4 0 0), .v (.sl 5), .v (.int .i64 x2)] [.rows 4 false xl0, .rows 5 false xl1, .rows 6 false xl2, .rows 7 false xl3, .cells 35 [.int .i64 xc4_0, .int .i64 xc4_1, .int .i64 xc4_2, .sl 0, .sl 1, .sl 2, .sl 3, .int .i64 xc4_7], .rows 8 true xl5] = spec_PackageInts.L14 k xl0 xl1 xl2 xl3 xc4_0 xc4_1 xc4_2 xc4_7 (fun (zl5 : List Int) => K (.exit 2) (stOf [(1, [none, none, none, some 4, some 5, some 6, some 7, none]), (3, [some 8])] [.v (.ptr 4 0 0), .v (.sl 5)] [.rows 4 false xl0, .rows 5 false xl1, .rows 6 false xl2, .rows 7 false xl3, .cells 35 [.int .i64 xc4_0, .int .i64 xc4_1, .int .i64 xc4_2, .sl 0, .sl 1, .sl 2, .sl 3, .int .i64 xc4_7], .rows 8 true zl5])) (fun (x2' : Int) (xl5' : List Int) => loopN 4 (Code.den ti (spec_PackageInts.Γ k) (spec_PackageInts.LH k) (loopAt Try.f31 1)) [(1, [none, none, none, some 4, some 5, some 6, some 7, none]), (3, [some 8]), (7, [])] [(1, [none, none, none, some 4, some 5, some 6, some 7, none]), (3, [some 8])] K n [.v (.ptr 4 0 0), .v (.sl 5), .v (.int .i64 x2')] [.rows 4 false xl0, .rows 5 false xl1, .rows 6 false xl2, .rows 7 false xl3, .cells 35 [.int .i64 xc4_0, .int .i64 xc4_1, .int .i64 xc4_2, .sl 0, .sl 1, .sl 2, .sl 3, .int .i64 xc4_7], .rows 8 true xl5']) x2 xl5 by kernel_rfl).trans (congrArg (fun rec => spec_PackageInts.L14 k xl0 xl1 xl2 xl3 xc4_0 xc4_1 xc4_2 xc4_7 (fun (zl5 : List Int) => K (.exit 2) (stOf [(1, [none, none, none, some 4, some 5, some 6, some 7, none]), (3, [some 8])] [.v (.ptr 4 0 0), .v (.sl 5)] [.rows 4 false xl0, .rows 5 false xl1, .rows 6 false xl2, .rows 7 false xl3, .cells 35 [.int .i64 xc4_0, .int .i64 xc4_1, .int .i64 xc4_2, .sl 0, .sl 1, .sl 2, .sl 3, .int .i64 xc4_7], .rows 8 true zl5])) rec x2 xl5) (funext fun x2' => funext fun xl5' => spec_PackageInts.e14 K k xl0 xl1 xl2 xl3 xc4_0 xc4_1 xc4_2 xc4_7 n x2' xl5'))
theorem spec_PackageInts.q14 (k : Nat) {R : Type} (K : Ex → St κ → Option R) (vs : List AV) (bs : List (Blk κ)) (r : R) (h : spec_PackageInts.h14 k K vs bs = some r) : ∃ n, loopN 4 (Code.den ti (spec_PackageInts.Γ k) (spec_PackageInts.LH k) (loopAt Try.f31 1)) [(1, [none, none, none, some 4, some 5, some 6, some 7, none]), (3, [some 8]), (7, [])] [(1, [none, none, none, some 4, some 5, some 6, some 7, none]), (3, [some 8])] K n vs bs = some r := by
  unfold spec_PackageInts.h14 at h
  split at h
  · obtain ⟨_, rfl, h_1⟩ := asO_bind h
    obtain ⟨_, rfl, h_2⟩ := asO_bind h_1
    obtain ⟨_, rfl, h_3⟩ := asO_bind h_2
    obtain ⟨_, rfl, h_4⟩ := asO_bind h_3
    obtain ⟨_, rfl, h_5⟩ := asO_bind h_4
    exact ⟨k, (spec_PackageInts.e14 K k _ _ _ _ _ _ _ _ k _ _).trans h_5⟩
  · cases h
theorem spec_PackageInts.e19 {R : Type} (K : Ex → St κ → Option R) (k : Nat) (xl0 : List T_impl_Grant) (xl1 : List T_impl_Flow) (xl2 : List T_impl_Rule) (xl3 : List T_impl_Op) (xc4_0 : Int) (xc4_1 : Int) (xc4_2 : Int) (xc4_7 : Int) : ∀ (n : Nat) (x2 : Int) (xl5 : List Int), loopN 4 (Code.den ti (spec_PackageInts.Γ k) (spec_PackageInts.LH k) (loopAt Try.f31 2)) [(1, [none, none, none, some 4, some 5, some 6, some 7, none]), (3, [some 8]), (8, [])] [(1, [none, none, none, some 4, some 5, some 6, some 7, none]), (3, [some 8])] K n [.v (.ptr 4 0 0), .v (.sl 5), .v (.int .i64 x2)] [.rows 4 false xl0, .rows 5 false xl1, .rows 6 false xl2, .rows 7 false xl3, .cells 35 [.int .i64 xc4_0, .int .i64 xc4_1, .int .i64 xc4_2, .sl 0, .sl 1, .sl 2, .sl 3, .int .i64 xc4_7], .rows 8 true xl5] = spec_PackageInts.l19 k xl0 xl1 xl2 xl3 xc4_0 xc4_1 xc4_2 xc4_7 (fun (zl5 : List Int) => K (.exit 4) (stOf [(1, [none, none, none, some 4, some 5, some 6, some 7, none]), (3, [some 8])] [.v (.ptr 4 0 0), .v (.sl 5)] [.rows 4 false xl0, .rows 5 false xl1, .rows 6 false xl2, .rows 7 false xl3, .cells 35 [.int .i64 xc4_0, .int .i64 xc4_1, .int .i64 xc4_2, .sl 0, .sl 1, .sl 2, .sl 3, .int .i64 xc4_7], .rows 8 true zl5])) n x2 xl5
  | 0, _, _ => rfl
  | n + 1, x2, xl5 => (show loopN 4 (Code.den ti (spec_PackageInts.Γ k) (spec_PackageInts.LH k) (loopAt Try.f31 2)) [(1, [none, none, none, some 4, some 5, some 6, some 7, none]), (3, [some 8]), (8, [])] [(1, [none, none, none, some 4, some 5, some 6, some 7, none]), (3, [some 8])] K (n + 1) [.v (.ptr 4 0 0), .v (.sl 5), .v (.int .i64 x2)] [.rows 4 false xl0, .rows 5 false xl1, .rows 6 false xl2, .rows 7 false xl3, .cells 35 [.int .i64 xc4_0, .int .i64 xc4_1, .int .i64 xc4_2, .sl 0, .sl 1, .sl 2, .sl 3, .int .i64 xc4_7], .rows 8 true xl5] = spec_PackageInts.L19 k xl0 xl1 xl2 xl3 xc4_0 xc4_1 xc4_2 xc4_7 (fun (zl5 : List Int) => K (.exit 4) (stOf [(1, [none, none, none, some 4, some 5, some 6, some 7, none]), (3, [some 8])] [.v (.ptr 4 0 0), .v (.sl 5)] [.rows 4 false xl0, .rows 5 false xl1, .rows 6 false xl2, .rows 7 false xl3, .cells 35 [.int .i64 xc4_0, .int .i64 xc4_1, .int .i64 xc4_2, .sl 0, .sl 1, .sl 2, .sl 3, .int .i64 xc4_7], .rows 8 true zl5])) (fun (x2' : Int) (xl5' : List Int) => loopN 4 (Code.den ti (spec_PackageInts.Γ k) (spec_PackageInts.LH k) (loopAt Try.f31 2)) [(1, [none, none, none, some 4, some 5, some 6, some 7, none]), (3, [some 8]), (8, [])] [(1, [none, none, none, some 4, some 5, some 6, some 7, none]), (3, [some 8])] K n [.v (.ptr 4 0 0), .v (.sl 5), .v (.int .i64 x2')] [.rows 4 false xl0, .rows 5 false xl1, .rows 6 false xl2, .rows 7 false xl3, .cells 35 [.int .i64 xc4_0, .int .i64 xc4_1, .int .i64 xc4_2, .sl 0, .sl 1, .sl 2, .sl 3, .int .i64 xc4_7], .rows 8 true xl5']) x2 xl5 by kernel_rfl).trans (congrArg (fun rec => spec_PackageInts.L19 k xl0 xl1 xl2 xl3 xc4_0 xc4_1 xc4_2 xc4_7 (fun (zl5 : List Int) => K (.exit 4) (stOf [(1, [none, none, none, some 4, some 5, some 6, some 7, none]), (3, [some 8])] [.v (.ptr 4 0 0), .v (.sl 5)] [.rows 4 false xl0, .rows 5 false xl1, .rows 6 false xl2, .rows 7 false xl3, .cells 35 [.int .i64 xc4_0, .int .i64 xc4_1, .int .i64 xc4_2, .sl 0, .sl 1, .sl 2, .sl 3, .int .i64 xc4_7], .rows 8 true zl5])) rec x2 xl5) (funext fun x2' => funext fun xl5' => spec_PackageInts.e19 K k xl0 xl1 xl2 xl3 xc4_0 xc4_1 xc4_2 xc4_7 n x2' xl5'))
theorem spec_PackageInts.q19 (k : Nat) {R : Type} (K : Ex → St κ → Option R) (vs : List AV) (bs : List (Blk κ)) (r : R) (h : spec_PackageInts.h19 k K vs bs = some r) : ∃ n, loopN 4 (Code.den ti (spec_PackageInts.Γ k) (spec_PackageInts.LH k) (loopAt Try.f31 2)) [(1, [none, none, none, some 4, some 5, some 6, some 7, none]), (3, [some 8]), (8, [])] [(1, [none, none, none, some 4, some 5, some 6, some 7, none]), (3, [some 8])] K n vs bs = some r := by
  unfold spec_PackageInts.h19 at h
  split at h
  · obtain ⟨_, rfl, h_1⟩ := asO_bind h
    obtain ⟨_, rfl, h_2⟩ := asO_bind h_1
    obtain ⟨_, rfl, h_3⟩ := asO_bind h_2
    obtain ⟨_, rfl, h_4⟩ := asO_bind h_3
    obtain ⟨_, rfl, h_5⟩ := asO_bind h_4
    exact ⟨k, (spec_PackageInts.e19 K k _ _ _ _ _ _ _ _ k _ _).trans h_5⟩
  · cases h
theorem spec_PackageInts.e25 {R : Type} (K : Ex → St κ → Option R) (k : Nat) (xl0 : List T_impl_Grant) (xl1 : List T_impl_Flow) (xl2 : List T_impl_Rule) (xl3 : List T_impl_Op) (xc4_0 : Int) (xc4_1 : Int) (xc4_2 : Int) (xc4_7 : Int) : ∀ (n : Nat) (x2 : Int) (xl5 : List Int), loopN 4 (Code.den ti (spec_PackageInts.Γ k) (spec_PackageInts.LH k) (loopAt Try.f31 3)) [(1, [none, none, none, some 4, some 5, some 6, some 7, none]), (3, [some 8]), (10, [])] [(3, [some 8])] K n [.v (.ptr 4 0 0), .v (.sl 5), .v (.int .i64 x2)] [.rows 4 false xl0, .rows 5 false xl1, .rows 6 false xl2, .rows 7 false xl3, .cells 35 [.int .i64 xc4_0, .int .i64 xc4_1, .int .i64 xc4_2, .sl 0, .sl 1, .sl 2, .sl 3, .int .i64 xc4_7], .rows 8 true xl5] = spec_PackageInts.l25 k xl0 xl1 xl2 xl3 xc4_0 xc4_1 xc4_2 xc4_7 (fun (zl4 : List Int) => K (.exit 6) (stOf [(3, [some 8])] [.v (.sl 4)] [.rows 4 false xl0, .rows 5 false xl1, .rows 6 false xl2, .rows 7 false xl3, .rows 8 true zl4])) n x2 xl5
  | 0, _, _ => rfl
  | n + 1, x2, xl5 => (show loopN 4 (Code.den ti (spec_PackageInts.Γ k) (spec_PackageInts.LH k) (loopAt Try.f31 3)) [(1, [none, none, none, some 4, some 5, some 6, some 7, none]), (3, [some 8]), (10, [])] [(3, [some 8])] K (n + 1) [.v (.ptr 4 0 0), .v (.sl 5), .v (.int .i64 x2)] [.rows 4 false xl0, .rows 5 false xl1, .rows 6 false xl2, .rows 7 false xl3, .cells 35 [.int .i64 xc4_0, .int .i64 xc4_1, .int .i64 xc4_2, .sl 0, .sl 1, .sl 2, .sl 3, .int .i64 xc4_7], .rows 8 true xl5] = spec_PackageInts.L25 k xl0 xl1 xl2 xl3 xc4_0 xc4_1 xc4_2 xc4_7 (fun (zl4 : List Int) => K (.exit 6) (stOf [(3, [some 8])] [.v (.sl 4)] [.rows 4 false xl0, .rows 5 false xl1, .rows 6 false xl2, .rows 7 false xl3, .rows 8 true zl4])) (fun (x2' : Int) (xl5' : List Int) => loopN 4 (Code.den ti (spec_PackageInts.Γ k) (spec_PackageInts.LH k) (loopAt Try.f31 3)) [(1, [none, none, none, some 4, some 5, some 6, some 7, none]), (3, [some 8]), (10, [])] [(3, [some 8])] K n [.v (.ptr 4 0 0), .v (.sl 5), .v (.int .i64 x2')] [.rows 4 false xl0, .rows 5 false xl1, .rows 6 false xl2, .rows 7 false xl3, .cells 35 [.int .i64 xc4_0, .int .i64 xc4_1, .int .i64 xc4_2, .sl 0, .sl 1, .sl 2, .sl 3, .int .i64 xc4_7], .rows 8 true xl5']) x2 xl5 by kernel_rfl).trans (congrArg (fun rec => spec_PackageInts.L25 k xl0 xl1 xl2 xl3 xc4_0 xc4_1 xc4_2 xc4_7 (fun (zl4 : List Int) => K (.exit 6) (stOf [(3, [some 8])] [.v (.sl 4)] [.rows 4 false xl0, .rows 5 false xl1, .rows 6 false xl2, .rows 7 false xl3, .rows 8 true zl4])) rec x2 xl5) (funext fun x2' => funext fun xl5' => spec_PackageInts.e25 K k xl0 xl1 xl2 xl3 xc4_0 xc4_1 xc4_2 xc4_7 n x2' xl5'))
theorem spec_PackageInts.q25 (k : Nat) {R : Type} (K : Ex → St κ → Option R) (vs : List AV) (bs : List (Blk κ)) (r : R) (h : spec_PackageInts.h25 k K vs bs = some r) : ∃ n, loopN 4 (Code.den ti (spec_PackageInts.Γ k) (spec_PackageInts.LH k) (loopAt Try.f31 3)) [(1, [none, none, none, some 4, some 5, some 6, some 7, none]), (3, [some 8]), (10, [])] [(3, [some 8])] K n vs bs = some r := by
  unfold spec_PackageInts.h25 at h
  split at h
  · obtain ⟨_, rfl, h_1⟩ := asO_bind h
    obtain ⟨_, rfl, h_2⟩ := asO_bind h_1
    obtain ⟨_, rfl, h_3⟩ := asO_bind h_2
    obtain ⟨_, rfl, h_4⟩ := asO_bind h_3
    obtain ⟨_, rfl, h_5⟩ := asO_bind h_4
    exact ⟨k, (spec_PackageInts.e25 K k _ _ _ _ _ _ _ _ k _ _).trans h_5⟩
  · cases h
theorem spec_PackageInts.lok (k : Nat) : LOK ti (spec_PackageInts.Γ k) (spec_PackageInts.LH k) 4 (loopsOf (bodyOf Try.f31)) :=
  (show loopsOf (bodyOf Try.f31) = [loopAt Try.f31 0, loopAt Try.f31 1, loopAt Try.f31 2, loopAt Try.f31 3] by kernel_rfl) ▸ (LOK_cons (g := ⟨4, [(1, [none, none, none, some 4, some 5, some 6, some 7, none]), (3, [some 8]), (4, [])], [(1, [none, none, none, some 4, some 5, some 6, some 7, none]), (3, [some 8])], @spec_PackageInts.h5 k⟩) (by kernel_rfl) rfl (fun K vs xs r h => spec_PackageInts.q5 k K vs xs r h) (LOK_cons (g := ⟨4, [(1, [none, none, none, some 4, some 5, some 6, some 7, none]), (3, [some 8]), (7, [])], [(1, [none, none, none, some 4, some 5, some 6, some 7, none]), (3, [some 8])], @spec_PackageInts.h14 k⟩) (by kernel_rfl) rfl (fun K vs xs r h => spec_PackageInts.q14 k K vs xs r h) (LOK_cons (g := ⟨4, [(1, [none, none, none, some 4, some 5, some 6, some 7, none]), (3, [some 8]), (8, [])], [(1, [none, none, none, some 4, some 5, some 6, some 7, none]), (3, [some 8])], @spec_PackageInts.h19 k⟩) (by kernel_rfl) rfl (fun K vs xs r h => spec_PackageInts.q19 k K vs xs r h) (LOK_cons (g := ⟨4, [(1, [none, none, none, some 4, some 5, some 6, some 7, none]), (3, [some 8]), (10, [])], [(3, [some 8])], @spec_PackageInts.h25 k⟩) (by kernel_rfl) rfl (fun K vs xs r h => spec_PackageInts.q25 k K vs xs r h) (LOK_nil)))))
def spec_PackageInts.sig : List PSh := [.agg [.sc, .sc, .sc, .ro 4, .ro 5, .ro 6, .ro 7, .sc]]
def spec_PackageInts.g (y : List Int) : Ret κ := ⟨.v (.sl 4), [], [.rows 8 true y]⟩
def spec_PackageInts.out (r : Ret κ) : Option (List Int) :=
  match r with
  | ⟨.v (.sl 4), [], [q0]⟩ => (asO 8 true q0).bind fun z0 => some (z0)
  | _ => none
theorem spec_PackageInts.out_ok (r : Ret κ) (y : List Int) (h : spec_PackageInts.out r = some y) : r = spec_PackageInts.g y := by
  unfold spec_PackageInts.out at h
  split at h
  · obtain ⟨_, rfl, h_1⟩ := asO_bind h
    obtain rfl := Option.some.inj h_1
    rfl
  · cases h
def spec_PackageInts.body (k : Nat) (vs : List AV) (bs : List (Blk κ)) : Option (Lf κ) :=
  match vs, bs with
  | [.agg [.int .i64 a0_0, .int .i64 a0_1, .int .i64 a0_2, .sl 0, .sl 1, .sl 2, .sl 3, .int .i64 a0_7]], [qb0, qb1, qb2, qb3] => (asO 4 false qb0).bind fun a0_3 => (asO 5 false qb1).bind fun a0_4 => (asO 6 false qb2).bind fun a0_5 => (asO 7 false qb3).bind fun a0_6 => some ⟨List Int, spec_PackageInts.f k a0_0 a0_1 a0_2 a0_3 a0_4 a0_5 a0_6 a0_7, spec_PackageInts.g⟩
  | _, _ => none
def spec_PackageInts.C (k : Nat) : Nat → List AV → AP κ AV := contract spec_PackageInts.sig (spec_PackageInts.body k)
theorem spec_PackageInts.den (k : Nat) (a0_0 : Int) (a0_1 : Int) (a0_2 : Int) (a0_3 : List T_impl_Grant) (a0_4 : List T_impl_Flow) (a0_5 : List T_impl_Rule) (a0_6 : List T_impl_Op) (a0_7 : Int) : Code.den ti (spec_PackageInts.Γ k) (spec_PackageInts.LH k) (bodyOf Try.f31) (finK ti Try.f31.results.toList [(2, [some 8])] (flags spec_PackageInts.sig).length (rwI (flags spec_PackageInts.sig) 0) spec_PackageInts.out) ⟨envOf (([.agg [.int .i64 a0_0, .int .i64 a0_1, .int .i64 a0_2, .sl 0, .sl 1, .sl 2, .sl 3, .int .i64 a0_7]]).zipIdx.map fun q => (q.2, q.1)), hpOf [.rows 4 false a0_3, .rows 5 false a0_4, .rows 6 false a0_5, .rows 7 false a0_6], (flags spec_PackageInts.sig).length⟩ = spec_PackageInts.f k a0_0 a0_1 a0_2 a0_3 a0_4 a0_5 a0_6 a0_7 := by kernel_rfl
theorem spec_PackageInts.ok (k : Nat) : CSound Try.prog 31 (spec_PackageInts.C k) :=
  csound κ_ok mixed tok (spec_PackageInts.hΓ k) (LH := spec_PackageInts.LH k) (fn := Try.f31) (c := bodyOf Try.f31) Try.func31 rfl Try.call31 spec_PackageInts.sig [(2, [some 8])] (spec_PackageInts.body k) (by kernel_rfl) (spec_PackageInts.lok k) (by decide) fun vs bs lf y hl hb hy => by
    unfold spec_PackageInts.body at hb
    split at hb
    · obtain ⟨_, rfl, hb_1⟩ := asO_bind hb
      obtain ⟨_, rfl, hb_2⟩ := asO_bind hb_1
      obtain ⟨_, rfl, hb_3⟩ := asO_bind hb_2
      obtain ⟨_, rfl, hb_4⟩ := asO_bind hb_3
      obtain rfl := Option.some.inj hb_4
      exact ⟨spec_PackageInts.out, spec_PackageInts.out_ok, (spec_PackageInts.den k _ _ _ _ _ _ _ _).trans hy⟩
    · cases hb
/-! ### spec_Mod -/
def spec_Mod.f (k : Nat) (a0 : Int) (a1 : Int) : Option Int :=
  (spec_l1In.f k a1 (1 : Int) (1000000000000 : Int)).bind fun t1 => (bif !t1 then some (0 : Int) else (bif decide (a1 = 0) then none else (bif decide (a1 = 0) then none else some ((w64 ((a0.tmod a1) + a1)).tmod a1))))
def spec_Mod.Γ (k : Nat) : Ct κ := assoc [(104, spec_l1In.C k)]
def spec_Mod.LH (k : Nat) : Nat → Option (LHi κ) := assoc []
theorem spec_Mod.hΓ (k : Nat) : ∀ f g, spec_Mod.Γ k f = some g → CSound Try.prog f g := G_cons (spec_l1In.ok k) G_nil
theorem spec_Mod.lok (k : Nat) : LOK ti (spec_Mod.Γ k) (spec_Mod.LH k) 0 (loopsOf (bodyOf Try.f149)) :=
  (show loopsOf (bodyOf Try.f149) = [] by kernel_rfl) ▸ LOK_nil
def spec_Mod.sig : List PSh := [.one .sc, .one .sc]
def spec_Mod.g (y : Int) : Ret κ := ⟨.v (.int .i64 y), [], []⟩
def spec_Mod.out (r : Ret κ) : Option Int :=
  match r with
  | ⟨.v (.int .i64 z0), [], []⟩ => some (z0)
  | _ => none
theorem spec_Mod.out_ok (r : Ret κ) (y : Int) (h : spec_Mod.out r = some y) : r = spec_Mod.g y := by
  unfold spec_Mod.out at h
  split at h
  · obtain rfl := Option.some.inj h
    rfl
  · cases h
def spec_Mod.body (k : Nat) (vs : List AV) (bs : List (Blk κ)) : Option (Lf κ) :=
  match vs, bs with
  | [.v (.int .i64 a0), .v (.int .i64 a1)], [] => some ⟨Int, spec_Mod.f k a0 a1, spec_Mod.g⟩
  | _, _ => none
def spec_Mod.C (k : Nat) : Nat → List AV → AP κ AV := contract spec_Mod.sig (spec_Mod.body k)
theorem spec_Mod.den (k : Nat) (a0 : Int) (a1 : Int) : Code.den ti (spec_Mod.Γ k) (spec_Mod.LH k) (bodyOf Try.f149) (finK ti Try.f149.results.toList [] (flags spec_Mod.sig).length (rwI (flags spec_Mod.sig) 0) spec_Mod.out) ⟨envOf (([.v (.int .i64 a0), .v (.int .i64 a1)]).zipIdx.map fun q => (q.2, q.1)), hpOf [], (flags spec_Mod.sig).length⟩ = spec_Mod.f k a0 a1 := by kernel_rfl
theorem spec_Mod.ok (k : Nat) : CSound Try.prog 149 (spec_Mod.C k) :=
  csound κ_ok mixed tok (spec_Mod.hΓ k) (LH := spec_Mod.LH k) (fn := Try.f149) (c := bodyOf Try.f149) Try.func149 rfl Try.call149 spec_Mod.sig [] (spec_Mod.body k) (by kernel_rfl) (spec_Mod.lok k) (by decide) fun vs bs lf y hl hb hy => by
    unfold spec_Mod.body at hb
    split at hb
    · obtain rfl := Option.some.inj hb
      exact ⟨spec_Mod.out, spec_Mod.out_ok, (spec_Mod.den k _ _).trans hy⟩
    · cases hb
/-! ### spec_Hash -/
def spec_Hash.L3 {R : Type} (k : Nat) (xl0 : List Int) (X0 : Int → Option R) (rec : Int → Int → Option R) (x1 : Int) (x2 : Int) : Option R :=
  (bif decide (x2 < (xl0.length : Int)) then (bif decide (0 ≤ x2) then (bif decide (x2 < (xl0.length : Int)) then (spec_Mod.f k (rd_i64 xl0 x2) (2147483647 : Int)).bind fun t1 => (rec ((w64 ((w64 ((w64 (x1 * (1000003 : Int))) + t1)) + (13 : Int))).tmod (2147483647 : Int)) (w64 (x2 + (1 : Int)))) else none) else none) else (X0 x1))
def spec_Hash.l3 {R : Type} (k : Nat) (xl0 : List Int) (X0 : Int → Option R) : Nat → Int → Int → Option R
  | 0 => fun _ _ => none
  | n + 1 => spec_Hash.L3 k xl0 X0 (spec_Hash.l3 k xl0 X0 n)
def spec_Hash.f (k : Nat) (a0 : List Int) : Option Int :=
  (spec_Hash.l3 k a0 (fun (y2 : Int) => some y2) k (11 : Int) (0 : Int))
def spec_Hash.h3 (k : Nat) {R : Type} (K : Ex → St κ → Option R) (vs : List AV) (bs : List (Blk κ)) : Option R :=
  match vs, bs with
  | [.v (.sl 0), .v (.int .i64 x1), .v (.int .i64 x2)], [qb0] => (asO 8 false qb0).bind fun xl0 => spec_Hash.l3 k xl0 (fun (z0 : Int) => K (.exit 0) (stOf [(3, [])] [.v (.int .i64 z0)] [.rows 8 false xl0])) k x1 x2
  | _, _ => none
def spec_Hash.Γ (k : Nat) : Ct κ := assoc [(149, spec_Mod.C k)]
def spec_Hash.LH (k : Nat) : Nat → Option (LHi κ) := assoc [(3, ⟨1, [(0, [some 8]), (3, []), (4, [])], [(3, [])], @spec_Hash.h3 k⟩)]
theorem spec_Hash.hΓ (k : Nat) : ∀ f g, spec_Hash.Γ k f = some g → CSound Try.prog f g := G_cons (spec_Mod.ok k) G_nil
theorem spec_Hash.e3 {R : Type} (K : Ex → St κ → Option R) (k : Nat) (xl0 : List Int) : ∀ (n : Nat) (x1 : Int) (x2 : Int), loopN 1 (Code.den ti (spec_Hash.Γ k) (spec_Hash.LH k) (loopAt Try.f133 0)) [(0, [some 8]), (3, []), (4, [])] [(3, [])] K n [.v (.sl 0), .v (.int .i64 x1), .v (.int .i64 x2)] [.rows 8 false xl0] = spec_Hash.l3 k xl0 (fun (z0 : Int) => K (.exit 0) (stOf [(3, [])] [.v (.int .i64 z0)] [.rows 8 false xl0])) n x1 x2
  | 0, _, _ => rfl
  | n + 1, x1, x2 => (show loopN 1 (Code.den ti (spec_Hash.Γ k) (spec_Hash.LH k) (loopAt Try.f133 0)) [(0, [some 8]), (3, []), (4, [])] [(3, [])] K (n + 1) [.v (.sl 0), .v (.int .i64 x1), .v (.int .i64 x2)] [.rows 8 false xl0] = spec_Hash.L3 k xl0 (fun (z0 : Int) => K (.exit 0) (stOf [(3, [])] [.v (.int .i64 z0)] [.rows 8 false xl0])) (fun (x1' : Int) (x2' : Int) => loopN 1 (Code.den ti (spec_Hash.Γ k) (spec_Hash.LH k) (loopAt Try.f133 0)) [(0, [some 8]), (3, []), (4, [])] [(3, [])] K n [.v (.sl 0), .v (.int .i64 x1'), .v (.int .i64 x2')] [.rows 8 false xl0]) x1 x2 by kernel_rfl).trans (congrArg (fun rec => spec_Hash.L3 k xl0 (fun (z0 : Int) => K (.exit 0) (stOf [(3, [])] [.v (.int .i64 z0)] [.rows 8 false xl0])) rec x1 x2) (funext fun x1' => funext fun x2' => spec_Hash.e3 K k xl0 n x1' x2'))
theorem spec_Hash.q3 (k : Nat) {R : Type} (K : Ex → St κ → Option R) (vs : List AV) (bs : List (Blk κ)) (r : R) (h : spec_Hash.h3 k K vs bs = some r) : ∃ n, loopN 1 (Code.den ti (spec_Hash.Γ k) (spec_Hash.LH k) (loopAt Try.f133 0)) [(0, [some 8]), (3, []), (4, [])] [(3, [])] K n vs bs = some r := by
  unfold spec_Hash.h3 at h
  split at h
  · obtain ⟨_, rfl, h_1⟩ := asO_bind h
    exact ⟨k, (spec_Hash.e3 K k _ k _ _).trans h_1⟩
  · cases h
theorem spec_Hash.lok (k : Nat) : LOK ti (spec_Hash.Γ k) (spec_Hash.LH k) 1 (loopsOf (bodyOf Try.f133)) :=
  (show loopsOf (bodyOf Try.f133) = [loopAt Try.f133 0] by kernel_rfl) ▸ (LOK_cons (g := ⟨1, [(0, [some 8]), (3, []), (4, [])], [(3, [])], @spec_Hash.h3 k⟩) (by kernel_rfl) rfl (fun K vs xs r h => spec_Hash.q3 k K vs xs r h) (LOK_nil))
def spec_Hash.sig : List PSh := [.one (.ro 8)]
def spec_Hash.g (y : Int) : Ret κ := ⟨.v (.int .i64 y), [], []⟩
def spec_Hash.out (r : Ret κ) : Option Int :=
  match r with
  | ⟨.v (.int .i64 z0), [], []⟩ => some (z0)
  | _ => none
theorem spec_Hash.out_ok (r : Ret κ) (y : Int) (h : spec_Hash.out r = some y) : r = spec_Hash.g y := by
  unfold spec_Hash.out at h
  split at h
  · obtain rfl := Option.some.inj h
    rfl
  · cases h
def spec_Hash.body (k : Nat) (vs : List AV) (bs : List (Blk κ)) : Option (Lf κ) :=
  match vs, bs with
  | [.v (.sl 0)], [qb0] => (asO 8 false qb0).bind fun a0 => some ⟨Int, spec_Hash.f k a0, spec_Hash.g⟩
  | _, _ => none
def spec_Hash.C (k : Nat) : Nat → List AV → AP κ AV := contract spec_Hash.sig (spec_Hash.body k)
theorem spec_Hash.den (k : Nat) (a0 : List Int) : Code.den ti (spec_Hash.Γ k) (spec_Hash.LH k) (bodyOf Try.f133) (finK ti Try.f133.results.toList [] (flags spec_Hash.sig).length (rwI (flags spec_Hash.sig) 0) spec_Hash.out) ⟨envOf (([.v (.sl 0)]).zipIdx.map fun q => (q.2, q.1)), hpOf [.rows 8 false a0], (flags spec_Hash.sig).length⟩ = spec_Hash.f k a0 := by kernel_rfl
theorem spec_Hash.ok (k : Nat) : CSound Try.prog 133 (spec_Hash.C k) :=
  csound κ_ok mixed tok (spec_Hash.hΓ k) (LH := spec_Hash.LH k) (fn := Try.f133) (c := bodyOf Try.f133) Try.func133 rfl Try.call133 spec_Hash.sig [] (spec_Hash.body k) (by kernel_rfl) (spec_Hash.lok k) (by decide) fun vs bs lf y hl hb hy => by
    unfold spec_Hash.body at hb
    split at hb
    · obtain ⟨_, rfl, hb_1⟩ := asO_bind hb
      obtain rfl := Option.some.inj hb_1
      exact ⟨spec_Hash.out, spec_Hash.out_ok, (spec_Hash.den k _).trans hy⟩
    · cases hb
/-! ### spec_KeyedHash -/
def spec_KeyedHash.f (k : Nat) (a0 : Int) (a1 : List Int) : Option Int :=
  (bif decide ((([a0] : List Int).length + a1.length) * 8 ≤ cap48) then (bif decide (((([a0] : List Int) ++ a1).length + ([a0] : List Int).length) * 8 ≤ cap48) then (spec_Hash.f k ((([a0] : List Int) ++ a1) ++ ([a0] : List Int))).bind fun t1 => some t1 else none) else none)
def spec_KeyedHash.Γ (k : Nat) : Ct κ := assoc [(133, spec_Hash.C k)]
def spec_KeyedHash.LH (k : Nat) : Nat → Option (LHi κ) := assoc []
theorem spec_KeyedHash.hΓ (k : Nat) : ∀ f g, spec_KeyedHash.Γ k f = some g → CSound Try.prog f g := G_cons (spec_Hash.ok k) G_nil
theorem spec_KeyedHash.lok (k : Nat) : LOK ti (spec_KeyedHash.Γ k) (spec_KeyedHash.LH k) 1 (loopsOf (bodyOf Try.f92)) :=
  (show loopsOf (bodyOf Try.f92) = [] by kernel_rfl) ▸ LOK_nil
def spec_KeyedHash.sig : List PSh := [.one .sc, .one (.ro 8)]
def spec_KeyedHash.g (y : Int) : Ret κ := ⟨.v (.int .i64 y), [], []⟩
def spec_KeyedHash.out (r : Ret κ) : Option Int :=
  match r with
  | ⟨.v (.int .i64 z0), [], []⟩ => some (z0)
  | _ => none
theorem spec_KeyedHash.out_ok (r : Ret κ) (y : Int) (h : spec_KeyedHash.out r = some y) : r = spec_KeyedHash.g y := by
  unfold spec_KeyedHash.out at h
  split at h
  · obtain rfl := Option.some.inj h
    rfl
  · cases h
def spec_KeyedHash.body (k : Nat) (vs : List AV) (bs : List (Blk κ)) : Option (Lf κ) :=
  match vs, bs with
  | [.v (.int .i64 a0), .v (.sl 0)], [qb0] => (asO 8 false qb0).bind fun a1 => some ⟨Int, spec_KeyedHash.f k a0 a1, spec_KeyedHash.g⟩
  | _, _ => none
def spec_KeyedHash.C (k : Nat) : Nat → List AV → AP κ AV := contract spec_KeyedHash.sig (spec_KeyedHash.body k)
theorem spec_KeyedHash.den (k : Nat) (a0 : Int) (a1 : List Int) : Code.den ti (spec_KeyedHash.Γ k) (spec_KeyedHash.LH k) (bodyOf Try.f92) (finK ti Try.f92.results.toList [] (flags spec_KeyedHash.sig).length (rwI (flags spec_KeyedHash.sig) 0) spec_KeyedHash.out) ⟨envOf (([.v (.int .i64 a0), .v (.sl 0)]).zipIdx.map fun q => (q.2, q.1)), hpOf [.rows 8 false a1], (flags spec_KeyedHash.sig).length⟩ = spec_KeyedHash.f k a0 a1 := by kernel_rfl
theorem spec_KeyedHash.ok (k : Nat) : CSound Try.prog 92 (spec_KeyedHash.C k) :=
  csound κ_ok mixed tok (spec_KeyedHash.hΓ k) (LH := spec_KeyedHash.LH k) (fn := Try.f92) (c := bodyOf Try.f92) Try.func92 rfl Try.call92 spec_KeyedHash.sig [] (spec_KeyedHash.body k) (by kernel_rfl) (spec_KeyedHash.lok k) (by decide) fun vs bs lf y hl hb hy => by
    unfold spec_KeyedHash.body at hb
    split at hb
    · obtain ⟨_, rfl, hb_1⟩ := asO_bind hb
      obtain rfl := Option.some.inj hb_1
      exact ⟨spec_KeyedHash.out, spec_KeyedHash.out_ok, (spec_KeyedHash.den k _ _).trans hy⟩
    · cases hb
/-! ### spec_SealPackage -/
def spec_SealPackage.f (k : Nat) (a0 : Int) (a1_0 : Int) (a1_1 : Int) (a1_2 : Int) (a1_3 : List T_impl_Grant) (a1_4 : List T_impl_Flow) (a1_5 : List T_impl_Rule) (a1_6 : List T_impl_Op) (a1_7 : Int) : Option (Int × Int × Int × Int × List T_impl_Grant × List T_impl_Flow × List T_impl_Rule × List T_impl_Op) :=
  (spec_l26Copy.f k a1_0 a1_1 a1_2 a1_3 a1_4 a1_5 a1_6 a1_7).bind fun t1 => (spec_IsValidKey.f k a0).bind fun t2 => (bif t2 then (spec_IsPackage.f k a1_0 a1_1 a1_2 a1_3 a1_4 a1_5 a1_6 a1_7).bind fun t3 => (bif t3 then (spec_PackageInts.f k a1_0 a1_1 a1_2 a1_3 a1_4 a1_5 a1_6 a1_7).bind fun t4 => (spec_KeyedHash.f k a0 t4).bind fun t5 => some (t1.1, t1.2.1, t1.2.2.1, t5, t1.2.2.2.2.1, t1.2.2.2.2.2.1, t1.2.2.2.2.2.2.1, t1.2.2.2.2.2.2.2) else some (t1.1, t1.2.1, t1.2.2.1, (0 : Int), t1.2.2.2.2.1, t1.2.2.2.2.2.1, t1.2.2.2.2.2.2.1, t1.2.2.2.2.2.2.2)) else some (t1.1, t1.2.1, t1.2.2.1, (0 : Int), t1.2.2.2.2.1, t1.2.2.2.2.2.1, t1.2.2.2.2.2.2.1, t1.2.2.2.2.2.2.2))
def spec_SealPackage.Γ (k : Nat) : Ct κ := assoc [(79, spec_l26Copy.C k), (59, spec_IsValidKey.C k), (58, spec_IsPackage.C k), (31, spec_PackageInts.C k), (92, spec_KeyedHash.C k)]
def spec_SealPackage.LH (k : Nat) : Nat → Option (LHi κ) := assoc []
theorem spec_SealPackage.hΓ (k : Nat) : ∀ f g, spec_SealPackage.Γ k f = some g → CSound Try.prog f g := G_cons (spec_l26Copy.ok k) (G_cons (spec_IsValidKey.ok k) (G_cons (spec_IsPackage.ok k) (G_cons (spec_PackageInts.ok k) (G_cons (spec_KeyedHash.ok k) G_nil))))
theorem spec_SealPackage.lok (k : Nat) : LOK ti (spec_SealPackage.Γ k) (spec_SealPackage.LH k) 4 (loopsOf (bodyOf Try.f36)) :=
  (show loopsOf (bodyOf Try.f36) = [] by kernel_rfl) ▸ LOK_nil
def spec_SealPackage.sig : List PSh := [.one .sc, .agg [.sc, .sc, .sc, .ro 4, .ro 5, .ro 6, .ro 7, .sc]]
def spec_SealPackage.g (y : Int × Int × Int × Int × List T_impl_Grant × List T_impl_Flow × List T_impl_Rule × List T_impl_Op) : Ret κ := ⟨.agg [.int .i64 y.1, .int .i64 y.2.1, .int .i64 y.2.2.1, .sl 4, .sl 5, .sl 6, .sl 7, .int .i64 y.2.2.2.1], [], [.rows 4 true y.2.2.2.2.1, .rows 5 true y.2.2.2.2.2.1, .rows 6 true y.2.2.2.2.2.2.1, .rows 7 true y.2.2.2.2.2.2.2]⟩
def spec_SealPackage.out (r : Ret κ) : Option (Int × Int × Int × Int × List T_impl_Grant × List T_impl_Flow × List T_impl_Rule × List T_impl_Op) :=
  match r with
  | ⟨.agg [.int .i64 z0, .int .i64 z1, .int .i64 z2, .sl 4, .sl 5, .sl 6, .sl 7, .int .i64 z3], [], [q4, q5, q6, q7]⟩ => (asO 4 true q4).bind fun z4 => (asO 5 true q5).bind fun z5 => (asO 6 true q6).bind fun z6 => (asO 7 true q7).bind fun z7 => some (z0, z1, z2, z3, z4, z5, z6, z7)
  | _ => none
theorem spec_SealPackage.out_ok (r : Ret κ) (y : Int × Int × Int × Int × List T_impl_Grant × List T_impl_Flow × List T_impl_Rule × List T_impl_Op) (h : spec_SealPackage.out r = some y) : r = spec_SealPackage.g y := by
  unfold spec_SealPackage.out at h
  split at h
  · obtain ⟨_, rfl, h_1⟩ := asO_bind h
    obtain ⟨_, rfl, h_2⟩ := asO_bind h_1
    obtain ⟨_, rfl, h_3⟩ := asO_bind h_2
    obtain ⟨_, rfl, h_4⟩ := asO_bind h_3
    obtain rfl := Option.some.inj h_4
    rfl
  · cases h
def spec_SealPackage.body (k : Nat) (vs : List AV) (bs : List (Blk κ)) : Option (Lf κ) :=
  match vs, bs with
  | [.v (.int .i64 a0), .agg [.int .i64 a1_0, .int .i64 a1_1, .int .i64 a1_2, .sl 0, .sl 1, .sl 2, .sl 3, .int .i64 a1_7]], [qb0, qb1, qb2, qb3] => (asO 4 false qb0).bind fun a1_3 => (asO 5 false qb1).bind fun a1_4 => (asO 6 false qb2).bind fun a1_5 => (asO 7 false qb3).bind fun a1_6 => some ⟨Int × Int × Int × Int × List T_impl_Grant × List T_impl_Flow × List T_impl_Rule × List T_impl_Op, spec_SealPackage.f k a0 a1_0 a1_1 a1_2 a1_3 a1_4 a1_5 a1_6 a1_7, spec_SealPackage.g⟩
  | _, _ => none
def spec_SealPackage.C (k : Nat) : Nat → List AV → AP κ AV := contract spec_SealPackage.sig (spec_SealPackage.body k)
theorem spec_SealPackage.den (k : Nat) (a0 : Int) (a1_0 : Int) (a1_1 : Int) (a1_2 : Int) (a1_3 : List T_impl_Grant) (a1_4 : List T_impl_Flow) (a1_5 : List T_impl_Rule) (a1_6 : List T_impl_Op) (a1_7 : Int) : Code.den ti (spec_SealPackage.Γ k) (spec_SealPackage.LH k) (bodyOf Try.f36) (finK ti Try.f36.results.toList [(4, [none, none, none, some 4, some 5, some 6, some 7, none])] (flags spec_SealPackage.sig).length (rwI (flags spec_SealPackage.sig) 0) spec_SealPackage.out) ⟨envOf (([.v (.int .i64 a0), .agg [.int .i64 a1_0, .int .i64 a1_1, .int .i64 a1_2, .sl 0, .sl 1, .sl 2, .sl 3, .int .i64 a1_7]]).zipIdx.map fun q => (q.2, q.1)), hpOf [.rows 4 false a1_3, .rows 5 false a1_4, .rows 6 false a1_5, .rows 7 false a1_6], (flags spec_SealPackage.sig).length⟩ = spec_SealPackage.f k a0 a1_0 a1_1 a1_2 a1_3 a1_4 a1_5 a1_6 a1_7 := by kernel_rfl
theorem spec_SealPackage.ok (k : Nat) : CSound Try.prog 36 (spec_SealPackage.C k) :=
  csound κ_ok mixed tok (spec_SealPackage.hΓ k) (LH := spec_SealPackage.LH k) (fn := Try.f36) (c := bodyOf Try.f36) Try.func36 rfl Try.call36 spec_SealPackage.sig [(4, [none, none, none, some 4, some 5, some 6, some 7, none])] (spec_SealPackage.body k) (by kernel_rfl) (spec_SealPackage.lok k) (by decide) fun vs bs lf y hl hb hy => by
    unfold spec_SealPackage.body at hb
    split at hb
    · obtain ⟨_, rfl, hb_1⟩ := asO_bind hb
      obtain ⟨_, rfl, hb_2⟩ := asO_bind hb_1
      obtain ⟨_, rfl, hb_3⟩ := asO_bind hb_2
      obtain ⟨_, rfl, hb_4⟩ := asO_bind hb_3
      obtain rfl := Option.some.inj hb_4
      exact ⟨spec_SealPackage.out, spec_SealPackage.out_ok, (spec_SealPackage.den k _ _ _ _ _ _ _ _ _).trans hy⟩
    · cases hb
/-! ### spec_IsSealed -/
def spec_IsSealed.f (k : Nat) (a0 : Int) (a1_0 : Int) (a1_1 : Int) (a1_2 : Int) (a1_3 : List T_impl_Grant) (a1_4 : List T_impl_Flow) (a1_5 : List T_impl_Rule) (a1_6 : List T_impl_Op) (a1_7 : Int) : Option Bool :=
  (spec_IsPackage.f k a1_0 a1_1 a1_2 a1_3 a1_4 a1_5 a1_6 a1_7).bind fun t1 => (bif t1 then (spec_IsValidKey.f k a0).bind fun t2 => (bif t2 then (spec_SealPackage.f k a0 a1_0 a1_1 a1_2 a1_3 a1_4 a1_5 a1_6 a1_7).bind fun t3 => some (t3.2.2.2.1 == a1_7) else some false) else some false)
def spec_IsSealed.Γ (k : Nat) : Ct κ := assoc [(58, spec_IsPackage.C k), (59, spec_IsValidKey.C k), (36, spec_SealPackage.C k)]
def spec_IsSealed.LH (k : Nat) : Nat → Option (LHi κ) := assoc []
theorem spec_IsSealed.hΓ (k : Nat) : ∀ f g, spec_IsSealed.Γ k f = some g → CSound Try.prog f g := G_cons (spec_IsPackage.ok k) (G_cons (spec_IsValidKey.ok k) (G_cons (spec_SealPackage.ok k) G_nil))
theorem spec_IsSealed.lok (k : Nat) : LOK ti (spec_IsSealed.Γ k) (spec_IsSealed.LH k) 4 (loopsOf (bodyOf Try.f12)) :=
  (show loopsOf (bodyOf Try.f12) = [] by kernel_rfl) ▸ LOK_nil
def spec_IsSealed.sig : List PSh := [.one .sc, .agg [.sc, .sc, .sc, .ro 4, .ro 5, .ro 6, .ro 7, .sc]]
def spec_IsSealed.g (y : Bool) : Ret κ := ⟨.v (.bool y), [], []⟩
def spec_IsSealed.out (r : Ret κ) : Option Bool :=
  match r with
  | ⟨.v (.bool z0), [], []⟩ => some (z0)
  | _ => none
theorem spec_IsSealed.out_ok (r : Ret κ) (y : Bool) (h : spec_IsSealed.out r = some y) : r = spec_IsSealed.g y := by
  unfold spec_IsSealed.out at h
  split at h
  · obtain rfl := Option.some.inj h
    rfl
  · cases h
def spec_IsSealed.body (k : Nat) (vs : List AV) (bs : List (Blk κ)) : Option (Lf κ) :=
  match vs, bs with
  | [.v (.int .i64 a0), .agg [.int .i64 a1_0, .int .i64 a1_1, .int .i64 a1_2, .sl 0, .sl 1, .sl 2, .sl 3, .int .i64 a1_7]], [qb0, qb1, qb2, qb3] => (asO 4 false qb0).bind fun a1_3 => (asO 5 false qb1).bind fun a1_4 => (asO 6 false qb2).bind fun a1_5 => (asO 7 false qb3).bind fun a1_6 => some ⟨Bool, spec_IsSealed.f k a0 a1_0 a1_1 a1_2 a1_3 a1_4 a1_5 a1_6 a1_7, spec_IsSealed.g⟩
  | _, _ => none
def spec_IsSealed.C (k : Nat) : Nat → List AV → AP κ AV := contract spec_IsSealed.sig (spec_IsSealed.body k)
theorem spec_IsSealed.den (k : Nat) (a0 : Int) (a1_0 : Int) (a1_1 : Int) (a1_2 : Int) (a1_3 : List T_impl_Grant) (a1_4 : List T_impl_Flow) (a1_5 : List T_impl_Rule) (a1_6 : List T_impl_Op) (a1_7 : Int) : Code.den ti (spec_IsSealed.Γ k) (spec_IsSealed.LH k) (bodyOf Try.f12) (finK ti Try.f12.results.toList [] (flags spec_IsSealed.sig).length (rwI (flags spec_IsSealed.sig) 0) spec_IsSealed.out) ⟨envOf (([.v (.int .i64 a0), .agg [.int .i64 a1_0, .int .i64 a1_1, .int .i64 a1_2, .sl 0, .sl 1, .sl 2, .sl 3, .int .i64 a1_7]]).zipIdx.map fun q => (q.2, q.1)), hpOf [.rows 4 false a1_3, .rows 5 false a1_4, .rows 6 false a1_5, .rows 7 false a1_6], (flags spec_IsSealed.sig).length⟩ = spec_IsSealed.f k a0 a1_0 a1_1 a1_2 a1_3 a1_4 a1_5 a1_6 a1_7 := by kernel_rfl
theorem spec_IsSealed.ok (k : Nat) : CSound Try.prog 12 (spec_IsSealed.C k) :=
  csound κ_ok mixed tok (spec_IsSealed.hΓ k) (LH := spec_IsSealed.LH k) (fn := Try.f12) (c := bodyOf Try.f12) Try.func12 rfl Try.call12 spec_IsSealed.sig [] (spec_IsSealed.body k) (by kernel_rfl) (spec_IsSealed.lok k) (by decide) fun vs bs lf y hl hb hy => by
    unfold spec_IsSealed.body at hb
    split at hb
    · obtain ⟨_, rfl, hb_1⟩ := asO_bind hb
      obtain ⟨_, rfl, hb_2⟩ := asO_bind hb_1
      obtain ⟨_, rfl, hb_3⟩ := asO_bind hb_2
      obtain ⟨_, rfl, hb_4⟩ := asO_bind hb_3
      obtain rfl := Option.some.inj hb_4
      exact ⟨spec_IsSealed.out, spec_IsSealed.out_ok, (spec_IsSealed.den k _ _ _ _ _ _ _ _ _).trans hy⟩
    · cases hb
/-! ### spec_SealDeed -/
def spec_SealDeed.f (k : Nat) (a0_0 : Int) (a0_1 : Int) (a0_2 : Int) (a0_3 : Int) (a0_4 : Int) (a1 : Int) (a2 : Int) : Option (Int × Int × Int × Int × Int) :=
  (spec_IsValidKey.f k a1).bind fun t1 => (bif t1 then (spec_KeyedHash.f k a1 ([(1 : Int), a0_0, a0_1, a0_2] : List Int)).bind fun t2 => (spec_IsValidKey.f k a2).bind fun t3 => (bif t3 then (spec_KeyedHash.f k a2 ([(2 : Int), a0_0, a0_1, a0_2] : List Int)).bind fun t4 => some (a0_0, a0_1, a0_2, t2, t4) else some (a0_0, a0_1, a0_2, t2, (0 : Int))) else (spec_IsValidKey.f k a2).bind fun t5 => (bif t5 then (spec_KeyedHash.f k a2 ([(2 : Int), a0_0, a0_1, a0_2] : List Int)).bind fun t6 => some (a0_0, a0_1, a0_2, (0 : Int), t6) else some (a0_0, a0_1, a0_2, (0 : Int), (0 : Int))))
def spec_SealDeed.Γ (k : Nat) : Ct κ := assoc [(59, spec_IsValidKey.C k), (92, spec_KeyedHash.C k)]
def spec_SealDeed.LH (k : Nat) : Nat → Option (LHi κ) := assoc []
theorem spec_SealDeed.hΓ (k : Nat) : ∀ f g, spec_SealDeed.Γ k f = some g → CSound Try.prog f g := G_cons (spec_IsValidKey.ok k) (G_cons (spec_KeyedHash.ok k) G_nil)
theorem spec_SealDeed.lok (k : Nat) : LOK ti (spec_SealDeed.Γ k) (spec_SealDeed.LH k) 0 (loopsOf (bodyOf Try.f86)) :=
  (show loopsOf (bodyOf Try.f86) = [] by kernel_rfl) ▸ LOK_nil
def spec_SealDeed.sig : List PSh := [.agg [.sc, .sc, .sc, .sc, .sc], .one .sc, .one .sc]
def spec_SealDeed.g (y : Int × Int × Int × Int × Int) : Ret κ := ⟨.agg [.int .i64 y.1, .int .i64 y.2.1, .int .i64 y.2.2.1, .int .i64 y.2.2.2.1, .int .i64 y.2.2.2.2], [], []⟩
def spec_SealDeed.out (r : Ret κ) : Option (Int × Int × Int × Int × Int) :=
  match r with
  | ⟨.agg [.int .i64 z0, .int .i64 z1, .int .i64 z2, .int .i64 z3, .int .i64 z4], [], []⟩ => some (z0, z1, z2, z3, z4)
  | _ => none
theorem spec_SealDeed.out_ok (r : Ret κ) (y : Int × Int × Int × Int × Int) (h : spec_SealDeed.out r = some y) : r = spec_SealDeed.g y := by
  unfold spec_SealDeed.out at h
  split at h
  · obtain rfl := Option.some.inj h
    rfl
  · cases h
def spec_SealDeed.body (k : Nat) (vs : List AV) (bs : List (Blk κ)) : Option (Lf κ) :=
  match vs, bs with
  | [.agg [.int .i64 a0_0, .int .i64 a0_1, .int .i64 a0_2, .int .i64 a0_3, .int .i64 a0_4], .v (.int .i64 a1), .v (.int .i64 a2)], [] => some ⟨Int × Int × Int × Int × Int, spec_SealDeed.f k a0_0 a0_1 a0_2 a0_3 a0_4 a1 a2, spec_SealDeed.g⟩
  | _, _ => none
def spec_SealDeed.C (k : Nat) : Nat → List AV → AP κ AV := contract spec_SealDeed.sig (spec_SealDeed.body k)
theorem spec_SealDeed.den (k : Nat) (a0_0 : Int) (a0_1 : Int) (a0_2 : Int) (a0_3 : Int) (a0_4 : Int) (a1 : Int) (a2 : Int) : Code.den ti (spec_SealDeed.Γ k) (spec_SealDeed.LH k) (bodyOf Try.f86) (finK ti Try.f86.results.toList [] (flags spec_SealDeed.sig).length (rwI (flags spec_SealDeed.sig) 0) spec_SealDeed.out) ⟨envOf (([.agg [.int .i64 a0_0, .int .i64 a0_1, .int .i64 a0_2, .int .i64 a0_3, .int .i64 a0_4], .v (.int .i64 a1), .v (.int .i64 a2)]).zipIdx.map fun q => (q.2, q.1)), hpOf [], (flags spec_SealDeed.sig).length⟩ = spec_SealDeed.f k a0_0 a0_1 a0_2 a0_3 a0_4 a1 a2 := by kernel_rfl
theorem spec_SealDeed.ok (k : Nat) : CSound Try.prog 86 (spec_SealDeed.C k) :=
  csound κ_ok mixed tok (spec_SealDeed.hΓ k) (LH := spec_SealDeed.LH k) (fn := Try.f86) (c := bodyOf Try.f86) Try.func86 rfl Try.call86 spec_SealDeed.sig [] (spec_SealDeed.body k) (by kernel_rfl) (spec_SealDeed.lok k) (by decide) fun vs bs lf y hl hb hy => by
    unfold spec_SealDeed.body at hb
    split at hb
    · obtain rfl := Option.some.inj hb
      exact ⟨spec_SealDeed.out, spec_SealDeed.out_ok, (spec_SealDeed.den k _ _ _ _ _ _ _).trans hy⟩
    · cases hb
/-! ### spec_IsDeed -/
def spec_IsDeed.f (k : Nat) (a0_0 : Int) (a0_1 : Int) (a0_2 : Int) (a0_3 : Int) (a0_4 : Int) (a1 : Int) (a2 : Int) : Option Bool :=
  (spec_l1In.f k a0_0 (1 : Int) (5 : Int)).bind fun t1 => (bif t1 then (spec_l1In.f k a0_1 (1 : Int) (9 : Int)).bind fun t2 => (bif t2 then (spec_l1In.f k a0_2 (1 : Int) (9 : Int)).bind fun t3 => (bif t3 then (bif (a0_1 != a0_2) then (spec_IsValidKey.f k a1).bind fun t4 => (bif t4 then (spec_IsValidKey.f k a2).bind fun t5 => (bif t5 then (spec_SealDeed.f k a0_0 a0_1 a0_2 a0_3 a0_4 a1 a2).bind fun t6 => some ((t6.1 == a0_0) && ((t6.2.1 == a0_1) && ((t6.2.2.1 == a0_2) && ((t6.2.2.2.1 == a0_3) && (t6.2.2.2.2 == a0_4))))) else some false) else some false) else some false) else some false) else some false) else some false)
def spec_IsDeed.Γ (k : Nat) : Ct κ := assoc [(104, spec_l1In.C k), (59, spec_IsValidKey.C k), (86, spec_SealDeed.C k)]
def spec_IsDeed.LH (k : Nat) : Nat → Option (LHi κ) := assoc []
theorem spec_IsDeed.hΓ (k : Nat) : ∀ f g, spec_IsDeed.Γ k f = some g → CSound Try.prog f g := G_cons (spec_l1In.ok k) (G_cons (spec_IsValidKey.ok k) (G_cons (spec_SealDeed.ok k) G_nil))
theorem spec_IsDeed.lok (k : Nat) : LOK ti (spec_IsDeed.Γ k) (spec_IsDeed.LH k) 0 (loopsOf (bodyOf Try.f103)) :=
  (show loopsOf (bodyOf Try.f103) = [] by kernel_rfl) ▸ LOK_nil
def spec_IsDeed.sig : List PSh := [.agg [.sc, .sc, .sc, .sc, .sc], .one .sc, .one .sc]
def spec_IsDeed.g (y : Bool) : Ret κ := ⟨.v (.bool y), [], []⟩
def spec_IsDeed.out (r : Ret κ) : Option Bool :=
  match r with
  | ⟨.v (.bool z0), [], []⟩ => some (z0)
  | _ => none
theorem spec_IsDeed.out_ok (r : Ret κ) (y : Bool) (h : spec_IsDeed.out r = some y) : r = spec_IsDeed.g y := by
  unfold spec_IsDeed.out at h
  split at h
  · obtain rfl := Option.some.inj h
    rfl
  · cases h
def spec_IsDeed.body (k : Nat) (vs : List AV) (bs : List (Blk κ)) : Option (Lf κ) :=
  match vs, bs with
  | [.agg [.int .i64 a0_0, .int .i64 a0_1, .int .i64 a0_2, .int .i64 a0_3, .int .i64 a0_4], .v (.int .i64 a1), .v (.int .i64 a2)], [] => some ⟨Bool, spec_IsDeed.f k a0_0 a0_1 a0_2 a0_3 a0_4 a1 a2, spec_IsDeed.g⟩
  | _, _ => none
def spec_IsDeed.C (k : Nat) : Nat → List AV → AP κ AV := contract spec_IsDeed.sig (spec_IsDeed.body k)
theorem spec_IsDeed.den (k : Nat) (a0_0 : Int) (a0_1 : Int) (a0_2 : Int) (a0_3 : Int) (a0_4 : Int) (a1 : Int) (a2 : Int) : Code.den ti (spec_IsDeed.Γ k) (spec_IsDeed.LH k) (bodyOf Try.f103) (finK ti Try.f103.results.toList [] (flags spec_IsDeed.sig).length (rwI (flags spec_IsDeed.sig) 0) spec_IsDeed.out) ⟨envOf (([.agg [.int .i64 a0_0, .int .i64 a0_1, .int .i64 a0_2, .int .i64 a0_3, .int .i64 a0_4], .v (.int .i64 a1), .v (.int .i64 a2)]).zipIdx.map fun q => (q.2, q.1)), hpOf [], (flags spec_IsDeed.sig).length⟩ = spec_IsDeed.f k a0_0 a0_1 a0_2 a0_3 a0_4 a1 a2 := by kernel_rfl
theorem spec_IsDeed.ok (k : Nat) : CSound Try.prog 103 (spec_IsDeed.C k) :=
  csound κ_ok mixed tok (spec_IsDeed.hΓ k) (LH := spec_IsDeed.LH k) (fn := Try.f103) (c := bodyOf Try.f103) Try.func103 rfl Try.call103 spec_IsDeed.sig [] (spec_IsDeed.body k) (by kernel_rfl) (spec_IsDeed.lok k) (by decide) fun vs bs lf y hl hb hy => by
    unfold spec_IsDeed.body at hb
    split at hb
    · obtain rfl := Option.some.inj hb
      exact ⟨spec_IsDeed.out, spec_IsDeed.out_ok, (spec_IsDeed.den k _ _ _ _ _ _ _).trans hy⟩
    · cases hb
/-! ### spec_Transfer -/
def spec_Transfer.f (k : Nat) (a0 : Int) (a1_0 : Int) (a1_1 : Int) (a1_2 : Int) (a1_3 : List T_impl_Grant) (a1_4 : List T_impl_Flow) (a1_5 : List T_impl_Rule) (a1_6 : List T_impl_Op) (a1_7 : Int) (a2_0 : Int) (a2_1 : Int) (a2_2 : Int) (a2_3 : Int) (a2_4 : Int) (a3 : Int) (a4 : Int) : Option (Int × Int × Int × Int × Bool × List T_impl_Grant × List T_impl_Flow × List T_impl_Rule × List T_impl_Op) :=
  (spec_l26Copy.f k a1_0 a1_1 a1_2 a1_3 a1_4 a1_5 a1_6 a1_7).bind fun t1 => (spec_IsSealed.f k a0 a1_0 a1_1 a1_2 a1_3 a1_4 a1_5 a1_6 a1_7).bind fun t2 => (bif !t2 then some (t1.1, t1.2.1, t1.2.2.1, t1.2.2.2.1, false, t1.2.2.2.2.1, t1.2.2.2.2.2.1, t1.2.2.2.2.2.2.1, t1.2.2.2.2.2.2.2) else (spec_IsDeed.f k a2_0 a2_1 a2_2 a2_3 a2_4 a3 a4).bind fun t3 => (bif !t3 then some (t1.1, t1.2.1, t1.2.2.1, t1.2.2.2.1, false, t1.2.2.2.2.1, t1.2.2.2.2.2.1, t1.2.2.2.2.2.2.1, t1.2.2.2.2.2.2.2) else (bif (a1_0 != a2_0) then some (t1.1, t1.2.1, t1.2.2.1, t1.2.2.2.1, false, t1.2.2.2.2.1, t1.2.2.2.2.2.1, t1.2.2.2.2.2.2.1, t1.2.2.2.2.2.2.2) else (bif (a1_1 != a2_1) then some (t1.1, t1.2.1, t1.2.2.1, t1.2.2.2.1, false, t1.2.2.2.2.1, t1.2.2.2.2.2.1, t1.2.2.2.2.2.2.1, t1.2.2.2.2.2.2.2) else (spec_SealPackage.f k a0 t1.1 a2_2 t1.2.2.1 t1.2.2.2.2.1 t1.2.2.2.2.2.1 t1.2.2.2.2.2.2.1 t1.2.2.2.2.2.2.2 t1.2.2.2.1).bind fun t4 => some (t4.1, t4.2.1, t4.2.2.1, t4.2.2.2.1, true, t4.2.2.2.2.1, t4.2.2.2.2.2.1, t4.2.2.2.2.2.2.1, t4.2.2.2.2.2.2.2)))))
def spec_Transfer.Γ (k : Nat) : Ct κ := assoc [(79, spec_l26Copy.C k), (12, spec_IsSealed.C k), (103, spec_IsDeed.C k), (36, spec_SealPackage.C k)]
def spec_Transfer.LH (k : Nat) : Nat → Option (LHi κ) := assoc []
theorem spec_Transfer.hΓ (k : Nat) : ∀ f g, spec_Transfer.Γ k f = some g → CSound Try.prog f g := G_cons (spec_l26Copy.ok k) (G_cons (spec_IsSealed.ok k) (G_cons (spec_IsDeed.ok k) (G_cons (spec_SealPackage.ok k) G_nil)))
theorem spec_Transfer.lok (k : Nat) : LOK ti (spec_Transfer.Γ k) (spec_Transfer.LH k) 4 (loopsOf (bodyOf Try.f52)) :=
  (show loopsOf (bodyOf Try.f52) = [] by kernel_rfl) ▸ LOK_nil
def spec_Transfer.sig : List PSh := [.one .sc, .agg [.sc, .sc, .sc, .ro 4, .ro 5, .ro 6, .ro 7, .sc], .agg [.sc, .sc, .sc, .sc, .sc], .one .sc, .one .sc]
def spec_Transfer.g (y : Int × Int × Int × Int × Bool × List T_impl_Grant × List T_impl_Flow × List T_impl_Rule × List T_impl_Op) : Ret κ := ⟨.tup [(true, [.int .i64 y.1, .int .i64 y.2.1, .int .i64 y.2.2.1, .sl 4, .sl 5, .sl 6, .sl 7, .int .i64 y.2.2.2.1]), (false, [.bool y.2.2.2.2.1])], [], [.rows 4 true y.2.2.2.2.2.1, .rows 5 true y.2.2.2.2.2.2.1, .rows 6 true y.2.2.2.2.2.2.2.1, .rows 7 true y.2.2.2.2.2.2.2.2]⟩
def spec_Transfer.out (r : Ret κ) : Option (Int × Int × Int × Int × Bool × List T_impl_Grant × List T_impl_Flow × List T_impl_Rule × List T_impl_Op) :=
  match r with
  | ⟨.tup [(true, [.int .i64 z0, .int .i64 z1, .int .i64 z2, .sl 4, .sl 5, .sl 6, .sl 7, .int .i64 z3]), (false, [.bool z4])], [], [q5, q6, q7, q8]⟩ => (asO 4 true q5).bind fun z5 => (asO 5 true q6).bind fun z6 => (asO 6 true q7).bind fun z7 => (asO 7 true q8).bind fun z8 => some (z0, z1, z2, z3, z4, z5, z6, z7, z8)
  | _ => none
theorem spec_Transfer.out_ok (r : Ret κ) (y : Int × Int × Int × Int × Bool × List T_impl_Grant × List T_impl_Flow × List T_impl_Rule × List T_impl_Op) (h : spec_Transfer.out r = some y) : r = spec_Transfer.g y := by
  unfold spec_Transfer.out at h
  split at h
  · obtain ⟨_, rfl, h_1⟩ := asO_bind h
    obtain ⟨_, rfl, h_2⟩ := asO_bind h_1
    obtain ⟨_, rfl, h_3⟩ := asO_bind h_2
    obtain ⟨_, rfl, h_4⟩ := asO_bind h_3
    obtain rfl := Option.some.inj h_4
    rfl
  · cases h
def spec_Transfer.body (k : Nat) (vs : List AV) (bs : List (Blk κ)) : Option (Lf κ) :=
  match vs, bs with
  | [.v (.int .i64 a0), .agg [.int .i64 a1_0, .int .i64 a1_1, .int .i64 a1_2, .sl 0, .sl 1, .sl 2, .sl 3, .int .i64 a1_7], .agg [.int .i64 a2_0, .int .i64 a2_1, .int .i64 a2_2, .int .i64 a2_3, .int .i64 a2_4], .v (.int .i64 a3), .v (.int .i64 a4)], [qb0, qb1, qb2, qb3] => (asO 4 false qb0).bind fun a1_3 => (asO 5 false qb1).bind fun a1_4 => (asO 6 false qb2).bind fun a1_5 => (asO 7 false qb3).bind fun a1_6 => some ⟨Int × Int × Int × Int × Bool × List T_impl_Grant × List T_impl_Flow × List T_impl_Rule × List T_impl_Op, spec_Transfer.f k a0 a1_0 a1_1 a1_2 a1_3 a1_4 a1_5 a1_6 a1_7 a2_0 a2_1 a2_2 a2_3 a2_4 a3 a4, spec_Transfer.g⟩
  | _, _ => none
def spec_Transfer.C (k : Nat) : Nat → List AV → AP κ AV := contract spec_Transfer.sig (spec_Transfer.body k)
theorem spec_Transfer.den (k : Nat) (a0 : Int) (a1_0 : Int) (a1_1 : Int) (a1_2 : Int) (a1_3 : List T_impl_Grant) (a1_4 : List T_impl_Flow) (a1_5 : List T_impl_Rule) (a1_6 : List T_impl_Op) (a1_7 : Int) (a2_0 : Int) (a2_1 : Int) (a2_2 : Int) (a2_3 : Int) (a2_4 : Int) (a3 : Int) (a4 : Int) : Code.den ti (spec_Transfer.Γ k) (spec_Transfer.LH k) (bodyOf Try.f52) (finK ti Try.f52.results.toList [(10, [none, none, none, some 4, some 5, some 6, some 7, none])] (flags spec_Transfer.sig).length (rwI (flags spec_Transfer.sig) 0) spec_Transfer.out) ⟨envOf (([.v (.int .i64 a0), .agg [.int .i64 a1_0, .int .i64 a1_1, .int .i64 a1_2, .sl 0, .sl 1, .sl 2, .sl 3, .int .i64 a1_7], .agg [.int .i64 a2_0, .int .i64 a2_1, .int .i64 a2_2, .int .i64 a2_3, .int .i64 a2_4], .v (.int .i64 a3), .v (.int .i64 a4)]).zipIdx.map fun q => (q.2, q.1)), hpOf [.rows 4 false a1_3, .rows 5 false a1_4, .rows 6 false a1_5, .rows 7 false a1_6], (flags spec_Transfer.sig).length⟩ = spec_Transfer.f k a0 a1_0 a1_1 a1_2 a1_3 a1_4 a1_5 a1_6 a1_7 a2_0 a2_1 a2_2 a2_3 a2_4 a3 a4 := by kernel_rfl
theorem spec_Transfer.ok (k : Nat) : CSound Try.prog 52 (spec_Transfer.C k) :=
  csound κ_ok mixed tok (spec_Transfer.hΓ k) (LH := spec_Transfer.LH k) (fn := Try.f52) (c := bodyOf Try.f52) Try.func52 rfl Try.call52 spec_Transfer.sig [(10, [none, none, none, some 4, some 5, some 6, some 7, none])] (spec_Transfer.body k) (by kernel_rfl) (spec_Transfer.lok k) (by decide) fun vs bs lf y hl hb hy => by
    unfold spec_Transfer.body at hb
    split at hb
    · obtain ⟨_, rfl, hb_1⟩ := asO_bind hb
      obtain ⟨_, rfl, hb_2⟩ := asO_bind hb_1
      obtain ⟨_, rfl, hb_3⟩ := asO_bind hb_2
      obtain ⟨_, rfl, hb_4⟩ := asO_bind hb_3
      obtain rfl := Option.some.inj hb_4
      exact ⟨spec_Transfer.out, spec_Transfer.out_ok, (spec_Transfer.den k _ _ _ _ _ _ _ _ _ _ _ _ _ _ _ _).trans hy⟩
    · cases hb
end Go.Proofs.Ytghflohdmnaopaa.PFnExactTransfer
