/- What the functions that the law FnExactSealPackage reaches come to; no conditions. -/
import Derived.Test.YtghflohdmnaopaaPFnExactSealPackage3
set_option linter.unusedVariables false
set_option maxRecDepth 100000
namespace Go.Proofs.Ytghflohdmnaopaa.PFnExactSealPackage
open Go Go.Eng Go.Proofs
/-! ### impl_bit -/
def impl_bit.f (k : Nat) (a0 : Bool) : Option Int :=
  (bif a0 then some (1 : Int) else some (0 : Int))
def impl_bit.Γ (k : Nat) : Ct κ := assoc []
def impl_bit.LH (k : Nat) : Nat → Option (LHi κ) := assoc []
theorem impl_bit.hΓ (k : Nat) : ∀ f g, impl_bit.Γ k f = some g → CSound Try.prog f g := G_nil
theorem impl_bit.lok (k : Nat) : LOK ti (impl_bit.Γ k) (impl_bit.LH k) 0 (loopsOf (bodyOf Try.f77)) :=
  (show loopsOf (bodyOf Try.f77) = [] by kernel_rfl) ▸ LOK_nil
def impl_bit.sig : List PSh := [.one .sc]
def impl_bit.g (y : Int) : Ret κ := ⟨.v (.int .i64 y), [], []⟩
def impl_bit.out (r : Ret κ) : Option Int :=
  match r with
  | ⟨.v (.int .i64 z0), [], []⟩ => some (z0)
  | _ => none
theorem impl_bit.out_ok (r : Ret κ) (y : Int) (h : impl_bit.out r = some y) : r = impl_bit.g y := by
  unfold impl_bit.out at h
  split at h
  · obtain rfl := Option.some.inj h
    rfl
  · cases h
def impl_bit.body (k : Nat) (vs : List AV) (bs : List (Blk κ)) : Option (Lf κ) :=
  match vs, bs with
  | [.v (.bool a0)], [] => some ⟨Int, impl_bit.f k a0, impl_bit.g⟩
  | _, _ => none
def impl_bit.C (k : Nat) : Nat → List AV → AP κ AV := contract impl_bit.sig (impl_bit.body k)
theorem impl_bit.den (k : Nat) (a0 : Bool) : Code.den ti (impl_bit.Γ k) (impl_bit.LH k) (bodyOf Try.f77) (finK ti Try.f77.results.toList [] (flags impl_bit.sig).length (rwI (flags impl_bit.sig) 0) impl_bit.out) ⟨envOf (([.v (.bool a0)]).zipIdx.map fun q => (q.2, q.1)), hpOf [], (flags impl_bit.sig).length⟩ = impl_bit.f k a0 := by kernel_rfl
theorem impl_bit.ok (k : Nat) : CSound Try.prog 77 (impl_bit.C k) :=
  csound κ_ok mixed tok (impl_bit.hΓ k) (LH := impl_bit.LH k) (fn := Try.f77) (c := bodyOf Try.f77) Try.func77 rfl Try.call77 impl_bit.sig [] (impl_bit.body k) (by kernel_rfl) (impl_bit.lok k) (by decide) fun vs bs lf y hl hb hy => by
    unfold impl_bit.body at hb
    split at hb
    · obtain rfl := Option.some.inj hb
      exact ⟨impl_bit.out, impl_bit.out_ok, (impl_bit.den k _).trans hy⟩
    · cases hb
/-! ### impl_PackageInts -/
def impl_PackageInts.L5 {R : Type} (k : Nat) (x3 : Int) (xl0 : List T_impl_Grant) (xl1 : List T_impl_Flow) (xl2 : List T_impl_Rule) (xl3 : List T_impl_Op) (xc4_0 : Int) (xc4_1 : Int) (xc4_2 : Int) (xc4_7 : Int) (X0 : List Int → Option R) (rec : Int → List Int → Option R) (x4 : Int) (xl5 : List Int) : Option R :=
  (bif decide (x4 < x3) then (bif decide (0 ≤ x4) then (bif decide (x4 < (xl0.length : Int)) then (impl_bit.f k ((rd_impl_Grant xl0 x4).f5)).bind fun t2 => (bif decide ((xl5.length + ([(rd_impl_Grant xl0 x4).f1.f0, (rd_impl_Grant xl0 x4).f1.f1, (rd_impl_Grant xl0 x4).f2, (rd_impl_Grant xl0 x4).f3, (rd_impl_Grant xl0 x4).f4, t2] : List Int).length) * 8 ≤ cap48) then (let l3 : List Int := (xl5 ++ ([(rd_impl_Grant xl0 x4).f1.f0, (rd_impl_Grant xl0 x4).f1.f1, (rd_impl_Grant xl0 x4).f2, (rd_impl_Grant xl0 x4).f3, (rd_impl_Grant xl0 x4).f4, t2] : List Int)); (rec (w64 (x4 + (1 : Int))) l3)) else none) else none) else none) else (X0 xl5))
def impl_PackageInts.l5 {R : Type} (k : Nat) (x3 : Int) (xl0 : List T_impl_Grant) (xl1 : List T_impl_Flow) (xl2 : List T_impl_Rule) (xl3 : List T_impl_Op) (xc4_0 : Int) (xc4_1 : Int) (xc4_2 : Int) (xc4_7 : Int) (X0 : List Int → Option R) : Nat → Int → List Int → Option R
  | 0 => fun _ _ => none
  | n + 1 => impl_PackageInts.L5 k x3 xl0 xl1 xl2 xl3 xc4_0 xc4_1 xc4_2 xc4_7 X0 (impl_PackageInts.l5 k x3 xl0 xl1 xl2 xl3 xc4_0 xc4_1 xc4_2 xc4_7 X0 n)
def impl_PackageInts.L11 {R : Type} (k : Nat) (x3 : Int) (xl0 : List T_impl_Grant) (xl1 : List T_impl_Flow) (xl2 : List T_impl_Rule) (xl3 : List T_impl_Op) (xc4_0 : Int) (xc4_1 : Int) (xc4_2 : Int) (xc4_7 : Int) (X0 : List Int → Option R) (rec : Int → List Int → Option R) (x4 : Int) (xl5 : List Int) : Option R :=
  (bif decide (x4 < x3) then (bif decide (0 ≤ x4) then (bif decide (x4 < (xl1.length : Int)) then (bif decide ((xl5.length + ([(rd_impl_Flow xl1 x4).f1, (rd_impl_Flow xl1 x4).f2] : List Int).length) * 8 ≤ cap48) then (let l5 : List Int := (xl5 ++ ([(rd_impl_Flow xl1 x4).f1, (rd_impl_Flow xl1 x4).f2] : List Int)); (rec (w64 (x4 + (1 : Int))) l5)) else none) else none) else none) else (X0 xl5))
def impl_PackageInts.l11 {R : Type} (k : Nat) (x3 : Int) (xl0 : List T_impl_Grant) (xl1 : List T_impl_Flow) (xl2 : List T_impl_Rule) (xl3 : List T_impl_Op) (xc4_0 : Int) (xc4_1 : Int) (xc4_2 : Int) (xc4_7 : Int) (X0 : List Int → Option R) : Nat → Int → List Int → Option R
  | 0 => fun _ _ => none
  | n + 1 => impl_PackageInts.L11 k x3 xl0 xl1 xl2 xl3 xc4_0 xc4_1 xc4_2 xc4_7 X0 (impl_PackageInts.l11 k x3 xl0 xl1 xl2 xl3 xc4_0 xc4_1 xc4_2 xc4_7 X0 n)
def impl_PackageInts.L17 {R : Type} (k : Nat) (x3 : Int) (xl0 : List T_impl_Grant) (xl1 : List T_impl_Flow) (xl2 : List T_impl_Rule) (xl3 : List T_impl_Op) (xc4_0 : Int) (xc4_1 : Int) (xc4_2 : Int) (xc4_7 : Int) (X0 : List Int → Option R) (rec : Int → List Int → Option R) (x4 : Int) (xl5 : List Int) : Option R :=
  (bif decide (x4 < x3) then (bif decide (0 ≤ x4) then (bif decide (x4 < (xl2.length : Int)) then (bif decide ((xl5.length + ([(rd_impl_Rule xl2 x4).f1, (rd_impl_Rule xl2 x4).f2.f0, (rd_impl_Rule xl2 x4).f2.f1, (rd_impl_Rule xl2 x4).f3, (rd_impl_Rule xl2 x4).f4, (rd_impl_Rule xl2 x4).f5.f0, (rd_impl_Rule xl2 x4).f5.f1] : List Int).length) * 8 ≤ cap48) then (let l7 : List Int := (xl5 ++ ([(rd_impl_Rule xl2 x4).f1, (rd_impl_Rule xl2 x4).f2.f0, (rd_impl_Rule xl2 x4).f2.f1, (rd_impl_Rule xl2 x4).f3, (rd_impl_Rule xl2 x4).f4, (rd_impl_Rule xl2 x4).f5.f0, (rd_impl_Rule xl2 x4).f5.f1] : List Int)); (rec (w64 (x4 + (1 : Int))) l7)) else none) else none) else none) else (X0 xl5))
def impl_PackageInts.l17 {R : Type} (k : Nat) (x3 : Int) (xl0 : List T_impl_Grant) (xl1 : List T_impl_Flow) (xl2 : List T_impl_Rule) (xl3 : List T_impl_Op) (xc4_0 : Int) (xc4_1 : Int) (xc4_2 : Int) (xc4_7 : Int) (X0 : List Int → Option R) : Nat → Int → List Int → Option R
  | 0 => fun _ _ => none
  | n + 1 => impl_PackageInts.L17 k x3 xl0 xl1 xl2 xl3 xc4_0 xc4_1 xc4_2 xc4_7 X0 (impl_PackageInts.l17 k x3 xl0 xl1 xl2 xl3 xc4_0 xc4_1 xc4_2 xc4_7 X0 n)
def impl_PackageInts.L23 {R : Type} (k : Nat) (x2 : Int) (xl0 : List T_impl_Grant) (xl1 : List T_impl_Flow) (xl2 : List T_impl_Rule) (xl3 : List T_impl_Op) (X0 : List Int → Option R) (rec : Int → List Int → Option R) (x3 : Int) (xl4 : List Int) : Option R :=
  (bif decide (x3 < x2) then (bif decide (0 ≤ x3) then (bif decide (x3 < (xl3.length : Int)) then (bif decide ((xl4.length + ([(rd_impl_Op xl3 x3).f0, (rd_impl_Op xl3 x3).f1, (rd_impl_Op xl3 x3).f2, (rd_impl_Op xl3 x3).f3] : List Int).length) * 8 ≤ cap48) then (let l9 : List Int := (xl4 ++ ([(rd_impl_Op xl3 x3).f0, (rd_impl_Op xl3 x3).f1, (rd_impl_Op xl3 x3).f2, (rd_impl_Op xl3 x3).f3] : List Int)); (rec (w64 (x3 + (1 : Int))) l9)) else none) else none) else none) else (X0 xl4))
def impl_PackageInts.l23 {R : Type} (k : Nat) (x2 : Int) (xl0 : List T_impl_Grant) (xl1 : List T_impl_Flow) (xl2 : List T_impl_Rule) (xl3 : List T_impl_Op) (X0 : List Int → Option R) : Nat → Int → List Int → Option R
  | 0 => fun _ _ => none
  | n + 1 => impl_PackageInts.L23 k x2 xl0 xl1 xl2 xl3 X0 (impl_PackageInts.l23 k x2 xl0 xl1 xl2 xl3 X0 n)
def impl_PackageInts.f (k : Nat) (a0_0 : Int) (a0_1 : Int) (a0_2 : Int) (a0_3 : List T_impl_Grant) (a0_4 : List T_impl_Flow) (a0_5 : List T_impl_Rule) (a0_6 : List T_impl_Op) (a0_7 : Int) : Option (List Int) :=
  (impl_IsPackage.f k a0_0 a0_1 a0_2 a0_3 a0_4 a0_5 a0_6 a0_7).bind fun t1 => (bif !t1 then some ([] : List Int) else (impl_PackageInts.l5 k (a0_3.length : Int) a0_3 a0_4 a0_5 a0_6 a0_0 a0_1 a0_2 a0_7 (fun (y4 : List Int) => (bif decide ((y4.length + ([(a0_4.length : Int)] : List Int).length) * 8 ≤ cap48) then (impl_PackageInts.l11 k (a0_4.length : Int) a0_3 a0_4 a0_5 a0_6 a0_0 a0_1 a0_2 a0_7 (fun (y6 : List Int) => (bif decide ((y6.length + ([(a0_5.length : Int)] : List Int).length) * 8 ≤ cap48) then (impl_PackageInts.l17 k (a0_5.length : Int) a0_3 a0_4 a0_5 a0_6 a0_0 a0_1 a0_2 a0_7 (fun (y8 : List Int) => (bif decide ((y8.length + ([(a0_6.length : Int)] : List Int).length) * 8 ≤ cap48) then (impl_PackageInts.l23 k (a0_6.length : Int) a0_3 a0_4 a0_5 a0_6 (fun (y10 : List Int) => some y10) k (0 : Int) (y8 ++ ([(a0_6.length : Int)] : List Int))) else none)) k (0 : Int) (y6 ++ ([(a0_5.length : Int)] : List Int))) else none)) k (0 : Int) (y4 ++ ([(a0_4.length : Int)] : List Int))) else none)) k (0 : Int) ([a0_0, a0_1, a0_2, (a0_3.length : Int)] : List Int)))
def impl_PackageInts.h5 (k : Nat) {R : Type} (K : Ex → St κ → Option R) (vs : List AV) (bs : List (Blk κ)) : Option R :=
  match vs, bs with
  | [.v (.ptr 4 0 0), .v (.sl 5), .v (.sl 0), .v (.int .i64 x3), .v (.int .i64 x4)], [qb0, qb1, qb2, qb3, .cells 35 [.int .i64 xc4_0, .int .i64 xc4_1, .int .i64 xc4_2, .sl 0, .sl 1, .sl 2, .sl 3, .int .i64 xc4_7], qb5] => (asO 4 false qb0).bind fun xl0 => (asO 5 false qb1).bind fun xl1 => (asO 6 false qb2).bind fun xl2 => (asO 7 false qb3).bind fun xl3 => (asO 8 true qb5).bind fun xl5 => impl_PackageInts.l5 k x3 xl0 xl1 xl2 xl3 xc4_0 xc4_1 xc4_2 xc4_7 (fun (zl5 : List Int) => K (.exit 0) (stOf [(1, [none, none, none, some 4, some 5, some 6, some 7, none]), (3, [some 8])] [.v (.ptr 4 0 0), .v (.sl 5)] [.rows 4 false xl0, .rows 5 false xl1, .rows 6 false xl2, .rows 7 false xl3, .cells 35 [.int .i64 xc4_0, .int .i64 xc4_1, .int .i64 xc4_2, .sl 0, .sl 1, .sl 2, .sl 3, .int .i64 xc4_7], .rows 8 true zl5])) k x4 xl5
  | _, _ => none
def impl_PackageInts.h11 (k : Nat) {R : Type} (K : Ex → St κ → Option R) (vs : List AV) (bs : List (Blk κ)) : Option R :=
  match vs, bs with
  | [.v (.ptr 4 0 0), .v (.sl 5), .v (.sl 1), .v (.int .i64 x3), .v (.int .i64 x4)], [qb0, qb1, qb2, qb3, .cells 35 [.int .i64 xc4_0, .int .i64 xc4_1, .int .i64 xc4_2, .sl 0, .sl 1, .sl 2, .sl 3, .int .i64 xc4_7], qb5] => (asO 4 false qb0).bind fun xl0 => (asO 5 false qb1).bind fun xl1 => (asO 6 false qb2).bind fun xl2 => (asO 7 false qb3).bind fun xl3 => (asO 8 true qb5).bind fun xl5 => impl_PackageInts.l11 k x3 xl0 xl1 xl2 xl3 xc4_0 xc4_1 xc4_2 xc4_7 (fun (zl5 : List Int) => K (.exit 2) (stOf [(1, [none, none, none, some 4, some 5, some 6, some 7, none]), (3, [some 8])] [.v (.ptr 4 0 0), .v (.sl 5)] [.rows 4 false xl0, .rows 5 false xl1, .rows 6 false xl2, .rows 7 false xl3, .cells 35 [.int .i64 xc4_0, .int .i64 xc4_1, .int .i64 xc4_2, .sl 0, .sl 1, .sl 2, .sl 3, .int .i64 xc4_7], .rows 8 true zl5])) k x4 xl5
  | _, _ => none
def impl_PackageInts.h17 (k : Nat) {R : Type} (K : Ex → St κ → Option R) (vs : List AV) (bs : List (Blk κ)) : Option R :=
  match vs, bs with
  | [.v (.ptr 4 0 0), .v (.sl 5), .v (.sl 2), .v (.int .i64 x3), .v (.int .i64 x4)], [qb0, qb1, qb2, qb3, .cells 35 [.int .i64 xc4_0, .int .i64 xc4_1, .int .i64 xc4_2, .sl 0, .sl 1, .sl 2, .sl 3, .int .i64 xc4_7], qb5] => (asO 4 false qb0).bind fun xl0 => (asO 5 false qb1).bind fun xl1 => (asO 6 false qb2).bind fun xl2 => (asO 7 false qb3).bind fun xl3 => (asO 8 true qb5).bind fun xl5 => impl_PackageInts.l17 k x3 xl0 xl1 xl2 xl3 xc4_0 xc4_1 xc4_2 xc4_7 (fun (zl5 : List Int) => K (.exit 4) (stOf [(1, [none, none, none, some 4, some 5, some 6, some 7, none]), (3, [some 8])] [.v (.ptr 4 0 0), .v (.sl 5)] [.rows 4 false xl0, .rows 5 false xl1, .rows 6 false xl2, .rows 7 false xl3, .cells 35 [.int .i64 xc4_0, .int .i64 xc4_1, .int .i64 xc4_2, .sl 0, .sl 1, .sl 2, .sl 3, .int .i64 xc4_7], .rows 8 true zl5])) k x4 xl5
  | _, _ => none
def impl_PackageInts.h23 (k : Nat) {R : Type} (K : Ex → St κ → Option R) (vs : List AV) (bs : List (Blk κ)) : Option R :=
  match vs, bs with
  | [.v (.sl 4), .v (.sl 3), .v (.int .i64 x2), .v (.int .i64 x3)], [qb0, qb1, qb2, qb3, qb4] => (asO 4 false qb0).bind fun xl0 => (asO 5 false qb1).bind fun xl1 => (asO 6 false qb2).bind fun xl2 => (asO 7 false qb3).bind fun xl3 => (asO 8 true qb4).bind fun xl4 => impl_PackageInts.l23 k x2 xl0 xl1 xl2 xl3 (fun (zl4 : List Int) => K (.exit 6) (stOf [(3, [some 8])] [.v (.sl 4)] [.rows 4 false xl0, .rows 5 false xl1, .rows 6 false xl2, .rows 7 false xl3, .rows 8 true zl4])) k x3 xl4
  | _, _ => none
def impl_PackageInts.Γ (k : Nat) : Ct κ := assoc [(19, impl_IsPackage.C k), (77, impl_bit.C k)]
def impl_PackageInts.LH (k : Nat) : Nat → Option (LHi κ) := assoc [(5, ⟨4, [(1, [none, none, none, some 4, some 5, some 6, some 7, none]), (3, [some 8]), (27, [some 4]), (28, []), (29, [])], [(1, [none, none, none, some 4, some 5, some 6, some 7, none]), (3, [some 8])], @impl_PackageInts.h5 k⟩), (11, ⟨4, [(1, [none, none, none, some 4, some 5, some 6, some 7, none]), (3, [some 8]), (59, [some 5]), (60, []), (61, [])], [(1, [none, none, none, some 4, some 5, some 6, some 7, none]), (3, [some 8])], @impl_PackageInts.h11 k⟩), (17, ⟨4, [(1, [none, none, none, some 4, some 5, some 6, some 7, none]), (3, [some 8]), (80, [some 6]), (81, []), (82, [])], [(1, [none, none, none, some 4, some 5, some 6, some 7, none]), (3, [some 8])], @impl_PackageInts.h17 k⟩), (23, ⟨4, [(3, [some 8]), (115, [some 7]), (116, []), (117, [])], [(3, [some 8])], @impl_PackageInts.h23 k⟩)]
theorem impl_PackageInts.hΓ (k : Nat) : ∀ f g, impl_PackageInts.Γ k f = some g → CSound Try.prog f g := G_cons (impl_IsPackage.ok k) (G_cons (impl_bit.ok k) G_nil)
theorem impl_PackageInts.e5 {R : Type} (K : Ex → St κ → Option R) (k : Nat) (x3 : Int) (xl0 : List T_impl_Grant) (xl1 : List T_impl_Flow) (xl2 : List T_impl_Rule) (xl3 : List T_impl_Op) (xc4_0 : Int) (xc4_1 : Int) (xc4_2 : Int) (xc4_7 : Int) : ∀ (n : Nat) (x4 : Int) (xl5 : List Int), loopN 4 (Code.den ti (impl_PackageInts.Γ k) (impl_PackageInts.LH k) (loopAt Try.f21 0)) [(1, [none, none, none, some 4, some 5, some 6, some 7, none]), (3, [some 8]), (27, [some 4]), (28, []), (29, [])] [(1, [none, none, none, some 4, some 5, some 6, some 7, none]), (3, [some 8])] K n [.v (.ptr 4 0 0), .v (.sl 5), .v (.sl 0), .v (.int .i64 x3), .v (.int .i64 x4)] [.rows 4 false xl0, .rows 5 false xl1, .rows 6 false xl2, .rows 7 false xl3, .cells 35 [.int .i64 xc4_0, .int .i64 xc4_1, .int .i64 xc4_2, .sl 0, .sl 1, .sl 2, .sl 3, .int .i64 xc4_7], .rows 8 true xl5] = impl_PackageInts.l5 k x3 xl0 xl1 xl2 xl3 xc4_0 xc4_1 xc4_2 xc4_7 (fun (zl5 : List Int) => K (.exit 0) (stOf [(1, [none, none, none, some 4, some 5, some 6, some 7, none]), (3, [some 8])] [.v (.ptr 4 0 0), .v (.sl 5)] [.rows 4 false xl0, .rows 5 false xl1, .rows 6 false xl2, .rows 7 false xl3, .cells 35 [.int .i64 xc4_0, .int .i64 xc4_1, .int .i64 xc4_2, .sl 0, .sl 1, .sl 2, .sl 3, .int .i64 xc4_7], .rows 8 true zl5])) n x4 xl5
  | 0, _, _ => rfl
  | n + 1, x4, xl5 => (show loopN 4 (Code.den ti (impl_PackageInts.Γ k) (impl_PackageInts.LH k) (loopAt Try.f21 0)) [(1, [none, none, none, some 4, some 5, some 6, some 7, none]), (3, [some 8]), (27, [some 4]), (28, []), (29, [])] [(1, [none, none, none, some 4, some 5, some 6, some 7, none]), (3, [some 8])] K (n + 1) [.v (.ptr 4 0 0), .v (.sl 5), .v (.sl 0), .v (.int .i64 x3), .v (.int .i64 x4)] [.rows 4 false xl0, .rows 5 false xl1, .rows 6 false xl2, .rows 7 false xl3, .cells 35 [.int .i64 xc4_0, .int .i64 xc4_1, .int .i64 xc4_2, .sl 0, .sl 1, .sl 2, .sl 3, .int .i64 xc4_7], .rows 8 true xl5] = impl_PackageInts.L5 k x3 xl0 xl1 xl2 xl3 xc4_0 xc4_1 xc4_2 xc4_7 (fun (zl5 : List Int) => K (.exit 0) (stOf [(1, [none, none, none, some 4, some 5, some 6, some 7, none]), (3, [some 8])] [.v (.ptr 4 0 0), .v (.sl 5)] [.rows 4 false xl0, .rows 5 false xl1, .rows 6 false xl2, .rows 7 false xl3, .cells 35 [.int .i64 xc4_0, .int .i64 xc4_1, .int .i64 xc4_2, .sl 0, .sl 1, .sl 2, .sl 3, .int .i64 xc4_7], .rows 8 true zl5])) (fun (x4' : Int) (xl5' : List Int) => loopN 4 (Code.den ti (impl_PackageInts.Γ k) (impl_PackageInts.LH k) (loopAt Try.f21 0)) [(1, [none, none, none, some 4, some 5, some 6, some 7, none]), (3, [some 8]), (27, [some 4]), (28, []), (29, [])] [(1, [none, none, none, some 4, some 5, some 6, some 7, none]), (3, [some 8])] K n [.v (.ptr 4 0 0), .v (.sl 5), .v (.sl 0), .v (.int .i64 x3), .v (.int .i64 x4')] [.rows 4 false xl0, .rows 5 false xl1, .rows 6 false xl2, .rows 7 false xl3, .cells 35 [.int .i64 xc4_0, .int .i64 xc4_1, .int .i64 xc4_2, .sl 0, .sl 1, .sl 2, .sl 3, .int .i64 xc4_7], .rows 8 true xl5']) x4 xl5 by kernel_rfl).trans (congrArg (fun rec => impl_PackageInts.L5 k x3 xl0 xl1 xl2 xl3 xc4_0 xc4_1 xc4_2 xc4_7 (fun (zl5 : List Int) => K (.exit 0) (stOf [(1, [none, none, none, some 4, some 5, some 6, some 7, none]), (3, [some 8])] [.v (.ptr 4 0 0), .v (.sl 5)] [.rows 4 false xl0, .rows 5 false xl1, .rows 6 false xl2, .rows 7 false xl3, .cells 35 [.int .i64 xc4_0, .int .i64 xc4_1, .int .i64 xc4_2, .sl 0, .sl 1, .sl 2, .sl 3, .int .i64 xc4_7], .rows 8 true zl5])) rec x4 xl5) (funext fun x4' => funext fun xl5' => impl_PackageInts.e5 K k x3 xl0 xl1 xl2 xl3 xc4_0 xc4_1 xc4_2 xc4_7 n x4' xl5'))
theorem impl_PackageInts.q5 (k : Nat) {R : Type} (K : Ex → St κ → Option R) (vs : List AV) (bs : List (Blk κ)) (r : R) (h : impl_PackageInts.h5 k K vs bs = some r) : ∃ n, loopN 4 (Code.den ti (impl_PackageInts.Γ k) (impl_PackageInts.LH k) (loopAt Try.f21 0)) [(1, [none, none, none, some 4, some 5, some 6, some 7, none]), (3, [some 8]), (27, [some 4]), (28, []), (29, [])] [(1, [none, none, none, some 4, some 5, some 6, some 7, none]), (3, [some 8])] K n vs bs = some r := by
  unfold impl_PackageInts.h5 at h
  split at h
  · obtain ⟨_, rfl, h_1⟩ := asO_bind h
    obtain ⟨_, rfl, h_2⟩ := asO_bind h_1
    obtain ⟨_, rfl, h_3⟩ := asO_bind h_2
    obtain ⟨_, rfl, h_4⟩ := asO_bind h_3
    obtain ⟨_, rfl, h_5⟩ := asO_bind h_4
    exact ⟨k, (impl_PackageInts.e5 K k _ _ _ _ _ _ _ _ _ k _ _).trans h_5⟩
  · cases h
theorem impl_PackageInts.e11 {R : Type} (K : Ex → St κ → Option R) (k : Nat) (x3 : Int) (xl0 : List T_impl_Grant) (xl1 : List T_impl_Flow) (xl2 : List T_impl_Rule) (xl3 : List T_impl_Op) (xc4_0 : Int) (xc4_1 : Int) (xc4_2 : Int) (xc4_7 : Int) : ∀ (n : Nat) (x4 : Int) (xl5 : List Int), loopN 4 (Code.den ti (impl_PackageInts.Γ k) (impl_PackageInts.LH k) (loopAt Try.f21 1)) [(1, [none, none, none, some 4, some 5, some 6, some 7, none]), (3, [some 8]), (59, [some 5]), (60, []), (61, [])] [(1, [none, none, none, some 4, some 5, some 6, some 7, none]), (3, [some 8])] K n [.v (.ptr 4 0 0), .v (.sl 5), .v (.sl 1), .v (.int .i64 x3), .v (.int .i64 x4)] [.rows 4 false xl0, .rows 5 false xl1, .rows 6 false xl2, .rows 7 false xl3, .cells 35 [.int .i64 xc4_0, .int .i64 xc4_1, .int .i64 xc4_2, .sl 0, .sl 1, .sl 2, .sl 3, .int .i64 xc4_7], .rows 8 true xl5] = impl_PackageInts.l11 k x3 xl0 xl1 xl2 xl3 xc4_0 xc4_1 xc4_2 xc4_7 (fun (zl5 : List Int) => K (.exit 2) (stOf [(1, [none, none, none, some 4, some 5, some 6, some 7, none]), (3, [some 8])] [.v (.ptr 4 0 0), .v (.sl 5)] [.rows 4 false xl0, .rows 5 false xl1, .rows 6 false xl2, .rows 7 false xl3, .cells 35 [.int .i64 xc4_0, .int .i64 xc4_1, .int .i64 xc4_2, .sl 0, .sl 1, .sl 2, .sl 3, .int .i64 xc4_7], .rows 8 true zl5])) n x4 xl5
  | 0, _, _ => rfl
  | n + 1, x4, xl5 => (show loopN 4 (Code.den ti (impl_PackageInts.Γ k) (impl_PackageInts.LH k) (loopAt Try.f21 1)) [(1, [none, none, none, some 4, some 5, some 6, some 7, none]), (3, [some 8]), (59, [some 5]), (60, []), (61, [])] [(1, [none, none, none, some 4, some 5, some 6, some 7, none]), (3, [some 8])] K (n + 1) [.v (.ptr 4 0 0), .v (.sl 5), .v (.sl 1), .v (.int .i64 x3), .v (.int .i64 x4)] [.rows 4 false xl0, .rows 5 false xl1, .rows 6 false xl2, .rows 7 false xl3, .cells 35 [.int .i64 xc4_0, .int .i64 xc4_1, .int .i64 xc4_2, .sl 0, .sl 1, .sl 2, .sl 3, .int .i64 xc4_7], .rows 8 true xl5] = impl_PackageInts.L11 k x3 xl0 xl1 xl2 xl3 xc4_0 xc4_1 xc4_2 xc4_7 (fun (zl5 : List Int) => K (.exit 2) (stOf [(1, [none, none, none, some 4, some 5, some 6, some 7, none]), (3, [some 8])] [.v (.ptr 4 0 0), .v (.sl 5)] [.rows 4 false xl0, .rows 5 false xl1, .rows 6 false xl2, .rows 7 false xl3, .cells 35 [.int .i64 xc4_0, .int .i64 xc4_1, .int .i64 xc4_2, .sl 0, .sl 1, .sl 2, .sl 3, .int .i64 xc4_7], .rows 8 true zl5])) (fun (x4' : Int) (xl5' : List Int) => loopN 4 (Code.den ti (impl_PackageInts.Γ k) (impl_PackageInts.LH k) (loopAt Try.f21 1)) [(1, [none, none, none, some 4, some 5, some 6, some 7, none]), (3, [some 8]), (59, [some 5]), (60, []), (61, [])] [(1, [none, none, none, some 4, some 5, some 6, some 7, none]), (3, [some 8])] K n [.v (.ptr 4 0 0), .v (.sl 5), .v (.sl 1), .v (.int .i64 x3), .v (.int .i64 x4')] [.rows 4 false xl0, .rows 5 false xl1, .rows 6 false xl2, .rows 7 false xl3, .cells 35 [.int .i64 xc4_0, .int .i64 xc4_1, .int .i64 xc4_2, .sl 0, .sl 1, .sl 2, .sl 3, .int .i64 xc4_7], .rows 8 true xl5']) x4 xl5 by kernel_rfl).trans (congrArg (fun rec => impl_PackageInts.L11 k x3 xl0 xl1 xl2 xl3 xc4_0 xc4_1 xc4_2 xc4_7 (fun (zl5 : List Int) => K (.exit 2) (stOf [(1, [none, none, none, some 4, some 5, some 6, some 7, none]), (3, [some 8])] [.v (.ptr 4 0 0), .v (.sl 5)] [.rows 4 false xl0, .rows 5 false xl1, .rows 6 false xl2, .rows 7 false xl3, .cells 35 [.int .i64 xc4_0, .int .i64 xc4_1, .int .i64 xc4_2, .sl 0, .sl 1, .sl 2, .sl 3, .int .i64 xc4_7], .rows 8 true zl5])) rec x4 xl5) (funext fun x4' => funext fun xl5' => impl_PackageInts.e11 K k x3 xl0 xl1 xl2 xl3 xc4_0 xc4_1 xc4_2 xc4_7 n x4' xl5'))
theorem impl_PackageInts.q11 (k : Nat) {R : Type} (K : Ex → St κ → Option R) (vs : List AV) (bs : List (Blk κ)) (r : R) (h : impl_PackageInts.h11 k K vs bs = some r) : ∃ n, loopN 4 (Code.den ti (impl_PackageInts.Γ k) (impl_PackageInts.LH k) (loopAt Try.f21 1)) [(1, [none, none, none, some 4, some 5, some 6, some 7, none]), (3, [some 8]), (59, [some 5]), (60, []), (61, [])] [(1, [none, none, none, some 4, some 5, some 6, some 7, none]), (3, [some 8])] K n vs bs = some r := by
  unfold impl_PackageInts.h11 at h
  split at h
  · obtain ⟨_, rfl, h_1⟩ := asO_bind h
    obtain ⟨_, rfl, h_2⟩ := asO_bind h_1
    obtain ⟨_, rfl, h_3⟩ := asO_bind h_2
    obtain ⟨_, rfl, h_4⟩ := asO_bind h_3
    obtain ⟨_, rfl, h_5⟩ := asO_bind h_4
    exact ⟨k, (impl_PackageInts.e11 K k _ _ _ _ _ _ _ _ _ k _ _).trans h_5⟩
  · cases h
theorem impl_PackageInts.e17 {R : Type} (K : Ex → St κ → Option R) (k : Nat) (x3 : Int) (xl0 : List T_impl_Grant) (xl1 : List T_impl_Flow) (xl2 : List T_impl_Rule) (xl3 : List T_impl_Op) (xc4_0 : Int) (xc4_1 : Int) (xc4_2 : Int) (xc4_7 : Int) : ∀ (n : Nat) (x4 : Int) (xl5 : List Int), loopN 4 (Code.den ti (impl_PackageInts.Γ k) (impl_PackageInts.LH k) (loopAt Try.f21 2)) [(1, [none, none, none, some 4, some 5, some 6, some 7, none]), (3, [some 8]), (80, [some 6]), (81, []), (82, [])] [(1, [none, none, none, some 4, some 5, some 6, some 7, none]), (3, [some 8])] K n [.v (.ptr 4 0 0), .v (.sl 5), .v (.sl 2), .v (.int .i64 x3), .v (.int .i64 x4)] [.rows 4 false xl0, .rows 5 false xl1, .rows 6 false xl2, .rows 7 false xl3, .cells 35 [.int .i64 xc4_0, .int .i64 xc4_1, .int .i64 xc4_2, .sl 0, .sl 1, .sl 2, .sl 3, .int .i64 xc4_7], .rows 8 true xl5] = impl_PackageInts.l17 k x3 xl0 xl1 xl2 xl3 xc4_0 xc4_1 xc4_2 xc4_7 (fun (zl5 : List Int) => K (.exit 4) (stOf [(1, [none, none, none, some 4, some 5, some 6, some 7, none]), (3, [some 8])] [.v (.ptr 4 0 0), .v (.sl 5)] [.rows 4 false xl0, .rows 5 false xl1, .rows 6 false xl2, .rows 7 false xl3, .cells 35 [.int .i64 xc4_0, .int .i64 xc4_1, .int .i64 xc4_2, .sl 0, .sl 1, .sl 2, .sl 3, .int .i64 xc4_7], .rows 8 true zl5])) n x4 xl5
  | 0, _, _ => rfl
  | n + 1, x4, xl5 => (show loopN 4 (Code.den ti (impl_PackageInts.Γ k) (impl_PackageInts.LH k) (loopAt Try.f21 2)) [(1, [none, none, none, some 4, some 5, some 6, some 7, none]), (3, [some 8]), (80, [some 6]), (81, []), (82, [])] [(1, [none, none, none, some 4, some 5, some 6, some 7, none]), (3, [some 8])] K (n + 1) [.v (.ptr 4 0 0), .v (.sl 5), .v (.sl 2), .v (.int .i64 x3), .v (.int .i64 x4)] [.rows 4 false xl0, .rows 5 false xl1, .rows 6 false xl2, .rows 7 false xl3, .cells 35 [.int .i64 xc4_0, .int .i64 xc4_1, .int .i64 xc4_2, .sl 0, .sl 1, .sl 2, .sl 3, .int .i64 xc4_7], .rows 8 true xl5] = impl_PackageInts.L17 k x3 xl0 xl1 xl2 xl3 xc4_0 xc4_1 xc4_2 xc4_7 (fun (zl5 : List Int) => K (.exit 4) (stOf [(1, [none, none, none, some 4, some 5, some 6, some 7, none]), (3, [some 8])] [.v (.ptr 4 0 0), .v (.sl 5)] [.rows 4 false xl0, .rows 5 false xl1, .rows 6 false xl2, .rows 7 false xl3, .cells 35 [.int .i64 xc4_0, .int .i64 xc4_1, .int .i64 xc4_2, .sl 0, .sl 1, .sl 2, .sl 3, .int .i64 xc4_7], .rows 8 true zl5])) (fun (x4' : Int) (xl5' : List Int) => loopN 4 (Code.den ti (impl_PackageInts.Γ k) (impl_PackageInts.LH k) (loopAt Try.f21 2)) [(1, [none, none, none, some 4, some 5, some 6, some 7, none]), (3, [some 8]), (80, [some 6]), (81, []), (82, [])] [(1, [none, none, none, some 4, some 5, some 6, some 7, none]), (3, [some 8])] K n [.v (.ptr 4 0 0), .v (.sl 5), .v (.sl 2), .v (.int .i64 x3), .v (.int .i64 x4')] [.rows 4 false xl0, .rows 5 false xl1, .rows 6 false xl2, .rows 7 false xl3, .cells 35 [.int .i64 xc4_0, .int .i64 xc4_1, .int .i64 xc4_2, .sl 0, .sl 1, .sl 2, .sl 3, .int .i64 xc4_7], .rows 8 true xl5']) x4 xl5 by kernel_rfl).trans (congrArg (fun rec => impl_PackageInts.L17 k x3 xl0 xl1 xl2 xl3 xc4_0 xc4_1 xc4_2 xc4_7 (fun (zl5 : List Int) => K (.exit 4) (stOf [(1, [none, none, none, some 4, some 5, some 6, some 7, none]), (3, [some 8])] [.v (.ptr 4 0 0), .v (.sl 5)] [.rows 4 false xl0, .rows 5 false xl1, .rows 6 false xl2, .rows 7 false xl3, .cells 35 [.int .i64 xc4_0, .int .i64 xc4_1, .int .i64 xc4_2, .sl 0, .sl 1, .sl 2, .sl 3, .int .i64 xc4_7], .rows 8 true zl5])) rec x4 xl5) (funext fun x4' => funext fun xl5' => impl_PackageInts.e17 K k x3 xl0 xl1 xl2 xl3 xc4_0 xc4_1 xc4_2 xc4_7 n x4' xl5'))
theorem impl_PackageInts.q17 (k : Nat) {R : Type} (K : Ex → St κ → Option R) (vs : List AV) (bs : List (Blk κ)) (r : R) (h : impl_PackageInts.h17 k K vs bs = some r) : ∃ n, loopN 4 (Code.den ti (impl_PackageInts.Γ k) (impl_PackageInts.LH k) (loopAt Try.f21 2)) [(1, [none, none, none, some 4, some 5, some 6, some 7, none]), (3, [some 8]), (80, [some 6]), (81, []), (82, [])] [(1, [none, none, none, some 4, some 5, some 6, some 7, none]), (3, [some 8])] K n vs bs = some r := by
  unfold impl_PackageInts.h17 at h
  split at h
  · obtain ⟨_, rfl, h_1⟩ := asO_bind h
    obtain ⟨_, rfl, h_2⟩ := asO_bind h_1
    obtain ⟨_, rfl, h_3⟩ := asO_bind h_2
    obtain ⟨_, rfl, h_4⟩ := asO_bind h_3
    obtain ⟨_, rfl, h_5⟩ := asO_bind h_4
    exact ⟨k, (impl_PackageInts.e17 K k _ _ _ _ _ _ _ _ _ k _ _).trans h_5⟩
  · cases h
theorem impl_PackageInts.e23 {R : Type} (K : Ex → St κ → Option R) (k : Nat) (x2 : Int) (xl0 : List T_impl_Grant) (xl1 : List T_impl_Flow) (xl2 : List T_impl_Rule) (xl3 : List T_impl_Op) : ∀ (n : Nat) (x3 : Int) (xl4 : List Int), loopN 4 (Code.den ti (impl_PackageInts.Γ k) (impl_PackageInts.LH k) (loopAt Try.f21 3)) [(3, [some 8]), (115, [some 7]), (116, []), (117, [])] [(3, [some 8])] K n [.v (.sl 4), .v (.sl 3), .v (.int .i64 x2), .v (.int .i64 x3)] [.rows 4 false xl0, .rows 5 false xl1, .rows 6 false xl2, .rows 7 false xl3, .rows 8 true xl4] = impl_PackageInts.l23 k x2 xl0 xl1 xl2 xl3 (fun (zl4 : List Int) => K (.exit 6) (stOf [(3, [some 8])] [.v (.sl 4)] [.rows 4 false xl0, .rows 5 false xl1, .rows 6 false xl2, .rows 7 false xl3, .rows 8 true zl4])) n x3 xl4
  | 0, _, _ => rfl
  | n + 1, x3, xl4 => (show loopN 4 (Code.den ti (impl_PackageInts.Γ k) (impl_PackageInts.LH k) (loopAt Try.f21 3)) [(3, [some 8]), (115, [some 7]), (116, []), (117, [])] [(3, [some 8])] K (n + 1) [.v (.sl 4), .v (.sl 3), .v (.int .i64 x2), .v (.int .i64 x3)] [.rows 4 false xl0, .rows 5 false xl1, .rows 6 false xl2, .rows 7 false xl3, .rows 8 true xl4] = impl_PackageInts.L23 k x2 xl0 xl1 xl2 xl3 (fun (zl4 : List Int) => K (.exit 6) (stOf [(3, [some 8])] [.v (.sl 4)] [.rows 4 false xl0, .rows 5 false xl1, .rows 6 false xl2, .rows 7 false xl3, .rows 8 true zl4])) (fun (x3' : Int) (xl4' : List Int) => loopN 4 (Code.den ti (impl_PackageInts.Γ k) (impl_PackageInts.LH k) (loopAt Try.f21 3)) [(3, [some 8]), (115, [some 7]), (116, []), (117, [])] [(3, [some 8])] K n [.v (.sl 4), .v (.sl 3), .v (.int .i64 x2), .v (.int .i64 x3')] [.rows 4 false xl0, .rows 5 false xl1, .rows 6 false xl2, .rows 7 false xl3, .rows 8 true xl4']) x3 xl4 by kernel_rfl).trans (congrArg (fun rec => impl_PackageInts.L23 k x2 xl0 xl1 xl2 xl3 (fun (zl4 : List Int) => K (.exit 6) (stOf [(3, [some 8])] [.v (.sl 4)] [.rows 4 false xl0, .rows 5 false xl1, .rows 6 false xl2, .rows 7 false xl3, .rows 8 true zl4])) rec x3 xl4) (funext fun x3' => funext fun xl4' => impl_PackageInts.e23 K k x2 xl0 xl1 xl2 xl3 n x3' xl4'))
theorem impl_PackageInts.q23 (k : Nat) {R : Type} (K : Ex → St κ → Option R) (vs : List AV) (bs : List (Blk κ)) (r : R) (h : impl_PackageInts.h23 k K vs bs = some r) : ∃ n, loopN 4 (Code.den ti (impl_PackageInts.Γ k) (impl_PackageInts.LH k) (loopAt Try.f21 3)) [(3, [some 8]), (115, [some 7]), (116, []), (117, [])] [(3, [some 8])] K n vs bs = some r := by
  unfold impl_PackageInts.h23 at h
  split at h
  · obtain ⟨_, rfl, h_1⟩ := asO_bind h
    obtain ⟨_, rfl, h_2⟩ := asO_bind h_1
    obtain ⟨_, rfl, h_3⟩ := asO_bind h_2
    obtain ⟨_, rfl, h_4⟩ := asO_bind h_3
    obtain ⟨_, rfl, h_5⟩ := asO_bind h_4
    exact ⟨k, (impl_PackageInts.e23 K k _ _ _ _ _ k _ _).trans h_5⟩
  · cases h
theorem impl_PackageInts.lok (k : Nat) : LOK ti (impl_PackageInts.Γ k) (impl_PackageInts.LH k) 4 (loopsOf (bodyOf Try.f21)) :=
  (show loopsOf (bodyOf Try.f21) = [loopAt Try.f21 0, loopAt Try.f21 1, loopAt Try.f21 2, loopAt Try.f21 3] by kernel_rfl) ▸ (LOK_cons (g := ⟨4, [(1, [none, none, none, some 4, some 5, some 6, some 7, none]), (3, [some 8]), (27, [some 4]), (28, []), (29, [])], [(1, [none, none, none, some 4, some 5, some 6, some 7, none]), (3, [some 8])], @impl_PackageInts.h5 k⟩) (by kernel_rfl) rfl (fun K vs xs r h => impl_PackageInts.q5 k K vs xs r h) (LOK_cons (g := ⟨4, [(1, [none, none, none, some 4, some 5, some 6, some 7, none]), (3, [some 8]), (59, [some 5]), (60, []), (61, [])], [(1, [none, none, none, some 4, some 5, some 6, some 7, none]), (3, [some 8])], @impl_PackageInts.h11 k⟩) (by kernel_rfl) rfl (fun K vs xs r h => impl_PackageInts.q11 k K vs xs r h) (LOK_cons (g := ⟨4, [(1, [none, none, none, some 4, some 5, some 6, some 7, none]), (3, [some 8]), (80, [some 6]), (81, []), (82, [])], [(1, [none, none, none, some 4, some 5, some 6, some 7, none]), (3, [some 8])], @impl_PackageInts.h17 k⟩) (by kernel_rfl) rfl (fun K vs xs r h => impl_PackageInts.q17 k K vs xs r h) (LOK_cons (g := ⟨4, [(3, [some 8]), (115, [some 7]), (116, []), (117, [])], [(3, [some 8])], @impl_PackageInts.h23 k⟩) (by kernel_rfl) rfl (fun K vs xs r h => impl_PackageInts.q23 k K vs xs r h) (LOK_nil)))))
def impl_PackageInts.sig : List PSh := [.agg [.sc, .sc, .sc, .ro 4, .ro 5, .ro 6, .ro 7, .sc]]
def impl_PackageInts.g (y : List Int) : Ret κ := ⟨.v (.sl 4), [], [.rows 8 true y]⟩
def impl_PackageInts.out (r : Ret κ) : Option (List Int) :=
  match r with
  | ⟨.v (.sl 4), [], [q0]⟩ => (asO 8 true q0).bind fun z0 => some (z0)
  | _ => none
theorem impl_PackageInts.out_ok (r : Ret κ) (y : List Int) (h : impl_PackageInts.out r = some y) : r = impl_PackageInts.g y := by
  unfold impl_PackageInts.out at h
  split at h
  · obtain ⟨_, rfl, h_1⟩ := asO_bind h
    obtain rfl := Option.some.inj h_1
    rfl
  · cases h
def impl_PackageInts.body (k : Nat) (vs : List AV) (bs : List (Blk κ)) : Option (Lf κ) :=
  match vs, bs with
  | [.agg [.int .i64 a0_0, .int .i64 a0_1, .int .i64 a0_2, .sl 0, .sl 1, .sl 2, .sl 3, .int .i64 a0_7]], [qb0, qb1, qb2, qb3] => (asO 4 false qb0).bind fun a0_3 => (asO 5 false qb1).bind fun a0_4 => (asO 6 false qb2).bind fun a0_5 => (asO 7 false qb3).bind fun a0_6 => some ⟨List Int, impl_PackageInts.f k a0_0 a0_1 a0_2 a0_3 a0_4 a0_5 a0_6 a0_7, impl_PackageInts.g⟩
  | _, _ => none
def impl_PackageInts.C (k : Nat) : Nat → List AV → AP κ AV := contract impl_PackageInts.sig (impl_PackageInts.body k)
theorem impl_PackageInts.den (k : Nat) (a0_0 : Int) (a0_1 : Int) (a0_2 : Int) (a0_3 : List T_impl_Grant) (a0_4 : List T_impl_Flow) (a0_5 : List T_impl_Rule) (a0_6 : List T_impl_Op) (a0_7 : Int) : Code.den ti (impl_PackageInts.Γ k) (impl_PackageInts.LH k) (bodyOf Try.f21) (finK ti Try.f21.results.toList [(2, [some 8])] (flags impl_PackageInts.sig).length (rwI (flags impl_PackageInts.sig) 0) impl_PackageInts.out) ⟨envOf (([.agg [.int .i64 a0_0, .int .i64 a0_1, .int .i64 a0_2, .sl 0, .sl 1, .sl 2, .sl 3, .int .i64 a0_7]]).zipIdx.map fun q => (q.2, q.1)), hpOf [.rows 4 false a0_3, .rows 5 false a0_4, .rows 6 false a0_5, .rows 7 false a0_6], (flags impl_PackageInts.sig).length⟩ = impl_PackageInts.f k a0_0 a0_1 a0_2 a0_3 a0_4 a0_5 a0_6 a0_7 := by kernel_rfl
theorem impl_PackageInts.ok (k : Nat) : CSound Try.prog 21 (impl_PackageInts.C k) :=
  csound κ_ok mixed tok (impl_PackageInts.hΓ k) (LH := impl_PackageInts.LH k) (fn := Try.f21) (c := bodyOf Try.f21) Try.func21 rfl Try.call21 impl_PackageInts.sig [(2, [some 8])] (impl_PackageInts.body k) (by kernel_rfl) (impl_PackageInts.lok k) (by decide) fun vs bs lf y hl hb hy => by
    unfold impl_PackageInts.body at hb
    split at hb
    · obtain ⟨_, rfl, hb_1⟩ := asO_bind hb
      obtain ⟨_, rfl, hb_2⟩ := asO_bind hb_1
      obtain ⟨_, rfl, hb_3⟩ := asO_bind hb_2
      obtain ⟨_, rfl, hb_4⟩ := asO_bind hb_3
      obtain rfl := Option.some.inj hb_4
      exact ⟨impl_PackageInts.out, impl_PackageInts.out_ok, (impl_PackageInts.den k _ _ _ _ _ _ _ _).trans hy⟩
    · cases hb
/-! ### impl_Mod -/
def impl_Mod.f (k : Nat) (a0 : Int) (a1 : Int) : Option Int :=
  (impl_InRange.f k a1 (1 : Int) (1000000000000 : Int)).bind fun t1 => (bif !t1 then some (0 : Int) else (bif decide (a1 = 0) then none else (bif decide ((a0.tmod a1) < (0 : Int)) then some (w64 ((a0.tmod a1) + a1)) else some (a0.tmod a1))))
def impl_Mod.Γ (k : Nat) : Ct κ := assoc [(72, impl_InRange.C k)]
def impl_Mod.LH (k : Nat) : Nat → Option (LHi κ) := assoc []
theorem impl_Mod.hΓ (k : Nat) : ∀ f g, impl_Mod.Γ k f = some g → CSound Try.prog f g := G_cons (impl_InRange.ok k) G_nil
theorem impl_Mod.lok (k : Nat) : LOK ti (impl_Mod.Γ k) (impl_Mod.LH k) 0 (loopsOf (bodyOf Try.f151)) :=
  (show loopsOf (bodyOf Try.f151) = [] by kernel_rfl) ▸ LOK_nil
def impl_Mod.sig : List PSh := [.one .sc, .one .sc]
def impl_Mod.g (y : Int) : Ret κ := ⟨.v (.int .i64 y), [], []⟩
def impl_Mod.out (r : Ret κ) : Option Int :=
  match r with
  | ⟨.v (.int .i64 z0), [], []⟩ => some (z0)
  | _ => none
theorem impl_Mod.out_ok (r : Ret κ) (y : Int) (h : impl_Mod.out r = some y) : r = impl_Mod.g y := by
  unfold impl_Mod.out at h
  split at h
  · obtain rfl := Option.some.inj h
    rfl
  · cases h
def impl_Mod.body (k : Nat) (vs : List AV) (bs : List (Blk κ)) : Option (Lf κ) :=
  match vs, bs with
  | [.v (.int .i64 a0), .v (.int .i64 a1)], [] => some ⟨Int, impl_Mod.f k a0 a1, impl_Mod.g⟩
  | _, _ => none
def impl_Mod.C (k : Nat) : Nat → List AV → AP κ AV := contract impl_Mod.sig (impl_Mod.body k)
theorem impl_Mod.den (k : Nat) (a0 : Int) (a1 : Int) : Code.den ti (impl_Mod.Γ k) (impl_Mod.LH k) (bodyOf Try.f151) (finK ti Try.f151.results.toList [] (flags impl_Mod.sig).length (rwI (flags impl_Mod.sig) 0) impl_Mod.out) ⟨envOf (([.v (.int .i64 a0), .v (.int .i64 a1)]).zipIdx.map fun q => (q.2, q.1)), hpOf [], (flags impl_Mod.sig).length⟩ = impl_Mod.f k a0 a1 := by kernel_rfl
theorem impl_Mod.ok (k : Nat) : CSound Try.prog 151 (impl_Mod.C k) :=
  csound κ_ok mixed tok (impl_Mod.hΓ k) (LH := impl_Mod.LH k) (fn := Try.f151) (c := bodyOf Try.f151) Try.func151 rfl Try.call151 impl_Mod.sig [] (impl_Mod.body k) (by kernel_rfl) (impl_Mod.lok k) (by decide) fun vs bs lf y hl hb hy => by
    unfold impl_Mod.body at hb
    split at hb
    · obtain rfl := Option.some.inj hb
      exact ⟨impl_Mod.out, impl_Mod.out_ok, (impl_Mod.den k _ _).trans hy⟩
    · cases hb
/-! ### impl_fold -/
def impl_fold.f (k : Nat) (a0 : Int) (a1 : Int) : Option Int :=
  (impl_Mod.f k a1 (2147483647 : Int)).bind fun t1 => some ((w64 ((w64 ((w64 (a0 * (1000003 : Int))) + t1)) + (13 : Int))).tmod (2147483647 : Int))
def impl_fold.Γ (k : Nat) : Ct κ := assoc [(151, impl_Mod.C k)]
def impl_fold.LH (k : Nat) : Nat → Option (LHi κ) := assoc []
theorem impl_fold.hΓ (k : Nat) : ∀ f g, impl_fold.Γ k f = some g → CSound Try.prog f g := G_cons (impl_Mod.ok k) G_nil
theorem impl_fold.lok (k : Nat) : LOK ti (impl_fold.Γ k) (impl_fold.LH k) 0 (loopsOf (bodyOf Try.f142)) :=
  (show loopsOf (bodyOf Try.f142) = [] by kernel_rfl) ▸ LOK_nil
def impl_fold.sig : List PSh := [.one .sc, .one .sc]
def impl_fold.g (y : Int) : Ret κ := ⟨.v (.int .i64 y), [], []⟩
def impl_fold.out (r : Ret κ) : Option Int :=
  match r with
  | ⟨.v (.int .i64 z0), [], []⟩ => some (z0)
  | _ => none
theorem impl_fold.out_ok (r : Ret κ) (y : Int) (h : impl_fold.out r = some y) : r = impl_fold.g y := by
  unfold impl_fold.out at h
  split at h
  · obtain rfl := Option.some.inj h
    rfl
  · cases h
def impl_fold.body (k : Nat) (vs : List AV) (bs : List (Blk κ)) : Option (Lf κ) :=
  match vs, bs with
  | [.v (.int .i64 a0), .v (.int .i64 a1)], [] => some ⟨Int, impl_fold.f k a0 a1, impl_fold.g⟩
  | _, _ => none
def impl_fold.C (k : Nat) : Nat → List AV → AP κ AV := contract impl_fold.sig (impl_fold.body k)
theorem impl_fold.den (k : Nat) (a0 : Int) (a1 : Int) : Code.den ti (impl_fold.Γ k) (impl_fold.LH k) (bodyOf Try.f142) (finK ti Try.f142.results.toList [] (flags impl_fold.sig).length (rwI (flags impl_fold.sig) 0) impl_fold.out) ⟨envOf (([.v (.int .i64 a0), .v (.int .i64 a1)]).zipIdx.map fun q => (q.2, q.1)), hpOf [], (flags impl_fold.sig).length⟩ = impl_fold.f k a0 a1 := by kernel_rfl
theorem impl_fold.ok (k : Nat) : CSound Try.prog 142 (impl_fold.C k) :=
  csound κ_ok mixed tok (impl_fold.hΓ k) (LH := impl_fold.LH k) (fn := Try.f142) (c := bodyOf Try.f142) Try.func142 rfl Try.call142 impl_fold.sig [] (impl_fold.body k) (by kernel_rfl) (impl_fold.lok k) (by decide) fun vs bs lf y hl hb hy => by
    unfold impl_fold.body at hb
    split at hb
    · obtain rfl := Option.some.inj hb
      exact ⟨impl_fold.out, impl_fold.out_ok, (impl_fold.den k _ _).trans hy⟩
    · cases hb
/-! ### impl_KeyedHash -/
def impl_KeyedHash.L3 {R : Type} (k : Nat) (x0 : Int) (x3 : Int) (xl0 : List Int) (X0 : Int → Option R) (rec : Int → Int → Option R) (x1 : Int) (x4 : Int) : Option R :=
  (bif decide (x4 < x3) then (bif decide (0 ≤ x4) then (bif decide (x4 < (xl0.length : Int)) then (impl_fold.f k x1 (rd_i64 xl0 x4)).bind fun t2 => (rec t2 (w64 (x4 + (1 : Int)))) else none) else none) else (X0 x1))
def impl_KeyedHash.l3 {R : Type} (k : Nat) (x0 : Int) (x3 : Int) (xl0 : List Int) (X0 : Int → Option R) : Nat → Int → Int → Option R
  | 0 => fun _ _ => none
  | n + 1 => impl_KeyedHash.L3 k x0 x3 xl0 X0 (impl_KeyedHash.l3 k x0 x3 xl0 X0 n)
def impl_KeyedHash.f (k : Nat) (a0 : Int) (a1 : List Int) : Option Int :=
  (impl_fold.f k (11 : Int) a0).bind fun t1 => (impl_KeyedHash.l3 k a0 (a1.length : Int) a1 (fun (y3 : Int) => (impl_fold.f k y3 a0).bind fun t4 => some t4) k t1 (0 : Int))
def impl_KeyedHash.h3 (k : Nat) {R : Type} (K : Ex → St κ → Option R) (vs : List AV) (bs : List (Blk κ)) : Option R :=
  match vs, bs with
  | [.v (.int .i64 x0), .v (.int .i64 x1), .v (.sl 0), .v (.int .i64 x3), .v (.int .i64 x4)], [qb0] => (asO 8 false qb0).bind fun xl0 => impl_KeyedHash.l3 k x0 x3 xl0 (fun (z1 : Int) => K (.exit 0) (stOf [(0, []), (5, [])] [.v (.int .i64 x0), .v (.int .i64 z1)] [.rows 8 false xl0])) k x1 x4
  | _, _ => none
def impl_KeyedHash.Γ (k : Nat) : Ct κ := assoc [(142, impl_fold.C k)]
def impl_KeyedHash.LH (k : Nat) : Nat → Option (LHi κ) := assoc [(3, ⟨1, [(0, []), (5, []), (10, [some 8]), (11, []), (12, [])], [(0, []), (5, [])], @impl_KeyedHash.h3 k⟩)]
theorem impl_KeyedHash.hΓ (k : Nat) : ∀ f g, impl_KeyedHash.Γ k f = some g → CSound Try.prog f g := G_cons (impl_fold.ok k) G_nil
theorem impl_KeyedHash.e3 {R : Type} (K : Ex → St κ → Option R) (k : Nat) (x0 : Int) (x3 : Int) (xl0 : List Int) : ∀ (n : Nat) (x1 : Int) (x4 : Int), loopN 1 (Code.den ti (impl_KeyedHash.Γ k) (impl_KeyedHash.LH k) (loopAt Try.f113 0)) [(0, []), (5, []), (10, [some 8]), (11, []), (12, [])] [(0, []), (5, [])] K n [.v (.int .i64 x0), .v (.int .i64 x1), .v (.sl 0), .v (.int .i64 x3), .v (.int .i64 x4)] [.rows 8 false xl0] = impl_KeyedHash.l3 k x0 x3 xl0 (fun (z1 : Int) => K (.exit 0) (stOf [(0, []), (5, [])] [.v (.int .i64 x0), .v (.int .i64 z1)] [.rows 8 false xl0])) n x1 x4
  | 0, _, _ => rfl
  | n + 1, x1, x4 => (show loopN 1 (Code.den ti (impl_KeyedHash.Γ k) (impl_KeyedHash.LH k) (loopAt Try.f113 0)) [(0, []), (5, []), (10, [some 8]), (11, []), (12, [])] [(0, []), (5, [])] K (n + 1) [.v (.int .i64 x0), .v (.int .i64 x1), .v (.sl 0), .v (.int .i64 x3), .v (.int .i64 x4)] [.rows 8 false xl0] = impl_KeyedHash.L3 k x0 x3 xl0 (fun (z1 : Int) => K (.exit 0) (stOf [(0, []), (5, [])] [.v (.int .i64 x0), .v (.int .i64 z1)] [.rows 8 false xl0])) (fun (x1' : Int) (x4' : Int) => loopN 1 (Code.den ti (impl_KeyedHash.Γ k) (impl_KeyedHash.LH k) (loopAt Try.f113 0)) [(0, []), (5, []), (10, [some 8]), (11, []), (12, [])] [(0, []), (5, [])] K n [.v (.int .i64 x0), .v (.int .i64 x1'), .v (.sl 0), .v (.int .i64 x3), .v (.int .i64 x4')] [.rows 8 false xl0]) x1 x4 by kernel_rfl).trans (congrArg (fun rec => impl_KeyedHash.L3 k x0 x3 xl0 (fun (z1 : Int) => K (.exit 0) (stOf [(0, []), (5, [])] [.v (.int .i64 x0), .v (.int .i64 z1)] [.rows 8 false xl0])) rec x1 x4) (funext fun x1' => funext fun x4' => impl_KeyedHash.e3 K k x0 x3 xl0 n x1' x4'))
theorem impl_KeyedHash.q3 (k : Nat) {R : Type} (K : Ex → St κ → Option R) (vs : List AV) (bs : List (Blk κ)) (r : R) (h : impl_KeyedHash.h3 k K vs bs = some r) : ∃ n, loopN 1 (Code.den ti (impl_KeyedHash.Γ k) (impl_KeyedHash.LH k) (loopAt Try.f113 0)) [(0, []), (5, []), (10, [some 8]), (11, []), (12, [])] [(0, []), (5, [])] K n vs bs = some r := by
  unfold impl_KeyedHash.h3 at h
  split at h
  · obtain ⟨_, rfl, h_1⟩ := asO_bind h
    exact ⟨k, (impl_KeyedHash.e3 K k _ _ _ k _ _).trans h_1⟩
  · cases h
theorem impl_KeyedHash.lok (k : Nat) : LOK ti (impl_KeyedHash.Γ k) (impl_KeyedHash.LH k) 1 (loopsOf (bodyOf Try.f113)) :=
  (show loopsOf (bodyOf Try.f113) = [loopAt Try.f113 0] by kernel_rfl) ▸ (LOK_cons (g := ⟨1, [(0, []), (5, []), (10, [some 8]), (11, []), (12, [])], [(0, []), (5, [])], @impl_KeyedHash.h3 k⟩) (by kernel_rfl) rfl (fun K vs xs r h => impl_KeyedHash.q3 k K vs xs r h) (LOK_nil))
def impl_KeyedHash.sig : List PSh := [.one .sc, .one (.ro 8)]
def impl_KeyedHash.g (y : Int) : Ret κ := ⟨.v (.int .i64 y), [], []⟩
def impl_KeyedHash.out (r : Ret κ) : Option Int :=
  match r with
  | ⟨.v (.int .i64 z0), [], []⟩ => some (z0)
  | _ => none
theorem impl_KeyedHash.out_ok (r : Ret κ) (y : Int) (h : impl_KeyedHash.out r = some y) : r = impl_KeyedHash.g y := by
  unfold impl_KeyedHash.out at h
  split at h
  · obtain rfl := Option.some.inj h
    rfl
  · cases h
def impl_KeyedHash.body (k : Nat) (vs : List AV) (bs : List (Blk κ)) : Option (Lf κ) :=
  match vs, bs with
  | [.v (.int .i64 a0), .v (.sl 0)], [qb0] => (asO 8 false qb0).bind fun a1 => some ⟨Int, impl_KeyedHash.f k a0 a1, impl_KeyedHash.g⟩
  | _, _ => none
def impl_KeyedHash.C (k : Nat) : Nat → List AV → AP κ AV := contract impl_KeyedHash.sig (impl_KeyedHash.body k)
theorem impl_KeyedHash.den (k : Nat) (a0 : Int) (a1 : List Int) : Code.den ti (impl_KeyedHash.Γ k) (impl_KeyedHash.LH k) (bodyOf Try.f113) (finK ti Try.f113.results.toList [] (flags impl_KeyedHash.sig).length (rwI (flags impl_KeyedHash.sig) 0) impl_KeyedHash.out) ⟨envOf (([.v (.int .i64 a0), .v (.sl 0)]).zipIdx.map fun q => (q.2, q.1)), hpOf [.rows 8 false a1], (flags impl_KeyedHash.sig).length⟩ = impl_KeyedHash.f k a0 a1 := by kernel_rfl
theorem impl_KeyedHash.ok (k : Nat) : CSound Try.prog 113 (impl_KeyedHash.C k) :=
  csound κ_ok mixed tok (impl_KeyedHash.hΓ k) (LH := impl_KeyedHash.LH k) (fn := Try.f113) (c := bodyOf Try.f113) Try.func113 rfl Try.call113 impl_KeyedHash.sig [] (impl_KeyedHash.body k) (by kernel_rfl) (impl_KeyedHash.lok k) (by decide) fun vs bs lf y hl hb hy => by
    unfold impl_KeyedHash.body at hb
    split at hb
    · obtain ⟨_, rfl, hb_1⟩ := asO_bind hb
      obtain rfl := Option.some.inj hb_1
      exact ⟨impl_KeyedHash.out, impl_KeyedHash.out_ok, (impl_KeyedHash.den k _ _).trans hy⟩
    · cases hb
/-! ### impl_sealOf -/
def impl_sealOf.f (k : Nat) (a0 : Int) (a1_0 : Int) (a1_1 : Int) (a1_2 : Int) (a1_3 : List T_impl_Grant) (a1_4 : List T_impl_Flow) (a1_5 : List T_impl_Rule) (a1_6 : List T_impl_Op) (a1_7 : Int) : Option Int :=
  (impl_IsValidKey.f k a0).bind fun t1 => (bif !t1 then some (0 : Int) else (impl_IsPackage.f k a1_0 a1_1 a1_2 a1_3 a1_4 a1_5 a1_6 a1_7).bind fun t2 => (bif !t2 then some (0 : Int) else (impl_PackageInts.f k a1_0 a1_1 a1_2 a1_3 a1_4 a1_5 a1_6 a1_7).bind fun t3 => (impl_KeyedHash.f k a0 t3).bind fun t4 => some t4))
def impl_sealOf.Γ (k : Nat) : Ct κ := assoc [(20, impl_IsValidKey.C k), (19, impl_IsPackage.C k), (21, impl_PackageInts.C k), (113, impl_KeyedHash.C k)]
def impl_sealOf.LH (k : Nat) : Nat → Option (LHi κ) := assoc []
theorem impl_sealOf.hΓ (k : Nat) : ∀ f g, impl_sealOf.Γ k f = some g → CSound Try.prog f g := G_cons (impl_IsValidKey.ok k) (G_cons (impl_IsPackage.ok k) (G_cons (impl_PackageInts.ok k) (G_cons (impl_KeyedHash.ok k) G_nil)))
theorem impl_sealOf.lok (k : Nat) : LOK ti (impl_sealOf.Γ k) (impl_sealOf.LH k) 4 (loopsOf (bodyOf Try.f64)) :=
  (show loopsOf (bodyOf Try.f64) = [] by kernel_rfl) ▸ LOK_nil
def impl_sealOf.sig : List PSh := [.one .sc, .agg [.sc, .sc, .sc, .ro 4, .ro 5, .ro 6, .ro 7, .sc]]
def impl_sealOf.g (y : Int) : Ret κ := ⟨.v (.int .i64 y), [], []⟩
def impl_sealOf.out (r : Ret κ) : Option Int :=
  match r with
  | ⟨.v (.int .i64 z0), [], []⟩ => some (z0)
  | _ => none
theorem impl_sealOf.out_ok (r : Ret κ) (y : Int) (h : impl_sealOf.out r = some y) : r = impl_sealOf.g y := by
  unfold impl_sealOf.out at h
  split at h
  · obtain rfl := Option.some.inj h
    rfl
  · cases h
def impl_sealOf.body (k : Nat) (vs : List AV) (bs : List (Blk κ)) : Option (Lf κ) :=
  match vs, bs with
  | [.v (.int .i64 a0), .agg [.int .i64 a1_0, .int .i64 a1_1, .int .i64 a1_2, .sl 0, .sl 1, .sl 2, .sl 3, .int .i64 a1_7]], [qb0, qb1, qb2, qb3] => (asO 4 false qb0).bind fun a1_3 => (asO 5 false qb1).bind fun a1_4 => (asO 6 false qb2).bind fun a1_5 => (asO 7 false qb3).bind fun a1_6 => some ⟨Int, impl_sealOf.f k a0 a1_0 a1_1 a1_2 a1_3 a1_4 a1_5 a1_6 a1_7, impl_sealOf.g⟩
  | _, _ => none
def impl_sealOf.C (k : Nat) : Nat → List AV → AP κ AV := contract impl_sealOf.sig (impl_sealOf.body k)
theorem impl_sealOf.den (k : Nat) (a0 : Int) (a1_0 : Int) (a1_1 : Int) (a1_2 : Int) (a1_3 : List T_impl_Grant) (a1_4 : List T_impl_Flow) (a1_5 : List T_impl_Rule) (a1_6 : List T_impl_Op) (a1_7 : Int) : Code.den ti (impl_sealOf.Γ k) (impl_sealOf.LH k) (bodyOf Try.f64) (finK ti Try.f64.results.toList [] (flags impl_sealOf.sig).length (rwI (flags impl_sealOf.sig) 0) impl_sealOf.out) ⟨envOf (([.v (.int .i64 a0), .agg [.int .i64 a1_0, .int .i64 a1_1, .int .i64 a1_2, .sl 0, .sl 1, .sl 2, .sl 3, .int .i64 a1_7]]).zipIdx.map fun q => (q.2, q.1)), hpOf [.rows 4 false a1_3, .rows 5 false a1_4, .rows 6 false a1_5, .rows 7 false a1_6], (flags impl_sealOf.sig).length⟩ = impl_sealOf.f k a0 a1_0 a1_1 a1_2 a1_3 a1_4 a1_5 a1_6 a1_7 := by kernel_rfl
theorem impl_sealOf.ok (k : Nat) : CSound Try.prog 64 (impl_sealOf.C k) :=
  csound κ_ok mixed tok (impl_sealOf.hΓ k) (LH := impl_sealOf.LH k) (fn := Try.f64) (c := bodyOf Try.f64) Try.func64 rfl Try.call64 impl_sealOf.sig [] (impl_sealOf.body k) (by kernel_rfl) (impl_sealOf.lok k) (by decide) fun vs bs lf y hl hb hy => by
    unfold impl_sealOf.body at hb
    split at hb
    · obtain ⟨_, rfl, hb_1⟩ := asO_bind hb
      obtain ⟨_, rfl, hb_2⟩ := asO_bind hb_1
      obtain ⟨_, rfl, hb_3⟩ := asO_bind hb_2
      obtain ⟨_, rfl, hb_4⟩ := asO_bind hb_3
      obtain rfl := Option.some.inj hb_4
      exact ⟨impl_sealOf.out, impl_sealOf.out_ok, (impl_sealOf.den k _ _ _ _ _ _ _ _ _).trans hy⟩
    · cases hb
/-! ### impl_SealPackage -/
def impl_SealPackage.f (k : Nat) (a0 : Int) (a1_0 : Int) (a1_1 : Int) (a1_2 : Int) (a1_3 : List T_impl_Grant) (a1_4 : List T_impl_Flow) (a1_5 : List T_impl_Rule) (a1_6 : List T_impl_Op) (a1_7 : Int) : Option (Int × Int × Int × Int × List T_impl_Grant × List T_impl_Flow × List T_impl_Rule × List T_impl_Op) :=
  (impl_clonePackage.f k a1_0 a1_1 a1_2 a1_3 a1_4 a1_5 a1_6 a1_7).bind fun t1 => (impl_sealOf.f k a0 a1_0 a1_1 a1_2 a1_3 a1_4 a1_5 a1_6 a1_7).bind fun t2 => some (t1.1, t1.2.1, t1.2.2.1, t2, t1.2.2.2.2.1, t1.2.2.2.2.2.1, t1.2.2.2.2.2.2.1, t1.2.2.2.2.2.2.2)
def impl_SealPackage.Γ (k : Nat) : Ct κ := assoc [(71, impl_clonePackage.C k), (64, impl_sealOf.C k)]
def impl_SealPackage.LH (k : Nat) : Nat → Option (LHi κ) := assoc []
theorem impl_SealPackage.hΓ (k : Nat) : ∀ f g, impl_SealPackage.Γ k f = some g → CSound Try.prog f g := G_cons (impl_clonePackage.ok k) (G_cons (impl_sealOf.ok k) G_nil)
theorem impl_SealPackage.lok (k : Nat) : LOK ti (impl_SealPackage.Γ k) (impl_SealPackage.LH k) 4 (loopsOf (bodyOf Try.f18)) :=
  (show loopsOf (bodyOf Try.f18) = [] by kernel_rfl) ▸ LOK_nil
def impl_SealPackage.sig : List PSh := [.one .sc, .agg [.sc, .sc, .sc, .ro 4, .ro 5, .ro 6, .ro 7, .sc]]
def impl_SealPackage.g (y : Int × Int × Int × Int × List T_impl_Grant × List T_impl_Flow × List T_impl_Rule × List T_impl_Op) : Ret κ := ⟨.agg [.int .i64 y.1, .int .i64 y.2.1, .int .i64 y.2.2.1, .sl 4, .sl 5, .sl 6, .sl 7, .int .i64 y.2.2.2.1], [], [.rows 4 true y.2.2.2.2.1, .rows 5 true y.2.2.2.2.2.1, .rows 6 true y.2.2.2.2.2.2.1, .rows 7 true y.2.2.2.2.2.2.2]⟩
def impl_SealPackage.out (r : Ret κ) : Option (Int × Int × Int × Int × List T_impl_Grant × List T_impl_Flow × List T_impl_Rule × List T_impl_Op) :=
  match r with
  | ⟨.agg [.int .i64 z0, .int .i64 z1, .int .i64 z2, .sl 4, .sl 5, .sl 6, .sl 7, .int .i64 z3], [], [q4, q5, q6, q7]⟩ => (asO 4 true q4).bind fun z4 => (asO 5 true q5).bind fun z5 => (asO 6 true q6).bind fun z6 => (asO 7 true q7).bind fun z7 => some (z0, z1, z2, z3, z4, z5, z6, z7)
  | _ => none
theorem impl_SealPackage.out_ok (r : Ret κ) (y : Int × Int × Int × Int × List T_impl_Grant × List T_impl_Flow × List T_impl_Rule × List T_impl_Op) (h : impl_SealPackage.out r = some y) : r = impl_SealPackage.g y := by
  unfold impl_SealPackage.out at h
  split at h
  · obtain ⟨_, rfl, h_1⟩ := asO_bind h
    obtain ⟨_, rfl, h_2⟩ := asO_bind h_1
    obtain ⟨_, rfl, h_3⟩ := asO_bind h_2
    obtain ⟨_, rfl, h_4⟩ := asO_bind h_3
    obtain rfl := Option.some.inj h_4
    rfl
  · cases h
def impl_SealPackage.body (k : Nat) (vs : List AV) (bs : List (Blk κ)) : Option (Lf κ) :=
  match vs, bs with
  | [.v (.int .i64 a0), .agg [.int .i64 a1_0, .int .i64 a1_1, .int .i64 a1_2, .sl 0, .sl 1, .sl 2, .sl 3, .int .i64 a1_7]], [qb0, qb1, qb2, qb3] => (asO 4 false qb0).bind fun a1_3 => (asO 5 false qb1).bind fun a1_4 => (asO 6 false qb2).bind fun a1_5 => (asO 7 false qb3).bind fun a1_6 => some ⟨Int × Int × Int × Int × List T_impl_Grant × List T_impl_Flow × List T_impl_Rule × List T_impl_Op, impl_SealPackage.f k a0 a1_0 a1_1 a1_2 a1_3 a1_4 a1_5 a1_6 a1_7, impl_SealPackage.g⟩
  | _, _ => none
def impl_SealPackage.C (k : Nat) : Nat → List AV → AP κ AV := contract impl_SealPackage.sig (impl_SealPackage.body k)
theorem impl_SealPackage.den (k : Nat) (a0 : Int) (a1_0 : Int) (a1_1 : Int) (a1_2 : Int) (a1_3 : List T_impl_Grant) (a1_4 : List T_impl_Flow) (a1_5 : List T_impl_Rule) (a1_6 : List T_impl_Op) (a1_7 : Int) : Code.den ti (impl_SealPackage.Γ k) (impl_SealPackage.LH k) (bodyOf Try.f18) (finK ti Try.f18.results.toList [(4, [none, none, none, some 4, some 5, some 6, some 7, none])] (flags impl_SealPackage.sig).length (rwI (flags impl_SealPackage.sig) 0) impl_SealPackage.out) ⟨envOf (([.v (.int .i64 a0), .agg [.int .i64 a1_0, .int .i64 a1_1, .int .i64 a1_2, .sl 0, .sl 1, .sl 2, .sl 3, .int .i64 a1_7]]).zipIdx.map fun q => (q.2, q.1)), hpOf [.rows 4 false a1_3, .rows 5 false a1_4, .rows 6 false a1_5, .rows 7 false a1_6], (flags impl_SealPackage.sig).length⟩ = impl_SealPackage.f k a0 a1_0 a1_1 a1_2 a1_3 a1_4 a1_5 a1_6 a1_7 := by kernel_rfl
theorem impl_SealPackage.ok (k : Nat) : CSound Try.prog 18 (impl_SealPackage.C k) :=
  csound κ_ok mixed tok (impl_SealPackage.hΓ k) (LH := impl_SealPackage.LH k) (fn := Try.f18) (c := bodyOf Try.f18) Try.func18 rfl Try.call18 impl_SealPackage.sig [(4, [none, none, none, some 4, some 5, some 6, some 7, none])] (impl_SealPackage.body k) (by kernel_rfl) (impl_SealPackage.lok k) (by decide) fun vs bs lf y hl hb hy => by
    unfold impl_SealPackage.body at hb
    split at hb
    · obtain ⟨_, rfl, hb_1⟩ := asO_bind hb
      obtain ⟨_, rfl, hb_2⟩ := asO_bind hb_1
      obtain ⟨_, rfl, hb_3⟩ := asO_bind hb_2
      obtain ⟨_, rfl, hb_4⟩ := asO_bind hb_3
      obtain rfl := Option.some.inj hb_4
      exact ⟨impl_SealPackage.out, impl_SealPackage.out_ok, (impl_SealPackage.den k _ _ _ _ _ _ _ _ _).trans hy⟩
    · cases hb
/-! ### laws_eqPattern -/
def laws_eqPattern.f (k : Nat) (a0_0 : Int) (a0_1 : Int) (a1_0 : Int) (a1_1 : Int) : Option Bool :=
  (bif (a0_0 != a1_0) then some false else (bif (a0_1 != a1_1) then some false else some true))
def laws_eqPattern.Γ (k : Nat) : Ct κ := assoc []
def laws_eqPattern.LH (k : Nat) : Nat → Option (LHi κ) := assoc []
theorem laws_eqPattern.hΓ (k : Nat) : ∀ f g, laws_eqPattern.Γ k f = some g → CSound Try.prog f g := G_nil
theorem laws_eqPattern.lok (k : Nat) : LOK ti (laws_eqPattern.Γ k) (laws_eqPattern.LH k) 0 (loopsOf (bodyOf Try.f136)) :=
  (show loopsOf (bodyOf Try.f136) = [] by kernel_rfl) ▸ LOK_nil
def laws_eqPattern.sig : List PSh := [.agg [.sc, .sc], .agg [.sc, .sc]]
def laws_eqPattern.g (y : Bool) : Ret κ := ⟨.v (.bool y), [], []⟩
def laws_eqPattern.out (r : Ret κ) : Option Bool :=
  match r with
  | ⟨.v (.bool z0), [], []⟩ => some (z0)
  | _ => none
theorem laws_eqPattern.out_ok (r : Ret κ) (y : Bool) (h : laws_eqPattern.out r = some y) : r = laws_eqPattern.g y := by
  unfold laws_eqPattern.out at h
  split at h
  · obtain rfl := Option.some.inj h
    rfl
  · cases h
def laws_eqPattern.body (k : Nat) (vs : List AV) (bs : List (Blk κ)) : Option (Lf κ) :=
  match vs, bs with
  | [.agg [.int .i64 a0_0, .int .i64 a0_1], .agg [.int .i64 a1_0, .int .i64 a1_1]], [] => some ⟨Bool, laws_eqPattern.f k a0_0 a0_1 a1_0 a1_1, laws_eqPattern.g⟩
  | _, _ => none
def laws_eqPattern.C (k : Nat) : Nat → List AV → AP κ AV := contract laws_eqPattern.sig (laws_eqPattern.body k)
theorem laws_eqPattern.den (k : Nat) (a0_0 : Int) (a0_1 : Int) (a1_0 : Int) (a1_1 : Int) : Code.den ti (laws_eqPattern.Γ k) (laws_eqPattern.LH k) (bodyOf Try.f136) (finK ti Try.f136.results.toList [] (flags laws_eqPattern.sig).length (rwI (flags laws_eqPattern.sig) 0) laws_eqPattern.out) ⟨envOf (([.agg [.int .i64 a0_0, .int .i64 a0_1], .agg [.int .i64 a1_0, .int .i64 a1_1]]).zipIdx.map fun q => (q.2, q.1)), hpOf [], (flags laws_eqPattern.sig).length⟩ = laws_eqPattern.f k a0_0 a0_1 a1_0 a1_1 := by kernel_rfl
theorem laws_eqPattern.ok (k : Nat) : CSound Try.prog 136 (laws_eqPattern.C k) :=
  csound κ_ok mixed tok (laws_eqPattern.hΓ k) (LH := laws_eqPattern.LH k) (fn := Try.f136) (c := bodyOf Try.f136) Try.func136 rfl Try.call136 laws_eqPattern.sig [] (laws_eqPattern.body k) (by kernel_rfl) (laws_eqPattern.lok k) (by decide) fun vs bs lf y hl hb hy => by
    unfold laws_eqPattern.body at hb
    split at hb
    · obtain rfl := Option.some.inj hb
      exact ⟨laws_eqPattern.out, laws_eqPattern.out_ok, (laws_eqPattern.den k _ _ _ _).trans hy⟩
    · cases hb
/-! ### laws_eqGrant -/
def laws_eqGrant.f (k : Nat) (a0_0 : Int) (a0_1 : Int) (a0_2 : Int) (a0_3 : Int) (a0_4 : Int) (a0_5 : Int) (a0_6 : Bool) (a1_0 : Int) (a1_1 : Int) (a1_2 : Int) (a1_3 : Int) (a1_4 : Int) (a1_5 : Int) (a1_6 : Bool) : Option Bool :=
  (bif (a0_0 != a1_0) then some false else (laws_eqPattern.f k a0_1 a0_2 a1_1 a1_2).bind fun t1 => (bif !t1 then some false else (bif (a0_3 != a1_3) then some false else (bif (a0_4 != a1_4) then some false else (bif (a0_5 != a1_5) then some false else (bif !(a0_6 == a1_6) then some false else some true))))))
def laws_eqGrant.Γ (k : Nat) : Ct κ := assoc [(136, laws_eqPattern.C k)]
def laws_eqGrant.LH (k : Nat) : Nat → Option (LHi κ) := assoc []
theorem laws_eqGrant.hΓ (k : Nat) : ∀ f g, laws_eqGrant.Γ k f = some g → CSound Try.prog f g := G_cons (laws_eqPattern.ok k) G_nil
theorem laws_eqGrant.lok (k : Nat) : LOK ti (laws_eqGrant.Γ k) (laws_eqGrant.LH k) 0 (loopsOf (bodyOf Try.f102)) :=
  (show loopsOf (bodyOf Try.f102) = [] by kernel_rfl) ▸ LOK_nil
def laws_eqGrant.sig : List PSh := [.agg [.sc, .sc, .sc, .sc, .sc, .sc, .sc], .agg [.sc, .sc, .sc, .sc, .sc, .sc, .sc]]
def laws_eqGrant.g (y : Bool) : Ret κ := ⟨.v (.bool y), [], []⟩
def laws_eqGrant.out (r : Ret κ) : Option Bool :=
  match r with
  | ⟨.v (.bool z0), [], []⟩ => some (z0)
  | _ => none
theorem laws_eqGrant.out_ok (r : Ret κ) (y : Bool) (h : laws_eqGrant.out r = some y) : r = laws_eqGrant.g y := by
  unfold laws_eqGrant.out at h
  split at h
  · obtain rfl := Option.some.inj h
    rfl
  · cases h
def laws_eqGrant.body (k : Nat) (vs : List AV) (bs : List (Blk κ)) : Option (Lf κ) :=
  match vs, bs with
  | [.agg [.int .i64 a0_0, .int .i64 a0_1, .int .i64 a0_2, .int .i64 a0_3, .int .i64 a0_4, .int .i64 a0_5, .bool a0_6], .agg [.int .i64 a1_0, .int .i64 a1_1, .int .i64 a1_2, .int .i64 a1_3, .int .i64 a1_4, .int .i64 a1_5, .bool a1_6]], [] => some ⟨Bool, laws_eqGrant.f k a0_0 a0_1 a0_2 a0_3 a0_4 a0_5 a0_6 a1_0 a1_1 a1_2 a1_3 a1_4 a1_5 a1_6, laws_eqGrant.g⟩
  | _, _ => none
def laws_eqGrant.C (k : Nat) : Nat → List AV → AP κ AV := contract laws_eqGrant.sig (laws_eqGrant.body k)
theorem laws_eqGrant.den (k : Nat) (a0_0 : Int) (a0_1 : Int) (a0_2 : Int) (a0_3 : Int) (a0_4 : Int) (a0_5 : Int) (a0_6 : Bool) (a1_0 : Int) (a1_1 : Int) (a1_2 : Int) (a1_3 : Int) (a1_4 : Int) (a1_5 : Int) (a1_6 : Bool) : Code.den ti (laws_eqGrant.Γ k) (laws_eqGrant.LH k) (bodyOf Try.f102) (finK ti Try.f102.results.toList [] (flags laws_eqGrant.sig).length (rwI (flags laws_eqGrant.sig) 0) laws_eqGrant.out) ⟨envOf (([.agg [.int .i64 a0_0, .int .i64 a0_1, .int .i64 a0_2, .int .i64 a0_3, .int .i64 a0_4, .int .i64 a0_5, .bool a0_6], .agg [.int .i64 a1_0, .int .i64 a1_1, .int .i64 a1_2, .int .i64 a1_3, .int .i64 a1_4, .int .i64 a1_5, .bool a1_6]]).zipIdx.map fun q => (q.2, q.1)), hpOf [], (flags laws_eqGrant.sig).length⟩ = laws_eqGrant.f k a0_0 a0_1 a0_2 a0_3 a0_4 a0_5 a0_6 a1_0 a1_1 a1_2 a1_3 a1_4 a1_5 a1_6 := by kernel_rfl
theorem laws_eqGrant.ok (k : Nat) : CSound Try.prog 102 (laws_eqGrant.C k) :=
  csound κ_ok mixed tok (laws_eqGrant.hΓ k) (LH := laws_eqGrant.LH k) (fn := Try.f102) (c := bodyOf Try.f102) Try.func102 rfl Try.call102 laws_eqGrant.sig [] (laws_eqGrant.body k) (by kernel_rfl) (laws_eqGrant.lok k) (by decide) fun vs bs lf y hl hb hy => by
    unfold laws_eqGrant.body at hb
    split at hb
    · obtain rfl := Option.some.inj hb
      exact ⟨laws_eqGrant.out, laws_eqGrant.out_ok, (laws_eqGrant.den k _ _ _ _ _ _ _ _ _ _ _ _ _ _).trans hy⟩
    · cases hb
/-! ### laws_eqGrantS -/
def laws_eqGrantS.L4 {R : Type} (k : Nat) (xl0 : List T_impl_Grant) (xl1 : List T_impl_Grant) (X0 : Bool → Option R) (X1 : Unit → Option R) (rec : Int → Option R) (x2 : Int) : Option R :=
  (bif decide (x2 < (xl0.length : Int)) then (bif decide (0 ≤ x2) then (bif decide (x2 < (xl0.length : Int)) then (bif decide (0 ≤ x2) then (bif decide (x2 < (xl1.length : Int)) then (laws_eqGrant.f k ((rd_impl_Grant xl0 x2).f0) ((rd_impl_Grant xl0 x2).f1.f0) ((rd_impl_Grant xl0 x2).f1.f1) ((rd_impl_Grant xl0 x2).f2) ((rd_impl_Grant xl0 x2).f3) ((rd_impl_Grant xl0 x2).f4) ((rd_impl_Grant xl0 x2).f5) ((rd_impl_Grant xl1 x2).f0) ((rd_impl_Grant xl1 x2).f1.f0) ((rd_impl_Grant xl1 x2).f1.f1) ((rd_impl_Grant xl1 x2).f2) ((rd_impl_Grant xl1 x2).f3) ((rd_impl_Grant xl1 x2).f4) ((rd_impl_Grant xl1 x2).f5)).bind fun t1 => (bif !t1 then (X0 false) else (rec (w64 (x2 + (1 : Int))))) else none) else none) else none) else none) else (X1 ()))
def laws_eqGrantS.l4 {R : Type} (k : Nat) (xl0 : List T_impl_Grant) (xl1 : List T_impl_Grant) (X0 : Bool → Option R) (X1 : Unit → Option R) : Nat → Int → Option R
  | 0 => fun _ => none
  | n + 1 => laws_eqGrantS.L4 k xl0 xl1 X0 X1 (laws_eqGrantS.l4 k xl0 xl1 X0 X1 n)
def laws_eqGrantS.f (k : Nat) (a0 : List T_impl_Grant) (a1 : List T_impl_Grant) : Option Bool :=
  (bif ((a0.length : Int) != (a1.length : Int)) then some false else (laws_eqGrantS.l4 k a0 a1 (fun (y2 : Bool) => some y2) (fun (_ : Unit) => some true) k (0 : Int)))
def laws_eqGrantS.h4 (k : Nat) {R : Type} (K : Ex → St κ → Option R) (vs : List AV) (bs : List (Blk κ)) : Option R :=
  match vs, bs with
  | [.v (.sl 0), .v (.sl 1), .v (.int .i64 x2)], [qb0, qb1] => (asO 4 false qb0).bind fun xl0 => (asO 4 false qb1).bind fun xl1 => laws_eqGrantS.l4 k xl0 xl1 (fun (z0 : Bool) => K .ret (stOf [(4, [])] [.v (.bool z0)] [.rows 4 false xl0, .rows 4 false xl1])) (fun (_ : Unit) => K (.exit 0) (stOf [(4, [])] [.v .any] [.rows 4 false xl0, .rows 4 false xl1])) k x2
  | _, _ => none
def laws_eqGrantS.Γ (k : Nat) : Ct κ := assoc [(102, laws_eqGrant.C k)]
def laws_eqGrantS.LH (k : Nat) : Nat → Option (LHi κ) := assoc [(4, ⟨2, [(0, [some 4]), (1, [some 4]), (5, [])], [(4, [])], @laws_eqGrantS.h4 k⟩)]
theorem laws_eqGrantS.hΓ (k : Nat) : ∀ f g, laws_eqGrantS.Γ k f = some g → CSound Try.prog f g := G_cons (laws_eqGrant.ok k) G_nil
theorem laws_eqGrantS.e4 {R : Type} (K : Ex → St κ → Option R) (k : Nat) (xl0 : List T_impl_Grant) (xl1 : List T_impl_Grant) : ∀ (n : Nat) (x2 : Int), loopN 2 (Code.den ti (laws_eqGrantS.Γ k) (laws_eqGrantS.LH k) (loopAt Try.f49 0)) [(0, [some 4]), (1, [some 4]), (5, [])] [(4, [])] K n [.v (.sl 0), .v (.sl 1), .v (.int .i64 x2)] [.rows 4 false xl0, .rows 4 false xl1] = laws_eqGrantS.l4 k xl0 xl1 (fun (z0 : Bool) => K .ret (stOf [(4, [])] [.v (.bool z0)] [.rows 4 false xl0, .rows 4 false xl1])) (fun (_ : Unit) => K (.exit 0) (stOf [(4, [])] [.v .any] [.rows 4 false xl0, .rows 4 false xl1])) n x2
  | 0, _ => rfl
  | n + 1, x2 => (show loopN 2 (Code.den ti (laws_eqGrantS.Γ k) (laws_eqGrantS.LH k) (loopAt Try.f49 0)) [(0, [some 4]), (1, [some 4]), (5, [])] [(4, [])] K (n + 1) [.v (.sl 0), .v (.sl 1), .v (.int .i64 x2)] [.rows 4 false xl0, .rows 4 false xl1] = laws_eqGrantS.L4 k xl0 xl1 (fun (z0 : Bool) => K .ret (stOf [(4, [])] [.v (.bool z0)] [.rows 4 false xl0, .rows 4 false xl1])) (fun (_ : Unit) => K (.exit 0) (stOf [(4, [])] [.v .any] [.rows 4 false xl0, .rows 4 false xl1])) (fun (x2' : Int) => loopN 2 (Code.den ti (laws_eqGrantS.Γ k) (laws_eqGrantS.LH k) (loopAt Try.f49 0)) [(0, [some 4]), (1, [some 4]), (5, [])] [(4, [])] K n [.v (.sl 0), .v (.sl 1), .v (.int .i64 x2')] [.rows 4 false xl0, .rows 4 false xl1]) x2 by kernel_rfl).trans (congrArg (fun rec => laws_eqGrantS.L4 k xl0 xl1 (fun (z0 : Bool) => K .ret (stOf [(4, [])] [.v (.bool z0)] [.rows 4 false xl0, .rows 4 false xl1])) (fun (_ : Unit) => K (.exit 0) (stOf [(4, [])] [.v .any] [.rows 4 false xl0, .rows 4 false xl1])) rec x2) (funext fun x2' => laws_eqGrantS.e4 K k xl0 xl1 n x2'))
theorem laws_eqGrantS.q4 (k : Nat) {R : Type} (K : Ex → St κ → Option R) (vs : List AV) (bs : List (Blk κ)) (r : R) (h : laws_eqGrantS.h4 k K vs bs = some r) : ∃ n, loopN 2 (Code.den ti (laws_eqGrantS.Γ k) (laws_eqGrantS.LH k) (loopAt Try.f49 0)) [(0, [some 4]), (1, [some 4]), (5, [])] [(4, [])] K n vs bs = some r := by
  unfold laws_eqGrantS.h4 at h
  split at h
  · obtain ⟨_, rfl, h_1⟩ := asO_bind h
    obtain ⟨_, rfl, h_2⟩ := asO_bind h_1
    exact ⟨k, (laws_eqGrantS.e4 K k _ _ k _).trans h_2⟩
  · cases h
theorem laws_eqGrantS.lok (k : Nat) : LOK ti (laws_eqGrantS.Γ k) (laws_eqGrantS.LH k) 2 (loopsOf (bodyOf Try.f49)) :=
  (show loopsOf (bodyOf Try.f49) = [loopAt Try.f49 0] by kernel_rfl) ▸ (LOK_cons (g := ⟨2, [(0, [some 4]), (1, [some 4]), (5, [])], [(4, [])], @laws_eqGrantS.h4 k⟩) (by kernel_rfl) rfl (fun K vs xs r h => laws_eqGrantS.q4 k K vs xs r h) (LOK_nil))
def laws_eqGrantS.sig : List PSh := [.one (.ro 4), .one (.ro 4)]
def laws_eqGrantS.g (y : Bool) : Ret κ := ⟨.v (.bool y), [], []⟩
def laws_eqGrantS.out (r : Ret κ) : Option Bool :=
  match r with
  | ⟨.v (.bool z0), [], []⟩ => some (z0)
  | _ => none
theorem laws_eqGrantS.out_ok (r : Ret κ) (y : Bool) (h : laws_eqGrantS.out r = some y) : r = laws_eqGrantS.g y := by
  unfold laws_eqGrantS.out at h
  split at h
  · obtain rfl := Option.some.inj h
    rfl
  · cases h
def laws_eqGrantS.body (k : Nat) (vs : List AV) (bs : List (Blk κ)) : Option (Lf κ) :=
  match vs, bs with
  | [.v (.sl 0), .v (.sl 1)], [qb0, qb1] => (asO 4 false qb0).bind fun a0 => (asO 4 false qb1).bind fun a1 => some ⟨Bool, laws_eqGrantS.f k a0 a1, laws_eqGrantS.g⟩
  | _, _ => none
def laws_eqGrantS.C (k : Nat) : Nat → List AV → AP κ AV := contract laws_eqGrantS.sig (laws_eqGrantS.body k)
theorem laws_eqGrantS.den (k : Nat) (a0 : List T_impl_Grant) (a1 : List T_impl_Grant) : Code.den ti (laws_eqGrantS.Γ k) (laws_eqGrantS.LH k) (bodyOf Try.f49) (finK ti Try.f49.results.toList [] (flags laws_eqGrantS.sig).length (rwI (flags laws_eqGrantS.sig) 0) laws_eqGrantS.out) ⟨envOf (([.v (.sl 0), .v (.sl 1)]).zipIdx.map fun q => (q.2, q.1)), hpOf [.rows 4 false a0, .rows 4 false a1], (flags laws_eqGrantS.sig).length⟩ = laws_eqGrantS.f k a0 a1 := by kernel_rfl
theorem laws_eqGrantS.ok (k : Nat) : CSound Try.prog 49 (laws_eqGrantS.C k) :=
  csound κ_ok mixed tok (laws_eqGrantS.hΓ k) (LH := laws_eqGrantS.LH k) (fn := Try.f49) (c := bodyOf Try.f49) Try.func49 rfl Try.call49 laws_eqGrantS.sig [] (laws_eqGrantS.body k) (by kernel_rfl) (laws_eqGrantS.lok k) (by decide) fun vs bs lf y hl hb hy => by
    unfold laws_eqGrantS.body at hb
    split at hb
    · obtain ⟨_, rfl, hb_1⟩ := asO_bind hb
      obtain ⟨_, rfl, hb_2⟩ := asO_bind hb_1
      obtain rfl := Option.some.inj hb_2
      exact ⟨laws_eqGrantS.out, laws_eqGrantS.out_ok, (laws_eqGrantS.den k _ _).trans hy⟩
    · cases hb
end Go.Proofs.Ytghflohdmnaopaa.PFnExactSealPackage
