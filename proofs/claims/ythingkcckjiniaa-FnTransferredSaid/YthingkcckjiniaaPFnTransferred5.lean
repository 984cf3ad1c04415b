/- What the functions that the law FnTransferred reaches come to; no conditions. -/
import Derived.Test.YthingkcckjiniaaPFnTransferred4
set_option linter.unusedVariables false
set_option maxRecDepth 100000
namespace Go.Proofs.Ythingkcckjiniaa.PFnTransferred
open Go Go.Eng Go.Proofs
/-! ### impl_IsValidKey -/
def impl_IsValidKey.f (k : Nat) (a0 : Int) : Option Bool :=
  (impl_InRange.f k a0 (1 : Int) (2147483646 : Int)).bind fun t1 => some t1
def impl_IsValidKey.Γ (k : Nat) : Ct κ := assoc [(62, impl_InRange.C k)]
def impl_IsValidKey.LH (k : Nat) : Nat → Option (LHi κ) := assoc []
theorem impl_IsValidKey.hΓ (k : Nat) : ∀ f g, impl_IsValidKey.Γ k f = some g → CSound Try.prog f g := G_cons (impl_InRange.ok k) G_nil
theorem impl_IsValidKey.lok (k : Nat) : LOK ti (impl_IsValidKey.Γ k) (impl_IsValidKey.LH k) 0 (loopsOf (bodyOf Try.f33)) :=
  (show loopsOf (bodyOf Try.f33) = [] by kernel_rfl) ▸ LOK_nil
def impl_IsValidKey.sig : List PSh := [.one .sc]
def impl_IsValidKey.g (y : Bool) : Ret κ := ⟨.v (.bool y), [], []⟩
def impl_IsValidKey.out (r : Ret κ) : Option Bool :=
  match r with
  | ⟨.v (.bool z0), [], []⟩ => some (z0)
  | _ => none
theorem impl_IsValidKey.out_ok (r : Ret κ) (y : Bool) (h : impl_IsValidKey.out r = some y) : r = impl_IsValidKey.g y := by
  unfold impl_IsValidKey.out at h
  split at h
  · obtain rfl := Option.some.inj h
    rfl
  · cases h
def impl_IsValidKey.body (k : Nat) (vs : List AV) (bs : List (Blk κ)) : Option (Lf κ) :=
  match vs, bs with
  | [.v (.int .i64 a0)], [] => some ⟨Bool, impl_IsValidKey.f k a0, impl_IsValidKey.g⟩
  | _, _ => none
def impl_IsValidKey.C (k : Nat) : Nat → List AV → AP κ AV := contract impl_IsValidKey.sig (impl_IsValidKey.body k)
theorem impl_IsValidKey.den (k : Nat) (a0 : Int) : Code.den ti (impl_IsValidKey.Γ k) (impl_IsValidKey.LH k) (bodyOf Try.f33) (finK ti Try.f33.results.toList [] (flags impl_IsValidKey.sig).length (rwI (flags impl_IsValidKey.sig) 0) impl_IsValidKey.out) ⟨envOf (([.v (.int .i64 a0)]).zipIdx.map fun q => (q.2, q.1)), hpOf [], (flags impl_IsValidKey.sig).length⟩ = impl_IsValidKey.f k a0 := by kernel_rfl
theorem impl_IsValidKey.ok (k : Nat) : CSound Try.prog 33 (impl_IsValidKey.C k) :=
  csound κ_ok mixed tok (impl_IsValidKey.hΓ k) (LH := impl_IsValidKey.LH k) (fn := Try.f33) (c := bodyOf Try.f33) Try.func33 rfl Try.call33 impl_IsValidKey.sig [] (impl_IsValidKey.body k) (by kernel_rfl) (impl_IsValidKey.lok k) (by decide) fun vs bs lf y hl hb hy => by
    unfold impl_IsValidKey.body at hb
    split at hb
    · obtain rfl := Option.some.inj hb
      exact ⟨impl_IsValidKey.out, impl_IsValidKey.out_ok, (impl_IsValidKey.den k _).trans hy⟩
    · cases hb
/-! ### impl_bit -/
def impl_bit.f (k : Nat) (a0 : Bool) : Option Int :=
  (bif a0 then some (1 : Int) else some (0 : Int))
def impl_bit.Γ (k : Nat) : Ct κ := assoc []
def impl_bit.LH (k : Nat) : Nat → Option (LHi κ) := assoc []
theorem impl_bit.hΓ (k : Nat) : ∀ f g, impl_bit.Γ k f = some g → CSound Try.prog f g := G_nil
theorem impl_bit.lok (k : Nat) : LOK ti (impl_bit.Γ k) (impl_bit.LH k) 0 (loopsOf (bodyOf Try.f91)) :=
  (show loopsOf (bodyOf Try.f91) = [] by kernel_rfl) ▸ LOK_nil
def impl_bit.sig : List PSh := [.one .sc]
def impl_bit.g (y : Int) : Ret κ := ⟨.v (.int .i64 y), [], []⟩
def impl_bit.out (r : Ret κ) : Option Int :=
  match r with
  | ⟨.v (.int .i64 z0), [], []⟩ => some (z0)
  | _ => none
theorem impl_bit.out_ok (r : Ret κ) (y : Int) (h : impl_bit.out r = some y) : r = impl_bit.g y := by
  unfold impl_bit.out at h
  split at h
  · obtain rfl := Option.some.inj h
    rfl
  · cases h
def impl_bit.body (k : Nat) (vs : List AV) (bs : List (Blk κ)) : Option (Lf κ) :=
  match vs, bs with
  | [.v (.bool a0)], [] => some ⟨Int, impl_bit.f k a0, impl_bit.g⟩
  | _, _ => none
def impl_bit.C (k : Nat) : Nat → List AV → AP κ AV := contract impl_bit.sig (impl_bit.body k)
theorem impl_bit.den (k : Nat) (a0 : Bool) : Code.den ti (impl_bit.Γ k) (impl_bit.LH k) (bodyOf Try.f91) (finK ti Try.f91.results.toList [] (flags impl_bit.sig).length (rwI (flags impl_bit.sig) 0) impl_bit.out) ⟨envOf (([.v (.bool a0)]).zipIdx.map fun q => (q.2, q.1)), hpOf [], (flags impl_bit.sig).length⟩ = impl_bit.f k a0 := by kernel_rfl
theorem impl_bit.ok (k : Nat) : CSound Try.prog 91 (impl_bit.C k) :=
  csound κ_ok mixed tok (impl_bit.hΓ k) (LH := impl_bit.LH k) (fn := Try.f91) (c := bodyOf Try.f91) Try.func91 rfl Try.call91 impl_bit.sig [] (impl_bit.body k) (by kernel_rfl) (impl_bit.lok k) (by decide) fun vs bs lf y hl hb hy => by
    unfold impl_bit.body at hb
    split at hb
    · obtain rfl := Option.some.inj hb
      exact ⟨impl_bit.out, impl_bit.out_ok, (impl_bit.den k _).trans hy⟩
    · cases hb
/-! ### impl_PackageInts -/
def impl_PackageInts.L5 {R : Type} (k : Nat) (x3 : Int) (xl0 : List T_impl_Grant) (xl1 : List T_impl_Flow) (xl2 : List T_impl_Rule) (xl3 : List T_impl_Op) (xc4_0 : Int) (xc4_1 : Int) (xc4_2 : Int) (xc4_7 : Int) (X0 : List Int → Option R) (rec : Int → List Int → Option R) (x4 : Int) (xl5 : List Int) : Option R :=
  (bif decide (x4 < x3) then (bif decide (0 ≤ x4) then (bif decide (x4 < (xl0.length : Int)) then (impl_bit.f k ((rd_impl_Grant xl0 x4).f5)).bind fun t2 => (bif decide ((xl5.length + ([(rd_impl_Grant xl0 x4).f1.f0, (rd_impl_Grant xl0 x4).f1.f1, (rd_impl_Grant xl0 x4).f2, (rd_impl_Grant xl0 x4).f3, (rd_impl_Grant xl0 x4).f4, t2] : List Int).length) * 8 ≤ cap48) then (let l3 : List Int := (xl5 ++ ([(rd_impl_Grant xl0 x4).f1.f0, (rd_impl_Grant xl0 x4).f1.f1, (rd_impl_Grant xl0 x4).f2, (rd_impl_Grant xl0 x4).f3, (rd_impl_Grant xl0 x4).f4, t2] : List Int)); (rec (w64 (x4 + (1 : Int))) l3)) else none) else none) else none) else (X0 xl5))
def impl_PackageInts.l5 {R : Type} (k : Nat) (x3 : Int) (xl0 : List T_impl_Grant) (xl1 : List T_impl_Flow) (xl2 : List T_impl_Rule) (xl3 : List T_impl_Op) (xc4_0 : Int) (xc4_1 : Int) (xc4_2 : Int) (xc4_7 : Int) (X0 : List Int → Option R) : Nat → Int → List Int → Option R
  | 0 => fun _ _ => none
  | n + 1 => impl_PackageInts.L5 k x3 xl0 xl1 xl2 xl3 xc4_0 xc4_1 xc4_2 xc4_7 X0 (impl_PackageInts.l5 k x3 xl0 xl1 xl2 xl3 xc4_0 xc4_1 xc4_2 xc4_7 X0 n)
def impl_PackageInts.L11 {R : Type} (k : Nat) (x3 : Int) (xl0 : List T_impl_Grant) (xl1 : List T_impl_Flow) (xl2 : List T_impl_Rule) (xl3 : List T_impl_Op) (xc4_0 : Int) (xc4_1 : Int) (xc4_2 : Int) (xc4_7 : Int) (X0 : List Int → Option R) (rec : Int → List Int → Option R) (x4 : Int) (xl5 : List Int) : Option R :=
  (bif decide (x4 < x3) then (bif decide (0 ≤ x4) then (bif decide (x4 < (xl1.length : Int)) then (bif decide ((xl5.length + ([(rd_impl_Flow xl1 x4).f1, (rd_impl_Flow xl1 x4).f2] : List Int).length) * 8 ≤ cap48) then (let l5 : List Int := (xl5 ++ ([(rd_impl_Flow xl1 x4).f1, (rd_impl_Flow xl1 x4).f2] : List Int)); (rec (w64 (x4 + (1 : Int))) l5)) else none) else none) else none) else (X0 xl5))
def impl_PackageInts.l11 {R : Type} (k : Nat) (x3 : Int) (xl0 : List T_impl_Grant) (xl1 : List T_impl_Flow) (xl2 : List T_impl_Rule) (xl3 : List T_impl_Op) (xc4_0 : Int) (xc4_1 : Int) (xc4_2 : Int) (xc4_7 : Int) (X0 : List Int → Option R) : Nat → Int → List Int → Option R
  | 0 => fun _ _ => none
  | n + 1 => impl_PackageInts.L11 k x3 xl0 xl1 xl2 xl3 xc4_0 xc4_1 xc4_2 xc4_7 X0 (impl_PackageInts.l11 k x3 xl0 xl1 xl2 xl3 xc4_0 xc4_1 xc4_2 xc4_7 X0 n)
def impl_PackageInts.L17 {R : Type} (k : Nat) (x3 : Int) (xl0 : List T_impl_Grant) (xl1 : List T_impl_Flow) (xl2 : List T_impl_Rule) (xl3 : List T_impl_Op) (xc4_0 : Int) (xc4_1 : Int) (xc4_2 : Int) (xc4_7 : Int) (X0 : List Int → Option R) (rec : Int → List Int → Option R) (x4 : Int) (xl5 : List Int) : Option R :=
  (bif decide (x4 < x3) then (bif decide (0 ≤ x4) then (bif decide (x4 < (xl2.length : Int)) then (bif decide ((xl5.length + ([(rd_impl_Rule xl2 x4).f1, (rd_impl_Rule xl2 x4).f2.f0, (rd_impl_Rule xl2 x4).f2.f1, (rd_impl_Rule xl2 x4).f3, (rd_impl_Rule xl2 x4).f4, (rd_impl_Rule xl2 x4).f5.f0, (rd_impl_Rule xl2 x4).f5.f1] : List Int).length) * 8 ≤ cap48) then (let l7 : List Int := (xl5 ++ ([(rd_impl_Rule xl2 x4).f1, (rd_impl_Rule xl2 x4).f2.f0, (rd_impl_Rule xl2 x4).f2.f1, (rd_impl_Rule xl2 x4).f3, (rd_impl_Rule xl2 x4).f4, (rd_impl_Rule xl2 x4).f5.f0, (rd_impl_Rule xl2 x4).f5.f1] : List Int)); (rec (w64 (x4 + (1 : Int))) l7)) else none) else none) else none) else (X0 xl5))
def impl_PackageInts.l17 {R : Type} (k : Nat) (x3 : Int) (xl0 : List T_impl_Grant) (xl1 : List T_impl_Flow) (xl2 : List T_impl_Rule) (xl3 : List T_impl_Op) (xc4_0 : Int) (xc4_1 : Int) (xc4_2 : Int) (xc4_7 : Int) (X0 : List Int → Option R) : Nat → Int → List Int → Option R
  | 0 => fun _ _ => none
  | n + 1 => impl_PackageInts.L17 k x3 xl0 xl1 xl2 xl3 xc4_0 xc4_1 xc4_2 xc4_7 X0 (impl_PackageInts.l17 k x3 xl0 xl1 xl2 xl3 xc4_0 xc4_1 xc4_2 xc4_7 X0 n)
def impl_PackageInts.L23 {R : Type} (k : Nat) (x2 : Int) (xl0 : List T_impl_Grant) (xl1 : List T_impl_Flow) (xl2 : List T_impl_Rule) (xl3 : List T_impl_Op) (X0 : List Int → Option R) (rec : Int → List Int → Option R) (x3 : Int) (xl4 : List Int) : Option R :=
  (bif decide (x3 < x2) then (bif decide (0 ≤ x3) then (bif decide (x3 < (xl3.length : Int)) then (bif decide ((xl4.length + ([(rd_impl_Op xl3 x3).f0, (rd_impl_Op xl3 x3).f1, (rd_impl_Op xl3 x3).f2, (rd_impl_Op xl3 x3).f3] : List Int).length) * 8 ≤ cap48) then (let l9 : List Int := (xl4 ++ ([(rd_impl_Op xl3 x3).f0, (rd_impl_Op xl3 x3).f1, (rd_impl_Op xl3 x3).f2, (rd_impl_Op xl3 x3).f3] : List Int)); (rec (w64 (x3 + (1 : Int))) l9)) else none) else none) else none) else (X0 xl4))
def impl_PackageInts.l23 {R : Type} (k : Nat) (x2 : Int) (xl0 : List T_impl_Grant) (xl1 : List T_impl_Flow) (xl2 : List T_impl_Rule) (xl3 : List T_impl_Op) (X0 : List Int → Option R) : Nat → Int → List Int → Option R
  | 0 => fun _ _ => none
  | n + 1 => impl_PackageInts.L23 k x2 xl0 xl1 xl2 xl3 X0 (impl_PackageInts.l23 k x2 xl0 xl1 xl2 xl3 X0 n)
def impl_PackageInts.f (k : Nat) (a0_0 : Int) (a0_1 : Int) (a0_2 : Int) (a0_3 : List T_impl_Grant) (a0_4 : List T_impl_Flow) (a0_5 : List T_impl_Rule) (a0_6 : List T_impl_Op) (a0_7 : Int) : Option (List Int) :=
  (impl_IsPackage.f k a0_0 a0_1 a0_2 a0_3 a0_4 a0_5 a0_6 a0_7).bind fun t1 => (bif !t1 then some ([] : List Int) else (impl_PackageInts.l5 k (a0_3.length : Int) a0_3 a0_4 a0_5 a0_6 a0_0 a0_1 a0_2 a0_7 (fun (y4 : List Int) => (bif decide ((y4.length + ([(a0_4.length : Int)] : List Int).length) * 8 ≤ cap48) then (impl_PackageInts.l11 k (a0_4.length : Int) a0_3 a0_4 a0_5 a0_6 a0_0 a0_1 a0_2 a0_7 (fun (y6 : List Int) => (bif decide ((y6.length + ([(a0_5.length : Int)] : List Int).length) * 8 ≤ cap48) then (impl_PackageInts.l17 k (a0_5.length : Int) a0_3 a0_4 a0_5 a0_6 a0_0 a0_1 a0_2 a0_7 (fun (y8 : List Int) => (bif decide ((y8.length + ([(a0_6.length : Int)] : List Int).length) * 8 ≤ cap48) then (impl_PackageInts.l23 k (a0_6.length : Int) a0_3 a0_4 a0_5 a0_6 (fun (y10 : List Int) => some y10) k (0 : Int) (y8 ++ ([(a0_6.length : Int)] : List Int))) else none)) k (0 : Int) (y6 ++ ([(a0_5.length : Int)] : List Int))) else none)) k (0 : Int) (y4 ++ ([(a0_4.length : Int)] : List Int))) else none)) k (0 : Int) ([a0_0, a0_1, a0_2, (a0_3.length : Int)] : List Int)))
def impl_PackageInts.h5 (k : Nat) {R : Type} (K : Ex → St κ → Option R) (vs : List AV) (bs : List (Blk κ)) : Option R :=
  match vs, bs with
  | [.v (.ptr 4 0 0), .v (.sl 5), .v (.sl 0), .v (.int .i64 x3), .v (.int .i64 x4)], [qb0, qb1, qb2, qb3, .cells 29 [.int .i64 xc4_0, .int .i64 xc4_1, .int .i64 xc4_2, .sl 0, .sl 1, .sl 2, .sl 3, .int .i64 xc4_7], qb5] => (asO 2 false qb0).bind fun xl0 => (asO 3 false qb1).bind fun xl1 => (asO 4 false qb2).bind fun xl2 => (asO 1 false qb3).bind fun xl3 => (asO 5 true qb5).bind fun xl5 => impl_PackageInts.l5 k x3 xl0 xl1 xl2 xl3 xc4_0 xc4_1 xc4_2 xc4_7 (fun (zl5 : List Int) => K (.exit 0) (stOf [(1, [none, none, none, some 2, some 3, some 4, some 1, none]), (3, [some 5])] [.v (.ptr 4 0 0), .v (.sl 5)] [.rows 2 false xl0, .rows 3 false xl1, .rows 4 false xl2, .rows 1 false xl3, .cells 29 [.int .i64 xc4_0, .int .i64 xc4_1, .int .i64 xc4_2, .sl 0, .sl 1, .sl 2, .sl 3, .int .i64 xc4_7], .rows 5 true zl5])) k x4 xl5
  | _, _ => none
def impl_PackageInts.h11 (k : Nat) {R : Type} (K : Ex → St κ → Option R) (vs : List AV) (bs : List (Blk κ)) : Option R :=
  match vs, bs with
  | [.v (.ptr 4 0 0), .v (.sl 5), .v (.sl 1), .v (.int .i64 x3), .v (.int .i64 x4)], [qb0, qb1, qb2, qb3, .cells 29 [.int .i64 xc4_0, .int .i64 xc4_1, .int .i64 xc4_2, .sl 0, .sl 1, .sl 2, .sl 3, .int .i64 xc4_7], qb5] => (asO 2 false qb0).bind fun xl0 => (asO 3 false qb1).bind fun xl1 => (asO 4 false qb2).bind fun xl2 => (asO 1 false qb3).bind fun xl3 => (asO 5 true qb5).bind fun xl5 => impl_PackageInts.l11 k x3 xl0 xl1 xl2 xl3 xc4_0 xc4_1 xc4_2 xc4_7 (fun (zl5 : List Int) => K (.exit 2) (stOf [(1, [none, none, none, some 2, some 3, some 4, some 1, none]), (3, [some 5])] [.v (.ptr 4 0 0), .v (.sl 5)] [.rows 2 false xl0, .rows 3 false xl1, .rows 4 false xl2, .rows 1 false xl3, .cells 29 [.int .i64 xc4_0, .int .i64 xc4_1, .int .i64 xc4_2, .sl 0, .sl 1, .sl 2, .sl 3, .int .i64 xc4_7], .rows 5 true zl5])) k x4 xl5
  | _, _ => none
def impl_PackageInts.h17 (k : Nat) {R : Type} (K : Ex → St κ → Option R) (vs : List AV) (bs : List (Blk κ)) : Option R :=
  match vs, bs with
  | [.v (.ptr 4 0 0), .v (.sl 5), .v (.sl 2), .v (.int .i64 x3), .v (.int .i64 x4)], [qb0, qb1, qb2, qb3, .cells 29 [.int .i64 xc4_0, .int .i64 xc4_1, .int .i64 xc4_2, .sl 0, .sl 1, .sl 2, .sl 3, .int .i64 xc4_7], qb5] => (asO 2 false qb0).bind fun xl0 => (asO 3 false qb1).bind fun xl1 => (asO 4 false qb2).bind fun xl2 => (asO 1 false qb3).bind fun xl3 => (asO 5 true qb5).bind fun xl5 => impl_PackageInts.l17 k x3 xl0 xl1 xl2 xl3 xc4_0 xc4_1 xc4_2 xc4_7 (fun (zl5 : List Int) => K (.exit 4) (stOf [(1, [none, none, none, some 2, some 3, some 4, some 1, none]), (3, [some 5])] [.v (.ptr 4 0 0), .v (.sl 5)] [.rows 2 false xl0, .rows 3 false xl1, .rows 4 false xl2, .rows 1 false xl3, .cells 29 [.int .i64 xc4_0, .int .i64 xc4_1, .int .i64 xc4_2, .sl 0, .sl 1, .sl 2, .sl 3, .int .i64 xc4_7], .rows 5 true zl5])) k x4 xl5
  | _, _ => none
def impl_PackageInts.h23 (k : Nat) {R : Type} (K : Ex → St κ → Option R) (vs : List AV) (bs : List (Blk κ)) : Option R :=
  match vs, bs with
  | [.v (.sl 4), .v (.sl 3), .v (.int .i64 x2), .v (.int .i64 x3)], [qb0, qb1, qb2, qb3, qb4] => (asO 2 false qb0).bind fun xl0 => (asO 3 false qb1).bind fun xl1 => (asO 4 false qb2).bind fun xl2 => (asO 1 false qb3).bind fun xl3 => (asO 5 true qb4).bind fun xl4 => impl_PackageInts.l23 k x2 xl0 xl1 xl2 xl3 (fun (zl4 : List Int) => K (.exit 6) (stOf [(3, [some 5])] [.v (.sl 4)] [.rows 2 false xl0, .rows 3 false xl1, .rows 4 false xl2, .rows 1 false xl3, .rows 5 true zl4])) k x3 xl4
  | _, _ => none
def impl_PackageInts.Γ (k : Nat) : Ct κ := assoc [(32, impl_IsPackage.C k), (91, impl_bit.C k)]
def impl_PackageInts.LH (k : Nat) : Nat → Option (LHi κ) := assoc [(5, ⟨4, [(1, [none, none, none, some 2, some 3, some 4, some 1, none]), (3, [some 5]), (27, [some 2]), (28, []), (29, [])], [(1, [none, none, none, some 2, some 3, some 4, some 1, none]), (3, [some 5])], @impl_PackageInts.h5 k⟩), (11, ⟨4, [(1, [none, none, none, some 2, some 3, some 4, some 1, none]), (3, [some 5]), (59, [some 3]), (60, []), (61, [])], [(1, [none, none, none, some 2, some 3, some 4, some 1, none]), (3, [some 5])], @impl_PackageInts.h11 k⟩), (17, ⟨4, [(1, [none, none, none, some 2, some 3, some 4, some 1, none]), (3, [some 5]), (80, [some 4]), (81, []), (82, [])], [(1, [none, none, none, some 2, some 3, some 4, some 1, none]), (3, [some 5])], @impl_PackageInts.h17 k⟩), (23, ⟨4, [(3, [some 5]), (115, [some 1]), (116, []), (117, [])], [(3, [some 5])], @impl_PackageInts.h23 k⟩)]
theorem impl_PackageInts.hΓ (k : Nat) : ∀ f g, impl_PackageInts.Γ k f = some g → CSound Try.prog f g := G_cons (impl_IsPackage.ok k) (G_cons (impl_bit.ok k) G_nil)
theorem impl_PackageInts.e5 {R : Type} (K : Ex → St κ → Option R) (k : Nat) (x3 : Int) (xl0 : List T_impl_Grant) (xl1 : List T_impl_Flow) (xl2 : List T_impl_Rule) (xl3 : List T_impl_Op) (xc4_0 : Int) (xc4_1 : Int) (xc4_2 : Int) (xc4_7 : Int) : ∀ (n : Nat) (x4 : Int) (xl5 : List Int), loopN 4 (Code.den ti (impl_PackageInts.Γ k) (impl_PackageInts.LH k) (loopAt Try.f34 0)) [(1, [none, none, none, some 2, some 3, some 4, some 1, none]), (3, [some 5]), (27, [some 2]), (28, []), (29, [])] [(1, [none, none, none, some 2, some 3, some 4, some 1, none]), (3, [some 5])] K n [.v (.ptr 4 0 0), .v (.sl 5), .v (.sl 0), .v (.int .i64 x3), .v (.int .i64 x4)] [.rows 2 false xl0, .rows 3 false xl1, .rows 4 false xl2, .rows 1 false xl3, .cells 29 [.int .i64 xc4_0, .int .i64 xc4_1, .int .i64 xc4_2, .sl 0, .sl 1, .sl 2, .sl 3, .int .i64 xc4_7], .rows 5 true xl5] = impl_PackageInts.l5 k x3 xl0 xl1 xl2 xl3 xc4_0 xc4_1 xc4_2 xc4_7 (fun (zl5 : List Int) => K (.exit 0) (stOf [(1, [none, none, none, some 2, some 3, some 4, some 1, none]), (3, [some 5])] [.v (.ptr 4 0 0), .v (.sl 5)] [.rows 2 false xl0, .rows 3 false xl1, .rows 4 false xl2, .rows 1 false xl3, .cells 29 [.int .i64 xc4_0, .int .i64 xc4_1, .int .i64 xc4_2, .sl 0, .sl 1, .sl 2, .sl 3, .int .i64 xc4_7], .rows 5 true zl5])) n x4 xl5
  | 0, _, _ => rfl
  | n + 1, x4, xl5 => (show loopN 4 (Code.den ti (impl_PackageInts.Γ k) (impl_PackageInts.LH k) (loopAt Try.f34 0)) [(1, [none, none, none, some 2, some 3, some 4, some 1, none]), (3, [some 5]), (27, [some 2]), (28, []), (29, [])] [(1, [none, none, none, some 2, some 3, some 4, some 1, none]), (3, [some 5])] K (n + 1) [.v (.ptr 4 0 0), .v (.sl 5), .v (.sl 0), .v (.int .i64 x3), .v (.int .i64 x4)] [.rows 2 false xl0, .rows 3 false xl1, .rows 4 false xl2, .rows 1 false xl3, .cells 29 [.int .i64 xc4_0, .int .i64 xc4_1, .int .i64 xc4_2, .sl 0, .sl 1, .sl 2, .sl 3, .int .i64 xc4_7], .rows 5 true xl5] = impl_PackageInts.L5 k x3 xl0 xl1 xl2 xl3 xc4_0 xc4_1 xc4_2 xc4_7 (fun (zl5 : List Int) => K (.exit 0) (stOf [(1, [none, none, none, some 2, some 3, some 4, some 1, none]), (3, [some 5])] [.v (.ptr 4 0 0), .v (.sl 5)] [.rows 2 false xl0, .rows 3 false xl1, .rows 4 false xl2, .rows 1 false xl3, .cells 29 [.int .i64 xc4_0, .int .i64 xc4_1, .int .i64 xc4_2, .sl 0, .sl 1, .sl 2, .sl 3, .int .i64 xc4_7], .rows 5 true zl5])) (fun (x4' : Int) (xl5' : List Int) => loopN 4 (Code.den ti (impl_PackageInts.Γ k) (impl_PackageInts.LH k) (loopAt Try.f34 0)) [(1, [none, none, none, some 2, some 3, some 4, some 1, none]), (3, [some 5]), (27, [some 2]), (28, []), (29, [])] [(1, [none, none, none, some 2, some 3, some 4, some 1, none]), (3, [some 5])] K n [.v (.ptr 4 0 0), .v (.sl 5), .v (.sl 0), .v (.int .i64 x3), .v (.int .i64 x4')] [.rows 2 false xl0, .rows 3 false xl1, .rows 4 false xl2, .rows 1 false xl3, .cells 29 [.int .i64 xc4_0, .int .i64 xc4_1, .int .i64 xc4_2, .sl 0, .sl 1, .sl 2, .sl 3, .int .i64 xc4_7], .rows 5 true xl5']) x4 xl5 by kernel_rfl).trans (congrArg (fun rec => impl_PackageInts.L5 k x3 xl0 xl1 xl2 xl3 xc4_0 xc4_1 xc4_2 xc4_7 (fun (zl5 : List Int) => K (.exit 0) (stOf [(1, [none, none, none, some 2, some 3, some 4, some 1, none]), (3, [some 5])] [.v (.ptr 4 0 0), .v (.sl 5)] [.rows 2 false xl0, .rows 3 false xl1, .rows 4 false xl2, .rows 1 false xl3, .cells 29 [.int .i64 xc4_0, .int .i64 xc4_1, .int .i64 xc4_2, .sl 0, .sl 1, .sl 2, .sl 3, .int .i64 xc4_7], .rows 5 true zl5])) rec x4 xl5) (funext fun x4' => funext fun xl5' => impl_PackageInts.e5 K k x3 xl0 xl1 xl2 xl3 xc4_0 xc4_1 xc4_2 xc4_7 n x4' xl5'))
theorem impl_PackageInts.q5 (k : Nat) {R : Type} (K : Ex → St κ → Option R) (vs : List AV) (bs : List (Blk κ)) (r : R) (h : impl_PackageInts.h5 k K vs bs = some r) : ∃ n, loopN 4 (Code.den ti (impl_PackageInts.Γ k) (impl_PackageInts.LH k) (loopAt Try.f34 0)) [(1, [none, none, none, some 2, some 3, some 4, some 1, none]), (3, [some 5]), (27, [some 2]), (28, []), (29, [])] [(1, [none, none, none, some 2, some 3, some 4, some 1, none]), (3, [some 5])] K n vs bs = some r := by
  unfold impl_PackageInts.h5 at h
  split at h
  · obtain ⟨_, rfl, h_1⟩ := asO_bind h
    obtain ⟨_, rfl, h_2⟩ := asO_bind h_1
    obtain ⟨_, rfl, h_3⟩ := asO_bind h_2
    obtain ⟨_, rfl, h_4⟩ := asO_bind h_3
    obtain ⟨_, rfl, h_5⟩ := asO_bind h_4
    exact ⟨k, (impl_PackageInts.e5 K k _ _ _ _ _ _ _ _ _ k _ _).trans h_5⟩
  · cases h
theorem impl_PackageInts.e11 {R : Type} (K : Ex → St κ → Option R) (k : Nat) (x3 : Int) (xl0 : List T_impl_Grant) (xl1 : List T_impl_Flow) (xl2 : List T_impl_Rule) (xl3 : List T_impl_Op) (xc4_0 : Int) (xc4_1 : Int) (xc4_2 : Int) (xc4_7 : Int) : ∀ (n : Nat) (x4 : Int) (xl5 : List Int), loopN 4 (Code.den ti (impl_PackageInts.Γ k) (impl_PackageInts.LH k) (loopAt Try.f34 1)) [(1, [none, none, none, some 2, some 3, some 4, some 1, none]), (3, [some 5]), (59, [some 3]), (60, []), (61, [])] [(1, [none, none, none, some 2, some 3, some 4, some 1, none]), (3, [some 5])] K n [.v (.ptr 4 0 0), .v (.sl 5), .v (.sl 1), .v (.int .i64 x3), .v (.int .i64 x4)] [.rows 2 false xl0, .rows 3 false xl1, .rows 4 false xl2, .rows 1 false xl3, .cells 29 [.int .i64 xc4_0, .int .i64 xc4_1, .int .i64 xc4_2, .sl 0, .sl 1, .sl 2, .sl 3, .int .i64 xc4_7], .rows 5 true xl5] = impl_PackageInts.l11 k x3 xl0 xl1 xl2 xl3 xc4_0 xc4_1 xc4_2 xc4_7 (fun (zl5 : List Int) => K (.exit 2) (stOf [(1, [none, none, none, some 2, some 3, some 4, some 1, none]), (3, [some 5])] [.v (.ptr 4 0 0), .v (.sl 5)] [.rows 2 false xl0, .rows 3 false xl1, .rows 4 false xl2, .rows 1 false xl3, .cells 29 [.int .i64 xc4_0, .int .i64 xc4_1, .int .i64 xc4_2, .sl 0, .sl 1, .sl 2, .sl 3, .int .i64 xc4_7], .rows 5 true zl5])) n x4 xl5
  | 0, _, _ => rfl
  | n + 1, x4, xl5 => (show loopN 4 (Code.den ti (impl_PackageInts.Γ k) (impl_PackageInts.LH k) (loopAt Try.f34 1)) [(1, [none, none, none, some 2, some 3, some 4, some 1, none]), (3, [some 5]), (59, [some 3]), (60, []), (61, [])] [(1, [none, none, none, some 2, some 3, some 4, some 1, none]), (3, [some 5])] K (n + 1) [.v (.ptr 4 0 0), .v (.sl 5), .v (.sl 1), .v (.int .i64 x3), .v (.int .i64 x4)] [.rows 2 false xl0, .rows 3 false xl1, .rows 4 false xl2, .rows 1 false xl3, .cells 29 [.int .i64 xc4_0, .int .i64 xc4_1, .int .i64 xc4_2, .sl 0, .sl 1, .sl 2, .sl 3, .int .i64 xc4_7], .rows 5 true xl5] = impl_PackageInts.L11 k x3 xl0 xl1 xl2 xl3 xc4_0 xc4_1 xc4_2 xc4_7 (fun (zl5 : List Int) => K (.exit 2) (stOf [(1, [none, none, none, some 2, some 3, some 4, some 1, none]), (3, [some 5])] [.v (.ptr 4 0 0), .v (.sl 5)] [.rows 2 false xl0, .rows 3 false xl1, .rows 4 false xl2, .rows 1 false xl3, .cells 29 [.int .i64 xc4_0, .int .i64 xc4_1, .int .i64 xc4_2, .sl 0, .sl 1, .sl 2, .sl 3, .int .i64 xc4_7], .rows 5 true zl5])) (fun (x4' : Int) (xl5' : List Int) => loopN 4 (Code.den ti (impl_PackageInts.Γ k) (impl_PackageInts.LH k) (loopAt Try.f34 1)) [(1, [none, none, none, some 2, some 3, some 4, some 1, none]), (3, [some 5]), (59, [some 3]), (60, []), (61, [])] [(1, [none, none, none, some 2, some 3, some 4, some 1, none]), (3, [some 5])] K n [.v (.ptr 4 0 0), .v (.sl 5), .v (.sl 1), .v (.int .i64 x3), .v (.int .i64 x4')] [.rows 2 false xl0, .rows 3 false xl1, .rows 4 false xl2, .rows 1 false xl3, .cells 29 [.int .i64 xc4_0, .int .i64 xc4_1, .int .i64 xc4_2, .sl 0, .sl 1, .sl 2, .sl 3, .int .i64 xc4_7], .rows 5 true xl5']) x4 xl5 by kernel_rfl).trans (congrArg (fun rec => impl_PackageInts.L11 k x3 xl0 xl1 xl2 xl3 xc4_0 xc4_1 xc4_2 xc4_7 (fun (zl5 : List Int) => K (.exit 2) (stOf [(1, [none, none, none, some 2, some 3, some 4, some 1, none]), (3, [some 5])] [.v (.ptr 4 0 0), .v (.sl 5)] [.rows 2 false xl0, .rows 3 false xl1, .rows 4 false xl2, .rows 1 false xl3, .cells 29 [.int .i64 xc4_0, .int .i64 xc4_1, .int .i64 xc4_2, .sl 0, .sl 1, .sl 2, .sl 3, .int .i64 xc4_7], .rows 5 true zl5])) rec x4 xl5) (funext fun x4' => funext fun xl5' => impl_PackageInts.e11 K k x3 xl0 xl1 xl2 xl3 xc4_0 xc4_1 xc4_2 xc4_7 n x4' xl5'))
theorem impl_PackageInts.q11 (k : Nat) {R : Type} (K : Ex → St κ → Option R) (vs : List AV) (bs : List (Blk κ)) (r : R) (h : impl_PackageInts.h11 k K vs bs = some r) : ∃ n, loopN 4 (Code.den ti (impl_PackageInts.Γ k) (impl_PackageInts.LH k) (loopAt Try.f34 1)) [(1, [none, none, none, some 2, some 3, some 4, some 1, none]), (3, [some 5]), (59, [some 3]), (60, []), (61, [])] [(1, [none, none, none, some 2, some 3, some 4, some 1, none]), (3, [some 5])] K n vs bs = some r := by
  unfold impl_PackageInts.h11 at h
  split at h
  · obtain ⟨_, rfl, h_1⟩ := asO_bind h
    obtain ⟨_, rfl, h_2⟩ := asO_bind h_1
    obtain ⟨_, rfl, h_3⟩ := asO_bind h_2
    obtain ⟨_, rfl, h_4⟩ := asO_bind h_3
    obtain ⟨_, rfl, h_5⟩ := asO_bind h_4
    exact ⟨k, (impl_PackageInts.e11 K k _ _ _ _ _ _ _ _ _ k _ _).trans h_5⟩
  · cases h
theorem impl_PackageInts.e17 {R : Type} (K : Ex → St κ → Option R) (k : Nat) (x3 : Int) (xl0 : List T_impl_Grant) (xl1 : List T_impl_Flow) (xl2 : List T_impl_Rule) (xl3 : List T_impl_Op) (xc4_0 : Int) (xc4_1 : Int) (xc4_2 : Int) (xc4_7 : Int) : ∀ (n : Nat) (x4 : Int) (xl5 : List Int), loopN 4 (Code.den ti (impl_PackageInts.Γ k) (impl_PackageInts.LH k) (loopAt Try.f34 2)) [(1, [none, none, none, some 2, some 3, some 4, some 1, none]), (3, [some 5]), (80, [some 4]), (81, []), (82, [])] [(1, [none, none, none, some 2, some 3, some 4, some 1, none]), (3, [some 5])] K n [.v (.ptr 4 0 0), .v (.sl 5), .v (.sl 2), .v (.int .i64 x3), .v (.int .i64 x4)] [.rows 2 false xl0, .rows 3 false xl1, .rows 4 false xl2, .rows 1 false xl3, .cells 29 [.int .i64 xc4_0, .int .i64 xc4_1, .int .i64 xc4_2, .sl 0, .sl 1, .sl 2, .sl 3, .int .i64 xc4_7], .rows 5 true xl5] = impl_PackageInts.l17 k x3 xl0 xl1 xl2 xl3 xc4_0 xc4_1 xc4_2 xc4_7 (fun (zl5 : List Int) => K (.exit 4) (stOf [(1, [none, none, none, some 2, some 3, some 4, some 1, none]), (3, [some 5])] [.v (.ptr 4 0 0), .v (.sl 5)] [.rows 2 false xl0, .rows 3 false xl1, .rows 4 false xl2, .rows 1 false xl3, .cells 29 [.int .i64 xc4_0, .int .i64 xc4_1, .int .i64 xc4_2, .sl 0, .sl 1, .sl 2, .sl 3, .int .i64 xc4_7], .rows 5 true zl5])) n x4 xl5
  | 0, _, _ => rfl
  | n + 1, x4, xl5 => (show loopN 4 (Code.den ti (impl_PackageInts.Γ k) (impl_PackageInts.LH k) (loopAt Try.f34 2)) [(1, [none, none, none, some 2, some 3, some 4, some 1, none]), (3, [some 5]), (80, [some 4]), (81, []), (82, [])] [(1, [none, none, none, some 2, some 3, some 4, some 1, none]), (3, [some 5])] K (n + 1) [.v (.ptr 4 0 0), .v (.sl 5), .v (.sl 2), .v (.int .i64 x3), .v (.int .i64 x4)] [.rows 2 false xl0, .rows 3 false xl1, .rows 4 false xl2, .rows 1 false xl3, .cells 29 [.int .i64 xc4_0, .int .i64 xc4_1, .int .i64 xc4_2, .sl 0, .sl 1, .sl 2, .sl 3, .int .i64 xc4_7], .rows 5 true xl5] = impl_PackageInts.L17 k x3 xl0 xl1 xl2 xl3 xc4_0 xc4_1 xc4_2 xc4_7 (fun (zl5 : List Int) => K (.exit 4) (stOf [(1, [none, none, none, some 2, some 3, some 4, some 1, none]), (3, [some 5])] [.v (.ptr 4 0 0), .v (.sl 5)] [.rows 2 false xl0, .rows 3 false xl1, .rows 4 false xl2, .rows 1 false xl3, .cells 29 [.int .i64 xc4_0, .int .i64 xc4_1, .int .i64 xc4_2, .sl 0, .sl 1, .sl 2, .sl 3, .int .i64 xc4_7], .rows 5 true zl5])) (fun (x4' : Int) (xl5' : List Int) => loopN 4 (Code.den ti (impl_PackageInts.Γ k) (impl_PackageInts.LH k) (loopAt Try.f34 2)) [(1, [none, none, none, some 2, some 3, some 4, some 1, none]), (3, [some 5]), (80, [some 4]), (81, []), (82, [])] [(1, [none, none, none, some 2, some 3, some 4, some 1, none]), (3, [some 5])] K n [.v (.ptr 4 0 0), .v (.sl 5), .v (.sl 2), .v (.int .i64 x3), .v (.int .i64 x4')] [.rows 2 false xl0, .rows 3 false xl1, .rows 4 false xl2, .rows 1 false xl3, .cells 29 [.int .i64 xc4_0, .int .i64 xc4_1, .int .i64 xc4_2, .sl 0, .sl 1, .sl 2, .sl 3, .int .i64 xc4_7], .rows 5 true xl5']) x4 xl5 by kernel_rfl).trans (congrArg (fun rec => impl_PackageInts.L17 k x3 xl0 xl1 xl2 xl3 xc4_0 xc4_1 xc4_2 xc4_7 (fun (zl5 : List Int) => K (.exit 4) (stOf [(1, [none, none, none, some 2, some 3, some 4, some 1, none]), (3, [some 5])] [.v (.ptr 4 0 0), .v (.sl 5)] [.rows 2 false xl0, .rows 3 false xl1, .rows 4 false xl2, .rows 1 false xl3, .cells 29 [.int .i64 xc4_0, .int .i64 xc4_1, .int .i64 xc4_2, .sl 0, .sl 1, .sl 2, .sl 3, .int .i64 xc4_7], .rows 5 true zl5])) rec x4 xl5) (funext fun x4' => funext fun xl5' => impl_PackageInts.e17 K k x3 xl0 xl1 xl2 xl3 xc4_0 xc4_1 xc4_2 xc4_7 n x4' xl5'))
theorem impl_PackageInts.q17 (k : Nat) {R : Type} (K : Ex → St κ → Option R) (vs : List AV) (bs : List (Blk κ)) (r : R) (h : impl_PackageInts.h17 k K vs bs = some r) : ∃ n, loopN 4 (Code.den ti (impl_PackageInts.Γ k) (impl_PackageInts.LH k) (loopAt Try.f34 2)) [(1, [none, none, none, some 2, some 3, some 4, some 1, none]), (3, [some 5]), (80, [some 4]), (81, []), (82, [])] [(1, [none, none, none, some 2, some 3, some 4, some 1, none]), (3, [some 5])] K n vs bs = some r := by
  unfold impl_PackageInts.h17 at h
  split at h
  · obtain ⟨_, rfl, h_1⟩ := asO_bind h
    obtain ⟨_, rfl, h_2⟩ := asO_bind h_1
    obtain ⟨_, rfl, h_3⟩ := asO_bind h_2
    obtain ⟨_, rfl, h_4⟩ := asO_bind h_3
    obtain ⟨_, rfl, h_5⟩ := asO_bind h_4
    exact ⟨k, (impl_PackageInts.e17 K k _ _ _ _ _ _ _ _ _ k _ _).trans h_5⟩
  · cases h
theorem impl_PackageInts.e23 {R : Type} (K : Ex → St κ → Option R) (k : Nat) (x2 : Int) (xl0 : List T_impl_Grant) (xl1 : List T_impl_Flow) (xl2 : List T_impl_Rule) (xl3 : List T_impl_Op) : ∀ (n : Nat) (x3 : Int) (xl4 : List Int), loopN 4 (Code.den ti (impl_PackageInts.Γ k) (impl_PackageInts.LH k) (loopAt Try.f34 3)) [(3, [some 5]), (115, [some 1]), (116, []), (117, [])] [(3, [some 5])] K n [.v (.sl 4), .v (.sl 3), .v (.int .i64 x2), .v (.int .i64 x3)] [.rows 2 false xl0, .rows 3 false xl1, .rows 4 false xl2, .rows 1 false xl3, .rows 5 true xl4] = impl_PackageInts.l23 k x2 xl0 xl1 xl2 xl3 (fun (zl4 : List Int) => K (.exit 6) (stOf [(3, [some 5])] [.v (.sl 4)] [.rows 2 false xl0, .rows 3 false xl1, .rows 4 false xl2, .rows 1 false xl3, .rows 5 true zl4])) n x3 xl4
  | 0, _, _ => rfl
  | n + 1, x3, xl4 => (show loopN 4 (Code.den ti (impl_PackageInts.Γ k) (impl_PackageInts.LH k) (loopAt Try.f34 3)) [(3, [some 5]), (115, [some 1]), (116, []), (117, [])] [(3, [some 5])] K (n + 1) [.v (.sl 4), .v (.sl 3), .v (.int .i64 x2), .v (.int .i64 x3)] [.rows 2 false xl0, .rows 3 false xl1, .rows 4 false xl2, .rows 1 false xl3, .rows 5 true xl4] = impl_PackageInts.L23 k x2 xl0 xl1 xl2 xl3 (fun (zl4 : List Int) => K (.exit 6) (stOf [(3, [some 5])] [.v (.sl 4)] [.rows 2 false xl0, .rows 3 false xl1, .rows 4 false xl2, .rows 1 false xl3, .rows 5 true zl4])) (fun (x3' : Int) (xl4' : List Int) => loopN 4 (Code.den ti (impl_PackageInts.Γ k) (impl_PackageInts.LH k) (loopAt Try.f34 3)) [(3, [some 5]), (115, [some 1]), (116, []), (117, [])] [(3, [some 5])] K n [.v (.sl 4), .v (.sl 3), .v (.int .i64 x2), .v (.int .i64 x3')] [.rows 2 false xl0, .rows 3 false xl1, .rows 4 false xl2, .rows 1 false xl3, .rows 5 true xl4']) x3 xl4 by kernel_rfl).trans (congrArg (fun rec => impl_PackageInts.L23 k x2 xl0 xl1 xl2 xl3 (fun (zl4 : List Int) => K (.exit 6) (stOf [(3, [some 5])] [.v (.sl 4)] [.rows 2 false xl0, .rows 3 false xl1, .rows 4 false xl2, .rows 1 false xl3, .rows 5 true zl4])) rec x3 xl4) (funext fun x3' => funext fun xl4' => impl_PackageInts.e23 K k x2 xl0 xl1 xl2 xl3 n x3' xl4'))
theorem impl_PackageInts.q23 (k : Nat) {R : Type} (K : Ex → St κ → Option R) (vs : List AV) (bs : List (Blk κ)) (r : R) (h : impl_PackageInts.h23 k K vs bs = some r) : ∃ n, loopN 4 (Code.den ti (impl_PackageInts.Γ k) (impl_PackageInts.LH k) (loopAt Try.f34 3)) [(3, [some 5]), (115, [some 1]), (116, []), (117, [])] [(3, [some 5])] K n vs bs = some r := by
  unfold impl_PackageInts.h23 at h
  split at h
  · obtain ⟨_, rfl, h_1⟩ := asO_bind h
    obtain ⟨_, rfl, h_2⟩ := asO_bind h_1
    obtain ⟨_, rfl, h_3⟩ := asO_bind h_2
    obtain ⟨_, rfl, h_4⟩ := asO_bind h_3
    obtain ⟨_, rfl, h_5⟩ := asO_bind h_4
    exact ⟨k, (impl_PackageInts.e23 K k _ _ _ _ _ k _ _).trans h_5⟩
  · cases h
theorem impl_PackageInts.lok (k : Nat) : LOK ti (impl_PackageInts.Γ k) (impl_PackageInts.LH k) 4 (loopsOf (bodyOf Try.f34)) :=
  (show loopsOf (bodyOf Try.f34) = [loopAt Try.f34 0, loopAt Try.f34 1, loopAt Try.f34 2, loopAt Try.f34 3] by kernel_rfl) ▸ (LOK_cons (g := ⟨4, [(1, [none, none, none, some 2, some 3, some 4, some 1, none]), (3, [some 5]), (27, [some 2]), (28, []), (29, [])], [(1, [none, none, none, some 2, some 3, some 4, some 1, none]), (3, [some 5])], @impl_PackageInts.h5 k⟩) (by kernel_rfl) rfl (fun K vs xs r h => impl_PackageInts.q5 k K vs xs r h) (LOK_cons (g := ⟨4, [(1, [none, none, none, some 2, some 3, some 4, some 1, none]), (3, [some 5]), (59, [some 3]), (60, []), (61, [])], [(1, [none, none, none, some 2, some 3, some 4, some 1, none]), (3, [some 5])], @impl_PackageInts.h11 k⟩) (by kernel_rfl) rfl (fun K vs xs r h => impl_PackageInts.q11 k K vs xs r h) (LOK_cons (g := ⟨4, [(1, [none, none, none, some 2, some 3, some 4, some 1, none]), (3, [some 5]), (80, [some 4]), (81, []), (82, [])], [(1, [none, none, none, some 2, some 3, some 4, some 1, none]), (3, [some 5])], @impl_PackageInts.h17 k⟩) (by kernel_rfl) rfl (fun K vs xs r h => impl_PackageInts.q17 k K vs xs r h) (LOK_cons (g := ⟨4, [(3, [some 5]), (115, [some 1]), (116, []), (117, [])], [(3, [some 5])], @impl_PackageInts.h23 k⟩) (by kernel_rfl) rfl (fun K vs xs r h => impl_PackageInts.q23 k K vs xs r h) (LOK_nil)))))
def impl_PackageInts.sig : List PSh := [.agg [.sc, .sc, .sc, .ro 2, .ro 3, .ro 4, .ro 1, .sc]]
def impl_PackageInts.g (y : List Int) : Ret κ := ⟨.v (.sl 4), [], [.rows 5 true y]⟩
def impl_PackageInts.out (r : Ret κ) : Option (List Int) :=
  match r with
  | ⟨.v (.sl 4), [], [q0]⟩ => (asO 5 true q0).bind fun z0 => some (z0)
  | _ => none
theorem impl_PackageInts.out_ok (r : Ret κ) (y : List Int) (h : impl_PackageInts.out r = some y) : r = impl_PackageInts.g y := by
  unfold impl_PackageInts.out at h
  split at h
  · obtain ⟨_, rfl, h_1⟩ := asO_bind h
    obtain rfl := Option.some.inj h_1
    rfl
  · cases h
def impl_PackageInts.body (k : Nat) (vs : List AV) (bs : List (Blk κ)) : Option (Lf κ) :=
  match vs, bs with
  | [.agg [.int .i64 a0_0, .int .i64 a0_1, .int .i64 a0_2, .sl 0, .sl 1, .sl 2, .sl 3, .int .i64 a0_7]], [qb0, qb1, qb2, qb3] => (asO 2 false qb0).bind fun a0_3 => (asO 3 false qb1).bind fun a0_4 => (asO 4 false qb2).bind fun a0_5 => (asO 1 false qb3).bind fun a0_6 => some ⟨List Int, impl_PackageInts.f k a0_0 a0_1 a0_2 a0_3 a0_4 a0_5 a0_6 a0_7, impl_PackageInts.g⟩
  | _, _ => none
def impl_PackageInts.C (k : Nat) : Nat → List AV → AP κ AV := contract impl_PackageInts.sig (impl_PackageInts.body k)
theorem impl_PackageInts.den (k : Nat) (a0_0 : Int) (a0_1 : Int) (a0_2 : Int) (a0_3 : List T_impl_Grant) (a0_4 : List T_impl_Flow) (a0_5 : List T_impl_Rule) (a0_6 : List T_impl_Op) (a0_7 : Int) : Code.den ti (impl_PackageInts.Γ k) (impl_PackageInts.LH k) (bodyOf Try.f34) (finK ti Try.f34.results.toList [(2, [some 5])] (flags impl_PackageInts.sig).length (rwI (flags impl_PackageInts.sig) 0) impl_PackageInts.out) ⟨envOf (([.agg [.int .i64 a0_0, .int .i64 a0_1, .int .i64 a0_2, .sl 0, .sl 1, .sl 2, .sl 3, .int .i64 a0_7]]).zipIdx.map fun q => (q.2, q.1)), hpOf [.rows 2 false a0_3, .rows 3 false a0_4, .rows 4 false a0_5, .rows 1 false a0_6], (flags impl_PackageInts.sig).length⟩ = impl_PackageInts.f k a0_0 a0_1 a0_2 a0_3 a0_4 a0_5 a0_6 a0_7 := by kernel_rfl
theorem impl_PackageInts.ok (k : Nat) : CSound Try.prog 34 (impl_PackageInts.C k) :=
  csound κ_ok mixed tok (impl_PackageInts.hΓ k) (LH := impl_PackageInts.LH k) (fn := Try.f34) (c := bodyOf Try.f34) Try.func34 rfl Try.call34 impl_PackageInts.sig [(2, [some 5])] (impl_PackageInts.body k) (by kernel_rfl) (impl_PackageInts.lok k) (by decide) fun vs bs lf y hl hb hy => by
    unfold impl_PackageInts.body at hb
    split at hb
    · obtain ⟨_, rfl, hb_1⟩ := asO_bind hb
      obtain ⟨_, rfl, hb_2⟩ := asO_bind hb_1
      obtain ⟨_, rfl, hb_3⟩ := asO_bind hb_2
      obtain ⟨_, rfl, hb_4⟩ := asO_bind hb_3
      obtain rfl := Option.some.inj hb_4
      exact ⟨impl_PackageInts.out, impl_PackageInts.out_ok, (impl_PackageInts.den k _ _ _ _ _ _ _ _).trans hy⟩
    · cases hb
/-! ### impl_Mod -/
def impl_Mod.f (k : Nat) (a0 : Int) (a1 : Int) : Option Int :=
  (impl_InRange.f k a1 (1 : Int) (1000000000000 : Int)).bind fun t1 => (bif !t1 then some (0 : Int) else (bif decide (a1 = 0) then none else (bif decide ((a0.tmod a1) < (0 : Int)) then some (w64 ((a0.tmod a1) + a1)) else some (a0.tmod a1))))
def impl_Mod.Γ (k : Nat) : Ct κ := assoc [(62, impl_InRange.C k)]
def impl_Mod.LH (k : Nat) : Nat → Option (LHi κ) := assoc []
theorem impl_Mod.hΓ (k : Nat) : ∀ f g, impl_Mod.Γ k f = some g → CSound Try.prog f g := G_cons (impl_InRange.ok k) G_nil
theorem impl_Mod.lok (k : Nat) : LOK ti (impl_Mod.Γ k) (impl_Mod.LH k) 0 (loopsOf (bodyOf Try.f151)) :=
  (show loopsOf (bodyOf Try.f151) = [] by kernel_rfl) ▸ LOK_nil
def impl_Mod.sig : List PSh := [.one .sc, .one .sc]
def impl_Mod.g (y : Int) : Ret κ := ⟨.v (.int .i64 y), [], []⟩
def impl_Mod.out (r : Ret κ) : Option Int :=
  match r with
  | ⟨.v (.int .i64 z0), [], []⟩ => some (z0)
  | _ => none
theorem impl_Mod.out_ok (r : Ret κ) (y : Int) (h : impl_Mod.out r = some y) : r = impl_Mod.g y := by
  unfold impl_Mod.out at h
  split at h
  · obtain rfl := Option.some.inj h
    rfl
  · cases h
def impl_Mod.body (k : Nat) (vs : List AV) (bs : List (Blk κ)) : Option (Lf κ) :=
  match vs, bs with
  | [.v (.int .i64 a0), .v (.int .i64 a1)], [] => some ⟨Int, impl_Mod.f k a0 a1, impl_Mod.g⟩
  | _, _ => none
def impl_Mod.C (k : Nat) : Nat → List AV → AP κ AV := contract impl_Mod.sig (impl_Mod.body k)
theorem impl_Mod.den (k : Nat) (a0 : Int) (a1 : Int) : Code.den ti (impl_Mod.Γ k) (impl_Mod.LH k) (bodyOf Try.f151) (finK ti Try.f151.results.toList [] (flags impl_Mod.sig).length (rwI (flags impl_Mod.sig) 0) impl_Mod.out) ⟨envOf (([.v (.int .i64 a0), .v (.int .i64 a1)]).zipIdx.map fun q => (q.2, q.1)), hpOf [], (flags impl_Mod.sig).length⟩ = impl_Mod.f k a0 a1 := by kernel_rfl
theorem impl_Mod.ok (k : Nat) : CSound Try.prog 151 (impl_Mod.C k) :=
  csound κ_ok mixed tok (impl_Mod.hΓ k) (LH := impl_Mod.LH k) (fn := Try.f151) (c := bodyOf Try.f151) Try.func151 rfl Try.call151 impl_Mod.sig [] (impl_Mod.body k) (by kernel_rfl) (impl_Mod.lok k) (by decide) fun vs bs lf y hl hb hy => by
    unfold impl_Mod.body at hb
    split at hb
    · obtain rfl := Option.some.inj hb
      exact ⟨impl_Mod.out, impl_Mod.out_ok, (impl_Mod.den k _ _).trans hy⟩
    · cases hb
/-! ### impl_fold -/
def impl_fold.f (k : Nat) (a0 : Int) (a1 : Int) : Option Int :=
  (impl_Mod.f k a1 (2147483647 : Int)).bind fun t1 => some ((w64 ((w64 ((w64 (a0 * (1000003 : Int))) + t1)) + (13 : Int))).tmod (2147483647 : Int))
def impl_fold.Γ (k : Nat) : Ct κ := assoc [(151, impl_Mod.C k)]
def impl_fold.LH (k : Nat) : Nat → Option (LHi κ) := assoc []
theorem impl_fold.hΓ (k : Nat) : ∀ f g, impl_fold.Γ k f = some g → CSound Try.prog f g := G_cons (impl_Mod.ok k) G_nil
theorem impl_fold.lok (k : Nat) : LOK ti (impl_fold.Γ k) (impl_fold.LH k) 0 (loopsOf (bodyOf Try.f140)) :=
  (show loopsOf (bodyOf Try.f140) = [] by kernel_rfl) ▸ LOK_nil
def impl_fold.sig : List PSh := [.one .sc, .one .sc]
def impl_fold.g (y : Int) : Ret κ := ⟨.v (.int .i64 y), [], []⟩
def impl_fold.out (r : Ret κ) : Option Int :=
  match r with
  | ⟨.v (.int .i64 z0), [], []⟩ => some (z0)
  | _ => none
theorem impl_fold.out_ok (r : Ret κ) (y : Int) (h : impl_fold.out r = some y) : r = impl_fold.g y := by
  unfold impl_fold.out at h
  split at h
  · obtain rfl := Option.some.inj h
    rfl
  · cases h
def impl_fold.body (k : Nat) (vs : List AV) (bs : List (Blk κ)) : Option (Lf κ) :=
  match vs, bs with
  | [.v (.int .i64 a0), .v (.int .i64 a1)], [] => some ⟨Int, impl_fold.f k a0 a1, impl_fold.g⟩
  | _, _ => none
def impl_fold.C (k : Nat) : Nat → List AV → AP κ AV := contract impl_fold.sig (impl_fold.body k)
theorem impl_fold.den (k : Nat) (a0 : Int) (a1 : Int) : Code.den ti (impl_fold.Γ k) (impl_fold.LH k) (bodyOf Try.f140) (finK ti Try.f140.results.toList [] (flags impl_fold.sig).length (rwI (flags impl_fold.sig) 0) impl_fold.out) ⟨envOf (([.v (.int .i64 a0), .v (.int .i64 a1)]).zipIdx.map fun q => (q.2, q.1)), hpOf [], (flags impl_fold.sig).length⟩ = impl_fold.f k a0 a1 := by kernel_rfl
theorem impl_fold.ok (k : Nat) : CSound Try.prog 140 (impl_fold.C k) :=
  csound κ_ok mixed tok (impl_fold.hΓ k) (LH := impl_fold.LH k) (fn := Try.f140) (c := bodyOf Try.f140) Try.func140 rfl Try.call140 impl_fold.sig [] (impl_fold.body k) (by kernel_rfl) (impl_fold.lok k) (by decide) fun vs bs lf y hl hb hy => by
    unfold impl_fold.body at hb
    split at hb
    · obtain rfl := Option.some.inj hb
      exact ⟨impl_fold.out, impl_fold.out_ok, (impl_fold.den k _ _).trans hy⟩
    · cases hb
/-! ### impl_KeyedHash -/
def impl_KeyedHash.L3 {R : Type} (k : Nat) (x0 : Int) (x3 : Int) (xl0 : List Int) (X0 : Int → Option R) (rec : Int → Int → Option R) (x1 : Int) (x4 : Int) : Option R :=
  (bif decide (x4 < x3) then (bif decide (0 ≤ x4) then (bif decide (x4 < (xl0.length : Int)) then (impl_fold.f k x1 (rd_i64 xl0 x4)).bind fun t2 => (rec t2 (w64 (x4 + (1 : Int)))) else none) else none) else (X0 x1))
def impl_KeyedHash.l3 {R : Type} (k : Nat) (x0 : Int) (x3 : Int) (xl0 : List Int) (X0 : Int → Option R) : Nat → Int → Int → Option R
  | 0 => fun _ _ => none
  | n + 1 => impl_KeyedHash.L3 k x0 x3 xl0 X0 (impl_KeyedHash.l3 k x0 x3 xl0 X0 n)
def impl_KeyedHash.f (k : Nat) (a0 : Int) (a1 : List Int) : Option Int :=
  (impl_fold.f k (11 : Int) a0).bind fun t1 => (impl_KeyedHash.l3 k a0 (a1.length : Int) a1 (fun (y3 : Int) => (impl_fold.f k y3 a0).bind fun t4 => some t4) k t1 (0 : Int))
def impl_KeyedHash.h3 (k : Nat) {R : Type} (K : Ex → St κ → Option R) (vs : List AV) (bs : List (Blk κ)) : Option R :=
  match vs, bs with
  | [.v (.int .i64 x0), .v (.int .i64 x1), .v (.sl 0), .v (.int .i64 x3), .v (.int .i64 x4)], [qb0] => (asO 5 false qb0).bind fun xl0 => impl_KeyedHash.l3 k x0 x3 xl0 (fun (z1 : Int) => K (.exit 0) (stOf [(0, []), (5, [])] [.v (.int .i64 x0), .v (.int .i64 z1)] [.rows 5 false xl0])) k x1 x4
  | _, _ => none
def impl_KeyedHash.Γ (k : Nat) : Ct κ := assoc [(140, impl_fold.C k)]
def impl_KeyedHash.LH (k : Nat) : Nat → Option (LHi κ) := assoc [(3, ⟨1, [(0, []), (5, []), (10, [some 5]), (11, []), (12, [])], [(0, []), (5, [])], @impl_KeyedHash.h3 k⟩)]
theorem impl_KeyedHash.hΓ (k : Nat) : ∀ f g, impl_KeyedHash.Γ k f = some g → CSound Try.prog f g := G_cons (impl_fold.ok k) G_nil
theorem impl_KeyedHash.e3 {R : Type} (K : Ex → St κ → Option R) (k : Nat) (x0 : Int) (x3 : Int) (xl0 : List Int) : ∀ (n : Nat) (x1 : Int) (x4 : Int), loopN 1 (Code.den ti (impl_KeyedHash.Γ k) (impl_KeyedHash.LH k) (loopAt Try.f114 0)) [(0, []), (5, []), (10, [some 5]), (11, []), (12, [])] [(0, []), (5, [])] K n [.v (.int .i64 x0), .v (.int .i64 x1), .v (.sl 0), .v (.int .i64 x3), .v (.int .i64 x4)] [.rows 5 false xl0] = impl_KeyedHash.l3 k x0 x3 xl0 (fun (z1 : Int) => K (.exit 0) (stOf [(0, []), (5, [])] [.v (.int .i64 x0), .v (.int .i64 z1)] [.rows 5 false xl0])) n x1 x4
  | 0, _, _ => rfl
  | n + 1, x1, x4 => (show loopN 1 (Code.den ti (impl_KeyedHash.Γ k) (impl_KeyedHash.LH k) (loopAt Try.f114 0)) [(0, []), (5, []), (10, [some 5]), (11, []), (12, [])] [(0, []), (5, [])] K (n + 1) [.v (.int .i64 x0), .v (.int .i64 x1), .v (.sl 0), .v (.int .i64 x3), .v (.int .i64 x4)] [.rows 5 false xl0] = impl_KeyedHash.L3 k x0 x3 xl0 (fun (z1 : Int) => K (.exit 0) (stOf [(0, []), (5, [])] [.v (.int .i64 x0), .v (.int .i64 z1)] [.rows 5 false xl0])) (fun (x1' : Int) (x4' : Int) => loopN 1 (Code.den ti (impl_KeyedHash.Γ k) (impl_KeyedHash.LH k) (loopAt Try.f114 0)) [(0, []), (5, []), (10, [some 5]), (11, []), (12, [])] [(0, []), (5, [])] K n [.v (.int .i64 x0), .v (.int .i64 x1'), .v (.sl 0), .v (.int .i64 x3), .v (.int .i64 x4')] [.rows 5 false xl0]) x1 x4 by kernel_rfl).trans (congrArg (fun rec => impl_KeyedHash.L3 k x0 x3 xl0 (fun (z1 : Int) => K (.exit 0) (stOf [(0, []), (5, [])] [.v (.int .i64 x0), .v (.int .i64 z1)] [.rows 5 false xl0])) rec x1 x4) (funext fun x1' => funext fun x4' => impl_KeyedHash.e3 K k x0 x3 xl0 n x1' x4'))
theorem impl_KeyedHash.q3 (k : Nat) {R : Type} (K : Ex → St κ → Option R) (vs : List AV) (bs : List (Blk κ)) (r : R) (h : impl_KeyedHash.h3 k K vs bs = some r) : ∃ n, loopN 1 (Code.den ti (impl_KeyedHash.Γ k) (impl_KeyedHash.LH k) (loopAt Try.f114 0)) [(0, []), (5, []), (10, [some 5]), (11, []), (12, [])] [(0, []), (5, [])] K n vs bs = some r := by
  unfold impl_KeyedHash.h3 at h
  split at h
  · obtain ⟨_, rfl, h_1⟩ := asO_bind h
    exact ⟨k, (impl_KeyedHash.e3 K k _ _ _ k _ _).trans h_1⟩
  · cases h
theorem impl_KeyedHash.lok (k : Nat) : LOK ti (impl_KeyedHash.Γ k) (impl_KeyedHash.LH k) 1 (loopsOf (bodyOf Try.f114)) :=
  (show loopsOf (bodyOf Try.f114) = [loopAt Try.f114 0] by kernel_rfl) ▸ (LOK_cons (g := ⟨1, [(0, []), (5, []), (10, [some 5]), (11, []), (12, [])], [(0, []), (5, [])], @impl_KeyedHash.h3 k⟩) (by kernel_rfl) rfl (fun K vs xs r h => impl_KeyedHash.q3 k K vs xs r h) (LOK_nil))
def impl_KeyedHash.sig : List PSh := [.one .sc, .one (.ro 5)]
def impl_KeyedHash.g (y : Int) : Ret κ := ⟨.v (.int .i64 y), [], []⟩
def impl_KeyedHash.out (r : Ret κ) : Option Int :=
  match r with
  | ⟨.v (.int .i64 z0), [], []⟩ => some (z0)
  | _ => none
theorem impl_KeyedHash.out_ok (r : Ret κ) (y : Int) (h : impl_KeyedHash.out r = some y) : r = impl_KeyedHash.g y := by
  unfold impl_KeyedHash.out at h
  split at h
  · obtain rfl := Option.some.inj h
    rfl
  · cases h
def impl_KeyedHash.body (k : Nat) (vs : List AV) (bs : List (Blk κ)) : Option (Lf κ) :=
  match vs, bs with
  | [.v (.int .i64 a0), .v (.sl 0)], [qb0] => (asO 5 false qb0).bind fun a1 => some ⟨Int, impl_KeyedHash.f k a0 a1, impl_KeyedHash.g⟩
  | _, _ => none
def impl_KeyedHash.C (k : Nat) : Nat → List AV → AP κ AV := contract impl_KeyedHash.sig (impl_KeyedHash.body k)
theorem impl_KeyedHash.den (k : Nat) (a0 : Int) (a1 : List Int) : Code.den ti (impl_KeyedHash.Γ k) (impl_KeyedHash.LH k) (bodyOf Try.f114) (finK ti Try.f114.results.toList [] (flags impl_KeyedHash.sig).length (rwI (flags impl_KeyedHash.sig) 0) impl_KeyedHash.out) ⟨envOf (([.v (.int .i64 a0), .v (.sl 0)]).zipIdx.map fun q => (q.2, q.1)), hpOf [.rows 5 false a1], (flags impl_KeyedHash.sig).length⟩ = impl_KeyedHash.f k a0 a1 := by kernel_rfl
theorem impl_KeyedHash.ok (k : Nat) : CSound Try.prog 114 (impl_KeyedHash.C k) :=
  csound κ_ok mixed tok (impl_KeyedHash.hΓ k) (LH := impl_KeyedHash.LH k) (fn := Try.f114) (c := bodyOf Try.f114) Try.func114 rfl Try.call114 impl_KeyedHash.sig [] (impl_KeyedHash.body k) (by kernel_rfl) (impl_KeyedHash.lok k) (by decide) fun vs bs lf y hl hb hy => by
    unfold impl_KeyedHash.body at hb
    split at hb
    · obtain ⟨_, rfl, hb_1⟩ := asO_bind hb
      obtain rfl := Option.some.inj hb_1
      exact ⟨impl_KeyedHash.out, impl_KeyedHash.out_ok, (impl_KeyedHash.den k _ _).trans hy⟩
    · cases hb
/-! ### impl_sealOf -/
def impl_sealOf.f (k : Nat) (a0 : Int) (a1_0 : Int) (a1_1 : Int) (a1_2 : Int) (a1_3 : List T_impl_Grant) (a1_4 : List T_impl_Flow) (a1_5 : List T_impl_Rule) (a1_6 : List T_impl_Op) (a1_7 : Int) : Option Int :=
  (impl_IsValidKey.f k a0).bind fun t1 => (bif !t1 then some (0 : Int) else (impl_IsPackage.f k a1_0 a1_1 a1_2 a1_3 a1_4 a1_5 a1_6 a1_7).bind fun t2 => (bif !t2 then some (0 : Int) else (impl_PackageInts.f k a1_0 a1_1 a1_2 a1_3 a1_4 a1_5 a1_6 a1_7).bind fun t3 => (impl_KeyedHash.f k a0 t3).bind fun t4 => some t4))
def impl_sealOf.Γ (k : Nat) : Ct κ := assoc [(33, impl_IsValidKey.C k), (32, impl_IsPackage.C k), (34, impl_PackageInts.C k), (114, impl_KeyedHash.C k)]
def impl_sealOf.LH (k : Nat) : Nat → Option (LHi κ) := assoc []
theorem impl_sealOf.hΓ (k : Nat) : ∀ f g, impl_sealOf.Γ k f = some g → CSound Try.prog f g := G_cons (impl_IsValidKey.ok k) (G_cons (impl_IsPackage.ok k) (G_cons (impl_PackageInts.ok k) (G_cons (impl_KeyedHash.ok k) G_nil)))
theorem impl_sealOf.lok (k : Nat) : LOK ti (impl_sealOf.Γ k) (impl_sealOf.LH k) 4 (loopsOf (bodyOf Try.f63)) :=
  (show loopsOf (bodyOf Try.f63) = [] by kernel_rfl) ▸ LOK_nil
def impl_sealOf.sig : List PSh := [.one .sc, .agg [.sc, .sc, .sc, .ro 2, .ro 3, .ro 4, .ro 1, .sc]]
def impl_sealOf.g (y : Int) : Ret κ := ⟨.v (.int .i64 y), [], []⟩
def impl_sealOf.out (r : Ret κ) : Option Int :=
  match r with
  | ⟨.v (.int .i64 z0), [], []⟩ => some (z0)
  | _ => none
theorem impl_sealOf.out_ok (r : Ret κ) (y : Int) (h : impl_sealOf.out r = some y) : r = impl_sealOf.g y := by
  unfold impl_sealOf.out at h
  split at h
  · obtain rfl := Option.some.inj h
    rfl
  · cases h
def impl_sealOf.body (k : Nat) (vs : List AV) (bs : List (Blk κ)) : Option (Lf κ) :=
  match vs, bs with
  | [.v (.int .i64 a0), .agg [.int .i64 a1_0, .int .i64 a1_1, .int .i64 a1_2, .sl 0, .sl 1, .sl 2, .sl 3, .int .i64 a1_7]], [qb0, qb1, qb2, qb3] => (asO 2 false qb0).bind fun a1_3 => (asO 3 false qb1).bind fun a1_4 => (asO 4 false qb2).bind fun a1_5 => (asO 1 false qb3).bind fun a1_6 => some ⟨Int, impl_sealOf.f k a0 a1_0 a1_1 a1_2 a1_3 a1_4 a1_5 a1_6 a1_7, impl_sealOf.g⟩
  | _, _ => none
def impl_sealOf.C (k : Nat) : Nat → List AV → AP κ AV := contract impl_sealOf.sig (impl_sealOf.body k)
theorem impl_sealOf.den (k : Nat) (a0 : Int) (a1_0 : Int) (a1_1 : Int) (a1_2 : Int) (a1_3 : List T_impl_Grant) (a1_4 : List T_impl_Flow) (a1_5 : List T_impl_Rule) (a1_6 : List T_impl_Op) (a1_7 : Int) : Code.den ti (impl_sealOf.Γ k) (impl_sealOf.LH k) (bodyOf Try.f63) (finK ti Try.f63.results.toList [] (flags impl_sealOf.sig).length (rwI (flags impl_sealOf.sig) 0) impl_sealOf.out) ⟨envOf (([.v (.int .i64 a0), .agg [.int .i64 a1_0, .int .i64 a1_1, .int .i64 a1_2, .sl 0, .sl 1, .sl 2, .sl 3, .int .i64 a1_7]]).zipIdx.map fun q => (q.2, q.1)), hpOf [.rows 2 false a1_3, .rows 3 false a1_4, .rows 4 false a1_5, .rows 1 false a1_6], (flags impl_sealOf.sig).length⟩ = impl_sealOf.f k a0 a1_0 a1_1 a1_2 a1_3 a1_4 a1_5 a1_6 a1_7 := by kernel_rfl
theorem impl_sealOf.ok (k : Nat) : CSound Try.prog 63 (impl_sealOf.C k) :=
  csound κ_ok mixed tok (impl_sealOf.hΓ k) (LH := impl_sealOf.LH k) (fn := Try.f63) (c := bodyOf Try.f63) Try.func63 rfl Try.call63 impl_sealOf.sig [] (impl_sealOf.body k) (by kernel_rfl) (impl_sealOf.lok k) (by decide) fun vs bs lf y hl hb hy => by
    unfold impl_sealOf.body at hb
    split at hb
    · obtain ⟨_, rfl, hb_1⟩ := asO_bind hb
      obtain ⟨_, rfl, hb_2⟩ := asO_bind hb_1
      obtain ⟨_, rfl, hb_3⟩ := asO_bind hb_2
      obtain ⟨_, rfl, hb_4⟩ := asO_bind hb_3
      obtain rfl := Option.some.inj hb_4
      exact ⟨impl_sealOf.out, impl_sealOf.out_ok, (impl_sealOf.den k _ _ _ _ _ _ _ _ _).trans hy⟩
    · cases hb
/-! ### impl_IsSealed -/
def impl_IsSealed.f (k : Nat) (a0 : Int) (a1_0 : Int) (a1_1 : Int) (a1_2 : Int) (a1_3 : List T_impl_Grant) (a1_4 : List T_impl_Flow) (a1_5 : List T_impl_Rule) (a1_6 : List T_impl_Op) (a1_7 : Int) : Option Bool :=
  (impl_IsPackage.f k a1_0 a1_1 a1_2 a1_3 a1_4 a1_5 a1_6 a1_7).bind fun t1 => (bif t1 then (impl_IsValidKey.f k a0).bind fun t2 => (bif t2 then (impl_sealOf.f k a0 a1_0 a1_1 a1_2 a1_3 a1_4 a1_5 a1_6 a1_7).bind fun t3 => some (a1_7 == t3) else some false) else some false)
def impl_IsSealed.Γ (k : Nat) : Ct κ := assoc [(32, impl_IsPackage.C k), (33, impl_IsValidKey.C k), (63, impl_sealOf.C k)]
def impl_IsSealed.LH (k : Nat) : Nat → Option (LHi κ) := assoc []
theorem impl_IsSealed.hΓ (k : Nat) : ∀ f g, impl_IsSealed.Γ k f = some g → CSound Try.prog f g := G_cons (impl_IsPackage.ok k) (G_cons (impl_IsValidKey.ok k) (G_cons (impl_sealOf.ok k) G_nil))
theorem impl_IsSealed.lok (k : Nat) : LOK ti (impl_IsSealed.Γ k) (impl_IsSealed.LH k) 4 (loopsOf (bodyOf Try.f15)) :=
  (show loopsOf (bodyOf Try.f15) = [] by kernel_rfl) ▸ LOK_nil
def impl_IsSealed.sig : List PSh := [.one .sc, .agg [.sc, .sc, .sc, .ro 2, .ro 3, .ro 4, .ro 1, .sc]]
def impl_IsSealed.g (y : Bool) : Ret κ := ⟨.v (.bool y), [], []⟩
def impl_IsSealed.out (r : Ret κ) : Option Bool :=
  match r with
  | ⟨.v (.bool z0), [], []⟩ => some (z0)
  | _ => none
theorem impl_IsSealed.out_ok (r : Ret κ) (y : Bool) (h : impl_IsSealed.out r = some y) : r = impl_IsSealed.g y := by
  unfold impl_IsSealed.out at h
  split at h
  · obtain rfl := Option.some.inj h
    rfl
  · cases h
def impl_IsSealed.body (k : Nat) (vs : List AV) (bs : List (Blk κ)) : Option (Lf κ) :=
  match vs, bs with
  | [.v (.int .i64 a0), .agg [.int .i64 a1_0, .int .i64 a1_1, .int .i64 a1_2, .sl 0, .sl 1, .sl 2, .sl 3, .int .i64 a1_7]], [qb0, qb1, qb2, qb3] => (asO 2 false qb0).bind fun a1_3 => (asO 3 false qb1).bind fun a1_4 => (asO 4 false qb2).bind fun a1_5 => (asO 1 false qb3).bind fun a1_6 => some ⟨Bool, impl_IsSealed.f k a0 a1_0 a1_1 a1_2 a1_3 a1_4 a1_5 a1_6 a1_7, impl_IsSealed.g⟩
  | _, _ => none
def impl_IsSealed.C (k : Nat) : Nat → List AV → AP κ AV := contract impl_IsSealed.sig (impl_IsSealed.body k)
theorem impl_IsSealed.den (k : Nat) (a0 : Int) (a1_0 : Int) (a1_1 : Int) (a1_2 : Int) (a1_3 : List T_impl_Grant) (a1_4 : List T_impl_Flow) (a1_5 : List T_impl_Rule) (a1_6 : List T_impl_Op) (a1_7 : Int) : Code.den ti (impl_IsSealed.Γ k) (impl_IsSealed.LH k) (bodyOf Try.f15) (finK ti Try.f15.results.toList [] (flags impl_IsSealed.sig).length (rwI (flags impl_IsSealed.sig) 0) impl_IsSealed.out) ⟨envOf (([.v (.int .i64 a0), .agg [.int .i64 a1_0, .int .i64 a1_1, .int .i64 a1_2, .sl 0, .sl 1, .sl 2, .sl 3, .int .i64 a1_7]]).zipIdx.map fun q => (q.2, q.1)), hpOf [.rows 2 false a1_3, .rows 3 false a1_4, .rows 4 false a1_5, .rows 1 false a1_6], (flags impl_IsSealed.sig).length⟩ = impl_IsSealed.f k a0 a1_0 a1_1 a1_2 a1_3 a1_4 a1_5 a1_6 a1_7 := by kernel_rfl
theorem impl_IsSealed.ok (k : Nat) : CSound Try.prog 15 (impl_IsSealed.C k) :=
  csound κ_ok mixed tok (impl_IsSealed.hΓ k) (LH := impl_IsSealed.LH k) (fn := Try.f15) (c := bodyOf Try.f15) Try.func15 rfl Try.call15 impl_IsSealed.sig [] (impl_IsSealed.body k) (by kernel_rfl) (impl_IsSealed.lok k) (by decide) fun vs bs lf y hl hb hy => by
    unfold impl_IsSealed.body at hb
    split at hb
    · obtain ⟨_, rfl, hb_1⟩ := asO_bind hb
      obtain ⟨_, rfl, hb_2⟩ := asO_bind hb_1
      obtain ⟨_, rfl, hb_3⟩ := asO_bind hb_2
      obtain ⟨_, rfl, hb_4⟩ := asO_bind hb_3
      obtain rfl := Option.some.inj hb_4
      exact ⟨impl_IsSealed.out, impl_IsSealed.out_ok, (impl_IsSealed.den k _ _ _ _ _ _ _ _ _).trans hy⟩
    · cases hb
/-! ### impl_deedSeal -/
def impl_deedSeal.f (k : Nat) (a0 : Int) (a1 : Int) (a2_0 : Int) (a2_1 : Int) (a2_2 : Int) (a2_3 : Int) (a2_4 : Int) : Option Int :=
  (impl_IsValidKey.f k a0).bind fun t1 => (bif !t1 then some (0 : Int) else (impl_KeyedHash.f k a0 ([a1, a2_0, a2_1, a2_2] : List Int)).bind fun t2 => some t2)
def impl_deedSeal.Γ (k : Nat) : Ct κ := assoc [(33, impl_IsValidKey.C k), (114, impl_KeyedHash.C k)]
def impl_deedSeal.LH (k : Nat) : Nat → Option (LHi κ) := assoc []
theorem impl_deedSeal.hΓ (k : Nat) : ∀ f g, impl_deedSeal.Γ k f = some g → CSound Try.prog f g := G_cons (impl_IsValidKey.ok k) (G_cons (impl_KeyedHash.ok k) G_nil)
theorem impl_deedSeal.lok (k : Nat) : LOK ti (impl_deedSeal.Γ k) (impl_deedSeal.LH k) 0 (loopsOf (bodyOf Try.f68)) :=
  (show loopsOf (bodyOf Try.f68) = [] by kernel_rfl) ▸ LOK_nil
def impl_deedSeal.sig : List PSh := [.one .sc, .one .sc, .agg [.sc, .sc, .sc, .sc, .sc]]
def impl_deedSeal.g (y : Int) : Ret κ := ⟨.v (.int .i64 y), [], []⟩
def impl_deedSeal.out (r : Ret κ) : Option Int :=
  match r with
  | ⟨.v (.int .i64 z0), [], []⟩ => some (z0)
  | _ => none
theorem impl_deedSeal.out_ok (r : Ret κ) (y : Int) (h : impl_deedSeal.out r = some y) : r = impl_deedSeal.g y := by
  unfold impl_deedSeal.out at h
  split at h
  · obtain rfl := Option.some.inj h
    rfl
  · cases h
def impl_deedSeal.body (k : Nat) (vs : List AV) (bs : List (Blk κ)) : Option (Lf κ) :=
  match vs, bs with
  | [.v (.int .i64 a0), .v (.int .i64 a1), .agg [.int .i64 a2_0, .int .i64 a2_1, .int .i64 a2_2, .int .i64 a2_3, .int .i64 a2_4]], [] => some ⟨Int, impl_deedSeal.f k a0 a1 a2_0 a2_1 a2_2 a2_3 a2_4, impl_deedSeal.g⟩
  | _, _ => none
def impl_deedSeal.C (k : Nat) : Nat → List AV → AP κ AV := contract impl_deedSeal.sig (impl_deedSeal.body k)
theorem impl_deedSeal.den (k : Nat) (a0 : Int) (a1 : Int) (a2_0 : Int) (a2_1 : Int) (a2_2 : Int) (a2_3 : Int) (a2_4 : Int) : Code.den ti (impl_deedSeal.Γ k) (impl_deedSeal.LH k) (bodyOf Try.f68) (finK ti Try.f68.results.toList [] (flags impl_deedSeal.sig).length (rwI (flags impl_deedSeal.sig) 0) impl_deedSeal.out) ⟨envOf (([.v (.int .i64 a0), .v (.int .i64 a1), .agg [.int .i64 a2_0, .int .i64 a2_1, .int .i64 a2_2, .int .i64 a2_3, .int .i64 a2_4]]).zipIdx.map fun q => (q.2, q.1)), hpOf [], (flags impl_deedSeal.sig).length⟩ = impl_deedSeal.f k a0 a1 a2_0 a2_1 a2_2 a2_3 a2_4 := by kernel_rfl
theorem impl_deedSeal.ok (k : Nat) : CSound Try.prog 68 (impl_deedSeal.C k) :=
  csound κ_ok mixed tok (impl_deedSeal.hΓ k) (LH := impl_deedSeal.LH k) (fn := Try.f68) (c := bodyOf Try.f68) Try.func68 rfl Try.call68 impl_deedSeal.sig [] (impl_deedSeal.body k) (by kernel_rfl) (impl_deedSeal.lok k) (by decide) fun vs bs lf y hl hb hy => by
    unfold impl_deedSeal.body at hb
    split at hb
    · obtain rfl := Option.some.inj hb
      exact ⟨impl_deedSeal.out, impl_deedSeal.out_ok, (impl_deedSeal.den k _ _ _ _ _ _ _).trans hy⟩
    · cases hb
/-! ### impl_SealDeed -/
def impl_SealDeed.f (k : Nat) (a0_0 : Int) (a0_1 : Int) (a0_2 : Int) (a0_3 : Int) (a0_4 : Int) (a1 : Int) (a2 : Int) : Option (Int × Int × Int × Int × Int) :=
  (impl_deedSeal.f k a1 (1 : Int) a0_0 a0_1 a0_2 a0_3 a0_4).bind fun t1 => (impl_deedSeal.f k a2 (2 : Int) a0_0 a0_1 a0_2 a0_3 a0_4).bind fun t2 => some (a0_0, a0_1, a0_2, t1, t2)
def impl_SealDeed.Γ (k : Nat) : Ct κ := assoc [(68, impl_deedSeal.C k)]
def impl_SealDeed.LH (k : Nat) : Nat → Option (LHi κ) := assoc []
theorem impl_SealDeed.hΓ (k : Nat) : ∀ f g, impl_SealDeed.Γ k f = some g → CSound Try.prog f g := G_cons (impl_deedSeal.ok k) G_nil
theorem impl_SealDeed.lok (k : Nat) : LOK ti (impl_SealDeed.Γ k) (impl_SealDeed.LH k) 0 (loopsOf (bodyOf Try.f17)) :=
  (show loopsOf (bodyOf Try.f17) = [] by kernel_rfl) ▸ LOK_nil
def impl_SealDeed.sig : List PSh := [.agg [.sc, .sc, .sc, .sc, .sc], .one .sc, .one .sc]
def impl_SealDeed.g (y : Int × Int × Int × Int × Int) : Ret κ := ⟨.agg [.int .i64 y.1, .int .i64 y.2.1, .int .i64 y.2.2.1, .int .i64 y.2.2.2.1, .int .i64 y.2.2.2.2], [], []⟩
def impl_SealDeed.out (r : Ret κ) : Option (Int × Int × Int × Int × Int) :=
  match r with
  | ⟨.agg [.int .i64 z0, .int .i64 z1, .int .i64 z2, .int .i64 z3, .int .i64 z4], [], []⟩ => some (z0, z1, z2, z3, z4)
  | _ => none
theorem impl_SealDeed.out_ok (r : Ret κ) (y : Int × Int × Int × Int × Int) (h : impl_SealDeed.out r = some y) : r = impl_SealDeed.g y := by
  unfold impl_SealDeed.out at h
  split at h
  · obtain rfl := Option.some.inj h
    rfl
  · cases h
def impl_SealDeed.body (k : Nat) (vs : List AV) (bs : List (Blk κ)) : Option (Lf κ) :=
  match vs, bs with
  | [.agg [.int .i64 a0_0, .int .i64 a0_1, .int .i64 a0_2, .int .i64 a0_3, .int .i64 a0_4], .v (.int .i64 a1), .v (.int .i64 a2)], [] => some ⟨Int × Int × Int × Int × Int, impl_SealDeed.f k a0_0 a0_1 a0_2 a0_3 a0_4 a1 a2, impl_SealDeed.g⟩
  | _, _ => none
def impl_SealDeed.C (k : Nat) : Nat → List AV → AP κ AV := contract impl_SealDeed.sig (impl_SealDeed.body k)
theorem impl_SealDeed.den (k : Nat) (a0_0 : Int) (a0_1 : Int) (a0_2 : Int) (a0_3 : Int) (a0_4 : Int) (a1 : Int) (a2 : Int) : Code.den ti (impl_SealDeed.Γ k) (impl_SealDeed.LH k) (bodyOf Try.f17) (finK ti Try.f17.results.toList [] (flags impl_SealDeed.sig).length (rwI (flags impl_SealDeed.sig) 0) impl_SealDeed.out) ⟨envOf (([.agg [.int .i64 a0_0, .int .i64 a0_1, .int .i64 a0_2, .int .i64 a0_3, .int .i64 a0_4], .v (.int .i64 a1), .v (.int .i64 a2)]).zipIdx.map fun q => (q.2, q.1)), hpOf [], (flags impl_SealDeed.sig).length⟩ = impl_SealDeed.f k a0_0 a0_1 a0_2 a0_3 a0_4 a1 a2 := by kernel_rfl
theorem impl_SealDeed.ok (k : Nat) : CSound Try.prog 17 (impl_SealDeed.C k) :=
  csound κ_ok mixed tok (impl_SealDeed.hΓ k) (LH := impl_SealDeed.LH k) (fn := Try.f17) (c := bodyOf Try.f17) Try.func17 rfl Try.call17 impl_SealDeed.sig [] (impl_SealDeed.body k) (by kernel_rfl) (impl_SealDeed.lok k) (by decide) fun vs bs lf y hl hb hy => by
    unfold impl_SealDeed.body at hb
    split at hb
    · obtain rfl := Option.some.inj hb
      exact ⟨impl_SealDeed.out, impl_SealDeed.out_ok, (impl_SealDeed.den k _ _ _ _ _ _ _).trans hy⟩
    · cases hb
/-! ### impl_IsDeed -/
def impl_IsDeed.f (k : Nat) (a0_0 : Int) (a0_1 : Int) (a0_2 : Int) (a0_3 : Int) (a0_4 : Int) (a1 : Int) (a2 : Int) : Option Bool :=
  (impl_InRange.f k a0_0 (1 : Int) (5 : Int)).bind fun t1 => (bif t1 then (impl_InRange.f k a0_1 (1 : Int) (9 : Int)).bind fun t2 => (bif t2 then (impl_InRange.f k a0_2 (1 : Int) (9 : Int)).bind fun t3 => (bif t3 then (bif (a0_1 != a0_2) then (impl_IsValidKey.f k a1).bind fun t4 => (bif t4 then (impl_IsValidKey.f k a2).bind fun t5 => (bif t5 then (impl_SealDeed.f k a0_0 a0_1 a0_2 a0_3 a0_4 a1 a2).bind fun t6 => some ((a0_0 == t6.1) && ((a0_1 == t6.2.1) && ((a0_2 == t6.2.2.1) && ((a0_3 == t6.2.2.2.1) && (a0_4 == t6.2.2.2.2))))) else some false) else some false) else some false) else some false) else some false) else some false)
def impl_IsDeed.Γ (k : Nat) : Ct κ := assoc [(62, impl_InRange.C k), (33, impl_IsValidKey.C k), (17, impl_SealDeed.C k)]
def impl_IsDeed.LH (k : Nat) : Nat → Option (LHi κ) := assoc []
theorem impl_IsDeed.hΓ (k : Nat) : ∀ f g, impl_IsDeed.Γ k f = some g → CSound Try.prog f g := G_cons (impl_InRange.ok k) (G_cons (impl_IsValidKey.ok k) (G_cons (impl_SealDeed.ok k) G_nil))
theorem impl_IsDeed.lok (k : Nat) : LOK ti (impl_IsDeed.Γ k) (impl_IsDeed.LH k) 0 (loopsOf (bodyOf Try.f14)) :=
  (show loopsOf (bodyOf Try.f14) = [] by kernel_rfl) ▸ LOK_nil
def impl_IsDeed.sig : List PSh := [.agg [.sc, .sc, .sc, .sc, .sc], .one .sc, .one .sc]
def impl_IsDeed.g (y : Bool) : Ret κ := ⟨.v (.bool y), [], []⟩
def impl_IsDeed.out (r : Ret κ) : Option Bool :=
  match r with
  | ⟨.v (.bool z0), [], []⟩ => some (z0)
  | _ => none
theorem impl_IsDeed.out_ok (r : Ret κ) (y : Bool) (h : impl_IsDeed.out r = some y) : r = impl_IsDeed.g y := by
  unfold impl_IsDeed.out at h
  split at h
  · obtain rfl := Option.some.inj h
    rfl
  · cases h
def impl_IsDeed.body (k : Nat) (vs : List AV) (bs : List (Blk κ)) : Option (Lf κ) :=
  match vs, bs with
  | [.agg [.int .i64 a0_0, .int .i64 a0_1, .int .i64 a0_2, .int .i64 a0_3, .int .i64 a0_4], .v (.int .i64 a1), .v (.int .i64 a2)], [] => some ⟨Bool, impl_IsDeed.f k a0_0 a0_1 a0_2 a0_3 a0_4 a1 a2, impl_IsDeed.g⟩
  | _, _ => none
def impl_IsDeed.C (k : Nat) : Nat → List AV → AP κ AV := contract impl_IsDeed.sig (impl_IsDeed.body k)
theorem impl_IsDeed.den (k : Nat) (a0_0 : Int) (a0_1 : Int) (a0_2 : Int) (a0_3 : Int) (a0_4 : Int) (a1 : Int) (a2 : Int) : Code.den ti (impl_IsDeed.Γ k) (impl_IsDeed.LH k) (bodyOf Try.f14) (finK ti Try.f14.results.toList [] (flags impl_IsDeed.sig).length (rwI (flags impl_IsDeed.sig) 0) impl_IsDeed.out) ⟨envOf (([.agg [.int .i64 a0_0, .int .i64 a0_1, .int .i64 a0_2, .int .i64 a0_3, .int .i64 a0_4], .v (.int .i64 a1), .v (.int .i64 a2)]).zipIdx.map fun q => (q.2, q.1)), hpOf [], (flags impl_IsDeed.sig).length⟩ = impl_IsDeed.f k a0_0 a0_1 a0_2 a0_3 a0_4 a1 a2 := by kernel_rfl
theorem impl_IsDeed.ok (k : Nat) : CSound Try.prog 14 (impl_IsDeed.C k) :=
  csound κ_ok mixed tok (impl_IsDeed.hΓ k) (LH := impl_IsDeed.LH k) (fn := Try.f14) (c := bodyOf Try.f14) Try.func14 rfl Try.call14 impl_IsDeed.sig [] (impl_IsDeed.body k) (by kernel_rfl) (impl_IsDeed.lok k) (by decide) fun vs bs lf y hl hb hy => by
    unfold impl_IsDeed.body at hb
    split at hb
    · obtain rfl := Option.some.inj hb
      exact ⟨impl_IsDeed.out, impl_IsDeed.out_ok, (impl_IsDeed.den k _ _ _ _ _ _ _).trans hy⟩
    · cases hb
end Go.Proofs.Ythingkcckjiniaa.PFnTransferred
