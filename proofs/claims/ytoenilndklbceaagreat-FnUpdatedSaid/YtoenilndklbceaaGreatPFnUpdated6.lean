/- What the functions that the law FnUpdated reaches come to; no conditions. -/
import Derived.Test.YtoenilndklbceaaGreatPFnUpdated5
set_option linter.unusedVariables false
set_option maxRecDepth 100000
namespace Go.Proofs.YtoenilndklbceaaGreat.PFnUpdated
open Go Go.Eng Go.Proofs
/-! ### impl_IsValidKey -/
def impl_IsValidKey.f (k : Nat) (a0 : Int) : Option Bool :=
  (impl_InRange.f k a0 (1 : Int) (2147483646 : Int)).bind fun t1 => some t1
def impl_IsValidKey.Γ (k : Nat) : Ct κ := assoc [(111, impl_InRange.C k)]
def impl_IsValidKey.LH (k : Nat) : Nat → Option (LHi κ) := assoc []
theorem impl_IsValidKey.hΓ (k : Nat) : ∀ f g, impl_IsValidKey.Γ k f = some g → CSound Tryz.prog f g := G_cons (impl_InRange.ok k) G_nil
theorem impl_IsValidKey.lok (k : Nat) : LOK ti (impl_IsValidKey.Γ k) (impl_IsValidKey.LH k) 0 (loopsOf (bodyOf Tryz.f87)) :=
  (show loopsOf (bodyOf Tryz.f87) = [] by kernel_rfl) ▸ LOK_nil
def impl_IsValidKey.sig : List PSh := [.one .sc]
def impl_IsValidKey.g (y : Bool) : Ret κ := ⟨.v (.bool y), [], []⟩
def impl_IsValidKey.out (r : Ret κ) : Option Bool :=
  match r with
  | ⟨.v (.bool z0), [], []⟩ => some (z0)
  | _ => none
theorem impl_IsValidKey.out_ok (r : Ret κ) (y : Bool) (h : impl_IsValidKey.out r = some y) : r = impl_IsValidKey.g y := by
  unfold impl_IsValidKey.out at h
  split at h
  · obtain rfl := Option.some.inj h
    rfl
  · cases h
def impl_IsValidKey.body (k : Nat) (vs : List AV) (bs : List (Blk κ)) : Option (Lf κ) :=
  match vs, bs with
  | [.v (.int .i64 a0)], [] => some ⟨Bool, impl_IsValidKey.f k a0, impl_IsValidKey.g⟩
  | _, _ => none
def impl_IsValidKey.C (k : Nat) : Nat → List AV → AP κ AV := contract impl_IsValidKey.sig (impl_IsValidKey.body k)
theorem impl_IsValidKey.den (k : Nat) (a0 : Int) : Code.den ti (impl_IsValidKey.Γ k) (impl_IsValidKey.LH k) (bodyOf Tryz.f87) (finK ti Tryz.f87.results.toList [] (flags impl_IsValidKey.sig).length (rwI (flags impl_IsValidKey.sig) 0) impl_IsValidKey.out) ⟨envOf (([.v (.int .i64 a0)]).zipIdx.map fun q => (q.2, q.1)), hpOf [], (flags impl_IsValidKey.sig).length⟩ = impl_IsValidKey.f k a0 := by kernel_rfl
theorem impl_IsValidKey.ok (k : Nat) : CSound Tryz.prog 87 (impl_IsValidKey.C k) :=
  csound κ_ok mixed tok (impl_IsValidKey.hΓ k) (LH := impl_IsValidKey.LH k) (fn := Tryz.f87) (c := bodyOf Tryz.f87) Tryz.func87 rfl Tryz.call87 impl_IsValidKey.sig [] (impl_IsValidKey.body k) (by kernel_rfl) (impl_IsValidKey.lok k) (by decide) fun vs bs lf y hl hb hy => by
    unfold impl_IsValidKey.body at hb
    split at hb
    · obtain rfl := Option.some.inj hb
      exact ⟨impl_IsValidKey.out, impl_IsValidKey.out_ok, (impl_IsValidKey.den k _).trans hy⟩
    · cases hb
/-! ### impl_bit -/
def impl_bit.f (k : Nat) (a0 : Bool) : Option Int :=
  (bif a0 then some (1 : Int) else some (0 : Int))
def impl_bit.Γ (k : Nat) : Ct κ := assoc []
def impl_bit.LH (k : Nat) : Nat → Option (LHi κ) := assoc []
theorem impl_bit.hΓ (k : Nat) : ∀ f g, impl_bit.Γ k f = some g → CSound Tryz.prog f g := G_nil
theorem impl_bit.lok (k : Nat) : LOK ti (impl_bit.Γ k) (impl_bit.LH k) 0 (loopsOf (bodyOf Tryz.f168)) :=
  (show loopsOf (bodyOf Tryz.f168) = [] by kernel_rfl) ▸ LOK_nil
def impl_bit.sig : List PSh := [.one .sc]
def impl_bit.g (y : Int) : Ret κ := ⟨.v (.int .i64 y), [], []⟩
def impl_bit.out (r : Ret κ) : Option Int :=
  match r with
  | ⟨.v (.int .i64 z0), [], []⟩ => some (z0)
  | _ => none
theorem impl_bit.out_ok (r : Ret κ) (y : Int) (h : impl_bit.out r = some y) : r = impl_bit.g y := by
  unfold impl_bit.out at h
  split at h
  · obtain rfl := Option.some.inj h
    rfl
  · cases h
def impl_bit.body (k : Nat) (vs : List AV) (bs : List (Blk κ)) : Option (Lf κ) :=
  match vs, bs with
  | [.v (.bool a0)], [] => some ⟨Int, impl_bit.f k a0, impl_bit.g⟩
  | _, _ => none
def impl_bit.C (k : Nat) : Nat → List AV → AP κ AV := contract impl_bit.sig (impl_bit.body k)
theorem impl_bit.den (k : Nat) (a0 : Bool) : Code.den ti (impl_bit.Γ k) (impl_bit.LH k) (bodyOf Tryz.f168) (finK ti Tryz.f168.results.toList [] (flags impl_bit.sig).length (rwI (flags impl_bit.sig) 0) impl_bit.out) ⟨envOf (([.v (.bool a0)]).zipIdx.map fun q => (q.2, q.1)), hpOf [], (flags impl_bit.sig).length⟩ = impl_bit.f k a0 := by kernel_rfl
theorem impl_bit.ok (k : Nat) : CSound Tryz.prog 168 (impl_bit.C k) :=
  csound κ_ok mixed tok (impl_bit.hΓ k) (LH := impl_bit.LH k) (fn := Tryz.f168) (c := bodyOf Tryz.f168) Tryz.func168 rfl Tryz.call168 impl_bit.sig [] (impl_bit.body k) (by kernel_rfl) (impl_bit.lok k) (by decide) fun vs bs lf y hl hb hy => by
    unfold impl_bit.body at hb
    split at hb
    · obtain rfl := Option.some.inj hb
      exact ⟨impl_bit.out, impl_bit.out_ok, (impl_bit.den k _).trans hy⟩
    · cases hb
/-! ### impl_PackageInts -/
def impl_PackageInts.L5 {R : Type} (k : Nat) (x3 : Int) (xl0 : List T_impl_Grant) (xl1 : List T_impl_Flow) (xl2 : List T_impl_Rule) (xl3 : List T_impl_Op) (xc4_0 : Int) (xc4_1 : Int) (xc4_2 : Int) (xc4_7 : Int) (X0 : List Int → Option R) (rec : Int → List Int → Option R) (x4 : Int) (xl5 : List Int) : Option R :=
  (bif decide (x4 < x3) then (bif decide (0 ≤ x4) then (bif decide (x4 < (xl0.length : Int)) then (impl_bit.f k ((rd_impl_Grant xl0 x4).f5)).bind fun t2 => (bif decide ((xl5.length + ([(rd_impl_Grant xl0 x4).f1.f0, (rd_impl_Grant xl0 x4).f1.f1, (rd_impl_Grant xl0 x4).f2, (rd_impl_Grant xl0 x4).f3, (rd_impl_Grant xl0 x4).f4, t2] : List Int).length) * 8 ≤ cap48) then (let l3 : List Int := (xl5 ++ ([(rd_impl_Grant xl0 x4).f1.f0, (rd_impl_Grant xl0 x4).f1.f1, (rd_impl_Grant xl0 x4).f2, (rd_impl_Grant xl0 x4).f3, (rd_impl_Grant xl0 x4).f4, t2] : List Int)); (rec (w64 (x4 + (1 : Int))) l3)) else none) else none) else none) else (X0 xl5))
def impl_PackageInts.l5 {R : Type} (k : Nat) (x3 : Int) (xl0 : List T_impl_Grant) (xl1 : List T_impl_Flow) (xl2 : List T_impl_Rule) (xl3 : List T_impl_Op) (xc4_0 : Int) (xc4_1 : Int) (xc4_2 : Int) (xc4_7 : Int) (X0 : List Int → Option R) : Nat → Int → List Int → Option R
  | 0 => fun _ _ => none
  | n + 1 => impl_PackageInts.L5 k x3 xl0 xl1 xl2 xl3 xc4_0 xc4_1 xc4_2 xc4_7 X0 (impl_PackageInts.l5 k x3 xl0 xl1 xl2 xl3 xc4_0 xc4_1 xc4_2 xc4_7 X0 n)
def impl_PackageInts.L11 {R : Type} (k : Nat) (x3 : Int) (xl0 : List T_impl_Grant) (xl1 : List T_impl_Flow) (xl2 : List T_impl_Rule) (xl3 : List T_impl_Op) (xc4_0 : Int) (xc4_1 : Int) (xc4_2 : Int) (xc4_7 : Int) (X0 : List Int → Option R) (rec : Int → List Int → Option R) (x4 : Int) (xl5 : List Int) : Option R :=
  (bif decide (x4 < x3) then (bif decide (0 ≤ x4) then (bif decide (x4 < (xl1.length : Int)) then (bif decide ((xl5.length + ([(rd_impl_Flow xl1 x4).f1, (rd_impl_Flow xl1 x4).f2] : List Int).length) * 8 ≤ cap48) then (let l5 : List Int := (xl5 ++ ([(rd_impl_Flow xl1 x4).f1, (rd_impl_Flow xl1 x4).f2] : List Int)); (rec (w64 (x4 + (1 : Int))) l5)) else none) else none) else none) else (X0 xl5))
def impl_PackageInts.l11 {R : Type} (k : Nat) (x3 : Int) (xl0 : List T_impl_Grant) (xl1 : List T_impl_Flow) (xl2 : List T_impl_Rule) (xl3 : List T_impl_Op) (xc4_0 : Int) (xc4_1 : Int) (xc4_2 : Int) (xc4_7 : Int) (X0 : List Int → Option R) : Nat → Int → List Int → Option R
  | 0 => fun _ _ => none
  | n + 1 => impl_PackageInts.L11 k x3 xl0 xl1 xl2 xl3 xc4_0 xc4_1 xc4_2 xc4_7 X0 (impl_PackageInts.l11 k x3 xl0 xl1 xl2 xl3 xc4_0 xc4_1 xc4_2 xc4_7 X0 n)
def impl_PackageInts.L17 {R : Type} (k : Nat) (x3 : Int) (xl0 : List T_impl_Grant) (xl1 : List T_impl_Flow) (xl2 : List T_impl_Rule) (xl3 : List T_impl_Op) (xc4_0 : Int) (xc4_1 : Int) (xc4_2 : Int) (xc4_7 : Int) (X0 : List Int → Option R) (rec : Int → List Int → Option R) (x4 : Int) (xl5 : List Int) : Option R :=
  (bif decide (x4 < x3) then (bif decide (0 ≤ x4) then (bif decide (x4 < (xl2.length : Int)) then (bif decide ((xl5.length + ([(rd_impl_Rule xl2 x4).f1, (rd_impl_Rule xl2 x4).f2.f0, (rd_impl_Rule xl2 x4).f2.f1, (rd_impl_Rule xl2 x4).f3, (rd_impl_Rule xl2 x4).f4, (rd_impl_Rule xl2 x4).f5.f0, (rd_impl_Rule xl2 x4).f5.f1] : List Int).length) * 8 ≤ cap48) then (let l7 : List Int := (xl5 ++ ([(rd_impl_Rule xl2 x4).f1, (rd_impl_Rule xl2 x4).f2.f0, (rd_impl_Rule xl2 x4).f2.f1, (rd_impl_Rule xl2 x4).f3, (rd_impl_Rule xl2 x4).f4, (rd_impl_Rule xl2 x4).f5.f0, (rd_impl_Rule xl2 x4).f5.f1] : List Int)); (rec (w64 (x4 + (1 : Int))) l7)) else none) else none) else none) else (X0 xl5))
def impl_PackageInts.l17 {R : Type} (k : Nat) (x3 : Int) (xl0 : List T_impl_Grant) (xl1 : List T_impl_Flow) (xl2 : List T_impl_Rule) (xl3 : List T_impl_Op) (xc4_0 : Int) (xc4_1 : Int) (xc4_2 : Int) (xc4_7 : Int) (X0 : List Int → Option R) : Nat → Int → List Int → Option R
  | 0 => fun _ _ => none
  | n + 1 => impl_PackageInts.L17 k x3 xl0 xl1 xl2 xl3 xc4_0 xc4_1 xc4_2 xc4_7 X0 (impl_PackageInts.l17 k x3 xl0 xl1 xl2 xl3 xc4_0 xc4_1 xc4_2 xc4_7 X0 n)
def impl_PackageInts.L23 {R : Type} (k : Nat) (x2 : Int) (xl0 : List T_impl_Grant) (xl1 : List T_impl_Flow) (xl2 : List T_impl_Rule) (xl3 : List T_impl_Op) (X0 : List Int → Option R) (rec : Int → List Int → Option R) (x3 : Int) (xl4 : List Int) : Option R :=
  (bif decide (x3 < x2) then (bif decide (0 ≤ x3) then (bif decide (x3 < (xl3.length : Int)) then (bif decide ((xl4.length + ([(rd_impl_Op xl3 x3).f0, (rd_impl_Op xl3 x3).f1, (rd_impl_Op xl3 x3).f2, (rd_impl_Op xl3 x3).f3] : List Int).length) * 8 ≤ cap48) then (let l9 : List Int := (xl4 ++ ([(rd_impl_Op xl3 x3).f0, (rd_impl_Op xl3 x3).f1, (rd_impl_Op xl3 x3).f2, (rd_impl_Op xl3 x3).f3] : List Int)); (rec (w64 (x3 + (1 : Int))) l9)) else none) else none) else none) else (X0 xl4))
def impl_PackageInts.l23 {R : Type} (k : Nat) (x2 : Int) (xl0 : List T_impl_Grant) (xl1 : List T_impl_Flow) (xl2 : List T_impl_Rule) (xl3 : List T_impl_Op) (X0 : List Int → Option R) : Nat → Int → List Int → Option R
  | 0 => fun _ _ => none
  | n + 1 => impl_PackageInts.L23 k x2 xl0 xl1 xl2 xl3 X0 (impl_PackageInts.l23 k x2 xl0 xl1 xl2 xl3 X0 n)
def impl_PackageInts.f (k : Nat) (a0_0 : Int) (a0_1 : Int) (a0_2 : Int) (a0_3 : List T_impl_Grant) (a0_4 : List T_impl_Flow) (a0_5 : List T_impl_Rule) (a0_6 : List T_impl_Op) (a0_7 : Int) : Option (List Int) :=
  (impl_IsPackage.f k a0_0 a0_1 a0_2 a0_3 a0_4 a0_5 a0_6 a0_7).bind fun t1 => (bif !t1 then some ([] : List Int) else (impl_PackageInts.l5 k (a0_3.length : Int) a0_3 a0_4 a0_5 a0_6 a0_0 a0_1 a0_2 a0_7 (fun (y4 : List Int) => (bif decide ((y4.length + ([(a0_4.length : Int)] : List Int).length) * 8 ≤ cap48) then (impl_PackageInts.l11 k (a0_4.length : Int) a0_3 a0_4 a0_5 a0_6 a0_0 a0_1 a0_2 a0_7 (fun (y6 : List Int) => (bif decide ((y6.length + ([(a0_5.length : Int)] : List Int).length) * 8 ≤ cap48) then (impl_PackageInts.l17 k (a0_5.length : Int) a0_3 a0_4 a0_5 a0_6 a0_0 a0_1 a0_2 a0_7 (fun (y8 : List Int) => (bif decide ((y8.length + ([(a0_6.length : Int)] : List Int).length) * 8 ≤ cap48) then (impl_PackageInts.l23 k (a0_6.length : Int) a0_3 a0_4 a0_5 a0_6 (fun (y10 : List Int) => some y10) k (0 : Int) (y8 ++ ([(a0_6.length : Int)] : List Int))) else none)) k (0 : Int) (y6 ++ ([(a0_5.length : Int)] : List Int))) else none)) k (0 : Int) (y4 ++ ([(a0_4.length : Int)] : List Int))) else none)) k (0 : Int) ([a0_0, a0_1, a0_2, (a0_3.length : Int)] : List Int)))
def impl_PackageInts.h5 (k : Nat) {R : Type} (K : Ex → St κ → Option R) (vs : List AV) (bs : List (Blk κ)) : Option R :=
  match vs, bs with
  | [.v (.ptr 4 0 0), .v (.sl 5), .v (.sl 0), .v (.int .i64 x3), .v (.int .i64 x4)], [qb0, qb1, qb2, qb3, .cells 39 [.int .i64 xc4_0, .int .i64 xc4_1, .int .i64 xc4_2, .sl 0, .sl 1, .sl 2, .sl 3, .int .i64 xc4_7], qb5] => (asO 2 false qb0).bind fun xl0 => (asO 3 false qb1).bind fun xl1 => (asO 4 false qb2).bind fun xl2 => (asO 1 false qb3).bind fun xl3 => (asO 5 true qb5).bind fun xl5 => impl_PackageInts.l5 k x3 xl0 xl1 xl2 xl3 xc4_0 xc4_1 xc4_2 xc4_7 (fun (zl5 : List Int) => K (.exit 0) (stOf [(1, [none, none, none, some 2, some 3, some 4, some 1, none]), (3, [some 5])] [.v (.ptr 4 0 0), .v (.sl 5)] [.rows 2 false xl0, .rows 3 false xl1, .rows 4 false xl2, .rows 1 false xl3, .cells 39 [.int .i64 xc4_0, .int .i64 xc4_1, .int .i64 xc4_2, .sl 0, .sl 1, .sl 2, .sl 3, .int .i64 xc4_7], .rows 5 true zl5])) k x4 xl5
  | _, _ => none
def impl_PackageInts.h11 (k : Nat) {R : Type} (K : Ex → St κ → Option R) (vs : List AV) (bs : List (Blk κ)) : Option R :=
  match vs, bs with
  | [.v (.ptr 4 0 0), .v (.sl 5), .v (.sl 1), .v (.int .i64 x3), .v (.int .i64 x4)], [qb0, qb1, qb2, qb3, .cells 39 [.int .i64 xc4_0, .int .i64 xc4_1, .int .i64 xc4_2, .sl 0, .sl 1, .sl 2, .sl 3, .int .i64 xc4_7], qb5] => (asO 2 false qb0).bind fun xl0 => (asO 3 false qb1).bind fun xl1 => (asO 4 false qb2).bind fun xl2 => (asO 1 false qb3).bind fun xl3 => (asO 5 true qb5).bind fun xl5 => impl_PackageInts.l11 k x3 xl0 xl1 xl2 xl3 xc4_0 xc4_1 xc4_2 xc4_7 (fun (zl5 : List Int) => K (.exit 2) (stOf [(1, [none, none, none, some 2, some 3, some 4, some 1, none]), (3, [some 5])] [.v (.ptr 4 0 0), .v (.sl 5)] [.rows 2 false xl0, .rows 3 false xl1, .rows 4 false xl2, .rows 1 false xl3, .cells 39 [.int .i64 xc4_0, .int .i64 xc4_1, .int .i64 xc4_2, .sl 0, .sl 1, .sl 2, .sl 3, .int .i64 xc4_7], .rows 5 true zl5])) k x4 xl5
  | _, _ => none
def impl_PackageInts.h17 (k : Nat) {R : Type} (K : Ex → St κ → Option R) (vs : List AV) (bs : List (Blk κ)) : Option R :=
  match vs, bs with
  | [.v (.ptr 4 0 0), .v (.sl 5), .v (.sl 2), .v (.int .i64 x3), .v (.int .i64 x4)], [qb0, qb1, qb2, qb3, .cells 39 [.int .i64 xc4_0, .int .i64 xc4_1, .int .i64 xc4_2, .sl 0, .sl 1, .sl 2, .sl 3, .int .i64 xc4_7], qb5] => (asO 2 false qb0).bind fun xl0 => (asO 3 false qb1).bind fun xl1 => (asO 4 false qb2).bind fun xl2 => (asO 1 false qb3).bind fun xl3 => (asO 5 true qb5).bind fun xl5 => impl_PackageInts.l17 k x3 xl0 xl1 xl2 xl3 xc4_0 xc4_1 xc4_2 xc4_7 (fun (zl5 : List Int) => K (.exit 4) (stOf [(1, [none, none, none, some 2, some 3, some 4, some 1, none]), (3, [some 5])] [.v (.ptr 4 0 0), .v (.sl 5)] [.rows 2 false xl0, .rows 3 false xl1, .rows 4 false xl2, .rows 1 false xl3, .cells 39 [.int .i64 xc4_0, .int .i64 xc4_1, .int .i64 xc4_2, .sl 0, .sl 1, .sl 2, .sl 3, .int .i64 xc4_7], .rows 5 true zl5])) k x4 xl5
  | _, _ => none
def impl_PackageInts.h23 (k : Nat) {R : Type} (K : Ex → St κ → Option R) (vs : List AV) (bs : List (Blk κ)) : Option R :=
  match vs, bs with
  | [.v (.sl 4), .v (.sl 3), .v (.int .i64 x2), .v (.int .i64 x3)], [qb0, qb1, qb2, qb3, qb4] => (asO 2 false qb0).bind fun xl0 => (asO 3 false qb1).bind fun xl1 => (asO 4 false qb2).bind fun xl2 => (asO 1 false qb3).bind fun xl3 => (asO 5 true qb4).bind fun xl4 => impl_PackageInts.l23 k x2 xl0 xl1 xl2 xl3 (fun (zl4 : List Int) => K (.exit 6) (stOf [(3, [some 5])] [.v (.sl 4)] [.rows 2 false xl0, .rows 3 false xl1, .rows 4 false xl2, .rows 1 false xl3, .rows 5 true zl4])) k x3 xl4
  | _, _ => none
def impl_PackageInts.Γ (k : Nat) : Ct κ := assoc [(53, impl_IsPackage.C k), (168, impl_bit.C k)]
def impl_PackageInts.LH (k : Nat) : Nat → Option (LHi κ) := assoc [(5, ⟨4, [(1, [none, none, none, some 2, some 3, some 4, some 1, none]), (3, [some 5]), (27, [some 2]), (28, []), (29, [])], [(1, [none, none, none, some 2, some 3, some 4, some 1, none]), (3, [some 5])], @impl_PackageInts.h5 k⟩), (11, ⟨4, [(1, [none, none, none, some 2, some 3, some 4, some 1, none]), (3, [some 5]), (59, [some 3]), (60, []), (61, [])], [(1, [none, none, none, some 2, some 3, some 4, some 1, none]), (3, [some 5])], @impl_PackageInts.h11 k⟩), (17, ⟨4, [(1, [none, none, none, some 2, some 3, some 4, some 1, none]), (3, [some 5]), (80, [some 4]), (81, []), (82, [])], [(1, [none, none, none, some 2, some 3, some 4, some 1, none]), (3, [some 5])], @impl_PackageInts.h17 k⟩), (23, ⟨4, [(3, [some 5]), (115, [some 1]), (116, []), (117, [])], [(3, [some 5])], @impl_PackageInts.h23 k⟩)]
theorem impl_PackageInts.hΓ (k : Nat) : ∀ f g, impl_PackageInts.Γ k f = some g → CSound Tryz.prog f g := G_cons (impl_IsPackage.ok k) (G_cons (impl_bit.ok k) G_nil)
theorem impl_PackageInts.e5 {R : Type} (K : Ex → St κ → Option R) (k : Nat) (x3 : Int) (xl0 : List T_impl_Grant) (xl1 : List T_impl_Flow) (xl2 : List T_impl_Rule) (xl3 : List T_impl_Op) (xc4_0 : Int) (xc4_1 : Int) (xc4_2 : Int) (xc4_7 : Int) : ∀ (n : Nat) (x4 : Int) (xl5 : List Int), loopN 4 (Code.den ti (impl_PackageInts.Γ k) (impl_PackageInts.LH k) (loopAt Tryz.f136 0)) [(1, [none, none, none, some 2, some 3, some 4, some 1, none]), (3, [some 5]), (27, [some 2]), (28, []), (29, [])] [(1, [none, none, none, some 2, some 3, some 4, some 1, none]), (3, [some 5])] K n [.v (.ptr 4 0 0), .v (.sl 5), .v (.sl 0), .v (.int .i64 x3), .v (.int .i64 x4)] [.rows 2 false xl0, .rows 3 false xl1, .rows 4 false xl2, .rows 1 false xl3, .cells 39 [.int .i64 xc4_0, .int .i64 xc4_1, .int .i64 xc4_2, .sl 0, .sl 1, .sl 2, .sl 3, .int .i64 xc4_7], .rows 5 true xl5] = impl_PackageInts.l5 k x3 xl0 xl1 xl2 xl3 xc4_0 xc4_1 xc4_2 xc4_7 (fun (zl5 : List Int) => K (.exit 0) (stOf [(1, [none, none, none, some 2, some 3, some 4, some 1, none]), (3, [some 5])] [.v (.ptr 4 0 0), .v (.sl 5)] [.rows 2 false xl0, .rows 3 false xl1, .rows 4 false xl2, .rows 1 false xl3, .cells 39 [.int .i64 xc4_0, .int .i64 xc4_1, .int .i64 xc4_2, .sl 0, .sl 1, .sl 2, .sl 3, .int .i64 xc4_7], .rows 5 true zl5])) n x4 xl5
  | 0, _, _ => rfl
  | n + 1, x4, xl5 => (show loopN 4 (Code.den ti (impl_PackageInts.Γ k) (impl_PackageInts.LH k) (loopAt Tryz.f136 0)) [(1, [none, none, none, some 2, some 3, some 4, some 1, none]), (3, [some 5]), (27, [some 2]), (28, []), (29, [])] [(1, [none, none, none, some 2, some 3, some 4, some 1, none]), (3, [some 5])] K (n + 1) [.v (.ptr 4 0 0), .v (.sl 5), .v (.sl 0), .v (.int .i64 x3), .v (.int .i64 x4)] [.rows 2 false xl0, .rows 3 false xl1, .rows 4 false xl2, .rows 1 false xl3, .cells 39 [.int .i64 xc4_0, .int .i64 xc4_1, .int .i64 xc4_2, .sl 0, .sl 1, .sl 2, .sl 3, .int .i64 xc4_7], .rows 5 true xl5] = impl_PackageInts.L5 k x3 xl0 xl1 xl2 xl3 xc4_0 xc4_1 xc4_2 xc4_7 (fun (zl5 : List Int) => K (.exit 0) (stOf [(1, [none, none, none, some 2, some 3, some 4, some 1, none]), (3, [some 5])] [.v (.ptr 4 0 0), .v (.sl 5)] [.rows 2 false xl0, .rows 3 false xl1, .rows 4 false xl2, .rows 1 false xl3, .cells 39 [.int .i64 xc4_0, .int .i64 xc4_1, .int .i64 xc4_2, .sl 0, .sl 1, .sl 2, .sl 3, .int .i64 xc4_7], .rows 5 true zl5])) (fun (x4' : Int) (xl5' : List Int) => loopN 4 (Code.den ti (impl_PackageInts.Γ k) (impl_PackageInts.LH k) (loopAt Tryz.f136 0)) [(1, [none, none, none, some 2, some 3, some 4, some 1, none]), (3, [some 5]), (27, [some 2]), (28, []), (29, [])] [(1, [none, none, none, some 2, some 3, some 4, some 1, none]), (3, [some 5])] K n [.v (.ptr 4 0 0), .v (.sl 5), .v (.sl 0), .v (.int .i64 x3), .v (.int .i64 x4')] [.rows 2 false xl0, .rows 3 false xl1, .rows 4 false xl2, .rows 1 false xl3, .cells 39 [.int .i64 xc4_0, .int .i64 xc4_1, .int .i64 xc4_2, .sl 0, .sl 1, .sl 2, .sl 3, .int .i64 xc4_7], .rows 5 true xl5']) x4 xl5 by kernel_rfl).trans (congrArg (fun rec => impl_PackageInts.L5 k x3 xl0 xl1 xl2 xl3 xc4_0 xc4_1 xc4_2 xc4_7 (fun (zl5 : List Int) => K (.exit 0) (stOf [(1, [none, none, none, some 2, some 3, some 4, some 1, none]), (3, [some 5])] [.v (.ptr 4 0 0), .v (.sl 5)] [.rows 2 false xl0, .rows 3 false xl1, .rows 4 false xl2, .rows 1 false xl3, .cells 39 [.int .i64 xc4_0, .int .i64 xc4_1, .int .i64 xc4_2, .sl 0, .sl 1, .sl 2, .sl 3, .int .i64 xc4_7], .rows 5 true zl5])) rec x4 xl5) (funext fun x4' => funext fun xl5' => impl_PackageInts.e5 K k x3 xl0 xl1 xl2 xl3 xc4_0 xc4_1 xc4_2 xc4_7 n x4' xl5'))
theorem impl_PackageInts.q5 (k : Nat) {R : Type} (K : Ex → St κ → Option R) (vs : List AV) (bs : List (Blk κ)) (r : R) (h : impl_PackageInts.h5 k K vs bs = some r) : ∃ n, loopN 4 (Code.den ti (impl_PackageInts.Γ k) (impl_PackageInts.LH k) (loopAt Tryz.f136 0)) [(1, [none, none, none, some 2, some 3, some 4, some 1, none]), (3, [some 5]), (27, [some 2]), (28, []), (29, [])] [(1, [none, none, none, some 2, some 3, some 4, some 1, none]), (3, [some 5])] K n vs bs = some r := by
  unfold impl_PackageInts.h5 at h
  split at h
  · obtain ⟨_, rfl, h_1⟩ := asO_bind h
    obtain ⟨_, rfl, h_2⟩ := asO_bind h_1
    obtain ⟨_, rfl, h_3⟩ := asO_bind h_2
    obtain ⟨_, rfl, h_4⟩ := asO_bind h_3
    obtain ⟨_, rfl, h_5⟩ := asO_bind h_4
    exact ⟨k, (impl_PackageInts.e5 K k _ _ _ _ _ _ _ _ _ k _ _).trans h_5⟩
  · cases h
theorem impl_PackageInts.e11 {R : Type} (K : Ex → St κ → Option R) (k : Nat) (x3 : Int) (xl0 : List T_impl_Grant) (xl1 : List T_impl_Flow) (xl2 : List T_impl_Rule) (xl3 : List T_impl_Op) (xc4_0 : Int) (xc4_1 : Int) (xc4_2 : Int) (xc4_7 : Int) : ∀ (n : Nat) (x4 : Int) (xl5 : List Int), loopN 4 (Code.den ti (impl_PackageInts.Γ k) (impl_PackageInts.LH k) (loopAt Tryz.f136 1)) [(1, [none, none, none, some 2, some 3, some 4, some 1, none]), (3, [some 5]), (59, [some 3]), (60, []), (61, [])] [(1, [none, none, none, some 2, some 3, some 4, some 1, none]), (3, [some 5])] K n [.v (.ptr 4 0 0), .v (.sl 5), .v (.sl 1), .v (.int .i64 x3), .v (.int .i64 x4)] [.rows 2 false xl0, .rows 3 false xl1, .rows 4 false xl2, .rows 1 false xl3, .cells 39 [.int .i64 xc4_0, .int .i64 xc4_1, .int .i64 xc4_2, .sl 0, .sl 1, .sl 2, .sl 3, .int .i64 xc4_7], .rows 5 true xl5] = impl_PackageInts.l11 k x3 xl0 xl1 xl2 xl3 xc4_0 xc4_1 xc4_2 xc4_7 (fun (zl5 : List Int) => K (.exit 2) (stOf [(1, [none, none, none, some 2, some 3, some 4, some 1, none]), (3, [some 5])] [.v (.ptr 4 0 0), .v (.sl 5)] [.rows 2 false xl0, .rows 3 false xl1, .rows 4 false xl2, .rows 1 false xl3, .cells 39 [.int .i64 xc4_0, .int .i64 xc4_1, .int .i64 xc4_2, .sl 0, .sl 1, .sl 2, .sl 3, .int .i64 xc4_7], .rows 5 true zl5])) n x4 xl5
  | 0, _, _ => rfl
  | n + 1, x4, xl5 => (show loopN 4 (Code.den ti (impl_PackageInts.Γ k) (impl_PackageInts.LH k) (loopAt Tryz.f136 1)) [(1, [none, none, none, some 2, some 3, some 4, some 1, none]), (3, [some 5]), (59, [some 3]), (60, []), (61, [])] [(1, [none, none, none, some 2, some 3, some 4, some 1, none]), (3, [some 5])] K (n + 1) [.v (.ptr 4 0 0), .v (.sl 5), .v (.sl 1), .v (.int .i64 x3), .v (.int .i64 x4)] [.rows 2 false xl0, .rows 3 false xl1, .rows 4 false xl2, .rows 1 false xl3, .cells 39 [.int .i64 xc4_0, .int .i64 xc4_1, .int .i64 xc4_2, .sl 0, .sl 1, .sl 2, .sl 3, .int .i64 xc4_7], .rows 5 true xl5] = impl_PackageInts.L11 k x3 xl0 xl1 xl2 xl3 xc4_0 xc4_1 xc4_2 xc4_7 (fun (zl5 : List Int) => K (.exit 2) (stOf [(1, [none, none, none, some 2, some 3, some 4, some 1, none]), (3, [some 5])] [.v (.ptr 4 0 0), .v (.sl 5)] [.rows 2 false xl0, .rows 3 false xl1, .rows 4 false xl2, .rows 1 false xl3, .cells 39 [.int .i64 xc4_0, .int .i64 xc4_1, .int .i64 xc4_2, .sl 0, .sl 1, .sl 2, .sl 3, .int .i64 xc4_7], .rows 5 true zl5])) (fun (x4' : Int) (xl5' : List Int) => loopN 4 (Code.den ti (impl_PackageInts.Γ k) (impl_PackageInts.LH k) (loopAt Tryz.f136 1)) [(1, [none, none, none, some 2, some 3, some 4, some 1, none]), (3, [some 5]), (59, [some 3]), (60, []), (61, [])] [(1, [none, none, none, some 2, some 3, some 4, some 1, none]), (3, [some 5])] K n [.v (.ptr 4 0 0), .v (.sl 5), .v (.sl 1), .v (.int .i64 x3), .v (.int .i64 x4')] [.rows 2 false xl0, .rows 3 false xl1, .rows 4 false xl2, .rows 1 false xl3, .cells 39 [.int .i64 xc4_0, .int .i64 xc4_1, .int .i64 xc4_2, .sl 0, .sl 1, .sl 2, .sl 3, .int .i64 xc4_7], .rows 5 true xl5']) x4 xl5 by kernel_rfl).trans (congrArg (fun rec => impl_PackageInts.L11 k x3 xl0 xl1 xl2 xl3 xc4_0 xc4_1 xc4_2 xc4_7 (fun (zl5 : List Int) => K (.exit 2) (stOf [(1, [none, none, none, some 2, some 3, some 4, some 1, none]), (3, [some 5])] [.v (.ptr 4 0 0), .v (.sl 5)] [.rows 2 false xl0, .rows 3 false xl1, .rows 4 false xl2, .rows 1 false xl3, .cells 39 [.int .i64 xc4_0, .int .i64 xc4_1, .int .i64 xc4_2, .sl 0, .sl 1, .sl 2, .sl 3, .int .i64 xc4_7], .rows 5 true zl5])) rec x4 xl5) (funext fun x4' => funext fun xl5' => impl_PackageInts.e11 K k x3 xl0 xl1 xl2 xl3 xc4_0 xc4_1 xc4_2 xc4_7 n x4' xl5'))
theorem impl_PackageInts.q11 (k : Nat) {R : Type} (K : Ex → St κ → Option R) (vs : List AV) (bs : List (Blk κ)) (r : R) (h : impl_PackageInts.h11 k K vs bs = some r) : ∃ n, loopN 4 (Code.den ti (impl_PackageInts.Γ k) (impl_PackageInts.LH k) (loopAt Tryz.f136 1)) [(1, [none, none, none, some 2, some 3, some 4, some 1, none]), (3, [some 5]), (59, [some 3]), (60, []), (61, [])] [(1, [none, none, none, some 2, some 3, some 4, some 1, none]), (3, [some 5])] K n vs bs = some r := by
  unfold impl_PackageInts.h11 at h
  split at h
  · obtain ⟨_, rfl, h_1⟩ := asO_bind h
    obtain ⟨_, rfl, h_2⟩ := asO_bind h_1
    obtain ⟨_, rfl, h_3⟩ := asO_bind h_2
    obtain ⟨_, rfl, h_4⟩ := asO_bind h_3
    obtain ⟨_, rfl, h_5⟩ := asO_bind h_4
    exact ⟨k, (impl_PackageInts.e11 K k _ _ _ _ _ _ _ _ _ k _ _).trans h_5⟩
  · cases h
theorem impl_PackageInts.e17 {R : Type} (K : Ex → St κ → Option R) (k : Nat) (x3 : Int) (xl0 : List T_impl_Grant) (xl1 : List T_impl_Flow) (xl2 : List T_impl_Rule) (xl3 : List T_impl_Op) (xc4_0 : Int) (xc4_1 : Int) (xc4_2 : Int) (xc4_7 : Int) : ∀ (n : Nat) (x4 : Int) (xl5 : List Int), loopN 4 (Code.den ti (impl_PackageInts.Γ k) (impl_PackageInts.LH k) (loopAt Tryz.f136 2)) [(1, [none, none, none, some 2, some 3, some 4, some 1, none]), (3, [some 5]), (80, [some 4]), (81, []), (82, [])] [(1, [none, none, none, some 2, some 3, some 4, some 1, none]), (3, [some 5])] K n [.v (.ptr 4 0 0), .v (.sl 5), .v (.sl 2), .v (.int .i64 x3), .v (.int .i64 x4)] [.rows 2 false xl0, .rows 3 false xl1, .rows 4 false xl2, .rows 1 false xl3, .cells 39 [.int .i64 xc4_0, .int .i64 xc4_1, .int .i64 xc4_2, .sl 0, .sl 1, .sl 2, .sl 3, .int .i64 xc4_7], .rows 5 true xl5] = impl_PackageInts.l17 k x3 xl0 xl1 xl2 xl3 xc4_0 xc4_1 xc4_2 xc4_7 (fun (zl5 : List Int) => K (.exit 4) (stOf [(1, [none, none, none, some 2, some 3, some 4, some 1, none]), (3, [some 5])] [.v (.ptr 4 0 0), .v (.sl 5)] [.rows 2 false xl0, .rows 3 false xl1, .rows 4 false xl2, .rows 1 false xl3, .cells 39 [.int .i64 xc4_0, .int .i64 xc4_1, .int .i64 xc4_2, .sl 0, .sl 1, .sl 2, .sl 3, .int .i64 xc4_7], .rows 5 true zl5])) n x4 xl5
  | 0, _, _ => rfl
  | n + 1, x4, xl5 => (show loopN 4 (Code.den ti (impl_PackageInts.Γ k) (impl_PackageInts.LH k) (loopAt Tryz.f136 2)) [(1, [none, none, none, some 2, some 3, some 4, some 1, none]), (3, [some 5]), (80, [some 4]), (81, []), (82, [])] [(1, [none, none, none, some 2, some 3, some 4, some 1, none]), (3, [some 5])] K (n + 1) [.v (.ptr 4 0 0), .v (.sl 5), .v (.sl 2), .v (.int .i64 x3), .v (.int .i64 x4)] [.rows 2 false xl0, .rows 3 false xl1, .rows 4 false xl2, .rows 1 false xl3, .cells 39 [.int .i64 xc4_0, .int .i64 xc4_1, .int .i64 xc4_2, .sl 0, .sl 1, .sl 2, .sl 3, .int .i64 xc4_7], .rows 5 true xl5] = impl_PackageInts.L17 k x3 xl0 xl1 xl2 xl3 xc4_0 xc4_1 xc4_2 xc4_7 (fun (zl5 : List Int) => K (.exit 4) (stOf [(1, [none, none, none, some 2, some 3, some 4, some 1, none]), (3, [some 5])] [.v (.ptr 4 0 0), .v (.sl 5)] [.rows 2 false xl0, .rows 3 false xl1, .rows 4 false xl2, .rows 1 false xl3, .cells 39 [.int .i64 xc4_0, .int .i64 xc4_1, .int .i64 xc4_2, .sl 0, .sl 1, .sl 2, .sl 3, .int .i64 xc4_7], .rows 5 true zl5])) (fun (x4' : Int) (xl5' : List Int) => loopN 4 (Code.den ti (impl_PackageInts.Γ k) (impl_PackageInts.LH k) (loopAt Tryz.f136 2)) [(1, [none, none, none, some 2, some 3, some 4, some 1, none]), (3, [some 5]), (80, [some 4]), (81, []), (82, [])] [(1, [none, none, none, some 2, some 3, some 4, some 1, none]), (3, [some 5])] K n [.v (.ptr 4 0 0), .v (.sl 5), .v (.sl 2), .v (.int .i64 x3), .v (.int .i64 x4')] [.rows 2 false xl0, .rows 3 false xl1, .rows 4 false xl2, .rows 1 false xl3, .cells 39 [.int .i64 xc4_0, .int .i64 xc4_1, .int .i64 xc4_2, .sl 0, .sl 1, .sl 2, .sl 3, .int .i64 xc4_7], .rows 5 true xl5']) x4 xl5 by kernel_rfl).trans (congrArg (fun rec => impl_PackageInts.L17 k x3 xl0 xl1 xl2 xl3 xc4_0 xc4_1 xc4_2 xc4_7 (fun (zl5 : List Int) => K (.exit 4) (stOf [(1, [none, none, none, some 2, some 3, some 4, some 1, none]), (3, [some 5])] [.v (.ptr 4 0 0), .v (.sl 5)] [.rows 2 false xl0, .rows 3 false xl1, .rows 4 false xl2, .rows 1 false xl3, .cells 39 [.int .i64 xc4_0, .int .i64 xc4_1, .int .i64 xc4_2, .sl 0, .sl 1, .sl 2, .sl 3, .int .i64 xc4_7], .rows 5 true zl5])) rec x4 xl5) (funext fun x4' => funext fun xl5' => impl_PackageInts.e17 K k x3 xl0 xl1 xl2 xl3 xc4_0 xc4_1 xc4_2 xc4_7 n x4' xl5'))
theorem impl_PackageInts.q17 (k : Nat) {R : Type} (K : Ex → St κ → Option R) (vs : List AV) (bs : List (Blk κ)) (r : R) (h : impl_PackageInts.h17 k K vs bs = some r) : ∃ n, loopN 4 (Code.den ti (impl_PackageInts.Γ k) (impl_PackageInts.LH k) (loopAt Tryz.f136 2)) [(1, [none, none, none, some 2, some 3, some 4, some 1, none]), (3, [some 5]), (80, [some 4]), (81, []), (82, [])] [(1, [none, none, none, some 2, some 3, some 4, some 1, none]), (3, [some 5])] K n vs bs = some r := by
  unfold impl_PackageInts.h17 at h
  split at h
  · obtain ⟨_, rfl, h_1⟩ := asO_bind h
    obtain ⟨_, rfl, h_2⟩ := asO_bind h_1
    obtain ⟨_, rfl, h_3⟩ := asO_bind h_2
    obtain ⟨_, rfl, h_4⟩ := asO_bind h_3
    obtain ⟨_, rfl, h_5⟩ := asO_bind h_4
    exact ⟨k, (impl_PackageInts.e17 K k _ _ _ _ _ _ _ _ _ k _ _).trans h_5⟩
  · cases h
theorem impl_PackageInts.e23 {R : Type} (K : Ex → St κ → Option R) (k : Nat) (x2 : Int) (xl0 : List T_impl_Grant) (xl1 : List T_impl_Flow) (xl2 : List T_impl_Rule) (xl3 : List T_impl_Op) : ∀ (n : Nat) (x3 : Int) (xl4 : List Int), loopN 4 (Code.den ti (impl_PackageInts.Γ k) (impl_PackageInts.LH k) (loopAt Tryz.f136 3)) [(3, [some 5]), (115, [some 1]), (116, []), (117, [])] [(3, [some 5])] K n [.v (.sl 4), .v (.sl 3), .v (.int .i64 x2), .v (.int .i64 x3)] [.rows 2 false xl0, .rows 3 false xl1, .rows 4 false xl2, .rows 1 false xl3, .rows 5 true xl4] = impl_PackageInts.l23 k x2 xl0 xl1 xl2 xl3 (fun (zl4 : List Int) => K (.exit 6) (stOf [(3, [some 5])] [.v (.sl 4)] [.rows 2 false xl0, .rows 3 false xl1, .rows 4 false xl2, .rows 1 false xl3, .rows 5 true zl4])) n x3 xl4
  | 0, _, _ => rfl
  | n + 1, x3, xl4 => (show loopN 4 (Code.den ti (impl_PackageInts.Γ k) (impl_PackageInts.LH k) (loopAt Tryz.f136 3)) [(3, [some 5]), (115, [some 1]), (116, []), (117, [])] [(3, [some 5])] K (n + 1) [.v (.sl 4), .v (.sl 3), .v (.int .i64 x2), .v (.int .i64 x3)] [.rows 2 false xl0, .rows 3 false xl1, .rows 4 false xl2, .rows 1 false xl3, .rows 5 true xl4] = impl_PackageInts.L23 k x2 xl0 xl1 xl2 xl3 (fun (zl4 : List Int) => K (.exit 6) (stOf [(3, [some 5])] [.v (.sl 4)] [.rows 2 false xl0, .rows 3 false xl1, .rows 4 false xl2, .rows 1 false xl3, .rows 5 true zl4])) (fun (x3' : Int) (xl4' : List Int) => loopN 4 (Code.den ti (impl_PackageInts.Γ k) (impl_PackageInts.LH k) (loopAt Tryz.f136 3)) [(3, [some 5]), (115, [some 1]), (116, []), (117, [])] [(3, [some 5])] K n [.v (.sl 4), .v (.sl 3), .v (.int .i64 x2), .v (.int .i64 x3')] [.rows 2 false xl0, .rows 3 false xl1, .rows 4 false xl2, .rows 1 false xl3, .rows 5 true xl4']) x3 xl4 by kernel_rfl).trans (congrArg (fun rec => impl_PackageInts.L23 k x2 xl0 xl1 xl2 xl3 (fun (zl4 : List Int) => K (.exit 6) (stOf [(3, [some 5])] [.v (.sl 4)] [.rows 2 false xl0, .rows 3 false xl1, .rows 4 false xl2, .rows 1 false xl3, .rows 5 true zl4])) rec x3 xl4) (funext fun x3' => funext fun xl4' => impl_PackageInts.e23 K k x2 xl0 xl1 xl2 xl3 n x3' xl4'))
theorem impl_PackageInts.q23 (k : Nat) {R : Type} (K : Ex → St κ → Option R) (vs : List AV) (bs : List (Blk κ)) (r : R) (h : impl_PackageInts.h23 k K vs bs = some r) : ∃ n, loopN 4 (Code.den ti (impl_PackageInts.Γ k) (impl_PackageInts.LH k) (loopAt Tryz.f136 3)) [(3, [some 5]), (115, [some 1]), (116, []), (117, [])] [(3, [some 5])] K n vs bs = some r := by
  unfold impl_PackageInts.h23 at h
  split at h
  · obtain ⟨_, rfl, h_1⟩ := asO_bind h
    obtain ⟨_, rfl, h_2⟩ := asO_bind h_1
    obtain ⟨_, rfl, h_3⟩ := asO_bind h_2
    obtain ⟨_, rfl, h_4⟩ := asO_bind h_3
    obtain ⟨_, rfl, h_5⟩ := asO_bind h_4
    exact ⟨k, (impl_PackageInts.e23 K k _ _ _ _ _ k _ _).trans h_5⟩
  · cases h
theorem impl_PackageInts.lok (k : Nat) : LOK ti (impl_PackageInts.Γ k) (impl_PackageInts.LH k) 4 (loopsOf (bodyOf Tryz.f136)) :=
  (show loopsOf (bodyOf Tryz.f136) = [loopAt Tryz.f136 0, loopAt Tryz.f136 1, loopAt Tryz.f136 2, loopAt Tryz.f136 3] by kernel_rfl) ▸ (LOK_cons (g := ⟨4, [(1, [none, none, none, some 2, some 3, some 4, some 1, none]), (3, [some 5]), (27, [some 2]), (28, []), (29, [])], [(1, [none, none, none, some 2, some 3, some 4, some 1, none]), (3, [some 5])], @impl_PackageInts.h5 k⟩) (by kernel_rfl) rfl (fun K vs xs r h => impl_PackageInts.q5 k K vs xs r h) (LOK_cons (g := ⟨4, [(1, [none, none, none, some 2, some 3, some 4, some 1, none]), (3, [some 5]), (59, [some 3]), (60, []), (61, [])], [(1, [none, none, none, some 2, some 3, some 4, some 1, none]), (3, [some 5])], @impl_PackageInts.h11 k⟩) (by kernel_rfl) rfl (fun K vs xs r h => impl_PackageInts.q11 k K vs xs r h) (LOK_cons (g := ⟨4, [(1, [none, none, none, some 2, some 3, some 4, some 1, none]), (3, [some 5]), (80, [some 4]), (81, []), (82, [])], [(1, [none, none, none, some 2, some 3, some 4, some 1, none]), (3, [some 5])], @impl_PackageInts.h17 k⟩) (by kernel_rfl) rfl (fun K vs xs r h => impl_PackageInts.q17 k K vs xs r h) (LOK_cons (g := ⟨4, [(3, [some 5]), (115, [some 1]), (116, []), (117, [])], [(3, [some 5])], @impl_PackageInts.h23 k⟩) (by kernel_rfl) rfl (fun K vs xs r h => impl_PackageInts.q23 k K vs xs r h) (LOK_nil)))))
def impl_PackageInts.sig : List PSh := [.agg [.sc, .sc, .sc, .ro 2, .ro 3, .ro 4, .ro 1, .sc]]
def impl_PackageInts.g (y : List Int) : Ret κ := ⟨.v (.sl 4), [], [.rows 5 true y]⟩
def impl_PackageInts.out (r : Ret κ) : Option (List Int) :=
  match r with
  | ⟨.v (.sl 4), [], [q0]⟩ => (asO 5 true q0).bind fun z0 => some (z0)
  | _ => none
theorem impl_PackageInts.out_ok (r : Ret κ) (y : List Int) (h : impl_PackageInts.out r = some y) : r = impl_PackageInts.g y := by
  unfold impl_PackageInts.out at h
  split at h
  · obtain ⟨_, rfl, h_1⟩ := asO_bind h
    obtain rfl := Option.some.inj h_1
    rfl
  · cases h
def impl_PackageInts.body (k : Nat) (vs : List AV) (bs : List (Blk κ)) : Option (Lf κ) :=
  match vs, bs with
  | [.agg [.int .i64 a0_0, .int .i64 a0_1, .int .i64 a0_2, .sl 0, .sl 1, .sl 2, .sl 3, .int .i64 a0_7]], [qb0, qb1, qb2, qb3] => (asO 2 false qb0).bind fun a0_3 => (asO 3 false qb1).bind fun a0_4 => (asO 4 false qb2).bind fun a0_5 => (asO 1 false qb3).bind fun a0_6 => some ⟨List Int, impl_PackageInts.f k a0_0 a0_1 a0_2 a0_3 a0_4 a0_5 a0_6 a0_7, impl_PackageInts.g⟩
  | _, _ => none
def impl_PackageInts.C (k : Nat) : Nat → List AV → AP κ AV := contract impl_PackageInts.sig (impl_PackageInts.body k)
theorem impl_PackageInts.den (k : Nat) (a0_0 : Int) (a0_1 : Int) (a0_2 : Int) (a0_3 : List T_impl_Grant) (a0_4 : List T_impl_Flow) (a0_5 : List T_impl_Rule) (a0_6 : List T_impl_Op) (a0_7 : Int) : Code.den ti (impl_PackageInts.Γ k) (impl_PackageInts.LH k) (bodyOf Tryz.f136) (finK ti Tryz.f136.results.toList [(2, [some 5])] (flags impl_PackageInts.sig).length (rwI (flags impl_PackageInts.sig) 0) impl_PackageInts.out) ⟨envOf (([.agg [.int .i64 a0_0, .int .i64 a0_1, .int .i64 a0_2, .sl 0, .sl 1, .sl 2, .sl 3, .int .i64 a0_7]]).zipIdx.map fun q => (q.2, q.1)), hpOf [.rows 2 false a0_3, .rows 3 false a0_4, .rows 4 false a0_5, .rows 1 false a0_6], (flags impl_PackageInts.sig).length⟩ = impl_PackageInts.f k a0_0 a0_1 a0_2 a0_3 a0_4 a0_5 a0_6 a0_7 := by kernel_rfl
theorem impl_PackageInts.ok (k : Nat) : CSound Tryz.prog 136 (impl_PackageInts.C k) :=
  csound κ_ok mixed tok (impl_PackageInts.hΓ k) (LH := impl_PackageInts.LH k) (fn := Tryz.f136) (c := bodyOf Tryz.f136) Tryz.func136 rfl Tryz.call136 impl_PackageInts.sig [(2, [some 5])] (impl_PackageInts.body k) (by kernel_rfl) (impl_PackageInts.lok k) (by decide) fun vs bs lf y hl hb hy => by
    unfold impl_PackageInts.body at hb
    split at hb
    · obtain ⟨_, rfl, hb_1⟩ := asO_bind hb
      obtain ⟨_, rfl, hb_2⟩ := asO_bind hb_1
      obtain ⟨_, rfl, hb_3⟩ := asO_bind hb_2
      obtain ⟨_, rfl, hb_4⟩ := asO_bind hb_3
      obtain rfl := Option.some.inj hb_4
      exact ⟨impl_PackageInts.out, impl_PackageInts.out_ok, (impl_PackageInts.den k _ _ _ _ _ _ _ _).trans hy⟩
    · cases hb
/-! ### impl_Mod -/
def impl_Mod.f (k : Nat) (a0 : Int) (a1 : Int) : Option Int :=
  (impl_InRange.f k a1 (1 : Int) (1000000000000 : Int)).bind fun t1 => (bif !t1 then some (0 : Int) else (bif decide (a1 = 0) then none else (bif decide ((a0.tmod a1) < (0 : Int)) then some (w64 ((a0.tmod a1) + a1)) else some (a0.tmod a1))))
def impl_Mod.Γ (k : Nat) : Ct κ := assoc [(111, impl_InRange.C k)]
def impl_Mod.LH (k : Nat) : Nat → Option (LHi κ) := assoc []
theorem impl_Mod.hΓ (k : Nat) : ∀ f g, impl_Mod.Γ k f = some g → CSound Tryz.prog f g := G_cons (impl_InRange.ok k) G_nil
theorem impl_Mod.lok (k : Nat) : LOK ti (impl_Mod.Γ k) (impl_Mod.LH k) 0 (loopsOf (bodyOf Tryz.f180)) :=
  (show loopsOf (bodyOf Tryz.f180) = [] by kernel_rfl) ▸ LOK_nil
def impl_Mod.sig : List PSh := [.one .sc, .one .sc]
def impl_Mod.g (y : Int) : Ret κ := ⟨.v (.int .i64 y), [], []⟩
def impl_Mod.out (r : Ret κ) : Option Int :=
  match r with
  | ⟨.v (.int .i64 z0), [], []⟩ => some (z0)
  | _ => none
theorem impl_Mod.out_ok (r : Ret κ) (y : Int) (h : impl_Mod.out r = some y) : r = impl_Mod.g y := by
  unfold impl_Mod.out at h
  split at h
  · obtain rfl := Option.some.inj h
    rfl
  · cases h
def impl_Mod.body (k : Nat) (vs : List AV) (bs : List (Blk κ)) : Option (Lf κ) :=
  match vs, bs with
  | [.v (.int .i64 a0), .v (.int .i64 a1)], [] => some ⟨Int, impl_Mod.f k a0 a1, impl_Mod.g⟩
  | _, _ => none
def impl_Mod.C (k : Nat) : Nat → List AV → AP κ AV := contract impl_Mod.sig (impl_Mod.body k)
theorem impl_Mod.den (k : Nat) (a0 : Int) (a1 : Int) : Code.den ti (impl_Mod.Γ k) (impl_Mod.LH k) (bodyOf Tryz.f180) (finK ti Tryz.f180.results.toList [] (flags impl_Mod.sig).length (rwI (flags impl_Mod.sig) 0) impl_Mod.out) ⟨envOf (([.v (.int .i64 a0), .v (.int .i64 a1)]).zipIdx.map fun q => (q.2, q.1)), hpOf [], (flags impl_Mod.sig).length⟩ = impl_Mod.f k a0 a1 := by kernel_rfl
theorem impl_Mod.ok (k : Nat) : CSound Tryz.prog 180 (impl_Mod.C k) :=
  csound κ_ok mixed tok (impl_Mod.hΓ k) (LH := impl_Mod.LH k) (fn := Tryz.f180) (c := bodyOf Tryz.f180) Tryz.func180 rfl Tryz.call180 impl_Mod.sig [] (impl_Mod.body k) (by kernel_rfl) (impl_Mod.lok k) (by decide) fun vs bs lf y hl hb hy => by
    unfold impl_Mod.body at hb
    split at hb
    · obtain rfl := Option.some.inj hb
      exact ⟨impl_Mod.out, impl_Mod.out_ok, (impl_Mod.den k _ _).trans hy⟩
    · cases hb
/-! ### impl_fold -/
def impl_fold.f (k : Nat) (a0 : Int) (a1 : Int) : Option Int :=
  (impl_Mod.f k a1 (2147483647 : Int)).bind fun t1 => some ((w64 ((w64 ((w64 (a0 * (1000003 : Int))) + t1)) + (13 : Int))).tmod (2147483647 : Int))
def impl_fold.Γ (k : Nat) : Ct κ := assoc [(180, impl_Mod.C k)]
def impl_fold.LH (k : Nat) : Nat → Option (LHi κ) := assoc []
theorem impl_fold.hΓ (k : Nat) : ∀ f g, impl_fold.Γ k f = some g → CSound Tryz.prog f g := G_cons (impl_Mod.ok k) G_nil
theorem impl_fold.lok (k : Nat) : LOK ti (impl_fold.Γ k) (impl_fold.LH k) 0 (loopsOf (bodyOf Tryz.f167)) :=
  (show loopsOf (bodyOf Tryz.f167) = [] by kernel_rfl) ▸ LOK_nil
def impl_fold.sig : List PSh := [.one .sc, .one .sc]
def impl_fold.g (y : Int) : Ret κ := ⟨.v (.int .i64 y), [], []⟩
def impl_fold.out (r : Ret κ) : Option Int :=
  match r with
  | ⟨.v (.int .i64 z0), [], []⟩ => some (z0)
  | _ => none
theorem impl_fold.out_ok (r : Ret κ) (y : Int) (h : impl_fold.out r = some y) : r = impl_fold.g y := by
  unfold impl_fold.out at h
  split at h
  · obtain rfl := Option.some.inj h
    rfl
  · cases h
def impl_fold.body (k : Nat) (vs : List AV) (bs : List (Blk κ)) : Option (Lf κ) :=
  match vs, bs with
  | [.v (.int .i64 a0), .v (.int .i64 a1)], [] => some ⟨Int, impl_fold.f k a0 a1, impl_fold.g⟩
  | _, _ => none
def impl_fold.C (k : Nat) : Nat → List AV → AP κ AV := contract impl_fold.sig (impl_fold.body k)
theorem impl_fold.den (k : Nat) (a0 : Int) (a1 : Int) : Code.den ti (impl_fold.Γ k) (impl_fold.LH k) (bodyOf Tryz.f167) (finK ti Tryz.f167.results.toList [] (flags impl_fold.sig).length (rwI (flags impl_fold.sig) 0) impl_fold.out) ⟨envOf (([.v (.int .i64 a0), .v (.int .i64 a1)]).zipIdx.map fun q => (q.2, q.1)), hpOf [], (flags impl_fold.sig).length⟩ = impl_fold.f k a0 a1 := by kernel_rfl
theorem impl_fold.ok (k : Nat) : CSound Tryz.prog 167 (impl_fold.C k) :=
  csound κ_ok mixed tok (impl_fold.hΓ k) (LH := impl_fold.LH k) (fn := Tryz.f167) (c := bodyOf Tryz.f167) Tryz.func167 rfl Tryz.call167 impl_fold.sig [] (impl_fold.body k) (by kernel_rfl) (impl_fold.lok k) (by decide) fun vs bs lf y hl hb hy => by
    unfold impl_fold.body at hb
    split at hb
    · obtain rfl := Option.some.inj hb
      exact ⟨impl_fold.out, impl_fold.out_ok, (impl_fold.den k _ _).trans hy⟩
    · cases hb
/-! ### impl_KeyedHash -/
def impl_KeyedHash.L3 {R : Type} (k : Nat) (x0 : Int) (x3 : Int) (xl0 : List Int) (X0 : Int → Option R) (rec : Int → Int → Option R) (x1 : Int) (x4 : Int) : Option R :=
  (bif decide (x4 < x3) then (bif decide (0 ≤ x4) then (bif decide (x4 < (xl0.length : Int)) then (impl_fold.f k x1 (rd_i64 xl0 x4)).bind fun t2 => (rec t2 (w64 (x4 + (1 : Int)))) else none) else none) else (X0 x1))
def impl_KeyedHash.l3 {R : Type} (k : Nat) (x0 : Int) (x3 : Int) (xl0 : List Int) (X0 : Int → Option R) : Nat → Int → Int → Option R
  | 0 => fun _ _ => none
  | n + 1 => impl_KeyedHash.L3 k x0 x3 xl0 X0 (impl_KeyedHash.l3 k x0 x3 xl0 X0 n)
def impl_KeyedHash.f (k : Nat) (a0 : Int) (a1 : List Int) : Option Int :=
  (impl_fold.f k (11 : Int) a0).bind fun t1 => (impl_KeyedHash.l3 k a0 (a1.length : Int) a1 (fun (y3 : Int) => (impl_fold.f k y3 a0).bind fun t4 => some t4) k t1 (0 : Int))
def impl_KeyedHash.h3 (k : Nat) {R : Type} (K : Ex → St κ → Option R) (vs : List AV) (bs : List (Blk κ)) : Option R :=
  match vs, bs with
  | [.v (.int .i64 x0), .v (.int .i64 x1), .v (.sl 0), .v (.int .i64 x3), .v (.int .i64 x4)], [qb0] => (asO 5 false qb0).bind fun xl0 => impl_KeyedHash.l3 k x0 x3 xl0 (fun (z1 : Int) => K (.exit 0) (stOf [(0, []), (5, [])] [.v (.int .i64 x0), .v (.int .i64 z1)] [.rows 5 false xl0])) k x1 x4
  | _, _ => none
def impl_KeyedHash.Γ (k : Nat) : Ct κ := assoc [(167, impl_fold.C k)]
def impl_KeyedHash.LH (k : Nat) : Nat → Option (LHi κ) := assoc [(3, ⟨1, [(0, []), (5, []), (10, [some 5]), (11, []), (12, [])], [(0, []), (5, [])], @impl_KeyedHash.h3 k⟩)]
theorem impl_KeyedHash.hΓ (k : Nat) : ∀ f g, impl_KeyedHash.Γ k f = some g → CSound Tryz.prog f g := G_cons (impl_fold.ok k) G_nil
theorem impl_KeyedHash.e3 {R : Type} (K : Ex → St κ → Option R) (k : Nat) (x0 : Int) (x3 : Int) (xl0 : List Int) : ∀ (n : Nat) (x1 : Int) (x4 : Int), loopN 1 (Code.den ti (impl_KeyedHash.Γ k) (impl_KeyedHash.LH k) (loopAt Tryz.f135 0)) [(0, []), (5, []), (10, [some 5]), (11, []), (12, [])] [(0, []), (5, [])] K n [.v (.int .i64 x0), .v (.int .i64 x1), .v (.sl 0), .v (.int .i64 x3), .v (.int .i64 x4)] [.rows 5 false xl0] = impl_KeyedHash.l3 k x0 x3 xl0 (fun (z1 : Int) => K (.exit 0) (stOf [(0, []), (5, [])] [.v (.int .i64 x0), .v (.int .i64 z1)] [.rows 5 false xl0])) n x1 x4
  | 0, _, _ => rfl
  | n + 1, x1, x4 => (show loopN 1 (Code.den ti (impl_KeyedHash.Γ k) (impl_KeyedHash.LH k) (loopAt Tryz.f135 0)) [(0, []), (5, []), (10, [some 5]), (11, []), (12, [])] [(0, []), (5, [])] K (n + 1) [.v (.int .i64 x0), .v (.int .i64 x1), .v (.sl 0), .v (.int .i64 x3), .v (.int .i64 x4)] [.rows 5 false xl0] = impl_KeyedHash.L3 k x0 x3 xl0 (fun (z1 : Int) => K (.exit 0) (stOf [(0, []), (5, [])] [.v (.int .i64 x0), .v (.int .i64 z1)] [.rows 5 false xl0])) (fun (x1' : Int) (x4' : Int) => loopN 1 (Code.den ti (impl_KeyedHash.Γ k) (impl_KeyedHash.LH k) (loopAt Tryz.f135 0)) [(0, []), (5, []), (10, [some 5]), (11, []), (12, [])] [(0, []), (5, [])] K n [.v (.int .i64 x0), .v (.int .i64 x1'), .v (.sl 0), .v (.int .i64 x3), .v (.int .i64 x4')] [.rows 5 false xl0]) x1 x4 by kernel_rfl).trans (congrArg (fun rec => impl_KeyedHash.L3 k x0 x3 xl0 (fun (z1 : Int) => K (.exit 0) (stOf [(0, []), (5, [])] [.v (.int .i64 x0), .v (.int .i64 z1)] [.rows 5 false xl0])) rec x1 x4) (funext fun x1' => funext fun x4' => impl_KeyedHash.e3 K k x0 x3 xl0 n x1' x4'))
theorem impl_KeyedHash.q3 (k : Nat) {R : Type} (K : Ex → St κ → Option R) (vs : List AV) (bs : List (Blk κ)) (r : R) (h : impl_KeyedHash.h3 k K vs bs = some r) : ∃ n, loopN 1 (Code.den ti (impl_KeyedHash.Γ k) (impl_KeyedHash.LH k) (loopAt Tryz.f135 0)) [(0, []), (5, []), (10, [some 5]), (11, []), (12, [])] [(0, []), (5, [])] K n vs bs = some r := by
  unfold impl_KeyedHash.h3 at h
  split at h
  · obtain ⟨_, rfl, h_1⟩ := asO_bind h
    exact ⟨k, (impl_KeyedHash.e3 K k _ _ _ k _ _).trans h_1⟩
  · cases h
theorem impl_KeyedHash.lok (k : Nat) : LOK ti (impl_KeyedHash.Γ k) (impl_KeyedHash.LH k) 1 (loopsOf (bodyOf Tryz.f135)) :=
  (show loopsOf (bodyOf Tryz.f135) = [loopAt Tryz.f135 0] by kernel_rfl) ▸ (LOK_cons (g := ⟨1, [(0, []), (5, []), (10, [some 5]), (11, []), (12, [])], [(0, []), (5, [])], @impl_KeyedHash.h3 k⟩) (by kernel_rfl) rfl (fun K vs xs r h => impl_KeyedHash.q3 k K vs xs r h) (LOK_nil))
def impl_KeyedHash.sig : List PSh := [.one .sc, .one (.ro 5)]
def impl_KeyedHash.g (y : Int) : Ret κ := ⟨.v (.int .i64 y), [], []⟩
def impl_KeyedHash.out (r : Ret κ) : Option Int :=
  match r with
  | ⟨.v (.int .i64 z0), [], []⟩ => some (z0)
  | _ => none
theorem impl_KeyedHash.out_ok (r : Ret κ) (y : Int) (h : impl_KeyedHash.out r = some y) : r = impl_KeyedHash.g y := by
  unfold impl_KeyedHash.out at h
  split at h
  · obtain rfl := Option.some.inj h
    rfl
  · cases h
def impl_KeyedHash.body (k : Nat) (vs : List AV) (bs : List (Blk κ)) : Option (Lf κ) :=
  match vs, bs with
  | [.v (.int .i64 a0), .v (.sl 0)], [qb0] => (asO 5 false qb0).bind fun a1 => some ⟨Int, impl_KeyedHash.f k a0 a1, impl_KeyedHash.g⟩
  | _, _ => none
def impl_KeyedHash.C (k : Nat) : Nat → List AV → AP κ AV := contract impl_KeyedHash.sig (impl_KeyedHash.body k)
theorem impl_KeyedHash.den (k : Nat) (a0 : Int) (a1 : List Int) : Code.den ti (impl_KeyedHash.Γ k) (impl_KeyedHash.LH k) (bodyOf Tryz.f135) (finK ti Tryz.f135.results.toList [] (flags impl_KeyedHash.sig).length (rwI (flags impl_KeyedHash.sig) 0) impl_KeyedHash.out) ⟨envOf (([.v (.int .i64 a0), .v (.sl 0)]).zipIdx.map fun q => (q.2, q.1)), hpOf [.rows 5 false a1], (flags impl_KeyedHash.sig).length⟩ = impl_KeyedHash.f k a0 a1 := by kernel_rfl
theorem impl_KeyedHash.ok (k : Nat) : CSound Tryz.prog 135 (impl_KeyedHash.C k) :=
  csound κ_ok mixed tok (impl_KeyedHash.hΓ k) (LH := impl_KeyedHash.LH k) (fn := Tryz.f135) (c := bodyOf Tryz.f135) Tryz.func135 rfl Tryz.call135 impl_KeyedHash.sig [] (impl_KeyedHash.body k) (by kernel_rfl) (impl_KeyedHash.lok k) (by decide) fun vs bs lf y hl hb hy => by
    unfold impl_KeyedHash.body at hb
    split at hb
    · obtain ⟨_, rfl, hb_1⟩ := asO_bind hb
      obtain rfl := Option.some.inj hb_1
      exact ⟨impl_KeyedHash.out, impl_KeyedHash.out_ok, (impl_KeyedHash.den k _ _).trans hy⟩
    · cases hb
/-! ### impl_sealOf -/
def impl_sealOf.f (k : Nat) (a0 : Int) (a1_0 : Int) (a1_1 : Int) (a1_2 : Int) (a1_3 : List T_impl_Grant) (a1_4 : List T_impl_Flow) (a1_5 : List T_impl_Rule) (a1_6 : List T_impl_Op) (a1_7 : Int) : Option Int :=
  (impl_IsValidKey.f k a0).bind fun t1 => (bif !t1 then some (0 : Int) else (impl_IsPackage.f k a1_0 a1_1 a1_2 a1_3 a1_4 a1_5 a1_6 a1_7).bind fun t2 => (bif !t2 then some (0 : Int) else (impl_PackageInts.f k a1_0 a1_1 a1_2 a1_3 a1_4 a1_5 a1_6 a1_7).bind fun t3 => (impl_KeyedHash.f k a0 t3).bind fun t4 => some t4))
def impl_sealOf.Γ (k : Nat) : Ct κ := assoc [(87, impl_IsValidKey.C k), (53, impl_IsPackage.C k), (136, impl_PackageInts.C k), (135, impl_KeyedHash.C k)]
def impl_sealOf.LH (k : Nat) : Nat → Option (LHi κ) := assoc []
theorem impl_sealOf.hΓ (k : Nat) : ∀ f g, impl_sealOf.Γ k f = some g → CSound Tryz.prog f g := G_cons (impl_IsValidKey.ok k) (G_cons (impl_IsPackage.ok k) (G_cons (impl_PackageInts.ok k) (G_cons (impl_KeyedHash.ok k) G_nil)))
theorem impl_sealOf.lok (k : Nat) : LOK ti (impl_sealOf.Γ k) (impl_sealOf.LH k) 4 (loopsOf (bodyOf Tryz.f88)) :=
  (show loopsOf (bodyOf Tryz.f88) = [] by kernel_rfl) ▸ LOK_nil
def impl_sealOf.sig : List PSh := [.one .sc, .agg [.sc, .sc, .sc, .ro 2, .ro 3, .ro 4, .ro 1, .sc]]
def impl_sealOf.g (y : Int) : Ret κ := ⟨.v (.int .i64 y), [], []⟩
def impl_sealOf.out (r : Ret κ) : Option Int :=
  match r with
  | ⟨.v (.int .i64 z0), [], []⟩ => some (z0)
  | _ => none
theorem impl_sealOf.out_ok (r : Ret κ) (y : Int) (h : impl_sealOf.out r = some y) : r = impl_sealOf.g y := by
  unfold impl_sealOf.out at h
  split at h
  · obtain rfl := Option.some.inj h
    rfl
  · cases h
def impl_sealOf.body (k : Nat) (vs : List AV) (bs : List (Blk κ)) : Option (Lf κ) :=
  match vs, bs with
  | [.v (.int .i64 a0), .agg [.int .i64 a1_0, .int .i64 a1_1, .int .i64 a1_2, .sl 0, .sl 1, .sl 2, .sl 3, .int .i64 a1_7]], [qb0, qb1, qb2, qb3] => (asO 2 false qb0).bind fun a1_3 => (asO 3 false qb1).bind fun a1_4 => (asO 4 false qb2).bind fun a1_5 => (asO 1 false qb3).bind fun a1_6 => some ⟨Int, impl_sealOf.f k a0 a1_0 a1_1 a1_2 a1_3 a1_4 a1_5 a1_6 a1_7, impl_sealOf.g⟩
  | _, _ => none
def impl_sealOf.C (k : Nat) : Nat → List AV → AP κ AV := contract impl_sealOf.sig (impl_sealOf.body k)
theorem impl_sealOf.den (k : Nat) (a0 : Int) (a1_0 : Int) (a1_1 : Int) (a1_2 : Int) (a1_3 : List T_impl_Grant) (a1_4 : List T_impl_Flow) (a1_5 : List T_impl_Rule) (a1_6 : List T_impl_Op) (a1_7 : Int) : Code.den ti (impl_sealOf.Γ k) (impl_sealOf.LH k) (bodyOf Tryz.f88) (finK ti Tryz.f88.results.toList [] (flags impl_sealOf.sig).length (rwI (flags impl_sealOf.sig) 0) impl_sealOf.out) ⟨envOf (([.v (.int .i64 a0), .agg [.int .i64 a1_0, .int .i64 a1_1, .int .i64 a1_2, .sl 0, .sl 1, .sl 2, .sl 3, .int .i64 a1_7]]).zipIdx.map fun q => (q.2, q.1)), hpOf [.rows 2 false a1_3, .rows 3 false a1_4, .rows 4 false a1_5, .rows 1 false a1_6], (flags impl_sealOf.sig).length⟩ = impl_sealOf.f k a0 a1_0 a1_1 a1_2 a1_3 a1_4 a1_5 a1_6 a1_7 := by kernel_rfl
theorem impl_sealOf.ok (k : Nat) : CSound Tryz.prog 88 (impl_sealOf.C k) :=
  csound κ_ok mixed tok (impl_sealOf.hΓ k) (LH := impl_sealOf.LH k) (fn := Tryz.f88) (c := bodyOf Tryz.f88) Tryz.func88 rfl Tryz.call88 impl_sealOf.sig [] (impl_sealOf.body k) (by kernel_rfl) (impl_sealOf.lok k) (by decide) fun vs bs lf y hl hb hy => by
    unfold impl_sealOf.body at hb
    split at hb
    · obtain ⟨_, rfl, hb_1⟩ := asO_bind hb
      obtain ⟨_, rfl, hb_2⟩ := asO_bind hb_1
      obtain ⟨_, rfl, hb_3⟩ := asO_bind hb_2
      obtain ⟨_, rfl, hb_4⟩ := asO_bind hb_3
      obtain rfl := Option.some.inj hb_4
      exact ⟨impl_sealOf.out, impl_sealOf.out_ok, (impl_sealOf.den k _ _ _ _ _ _ _ _ _).trans hy⟩
    · cases hb
/-! ### impl_IsSealed -/
def impl_IsSealed.f (k : Nat) (a0 : Int) (a1_0 : Int) (a1_1 : Int) (a1_2 : Int) (a1_3 : List T_impl_Grant) (a1_4 : List T_impl_Flow) (a1_5 : List T_impl_Rule) (a1_6 : List T_impl_Op) (a1_7 : Int) : Option Bool :=
  (impl_IsPackage.f k a1_0 a1_1 a1_2 a1_3 a1_4 a1_5 a1_6 a1_7).bind fun t1 => (bif t1 then (impl_IsValidKey.f k a0).bind fun t2 => (bif t2 then (impl_sealOf.f k a0 a1_0 a1_1 a1_2 a1_3 a1_4 a1_5 a1_6 a1_7).bind fun t3 => some (a1_7 == t3) else some false) else some false)
def impl_IsSealed.Γ (k : Nat) : Ct κ := assoc [(53, impl_IsPackage.C k), (87, impl_IsValidKey.C k), (88, impl_sealOf.C k)]
def impl_IsSealed.LH (k : Nat) : Nat → Option (LHi κ) := assoc []
theorem impl_IsSealed.hΓ (k : Nat) : ∀ f g, impl_IsSealed.Γ k f = some g → CSound Tryz.prog f g := G_cons (impl_IsPackage.ok k) (G_cons (impl_IsValidKey.ok k) (G_cons (impl_sealOf.ok k) G_nil))
theorem impl_IsSealed.lok (k : Nat) : LOK ti (impl_IsSealed.Γ k) (impl_IsSealed.LH k) 4 (loopsOf (bodyOf Tryz.f34)) :=
  (show loopsOf (bodyOf Tryz.f34) = [] by kernel_rfl) ▸ LOK_nil
def impl_IsSealed.sig : List PSh := [.one .sc, .agg [.sc, .sc, .sc, .ro 2, .ro 3, .ro 4, .ro 1, .sc]]
def impl_IsSealed.g (y : Bool) : Ret κ := ⟨.v (.bool y), [], []⟩
def impl_IsSealed.out (r : Ret κ) : Option Bool :=
  match r with
  | ⟨.v (.bool z0), [], []⟩ => some (z0)
  | _ => none
theorem impl_IsSealed.out_ok (r : Ret κ) (y : Bool) (h : impl_IsSealed.out r = some y) : r = impl_IsSealed.g y := by
  unfold impl_IsSealed.out at h
  split at h
  · obtain rfl := Option.some.inj h
    rfl
  · cases h
def impl_IsSealed.body (k : Nat) (vs : List AV) (bs : List (Blk κ)) : Option (Lf κ) :=
  match vs, bs with
  | [.v (.int .i64 a0), .agg [.int .i64 a1_0, .int .i64 a1_1, .int .i64 a1_2, .sl 0, .sl 1, .sl 2, .sl 3, .int .i64 a1_7]], [qb0, qb1, qb2, qb3] => (asO 2 false qb0).bind fun a1_3 => (asO 3 false qb1).bind fun a1_4 => (asO 4 false qb2).bind fun a1_5 => (asO 1 false qb3).bind fun a1_6 => some ⟨Bool, impl_IsSealed.f k a0 a1_0 a1_1 a1_2 a1_3 a1_4 a1_5 a1_6 a1_7, impl_IsSealed.g⟩
  | _, _ => none
def impl_IsSealed.C (k : Nat) : Nat → List AV → AP κ AV := contract impl_IsSealed.sig (impl_IsSealed.body k)
theorem impl_IsSealed.den (k : Nat) (a0 : Int) (a1_0 : Int) (a1_1 : Int) (a1_2 : Int) (a1_3 : List T_impl_Grant) (a1_4 : List T_impl_Flow) (a1_5 : List T_impl_Rule) (a1_6 : List T_impl_Op) (a1_7 : Int) : Code.den ti (impl_IsSealed.Γ k) (impl_IsSealed.LH k) (bodyOf Tryz.f34) (finK ti Tryz.f34.results.toList [] (flags impl_IsSealed.sig).length (rwI (flags impl_IsSealed.sig) 0) impl_IsSealed.out) ⟨envOf (([.v (.int .i64 a0), .agg [.int .i64 a1_0, .int .i64 a1_1, .int .i64 a1_2, .sl 0, .sl 1, .sl 2, .sl 3, .int .i64 a1_7]]).zipIdx.map fun q => (q.2, q.1)), hpOf [.rows 2 false a1_3, .rows 3 false a1_4, .rows 4 false a1_5, .rows 1 false a1_6], (flags impl_IsSealed.sig).length⟩ = impl_IsSealed.f k a0 a1_0 a1_1 a1_2 a1_3 a1_4 a1_5 a1_6 a1_7 := by kernel_rfl
theorem impl_IsSealed.ok (k : Nat) : CSound Tryz.prog 34 (impl_IsSealed.C k) :=
  csound κ_ok mixed tok (impl_IsSealed.hΓ k) (LH := impl_IsSealed.LH k) (fn := Tryz.f34) (c := bodyOf Tryz.f34) Tryz.func34 rfl Tryz.call34 impl_IsSealed.sig [] (impl_IsSealed.body k) (by kernel_rfl) (impl_IsSealed.lok k) (by decide) fun vs bs lf y hl hb hy => by
    unfold impl_IsSealed.body at hb
    split at hb
    · obtain ⟨_, rfl, hb_1⟩ := asO_bind hb
      obtain ⟨_, rfl, hb_2⟩ := asO_bind hb_1
      obtain ⟨_, rfl, hb_3⟩ := asO_bind hb_2
      obtain ⟨_, rfl, hb_4⟩ := asO_bind hb_3
      obtain rfl := Option.some.inj hb_4
      exact ⟨impl_IsSealed.out, impl_IsSealed.out_ok, (impl_IsSealed.den k _ _ _ _ _ _ _ _ _).trans hy⟩
    · cases hb
/-! ### impl_IsNarrower -/
def impl_IsNarrower.f (k : Nat) (a0_0 : Int) (a0_1 : Int) (a1_0 : Int) (a1_1 : Int) : Option Bool :=
  (impl_IsPattern.f k a0_0 a0_1).bind fun t1 => (bif t1 then (impl_IsPattern.f k a1_0 a1_1).bind fun t2 => (bif t2 then (bif (a1_0 == (0 : Int)) then (bif (a1_1 == (-1 : Int)) then some true else some (a0_1 == a1_1)) else (bif (a0_0 == a1_0) then (bif (a1_1 == (-1 : Int)) then some true else some (a0_1 == a1_1)) else some false)) else some false) else some false)
def impl_IsNarrower.Γ (k : Nat) : Ct κ := assoc [(122, impl_IsPattern.C k)]
def impl_IsNarrower.LH (k : Nat) : Nat → Option (LHi κ) := assoc []
theorem impl_IsNarrower.hΓ (k : Nat) : ∀ f g, impl_IsNarrower.Γ k f = some g → CSound Tryz.prog f g := G_cons (impl_IsPattern.ok k) G_nil
theorem impl_IsNarrower.lok (k : Nat) : LOK ti (impl_IsNarrower.Γ k) (impl_IsNarrower.LH k) 0 (loopsOf (bodyOf Tryz.f77)) :=
  (show loopsOf (bodyOf Tryz.f77) = [] by kernel_rfl) ▸ LOK_nil
def impl_IsNarrower.sig : List PSh := [.agg [.sc, .sc], .agg [.sc, .sc]]
def impl_IsNarrower.g (y : Bool) : Ret κ := ⟨.v (.bool y), [], []⟩
def impl_IsNarrower.out (r : Ret κ) : Option Bool :=
  match r with
  | ⟨.v (.bool z0), [], []⟩ => some (z0)
  | _ => none
theorem impl_IsNarrower.out_ok (r : Ret κ) (y : Bool) (h : impl_IsNarrower.out r = some y) : r = impl_IsNarrower.g y := by
  unfold impl_IsNarrower.out at h
  split at h
  · obtain rfl := Option.some.inj h
    rfl
  · cases h
def impl_IsNarrower.body (k : Nat) (vs : List AV) (bs : List (Blk κ)) : Option (Lf κ) :=
  match vs, bs with
  | [.agg [.int .i64 a0_0, .int .i64 a0_1], .agg [.int .i64 a1_0, .int .i64 a1_1]], [] => some ⟨Bool, impl_IsNarrower.f k a0_0 a0_1 a1_0 a1_1, impl_IsNarrower.g⟩
  | _, _ => none
def impl_IsNarrower.C (k : Nat) : Nat → List AV → AP κ AV := contract impl_IsNarrower.sig (impl_IsNarrower.body k)
theorem impl_IsNarrower.den (k : Nat) (a0_0 : Int) (a0_1 : Int) (a1_0 : Int) (a1_1 : Int) : Code.den ti (impl_IsNarrower.Γ k) (impl_IsNarrower.LH k) (bodyOf Tryz.f77) (finK ti Tryz.f77.results.toList [] (flags impl_IsNarrower.sig).length (rwI (flags impl_IsNarrower.sig) 0) impl_IsNarrower.out) ⟨envOf (([.agg [.int .i64 a0_0, .int .i64 a0_1], .agg [.int .i64 a1_0, .int .i64 a1_1]]).zipIdx.map fun q => (q.2, q.1)), hpOf [], (flags impl_IsNarrower.sig).length⟩ = impl_IsNarrower.f k a0_0 a0_1 a1_0 a1_1 := by kernel_rfl
theorem impl_IsNarrower.ok (k : Nat) : CSound Tryz.prog 77 (impl_IsNarrower.C k) :=
  csound κ_ok mixed tok (impl_IsNarrower.hΓ k) (LH := impl_IsNarrower.LH k) (fn := Tryz.f77) (c := bodyOf Tryz.f77) Tryz.func77 rfl Tryz.call77 impl_IsNarrower.sig [] (impl_IsNarrower.body k) (by kernel_rfl) (impl_IsNarrower.lok k) (by decide) fun vs bs lf y hl hb hy => by
    unfold impl_IsNarrower.body at hb
    split at hb
    · obtain rfl := Option.some.inj hb
      exact ⟨impl_IsNarrower.out, impl_IsNarrower.out_ok, (impl_IsNarrower.den k _ _ _ _).trans hy⟩
    · cases hb
/-! ### impl_covered -/
def impl_covered.L2 {R : Type} (k : Nat) (x2 : Int) (xl0 : List T_impl_Grant) (xc1_0 : Int) (xc1_1 : Int) (X0 : Bool → Option R) (X1 : Unit → Option R) (rec : Int → Option R) (x3 : Int) : Option R :=
  (bif decide (x3 < x2) then (bif decide (0 ≤ x3) then (bif decide (x3 < (xl0.length : Int)) then (bif ((rd_impl_Grant xl0 x3).f2 == (3 : Int)) then (impl_IsNarrower.f k xc1_0 xc1_1 ((rd_impl_Grant xl0 x3).f1.f0) ((rd_impl_Grant xl0 x3).f1.f1)).bind fun t1 => (bif t1 then (X0 true) else (rec (w64 (x3 + (1 : Int))))) else (rec (w64 (x3 + (1 : Int))))) else none) else none) else (X1 ()))
def impl_covered.l2 {R : Type} (k : Nat) (x2 : Int) (xl0 : List T_impl_Grant) (xc1_0 : Int) (xc1_1 : Int) (X0 : Bool → Option R) (X1 : Unit → Option R) : Nat → Int → Option R
  | 0 => fun _ => none
  | n + 1 => impl_covered.L2 k x2 xl0 xc1_0 xc1_1 X0 X1 (impl_covered.l2 k x2 xl0 xc1_0 xc1_1 X0 X1 n)
def impl_covered.f (k : Nat) (a0 : List T_impl_Grant) (a1_0 : Int) (a1_1 : Int) : Option Bool :=
  (impl_covered.l2 k (a0.length : Int) a0 a1_0 a1_1 (fun (y2 : Bool) => some y2) (fun (_ : Unit) => some false) k (0 : Int))
def impl_covered.h2 (k : Nat) {R : Type} (K : Ex → St κ → Option R) (vs : List AV) (bs : List (Blk κ)) : Option R :=
  match vs, bs with
  | [.v (.ptr 1 0 0), .v (.sl 0), .v (.int .i64 x2), .v (.int .i64 x3)], [qb0, .cells 96 [.int .i64 xc1_0, .int .i64 xc1_1]] => (asO 2 false qb0).bind fun xl0 => impl_covered.l2 k x2 xl0 xc1_0 xc1_1 (fun (z0 : Bool) => K .ret (stOf [(4, [])] [.v (.bool z0)] [.rows 2 false xl0])) (fun (_ : Unit) => K (.exit 0) (stOf [(4, [])] [.v .any] [.rows 2 false xl0])) k x3
  | _, _ => none
def impl_covered.Γ (k : Nat) : Ct κ := assoc [(77, impl_IsNarrower.C k)]
def impl_covered.LH (k : Nat) : Nat → Option (LHi κ) := assoc [(2, ⟨1, [(3, []), (7, [some 2]), (8, []), (9, [])], [(4, [])], @impl_covered.h2 k⟩)]
theorem impl_covered.hΓ (k : Nat) : ∀ f g, impl_covered.Γ k f = some g → CSound Tryz.prog f g := G_cons (impl_IsNarrower.ok k) G_nil
theorem impl_covered.e2 {R : Type} (K : Ex → St κ → Option R) (k : Nat) (x2 : Int) (xl0 : List T_impl_Grant) (xc1_0 : Int) (xc1_1 : Int) : ∀ (n : Nat) (x3 : Int), loopN 1 (Code.den ti (impl_covered.Γ k) (impl_covered.LH k) (loopAt Tryz.f74 0)) [(3, []), (7, [some 2]), (8, []), (9, [])] [(4, [])] K n [.v (.ptr 1 0 0), .v (.sl 0), .v (.int .i64 x2), .v (.int .i64 x3)] [.rows 2 false xl0, .cells 96 [.int .i64 xc1_0, .int .i64 xc1_1]] = impl_covered.l2 k x2 xl0 xc1_0 xc1_1 (fun (z0 : Bool) => K .ret (stOf [(4, [])] [.v (.bool z0)] [.rows 2 false xl0])) (fun (_ : Unit) => K (.exit 0) (stOf [(4, [])] [.v .any] [.rows 2 false xl0])) n x3
  | 0, _ => rfl
  | n + 1, x3 => (show loopN 1 (Code.den ti (impl_covered.Γ k) (impl_covered.LH k) (loopAt Tryz.f74 0)) [(3, []), (7, [some 2]), (8, []), (9, [])] [(4, [])] K (n + 1) [.v (.ptr 1 0 0), .v (.sl 0), .v (.int .i64 x2), .v (.int .i64 x3)] [.rows 2 false xl0, .cells 96 [.int .i64 xc1_0, .int .i64 xc1_1]] = impl_covered.L2 k x2 xl0 xc1_0 xc1_1 (fun (z0 : Bool) => K .ret (stOf [(4, [])] [.v (.bool z0)] [.rows 2 false xl0])) (fun (_ : Unit) => K (.exit 0) (stOf [(4, [])] [.v .any] [.rows 2 false xl0])) (fun (x3' : Int) => loopN 1 (Code.den ti (impl_covered.Γ k) (impl_covered.LH k) (loopAt Tryz.f74 0)) [(3, []), (7, [some 2]), (8, []), (9, [])] [(4, [])] K n [.v (.ptr 1 0 0), .v (.sl 0), .v (.int .i64 x2), .v (.int .i64 x3')] [.rows 2 false xl0, .cells 96 [.int .i64 xc1_0, .int .i64 xc1_1]]) x3 by kernel_rfl).trans (congrArg (fun rec => impl_covered.L2 k x2 xl0 xc1_0 xc1_1 (fun (z0 : Bool) => K .ret (stOf [(4, [])] [.v (.bool z0)] [.rows 2 false xl0])) (fun (_ : Unit) => K (.exit 0) (stOf [(4, [])] [.v .any] [.rows 2 false xl0])) rec x3) (funext fun x3' => impl_covered.e2 K k x2 xl0 xc1_0 xc1_1 n x3'))
theorem impl_covered.q2 (k : Nat) {R : Type} (K : Ex → St κ → Option R) (vs : List AV) (bs : List (Blk κ)) (r : R) (h : impl_covered.h2 k K vs bs = some r) : ∃ n, loopN 1 (Code.den ti (impl_covered.Γ k) (impl_covered.LH k) (loopAt Tryz.f74 0)) [(3, []), (7, [some 2]), (8, []), (9, [])] [(4, [])] K n vs bs = some r := by
  unfold impl_covered.h2 at h
  split at h
  · obtain ⟨_, rfl, h_1⟩ := asO_bind h
    exact ⟨k, (impl_covered.e2 K k _ _ _ _ k _).trans h_1⟩
  · cases h
theorem impl_covered.lok (k : Nat) : LOK ti (impl_covered.Γ k) (impl_covered.LH k) 1 (loopsOf (bodyOf Tryz.f74)) :=
  (show loopsOf (bodyOf Tryz.f74) = [loopAt Tryz.f74 0] by kernel_rfl) ▸ (LOK_cons (g := ⟨1, [(3, []), (7, [some 2]), (8, []), (9, [])], [(4, [])], @impl_covered.h2 k⟩) (by kernel_rfl) rfl (fun K vs xs r h => impl_covered.q2 k K vs xs r h) (LOK_nil))
def impl_covered.sig : List PSh := [.one (.ro 2), .agg [.sc, .sc]]
def impl_covered.g (y : Bool) : Ret κ := ⟨.v (.bool y), [], []⟩
def impl_covered.out (r : Ret κ) : Option Bool :=
  match r with
  | ⟨.v (.bool z0), [], []⟩ => some (z0)
  | _ => none
theorem impl_covered.out_ok (r : Ret κ) (y : Bool) (h : impl_covered.out r = some y) : r = impl_covered.g y := by
  unfold impl_covered.out at h
  split at h
  · obtain rfl := Option.some.inj h
    rfl
  · cases h
def impl_covered.body (k : Nat) (vs : List AV) (bs : List (Blk κ)) : Option (Lf κ) :=
  match vs, bs with
  | [.v (.sl 0), .agg [.int .i64 a1_0, .int .i64 a1_1]], [qb0] => (asO 2 false qb0).bind fun a0 => some ⟨Bool, impl_covered.f k a0 a1_0 a1_1, impl_covered.g⟩
  | _, _ => none
def impl_covered.C (k : Nat) : Nat → List AV → AP κ AV := contract impl_covered.sig (impl_covered.body k)
theorem impl_covered.den (k : Nat) (a0 : List T_impl_Grant) (a1_0 : Int) (a1_1 : Int) : Code.den ti (impl_covered.Γ k) (impl_covered.LH k) (bodyOf Tryz.f74) (finK ti Tryz.f74.results.toList [] (flags impl_covered.sig).length (rwI (flags impl_covered.sig) 0) impl_covered.out) ⟨envOf (([.v (.sl 0), .agg [.int .i64 a1_0, .int .i64 a1_1]]).zipIdx.map fun q => (q.2, q.1)), hpOf [.rows 2 false a0], (flags impl_covered.sig).length⟩ = impl_covered.f k a0 a1_0 a1_1 := by kernel_rfl
theorem impl_covered.ok (k : Nat) : CSound Tryz.prog 74 (impl_covered.C k) :=
  csound κ_ok mixed tok (impl_covered.hΓ k) (LH := impl_covered.LH k) (fn := Tryz.f74) (c := bodyOf Tryz.f74) Tryz.func74 rfl Tryz.call74 impl_covered.sig [] (impl_covered.body k) (by kernel_rfl) (impl_covered.lok k) (by decide) fun vs bs lf y hl hb hy => by
    unfold impl_covered.body at hb
    split at hb
    · obtain ⟨_, rfl, hb_1⟩ := asO_bind hb
      obtain rfl := Option.some.inj hb_1
      exact ⟨impl_covered.out, impl_covered.out_ok, (impl_covered.den k _ _ _).trans hy⟩
    · cases hb
end Go.Proofs.YtoenilndklbceaaGreat.PFnUpdated
