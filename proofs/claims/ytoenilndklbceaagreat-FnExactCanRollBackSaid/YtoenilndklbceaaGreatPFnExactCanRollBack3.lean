/- What the functions that the law FnExactCanRollBack reaches come to; no conditions. -/
import Derived.Test.YtoenilndklbceaaGreatPFnExactCanRollBack2
set_option linter.unusedVariables false
set_option maxRecDepth 100000
namespace Go.Proofs.YtoenilndklbceaaGreat.PFnExactCanRollBack
open Go Go.Eng Go.Proofs
/-! ### spec_IsValidKey -/
def spec_IsValidKey.f (k : Nat) (a0 : Int) : Option Bool :=
  (spec_l1In.f k a0 (1 : Int) (2147483646 : Int)).bind fun t1 => some t1
def spec_IsValidKey.Γ (k : Nat) : Ct κ := assoc [(101, spec_l1In.C k)]
def spec_IsValidKey.LH (k : Nat) : Nat → Option (LHi κ) := assoc []
theorem spec_IsValidKey.hΓ (k : Nat) : ∀ f g, spec_IsValidKey.Γ k f = some g → CSound Tryz.prog f g := G_cons (spec_l1In.ok k) G_nil
theorem spec_IsValidKey.lok (k : Nat) : LOK ti (spec_IsValidKey.Γ k) (spec_IsValidKey.LH k) 0 (loopsOf (bodyOf Tryz.f142)) :=
  (show loopsOf (bodyOf Tryz.f142) = [] by kernel_rfl) ▸ LOK_nil
def spec_IsValidKey.sig : List PSh := [.one .sc]
def spec_IsValidKey.g (y : Bool) : Ret κ := ⟨.v (.bool y), [], []⟩
def spec_IsValidKey.out (r : Ret κ) : Option Bool :=
  match r with
  | ⟨.v (.bool z0), [], []⟩ => some (z0)
  | _ => none
theorem spec_IsValidKey.out_ok (r : Ret κ) (y : Bool) (h : spec_IsValidKey.out r = some y) : r = spec_IsValidKey.g y := by
  unfold spec_IsValidKey.out at h
  split at h
  · obtain rfl := Option.some.inj h
    rfl
  · cases h
def spec_IsValidKey.body (k : Nat) (vs : List AV) (bs : List (Blk κ)) : Option (Lf κ) :=
  match vs, bs with
  | [.v (.int .i64 a0)], [] => some ⟨Bool, spec_IsValidKey.f k a0, spec_IsValidKey.g⟩
  | _, _ => none
def spec_IsValidKey.C (k : Nat) : Nat → List AV → AP κ AV := contract spec_IsValidKey.sig (spec_IsValidKey.body k)
theorem spec_IsValidKey.den (k : Nat) (a0 : Int) : Code.den ti (spec_IsValidKey.Γ k) (spec_IsValidKey.LH k) (bodyOf Tryz.f142) (finK ti Tryz.f142.results.toList [] (flags spec_IsValidKey.sig).length (rwI (flags spec_IsValidKey.sig) 0) spec_IsValidKey.out) ⟨envOf (([.v (.int .i64 a0)]).zipIdx.map fun q => (q.2, q.1)), hpOf [], (flags spec_IsValidKey.sig).length⟩ = spec_IsValidKey.f k a0 := by kernel_rfl
theorem spec_IsValidKey.ok (k : Nat) : CSound Tryz.prog 142 (spec_IsValidKey.C k) :=
  csound κ_ok mixed tok (spec_IsValidKey.hΓ k) (LH := spec_IsValidKey.LH k) (fn := Tryz.f142) (c := bodyOf Tryz.f142) Tryz.func142 rfl Tryz.call142 spec_IsValidKey.sig [] (spec_IsValidKey.body k) (by kernel_rfl) (spec_IsValidKey.lok k) (by decide) fun vs bs lf y hl hb hy => by
    unfold spec_IsValidKey.body at hb
    split at hb
    · obtain rfl := Option.some.inj hb
      exact ⟨spec_IsValidKey.out, spec_IsValidKey.out_ok, (spec_IsValidKey.den k _).trans hy⟩
    · cases hb
/-! ### spec_l26Copy -/
def spec_l26Copy.f (k : Nat) (a0_0 : Int) (a0_1 : Int) (a0_2 : Int) (a0_3 : List T_impl_Grant) (a0_4 : List T_impl_Flow) (a0_5 : List T_impl_Rule) (a0_6 : List T_impl_Op) (a0_7 : Int) : Option (Int × Int × Int × Int × List T_impl_Grant × List T_impl_Flow × List T_impl_Rule × List T_impl_Op) :=
  (bif decide ((([] : List T_impl_Grant).length + a0_3.length) * 56 ≤ cap48) then (bif decide ((([] : List T_impl_Flow).length + a0_4.length) * 24 ≤ cap48) then (bif decide ((([] : List T_impl_Rule).length + a0_5.length) * 64 ≤ cap48) then (bif decide ((([] : List T_impl_Op).length + a0_6.length) * 32 ≤ cap48) then some (a0_0, a0_1, a0_2, a0_7, (([] : List T_impl_Grant) ++ a0_3), (([] : List T_impl_Flow) ++ a0_4), (([] : List T_impl_Rule) ++ a0_5), (([] : List T_impl_Op) ++ a0_6)) else none) else none) else none) else none)
def spec_l26Copy.Γ (k : Nat) : Ct κ := assoc []
def spec_l26Copy.LH (k : Nat) : Nat → Option (LHi κ) := assoc []
theorem spec_l26Copy.hΓ (k : Nat) : ∀ f g, spec_l26Copy.Γ k f = some g → CSound Tryz.prog f g := G_nil
theorem spec_l26Copy.lok (k : Nat) : LOK ti (spec_l26Copy.Γ k) (spec_l26Copy.LH k) 4 (loopsOf (bodyOf Tryz.f59)) :=
  (show loopsOf (bodyOf Tryz.f59) = [] by kernel_rfl) ▸ LOK_nil
def spec_l26Copy.sig : List PSh := [.agg [.sc, .sc, .sc, .ro 5, .ro 6, .ro 7, .ro 8, .sc]]
def spec_l26Copy.g (y : Int × Int × Int × Int × List T_impl_Grant × List T_impl_Flow × List T_impl_Rule × List T_impl_Op) : Ret κ := ⟨.agg [.int .i64 y.1, .int .i64 y.2.1, .int .i64 y.2.2.1, .sl 4, .sl 5, .sl 6, .sl 7, .int .i64 y.2.2.2.1], [], [.rows 5 true y.2.2.2.2.1, .rows 6 true y.2.2.2.2.2.1, .rows 7 true y.2.2.2.2.2.2.1, .rows 8 true y.2.2.2.2.2.2.2]⟩
def spec_l26Copy.out (r : Ret κ) : Option (Int × Int × Int × Int × List T_impl_Grant × List T_impl_Flow × List T_impl_Rule × List T_impl_Op) :=
  match r with
  | ⟨.agg [.int .i64 z0, .int .i64 z1, .int .i64 z2, .sl 4, .sl 5, .sl 6, .sl 7, .int .i64 z3], [], [q4, q5, q6, q7]⟩ => (asO 5 true q4).bind fun z4 => (asO 6 true q5).bind fun z5 => (asO 7 true q6).bind fun z6 => (asO 8 true q7).bind fun z7 => some (z0, z1, z2, z3, z4, z5, z6, z7)
  | _ => none
theorem spec_l26Copy.out_ok (r : Ret κ) (y : Int × Int × Int × Int × List T_impl_Grant × List T_impl_Flow × List T_impl_Rule × List T_impl_Op) (h : spec_l26Copy.out r = some y) : r = spec_l26Copy.g y := by
  unfold spec_l26Copy.out at h
  split at h
  · obtain ⟨_, rfl, h_1⟩ := asO_bind h
    obtain ⟨_, rfl, h_2⟩ := asO_bind h_1
    obtain ⟨_, rfl, h_3⟩ := asO_bind h_2
    obtain ⟨_, rfl, h_4⟩ := asO_bind h_3
    obtain rfl := Option.some.inj h_4
    rfl
  · cases h
def spec_l26Copy.body (k : Nat) (vs : List AV) (bs : List (Blk κ)) : Option (Lf κ) :=
  match vs, bs with
  | [.agg [.int .i64 a0_0, .int .i64 a0_1, .int .i64 a0_2, .sl 0, .sl 1, .sl 2, .sl 3, .int .i64 a0_7]], [qb0, qb1, qb2, qb3] => (asO 5 false qb0).bind fun a0_3 => (asO 6 false qb1).bind fun a0_4 => (asO 7 false qb2).bind fun a0_5 => (asO 8 false qb3).bind fun a0_6 => some ⟨Int × Int × Int × Int × List T_impl_Grant × List T_impl_Flow × List T_impl_Rule × List T_impl_Op, spec_l26Copy.f k a0_0 a0_1 a0_2 a0_3 a0_4 a0_5 a0_6 a0_7, spec_l26Copy.g⟩
  | _, _ => none
def spec_l26Copy.C (k : Nat) : Nat → List AV → AP κ AV := contract spec_l26Copy.sig (spec_l26Copy.body k)
theorem spec_l26Copy.den (k : Nat) (a0_0 : Int) (a0_1 : Int) (a0_2 : Int) (a0_3 : List T_impl_Grant) (a0_4 : List T_impl_Flow) (a0_5 : List T_impl_Rule) (a0_6 : List T_impl_Op) (a0_7 : Int) : Code.den ti (spec_l26Copy.Γ k) (spec_l26Copy.LH k) (bodyOf Tryz.f59) (finK ti Tryz.f59.results.toList [(2, [none, none, none, some 5, some 6, some 7, some 8, none])] (flags spec_l26Copy.sig).length (rwI (flags spec_l26Copy.sig) 0) spec_l26Copy.out) ⟨envOf (([.agg [.int .i64 a0_0, .int .i64 a0_1, .int .i64 a0_2, .sl 0, .sl 1, .sl 2, .sl 3, .int .i64 a0_7]]).zipIdx.map fun q => (q.2, q.1)), hpOf [.rows 5 false a0_3, .rows 6 false a0_4, .rows 7 false a0_5, .rows 8 false a0_6], (flags spec_l26Copy.sig).length⟩ = spec_l26Copy.f k a0_0 a0_1 a0_2 a0_3 a0_4 a0_5 a0_6 a0_7 := by kernel_rfl
theorem spec_l26Copy.ok (k : Nat) : CSound Tryz.prog 59 (spec_l26Copy.C k) :=
  csound κ_ok mixed tok (spec_l26Copy.hΓ k) (LH := spec_l26Copy.LH k) (fn := Tryz.f59) (c := bodyOf Tryz.f59) Tryz.func59 rfl Tryz.call59 spec_l26Copy.sig [(2, [none, none, none, some 5, some 6, some 7, some 8, none])] (spec_l26Copy.body k) (by kernel_rfl) (spec_l26Copy.lok k) (by decide) fun vs bs lf y hl hb hy => by
    unfold spec_l26Copy.body at hb
    split at hb
    · obtain ⟨_, rfl, hb_1⟩ := asO_bind hb
      obtain ⟨_, rfl, hb_2⟩ := asO_bind hb_1
      obtain ⟨_, rfl, hb_3⟩ := asO_bind hb_2
      obtain ⟨_, rfl, hb_4⟩ := asO_bind hb_3
      obtain rfl := Option.some.inj hb_4
      exact ⟨spec_l26Copy.out, spec_l26Copy.out_ok, (spec_l26Copy.den k _ _ _ _ _ _ _ _).trans hy⟩
    · cases hb
/-! ### spec_PackageInts -/
def spec_PackageInts.L5 {R : Type} (k : Nat) (xl0 : List T_impl_Grant) (xl1 : List T_impl_Flow) (xl2 : List T_impl_Rule) (xl3 : List T_impl_Op) (xc4_0 : Int) (xc4_1 : Int) (xc4_2 : Int) (xc4_7 : Int) (X0 : List Int → Option R) (rec : Int → List Int → Option R) (x2 : Int) (xl5 : List Int) : Option R :=
  (bif decide (x2 < (xl0.length : Int)) then (bif decide (0 ≤ x2) then (bif decide (x2 < (xl0.length : Int)) then (bif (rd_impl_Grant xl0 x2).f5 then (bif decide ((xl5.length + ([(rd_impl_Grant xl0 x2).f1.f0, (rd_impl_Grant xl0 x2).f1.f1, (rd_impl_Grant xl0 x2).f2, (rd_impl_Grant xl0 x2).f3, (rd_impl_Grant xl0 x2).f4, (1 : Int)] : List Int).length) * 8 ≤ cap48) then (let l2 : List Int := (xl5 ++ ([(rd_impl_Grant xl0 x2).f1.f0, (rd_impl_Grant xl0 x2).f1.f1, (rd_impl_Grant xl0 x2).f2, (rd_impl_Grant xl0 x2).f3, (rd_impl_Grant xl0 x2).f4, (1 : Int)] : List Int)); (rec (w64 (x2 + (1 : Int))) l2)) else none) else (bif decide ((xl5.length + ([(rd_impl_Grant xl0 x2).f1.f0, (rd_impl_Grant xl0 x2).f1.f1, (rd_impl_Grant xl0 x2).f2, (rd_impl_Grant xl0 x2).f3, (rd_impl_Grant xl0 x2).f4, (0 : Int)] : List Int).length) * 8 ≤ cap48) then (let l3 : List Int := (xl5 ++ ([(rd_impl_Grant xl0 x2).f1.f0, (rd_impl_Grant xl0 x2).f1.f1, (rd_impl_Grant xl0 x2).f2, (rd_impl_Grant xl0 x2).f3, (rd_impl_Grant xl0 x2).f4, (0 : Int)] : List Int)); (rec (w64 (x2 + (1 : Int))) l3)) else none)) else none) else none) else (X0 xl5))
def spec_PackageInts.l5 {R : Type} (k : Nat) (xl0 : List T_impl_Grant) (xl1 : List T_impl_Flow) (xl2 : List T_impl_Rule) (xl3 : List T_impl_Op) (xc4_0 : Int) (xc4_1 : Int) (xc4_2 : Int) (xc4_7 : Int) (X0 : List Int → Option R) : Nat → Int → List Int → Option R
  | 0 => fun _ _ => none
  | n + 1 => spec_PackageInts.L5 k xl0 xl1 xl2 xl3 xc4_0 xc4_1 xc4_2 xc4_7 X0 (spec_PackageInts.l5 k xl0 xl1 xl2 xl3 xc4_0 xc4_1 xc4_2 xc4_7 X0 n)
def spec_PackageInts.L14 {R : Type} (k : Nat) (xl0 : List T_impl_Grant) (xl1 : List T_impl_Flow) (xl2 : List T_impl_Rule) (xl3 : List T_impl_Op) (xc4_0 : Int) (xc4_1 : Int) (xc4_2 : Int) (xc4_7 : Int) (X0 : List Int → Option R) (rec : Int → List Int → Option R) (x2 : Int) (xl5 : List Int) : Option R :=
  (bif decide (x2 < (xl1.length : Int)) then (bif decide (0 ≤ x2) then (bif decide (x2 < (xl1.length : Int)) then (bif decide (0 ≤ x2) then (bif decide (x2 < (xl1.length : Int)) then (bif decide ((xl5.length + ([(rd_impl_Flow xl1 x2).f1, (rd_impl_Flow xl1 x2).f2] : List Int).length) * 8 ≤ cap48) then (let l5 : List Int := (xl5 ++ ([(rd_impl_Flow xl1 x2).f1, (rd_impl_Flow xl1 x2).f2] : List Int)); (rec (w64 (x2 + (1 : Int))) l5)) else none) else none) else none) else none) else none) else (X0 xl5))
def spec_PackageInts.l14 {R : Type} (k : Nat) (xl0 : List T_impl_Grant) (xl1 : List T_impl_Flow) (xl2 : List T_impl_Rule) (xl3 : List T_impl_Op) (xc4_0 : Int) (xc4_1 : Int) (xc4_2 : Int) (xc4_7 : Int) (X0 : List Int → Option R) : Nat → Int → List Int → Option R
  | 0 => fun _ _ => none
  | n + 1 => spec_PackageInts.L14 k xl0 xl1 xl2 xl3 xc4_0 xc4_1 xc4_2 xc4_7 X0 (spec_PackageInts.l14 k xl0 xl1 xl2 xl3 xc4_0 xc4_1 xc4_2 xc4_7 X0 n)
def spec_PackageInts.L19 {R : Type} (k : Nat) (xl0 : List T_impl_Grant) (xl1 : List T_impl_Flow) (xl2 : List T_impl_Rule) (xl3 : List T_impl_Op) (xc4_0 : Int) (xc4_1 : Int) (xc4_2 : Int) (xc4_7 : Int) (X0 : List Int → Option R) (rec : Int → List Int → Option R) (x2 : Int) (xl5 : List Int) : Option R :=
  (bif decide (x2 < (xl2.length : Int)) then (bif decide (0 ≤ x2) then (bif decide (x2 < (xl2.length : Int)) then (bif decide ((xl5.length + ([(rd_impl_Rule xl2 x2).f1, (rd_impl_Rule xl2 x2).f2.f0, (rd_impl_Rule xl2 x2).f2.f1, (rd_impl_Rule xl2 x2).f3, (rd_impl_Rule xl2 x2).f4, (rd_impl_Rule xl2 x2).f5.f0, (rd_impl_Rule xl2 x2).f5.f1] : List Int).length) * 8 ≤ cap48) then (let l7 : List Int := (xl5 ++ ([(rd_impl_Rule xl2 x2).f1, (rd_impl_Rule xl2 x2).f2.f0, (rd_impl_Rule xl2 x2).f2.f1, (rd_impl_Rule xl2 x2).f3, (rd_impl_Rule xl2 x2).f4, (rd_impl_Rule xl2 x2).f5.f0, (rd_impl_Rule xl2 x2).f5.f1] : List Int)); (rec (w64 (x2 + (1 : Int))) l7)) else none) else none) else none) else (X0 xl5))
def spec_PackageInts.l19 {R : Type} (k : Nat) (xl0 : List T_impl_Grant) (xl1 : List T_impl_Flow) (xl2 : List T_impl_Rule) (xl3 : List T_impl_Op) (xc4_0 : Int) (xc4_1 : Int) (xc4_2 : Int) (xc4_7 : Int) (X0 : List Int → Option R) : Nat → Int → List Int → Option R
  | 0 => fun _ _ => none
  | n + 1 => spec_PackageInts.L19 k xl0 xl1 xl2 xl3 xc4_0 xc4_1 xc4_2 xc4_7 X0 (spec_PackageInts.l19 k xl0 xl1 xl2 xl3 xc4_0 xc4_1 xc4_2 xc4_7 X0 n)
def spec_PackageInts.L25 {R : Type} (k : Nat) (xl0 : List T_impl_Grant) (xl1 : List T_impl_Flow) (xl2 : List T_impl_Rule) (xl3 : List T_impl_Op) (xc4_0 : Int) (xc4_1 : Int) (xc4_2 : Int) (xc4_7 : Int) (X0 : List Int → Option R) (rec : Int → List Int → Option R) (x2 : Int) (xl5 : List Int) : Option R :=
  (bif decide (x2 < (xl3.length : Int)) then (bif decide (0 ≤ x2) then (bif decide (x2 < (xl3.length : Int)) then (bif decide (0 ≤ x2) then (bif decide (x2 < (xl3.length : Int)) then (bif decide (0 ≤ x2) then (bif decide (x2 < (xl3.length : Int)) then (bif decide (0 ≤ x2) then (bif decide (x2 < (xl3.length : Int)) then (bif decide ((xl5.length + ([(rd_impl_Op xl3 x2).f0, (rd_impl_Op xl3 x2).f1, (rd_impl_Op xl3 x2).f2, (rd_impl_Op xl3 x2).f3] : List Int).length) * 8 ≤ cap48) then (let l9 : List Int := (xl5 ++ ([(rd_impl_Op xl3 x2).f0, (rd_impl_Op xl3 x2).f1, (rd_impl_Op xl3 x2).f2, (rd_impl_Op xl3 x2).f3] : List Int)); (rec (w64 (x2 + (1 : Int))) l9)) else none) else none) else none) else none) else none) else none) else none) else none) else none) else (X0 xl5))
def spec_PackageInts.l25 {R : Type} (k : Nat) (xl0 : List T_impl_Grant) (xl1 : List T_impl_Flow) (xl2 : List T_impl_Rule) (xl3 : List T_impl_Op) (xc4_0 : Int) (xc4_1 : Int) (xc4_2 : Int) (xc4_7 : Int) (X0 : List Int → Option R) : Nat → Int → List Int → Option R
  | 0 => fun _ _ => none
  | n + 1 => spec_PackageInts.L25 k xl0 xl1 xl2 xl3 xc4_0 xc4_1 xc4_2 xc4_7 X0 (spec_PackageInts.l25 k xl0 xl1 xl2 xl3 xc4_0 xc4_1 xc4_2 xc4_7 X0 n)
def spec_PackageInts.f (k : Nat) (a0_0 : Int) (a0_1 : Int) (a0_2 : Int) (a0_3 : List T_impl_Grant) (a0_4 : List T_impl_Flow) (a0_5 : List T_impl_Rule) (a0_6 : List T_impl_Op) (a0_7 : Int) : Option (List Int) :=
  (spec_IsPackage.f k a0_0 a0_1 a0_2 a0_3 a0_4 a0_5 a0_6 a0_7).bind fun t1 => (bif !t1 then some ([] : List Int) else (spec_PackageInts.l5 k a0_3 a0_4 a0_5 a0_6 a0_0 a0_1 a0_2 a0_7 (fun (y4 : List Int) => (bif decide ((y4.length + ([(a0_4.length : Int)] : List Int).length) * 8 ≤ cap48) then (spec_PackageInts.l14 k a0_3 a0_4 a0_5 a0_6 a0_0 a0_1 a0_2 a0_7 (fun (y6 : List Int) => (bif decide ((y6.length + ([(a0_5.length : Int)] : List Int).length) * 8 ≤ cap48) then (spec_PackageInts.l19 k a0_3 a0_4 a0_5 a0_6 a0_0 a0_1 a0_2 a0_7 (fun (y8 : List Int) => (bif decide ((y8.length + ([(a0_6.length : Int)] : List Int).length) * 8 ≤ cap48) then (spec_PackageInts.l25 k a0_3 a0_4 a0_5 a0_6 a0_0 a0_1 a0_2 a0_7 (fun (y10 : List Int) => some y10) k (0 : Int) (y8 ++ ([(a0_6.length : Int)] : List Int))) else none)) k (0 : Int) (y6 ++ ([(a0_5.length : Int)] : List Int))) else none)) k (0 : Int) (y4 ++ ([(a0_4.length : Int)] : List Int))) else none)) k (0 : Int) ([a0_0, a0_1, a0_2, (a0_3.length : Int)] : List Int)))
def spec_PackageInts.h5 (k : Nat) {R : Type} (K : Ex → St κ → Option R) (vs : List AV) (bs : List (Blk κ)) : Option R :=
  match vs, bs with
  | [.v (.ptr 4 0 0), .v (.sl 5), .v (.int .i64 x2)], [qb0, qb1, qb2, qb3, .cells 39 [.int .i64 xc4_0, .int .i64 xc4_1, .int .i64 xc4_2, .sl 0, .sl 1, .sl 2, .sl 3, .int .i64 xc4_7], qb5] => (asO 5 false qb0).bind fun xl0 => (asO 6 false qb1).bind fun xl1 => (asO 7 false qb2).bind fun xl2 => (asO 8 false qb3).bind fun xl3 => (asO 10 true qb5).bind fun xl5 => spec_PackageInts.l5 k xl0 xl1 xl2 xl3 xc4_0 xc4_1 xc4_2 xc4_7 (fun (zl5 : List Int) => K (.exit 0) (stOf [(1, [none, none, none, some 5, some 6, some 7, some 8, none]), (3, [some 10])] [.v (.ptr 4 0 0), .v (.sl 5)] [.rows 5 false xl0, .rows 6 false xl1, .rows 7 false xl2, .rows 8 false xl3, .cells 39 [.int .i64 xc4_0, .int .i64 xc4_1, .int .i64 xc4_2, .sl 0, .sl 1, .sl 2, .sl 3, .int .i64 xc4_7], .rows 10 true zl5])) k x2 xl5
  | _, _ => none
def spec_PackageInts.h14 (k : Nat) {R : Type} (K : Ex → St κ → Option R) (vs : List AV) (bs : List (Blk κ)) : Option R :=
  match vs, bs with
  | [.v (.ptr 4 0 0), .v (.sl 5), .v (.int .i64 x2)], [qb0, qb1, qb2, qb3, .cells 39 [.int .i64 xc4_0, .int .i64 xc4_1, .int .i64 xc4_2, .sl 0, .sl 1, .sl 2, .sl 3, .int .i64 xc4_7], qb5] => (asO 5 false qb0).bind fun xl0 => (asO 6 false qb1).bind fun xl1 => (asO 7 false qb2).bind fun xl2 => (asO 8 false qb3).bind fun xl3 => (asO 10 true qb5).bind fun xl5 => spec_PackageInts.l14 k xl0 xl1 xl2 xl3 xc4_0 xc4_1 xc4_2 xc4_7 (fun (zl5 : List Int) => K (.exit 2) (stOf [(1, [none, none, none, some 5, some 6, some 7, some 8, none]), (3, [some 10])] [.v (.ptr 4 0 0), .v (.sl 5)] [.rows 5 false xl0, .rows 6 false xl1, .rows 7 false xl2, .rows 8 false xl3, .cells 39 [.int .i64 xc4_0, .int .i64 xc4_1, .int .i64 xc4_2, .sl 0, .sl 1, .sl 2, .sl 3, .int .i64 xc4_7], .rows 10 true zl5])) k x2 xl5
  | _, _ => none
def spec_PackageInts.h19 (k : Nat) {R : Type} (K : Ex → St κ → Option R) (vs : List AV) (bs : List (Blk κ)) : Option R :=
  match vs, bs with
  | [.v (.ptr 4 0 0), .v (.sl 5), .v (.int .i64 x2)], [qb0, qb1, qb2, qb3, .cells 39 [.int .i64 xc4_0, .int .i64 xc4_1, .int .i64 xc4_2, .sl 0, .sl 1, .sl 2, .sl 3, .int .i64 xc4_7], qb5] => (asO 5 false qb0).bind fun xl0 => (asO 6 false qb1).bind fun xl1 => (asO 7 false qb2).bind fun xl2 => (asO 8 false qb3).bind fun xl3 => (asO 10 true qb5).bind fun xl5 => spec_PackageInts.l19 k xl0 xl1 xl2 xl3 xc4_0 xc4_1 xc4_2 xc4_7 (fun (zl5 : List Int) => K (.exit 4) (stOf [(1, [none, none, none, some 5, some 6, some 7, some 8, none]), (3, [some 10])] [.v (.ptr 4 0 0), .v (.sl 5)] [.rows 5 false xl0, .rows 6 false xl1, .rows 7 false xl2, .rows 8 false xl3, .cells 39 [.int .i64 xc4_0, .int .i64 xc4_1, .int .i64 xc4_2, .sl 0, .sl 1, .sl 2, .sl 3, .int .i64 xc4_7], .rows 10 true zl5])) k x2 xl5
  | _, _ => none
def spec_PackageInts.h25 (k : Nat) {R : Type} (K : Ex → St κ → Option R) (vs : List AV) (bs : List (Blk κ)) : Option R :=
  match vs, bs with
  | [.v (.ptr 4 0 0), .v (.sl 5), .v (.int .i64 x2)], [qb0, qb1, qb2, qb3, .cells 39 [.int .i64 xc4_0, .int .i64 xc4_1, .int .i64 xc4_2, .sl 0, .sl 1, .sl 2, .sl 3, .int .i64 xc4_7], qb5] => (asO 5 false qb0).bind fun xl0 => (asO 6 false qb1).bind fun xl1 => (asO 7 false qb2).bind fun xl2 => (asO 8 false qb3).bind fun xl3 => (asO 10 true qb5).bind fun xl5 => spec_PackageInts.l25 k xl0 xl1 xl2 xl3 xc4_0 xc4_1 xc4_2 xc4_7 (fun (zl4 : List Int) => K (.exit 6) (stOf [(3, [some 10])] [.v (.sl 4)] [.rows 5 false xl0, .rows 6 false xl1, .rows 7 false xl2, .rows 8 false xl3, .rows 10 true zl4])) k x2 xl5
  | _, _ => none
def spec_PackageInts.Γ (k : Nat) : Ct κ := assoc [(47, spec_IsPackage.C k)]
def spec_PackageInts.LH (k : Nat) : Nat → Option (LHi κ) := assoc [(5, ⟨4, [(1, [none, none, none, some 5, some 6, some 7, some 8, none]), (3, [some 10]), (4, [])], [(1, [none, none, none, some 5, some 6, some 7, some 8, none]), (3, [some 10])], @spec_PackageInts.h5 k⟩), (14, ⟨4, [(1, [none, none, none, some 5, some 6, some 7, some 8, none]), (3, [some 10]), (7, [])], [(1, [none, none, none, some 5, some 6, some 7, some 8, none]), (3, [some 10])], @spec_PackageInts.h14 k⟩), (19, ⟨4, [(1, [none, none, none, some 5, some 6, some 7, some 8, none]), (3, [some 10]), (8, [])], [(1, [none, none, none, some 5, some 6, some 7, some 8, none]), (3, [some 10])], @spec_PackageInts.h19 k⟩), (25, ⟨4, [(1, [none, none, none, some 5, some 6, some 7, some 8, none]), (3, [some 10]), (10, [])], [(3, [some 10])], @spec_PackageInts.h25 k⟩)]
theorem spec_PackageInts.hΓ (k : Nat) : ∀ f g, spec_PackageInts.Γ k f = some g → CSound Tryz.prog f g := G_cons (spec_IsPackage.ok k) G_nil
theorem spec_PackageInts.e5 {R : Type} (K : Ex → St κ → Option R) (k : Nat) (xl0 : List T_impl_Grant) (xl1 : List T_impl_Flow) (xl2 : List T_impl_Rule) (xl3 : List T_impl_Op) (xc4_0 : Int) (xc4_1 : Int) (xc4_2 : Int) (xc4_7 : Int) : ∀ (n : Nat) (x2 : Int) (xl5 : List Int), loopN 4 (Code.den ti (spec_PackageInts.Γ k) (spec_PackageInts.LH k) (loopAt Tryz.f157 0)) [(1, [none, none, none, some 5, some 6, some 7, some 8, none]), (3, [some 10]), (4, [])] [(1, [none, none, none, some 5, some 6, some 7, some 8, none]), (3, [some 10])] K n [.v (.ptr 4 0 0), .v (.sl 5), .v (.int .i64 x2)] [.rows 5 false xl0, .rows 6 false xl1, .rows 7 false xl2, .rows 8 false xl3, .cells 39 [.int .i64 xc4_0, .int .i64 xc4_1, .int .i64 xc4_2, .sl 0, .sl 1, .sl 2, .sl 3, .int .i64 xc4_7], .rows 10 true xl5] = spec_PackageInts.l5 k xl0 xl1 xl2 xl3 xc4_0 xc4_1 xc4_2 xc4_7 (fun (zl5 : List Int) => K (.exit 0) (stOf [(1, [none, none, none, some 5, some 6, some 7, some 8, none]), (3, [some 10])] [.v (.ptr 4 0 0), .v (.sl 5)] [.rows 5 false xl0, .rows 6 false xl1, .rows 7 false xl2, .rows 8 false xl3, .cells 39 [.int .i64 xc4_0, .int .i64 xc4_1, .int .i64 xc4_2, .sl 0, .sl 1, .sl 2, .sl 3, .int .i64 xc4_7], .rows 10 true zl5])) n x2 xl5
  | 0, _, _ => rfl
  | n + 1, x2, xl5 => (show loopN 4 (Code.den ti (spec_PackageInts.Γ k) (spec_PackageInts.LH k) (loopAt Tryz.f157 0)) [(1, [none, none, none, some 5, some 6, some 7, some 8, none]), (3, [some 10]), (4, [])] [(1, [none, none, none, some 5, some 6, some 7, some 8, none]), (3, [some 10])] K (n + 1) [.v (.ptr 4 0 0), .v (.sl 5), .v (.int .i64 x2)] [.rows 5 false xl0, .rows 6 false xl1, .rows 7 false xl2, .rows 8 false xl3, .cells 39 [.int .i64 xc4_0, .int .i64 xc4_1, .int .i64 xc4_2, .sl 0, .sl 1, .sl 2, .sl 3, .int .i64 xc4_7], .rows 10 true xl5] = spec_PackageInts.L5 k xl0 xl1 xl2 xl3 xc4_0 xc4_1 xc4_2 xc4_7 (fun (zl5 : List Int) => K (.exit 0) (stOf [(1, [none, none, none, some 5, some 6, some 7, some 8, none]), (3, [some 10])] [.v (.ptr 4 0 0), .v (.sl 5)] [.rows 5 false xl0, .rows 6 false xl1, .rows 7 false xl2, .rows 8 false xl3, .cells 39 [.int .i64 xc4_0, .int .i64 xc4_1, .int .i64 xc4_2, .sl 0, .sl 1, .sl 2, .sl 3, .int .i64 xc4_7], .rows 10 true zl5])) (fun (x2' : Int) (xl5' : List Int) => loopN 4 (Code.den ti (spec_PackageInts.Γ k) (spec_PackageInts.LH k) (loopAt Tryz.f157 0)) [(1, [none, none, none, some 5, some 6, some 7, some 8, none]), (3, [some 10]), (4, [])] [(1, [none, none, none, some 5, some 6, some 7, some 8, none]), (3, [some 10])] K n [.v (.ptr 4 0 0), .v (.sl 5), .v (.int .i64 x2')] [.rows 5 false xl0, .rows 6 false xl1, .rows 7 false xl2, .rows 8 false xl3, .cells 39 [.int .i64 xc4_0, .int .i64 xc4_1, .int .i64 xc4_2, .sl 0, .sl 1, .sl 2, .sl 3, .int .i64 xc4_7], .rows 10 true xl5']) x2 xl5 by kernel_rfl).trans (congrArg (fun rec => spec_PackageInts.L5 k xl0 xl1 xl2 xl3 xc4_0 xc4_1 xc4_2 xc4_7 (fun (zl5 : List Int) => K (.exit 0) (stOf [(1, [none, none, none, some 5, some 6, some 7, some 8, none]), (3, [some 10])] [.v (.ptr 4 0 0), .v (.sl 5)] [.rows 5 false xl0, .rows 6 false xl1, .rows 7 false xl2, .rows 8 false xl3, .cells 39 [.int .i64 xc4_0, .int .i64 xc4_1, .int .i64 xc4_2, .sl 0, .sl 1, .sl 2, .sl 3, .int .i64 xc4_7], .rows 10 true zl5])) rec x2 xl5) (funext fun x2' => funext fun xl5' => spec_PackageInts.e5 K k xl0 xl1 xl2 xl3 xc4_0 xc4_1 xc4_2 xc4_7 n x2' xl5'))
theorem spec_PackageInts.q5 (k : Nat) {R : Type} (K : Ex → St κ → Option R) (vs : List AV) (bs : List (Blk κ)) (r : R) (h : spec_PackageInts.h5 k K vs bs = some r) : ∃ n, loopN 4 (Code.den ti (spec_PackageInts.Γ k) (spec_PackageInts.LH k) (loopAt Tryz.f157 0)) [(1, [none, none, none, some 5, some 6, some 7, some 8, none]), (3, [some 10]), (4, [])] [(1, [none, none, none, some 5, some 6, some 7, some 8, none]), (3, [some 10])] K n vs bs = some r := by
  unfold spec_PackageInts.h5 at h
  split at h
  · obtain ⟨_, rfl, h_1⟩ := asO_bind h
    obtain ⟨_, rfl, h_2⟩ := asO_bind h_1
    obtain ⟨_, rfl, h_3⟩ := asO_bind h_2
    obtain ⟨_, rfl, h_4⟩ := asO_bind h_3
    obtain ⟨_, rfl, h_5⟩ := asO_bind h_4
    exact ⟨k, (spec_PackageInts.e5 K k _ _ _ _ _ _ _ _ k _ _).trans h_5⟩
  · cases h
theorem spec_PackageInts.e14 {R : Type} (K : Ex → St κ → Option R) (k : Nat) (xl0 : List T_impl_Grant) (xl1 : List T_impl_Flow) (xl2 : List T_impl_Rule) (xl3 : List T_impl_Op) (xc4_0 : Int) (xc4_1 : Int) (xc4_2 : Int) (xc4_7 : Int) : ∀ (n : Nat) (x2 : Int) (xl5 : List Int), loopN 4 (Code.den ti (spec_PackageInts.Γ k) (spec_PackageInts.LH k) (loopAt Tryz.f157 1)) [(1, [none, none, none, some 5, some 6, some 7, some 8, none]), (3, [some 10]), (7, [])] [(1, [none, none, none, some 5, some 6, some 7, some 8, none]), (3, [some 10])] K n [.v (.ptr 4 0 0), .v (.sl 5), .v (.int .i64 x2)] [.rows 5 false xl0, .rows 6 false xl1, .rows 7 false xl2, .rows 8 false xl3, .cells 39 [.int .i64 xc4_0, .int .i64 xc4_1, .int .i64 xc4_2, .sl 0, .sl 1, .sl 2, .sl 3, .int .i64 xc4_7], .rows 10 true xl5] = spec_PackageInts.l14 k xl0 xl1 xl2 xl3 xc4_0 xc4_1 xc4_2 xc4_7 (fun (zl5 : List Int) => K (.exit 2) (stOf [(1, [none, none, none, some 5, some 6, some 7, some 8, none]), (3, [some 10])] [.v (.ptr 4 0 0), .v (.sl 5)] [.rows 5 false xl0, .rows 6 false xl1, .rows 7 false xl2, .rows 8 false xl3, .cells 39 [.int .i64 xc4_0, .int .i64 xc4_1, .int .i64 xc4_2, .sl 0, .sl 1, .sl 2, .sl 3, .int .i64 xc4_7], .rows 10 true zl5])) n x2 xl5
  | 0, _, _ => rfl
  | n + 1, x2, xl5 => (show loopN 4 (Code.den ti (spec_PackageInts.Γ k) (spec_PackageInts.LH k) (loopAt Tryz.f157 1)) [(1, [none, none, none, some 5, some 6, some 7, some 8, none]), (3, [some 10]), (7, [])] [(1, [none, none, none, some 5, some 6, some 7, some 8, none]), (3, [some 10])] K (n + 1) [.v (.ptr 4 0 0), .v (.sl 5), .v (.int .i64 x2)] [.rows 5 false xl0, .rows 6 false xl1, .rows 7 false xl2, .rows 8 false xl3, .cells 39 [.int .i64 xc4_0, .int .i64 xc4_1, .int .i64 xc4_2, .sl 0, .sl 1, .sl 2, .sl 3, .int .i64 xc4_7], .rows 10 true xl5] = spec_PackageInts.L14 k xl0 xl1 xl2 xl3 xc4_0 xc4_1 xc4_2 xc4_7 (fun (zl5 : List Int) => K (.exit 2) (stOf [(1, [none, none, none, some 5, some 6, some 7, some 8, none]), (3, [some 10])] [.v (.ptr 4 0 0), .v (.sl 5)] [.rows 5 false xl0, .rows 6 false xl1, .rows 7 false xl2, .rows 8 false xl3, .cells 39 [.int .i64 xc4_0, .int .i64 xc4_1, .int .i64 xc4_2, .sl 0, .sl 1, .sl 2, .sl 3, .int .i64 xc4_7], .rows 10 true zl5])) (fun (x2' : Int) (xl5' : List Int) => loopN 4 (Code.den ti (spec_PackageInts.Γ k) (spec_PackageInts.LH k) (loopAt Tryz.f157 1)) [(1, [none, none, none, some 5, some 6, some 7, some 8, none]), (3, [some 10]), (7, [])] [(1, [none, none, none, some 5, some 6, some 7, some 8, none]), (3, [some 10])] K n [.v (.ptr 4 0 0), .v (.sl 5), .v (.int .i64 x2')] [.rows 5 false xl0, .rows 6 false xl1, .rows 7 false xl2, .rows 8 false xl3, .cells 39 [.int .i64 xc4_0, .int .i64 xc4_1, .int .i64 xc4_2, .sl 0, .sl 1, .sl 2, .sl 3, .int .i64 xc4_7], .rows 10 true xl5']) x2 xl5 by kernel_rfl).trans (congrArg (fun rec => spec_PackageInts.L14 k xl0 xl1 xl2 xl3 xc4_0 xc4_1 xc4_2 xc4_7 (fun (zl5 : List Int) => K (.exit 2) (stOf [(1, [none, none, none, some 5, some 6, some 7, some 8, none]), (3, [some 10])] [.v (.ptr 4 0 0), .v (.sl 5)] [.rows 5 false xl0, .rows 6 false xl1, .rows 7 false xl2, .rows 8 false xl3, .cells 39 [.int .i64 xc4_0, .int .i64 xc4_1, .int .i64 xc4_2, .sl 0, .sl 1, .sl 2, .sl 3, .int .i64 xc4_7], .rows 10 true zl5])) rec x2 xl5) (funext fun x2' => funext fun xl5' => spec_PackageInts.e14 K k xl0 xl1 xl2 xl3 xc4_0 xc4_1 xc4_2 xc4_7 n x2' xl5'))
theorem spec_PackageInts.q14 (k : Nat) {R : Type} (K : Ex → St κ → Option R) (vs : List AV) (bs : List (Blk κ)) (r : R) (h : spec_PackageInts.h14 k K vs bs = some r) : ∃ n, loopN 4 (Code.den ti (spec_PackageInts.Γ k) (spec_PackageInts.LH k) (loopAt Tryz.f157 1)) [(1, [none, none, none, some 5, some 6, some 7, some 8, none]), (3, [some 10]), (7, [])] [(1, [none, none, none, some 5, some 6, some 7, some 8, none]), (3, [some 10])] K n vs bs = some r := by
  unfold spec_PackageInts.h14 at h
  split at h
  · obtain ⟨_, rfl, h_1⟩ := asO_bind h
    obtain ⟨_, rfl, h_2⟩ := asO_bind h_1
    obtain ⟨_, rfl, h_3⟩ := asO_bind h_2
    obtain ⟨_, rfl, h_4⟩ := asO_bind h_3
    obtain ⟨_, rfl, h_5⟩ := asO_bind h_4
    exact ⟨k, (spec_PackageInts.e14 K k _ _ _ _ _ _ _ _ k _ _).trans h_5⟩
  · cases h
theorem spec_PackageInts.e19 {R : Type} (K : Ex → St κ → Option R) (k : Nat) (xl0 : List T_impl_Grant) (xl1 : List T_impl_Flow) (xl2 : List T_impl_Rule) (xl3 : List T_impl_Op) (xc4_0 : Int) (xc4_1 : Int) (xc4_2 : Int) (xc4_7 : Int) : ∀ (n : Nat) (x2 : Int) (xl5 : List Int), loopN 4 (Code.den ti (spec_PackageInts.Γ k) (spec_PackageInts.LH k) (loopAt Tryz.f157 2)) [(1, [none, none, none, some 5, some 6, some 7, some 8, none]), (3, [some 10]), (8, [])] [(1, [none, none, none, some 5, some 6, some 7, some 8, none]), (3, [some 10])] K n [.v (.ptr 4 0 0), .v (.sl 5), .v (.int .i64 x2)] [.rows 5 false xl0, .rows 6 false xl1, .rows 7 false xl2, .rows 8 false xl3, .cells 39 [.int .i64 xc4_0, .int .i64 xc4_1, .int .i64 xc4_2, .sl 0, .sl 1, .sl 2, .sl 3, .int .i64 xc4_7], .rows 10 true xl5] = spec_PackageInts.l19 k xl0 xl1 xl2 xl3 xc4_0 xc4_1 xc4_2 xc4_7 (fun (zl5 : List Int) => K (.exit 4) (stOf [(1, [none, none, none, some 5, some 6, some 7, some 8, none]), (3, [some 10])] [.v (.ptr 4 0 0), .v (.sl 5)] [.rows 5 false xl0, .rows 6 false xl1, .rows 7 false xl2, .rows 8 false xl3, .cells 39 [.int .i64 xc4_0, .int .i64 xc4_1, .int .i64 xc4_2, .sl 0, .sl 1, .sl 2, .sl 3, .int .i64 xc4_7], .rows 10 true zl5])) n x2 xl5
  | 0, _, _ => rfl
  | n + 1, x2, xl5 => (show loopN 4 (Code.den ti (spec_PackageInts.Γ k) (spec_PackageInts.LH k) (loopAt Tryz.f157 2)) [(1, [none, none, none, some 5, some 6, some 7, some 8, none]), (3, [some 10]), (8, [])] [(1, [none, none, none, some 5, some 6, some 7, some 8, none]), (3, [some 10])] K (n + 1) [.v (.ptr 4 0 0), .v (.sl 5), .v (.int .i64 x2)] [.rows 5 false xl0, .rows 6 false xl1, .rows 7 false xl2, .rows 8 false xl3, .cells 39 [.int .i64 xc4_0, .int .i64 xc4_1, .int .i64 xc4_2, .sl 0, .sl 1, .sl 2, .sl 3, .int .i64 xc4_7], .rows 10 true xl5] = spec_PackageInts.L19 k xl0 xl1 xl2 xl3 xc4_0 xc4_1 xc4_2 xc4_7 (fun (zl5 : List Int) => K (.exit 4) (stOf [(1, [none, none, none, some 5, some 6, some 7, some 8, none]), (3, [some 10])] [.v (.ptr 4 0 0), .v (.sl 5)] [.rows 5 false xl0, .rows 6 false xl1, .rows 7 false xl2, .rows 8 false xl3, .cells 39 [.int .i64 xc4_0, .int .i64 xc4_1, .int .i64 xc4_2, .sl 0, .sl 1, .sl 2, .sl 3, .int .i64 xc4_7], .rows 10 true zl5])) (fun (x2' : Int) (xl5' : List Int) => loopN 4 (Code.den ti (spec_PackageInts.Γ k) (spec_PackageInts.LH k) (loopAt Tryz.f157 2)) [(1, [none, none, none, some 5, some 6, some 7, some 8, none]), (3, [some 10]), (8, [])] [(1, [none, none, none, some 5, some 6, some 7, some 8, none]), (3, [some 10])] K n [.v (.ptr 4 0 0), .v (.sl 5), .v (.int .i64 x2')] [.rows 5 false xl0, .rows 6 false xl1, .rows 7 false xl2, .rows 8 false xl3, .cells 39 [.int .i64 xc4_0, .int .i64 xc4_1, .int .i64 xc4_2, .sl 0, .sl 1, .sl 2, .sl 3, .int .i64 xc4_7], .rows 10 true xl5']) x2 xl5 by kernel_rfl).trans (congrArg (fun rec => spec_PackageInts.L19 k xl0 xl1 xl2 xl3 xc4_0 xc4_1 xc4_2 xc4_7 (fun (zl5 : List Int) => K (.exit 4) (stOf [(1, [none, none, none, some 5, some 6, some 7, some 8, none]), (3, [some 10])] [.v (.ptr 4 0 0), .v (.sl 5)] [.rows 5 false xl0, .rows 6 false xl1, .rows 7 false xl2, .rows 8 false xl3, .cells 39 [.int .i64 xc4_0, .int .i64 xc4_1, .int .i64 xc4_2, .sl 0, .sl 1, .sl 2, .sl 3, .int .i64 xc4_7], .rows 10 true zl5])) rec x2 xl5) (funext fun x2' => funext fun xl5' => spec_PackageInts.e19 K k xl0 xl1 xl2 xl3 xc4_0 xc4_1 xc4_2 xc4_7 n x2' xl5'))
theorem spec_PackageInts.q19 (k : Nat) {R : Type} (K : Ex → St κ → Option R) (vs : List AV) (bs : List (Blk κ)) (r : R) (h : spec_PackageInts.h19 k K vs bs = some r) : ∃ n, loopN 4 (Code.den ti (spec_PackageInts.Γ k) (spec_PackageInts.LH k) (loopAt Tryz.f157 2)) [(1, [none, none, none, some 5, some 6, some 7, some 8, none]), (3, [some 10]), (8, [])] [(1, [none, none, none, some 5, some 6, some 7, some 8, none]), (3, [some 10])] K n vs bs = some r := by
  unfold spec_PackageInts.h19 at h
  split at h
  · obtain ⟨_, rfl, h_1⟩ := asO_bind h
    obtain ⟨_, rfl, h_2⟩ := asO_bind h_1
    obtain ⟨_, rfl, h_3⟩ := asO_bind h_2
    obtain ⟨_, rfl, h_4⟩ := asO_bind h_3
    obtain ⟨_, rfl, h_5⟩ := asO_bind h_4
    exact ⟨k, (spec_PackageInts.e19 K k _ _ _ _ _ _ _ _ k _ _).trans h_5⟩
  · cases h
theorem spec_PackageInts.e25 {R : Type} (K : Ex → St κ → Option R) (k : Nat) (xl0 : List T_impl_Grant) (xl1 : List T_impl_Flow) (xl2 : List T_impl_Rule) (xl3 : List T_impl_Op) (xc4_0 : Int) (xc4_1 : Int) (xc4_2 : Int) (xc4_7 : Int) : ∀ (n : Nat) (x2 : Int) (xl5 : List Int), loopN 4 (Code.den ti (spec_PackageInts.Γ k) (spec_PackageInts.LH k) (loopAt Tryz.f157 3)) [(1, [none, none, none, some 5, some 6, some 7, some 8, none]), (3, [some 10]), (10, [])] [(3, [some 10])] K n [.v (.ptr 4 0 0), .v (.sl 5), .v (.int .i64 x2)] [.rows 5 false xl0, .rows 6 false xl1, .rows 7 false xl2, .rows 8 false xl3, .cells 39 [.int .i64 xc4_0, .int .i64 xc4_1, .int .i64 xc4_2, .sl 0, .sl 1, .sl 2, .sl 3, .int .i64 xc4_7], .rows 10 true xl5] = spec_PackageInts.l25 k xl0 xl1 xl2 xl3 xc4_0 xc4_1 xc4_2 xc4_7 (fun (zl4 : List Int) => K (.exit 6) (stOf [(3, [some 10])] [.v (.sl 4)] [.rows 5 false xl0, .rows 6 false xl1, .rows 7 false xl2, .rows 8 false xl3, .rows 10 true zl4])) n x2 xl5
  | 0, _, _ => rfl
  | n + 1, x2, xl5 => (show loopN 4 (Code.den ti (spec_PackageInts.Γ k) (spec_PackageInts.LH k) (loopAt Tryz.f157 3)) [(1, [none, none, none, some 5, some 6, some 7, some 8, none]), (3, [some 10]), (10, [])] [(3, [some 10])] K (n + 1) [.v (.ptr 4 0 0), .v (.sl 5), .v (.int .i64 x2)] [.rows 5 false xl0, .rows 6 false xl1, .rows 7 false xl2, .rows 8 false xl3, .cells 39 [.int .i64 xc4_0, .int .i64 xc4_1, .int .i64 xc4_2, .sl 0, .sl 1, .sl 2, .sl 3, .int .i64 xc4_7], .rows 10 true xl5] = spec_PackageInts.L25 k xl0 xl1 xl2 xl3 xc4_0 xc4_1 xc4_2 xc4_7 (fun (zl4 : List Int) => K (.exit 6) (stOf [(3, [some 10])] [.v (.sl 4)] [.rows 5 false xl0, .rows 6 false xl1, .rows 7 false xl2, .rows 8 false xl3, .rows 10 true zl4])) (fun (x2' : Int) (xl5' : List Int) => loopN 4 (Code.den ti (spec_PackageInts.Γ k) (spec_PackageInts.LH k) (loopAt Tryz.f157 3)) [(1, [none, none, none, some 5, some 6, some 7, some 8, none]), (3, [some 10]), (10, [])] [(3, [some 10])] K n [.v (.ptr 4 0 0), .v (.sl 5), .v (.int .i64 x2')] [.rows 5 false xl0, .rows 6 false xl1, .rows 7 false xl2, .rows 8 false xl3, .cells 39 [.int .i64 xc4_0, .int .i64 xc4_1, .int .i64 xc4_2, .sl 0, .sl 1, .sl 2, .sl 3, .int .i64 xc4_7], .rows 10 true xl5']) x2 xl5 by kernel_rfl).trans (congrArg (fun rec => spec_PackageInts.L25 k xl0 xl1 xl2 xl3 xc4_0 xc4_1 xc4_2 xc4_7 (fun (zl4 : List Int) => K (.exit 6) (stOf [(3, [some 10])] [.v (.sl 4)] [.rows 5 false xl0, .rows 6 false xl1, .rows 7 false xl2, .rows 8 false xl3, .rows 10 true zl4])) rec x2 xl5) (funext fun x2' => funext fun xl5' => spec_PackageInts.e25 K k xl0 xl1 xl2 xl3 xc4_0 xc4_1 xc4_2 xc4_7 n x2' xl5'))
theorem spec_PackageInts.q25 (k : Nat) {R : Type} (K : Ex → St κ → Option R) (vs : List AV) (bs : List (Blk κ)) (r : R) (h : spec_PackageInts.h25 k K vs bs = some r) : ∃ n, loopN 4 (Code.den ti (spec_PackageInts.Γ k) (spec_PackageInts.LH k) (loopAt Tryz.f157 3)) [(1, [none, none, none, some 5, some 6, some 7, some 8, none]), (3, [some 10]), (10, [])] [(3, [some 10])] K n vs bs = some r := by
  unfold spec_PackageInts.h25 at h
  split at h
  · obtain ⟨_, rfl, h_1⟩ := asO_bind h
    obtain ⟨_, rfl, h_2⟩ := asO_bind h_1
    obtain ⟨_, rfl, h_3⟩ := asO_bind h_2
    obtain ⟨_, rfl, h_4⟩ := asO_bind h_3
    obtain ⟨_, rfl, h_5⟩ := asO_bind h_4
    exact ⟨k, (spec_PackageInts.e25 K k _ _ _ _ _ _ _ _ k _ _).trans h_5⟩
  · cases h
theorem spec_PackageInts.lok (k : Nat) : LOK ti (spec_PackageInts.Γ k) (spec_PackageInts.LH k) 4 (loopsOf (bodyOf Tryz.f157)) :=
  (show loopsOf (bodyOf Tryz.f157) = [loopAt Tryz.f157 0, loopAt Tryz.f157 1, loopAt Tryz.f157 2, loopAt Tryz.f157 3] by kernel_rfl) ▸ (LOK_cons (g := ⟨4, [(1, [none, none, none, some 5, some 6, some 7, some 8, none]), (3, [some 10]), (4, [])], [(1, [none, none, none, some 5, some 6, some 7, some 8, none]), (3, [some 10])], @spec_PackageInts.h5 k⟩) (by kernel_rfl) rfl (fun K vs xs r h => spec_PackageInts.q5 k K vs xs r h) (LOK_cons (g := ⟨4, [(1, [none, none, none, some 5, some 6, some 7, some 8, none]), (3, [some 10]), (7, [])], [(1, [none, none, none, some 5, some 6, some 7, some 8, none]), (3, [some 10])], @spec_PackageInts.h14 k⟩) (by kernel_rfl) rfl (fun K vs xs r h => spec_PackageInts.q14 k K vs xs r h) (LOK_cons (g := ⟨4, [(1, [none, none, none, some 5, some 6, some 7, some 8, none]), (3, [some 10]), (8, [])], [(1, [none, none, none, some 5, some 6, some 7, some 8, none]), (3, [some 10])], @spec_PackageInts.h19 k⟩) (by kernel_rfl) rfl (fun K vs xs r h => spec_PackageInts.q19 k K vs xs r h) (LOK_cons (g := ⟨4, [(1, [none, none, none, some 5, some 6, some 7, some 8, none]), (3, [some 10]), (10, [])], [(3, [some 10])], @spec_PackageInts.h25 k⟩) (by kernel_rfl) rfl (fun K vs xs r h => spec_PackageInts.q25 k K vs xs r h) (LOK_nil)))))
def spec_PackageInts.sig : List PSh := [.agg [.sc, .sc, .sc, .ro 5, .ro 6, .ro 7, .ro 8, .sc]]
def spec_PackageInts.g (y : List Int) : Ret κ := ⟨.v (.sl 4), [], [.rows 10 true y]⟩
def spec_PackageInts.out (r : Ret κ) : Option (List Int) :=
  match r with
  | ⟨.v (.sl 4), [], [q0]⟩ => (asO 10 true q0).bind fun z0 => some (z0)
  | _ => none
theorem spec_PackageInts.out_ok (r : Ret κ) (y : List Int) (h : spec_PackageInts.out r = some y) : r = spec_PackageInts.g y := by
  unfold spec_PackageInts.out at h
  split at h
  · obtain ⟨_, rfl, h_1⟩ := asO_bind h
    obtain rfl := Option.some.inj h_1
    rfl
  · cases h
def spec_PackageInts.body (k : Nat) (vs : List AV) (bs : List (Blk κ)) : Option (Lf κ) :=
  match vs, bs with
  | [.agg [.int .i64 a0_0, .int .i64 a0_1, .int .i64 a0_2, .sl 0, .sl 1, .sl 2, .sl 3, .int .i64 a0_7]], [qb0, qb1, qb2, qb3] => (asO 5 false qb0).bind fun a0_3 => (asO 6 false qb1).bind fun a0_4 => (asO 7 false qb2).bind fun a0_5 => (asO 8 false qb3).bind fun a0_6 => some ⟨List Int, spec_PackageInts.f k a0_0 a0_1 a0_2 a0_3 a0_4 a0_5 a0_6 a0_7, spec_PackageInts.g⟩
  | _, _ => none
def spec_PackageInts.C (k : Nat) : Nat → List AV → AP κ AV := contract spec_PackageInts.sig (spec_PackageInts.body k)
theorem spec_PackageInts.den (k : Nat) (a0_0 : Int) (a0_1 : Int) (a0_2 : Int) (a0_3 : List T_impl_Grant) (a0_4 : List T_impl_Flow) (a0_5 : List T_impl_Rule) (a0_6 : List T_impl_Op) (a0_7 : Int) : Code.den ti (spec_PackageInts.Γ k) (spec_PackageInts.LH k) (bodyOf Tryz.f157) (finK ti Tryz.f157.results.toList [(2, [some 10])] (flags spec_PackageInts.sig).length (rwI (flags spec_PackageInts.sig) 0) spec_PackageInts.out) ⟨envOf (([.agg [.int .i64 a0_0, .int .i64 a0_1, .int .i64 a0_2, .sl 0, .sl 1, .sl 2, .sl 3, .int .i64 a0_7]]).zipIdx.map fun q => (q.2, q.1)), hpOf [.rows 5 false a0_3, .rows 6 false a0_4, .rows 7 false a0_5, .rows 8 false a0_6], (flags spec_PackageInts.sig).length⟩ = spec_PackageInts.f k a0_0 a0_1 a0_2 a0_3 a0_4 a0_5 a0_6 a0_7 := by kernel_rfl
theorem spec_PackageInts.ok (k : Nat) : CSound Tryz.prog 157 (spec_PackageInts.C k) :=
  csound κ_ok mixed tok (spec_PackageInts.hΓ k) (LH := spec_PackageInts.LH k) (fn := Tryz.f157) (c := bodyOf Tryz.f157) Tryz.func157 rfl Tryz.call157 spec_PackageInts.sig [(2, [some 10])] (spec_PackageInts.body k) (by kernel_rfl) (spec_PackageInts.lok k) (by decide) fun vs bs lf y hl hb hy => by
    unfold spec_PackageInts.body at hb
    split at hb
    · obtain ⟨_, rfl, hb_1⟩ := asO_bind hb
      obtain ⟨_, rfl, hb_2⟩ := asO_bind hb_1
      obtain ⟨_, rfl, hb_3⟩ := asO_bind hb_2
      obtain ⟨_, rfl, hb_4⟩ := asO_bind hb_3
      obtain rfl := Option.some.inj hb_4
      exact ⟨spec_PackageInts.out, spec_PackageInts.out_ok, (spec_PackageInts.den k _ _ _ _ _ _ _ _).trans hy⟩
    · cases hb
/-! ### spec_Mod -/
def spec_Mod.f (k : Nat) (a0 : Int) (a1 : Int) : Option Int :=
  (spec_l1In.f k a1 (1 : Int) (1000000000000 : Int)).bind fun t1 => (bif !t1 then some (0 : Int) else (bif decide (a1 = 0) then none else (bif decide (a1 = 0) then none else some ((w64 ((a0.tmod a1) + a1)).tmod a1))))
def spec_Mod.Γ (k : Nat) : Ct κ := assoc [(101, spec_l1In.C k)]
def spec_Mod.LH (k : Nat) : Nat → Option (LHi κ) := assoc []
theorem spec_Mod.hΓ (k : Nat) : ∀ f g, spec_Mod.Γ k f = some g → CSound Tryz.prog f g := G_cons (spec_l1In.ok k) G_nil
theorem spec_Mod.lok (k : Nat) : LOK ti (spec_Mod.Γ k) (spec_Mod.LH k) 0 (loopsOf (bodyOf Tryz.f183)) :=
  (show loopsOf (bodyOf Tryz.f183) = [] by kernel_rfl) ▸ LOK_nil
def spec_Mod.sig : List PSh := [.one .sc, .one .sc]
def spec_Mod.g (y : Int) : Ret κ := ⟨.v (.int .i64 y), [], []⟩
def spec_Mod.out (r : Ret κ) : Option Int :=
  match r with
  | ⟨.v (.int .i64 z0), [], []⟩ => some (z0)
  | _ => none
theorem spec_Mod.out_ok (r : Ret κ) (y : Int) (h : spec_Mod.out r = some y) : r = spec_Mod.g y := by
  unfold spec_Mod.out at h
  split at h
  · obtain rfl := Option.some.inj h
    rfl
  · cases h
def spec_Mod.body (k : Nat) (vs : List AV) (bs : List (Blk κ)) : Option (Lf κ) :=
  match vs, bs with
  | [.v (.int .i64 a0), .v (.int .i64 a1)], [] => some ⟨Int, spec_Mod.f k a0 a1, spec_Mod.g⟩
  | _, _ => none
def spec_Mod.C (k : Nat) : Nat → List AV → AP κ AV := contract spec_Mod.sig (spec_Mod.body k)
theorem spec_Mod.den (k : Nat) (a0 : Int) (a1 : Int) : Code.den ti (spec_Mod.Γ k) (spec_Mod.LH k) (bodyOf Tryz.f183) (finK ti Tryz.f183.results.toList [] (flags spec_Mod.sig).length (rwI (flags spec_Mod.sig) 0) spec_Mod.out) ⟨envOf (([.v (.int .i64 a0), .v (.int .i64 a1)]).zipIdx.map fun q => (q.2, q.1)), hpOf [], (flags spec_Mod.sig).length⟩ = spec_Mod.f k a0 a1 := by kernel_rfl
theorem spec_Mod.ok (k : Nat) : CSound Tryz.prog 183 (spec_Mod.C k) :=
  csound κ_ok mixed tok (spec_Mod.hΓ k) (LH := spec_Mod.LH k) (fn := Tryz.f183) (c := bodyOf Tryz.f183) Tryz.func183 rfl Tryz.call183 spec_Mod.sig [] (spec_Mod.body k) (by kernel_rfl) (spec_Mod.lok k) (by decide) fun vs bs lf y hl hb hy => by
    unfold spec_Mod.body at hb
    split at hb
    · obtain rfl := Option.some.inj hb
      exact ⟨spec_Mod.out, spec_Mod.out_ok, (spec_Mod.den k _ _).trans hy⟩
    · cases hb
/-! ### spec_Hash -/
def spec_Hash.L3 {R : Type} (k : Nat) (xl0 : List Int) (X0 : Int → Option R) (rec : Int → Int → Option R) (x1 : Int) (x2 : Int) : Option R :=
  (bif decide (x2 < (xl0.length : Int)) then (bif decide (0 ≤ x2) then (bif decide (x2 < (xl0.length : Int)) then (spec_Mod.f k (rd_i64 xl0 x2) (2147483647 : Int)).bind fun t1 => (rec ((w64 ((w64 ((w64 (x1 * (1000003 : Int))) + t1)) + (13 : Int))).tmod (2147483647 : Int)) (w64 (x2 + (1 : Int)))) else none) else none) else (X0 x1))
def spec_Hash.l3 {R : Type} (k : Nat) (xl0 : List Int) (X0 : Int → Option R) : Nat → Int → Int → Option R
  | 0 => fun _ _ => none
  | n + 1 => spec_Hash.L3 k xl0 X0 (spec_Hash.l3 k xl0 X0 n)
def spec_Hash.f (k : Nat) (a0 : List Int) : Option Int :=
  (spec_Hash.l3 k a0 (fun (y2 : Int) => some y2) k (11 : Int) (0 : Int))
def spec_Hash.h3 (k : Nat) {R : Type} (K : Ex → St κ → Option R) (vs : List AV) (bs : List (Blk κ)) : Option R :=
  match vs, bs with
  | [.v (.sl 0), .v (.int .i64 x1), .v (.int .i64 x2)], [qb0] => (asO 10 false qb0).bind fun xl0 => spec_Hash.l3 k xl0 (fun (z0 : Int) => K (.exit 0) (stOf [(3, [])] [.v (.int .i64 z0)] [.rows 10 false xl0])) k x1 x2
  | _, _ => none
def spec_Hash.Γ (k : Nat) : Ct κ := assoc [(183, spec_Mod.C k)]
def spec_Hash.LH (k : Nat) : Nat → Option (LHi κ) := assoc [(3, ⟨1, [(0, [some 10]), (3, []), (4, [])], [(3, [])], @spec_Hash.h3 k⟩)]
theorem spec_Hash.hΓ (k : Nat) : ∀ f g, spec_Hash.Γ k f = some g → CSound Tryz.prog f g := G_cons (spec_Mod.ok k) G_nil
theorem spec_Hash.e3 {R : Type} (K : Ex → St κ → Option R) (k : Nat) (xl0 : List Int) : ∀ (n : Nat) (x1 : Int) (x2 : Int), loopN 1 (Code.den ti (spec_Hash.Γ k) (spec_Hash.LH k) (loopAt Tryz.f174 0)) [(0, [some 10]), (3, []), (4, [])] [(3, [])] K n [.v (.sl 0), .v (.int .i64 x1), .v (.int .i64 x2)] [.rows 10 false xl0] = spec_Hash.l3 k xl0 (fun (z0 : Int) => K (.exit 0) (stOf [(3, [])] [.v (.int .i64 z0)] [.rows 10 false xl0])) n x1 x2
  | 0, _, _ => rfl
  | n + 1, x1, x2 => (show loopN 1 (Code.den ti (spec_Hash.Γ k) (spec_Hash.LH k) (loopAt Tryz.f174 0)) [(0, [some 10]), (3, []), (4, [])] [(3, [])] K (n + 1) [.v (.sl 0), .v (.int .i64 x1), .v (.int .i64 x2)] [.rows 10 false xl0] = spec_Hash.L3 k xl0 (fun (z0 : Int) => K (.exit 0) (stOf [(3, [])] [.v (.int .i64 z0)] [.rows 10 false xl0])) (fun (x1' : Int) (x2' : Int) => loopN 1 (Code.den ti (spec_Hash.Γ k) (spec_Hash.LH k) (loopAt Tryz.f174 0)) [(0, [some 10]), (3, []), (4, [])] [(3, [])] K n [.v (.sl 0), .v (.int .i64 x1'), .v (.int .i64 x2')] [.rows 10 false xl0]) x1 x2 by kernel_rfl).trans (congrArg (fun rec => spec_Hash.L3 k xl0 (fun (z0 : Int) => K (.exit 0) (stOf [(3, [])] [.v (.int .i64 z0)] [.rows 10 false xl0])) rec x1 x2) (funext fun x1' => funext fun x2' => spec_Hash.e3 K k xl0 n x1' x2'))
theorem spec_Hash.q3 (k : Nat) {R : Type} (K : Ex → St κ → Option R) (vs : List AV) (bs : List (Blk κ)) (r : R) (h : spec_Hash.h3 k K vs bs = some r) : ∃ n, loopN 1 (Code.den ti (spec_Hash.Γ k) (spec_Hash.LH k) (loopAt Tryz.f174 0)) [(0, [some 10]), (3, []), (4, [])] [(3, [])] K n vs bs = some r := by
  unfold spec_Hash.h3 at h
  split at h
  · obtain ⟨_, rfl, h_1⟩ := asO_bind h
    exact ⟨k, (spec_Hash.e3 K k _ k _ _).trans h_1⟩
  · cases h
theorem spec_Hash.lok (k : Nat) : LOK ti (spec_Hash.Γ k) (spec_Hash.LH k) 1 (loopsOf (bodyOf Tryz.f174)) :=
  (show loopsOf (bodyOf Tryz.f174) = [loopAt Tryz.f174 0] by kernel_rfl) ▸ (LOK_cons (g := ⟨1, [(0, [some 10]), (3, []), (4, [])], [(3, [])], @spec_Hash.h3 k⟩) (by kernel_rfl) rfl (fun K vs xs r h => spec_Hash.q3 k K vs xs r h) (LOK_nil))
def spec_Hash.sig : List PSh := [.one (.ro 10)]
def spec_Hash.g (y : Int) : Ret κ := ⟨.v (.int .i64 y), [], []⟩
def spec_Hash.out (r : Ret κ) : Option Int :=
  match r with
  | ⟨.v (.int .i64 z0), [], []⟩ => some (z0)
  | _ => none
theorem spec_Hash.out_ok (r : Ret κ) (y : Int) (h : spec_Hash.out r = some y) : r = spec_Hash.g y := by
  unfold spec_Hash.out at h
  split at h
  · obtain rfl := Option.some.inj h
    rfl
  · cases h
def spec_Hash.body (k : Nat) (vs : List AV) (bs : List (Blk κ)) : Option (Lf κ) :=
  match vs, bs with
  | [.v (.sl 0)], [qb0] => (asO 10 false qb0).bind fun a0 => some ⟨Int, spec_Hash.f k a0, spec_Hash.g⟩
  | _, _ => none
def spec_Hash.C (k : Nat) : Nat → List AV → AP κ AV := contract spec_Hash.sig (spec_Hash.body k)
theorem spec_Hash.den (k : Nat) (a0 : List Int) : Code.den ti (spec_Hash.Γ k) (spec_Hash.LH k) (bodyOf Tryz.f174) (finK ti Tryz.f174.results.toList [] (flags spec_Hash.sig).length (rwI (flags spec_Hash.sig) 0) spec_Hash.out) ⟨envOf (([.v (.sl 0)]).zipIdx.map fun q => (q.2, q.1)), hpOf [.rows 10 false a0], (flags spec_Hash.sig).length⟩ = spec_Hash.f k a0 := by kernel_rfl
theorem spec_Hash.ok (k : Nat) : CSound Tryz.prog 174 (spec_Hash.C k) :=
  csound κ_ok mixed tok (spec_Hash.hΓ k) (LH := spec_Hash.LH k) (fn := Tryz.f174) (c := bodyOf Tryz.f174) Tryz.func174 rfl Tryz.call174 spec_Hash.sig [] (spec_Hash.body k) (by kernel_rfl) (spec_Hash.lok k) (by decide) fun vs bs lf y hl hb hy => by
    unfold spec_Hash.body at hb
    split at hb
    · obtain ⟨_, rfl, hb_1⟩ := asO_bind hb
      obtain rfl := Option.some.inj hb_1
      exact ⟨spec_Hash.out, spec_Hash.out_ok, (spec_Hash.den k _).trans hy⟩
    · cases hb
/-! ### spec_KeyedHash -/
def spec_KeyedHash.f (k : Nat) (a0 : Int) (a1 : List Int) : Option Int :=
  (bif decide ((([a0] : List Int).length + a1.length) * 8 ≤ cap48) then (bif decide (((([a0] : List Int) ++ a1).length + ([a0] : List Int).length) * 8 ≤ cap48) then (spec_Hash.f k ((([a0] : List Int) ++ a1) ++ ([a0] : List Int))).bind fun t1 => some t1 else none) else none)
def spec_KeyedHash.Γ (k : Nat) : Ct κ := assoc [(174, spec_Hash.C k)]
def spec_KeyedHash.LH (k : Nat) : Nat → Option (LHi κ) := assoc []
theorem spec_KeyedHash.hΓ (k : Nat) : ∀ f g, spec_KeyedHash.Γ k f = some g → CSound Tryz.prog f g := G_cons (spec_Hash.ok k) G_nil
theorem spec_KeyedHash.lok (k : Nat) : LOK ti (spec_KeyedHash.Γ k) (spec_KeyedHash.LH k) 1 (loopsOf (bodyOf Tryz.f156)) :=
  (show loopsOf (bodyOf Tryz.f156) = [] by kernel_rfl) ▸ LOK_nil
def spec_KeyedHash.sig : List PSh := [.one .sc, .one (.ro 10)]
def spec_KeyedHash.g (y : Int) : Ret κ := ⟨.v (.int .i64 y), [], []⟩
def spec_KeyedHash.out (r : Ret κ) : Option Int :=
  match r with
  | ⟨.v (.int .i64 z0), [], []⟩ => some (z0)
  | _ => none
theorem spec_KeyedHash.out_ok (r : Ret κ) (y : Int) (h : spec_KeyedHash.out r = some y) : r = spec_KeyedHash.g y := by
  unfold spec_KeyedHash.out at h
  split at h
  · obtain rfl := Option.some.inj h
    rfl
  · cases h
def spec_KeyedHash.body (k : Nat) (vs : List AV) (bs : List (Blk κ)) : Option (Lf κ) :=
  match vs, bs with
  | [.v (.int .i64 a0), .v (.sl 0)], [qb0] => (asO 10 false qb0).bind fun a1 => some ⟨Int, spec_KeyedHash.f k a0 a1, spec_KeyedHash.g⟩
  | _, _ => none
def spec_KeyedHash.C (k : Nat) : Nat → List AV → AP κ AV := contract spec_KeyedHash.sig (spec_KeyedHash.body k)
theorem spec_KeyedHash.den (k : Nat) (a0 : Int) (a1 : List Int) : Code.den ti (spec_KeyedHash.Γ k) (spec_KeyedHash.LH k) (bodyOf Tryz.f156) (finK ti Tryz.f156.results.toList [] (flags spec_KeyedHash.sig).length (rwI (flags spec_KeyedHash.sig) 0) spec_KeyedHash.out) ⟨envOf (([.v (.int .i64 a0), .v (.sl 0)]).zipIdx.map fun q => (q.2, q.1)), hpOf [.rows 10 false a1], (flags spec_KeyedHash.sig).length⟩ = spec_KeyedHash.f k a0 a1 := by kernel_rfl
theorem spec_KeyedHash.ok (k : Nat) : CSound Tryz.prog 156 (spec_KeyedHash.C k) :=
  csound κ_ok mixed tok (spec_KeyedHash.hΓ k) (LH := spec_KeyedHash.LH k) (fn := Tryz.f156) (c := bodyOf Tryz.f156) Tryz.func156 rfl Tryz.call156 spec_KeyedHash.sig [] (spec_KeyedHash.body k) (by kernel_rfl) (spec_KeyedHash.lok k) (by decide) fun vs bs lf y hl hb hy => by
    unfold spec_KeyedHash.body at hb
    split at hb
    · obtain ⟨_, rfl, hb_1⟩ := asO_bind hb
      obtain rfl := Option.some.inj hb_1
      exact ⟨spec_KeyedHash.out, spec_KeyedHash.out_ok, (spec_KeyedHash.den k _ _).trans hy⟩
    · cases hb
/-! ### spec_SealPackage -/
def spec_SealPackage.f (k : Nat) (a0 : Int) (a1_0 : Int) (a1_1 : Int) (a1_2 : Int) (a1_3 : List T_impl_Grant) (a1_4 : List T_impl_Flow) (a1_5 : List T_impl_Rule) (a1_6 : List T_impl_Op) (a1_7 : Int) : Option (Int × Int × Int × Int × List T_impl_Grant × List T_impl_Flow × List T_impl_Rule × List T_impl_Op) :=
  (spec_l26Copy.f k a1_0 a1_1 a1_2 a1_3 a1_4 a1_5 a1_6 a1_7).bind fun t1 => (spec_IsValidKey.f k a0).bind fun t2 => (bif t2 then (spec_IsPackage.f k a1_0 a1_1 a1_2 a1_3 a1_4 a1_5 a1_6 a1_7).bind fun t3 => (bif t3 then (spec_PackageInts.f k a1_0 a1_1 a1_2 a1_3 a1_4 a1_5 a1_6 a1_7).bind fun t4 => (spec_KeyedHash.f k a0 t4).bind fun t5 => some (t1.1, t1.2.1, t1.2.2.1, t5, t1.2.2.2.2.1, t1.2.2.2.2.2.1, t1.2.2.2.2.2.2.1, t1.2.2.2.2.2.2.2) else some (t1.1, t1.2.1, t1.2.2.1, (0 : Int), t1.2.2.2.2.1, t1.2.2.2.2.2.1, t1.2.2.2.2.2.2.1, t1.2.2.2.2.2.2.2)) else some (t1.1, t1.2.1, t1.2.2.1, (0 : Int), t1.2.2.2.2.1, t1.2.2.2.2.2.1, t1.2.2.2.2.2.2.1, t1.2.2.2.2.2.2.2))
def spec_SealPackage.Γ (k : Nat) : Ct κ := assoc [(59, spec_l26Copy.C k), (142, spec_IsValidKey.C k), (47, spec_IsPackage.C k), (157, spec_PackageInts.C k), (156, spec_KeyedHash.C k)]
def spec_SealPackage.LH (k : Nat) : Nat → Option (LHi κ) := assoc []
theorem spec_SealPackage.hΓ (k : Nat) : ∀ f g, spec_SealPackage.Γ k f = some g → CSound Tryz.prog f g := G_cons (spec_l26Copy.ok k) (G_cons (spec_IsValidKey.ok k) (G_cons (spec_IsPackage.ok k) (G_cons (spec_PackageInts.ok k) (G_cons (spec_KeyedHash.ok k) G_nil))))
theorem spec_SealPackage.lok (k : Nat) : LOK ti (spec_SealPackage.Γ k) (spec_SealPackage.LH k) 4 (loopsOf (bodyOf Tryz.f124)) :=
  (show loopsOf (bodyOf Tryz.f124) = [] by kernel_rfl) ▸ LOK_nil
def spec_SealPackage.sig : List PSh := [.one .sc, .agg [.sc, .sc, .sc, .ro 5, .ro 6, .ro 7, .ro 8, .sc]]
def spec_SealPackage.g (y : Int × Int × Int × Int × List T_impl_Grant × List T_impl_Flow × List T_impl_Rule × List T_impl_Op) : Ret κ := ⟨.agg [.int .i64 y.1, .int .i64 y.2.1, .int .i64 y.2.2.1, .sl 4, .sl 5, .sl 6, .sl 7, .int .i64 y.2.2.2.1], [], [.rows 5 true y.2.2.2.2.1, .rows 6 true y.2.2.2.2.2.1, .rows 7 true y.2.2.2.2.2.2.1, .rows 8 true y.2.2.2.2.2.2.2]⟩
def spec_SealPackage.out (r : Ret κ) : Option (Int × Int × Int × Int × List T_impl_Grant × List T_impl_Flow × List T_impl_Rule × List T_impl_Op) :=
  match r with
  | ⟨.agg [.int .i64 z0, .int .i64 z1, .int .i64 z2, .sl 4, .sl 5, .sl 6, .sl 7, .int .i64 z3], [], [q4, q5, q6, q7]⟩ => (asO 5 true q4).bind fun z4 => (asO 6 true q5).bind fun z5 => (asO 7 true q6).bind fun z6 => (asO 8 true q7).bind fun z7 => some (z0, z1, z2, z3, z4, z5, z6, z7)
  | _ => none
theorem spec_SealPackage.out_ok (r : Ret κ) (y : Int × Int × Int × Int × List T_impl_Grant × List T_impl_Flow × List T_impl_Rule × List T_impl_Op) (h : spec_SealPackage.out r = some y) : r = spec_SealPackage.g y := by
  unfold spec_SealPackage.out at h
  split at h
  · obtain ⟨_, rfl, h_1⟩ := asO_bind h
    obtain ⟨_, rfl, h_2⟩ := asO_bind h_1
    obtain ⟨_, rfl, h_3⟩ := asO_bind h_2
    obtain ⟨_, rfl, h_4⟩ := asO_bind h_3
    obtain rfl := Option.some.inj h_4
    rfl
  · cases h
def spec_SealPackage.body (k : Nat) (vs : List AV) (bs : List (Blk κ)) : Option (Lf κ) :=
  match vs, bs with
  | [.v (.int .i64 a0), .agg [.int .i64 a1_0, .int .i64 a1_1, .int .i64 a1_2, .sl 0, .sl 1, .sl 2, .sl 3, .int .i64 a1_7]], [qb0, qb1, qb2, qb3] => (asO 5 false qb0).bind fun a1_3 => (asO 6 false qb1).bind fun a1_4 => (asO 7 false qb2).bind fun a1_5 => (asO 8 false qb3).bind fun a1_6 => some ⟨Int × Int × Int × Int × List T_impl_Grant × List T_impl_Flow × List T_impl_Rule × List T_impl_Op, spec_SealPackage.f k a0 a1_0 a1_1 a1_2 a1_3 a1_4 a1_5 a1_6 a1_7, spec_SealPackage.g⟩
  | _, _ => none
def spec_SealPackage.C (k : Nat) : Nat → List AV → AP κ AV := contract spec_SealPackage.sig (spec_SealPackage.body k)
theorem spec_SealPackage.den (k : Nat) (a0 : Int) (a1_0 : Int) (a1_1 : Int) (a1_2 : Int) (a1_3 : List T_impl_Grant) (a1_4 : List T_impl_Flow) (a1_5 : List T_impl_Rule) (a1_6 : List T_impl_Op) (a1_7 : Int) : Code.den ti (spec_SealPackage.Γ k) (spec_SealPackage.LH k) (bodyOf Tryz.f124) (finK ti Tryz.f124.results.toList [(4, [none, none, none, some 5, some 6, some 7, some 8, none])] (flags spec_SealPackage.sig).length (rwI (flags spec_SealPackage.sig) 0) spec_SealPackage.out) ⟨envOf (([.v (.int .i64 a0), .agg [.int .i64 a1_0, .int .i64 a1_1, .int .i64 a1_2, .sl 0, .sl 1, .sl 2, .sl 3, .int .i64 a1_7]]).zipIdx.map fun q => (q.2, q.1)), hpOf [.rows 5 false a1_3, .rows 6 false a1_4, .rows 7 false a1_5, .rows 8 false a1_6], (flags spec_SealPackage.sig).length⟩ = spec_SealPackage.f k a0 a1_0 a1_1 a1_2 a1_3 a1_4 a1_5 a1_6 a1_7 := by kernel_rfl
theorem spec_SealPackage.ok (k : Nat) : CSound Tryz.prog 124 (spec_SealPackage.C k) :=
  csound κ_ok mixed tok (spec_SealPackage.hΓ k) (LH := spec_SealPackage.LH k) (fn := Tryz.f124) (c := bodyOf Tryz.f124) Tryz.func124 rfl Tryz.call124 spec_SealPackage.sig [(4, [none, none, none, some 5, some 6, some 7, some 8, none])] (spec_SealPackage.body k) (by kernel_rfl) (spec_SealPackage.lok k) (by decide) fun vs bs lf y hl hb hy => by
    unfold spec_SealPackage.body at hb
    split at hb
    · obtain ⟨_, rfl, hb_1⟩ := asO_bind hb
      obtain ⟨_, rfl, hb_2⟩ := asO_bind hb_1
      obtain ⟨_, rfl, hb_3⟩ := asO_bind hb_2
      obtain ⟨_, rfl, hb_4⟩ := asO_bind hb_3
      obtain rfl := Option.some.inj hb_4
      exact ⟨spec_SealPackage.out, spec_SealPackage.out_ok, (spec_SealPackage.den k _ _ _ _ _ _ _ _ _).trans hy⟩
    · cases hb
/-! ### spec_IsSealed -/
def spec_IsSealed.f (k : Nat) (a0 : Int) (a1_0 : Int) (a1_1 : Int) (a1_2 : Int) (a1_3 : List T_impl_Grant) (a1_4 : List T_impl_Flow) (a1_5 : List T_impl_Rule) (a1_6 : List T_impl_Op) (a1_7 : Int) : Option Bool :=
  (spec_IsPackage.f k a1_0 a1_1 a1_2 a1_3 a1_4 a1_5 a1_6 a1_7).bind fun t1 => (bif t1 then (spec_IsValidKey.f k a0).bind fun t2 => (bif t2 then (spec_SealPackage.f k a0 a1_0 a1_1 a1_2 a1_3 a1_4 a1_5 a1_6 a1_7).bind fun t3 => some (t3.2.2.2.1 == a1_7) else some false) else some false)
def spec_IsSealed.Γ (k : Nat) : Ct κ := assoc [(47, spec_IsPackage.C k), (142, spec_IsValidKey.C k), (124, spec_SealPackage.C k)]
def spec_IsSealed.LH (k : Nat) : Nat → Option (LHi κ) := assoc []
theorem spec_IsSealed.hΓ (k : Nat) : ∀ f g, spec_IsSealed.Γ k f = some g → CSound Tryz.prog f g := G_cons (spec_IsPackage.ok k) (G_cons (spec_IsValidKey.ok k) (G_cons (spec_SealPackage.ok k) G_nil))
theorem spec_IsSealed.lok (k : Nat) : LOK ti (spec_IsSealed.Γ k) (spec_IsSealed.LH k) 4 (loopsOf (bodyOf Tryz.f94)) :=
  (show loopsOf (bodyOf Tryz.f94) = [] by kernel_rfl) ▸ LOK_nil
def spec_IsSealed.sig : List PSh := [.one .sc, .agg [.sc, .sc, .sc, .ro 5, .ro 6, .ro 7, .ro 8, .sc]]
def spec_IsSealed.g (y : Bool) : Ret κ := ⟨.v (.bool y), [], []⟩
def spec_IsSealed.out (r : Ret κ) : Option Bool :=
  match r with
  | ⟨.v (.bool z0), [], []⟩ => some (z0)
  | _ => none
theorem spec_IsSealed.out_ok (r : Ret κ) (y : Bool) (h : spec_IsSealed.out r = some y) : r = spec_IsSealed.g y := by
  unfold spec_IsSealed.out at h
  split at h
  · obtain rfl := Option.some.inj h
    rfl
  · cases h
def spec_IsSealed.body (k : Nat) (vs : List AV) (bs : List (Blk κ)) : Option (Lf κ) :=
  match vs, bs with
  | [.v (.int .i64 a0), .agg [.int .i64 a1_0, .int .i64 a1_1, .int .i64 a1_2, .sl 0, .sl 1, .sl 2, .sl 3, .int .i64 a1_7]], [qb0, qb1, qb2, qb3] => (asO 5 false qb0).bind fun a1_3 => (asO 6 false qb1).bind fun a1_4 => (asO 7 false qb2).bind fun a1_5 => (asO 8 false qb3).bind fun a1_6 => some ⟨Bool, spec_IsSealed.f k a0 a1_0 a1_1 a1_2 a1_3 a1_4 a1_5 a1_6 a1_7, spec_IsSealed.g⟩
  | _, _ => none
def spec_IsSealed.C (k : Nat) : Nat → List AV → AP κ AV := contract spec_IsSealed.sig (spec_IsSealed.body k)
theorem spec_IsSealed.den (k : Nat) (a0 : Int) (a1_0 : Int) (a1_1 : Int) (a1_2 : Int) (a1_3 : List T_impl_Grant) (a1_4 : List T_impl_Flow) (a1_5 : List T_impl_Rule) (a1_6 : List T_impl_Op) (a1_7 : Int) : Code.den ti (spec_IsSealed.Γ k) (spec_IsSealed.LH k) (bodyOf Tryz.f94) (finK ti Tryz.f94.results.toList [] (flags spec_IsSealed.sig).length (rwI (flags spec_IsSealed.sig) 0) spec_IsSealed.out) ⟨envOf (([.v (.int .i64 a0), .agg [.int .i64 a1_0, .int .i64 a1_1, .int .i64 a1_2, .sl 0, .sl 1, .sl 2, .sl 3, .int .i64 a1_7]]).zipIdx.map fun q => (q.2, q.1)), hpOf [.rows 5 false a1_3, .rows 6 false a1_4, .rows 7 false a1_5, .rows 8 false a1_6], (flags spec_IsSealed.sig).length⟩ = spec_IsSealed.f k a0 a1_0 a1_1 a1_2 a1_3 a1_4 a1_5 a1_6 a1_7 := by kernel_rfl
theorem spec_IsSealed.ok (k : Nat) : CSound Tryz.prog 94 (spec_IsSealed.C k) :=
  csound κ_ok mixed tok (spec_IsSealed.hΓ k) (LH := spec_IsSealed.LH k) (fn := Tryz.f94) (c := bodyOf Tryz.f94) Tryz.func94 rfl Tryz.call94 spec_IsSealed.sig [] (spec_IsSealed.body k) (by kernel_rfl) (spec_IsSealed.lok k) (by decide) fun vs bs lf y hl hb hy => by
    unfold spec_IsSealed.body at hb
    split at hb
    · obtain ⟨_, rfl, hb_1⟩ := asO_bind hb
      obtain ⟨_, rfl, hb_2⟩ := asO_bind hb_1
      obtain ⟨_, rfl, hb_3⟩ := asO_bind hb_2
      obtain ⟨_, rfl, hb_4⟩ := asO_bind hb_3
      obtain rfl := Option.some.inj hb_4
      exact ⟨spec_IsSealed.out, spec_IsSealed.out_ok, (spec_IsSealed.den k _ _ _ _ _ _ _ _ _).trans hy⟩
    · cases hb
/-! ### spec_IsNarrower -/
def spec_IsNarrower.f (k : Nat) (a0_0 : Int) (a0_1 : Int) (a1_0 : Int) (a1_1 : Int) : Option Bool :=
  (spec_IsPattern.f k a0_0 a0_1).bind fun t1 => (bif t1 then (spec_IsPattern.f k a1_0 a1_1).bind fun t2 => (bif t2 then (bif (a1_0 == (0 : Int)) then (bif (a1_1 == (-1 : Int)) then some true else some (a0_1 == a1_1)) else (bif (a0_0 == a1_0) then (bif (a1_1 == (-1 : Int)) then some true else some (a0_1 == a1_1)) else some false)) else some false) else some false)
def spec_IsNarrower.Γ (k : Nat) : Ct κ := assoc [(149, spec_IsPattern.C k)]
def spec_IsNarrower.LH (k : Nat) : Nat → Option (LHi κ) := assoc []
theorem spec_IsNarrower.hΓ (k : Nat) : ∀ f g, spec_IsNarrower.Γ k f = some g → CSound Tryz.prog f g := G_cons (spec_IsPattern.ok k) G_nil
theorem spec_IsNarrower.lok (k : Nat) : LOK ti (spec_IsNarrower.Γ k) (spec_IsNarrower.LH k) 0 (loopsOf (bodyOf Tryz.f143)) :=
  (show loopsOf (bodyOf Tryz.f143) = [] by kernel_rfl) ▸ LOK_nil
def spec_IsNarrower.sig : List PSh := [.agg [.sc, .sc], .agg [.sc, .sc]]
def spec_IsNarrower.g (y : Bool) : Ret κ := ⟨.v (.bool y), [], []⟩
def spec_IsNarrower.out (r : Ret κ) : Option Bool :=
  match r with
  | ⟨.v (.bool z0), [], []⟩ => some (z0)
  | _ => none
theorem spec_IsNarrower.out_ok (r : Ret κ) (y : Bool) (h : spec_IsNarrower.out r = some y) : r = spec_IsNarrower.g y := by
  unfold spec_IsNarrower.out at h
  split at h
  · obtain rfl := Option.some.inj h
    rfl
  · cases h
def spec_IsNarrower.body (k : Nat) (vs : List AV) (bs : List (Blk κ)) : Option (Lf κ) :=
  match vs, bs with
  | [.agg [.int .i64 a0_0, .int .i64 a0_1], .agg [.int .i64 a1_0, .int .i64 a1_1]], [] => some ⟨Bool, spec_IsNarrower.f k a0_0 a0_1 a1_0 a1_1, spec_IsNarrower.g⟩
  | _, _ => none
def spec_IsNarrower.C (k : Nat) : Nat → List AV → AP κ AV := contract spec_IsNarrower.sig (spec_IsNarrower.body k)
theorem spec_IsNarrower.den (k : Nat) (a0_0 : Int) (a0_1 : Int) (a1_0 : Int) (a1_1 : Int) : Code.den ti (spec_IsNarrower.Γ k) (spec_IsNarrower.LH k) (bodyOf Tryz.f143) (finK ti Tryz.f143.results.toList [] (flags spec_IsNarrower.sig).length (rwI (flags spec_IsNarrower.sig) 0) spec_IsNarrower.out) ⟨envOf (([.agg [.int .i64 a0_0, .int .i64 a0_1], .agg [.int .i64 a1_0, .int .i64 a1_1]]).zipIdx.map fun q => (q.2, q.1)), hpOf [], (flags spec_IsNarrower.sig).length⟩ = spec_IsNarrower.f k a0_0 a0_1 a1_0 a1_1 := by kernel_rfl
theorem spec_IsNarrower.ok (k : Nat) : CSound Tryz.prog 143 (spec_IsNarrower.C k) :=
  csound κ_ok mixed tok (spec_IsNarrower.hΓ k) (LH := spec_IsNarrower.LH k) (fn := Tryz.f143) (c := bodyOf Tryz.f143) Tryz.func143 rfl Tryz.call143 spec_IsNarrower.sig [] (spec_IsNarrower.body k) (by kernel_rfl) (spec_IsNarrower.lok k) (by decide) fun vs bs lf y hl hb hy => by
    unfold spec_IsNarrower.body at hb
    split at hb
    · obtain rfl := Option.some.inj hb
      exact ⟨spec_IsNarrower.out, spec_IsNarrower.out_ok, (spec_IsNarrower.den k _ _ _ _).trans hy⟩
    · cases hb
end Go.Proofs.YtoenilndklbceaaGreat.PFnExactCanRollBack
