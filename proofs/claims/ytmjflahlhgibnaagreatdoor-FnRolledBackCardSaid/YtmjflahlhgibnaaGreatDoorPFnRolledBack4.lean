/- What the functions that the law FnRolledBack reaches come to; no conditions. -/
import Derived.Test.YtmjflahlhgibnaaGreatDoorPFnRolledBack3
set_option linter.unusedVariables false
set_option maxRecDepth 100000
namespace Go.Proofs.YtmjflahlhgibnaaGreatDoor.PFnRolledBack
open Go Go.Eng Go.Proofs
/-! ### spec_l9Any -/
def spec_l9Any.f (k : Nat) (a0_0 : List Int) (a0_1 : Int) (a0_2 : Int) : Option (Int × Int × Int × Int) :=
  (spec_l9Pattern.f k a0_0 a0_1 a0_2).bind fun t1 => (spec_l1Below.f k a0_0 t1.2.2.1 t1.2.2.2 (10 : Int)).bind fun t2 => (bif (t2.1 == (0 : Int)) then (spec_l9Raw.f k a0_0 t2.2.1 t2.2.2).bind fun t3 => some (t3.1, t1.2.1, t3.2.1, t3.2.2) else (bif (t2.1 == (1 : Int)) then (spec_l9Raw.f k a0_0 t2.2.1 t2.2.2).bind fun t4 => some (t1.1, t4.1, t4.2.1, t4.2.2) else some (t1.1, t1.2.1, t2.2.1, t2.2.2)))
def spec_l9Any.Γ (k : Nat) : Ct κ := assoc [(112, spec_l9Pattern.C k), (18, spec_l1Below.C k), (46, spec_l9Raw.C k)]
def spec_l9Any.LH (k : Nat) : Nat → Option (LHi κ) := assoc []
theorem spec_l9Any.hΓ (k : Nat) : ∀ f g, spec_l9Any.Γ k f = some g → CSound Tryz.prog f g := G_cons (spec_l9Pattern.ok k) (G_cons (spec_l1Below.ok k) (G_cons (spec_l9Raw.ok k) G_nil))
theorem spec_l9Any.lok (k : Nat) : LOK ti (spec_l9Any.Γ k) (spec_l9Any.LH k) 2 (loopsOf (bodyOf Tryz.f105)) :=
  (show loopsOf (bodyOf Tryz.f105) = [] by kernel_rfl) ▸ LOK_nil
def spec_l9Any.sig : List PSh := [.cur 79 [.ro 0, .sc, .sc]]
def spec_l9Any.g (y : Int × Int × Int × Int) : Ret κ := ⟨.agg [.int .i64 y.1, .int .i64 y.2.1], [.cells 79 [.sl 1, .int .i64 y.2.2.1, .int .i64 y.2.2.2]], []⟩
def spec_l9Any.out (r : Ret κ) : Option (Int × Int × Int × Int) :=
  match r with
  | ⟨.agg [.int .i64 z0, .int .i64 z1], [.cells 79 [.sl 1, .int .i64 z2, .int .i64 z3]], []⟩ => some (z0, z1, z2, z3)
  | _ => none
theorem spec_l9Any.out_ok (r : Ret κ) (y : Int × Int × Int × Int) (h : spec_l9Any.out r = some y) : r = spec_l9Any.g y := by
  unfold spec_l9Any.out at h
  split at h
  · obtain rfl := Option.some.inj h
    rfl
  · cases h
def spec_l9Any.body (k : Nat) (vs : List AV) (bs : List (Blk κ)) : Option (Lf κ) :=
  match vs, bs with
  | [.v (.ptr 0 0 0)], [.cells 79 [.sl 1, .int .i64 a0_1, .int .i64 a0_2], qb1] => (asO 0 false qb1).bind fun a0_0 => some ⟨Int × Int × Int × Int, spec_l9Any.f k a0_0 a0_1 a0_2, spec_l9Any.g⟩
  | _, _ => none
def spec_l9Any.C (k : Nat) : Nat → List AV → AP κ AV := contract spec_l9Any.sig (spec_l9Any.body k)
theorem spec_l9Any.den (k : Nat) (a0_0 : List Int) (a0_1 : Int) (a0_2 : Int) : Code.den ti (spec_l9Any.Γ k) (spec_l9Any.LH k) (bodyOf Tryz.f105) (finK ti Tryz.f105.results.toList [] (flags spec_l9Any.sig).length (rwI (flags spec_l9Any.sig) 0) spec_l9Any.out) ⟨envOf (([.v (.ptr 0 0 0)]).zipIdx.map fun q => (q.2, q.1)), hpOf [.cells 79 [.sl 1, .int .i64 a0_1, .int .i64 a0_2], .rows 0 false a0_0], (flags spec_l9Any.sig).length⟩ = spec_l9Any.f k a0_0 a0_1 a0_2 := by kernel_rfl
theorem spec_l9Any.ok (k : Nat) : CSound Tryz.prog 105 (spec_l9Any.C k) :=
  csound κ_ok mixed tok (spec_l9Any.hΓ k) (LH := spec_l9Any.LH k) (fn := Tryz.f105) (c := bodyOf Tryz.f105) Tryz.func105 rfl Tryz.call105 spec_l9Any.sig [] (spec_l9Any.body k) (by kernel_rfl) (spec_l9Any.lok k) (by decide) fun vs bs lf y hl hb hy => by
    unfold spec_l9Any.body at hb
    split at hb
    · obtain ⟨_, rfl, hb_1⟩ := asO_bind hb
      obtain rfl := Option.some.inj hb_1
      exact ⟨spec_l9Any.out, spec_l9Any.out_ok, (spec_l9Any.den k _ _ _).trans hy⟩
    · cases hb
/-! ### spec_l10Any -/
def spec_l10Any.f (k : Nat) (a0_0 : List Int) (a0_1 : Int) (a0_2 : Int) : Option (Int × Int × Int × Int × Int × Int × Bool × Int × Int) :=
  (spec_l10Draw.f k a0_0 a0_1 a0_2).bind fun t1 => (spec_l1Below.f k a0_0 t1.2.2.2.2.2.2.2.1 t1.2.2.2.2.2.2.2.2 (12 : Int)).bind fun t2 => (bif (t2.1 == (0 : Int)) then (spec_l9Raw.f k a0_0 t2.2.1 t2.2.2).bind fun t3 => some (t3.1, t1.2.1, t1.2.2.1, t1.2.2.2.1, t1.2.2.2.2.1, t1.2.2.2.2.2.1, t1.2.2.2.2.2.2.1, t3.2.1, t3.2.2) else (bif (t2.1 == (1 : Int)) then (spec_l1Int.f k a0_0 t2.2.1 t2.2.2 ([(0 : Int), (5 : Int)] : List Int)).bind fun t4 => some (t1.1, t1.2.1, t1.2.2.1, t4.1, t1.2.2.2.2.1, t1.2.2.2.2.2.1, t1.2.2.2.2.2.2.1, t4.2.1, t4.2.2) else (bif (t2.1 == (2 : Int)) then (spec_l1Int.f k a0_0 t2.2.1 t2.2.2 ([(-1 : Int), (30 : Int)] : List Int)).bind fun t5 => some (t1.1, t1.2.1, t1.2.2.1, t1.2.2.2.1, t5.1, t1.2.2.2.2.2.1, t1.2.2.2.2.2.2.1, t5.2.1, t5.2.2) else (bif (t2.1 == (3 : Int)) then (spec_l1Int.f k a0_0 t2.2.1 t2.2.2 ([(10000 : Int), (10001 : Int), (9223372036854775807 : Int)] : List Int)).bind fun t6 => some (t1.1, t1.2.1, t1.2.2.1, t1.2.2.2.1, t1.2.2.2.2.1, t6.1, t1.2.2.2.2.2.2.1, t6.2.1, t6.2.2) else (bif (t2.1 == (4 : Int)) then (spec_l9Any.f k a0_0 t2.2.1 t2.2.2).bind fun t7 => some (t1.1, t7.1, t7.2.1, t1.2.2.2.1, t1.2.2.2.2.1, t1.2.2.2.2.2.1, t1.2.2.2.2.2.2.1, t7.2.2.1, t7.2.2.2) else some (t1.1, t1.2.1, t1.2.2.1, t1.2.2.2.1, t1.2.2.2.2.1, t1.2.2.2.2.2.1, t1.2.2.2.2.2.2.1, t2.2.1, t2.2.2))))))
def spec_l10Any.Γ (k : Nat) : Ct κ := assoc [(104, spec_l10Draw.C k), (18, spec_l1Below.C k), (46, spec_l9Raw.C k), (29, spec_l1Int.C k), (105, spec_l9Any.C k)]
def spec_l10Any.LH (k : Nat) : Nat → Option (LHi κ) := assoc []
theorem spec_l10Any.hΓ (k : Nat) : ∀ f g, spec_l10Any.Γ k f = some g → CSound Tryz.prog f g := G_cons (spec_l10Draw.ok k) (G_cons (spec_l1Below.ok k) (G_cons (spec_l9Raw.ok k) (G_cons (spec_l1Int.ok k) (G_cons (spec_l9Any.ok k) G_nil))))
theorem spec_l10Any.lok (k : Nat) : LOK ti (spec_l10Any.Γ k) (spec_l10Any.LH k) 2 (loopsOf (bodyOf Tryz.f70)) :=
  (show loopsOf (bodyOf Tryz.f70) = [] by kernel_rfl) ▸ LOK_nil
def spec_l10Any.sig : List PSh := [.cur 79 [.ro 0, .sc, .sc]]
def spec_l10Any.g (y : Int × Int × Int × Int × Int × Int × Bool × Int × Int) : Ret κ := ⟨.agg [.int .i64 y.1, .int .i64 y.2.1, .int .i64 y.2.2.1, .int .i64 y.2.2.2.1, .int .i64 y.2.2.2.2.1, .int .i64 y.2.2.2.2.2.1, .bool y.2.2.2.2.2.2.1], [.cells 79 [.sl 1, .int .i64 y.2.2.2.2.2.2.2.1, .int .i64 y.2.2.2.2.2.2.2.2]], []⟩
def spec_l10Any.out (r : Ret κ) : Option (Int × Int × Int × Int × Int × Int × Bool × Int × Int) :=
  match r with
  | ⟨.agg [.int .i64 z0, .int .i64 z1, .int .i64 z2, .int .i64 z3, .int .i64 z4, .int .i64 z5, .bool z6], [.cells 79 [.sl 1, .int .i64 z7, .int .i64 z8]], []⟩ => some (z0, z1, z2, z3, z4, z5, z6, z7, z8)
  | _ => none
theorem spec_l10Any.out_ok (r : Ret κ) (y : Int × Int × Int × Int × Int × Int × Bool × Int × Int) (h : spec_l10Any.out r = some y) : r = spec_l10Any.g y := by
  unfold spec_l10Any.out at h
  split at h
  · obtain rfl := Option.some.inj h
    rfl
  · cases h
def spec_l10Any.body (k : Nat) (vs : List AV) (bs : List (Blk κ)) : Option (Lf κ) :=
  match vs, bs with
  | [.v (.ptr 0 0 0)], [.cells 79 [.sl 1, .int .i64 a0_1, .int .i64 a0_2], qb1] => (asO 0 false qb1).bind fun a0_0 => some ⟨Int × Int × Int × Int × Int × Int × Bool × Int × Int, spec_l10Any.f k a0_0 a0_1 a0_2, spec_l10Any.g⟩
  | _, _ => none
def spec_l10Any.C (k : Nat) : Nat → List AV → AP κ AV := contract spec_l10Any.sig (spec_l10Any.body k)
theorem spec_l10Any.den (k : Nat) (a0_0 : List Int) (a0_1 : Int) (a0_2 : Int) : Code.den ti (spec_l10Any.Γ k) (spec_l10Any.LH k) (bodyOf Tryz.f70) (finK ti Tryz.f70.results.toList [] (flags spec_l10Any.sig).length (rwI (flags spec_l10Any.sig) 0) spec_l10Any.out) ⟨envOf (([.v (.ptr 0 0 0)]).zipIdx.map fun q => (q.2, q.1)), hpOf [.cells 79 [.sl 1, .int .i64 a0_1, .int .i64 a0_2], .rows 0 false a0_0], (flags spec_l10Any.sig).length⟩ = spec_l10Any.f k a0_0 a0_1 a0_2 := by kernel_rfl
theorem spec_l10Any.ok (k : Nat) : CSound Tryz.prog 70 (spec_l10Any.C k) :=
  csound κ_ok mixed tok (spec_l10Any.hΓ k) (LH := spec_l10Any.LH k) (fn := Tryz.f70) (c := bodyOf Tryz.f70) Tryz.func70 rfl Tryz.call70 spec_l10Any.sig [] (spec_l10Any.body k) (by kernel_rfl) (spec_l10Any.lok k) (by decide) fun vs bs lf y hl hb hy => by
    unfold spec_l10Any.body at hb
    split at hb
    · obtain ⟨_, rfl, hb_1⟩ := asO_bind hb
      obtain rfl := Option.some.inj hb_1
      exact ⟨spec_l10Any.out, spec_l10Any.out_ok, (spec_l10Any.den k _ _ _).trans hy⟩
    · cases hb
/-! ### spec_l13Any -/
def spec_l13Any.f (k : Nat) (a0_0 : List Int) (a0_1 : Int) (a0_2 : Int) : Option (Int × Int × Int × Int × Int × Int × Int × Int × Int × Int) :=
  (spec_l13Draw.f k a0_0 a0_1 a0_2).bind fun t1 => (spec_l1Below.f k a0_0 t1.2.2.2.2.2.2.2.2.1 t1.2.2.2.2.2.2.2.2.2 (12 : Int)).bind fun t2 => (bif (t2.1 == (0 : Int)) then (spec_l9Raw.f k a0_0 t2.2.1 t2.2.2).bind fun t3 => some (t3.1, t1.2.1, t1.2.2.1, t1.2.2.2.1, t1.2.2.2.2.1, t1.2.2.2.2.2.1, t1.2.2.2.2.2.2.1, t1.2.2.2.2.2.2.2.1, t3.2.1, t3.2.2) else (bif (t2.1 == (1 : Int)) then (spec_l1Int.f k a0_0 t2.2.1 t2.2.2 ([(0 : Int), (9 : Int), (10 : Int)] : List Int)).bind fun t4 => some (t1.1, t4.1, t1.2.2.1, t1.2.2.2.1, t1.2.2.2.2.1, t1.2.2.2.2.2.1, t1.2.2.2.2.2.2.1, t1.2.2.2.2.2.2.2.1, t4.2.1, t4.2.2) else (bif (t2.1 == (2 : Int)) then (spec_l9Any.f k a0_0 t2.2.1 t2.2.2).bind fun t5 => some (t1.1, t1.2.1, t5.1, t5.2.1, t1.2.2.2.2.1, t1.2.2.2.2.2.1, t1.2.2.2.2.2.2.1, t1.2.2.2.2.2.2.2.1, t5.2.2.1, t5.2.2.2) else (bif (t2.1 == (3 : Int)) then (spec_l1Int.f k a0_0 t2.2.1 t2.2.2 ([(-1 : Int), (4 : Int), (5 : Int)] : List Int)).bind fun t6 => some (t1.1, t1.2.1, t1.2.2.1, t1.2.2.2.1, t6.1, t1.2.2.2.2.2.1, t1.2.2.2.2.2.2.1, t1.2.2.2.2.2.2.2.1, t6.2.1, t6.2.2) else (bif (t2.1 == (4 : Int)) then (spec_l1Int.f k a0_0 t2.2.1 t2.2.2 ([(0 : Int), (3 : Int), (4 : Int)] : List Int)).bind fun t7 => some (t1.1, t1.2.1, t1.2.2.1, t1.2.2.2.1, t1.2.2.2.2.1, t7.1, t1.2.2.2.2.2.2.1, t1.2.2.2.2.2.2.2.1, t7.2.1, t7.2.2) else (bif (t2.1 == (5 : Int)) then (spec_l9Raw.f k a0_0 t2.2.1 t2.2.2).bind fun t8 => some (t1.1, t1.2.1, t1.2.2.1, t1.2.2.2.1, t1.2.2.2.2.1, t1.2.2.2.2.2.1, t8.1, t1.2.2.2.2.2.2.2.1, t8.2.1, t8.2.2) else some (t1.1, t1.2.1, t1.2.2.1, t1.2.2.2.1, t1.2.2.2.2.1, t1.2.2.2.2.2.1, t1.2.2.2.2.2.2.1, t1.2.2.2.2.2.2.2.1, t2.2.1, t2.2.2)))))))
def spec_l13Any.Γ (k : Nat) : Ct κ := assoc [(88, spec_l13Draw.C k), (18, spec_l1Below.C k), (46, spec_l9Raw.C k), (29, spec_l1Int.C k), (105, spec_l9Any.C k)]
def spec_l13Any.LH (k : Nat) : Nat → Option (LHi κ) := assoc []
theorem spec_l13Any.hΓ (k : Nat) : ∀ f g, spec_l13Any.Γ k f = some g → CSound Tryz.prog f g := G_cons (spec_l13Draw.ok k) (G_cons (spec_l1Below.ok k) (G_cons (spec_l9Raw.ok k) (G_cons (spec_l1Int.ok k) (G_cons (spec_l9Any.ok k) G_nil))))
theorem spec_l13Any.lok (k : Nat) : LOK ti (spec_l13Any.Γ k) (spec_l13Any.LH k) 2 (loopsOf (bodyOf Tryz.f72)) :=
  (show loopsOf (bodyOf Tryz.f72) = [] by kernel_rfl) ▸ LOK_nil
def spec_l13Any.sig : List PSh := [.cur 79 [.ro 0, .sc, .sc]]
def spec_l13Any.g (y : Int × Int × Int × Int × Int × Int × Int × Int × Int × Int) : Ret κ := ⟨.agg [.int .i64 y.1, .int .i64 y.2.1, .int .i64 y.2.2.1, .int .i64 y.2.2.2.1, .int .i64 y.2.2.2.2.1, .int .i64 y.2.2.2.2.2.1, .int .i64 y.2.2.2.2.2.2.1, .int .i64 y.2.2.2.2.2.2.2.1], [.cells 79 [.sl 1, .int .i64 y.2.2.2.2.2.2.2.2.1, .int .i64 y.2.2.2.2.2.2.2.2.2]], []⟩
def spec_l13Any.out (r : Ret κ) : Option (Int × Int × Int × Int × Int × Int × Int × Int × Int × Int) :=
  match r with
  | ⟨.agg [.int .i64 z0, .int .i64 z1, .int .i64 z2, .int .i64 z3, .int .i64 z4, .int .i64 z5, .int .i64 z6, .int .i64 z7], [.cells 79 [.sl 1, .int .i64 z8, .int .i64 z9]], []⟩ => some (z0, z1, z2, z3, z4, z5, z6, z7, z8, z9)
  | _ => none
theorem spec_l13Any.out_ok (r : Ret κ) (y : Int × Int × Int × Int × Int × Int × Int × Int × Int × Int) (h : spec_l13Any.out r = some y) : r = spec_l13Any.g y := by
  unfold spec_l13Any.out at h
  split at h
  · obtain rfl := Option.some.inj h
    rfl
  · cases h
def spec_l13Any.body (k : Nat) (vs : List AV) (bs : List (Blk κ)) : Option (Lf κ) :=
  match vs, bs with
  | [.v (.ptr 0 0 0)], [.cells 79 [.sl 1, .int .i64 a0_1, .int .i64 a0_2], qb1] => (asO 0 false qb1).bind fun a0_0 => some ⟨Int × Int × Int × Int × Int × Int × Int × Int × Int × Int, spec_l13Any.f k a0_0 a0_1 a0_2, spec_l13Any.g⟩
  | _, _ => none
def spec_l13Any.C (k : Nat) : Nat → List AV → AP κ AV := contract spec_l13Any.sig (spec_l13Any.body k)
theorem spec_l13Any.den (k : Nat) (a0_0 : List Int) (a0_1 : Int) (a0_2 : Int) : Code.den ti (spec_l13Any.Γ k) (spec_l13Any.LH k) (bodyOf Tryz.f72) (finK ti Tryz.f72.results.toList [] (flags spec_l13Any.sig).length (rwI (flags spec_l13Any.sig) 0) spec_l13Any.out) ⟨envOf (([.v (.ptr 0 0 0)]).zipIdx.map fun q => (q.2, q.1)), hpOf [.cells 79 [.sl 1, .int .i64 a0_1, .int .i64 a0_2], .rows 0 false a0_0], (flags spec_l13Any.sig).length⟩ = spec_l13Any.f k a0_0 a0_1 a0_2 := by kernel_rfl
theorem spec_l13Any.ok (k : Nat) : CSound Tryz.prog 72 (spec_l13Any.C k) :=
  csound κ_ok mixed tok (spec_l13Any.hΓ k) (LH := spec_l13Any.LH k) (fn := Tryz.f72) (c := bodyOf Tryz.f72) Tryz.func72 rfl Tryz.call72 spec_l13Any.sig [] (spec_l13Any.body k) (by kernel_rfl) (spec_l13Any.lok k) (by decide) fun vs bs lf y hl hb hy => by
    unfold spec_l13Any.body at hb
    split at hb
    · obtain ⟨_, rfl, hb_1⟩ := asO_bind hb
      obtain rfl := Option.some.inj hb_1
      exact ⟨spec_l13Any.out, spec_l13Any.out_ok, (spec_l13Any.den k _ _ _).trans hy⟩
    · cases hb
/-! ### spec_l21Any -/
def spec_l21Any.L15 {R : Type} (k : Nat) (xc0_1 : Int) (xc0_2 : Int) (xl1 : List Int) (X0 : List T_impl_Op → Option R) (rec : List T_impl_Op → Option R) (xl2 : List T_impl_Op) : Option R :=
  (bif decide ((xl2.length : Int) < (17 : Int)) then (bif decide ((xl2.length + ([(⟨(2 : Int), (0 : Int), (0 : Int), (0 : Int)⟩ : T_impl_Op)] : List T_impl_Op).length) * 32 ≤ cap48) then (let l12 : List T_impl_Op := (xl2 ++ ([(⟨(2 : Int), (0 : Int), (0 : Int), (0 : Int)⟩ : T_impl_Op)] : List T_impl_Op)); (rec l12)) else none) else (X0 xl2))
def spec_l21Any.l15 {R : Type} (k : Nat) (xc0_1 : Int) (xc0_2 : Int) (xl1 : List Int) (X0 : List T_impl_Op → Option R) : Nat → List T_impl_Op → Option R
  | 0 => fun _ => none
  | n + 1 => spec_l21Any.L15 k xc0_1 xc0_2 xl1 X0 (spec_l21Any.l15 k xc0_1 xc0_2 xl1 X0 n)
def spec_l21Any.f (k : Nat) (a0_0 : List Int) (a0_1 : Int) (a0_2 : Int) : Option (Int × Int × List T_impl_Op) :=
  (spec_l21Ops.f k a0_0 a0_1 a0_2).bind fun t1 => (bif ((t1.2.2.length : Int) == (0 : Int)) then some (t1.1, t1.2.1, t1.2.2) else (spec_l1Below.f k a0_0 t1.1 t1.2.1 (t1.2.2.length : Int)).bind fun t2 => (spec_l1Below.f k a0_0 t2.2.1 t2.2.2 (12 : Int)).bind fun t3 => (bif (t3.1 == (0 : Int)) then (spec_l1Int.f k a0_0 t3.2.1 t3.2.2 ([(0 : Int), (6 : Int), (5 : Int)] : List Int)).bind fun t4 => (bif decide (0 ≤ t2.1) then (bif decide (t2.1 < (t1.2.2.length : Int)) then (let l5 : List T_impl_Op := (t1.2.2.set (t2.1).toNat (⟨t4.1, (rd_impl_Op t1.2.2 t2.1).f1, (rd_impl_Op t1.2.2 t2.1).f2, (rd_impl_Op t1.2.2 t2.1).f3⟩ : T_impl_Op)); some (t4.2.1, t4.2.2, l5)) else none) else none) else (bif (t3.1 == (1 : Int)) then (spec_l1Int.f k a0_0 t3.2.1 t3.2.2 ([(-1 : Int), (5 : Int), (6 : Int)] : List Int)).bind fun t6 => (bif decide (0 ≤ t2.1) then (bif decide (t2.1 < (t1.2.2.length : Int)) then (let l7 : List T_impl_Op := (t1.2.2.set (t2.1).toNat (⟨(rd_impl_Op t1.2.2 t2.1).f0, t6.1, (rd_impl_Op t1.2.2 t2.1).f2, (rd_impl_Op t1.2.2 t2.1).f3⟩ : T_impl_Op)); some (t6.2.1, t6.2.2, l7)) else none) else none) else (bif (t3.1 == (2 : Int)) then (spec_l9Raw.f k a0_0 t3.2.1 t3.2.2).bind fun t8 => (bif decide (0 ≤ t2.1) then (bif decide (t2.1 < (t1.2.2.length : Int)) then (let l9 : List T_impl_Op := (t1.2.2.set (t2.1).toNat (⟨(rd_impl_Op t1.2.2 t2.1).f0, (rd_impl_Op t1.2.2 t2.1).f1, t8.1, (rd_impl_Op t1.2.2 t2.1).f3⟩ : T_impl_Op)); some (t8.2.1, t8.2.2, l9)) else none) else none) else (bif (t3.1 == (3 : Int)) then (spec_l1Int.f k a0_0 t3.2.1 t3.2.2 ([(-1 : Int), (1 : Int), (6 : Int)] : List Int)).bind fun t10 => (bif decide (0 ≤ t2.1) then (bif decide (t2.1 < (t1.2.2.length : Int)) then (let l11 : List T_impl_Op := (t1.2.2.set (t2.1).toNat (⟨(rd_impl_Op t1.2.2 t2.1).f0, (rd_impl_Op t1.2.2 t2.1).f1, (rd_impl_Op t1.2.2 t2.1).f2, t10.1⟩ : T_impl_Op)); some (t10.2.1, t10.2.2, l11)) else none) else none) else (bif (t3.1 == (4 : Int)) then (spec_l21Any.l15 k t3.2.1 t3.2.2 a0_0 (fun (y13 : List T_impl_Op) => some (t3.2.1, t3.2.2, y13)) k t1.2.2) else some (t3.2.1, t3.2.2, t1.2.2)))))))
def spec_l21Any.h15 (k : Nat) {R : Type} (K : Ex → St κ → Option R) (vs : List AV) (bs : List (Blk κ)) : Option R :=
  match vs, bs with
  | [.v (.sl 2)], [.cells 79 [.sl 1, .int .i64 xc0_1, .int .i64 xc0_2], qb1, qb2] => (asO 0 false qb1).bind fun xl1 => (asO 1 true qb2).bind fun xl2 => spec_l21Any.l15 k xc0_1 xc0_2 xl1 (fun (zl2 : List T_impl_Op) => K (.exit 1) (stOf [(3, [some 1])] [.v (.sl 2)] [.cells 79 [.sl 1, .int .i64 xc0_1, .int .i64 xc0_2], .rows 0 false xl1, .rows 1 true zl2])) k xl2
  | _, _ => none
def spec_l21Any.Γ (k : Nat) : Ct κ := assoc [(87, spec_l21Ops.C k), (18, spec_l1Below.C k), (29, spec_l1Int.C k), (46, spec_l9Raw.C k)]
def spec_l21Any.LH (k : Nat) : Nat → Option (LHi κ) := assoc [(15, ⟨2, [(3, [some 1])], [(3, [some 1])], @spec_l21Any.h15 k⟩)]
theorem spec_l21Any.hΓ (k : Nat) : ∀ f g, spec_l21Any.Γ k f = some g → CSound Tryz.prog f g := G_cons (spec_l21Ops.ok k) (G_cons (spec_l1Below.ok k) (G_cons (spec_l1Int.ok k) (G_cons (spec_l9Raw.ok k) G_nil)))
theorem spec_l21Any.e15 {R : Type} (K : Ex → St κ → Option R) (k : Nat) (xc0_1 : Int) (xc0_2 : Int) (xl1 : List Int) : ∀ (n : Nat) (xl2 : List T_impl_Op), loopN 2 (Code.den ti (spec_l21Any.Γ k) (spec_l21Any.LH k) (loopAt Tryz.f73 0)) [(3, [some 1])] [(3, [some 1])] K n [.v (.sl 2)] [.cells 79 [.sl 1, .int .i64 xc0_1, .int .i64 xc0_2], .rows 0 false xl1, .rows 1 true xl2] = spec_l21Any.l15 k xc0_1 xc0_2 xl1 (fun (zl2 : List T_impl_Op) => K (.exit 1) (stOf [(3, [some 1])] [.v (.sl 2)] [.cells 79 [.sl 1, .int .i64 xc0_1, .int .i64 xc0_2], .rows 0 false xl1, .rows 1 true zl2])) n xl2
  | 0, _ => rfl
  | n + 1, xl2 => (show loopN 2 (Code.den ti (spec_l21Any.Γ k) (spec_l21Any.LH k) (loopAt Tryz.f73 0)) [(3, [some 1])] [(3, [some 1])] K (n + 1) [.v (.sl 2)] [.cells 79 [.sl 1, .int .i64 xc0_1, .int .i64 xc0_2], .rows 0 false xl1, .rows 1 true xl2] = spec_l21Any.L15 k xc0_1 xc0_2 xl1 (fun (zl2 : List T_impl_Op) => K (.exit 1) (stOf [(3, [some 1])] [.v (.sl 2)] [.cells 79 [.sl 1, .int .i64 xc0_1, .int .i64 xc0_2], .rows 0 false xl1, .rows 1 true zl2])) (fun (xl2' : List T_impl_Op) => loopN 2 (Code.den ti (spec_l21Any.Γ k) (spec_l21Any.LH k) (loopAt Tryz.f73 0)) [(3, [some 1])] [(3, [some 1])] K n [.v (.sl 2)] [.cells 79 [.sl 1, .int .i64 xc0_1, .int .i64 xc0_2], .rows 0 false xl1, .rows 1 true xl2']) xl2 by kernel_rfl).trans (congrArg (fun rec => spec_l21Any.L15 k xc0_1 xc0_2 xl1 (fun (zl2 : List T_impl_Op) => K (.exit 1) (stOf [(3, [some 1])] [.v (.sl 2)] [.cells 79 [.sl 1, .int .i64 xc0_1, .int .i64 xc0_2], .rows 0 false xl1, .rows 1 true zl2])) rec xl2) (funext fun xl2' => spec_l21Any.e15 K k xc0_1 xc0_2 xl1 n xl2'))
theorem spec_l21Any.q15 (k : Nat) {R : Type} (K : Ex → St κ → Option R) (vs : List AV) (bs : List (Blk κ)) (r : R) (h : spec_l21Any.h15 k K vs bs = some r) : ∃ n, loopN 2 (Code.den ti (spec_l21Any.Γ k) (spec_l21Any.LH k) (loopAt Tryz.f73 0)) [(3, [some 1])] [(3, [some 1])] K n vs bs = some r := by
  unfold spec_l21Any.h15 at h
  split at h
  · obtain ⟨_, rfl, h_1⟩ := asO_bind h
    obtain ⟨_, rfl, h_2⟩ := asO_bind h_1
    exact ⟨k, (spec_l21Any.e15 K k _ _ _ k _).trans h_2⟩
  · cases h
theorem spec_l21Any.lok (k : Nat) : LOK ti (spec_l21Any.Γ k) (spec_l21Any.LH k) 2 (loopsOf (bodyOf Tryz.f73)) :=
  (show loopsOf (bodyOf Tryz.f73) = [loopAt Tryz.f73 0] by kernel_rfl) ▸ (LOK_cons (g := ⟨2, [(3, [some 1])], [(3, [some 1])], @spec_l21Any.h15 k⟩) (by kernel_rfl) rfl (fun K vs xs r h => spec_l21Any.q15 k K vs xs r h) (LOK_nil))
def spec_l21Any.sig : List PSh := [.cur 79 [.ro 0, .sc, .sc]]
def spec_l21Any.g (y : Int × Int × List T_impl_Op) : Ret κ := ⟨.v (.sl 2), [.cells 79 [.sl 1, .int .i64 y.1, .int .i64 y.2.1]], [.rows 1 true y.2.2]⟩
def spec_l21Any.out (r : Ret κ) : Option (Int × Int × List T_impl_Op) :=
  match r with
  | ⟨.v (.sl 2), [.cells 79 [.sl 1, .int .i64 z0, .int .i64 z1]], [q2]⟩ => (asO 1 true q2).bind fun z2 => some (z0, z1, z2)
  | _ => none
theorem spec_l21Any.out_ok (r : Ret κ) (y : Int × Int × List T_impl_Op) (h : spec_l21Any.out r = some y) : r = spec_l21Any.g y := by
  unfold spec_l21Any.out at h
  split at h
  · obtain ⟨_, rfl, h_1⟩ := asO_bind h
    obtain rfl := Option.some.inj h_1
    rfl
  · cases h
def spec_l21Any.body (k : Nat) (vs : List AV) (bs : List (Blk κ)) : Option (Lf κ) :=
  match vs, bs with
  | [.v (.ptr 0 0 0)], [.cells 79 [.sl 1, .int .i64 a0_1, .int .i64 a0_2], qb1] => (asO 0 false qb1).bind fun a0_0 => some ⟨Int × Int × List T_impl_Op, spec_l21Any.f k a0_0 a0_1 a0_2, spec_l21Any.g⟩
  | _, _ => none
def spec_l21Any.C (k : Nat) : Nat → List AV → AP κ AV := contract spec_l21Any.sig (spec_l21Any.body k)
theorem spec_l21Any.den (k : Nat) (a0_0 : List Int) (a0_1 : Int) (a0_2 : Int) : Code.den ti (spec_l21Any.Γ k) (spec_l21Any.LH k) (bodyOf Tryz.f73) (finK ti Tryz.f73.results.toList [(2, [some 1])] (flags spec_l21Any.sig).length (rwI (flags spec_l21Any.sig) 0) spec_l21Any.out) ⟨envOf (([.v (.ptr 0 0 0)]).zipIdx.map fun q => (q.2, q.1)), hpOf [.cells 79 [.sl 1, .int .i64 a0_1, .int .i64 a0_2], .rows 0 false a0_0], (flags spec_l21Any.sig).length⟩ = spec_l21Any.f k a0_0 a0_1 a0_2 := by kernel_rfl
theorem spec_l21Any.ok (k : Nat) : CSound Tryz.prog 73 (spec_l21Any.C k) :=
  csound κ_ok mixed tok (spec_l21Any.hΓ k) (LH := spec_l21Any.LH k) (fn := Tryz.f73) (c := bodyOf Tryz.f73) Tryz.func73 rfl Tryz.call73 spec_l21Any.sig [(2, [some 1])] (spec_l21Any.body k) (by kernel_rfl) (spec_l21Any.lok k) (by decide) fun vs bs lf y hl hb hy => by
    unfold spec_l21Any.body at hb
    split at hb
    · obtain ⟨_, rfl, hb_1⟩ := asO_bind hb
      obtain rfl := Option.some.inj hb_1
      exact ⟨spec_l21Any.out, spec_l21Any.out_ok, (spec_l21Any.den k _ _ _).trans hy⟩
    · cases hb
/-! ### spec_l26Any -/
def spec_l26Any.f (k : Nat) (a0_0 : List Int) (a0_1 : Int) (a0_2 : Int) : Option (Int × Int × Int × Int × Int × Int × List T_impl_Grant × List T_impl_Flow × List T_impl_Rule × List T_impl_Op) :=
  (spec_l1Below.f k a0_0 a0_1 a0_2 (3 : Int)).bind fun t1 => (spec_l26Draw.f k a0_0 t1.2.1 t1.2.2 (w64 ((1 : Int) + t1.1))).bind fun t2 => (spec_l1Below.f k a0_0 t2.2.2.2.2.1 t2.2.2.2.2.2.1 (14 : Int)).bind fun t3 => (bif (t3.1 == (0 : Int)) then (spec_l9Raw.f k a0_0 t3.2.1 t3.2.2).bind fun t4 => some (t4.1, t2.2.1, t2.2.2.1, t2.2.2.2.1, t4.2.1, t4.2.2, t2.2.2.2.2.2.2.1, t2.2.2.2.2.2.2.2.1, t2.2.2.2.2.2.2.2.2.1, t2.2.2.2.2.2.2.2.2.2) else (bif (t3.1 == (1 : Int)) then (spec_l1Int.f k a0_0 t3.2.1 t3.2.2 ([(0 : Int), (9 : Int), (10 : Int)] : List Int)).bind fun t5 => some (t2.1, t5.1, t2.2.2.1, t2.2.2.2.1, t5.2.1, t5.2.2, t2.2.2.2.2.2.2.1, t2.2.2.2.2.2.2.2.1, t2.2.2.2.2.2.2.2.2.1, t2.2.2.2.2.2.2.2.2.2) else (bif (t3.1 == (2 : Int)) then (spec_l1Int.f k a0_0 t3.2.1 t3.2.2 ([(0 : Int), (999 : Int), (1000 : Int)] : List Int)).bind fun t6 => some (t2.1, t2.2.1, t6.1, t2.2.2.2.1, t6.2.1, t6.2.2, t2.2.2.2.2.2.2.1, t2.2.2.2.2.2.2.2.1, t2.2.2.2.2.2.2.2.2.1, t2.2.2.2.2.2.2.2.2.2) else (bif (t3.1 == (3 : Int)) then (spec_l10Any.f k a0_0 t3.2.1 t3.2.2).bind fun t7 => (bif decide ((t2.2.2.2.2.2.2.1.length + ([(⟨t7.1, (⟨t7.2.1, t7.2.2.1⟩ : T_impl_Pattern), t7.2.2.2.1, t7.2.2.2.2.1, t7.2.2.2.2.2.1, t7.2.2.2.2.2.2.1⟩ : T_impl_Grant)] : List T_impl_Grant).length) * 56 ≤ cap48) then (let l8 : List T_impl_Grant := (t2.2.2.2.2.2.2.1 ++ ([(⟨t7.1, (⟨t7.2.1, t7.2.2.1⟩ : T_impl_Pattern), t7.2.2.2.1, t7.2.2.2.2.1, t7.2.2.2.2.2.1, t7.2.2.2.2.2.2.1⟩ : T_impl_Grant)] : List T_impl_Grant)); some (t2.1, t2.2.1, t2.2.2.1, t2.2.2.2.1, t7.2.2.2.2.2.2.2.1, t7.2.2.2.2.2.2.2.2, l8, t2.2.2.2.2.2.2.2.1, t2.2.2.2.2.2.2.2.2.1, t2.2.2.2.2.2.2.2.2.2)) else none) else (bif (t3.1 == (4 : Int)) then (spec_l20Draw.f k a0_0 t3.2.1 t3.2.2).bind fun t9 => (bif decide ((t2.2.2.2.2.2.2.2.1.length + ([(⟨t9.1, t9.2.1, t9.2.2.1⟩ : T_impl_Flow)] : List T_impl_Flow).length) * 24 ≤ cap48) then (let l10 : List T_impl_Flow := (t2.2.2.2.2.2.2.2.1 ++ ([(⟨t9.1, t9.2.1, t9.2.2.1⟩ : T_impl_Flow)] : List T_impl_Flow)); some (t2.1, t2.2.1, t2.2.2.1, t2.2.2.2.1, t9.2.2.2.1, t9.2.2.2.2, t2.2.2.2.2.2.2.1, l10, t2.2.2.2.2.2.2.2.2.1, t2.2.2.2.2.2.2.2.2.2)) else none) else (bif (t3.1 == (5 : Int)) then (spec_l13Any.f k a0_0 t3.2.1 t3.2.2).bind fun t11 => (bif decide ((t2.2.2.2.2.2.2.2.2.1.length + ([(⟨t11.1, t11.2.1, (⟨t11.2.2.1, t11.2.2.2.1⟩ : T_impl_Pattern), t11.2.2.2.2.1, t11.2.2.2.2.2.1, (⟨t11.2.2.2.2.2.2.1, t11.2.2.2.2.2.2.2.1⟩ : T_impl_Site)⟩ : T_impl_Rule)] : List T_impl_Rule).length) * 64 ≤ cap48) then (let l12 : List T_impl_Rule := (t2.2.2.2.2.2.2.2.2.1 ++ ([(⟨t11.1, t11.2.1, (⟨t11.2.2.1, t11.2.2.2.1⟩ : T_impl_Pattern), t11.2.2.2.2.1, t11.2.2.2.2.2.1, (⟨t11.2.2.2.2.2.2.1, t11.2.2.2.2.2.2.2.1⟩ : T_impl_Site)⟩ : T_impl_Rule)] : List T_impl_Rule)); some (t2.1, t2.2.1, t2.2.2.1, t2.2.2.2.1, t11.2.2.2.2.2.2.2.2.1, t11.2.2.2.2.2.2.2.2.2, t2.2.2.2.2.2.2.1, t2.2.2.2.2.2.2.2.1, l12, t2.2.2.2.2.2.2.2.2.2)) else none) else (bif (t3.1 == (6 : Int)) then (spec_l21Any.f k a0_0 t3.2.1 t3.2.2).bind fun t13 => some (t2.1, t2.2.1, t2.2.2.1, t2.2.2.2.1, t13.1, t13.2.1, t2.2.2.2.2.2.2.1, t2.2.2.2.2.2.2.2.1, t2.2.2.2.2.2.2.2.2.1, t13.2.2) else (bif (t3.1 == (7 : Int)) then some (t2.1, t2.2.1, t2.2.2.1, (w64 (t2.2.2.2.1 + (1 : Int))), t3.2.1, t3.2.2, t2.2.2.2.2.2.2.1, t2.2.2.2.2.2.2.2.1, t2.2.2.2.2.2.2.2.2.1, t2.2.2.2.2.2.2.2.2.2) else some (t2.1, t2.2.1, t2.2.2.1, t2.2.2.2.1, t3.2.1, t3.2.2, t2.2.2.2.2.2.2.1, t2.2.2.2.2.2.2.2.1, t2.2.2.2.2.2.2.2.2.1, t2.2.2.2.2.2.2.2.2.2)))))))))
def spec_l26Any.Γ (k : Nat) : Ct κ := assoc [(18, spec_l1Below.C k), (69, spec_l26Draw.C k), (46, spec_l9Raw.C k), (29, spec_l1Int.C k), (70, spec_l10Any.C k), (71, spec_l20Draw.C k), (72, spec_l13Any.C k), (73, spec_l21Any.C k)]
def spec_l26Any.LH (k : Nat) : Nat → Option (LHi κ) := assoc []
theorem spec_l26Any.hΓ (k : Nat) : ∀ f g, spec_l26Any.Γ k f = some g → CSound Tryz.prog f g := G_cons (spec_l1Below.ok k) (G_cons (spec_l26Draw.ok k) (G_cons (spec_l9Raw.ok k) (G_cons (spec_l1Int.ok k) (G_cons (spec_l10Any.ok k) (G_cons (spec_l20Draw.ok k) (G_cons (spec_l13Any.ok k) (G_cons (spec_l21Any.ok k) G_nil)))))))
theorem spec_l26Any.lok (k : Nat) : LOK ti (spec_l26Any.Γ k) (spec_l26Any.LH k) 2 (loopsOf (bodyOf Tryz.f38)) :=
  (show loopsOf (bodyOf Tryz.f38) = [] by kernel_rfl) ▸ LOK_nil
def spec_l26Any.sig : List PSh := [.cur 79 [.ro 0, .sc, .sc]]
def spec_l26Any.g (y : Int × Int × Int × Int × Int × Int × List T_impl_Grant × List T_impl_Flow × List T_impl_Rule × List T_impl_Op) : Ret κ := ⟨.agg [.int .i64 y.1, .int .i64 y.2.1, .int .i64 y.2.2.1, .sl 2, .sl 3, .sl 4, .sl 5, .int .i64 y.2.2.2.1], [.cells 79 [.sl 1, .int .i64 y.2.2.2.2.1, .int .i64 y.2.2.2.2.2.1]], [.rows 2 true y.2.2.2.2.2.2.1, .rows 3 true y.2.2.2.2.2.2.2.1, .rows 4 true y.2.2.2.2.2.2.2.2.1, .rows 1 true y.2.2.2.2.2.2.2.2.2]⟩
def spec_l26Any.out (r : Ret κ) : Option (Int × Int × Int × Int × Int × Int × List T_impl_Grant × List T_impl_Flow × List T_impl_Rule × List T_impl_Op) :=
  match r with
  | ⟨.agg [.int .i64 z0, .int .i64 z1, .int .i64 z2, .sl 2, .sl 3, .sl 4, .sl 5, .int .i64 z3], [.cells 79 [.sl 1, .int .i64 z4, .int .i64 z5]], [q6, q7, q8, q9]⟩ => (asO 2 true q6).bind fun z6 => (asO 3 true q7).bind fun z7 => (asO 4 true q8).bind fun z8 => (asO 1 true q9).bind fun z9 => some (z0, z1, z2, z3, z4, z5, z6, z7, z8, z9)
  | _ => none
theorem spec_l26Any.out_ok (r : Ret κ) (y : Int × Int × Int × Int × Int × Int × List T_impl_Grant × List T_impl_Flow × List T_impl_Rule × List T_impl_Op) (h : spec_l26Any.out r = some y) : r = spec_l26Any.g y := by
  unfold spec_l26Any.out at h
  split at h
  · obtain ⟨_, rfl, h_1⟩ := asO_bind h
    obtain ⟨_, rfl, h_2⟩ := asO_bind h_1
    obtain ⟨_, rfl, h_3⟩ := asO_bind h_2
    obtain ⟨_, rfl, h_4⟩ := asO_bind h_3
    obtain rfl := Option.some.inj h_4
    rfl
  · cases h
def spec_l26Any.body (k : Nat) (vs : List AV) (bs : List (Blk κ)) : Option (Lf κ) :=
  match vs, bs with
  | [.v (.ptr 0 0 0)], [.cells 79 [.sl 1, .int .i64 a0_1, .int .i64 a0_2], qb1] => (asO 0 false qb1).bind fun a0_0 => some ⟨Int × Int × Int × Int × Int × Int × List T_impl_Grant × List T_impl_Flow × List T_impl_Rule × List T_impl_Op, spec_l26Any.f k a0_0 a0_1 a0_2, spec_l26Any.g⟩
  | _, _ => none
def spec_l26Any.C (k : Nat) : Nat → List AV → AP κ AV := contract spec_l26Any.sig (spec_l26Any.body k)
theorem spec_l26Any.den (k : Nat) (a0_0 : List Int) (a0_1 : Int) (a0_2 : Int) : Code.den ti (spec_l26Any.Γ k) (spec_l26Any.LH k) (bodyOf Tryz.f38) (finK ti Tryz.f38.results.toList [(2, [none, none, none, some 2, some 3, some 4, some 1, none])] (flags spec_l26Any.sig).length (rwI (flags spec_l26Any.sig) 0) spec_l26Any.out) ⟨envOf (([.v (.ptr 0 0 0)]).zipIdx.map fun q => (q.2, q.1)), hpOf [.cells 79 [.sl 1, .int .i64 a0_1, .int .i64 a0_2], .rows 0 false a0_0], (flags spec_l26Any.sig).length⟩ = spec_l26Any.f k a0_0 a0_1 a0_2 := by kernel_rfl
theorem spec_l26Any.ok (k : Nat) : CSound Tryz.prog 38 (spec_l26Any.C k) :=
  csound κ_ok mixed tok (spec_l26Any.hΓ k) (LH := spec_l26Any.LH k) (fn := Tryz.f38) (c := bodyOf Tryz.f38) Tryz.func38 rfl Tryz.call38 spec_l26Any.sig [(2, [none, none, none, some 2, some 3, some 4, some 1, none])] (spec_l26Any.body k) (by kernel_rfl) (spec_l26Any.lok k) (by decide) fun vs bs lf y hl hb hy => by
    unfold spec_l26Any.body at hb
    split at hb
    · obtain ⟨_, rfl, hb_1⟩ := asO_bind hb
      obtain rfl := Option.some.inj hb_1
      exact ⟨spec_l26Any.out, spec_l26Any.out_ok, (spec_l26Any.den k _ _ _).trans hy⟩
    · cases hb
/-! ### spec_l24Less -/
def spec_l24Less.f (k : Nat) (a0_0 : Int) (a0_1 : Int) (a0_2 : Int) (a0_3 : Int) (a1_0 : Int) (a1_1 : Int) (a1_2 : Int) (a1_3 : Int) : Option Bool :=
  (bif decide (a0_0 < a1_0) then some true else (bif (a0_0 == a1_0) then some (decide (a0_1 < a1_1)) else some false))
def spec_l24Less.Γ (k : Nat) : Ct κ := assoc []
def spec_l24Less.LH (k : Nat) : Nat → Option (LHi κ) := assoc []
theorem spec_l24Less.hΓ (k : Nat) : ∀ f g, spec_l24Less.Γ k f = some g → CSound Tryz.prog f g := G_nil
theorem spec_l24Less.lok (k : Nat) : LOK ti (spec_l24Less.Γ k) (spec_l24Less.LH k) 0 (loopsOf (bodyOf Tryz.f75)) :=
  (show loopsOf (bodyOf Tryz.f75) = [] by kernel_rfl) ▸ LOK_nil
def spec_l24Less.sig : List PSh := [.agg [.sc, .sc, .sc, .sc], .agg [.sc, .sc, .sc, .sc]]
def spec_l24Less.g (y : Bool) : Ret κ := ⟨.v (.bool y), [], []⟩
def spec_l24Less.out (r : Ret κ) : Option Bool :=
  match r with
  | ⟨.v (.bool z0), [], []⟩ => some (z0)
  | _ => none
theorem spec_l24Less.out_ok (r : Ret κ) (y : Bool) (h : spec_l24Less.out r = some y) : r = spec_l24Less.g y := by
  unfold spec_l24Less.out at h
  split at h
  · obtain rfl := Option.some.inj h
    rfl
  · cases h
def spec_l24Less.body (k : Nat) (vs : List AV) (bs : List (Blk κ)) : Option (Lf κ) :=
  match vs, bs with
  | [.agg [.int .i64 a0_0, .int .i64 a0_1, .int .i64 a0_2, .int .i64 a0_3], .agg [.int .i64 a1_0, .int .i64 a1_1, .int .i64 a1_2, .int .i64 a1_3]], [] => some ⟨Bool, spec_l24Less.f k a0_0 a0_1 a0_2 a0_3 a1_0 a1_1 a1_2 a1_3, spec_l24Less.g⟩
  | _, _ => none
def spec_l24Less.C (k : Nat) : Nat → List AV → AP κ AV := contract spec_l24Less.sig (spec_l24Less.body k)
theorem spec_l24Less.den (k : Nat) (a0_0 : Int) (a0_1 : Int) (a0_2 : Int) (a0_3 : Int) (a1_0 : Int) (a1_1 : Int) (a1_2 : Int) (a1_3 : Int) : Code.den ti (spec_l24Less.Γ k) (spec_l24Less.LH k) (bodyOf Tryz.f75) (finK ti Tryz.f75.results.toList [] (flags spec_l24Less.sig).length (rwI (flags spec_l24Less.sig) 0) spec_l24Less.out) ⟨envOf (([.agg [.int .i64 a0_0, .int .i64 a0_1, .int .i64 a0_2, .int .i64 a0_3], .agg [.int .i64 a1_0, .int .i64 a1_1, .int .i64 a1_2, .int .i64 a1_3]]).zipIdx.map fun q => (q.2, q.1)), hpOf [], (flags spec_l24Less.sig).length⟩ = spec_l24Less.f k a0_0 a0_1 a0_2 a0_3 a1_0 a1_1 a1_2 a1_3 := by kernel_rfl
theorem spec_l24Less.ok (k : Nat) : CSound Tryz.prog 75 (spec_l24Less.C k) :=
  csound κ_ok mixed tok (spec_l24Less.hΓ k) (LH := spec_l24Less.LH k) (fn := Tryz.f75) (c := bodyOf Tryz.f75) Tryz.func75 rfl Tryz.call75 spec_l24Less.sig [] (spec_l24Less.body k) (by kernel_rfl) (spec_l24Less.lok k) (by decide) fun vs bs lf y hl hb hy => by
    unfold spec_l24Less.body at hb
    split at hb
    · obtain rfl := Option.some.inj hb
      exact ⟨spec_l24Less.out, spec_l24Less.out_ok, (spec_l24Less.den k _ _ _ _ _ _ _ _).trans hy⟩
    · cases hb
/-! ### spec_IsStore -/
def spec_IsStore.L2 {R : Type} (k : Nat) (xl0 : List T_impl_Stored) (X0 : Bool → Option R) (X1 : Unit → Option R) (rec : Int → Option R) (x1 : Int) : Option R :=
  (bif decide (x1 < (xl0.length : Int)) then (bif decide (0 ≤ x1) then (bif decide (x1 < (xl0.length : Int)) then (spec_l1In.f k ((rd_impl_Stored xl0 x1).f0) (1 : Int) (5 : Int)).bind fun t1 => (bif !t1 then (X0 false) else (spec_l1In.f k ((rd_impl_Stored xl0 x1).f1) (0 : Int) (9 : Int)).bind fun t2 => (bif !t2 then (X0 false) else (spec_l1In.f k ((rd_impl_Stored xl0 x1).f2) (0 : Int) (999 : Int)).bind fun t3 => (bif !t3 then (X0 false) else (spec_l1In.f k ((rd_impl_Stored xl0 x1).f3) (1 : Int) (999 : Int)).bind fun t4 => (bif !t4 then (X0 false) else (bif decide (x1 > (0 : Int)) then (bif decide (0 ≤ (w64 (x1 - (1 : Int)))) then (bif decide ((w64 (x1 - (1 : Int))) < (xl0.length : Int)) then (spec_l24Less.f k ((rd_impl_Stored xl0 (w64 (x1 - (1 : Int)))).f0) ((rd_impl_Stored xl0 (w64 (x1 - (1 : Int)))).f1) ((rd_impl_Stored xl0 (w64 (x1 - (1 : Int)))).f2) ((rd_impl_Stored xl0 (w64 (x1 - (1 : Int)))).f3) ((rd_impl_Stored xl0 x1).f0) ((rd_impl_Stored xl0 x1).f1) ((rd_impl_Stored xl0 x1).f2) ((rd_impl_Stored xl0 x1).f3)).bind fun t5 => (bif !t5 then (X0 false) else (rec (w64 (x1 + (1 : Int))))) else none) else none) else (rec (w64 (x1 + (1 : Int))))))))) else none) else none) else (X1 ()))
def spec_IsStore.l2 {R : Type} (k : Nat) (xl0 : List T_impl_Stored) (X0 : Bool → Option R) (X1 : Unit → Option R) : Nat → Int → Option R
  | 0 => fun _ => none
  | n + 1 => spec_IsStore.L2 k xl0 X0 X1 (spec_IsStore.l2 k xl0 X0 X1 n)
def spec_IsStore.f (k : Nat) (a0 : List T_impl_Stored) : Option Bool :=
  (spec_IsStore.l2 k a0 (fun (y6 : Bool) => some y6) (fun (_ : Unit) => some (decide ((a0.length : Int) ≤ (24 : Int)))) k (0 : Int))
def spec_IsStore.h2 (k : Nat) {R : Type} (K : Ex → St κ → Option R) (vs : List AV) (bs : List (Blk κ)) : Option R :=
  match vs, bs with
  | [.v (.sl 0), .v (.int .i64 x1)], [qb0] => (asO 6 false qb0).bind fun xl0 => spec_IsStore.l2 k xl0 (fun (z1 : Bool) => K .ret (stOf [(0, [some 6]), (2, [])] [.v (.sl 0), .v (.bool z1)] [.rows 6 false xl0])) (fun (_ : Unit) => K (.exit 0) (stOf [(0, [some 6]), (2, [])] [.v (.sl 0), .v .any] [.rows 6 false xl0])) k x1
  | _, _ => none
def spec_IsStore.Γ (k : Nat) : Ct κ := assoc [(74, spec_l1In.C k), (75, spec_l24Less.C k)]
def spec_IsStore.LH (k : Nat) : Nat → Option (LHi κ) := assoc [(2, ⟨1, [(0, [some 6]), (3, [])], [(0, [some 6]), (2, [])], @spec_IsStore.h2 k⟩)]
theorem spec_IsStore.hΓ (k : Nat) : ∀ f g, spec_IsStore.Γ k f = some g → CSound Tryz.prog f g := G_cons (spec_l1In.ok k) (G_cons (spec_l24Less.ok k) G_nil)
theorem spec_IsStore.e2 {R : Type} (K : Ex → St κ → Option R) (k : Nat) (xl0 : List T_impl_Stored) : ∀ (n : Nat) (x1 : Int), loopN 1 (Code.den ti (spec_IsStore.Γ k) (spec_IsStore.LH k) (loopAt Tryz.f42 0)) [(0, [some 6]), (3, [])] [(0, [some 6]), (2, [])] K n [.v (.sl 0), .v (.int .i64 x1)] [.rows 6 false xl0] = spec_IsStore.l2 k xl0 (fun (z1 : Bool) => K .ret (stOf [(0, [some 6]), (2, [])] [.v (.sl 0), .v (.bool z1)] [.rows 6 false xl0])) (fun (_ : Unit) => K (.exit 0) (stOf [(0, [some 6]), (2, [])] [.v (.sl 0), .v .any] [.rows 6 false xl0])) n x1
  | 0, _ => rfl
  | n + 1, x1 => (show loopN 1 (Code.den ti (spec_IsStore.Γ k) (spec_IsStore.LH k) (loopAt Tryz.f42 0)) [(0, [some 6]), (3, [])] [(0, [some 6]), (2, [])] K (n + 1) [.v (.sl 0), .v (.int .i64 x1)] [.rows 6 false xl0] = spec_IsStore.L2 k xl0 (fun (z1 : Bool) => K .ret (stOf [(0, [some 6]), (2, [])] [.v (.sl 0), .v (.bool z1)] [.rows 6 false xl0])) (fun (_ : Unit) => K (.exit 0) (stOf [(0, [some 6]), (2, [])] [.v (.sl 0), .v .any] [.rows 6 false xl0])) (fun (x1' : Int) => loopN 1 (Code.den ti (spec_IsStore.Γ k) (spec_IsStore.LH k) (loopAt Tryz.f42 0)) [(0, [some 6]), (3, [])] [(0, [some 6]), (2, [])] K n [.v (.sl 0), .v (.int .i64 x1')] [.rows 6 false xl0]) x1 by kernel_rfl).trans (congrArg (fun rec => spec_IsStore.L2 k xl0 (fun (z1 : Bool) => K .ret (stOf [(0, [some 6]), (2, [])] [.v (.sl 0), .v (.bool z1)] [.rows 6 false xl0])) (fun (_ : Unit) => K (.exit 0) (stOf [(0, [some 6]), (2, [])] [.v (.sl 0), .v .any] [.rows 6 false xl0])) rec x1) (funext fun x1' => spec_IsStore.e2 K k xl0 n x1'))
theorem spec_IsStore.q2 (k : Nat) {R : Type} (K : Ex → St κ → Option R) (vs : List AV) (bs : List (Blk κ)) (r : R) (h : spec_IsStore.h2 k K vs bs = some r) : ∃ n, loopN 1 (Code.den ti (spec_IsStore.Γ k) (spec_IsStore.LH k) (loopAt Tryz.f42 0)) [(0, [some 6]), (3, [])] [(0, [some 6]), (2, [])] K n vs bs = some r := by
  unfold spec_IsStore.h2 at h
  split at h
  · obtain ⟨_, rfl, h_1⟩ := asO_bind h
    exact ⟨k, (spec_IsStore.e2 K k _ k _).trans h_1⟩
  · cases h
theorem spec_IsStore.lok (k : Nat) : LOK ti (spec_IsStore.Γ k) (spec_IsStore.LH k) 1 (loopsOf (bodyOf Tryz.f42)) :=
  (show loopsOf (bodyOf Tryz.f42) = [loopAt Tryz.f42 0] by kernel_rfl) ▸ (LOK_cons (g := ⟨1, [(0, [some 6]), (3, [])], [(0, [some 6]), (2, [])], @spec_IsStore.h2 k⟩) (by kernel_rfl) rfl (fun K vs xs r h => spec_IsStore.q2 k K vs xs r h) (LOK_nil))
def spec_IsStore.sig : List PSh := [.one (.ro 6)]
def spec_IsStore.g (y : Bool) : Ret κ := ⟨.v (.bool y), [], []⟩
def spec_IsStore.out (r : Ret κ) : Option Bool :=
  match r with
  | ⟨.v (.bool z0), [], []⟩ => some (z0)
  | _ => none
theorem spec_IsStore.out_ok (r : Ret κ) (y : Bool) (h : spec_IsStore.out r = some y) : r = spec_IsStore.g y := by
  unfold spec_IsStore.out at h
  split at h
  · obtain rfl := Option.some.inj h
    rfl
  · cases h
def spec_IsStore.body (k : Nat) (vs : List AV) (bs : List (Blk κ)) : Option (Lf κ) :=
  match vs, bs with
  | [.v (.sl 0)], [qb0] => (asO 6 false qb0).bind fun a0 => some ⟨Bool, spec_IsStore.f k a0, spec_IsStore.g⟩
  | _, _ => none
def spec_IsStore.C (k : Nat) : Nat → List AV → AP κ AV := contract spec_IsStore.sig (spec_IsStore.body k)
theorem spec_IsStore.den (k : Nat) (a0 : List T_impl_Stored) : Code.den ti (spec_IsStore.Γ k) (spec_IsStore.LH k) (bodyOf Tryz.f42) (finK ti Tryz.f42.results.toList [] (flags spec_IsStore.sig).length (rwI (flags spec_IsStore.sig) 0) spec_IsStore.out) ⟨envOf (([.v (.sl 0)]).zipIdx.map fun q => (q.2, q.1)), hpOf [.rows 6 false a0], (flags spec_IsStore.sig).length⟩ = spec_IsStore.f k a0 := by kernel_rfl
theorem spec_IsStore.ok (k : Nat) : CSound Tryz.prog 42 (spec_IsStore.C k) :=
  csound κ_ok mixed tok (spec_IsStore.hΓ k) (LH := spec_IsStore.LH k) (fn := Tryz.f42) (c := bodyOf Tryz.f42) Tryz.func42 rfl Tryz.call42 spec_IsStore.sig [] (spec_IsStore.body k) (by kernel_rfl) (spec_IsStore.lok k) (by decide) fun vs bs lf y hl hb hy => by
    unfold spec_IsStore.body at hb
    split at hb
    · obtain ⟨_, rfl, hb_1⟩ := asO_bind hb
      obtain rfl := Option.some.inj hb_1
      exact ⟨spec_IsStore.out, spec_IsStore.out_ok, (spec_IsStore.den k _).trans hy⟩
    · cases hb
/-! ### spec_l24Find -/
def spec_l24Find.L2 {R : Type} (k : Nat) (x1 : Int) (x2 : Int) (xl0 : List T_impl_Stored) (X0 : Int → Option R) (X1 : Unit → Option R) (rec : Int → Option R) (x3 : Int) : Option R :=
  (bif decide (x3 < (xl0.length : Int)) then (bif decide (0 ≤ x3) then (bif decide (x3 < (xl0.length : Int)) then (bif ((rd_impl_Stored xl0 x3).f0 == x1) then (bif decide (0 ≤ x3) then (bif decide (x3 < (xl0.length : Int)) then (bif ((rd_impl_Stored xl0 x3).f1 == x2) then (X0 x3) else (rec (w64 (x3 + (1 : Int))))) else none) else none) else (rec (w64 (x3 + (1 : Int))))) else none) else none) else (X1 ()))
def spec_l24Find.l2 {R : Type} (k : Nat) (x1 : Int) (x2 : Int) (xl0 : List T_impl_Stored) (X0 : Int → Option R) (X1 : Unit → Option R) : Nat → Int → Option R
  | 0 => fun _ => none
  | n + 1 => spec_l24Find.L2 k x1 x2 xl0 X0 X1 (spec_l24Find.l2 k x1 x2 xl0 X0 X1 n)
def spec_l24Find.f (k : Nat) (a0 : List T_impl_Stored) (a1 : Int) (a2 : Int) : Option Int :=
  (spec_l24Find.l2 k a1 a2 a0 (fun (y1 : Int) => some y1) (fun (_ : Unit) => some (-1 : Int)) k (0 : Int))
def spec_l24Find.h2 (k : Nat) {R : Type} (K : Ex → St κ → Option R) (vs : List AV) (bs : List (Blk κ)) : Option R :=
  match vs, bs with
  | [.v (.sl 0), .v (.int .i64 x1), .v (.int .i64 x2), .v (.int .i64 x3)], [qb0] => (asO 6 false qb0).bind fun xl0 => spec_l24Find.l2 k x1 x2 xl0 (fun (z0 : Int) => K .ret (stOf [(6, [])] [.v (.int .i64 z0)] [.rows 6 false xl0])) (fun (_ : Unit) => K (.exit 0) (stOf [(6, [])] [.v .any] [.rows 6 false xl0])) k x3
  | _, _ => none
def spec_l24Find.Γ (k : Nat) : Ct κ := assoc []
def spec_l24Find.LH (k : Nat) : Nat → Option (LHi κ) := assoc [(2, ⟨1, [(0, [some 6]), (1, []), (2, []), (7, [])], [(6, [])], @spec_l24Find.h2 k⟩)]
theorem spec_l24Find.hΓ (k : Nat) : ∀ f g, spec_l24Find.Γ k f = some g → CSound Tryz.prog f g := G_nil
theorem spec_l24Find.e2 {R : Type} (K : Ex → St κ → Option R) (k : Nat) (x1 : Int) (x2 : Int) (xl0 : List T_impl_Stored) : ∀ (n : Nat) (x3 : Int), loopN 1 (Code.den ti (spec_l24Find.Γ k) (spec_l24Find.LH k) (loopAt Tryz.f43 0)) [(0, [some 6]), (1, []), (2, []), (7, [])] [(6, [])] K n [.v (.sl 0), .v (.int .i64 x1), .v (.int .i64 x2), .v (.int .i64 x3)] [.rows 6 false xl0] = spec_l24Find.l2 k x1 x2 xl0 (fun (z0 : Int) => K .ret (stOf [(6, [])] [.v (.int .i64 z0)] [.rows 6 false xl0])) (fun (_ : Unit) => K (.exit 0) (stOf [(6, [])] [.v .any] [.rows 6 false xl0])) n x3
  | 0, _ => rfl
  | n + 1, x3 => (show loopN 1 (Code.den ti (spec_l24Find.Γ k) (spec_l24Find.LH k) (loopAt Tryz.f43 0)) [(0, [some 6]), (1, []), (2, []), (7, [])] [(6, [])] K (n + 1) [.v (.sl 0), .v (.int .i64 x1), .v (.int .i64 x2), .v (.int .i64 x3)] [.rows 6 false xl0] = spec_l24Find.L2 k x1 x2 xl0 (fun (z0 : Int) => K .ret (stOf [(6, [])] [.v (.int .i64 z0)] [.rows 6 false xl0])) (fun (_ : Unit) => K (.exit 0) (stOf [(6, [])] [.v .any] [.rows 6 false xl0])) (fun (x3' : Int) => loopN 1 (Code.den ti (spec_l24Find.Γ k) (spec_l24Find.LH k) (loopAt Tryz.f43 0)) [(0, [some 6]), (1, []), (2, []), (7, [])] [(6, [])] K n [.v (.sl 0), .v (.int .i64 x1), .v (.int .i64 x2), .v (.int .i64 x3')] [.rows 6 false xl0]) x3 by kernel_rfl).trans (congrArg (fun rec => spec_l24Find.L2 k x1 x2 xl0 (fun (z0 : Int) => K .ret (stOf [(6, [])] [.v (.int .i64 z0)] [.rows 6 false xl0])) (fun (_ : Unit) => K (.exit 0) (stOf [(6, [])] [.v .any] [.rows 6 false xl0])) rec x3) (funext fun x3' => spec_l24Find.e2 K k x1 x2 xl0 n x3'))
theorem spec_l24Find.q2 (k : Nat) {R : Type} (K : Ex → St κ → Option R) (vs : List AV) (bs : List (Blk κ)) (r : R) (h : spec_l24Find.h2 k K vs bs = some r) : ∃ n, loopN 1 (Code.den ti (spec_l24Find.Γ k) (spec_l24Find.LH k) (loopAt Tryz.f43 0)) [(0, [some 6]), (1, []), (2, []), (7, [])] [(6, [])] K n vs bs = some r := by
  unfold spec_l24Find.h2 at h
  split at h
  · obtain ⟨_, rfl, h_1⟩ := asO_bind h
    exact ⟨k, (spec_l24Find.e2 K k _ _ _ k _).trans h_1⟩
  · cases h
theorem spec_l24Find.lok (k : Nat) : LOK ti (spec_l24Find.Γ k) (spec_l24Find.LH k) 1 (loopsOf (bodyOf Tryz.f43)) :=
  (show loopsOf (bodyOf Tryz.f43) = [loopAt Tryz.f43 0] by kernel_rfl) ▸ (LOK_cons (g := ⟨1, [(0, [some 6]), (1, []), (2, []), (7, [])], [(6, [])], @spec_l24Find.h2 k⟩) (by kernel_rfl) rfl (fun K vs xs r h => spec_l24Find.q2 k K vs xs r h) (LOK_nil))
def spec_l24Find.sig : List PSh := [.one (.ro 6), .one .sc, .one .sc]
def spec_l24Find.g (y : Int) : Ret κ := ⟨.v (.int .i64 y), [], []⟩
def spec_l24Find.out (r : Ret κ) : Option Int :=
  match r with
  | ⟨.v (.int .i64 z0), [], []⟩ => some (z0)
  | _ => none
theorem spec_l24Find.out_ok (r : Ret κ) (y : Int) (h : spec_l24Find.out r = some y) : r = spec_l24Find.g y := by
  unfold spec_l24Find.out at h
  split at h
  · obtain rfl := Option.some.inj h
    rfl
  · cases h
def spec_l24Find.body (k : Nat) (vs : List AV) (bs : List (Blk κ)) : Option (Lf κ) :=
  match vs, bs with
  | [.v (.sl 0), .v (.int .i64 a1), .v (.int .i64 a2)], [qb0] => (asO 6 false qb0).bind fun a0 => some ⟨Int, spec_l24Find.f k a0 a1 a2, spec_l24Find.g⟩
  | _, _ => none
def spec_l24Find.C (k : Nat) : Nat → List AV → AP κ AV := contract spec_l24Find.sig (spec_l24Find.body k)
theorem spec_l24Find.den (k : Nat) (a0 : List T_impl_Stored) (a1 : Int) (a2 : Int) : Code.den ti (spec_l24Find.Γ k) (spec_l24Find.LH k) (bodyOf Tryz.f43) (finK ti Tryz.f43.results.toList [] (flags spec_l24Find.sig).length (rwI (flags spec_l24Find.sig) 0) spec_l24Find.out) ⟨envOf (([.v (.sl 0), .v (.int .i64 a1), .v (.int .i64 a2)]).zipIdx.map fun q => (q.2, q.1)), hpOf [.rows 6 false a0], (flags spec_l24Find.sig).length⟩ = spec_l24Find.f k a0 a1 a2 := by kernel_rfl
theorem spec_l24Find.ok (k : Nat) : CSound Tryz.prog 43 (spec_l24Find.C k) :=
  csound κ_ok mixed tok (spec_l24Find.hΓ k) (LH := spec_l24Find.LH k) (fn := Tryz.f43) (c := bodyOf Tryz.f43) Tryz.func43 rfl Tryz.call43 spec_l24Find.sig [] (spec_l24Find.body k) (by kernel_rfl) (spec_l24Find.lok k) (by decide) fun vs bs lf y hl hb hy => by
    unfold spec_l24Find.body at hb
    split at hb
    · obtain ⟨_, rfl, hb_1⟩ := asO_bind hb
      obtain rfl := Option.some.inj hb_1
      exact ⟨spec_l24Find.out, spec_l24Find.out_ok, (spec_l24Find.den k _ _ _).trans hy⟩
    · cases hb
/-! ### spec_l24Set -/
def spec_l24Set.L3 {R : Type} (k : Nat) (xl0 : List T_impl_Stored) (xc1_0 : Int) (xc1_1 : Int) (xc1_2 : Int) (xc1_3 : Int) (X0 : Int → List T_impl_Stored → Option R) (rec : Int → List T_impl_Stored → Option R) (x3 : Int) (xl2 : List T_impl_Stored) : Option R :=
  (bif decide (x3 < (xl0.length : Int)) then (bif decide (0 ≤ x3) then (bif decide (x3 < (xl0.length : Int)) then (spec_l24Less.f k ((rd_impl_Stored xl0 x3).f0) ((rd_impl_Stored xl0 x3).f1) ((rd_impl_Stored xl0 x3).f2) ((rd_impl_Stored xl0 x3).f3) xc1_0 xc1_1 xc1_2 xc1_3).bind fun t1 => (bif t1 then (bif decide (0 ≤ x3) then (bif decide (x3 < (xl0.length : Int)) then (bif decide ((xl2.length + ([(⟨(rd_impl_Stored xl0 x3).f0, (rd_impl_Stored xl0 x3).f1, (rd_impl_Stored xl0 x3).f2, (rd_impl_Stored xl0 x3).f3⟩ : T_impl_Stored)] : List T_impl_Stored).length) * 32 ≤ cap48) then (let l2 : List T_impl_Stored := (xl2 ++ ([(⟨(rd_impl_Stored xl0 x3).f0, (rd_impl_Stored xl0 x3).f1, (rd_impl_Stored xl0 x3).f2, (rd_impl_Stored xl0 x3).f3⟩ : T_impl_Stored)] : List T_impl_Stored)); (rec (w64 (x3 + (1 : Int))) l2)) else none) else none) else none) else (X0 x3 xl2)) else none) else none) else (X0 x3 xl2))
def spec_l24Set.l3 {R : Type} (k : Nat) (xl0 : List T_impl_Stored) (xc1_0 : Int) (xc1_1 : Int) (xc1_2 : Int) (xc1_3 : Int) (X0 : Int → List T_impl_Stored → Option R) : Nat → Int → List T_impl_Stored → Option R
  | 0 => fun _ _ => none
  | n + 1 => spec_l24Set.L3 k xl0 xc1_0 xc1_1 xc1_2 xc1_3 X0 (spec_l24Set.l3 k xl0 xc1_0 xc1_1 xc1_2 xc1_3 X0 n)
def spec_l24Set.f (k : Nat) (a0 : List T_impl_Stored) (a1_0 : Int) (a1_1 : Int) (a1_2 : Int) (a1_3 : Int) : Option (List T_impl_Stored) :=
  (spec_l24Set.l3 k a0 a1_0 a1_1 a1_2 a1_3 (fun (y3 : Int) (y4 : List T_impl_Stored) => (bif decide ((y4.length + ([(⟨a1_0, a1_1, a1_2, a1_3⟩ : T_impl_Stored)] : List T_impl_Stored).length) * 32 ≤ cap48) then (let l5 : List T_impl_Stored := (y4 ++ ([(⟨a1_0, a1_1, a1_2, a1_3⟩ : T_impl_Stored)] : List T_impl_Stored)); (bif decide (y3 < (a0.length : Int)) then (bif decide (0 ≤ y3) then (bif decide (y3 < (a0.length : Int)) then (spec_l24Less.f k a1_0 a1_1 a1_2 a1_3 ((rd_impl_Stored a0 y3).f0) ((rd_impl_Stored a0 y3).f1) ((rd_impl_Stored a0 y3).f2) ((rd_impl_Stored a0 y3).f3)).bind fun t6 => (bif !t6 then (bif decide (0 ≤ (a0.length : Int)) then (bif decide ((a0.length : Int) ≤ (a0.length : Int)) then (bif decide (0 ≤ (w64 (y3 + (1 : Int)))) then (bif decide ((w64 (y3 + (1 : Int))) ≤ (a0.length : Int)) then (bif decide ((l5.length + ((a0.take ((a0.length : Int)).toNat).drop ((w64 (y3 + (1 : Int)))).toNat).length) * 32 ≤ cap48) then (let l7 : List T_impl_Stored := (l5 ++ ((a0.take ((a0.length : Int)).toNat).drop ((w64 (y3 + (1 : Int)))).toNat)); some l7) else none) else none) else none) else none) else none) else (bif decide (0 ≤ (a0.length : Int)) then (bif decide ((a0.length : Int) ≤ (a0.length : Int)) then (bif decide (0 ≤ y3) then (bif decide (y3 ≤ (a0.length : Int)) then (bif decide ((l5.length + ((a0.take ((a0.length : Int)).toNat).drop (y3).toNat).length) * 32 ≤ cap48) then (let l8 : List T_impl_Stored := (l5 ++ ((a0.take ((a0.length : Int)).toNat).drop (y3).toNat)); some l8) else none) else none) else none) else none) else none)) else none) else none) else (bif decide (0 ≤ (a0.length : Int)) then (bif decide ((a0.length : Int) ≤ (a0.length : Int)) then (bif decide (0 ≤ y3) then (bif decide (y3 ≤ (a0.length : Int)) then (bif decide ((l5.length + ((a0.take ((a0.length : Int)).toNat).drop (y3).toNat).length) * 32 ≤ cap48) then (let l9 : List T_impl_Stored := (l5 ++ ((a0.take ((a0.length : Int)).toNat).drop (y3).toNat)); some l9) else none) else none) else none) else none) else none))) else none)) k (0 : Int) ([] : List T_impl_Stored))
def spec_l24Set.h3 (k : Nat) {R : Type} (K : Ex → St κ → Option R) (vs : List AV) (bs : List (Blk κ)) : Option R :=
  match vs, bs with
  | [.v (.sl 0), .v (.ptr 1 0 0), .v (.sl 2), .v (.int .i64 x3)], [qb0, .cells 56 [.int .i64 xc1_0, .int .i64 xc1_1, .int .i64 xc1_2, .int .i64 xc1_3], qb2] => (asO 6 false qb0).bind fun xl0 => (asO 6 true qb2).bind fun xl2 => spec_l24Set.l3 k xl0 xc1_0 xc1_1 xc1_2 xc1_3 (fun (z3 : Int) (zl2 : List T_impl_Stored) => K (.exit 0) (stOf [(0, [some 6]), (3, []), (5, [some 6]), (6, [])] [.v (.sl 0), .v (.ptr 1 0 0), .v (.sl 2), .v (.int .i64 z3)] [.rows 6 false xl0, .cells 56 [.int .i64 xc1_0, .int .i64 xc1_1, .int .i64 xc1_2, .int .i64 xc1_3], .rows 6 true zl2])) k x3 xl2
  | _, _ => none
def spec_l24Set.Γ (k : Nat) : Ct κ := assoc [(75, spec_l24Less.C k)]
def spec_l24Set.LH (k : Nat) : Nat → Option (LHi κ) := assoc [(3, ⟨1, [(0, [some 6]), (3, []), (5, [some 6]), (6, [])], [(0, [some 6]), (3, []), (5, [some 6]), (6, [])], @spec_l24Set.h3 k⟩)]
theorem spec_l24Set.hΓ (k : Nat) : ∀ f g, spec_l24Set.Γ k f = some g → CSound Tryz.prog f g := G_cons (spec_l24Less.ok k) G_nil
theorem spec_l24Set.e3 {R : Type} (K : Ex → St κ → Option R) (k : Nat) (xl0 : List T_impl_Stored) (xc1_0 : Int) (xc1_1 : Int) (xc1_2 : Int) (xc1_3 : Int) : ∀ (n : Nat) (x3 : Int) (xl2 : List T_impl_Stored), loopN 1 (Code.den ti (spec_l24Set.Γ k) (spec_l24Set.LH k) (loopAt Tryz.f44 0)) [(0, [some 6]), (3, []), (5, [some 6]), (6, [])] [(0, [some 6]), (3, []), (5, [some 6]), (6, [])] K n [.v (.sl 0), .v (.ptr 1 0 0), .v (.sl 2), .v (.int .i64 x3)] [.rows 6 false xl0, .cells 56 [.int .i64 xc1_0, .int .i64 xc1_1, .int .i64 xc1_2, .int .i64 xc1_3], .rows 6 true xl2] = spec_l24Set.l3 k xl0 xc1_0 xc1_1 xc1_2 xc1_3 (fun (z3 : Int) (zl2 : List T_impl_Stored) => K (.exit 0) (stOf [(0, [some 6]), (3, []), (5, [some 6]), (6, [])] [.v (.sl 0), .v (.ptr 1 0 0), .v (.sl 2), .v (.int .i64 z3)] [.rows 6 false xl0, .cells 56 [.int .i64 xc1_0, .int .i64 xc1_1, .int .i64 xc1_2, .int .i64 xc1_3], .rows 6 true zl2])) n x3 xl2
  | 0, _, _ => rfl
  | n + 1, x3, xl2 => (show loopN 1 (Code.den ti (spec_l24Set.Γ k) (spec_l24Set.LH k) (loopAt Tryz.f44 0)) [(0, [some 6]), (3, []), (5, [some 6]), (6, [])] [(0, [some 6]), (3, []), (5, [some 6]), (6, [])] K (n + 1) [.v (.sl 0), .v (.ptr 1 0 0), .v (.sl 2), .v (.int .i64 x3)] [.rows 6 false xl0, .cells 56 [.int .i64 xc1_0, .int .i64 xc1_1, .int .i64 xc1_2, .int .i64 xc1_3], .rows 6 true xl2] = spec_l24Set.L3 k xl0 xc1_0 xc1_1 xc1_2 xc1_3 (fun (z3 : Int) (zl2 : List T_impl_Stored) => K (.exit 0) (stOf [(0, [some 6]), (3, []), (5, [some 6]), (6, [])] [.v (.sl 0), .v (.ptr 1 0 0), .v (.sl 2), .v (.int .i64 z3)] [.rows 6 false xl0, .cells 56 [.int .i64 xc1_0, .int .i64 xc1_1, .int .i64 xc1_2, .int .i64 xc1_3], .rows 6 true zl2])) (fun (x3' : Int) (xl2' : List T_impl_Stored) => loopN 1 (Code.den ti (spec_l24Set.Γ k) (spec_l24Set.LH k) (loopAt Tryz.f44 0)) [(0, [some 6]), (3, []), (5, [some 6]), (6, [])] [(0, [some 6]), (3, []), (5, [some 6]), (6, [])] K n [.v (.sl 0), .v (.ptr 1 0 0), .v (.sl 2), .v (.int .i64 x3')] [.rows 6 false xl0, .cells 56 [.int .i64 xc1_0, .int .i64 xc1_1, .int .i64 xc1_2, .int .i64 xc1_3], .rows 6 true xl2']) x3 xl2 by kernel_rfl).trans (congrArg (fun rec => spec_l24Set.L3 k xl0 xc1_0 xc1_1 xc1_2 xc1_3 (fun (z3 : Int) (zl2 : List T_impl_Stored) => K (.exit 0) (stOf [(0, [some 6]), (3, []), (5, [some 6]), (6, [])] [.v (.sl 0), .v (.ptr 1 0 0), .v (.sl 2), .v (.int .i64 z3)] [.rows 6 false xl0, .cells 56 [.int .i64 xc1_0, .int .i64 xc1_1, .int .i64 xc1_2, .int .i64 xc1_3], .rows 6 true zl2])) rec x3 xl2) (funext fun x3' => funext fun xl2' => spec_l24Set.e3 K k xl0 xc1_0 xc1_1 xc1_2 xc1_3 n x3' xl2'))
theorem spec_l24Set.q3 (k : Nat) {R : Type} (K : Ex → St κ → Option R) (vs : List AV) (bs : List (Blk κ)) (r : R) (h : spec_l24Set.h3 k K vs bs = some r) : ∃ n, loopN 1 (Code.den ti (spec_l24Set.Γ k) (spec_l24Set.LH k) (loopAt Tryz.f44 0)) [(0, [some 6]), (3, []), (5, [some 6]), (6, [])] [(0, [some 6]), (3, []), (5, [some 6]), (6, [])] K n vs bs = some r := by
  unfold spec_l24Set.h3 at h
  split at h
  · obtain ⟨_, rfl, h_1⟩ := asO_bind h
    obtain ⟨_, rfl, h_2⟩ := asO_bind h_1
    exact ⟨k, (spec_l24Set.e3 K k _ _ _ _ _ k _ _).trans h_2⟩
  · cases h
theorem spec_l24Set.lok (k : Nat) : LOK ti (spec_l24Set.Γ k) (spec_l24Set.LH k) 1 (loopsOf (bodyOf Tryz.f44)) :=
  (show loopsOf (bodyOf Tryz.f44) = [loopAt Tryz.f44 0] by kernel_rfl) ▸ (LOK_cons (g := ⟨1, [(0, [some 6]), (3, []), (5, [some 6]), (6, [])], [(0, [some 6]), (3, []), (5, [some 6]), (6, [])], @spec_l24Set.h3 k⟩) (by kernel_rfl) rfl (fun K vs xs r h => spec_l24Set.q3 k K vs xs r h) (LOK_nil))
def spec_l24Set.sig : List PSh := [.one (.ro 6), .agg [.sc, .sc, .sc, .sc]]
def spec_l24Set.g (y : List T_impl_Stored) : Ret κ := ⟨.v (.sl 1), [], [.rows 6 true y]⟩
def spec_l24Set.out (r : Ret κ) : Option (List T_impl_Stored) :=
  match r with
  | ⟨.v (.sl 1), [], [q0]⟩ => (asO 6 true q0).bind fun z0 => some (z0)
  | _ => none
theorem spec_l24Set.out_ok (r : Ret κ) (y : List T_impl_Stored) (h : spec_l24Set.out r = some y) : r = spec_l24Set.g y := by
  unfold spec_l24Set.out at h
  split at h
  · obtain ⟨_, rfl, h_1⟩ := asO_bind h
    obtain rfl := Option.some.inj h_1
    rfl
  · cases h
def spec_l24Set.body (k : Nat) (vs : List AV) (bs : List (Blk κ)) : Option (Lf κ) :=
  match vs, bs with
  | [.v (.sl 0), .agg [.int .i64 a1_0, .int .i64 a1_1, .int .i64 a1_2, .int .i64 a1_3]], [qb0] => (asO 6 false qb0).bind fun a0 => some ⟨List T_impl_Stored, spec_l24Set.f k a0 a1_0 a1_1 a1_2 a1_3, spec_l24Set.g⟩
  | _, _ => none
def spec_l24Set.C (k : Nat) : Nat → List AV → AP κ AV := contract spec_l24Set.sig (spec_l24Set.body k)
theorem spec_l24Set.den (k : Nat) (a0 : List T_impl_Stored) (a1_0 : Int) (a1_1 : Int) (a1_2 : Int) (a1_3 : Int) : Code.den ti (spec_l24Set.Γ k) (spec_l24Set.LH k) (bodyOf Tryz.f44) (finK ti Tryz.f44.results.toList [(4, [some 6])] (flags spec_l24Set.sig).length (rwI (flags spec_l24Set.sig) 0) spec_l24Set.out) ⟨envOf (([.v (.sl 0), .agg [.int .i64 a1_0, .int .i64 a1_1, .int .i64 a1_2, .int .i64 a1_3]]).zipIdx.map fun q => (q.2, q.1)), hpOf [.rows 6 false a0], (flags spec_l24Set.sig).length⟩ = spec_l24Set.f k a0 a1_0 a1_1 a1_2 a1_3 := by kernel_rfl
theorem spec_l24Set.ok (k : Nat) : CSound Tryz.prog 44 (spec_l24Set.C k) :=
  csound κ_ok mixed tok (spec_l24Set.hΓ k) (LH := spec_l24Set.LH k) (fn := Tryz.f44) (c := bodyOf Tryz.f44) Tryz.func44 rfl Tryz.call44 spec_l24Set.sig [(4, [some 6])] (spec_l24Set.body k) (by kernel_rfl) (spec_l24Set.lok k) (by decide) fun vs bs lf y hl hb hy => by
    unfold spec_l24Set.body at hb
    split at hb
    · obtain ⟨_, rfl, hb_1⟩ := asO_bind hb
      obtain rfl := Option.some.inj hb_1
      exact ⟨spec_l24Set.out, spec_l24Set.out_ok, (spec_l24Set.den k _ _ _ _ _).trans hy⟩
    · cases hb
/-! ### spec_PutStored -/
def spec_PutStored.f (k : Nat) (a0 : List T_impl_Stored) (a1 : Int) (a2 : Int) (a3 : Int) : Option (Bool × List T_impl_Stored) :=
  (spec_IsStore.f k a0).bind fun t1 => (bif !t1 then (bif decide ((([] : List T_impl_Stored).length + a0.length) * 32 ≤ cap48) then some (false, (([] : List T_impl_Stored) ++ a0)) else none) else (spec_l24Find.f k a0 a1 a2).bind fun t2 => (bif decide (t2 ≥ (0 : Int)) then (bif decide (0 ≤ t2) then (bif decide (t2 < (a0.length : Int)) then (spec_l24Set.f k a0 a1 a2 a3 (w64 ((rd_impl_Stored a0 t2).f3 + (1 : Int)))).bind fun t3 => (spec_IsStore.f k t3).bind fun t4 => (bif !t4 then (bif decide ((([] : List T_impl_Stored).length + a0.length) * 32 ≤ cap48) then some (false, (([] : List T_impl_Stored) ++ a0)) else none) else some (true, t3)) else none) else none) else (spec_l24Set.f k a0 a1 a2 a3 (1 : Int)).bind fun t5 => (spec_IsStore.f k t5).bind fun t6 => (bif !t6 then (bif decide ((([] : List T_impl_Stored).length + a0.length) * 32 ≤ cap48) then some (false, (([] : List T_impl_Stored) ++ a0)) else none) else some (true, t5))))
def spec_PutStored.Γ (k : Nat) : Ct κ := assoc [(42, spec_IsStore.C k), (43, spec_l24Find.C k), (44, spec_l24Set.C k)]
def spec_PutStored.LH (k : Nat) : Nat → Option (LHi κ) := assoc []
theorem spec_PutStored.hΓ (k : Nat) : ∀ f g, spec_PutStored.Γ k f = some g → CSound Tryz.prog f g := G_cons (spec_IsStore.ok k) (G_cons (spec_l24Find.ok k) (G_cons (spec_l24Set.ok k) G_nil))
theorem spec_PutStored.lok (k : Nat) : LOK ti (spec_PutStored.Γ k) (spec_PutStored.LH k) 1 (loopsOf (bodyOf Tryz.f19)) :=
  (show loopsOf (bodyOf Tryz.f19) = [] by kernel_rfl) ▸ LOK_nil
def spec_PutStored.sig : List PSh := [.one (.ro 6), .one .sc, .one .sc, .one .sc]
def spec_PutStored.g (y : Bool × List T_impl_Stored) : Ret κ := ⟨.tup [(false, [.sl 1]), (false, [.bool y.1])], [], [.rows 6 true y.2]⟩
def spec_PutStored.out (r : Ret κ) : Option (Bool × List T_impl_Stored) :=
  match r with
  | ⟨.tup [(false, [.sl 1]), (false, [.bool z0])], [], [q1]⟩ => (asO 6 true q1).bind fun z1 => some (z0, z1)
  | _ => none
theorem spec_PutStored.out_ok (r : Ret κ) (y : Bool × List T_impl_Stored) (h : spec_PutStored.out r = some y) : r = spec_PutStored.g y := by
  unfold spec_PutStored.out at h
  split at h
  · obtain ⟨_, rfl, h_1⟩ := asO_bind h
    obtain rfl := Option.some.inj h_1
    rfl
  · cases h
def spec_PutStored.body (k : Nat) (vs : List AV) (bs : List (Blk κ)) : Option (Lf κ) :=
  match vs, bs with
  | [.v (.sl 0), .v (.int .i64 a1), .v (.int .i64 a2), .v (.int .i64 a3)], [qb0] => (asO 6 false qb0).bind fun a0 => some ⟨Bool × List T_impl_Stored, spec_PutStored.f k a0 a1 a2 a3, spec_PutStored.g⟩
  | _, _ => none
def spec_PutStored.C (k : Nat) : Nat → List AV → AP κ AV := contract spec_PutStored.sig (spec_PutStored.body k)
theorem spec_PutStored.den (k : Nat) (a0 : List T_impl_Stored) (a1 : Int) (a2 : Int) (a3 : Int) : Code.den ti (spec_PutStored.Γ k) (spec_PutStored.LH k) (bodyOf Tryz.f19) (finK ti Tryz.f19.results.toList [(8, [some 6])] (flags spec_PutStored.sig).length (rwI (flags spec_PutStored.sig) 0) spec_PutStored.out) ⟨envOf (([.v (.sl 0), .v (.int .i64 a1), .v (.int .i64 a2), .v (.int .i64 a3)]).zipIdx.map fun q => (q.2, q.1)), hpOf [.rows 6 false a0], (flags spec_PutStored.sig).length⟩ = spec_PutStored.f k a0 a1 a2 a3 := by kernel_rfl
theorem spec_PutStored.ok (k : Nat) : CSound Tryz.prog 19 (spec_PutStored.C k) :=
  csound κ_ok mixed tok (spec_PutStored.hΓ k) (LH := spec_PutStored.LH k) (fn := Tryz.f19) (c := bodyOf Tryz.f19) Tryz.func19 rfl Tryz.call19 spec_PutStored.sig [(8, [some 6])] (spec_PutStored.body k) (by kernel_rfl) (spec_PutStored.lok k) (by decide) fun vs bs lf y hl hb hy => by
    unfold spec_PutStored.body at hb
    split at hb
    · obtain ⟨_, rfl, hb_1⟩ := asO_bind hb
      obtain rfl := Option.some.inj hb_1
      exact ⟨spec_PutStored.out, spec_PutStored.out_ok, (spec_PutStored.den k _ _ _ _).trans hy⟩
    · cases hb
/-! ### spec_l24Draw -/
def spec_l24Draw.L3 {R : Type} (k : Nat) (xl1 : List Int) (X0 : Int → Int → List T_impl_Stored → Option R) (rec : Int → Int → Int → List T_impl_Stored → Option R) (x2 : Int) (xc0_1 : Int) (xc0_2 : Int) (xl2 : List T_impl_Stored) : Option R :=
  (bif decide (x2 > (0 : Int)) then (spec_l1Below.f k xl1 xc0_1 xc0_2 (3 : Int)).bind fun t2 => (spec_l1Below.f k xl1 t2.2.1 t2.2.2 (4 : Int)).bind fun t3 => (spec_l1Below.f k xl1 t3.2.1 t3.2.2 (9 : Int)).bind fun t4 => (spec_PutStored.f k xl2 (w64 ((1 : Int) + t2.1)) t3.1 t4.1).bind fun t5 => (rec (w64 (x2 - (1 : Int))) t4.2.1 t4.2.2 t5.2) else (X0 xc0_1 xc0_2 xl2))
def spec_l24Draw.l3 {R : Type} (k : Nat) (xl1 : List Int) (X0 : Int → Int → List T_impl_Stored → Option R) : Nat → Int → Int → Int → List T_impl_Stored → Option R
  | 0 => fun _ _ _ _ => none
  | n + 1 => spec_l24Draw.L3 k xl1 X0 (spec_l24Draw.l3 k xl1 X0 n)
def spec_l24Draw.f (k : Nat) (a0_0 : List Int) (a0_1 : Int) (a0_2 : Int) : Option (Int × Int × List T_impl_Stored) :=
  (spec_l1Below.f k a0_0 a0_1 a0_2 (9 : Int)).bind fun t1 => (spec_l24Draw.l3 k a0_0 (fun (y6 : Int) (y7 : Int) (y8 : List T_impl_Stored) => some (y6, y7, y8)) k t1.1 t1.2.1 t1.2.2 ([] : List T_impl_Stored))
def spec_l24Draw.h3 (k : Nat) {R : Type} (K : Ex → St κ → Option R) (vs : List AV) (bs : List (Blk κ)) : Option R :=
  match vs, bs with
  | [.v (.ptr 0 0 0), .v (.sl 2), .v (.int .i64 x2)], [.cells 79 [.sl 1, .int .i64 xc0_1, .int .i64 xc0_2], qb1, qb2] => (asO 0 false qb1).bind fun xl1 => (asO 6 true qb2).bind fun xl2 => spec_l24Draw.l3 k xl1 (fun (zc0_1 : Int) (zc0_2 : Int) (zl2 : List T_impl_Stored) => K (.exit 0) (stOf [(3, [some 6])] [.v (.sl 2)] [.cells 79 [.sl 1, .int .i64 zc0_1, .int .i64 zc0_2], .rows 0 false xl1, .rows 6 true zl2])) k x2 xc0_1 xc0_2 xl2
  | _, _ => none
def spec_l24Draw.Γ (k : Nat) : Ct κ := assoc [(18, spec_l1Below.C k), (19, spec_PutStored.C k)]
def spec_l24Draw.LH (k : Nat) : Nat → Option (LHi κ) := assoc [(3, ⟨2, [(0, [some 0, none, none]), (3, [some 6]), (4, [])], [(3, [some 6])], @spec_l24Draw.h3 k⟩)]
theorem spec_l24Draw.hΓ (k : Nat) : ∀ f g, spec_l24Draw.Γ k f = some g → CSound Tryz.prog f g := G_cons (spec_l1Below.ok k) (G_cons (spec_PutStored.ok k) G_nil)
theorem spec_l24Draw.e3 {R : Type} (K : Ex → St κ → Option R) (k : Nat) (xl1 : List Int) : ∀ (n : Nat) (x2 : Int) (xc0_1 : Int) (xc0_2 : Int) (xl2 : List T_impl_Stored), loopN 2 (Code.den ti (spec_l24Draw.Γ k) (spec_l24Draw.LH k) (loopAt Tryz.f45 0)) [(0, [some 0, none, none]), (3, [some 6]), (4, [])] [(3, [some 6])] K n [.v (.ptr 0 0 0), .v (.sl 2), .v (.int .i64 x2)] [.cells 79 [.sl 1, .int .i64 xc0_1, .int .i64 xc0_2], .rows 0 false xl1, .rows 6 true xl2] = spec_l24Draw.l3 k xl1 (fun (zc0_1 : Int) (zc0_2 : Int) (zl2 : List T_impl_Stored) => K (.exit 0) (stOf [(3, [some 6])] [.v (.sl 2)] [.cells 79 [.sl 1, .int .i64 zc0_1, .int .i64 zc0_2], .rows 0 false xl1, .rows 6 true zl2])) n x2 xc0_1 xc0_2 xl2
  | 0, _, _, _, _ => rfl
  | n + 1, x2, xc0_1, xc0_2, xl2 => (show loopN 2 (Code.den ti (spec_l24Draw.Γ k) (spec_l24Draw.LH k) (loopAt Tryz.f45 0)) [(0, [some 0, none, none]), (3, [some 6]), (4, [])] [(3, [some 6])] K (n + 1) [.v (.ptr 0 0 0), .v (.sl 2), .v (.int .i64 x2)] [.cells 79 [.sl 1, .int .i64 xc0_1, .int .i64 xc0_2], .rows 0 false xl1, .rows 6 true xl2] = spec_l24Draw.L3 k xl1 (fun (zc0_1 : Int) (zc0_2 : Int) (zl2 : List T_impl_Stored) => K (.exit 0) (stOf [(3, [some 6])] [.v (.sl 2)] [.cells 79 [.sl 1, .int .i64 zc0_1, .int .i64 zc0_2], .rows 0 false xl1, .rows 6 true zl2])) (fun (x2' : Int) (xc0_1' : Int) (xc0_2' : Int) (xl2' : List T_impl_Stored) => loopN 2 (Code.den ti (spec_l24Draw.Γ k) (spec_l24Draw.LH k) (loopAt Tryz.f45 0)) [(0, [some 0, none, none]), (3, [some 6]), (4, [])] [(3, [some 6])] K n [.v (.ptr 0 0 0), .v (.sl 2), .v (.int .i64 x2')] [.cells 79 [.sl 1, .int .i64 xc0_1', .int .i64 xc0_2'], .rows 0 false xl1, .rows 6 true xl2']) x2 xc0_1 xc0_2 xl2 by kernel_rfl).trans (congrArg (fun rec => spec_l24Draw.L3 k xl1 (fun (zc0_1 : Int) (zc0_2 : Int) (zl2 : List T_impl_Stored) => K (.exit 0) (stOf [(3, [some 6])] [.v (.sl 2)] [.cells 79 [.sl 1, .int .i64 zc0_1, .int .i64 zc0_2], .rows 0 false xl1, .rows 6 true zl2])) rec x2 xc0_1 xc0_2 xl2) (funext fun x2' => funext fun xc0_1' => funext fun xc0_2' => funext fun xl2' => spec_l24Draw.e3 K k xl1 n x2' xc0_1' xc0_2' xl2'))
theorem spec_l24Draw.q3 (k : Nat) {R : Type} (K : Ex → St κ → Option R) (vs : List AV) (bs : List (Blk κ)) (r : R) (h : spec_l24Draw.h3 k K vs bs = some r) : ∃ n, loopN 2 (Code.den ti (spec_l24Draw.Γ k) (spec_l24Draw.LH k) (loopAt Tryz.f45 0)) [(0, [some 0, none, none]), (3, [some 6]), (4, [])] [(3, [some 6])] K n vs bs = some r := by
  unfold spec_l24Draw.h3 at h
  split at h
  · obtain ⟨_, rfl, h_1⟩ := asO_bind h
    obtain ⟨_, rfl, h_2⟩ := asO_bind h_1
    exact ⟨k, (spec_l24Draw.e3 K k _ k _ _ _ _).trans h_2⟩
  · cases h
theorem spec_l24Draw.lok (k : Nat) : LOK ti (spec_l24Draw.Γ k) (spec_l24Draw.LH k) 2 (loopsOf (bodyOf Tryz.f45)) :=
  (show loopsOf (bodyOf Tryz.f45) = [loopAt Tryz.f45 0] by kernel_rfl) ▸ (LOK_cons (g := ⟨2, [(0, [some 0, none, none]), (3, [some 6]), (4, [])], [(3, [some 6])], @spec_l24Draw.h3 k⟩) (by kernel_rfl) rfl (fun K vs xs r h => spec_l24Draw.q3 k K vs xs r h) (LOK_nil))
def spec_l24Draw.sig : List PSh := [.cur 79 [.ro 0, .sc, .sc]]
def spec_l24Draw.g (y : Int × Int × List T_impl_Stored) : Ret κ := ⟨.v (.sl 2), [.cells 79 [.sl 1, .int .i64 y.1, .int .i64 y.2.1]], [.rows 6 true y.2.2]⟩
def spec_l24Draw.out (r : Ret κ) : Option (Int × Int × List T_impl_Stored) :=
  match r with
  | ⟨.v (.sl 2), [.cells 79 [.sl 1, .int .i64 z0, .int .i64 z1]], [q2]⟩ => (asO 6 true q2).bind fun z2 => some (z0, z1, z2)
  | _ => none
theorem spec_l24Draw.out_ok (r : Ret κ) (y : Int × Int × List T_impl_Stored) (h : spec_l24Draw.out r = some y) : r = spec_l24Draw.g y := by
  unfold spec_l24Draw.out at h
  split at h
  · obtain ⟨_, rfl, h_1⟩ := asO_bind h
    obtain rfl := Option.some.inj h_1
    rfl
  · cases h
def spec_l24Draw.body (k : Nat) (vs : List AV) (bs : List (Blk κ)) : Option (Lf κ) :=
  match vs, bs with
  | [.v (.ptr 0 0 0)], [.cells 79 [.sl 1, .int .i64 a0_1, .int .i64 a0_2], qb1] => (asO 0 false qb1).bind fun a0_0 => some ⟨Int × Int × List T_impl_Stored, spec_l24Draw.f k a0_0 a0_1 a0_2, spec_l24Draw.g⟩
  | _, _ => none
def spec_l24Draw.C (k : Nat) : Nat → List AV → AP κ AV := contract spec_l24Draw.sig (spec_l24Draw.body k)
theorem spec_l24Draw.den (k : Nat) (a0_0 : List Int) (a0_1 : Int) (a0_2 : Int) : Code.den ti (spec_l24Draw.Γ k) (spec_l24Draw.LH k) (bodyOf Tryz.f45) (finK ti Tryz.f45.results.toList [(2, [some 6])] (flags spec_l24Draw.sig).length (rwI (flags spec_l24Draw.sig) 0) spec_l24Draw.out) ⟨envOf (([.v (.ptr 0 0 0)]).zipIdx.map fun q => (q.2, q.1)), hpOf [.cells 79 [.sl 1, .int .i64 a0_1, .int .i64 a0_2], .rows 0 false a0_0], (flags spec_l24Draw.sig).length⟩ = spec_l24Draw.f k a0_0 a0_1 a0_2 := by kernel_rfl
theorem spec_l24Draw.ok (k : Nat) : CSound Tryz.prog 45 (spec_l24Draw.C k) :=
  csound κ_ok mixed tok (spec_l24Draw.hΓ k) (LH := spec_l24Draw.LH k) (fn := Tryz.f45) (c := bodyOf Tryz.f45) Tryz.func45 rfl Tryz.call45 spec_l24Draw.sig [(2, [some 6])] (spec_l24Draw.body k) (by kernel_rfl) (spec_l24Draw.lok k) (by decide) fun vs bs lf y hl hb hy => by
    unfold spec_l24Draw.body at hb
    split at hb
    · obtain ⟨_, rfl, hb_1⟩ := asO_bind hb
      obtain rfl := Option.some.inj hb_1
      exact ⟨spec_l24Draw.out, spec_l24Draw.out_ok, (spec_l24Draw.den k _ _ _).trans hy⟩
    · cases hb
end Go.Proofs.YtmjflahlhgibnaaGreatDoor.PFnRolledBack
