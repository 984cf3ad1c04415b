/- What the functions that the law FnSealed reaches come to; no conditions. -/
import Derived.Test.YthingkcckjiniaaPFnSealed3
set_option linter.unusedVariables false
set_option maxRecDepth 100000
namespace Go.Proofs.Ythingkcckjiniaa.PFnSealed
open Go Go.Eng Go.Proofs
/-! ### spec_l9Any -/
def spec_l9Any.f (k : Nat) (a0_0 : List Int) (a0_1 : Int) (a0_2 : Int) : Option (Int × Int × Int × Int) :=
  (spec_l9Pattern.f k a0_0 a0_1 a0_2).bind fun t1 => (spec_l1Below.f k a0_0 t1.2.2.1 t1.2.2.2 (10 : Int)).bind fun t2 => (bif (t2.1 == (0 : Int)) then (spec_l9Raw.f k a0_0 t2.2.1 t2.2.2).bind fun t3 => some (t3.1, t1.2.1, t3.2.1, t3.2.2) else (bif (t2.1 == (1 : Int)) then (spec_l9Raw.f k a0_0 t2.2.1 t2.2.2).bind fun t4 => some (t1.1, t4.1, t4.2.1, t4.2.2) else some (t1.1, t1.2.1, t2.2.1, t2.2.2)))
def spec_l9Any.Γ (k : Nat) : Ct κ := assoc [(138, spec_l9Pattern.C k), (56, spec_l1Below.C k), (109, spec_l9Raw.C k)]
def spec_l9Any.LH (k : Nat) : Nat → Option (LHi κ) := assoc []
theorem spec_l9Any.hΓ (k : Nat) : ∀ f g, spec_l9Any.Γ k f = some g → CSound Try.prog f g := G_cons (spec_l9Pattern.ok k) (G_cons (spec_l1Below.ok k) (G_cons (spec_l9Raw.ok k) G_nil))
theorem spec_l9Any.lok (k : Nat) : LOK ti (spec_l9Any.Γ k) (spec_l9Any.LH k) 2 (loopsOf (bodyOf Try.f145)) :=
  (show loopsOf (bodyOf Try.f145) = [] by kernel_rfl) ▸ LOK_nil
def spec_l9Any.sig : List PSh := [.cur 137 [.ro 0, .sc, .sc]]
def spec_l9Any.g (y : Int × Int × Int × Int) : Ret κ := ⟨.agg [.int .i64 y.1, .int .i64 y.2.1], [.cells 137 [.sl 1, .int .i64 y.2.2.1, .int .i64 y.2.2.2]], []⟩
def spec_l9Any.out (r : Ret κ) : Option (Int × Int × Int × Int) :=
  match r with
  | ⟨.agg [.int .i64 z0, .int .i64 z1], [.cells 137 [.sl 1, .int .i64 z2, .int .i64 z3]], []⟩ => some (z0, z1, z2, z3)
  | _ => none
theorem spec_l9Any.out_ok (r : Ret κ) (y : Int × Int × Int × Int) (h : spec_l9Any.out r = some y) : r = spec_l9Any.g y := by
  unfold spec_l9Any.out at h
  split at h
  · obtain rfl := Option.some.inj h
    rfl
  · cases h
def spec_l9Any.body (k : Nat) (vs : List AV) (bs : List (Blk κ)) : Option (Lf κ) :=
  match vs, bs with
  | [.v (.ptr 0 0 0)], [.cells 137 [.sl 1, .int .i64 a0_1, .int .i64 a0_2], qb1] => (asO 0 false qb1).bind fun a0_0 => some ⟨Int × Int × Int × Int, spec_l9Any.f k a0_0 a0_1 a0_2, spec_l9Any.g⟩
  | _, _ => none
def spec_l9Any.C (k : Nat) : Nat → List AV → AP κ AV := contract spec_l9Any.sig (spec_l9Any.body k)
theorem spec_l9Any.den (k : Nat) (a0_0 : List Int) (a0_1 : Int) (a0_2 : Int) : Code.den ti (spec_l9Any.Γ k) (spec_l9Any.LH k) (bodyOf Try.f145) (finK ti Try.f145.results.toList [] (flags spec_l9Any.sig).length (rwI (flags spec_l9Any.sig) 0) spec_l9Any.out) ⟨envOf (([.v (.ptr 0 0 0)]).zipIdx.map fun q => (q.2, q.1)), hpOf [.cells 137 [.sl 1, .int .i64 a0_1, .int .i64 a0_2], .rows 0 false a0_0], (flags spec_l9Any.sig).length⟩ = spec_l9Any.f k a0_0 a0_1 a0_2 := by kernel_rfl
theorem spec_l9Any.ok (k : Nat) : CSound Try.prog 145 (spec_l9Any.C k) :=
  csound κ_ok mixed tok (spec_l9Any.hΓ k) (LH := spec_l9Any.LH k) (fn := Try.f145) (c := bodyOf Try.f145) Try.func145 rfl Try.call145 spec_l9Any.sig [] (spec_l9Any.body k) (by kernel_rfl) (spec_l9Any.lok k) (by decide) fun vs bs lf y hl hb hy => by
    unfold spec_l9Any.body at hb
    split at hb
    · obtain ⟨_, rfl, hb_1⟩ := asO_bind hb
      obtain rfl := Option.some.inj hb_1
      exact ⟨spec_l9Any.out, spec_l9Any.out_ok, (spec_l9Any.den k _ _ _).trans hy⟩
    · cases hb
/-! ### spec_l10Any -/
def spec_l10Any.f (k : Nat) (a0_0 : List Int) (a0_1 : Int) (a0_2 : Int) : Option (Int × Int × Int × Int × Int × Int × Bool × Int × Int) :=
  (spec_l10Draw.f k a0_0 a0_1 a0_2).bind fun t1 => (spec_l1Below.f k a0_0 t1.2.2.2.2.2.2.2.1 t1.2.2.2.2.2.2.2.2 (12 : Int)).bind fun t2 => (bif (t2.1 == (0 : Int)) then (spec_l9Raw.f k a0_0 t2.2.1 t2.2.2).bind fun t3 => some (t3.1, t1.2.1, t1.2.2.1, t1.2.2.2.1, t1.2.2.2.2.1, t1.2.2.2.2.2.1, t1.2.2.2.2.2.2.1, t3.2.1, t3.2.2) else (bif (t2.1 == (1 : Int)) then (spec_l1Int.f k a0_0 t2.2.1 t2.2.2 ([(0 : Int), (5 : Int)] : List Int)).bind fun t4 => some (t1.1, t1.2.1, t1.2.2.1, t4.1, t1.2.2.2.2.1, t1.2.2.2.2.2.1, t1.2.2.2.2.2.2.1, t4.2.1, t4.2.2) else (bif (t2.1 == (2 : Int)) then (spec_l1Int.f k a0_0 t2.2.1 t2.2.2 ([(-1 : Int), (30 : Int)] : List Int)).bind fun t5 => some (t1.1, t1.2.1, t1.2.2.1, t1.2.2.2.1, t5.1, t1.2.2.2.2.2.1, t1.2.2.2.2.2.2.1, t5.2.1, t5.2.2) else (bif (t2.1 == (3 : Int)) then (spec_l1Int.f k a0_0 t2.2.1 t2.2.2 ([(10000 : Int), (10001 : Int), (9223372036854775807 : Int)] : List Int)).bind fun t6 => some (t1.1, t1.2.1, t1.2.2.1, t1.2.2.2.1, t1.2.2.2.2.1, t6.1, t1.2.2.2.2.2.2.1, t6.2.1, t6.2.2) else (bif (t2.1 == (4 : Int)) then (spec_l9Any.f k a0_0 t2.2.1 t2.2.2).bind fun t7 => some (t1.1, t7.1, t7.2.1, t1.2.2.2.1, t1.2.2.2.2.1, t1.2.2.2.2.2.1, t1.2.2.2.2.2.2.1, t7.2.2.1, t7.2.2.2) else some (t1.1, t1.2.1, t1.2.2.1, t1.2.2.2.1, t1.2.2.2.2.1, t1.2.2.2.2.2.1, t1.2.2.2.2.2.2.1, t2.2.1, t2.2.2))))))
def spec_l10Any.Γ (k : Nat) : Ct κ := assoc [(105, spec_l10Draw.C k), (56, spec_l1Below.C k), (109, spec_l9Raw.C k), (60, spec_l1Int.C k), (145, spec_l9Any.C k)]
def spec_l10Any.LH (k : Nat) : Nat → Option (LHi κ) := assoc []
theorem spec_l10Any.hΓ (k : Nat) : ∀ f g, spec_l10Any.Γ k f = some g → CSound Try.prog f g := G_cons (spec_l10Draw.ok k) (G_cons (spec_l1Below.ok k) (G_cons (spec_l9Raw.ok k) (G_cons (spec_l1Int.ok k) (G_cons (spec_l9Any.ok k) G_nil))))
theorem spec_l10Any.lok (k : Nat) : LOK ti (spec_l10Any.Γ k) (spec_l10Any.LH k) 2 (loopsOf (bodyOf Try.f125)) :=
  (show loopsOf (bodyOf Try.f125) = [] by kernel_rfl) ▸ LOK_nil
def spec_l10Any.sig : List PSh := [.cur 137 [.ro 0, .sc, .sc]]
def spec_l10Any.g (y : Int × Int × Int × Int × Int × Int × Bool × Int × Int) : Ret κ := ⟨.agg [.int .i64 y.1, .int .i64 y.2.1, .int .i64 y.2.2.1, .int .i64 y.2.2.2.1, .int .i64 y.2.2.2.2.1, .int .i64 y.2.2.2.2.2.1, .bool y.2.2.2.2.2.2.1], [.cells 137 [.sl 1, .int .i64 y.2.2.2.2.2.2.2.1, .int .i64 y.2.2.2.2.2.2.2.2]], []⟩
def spec_l10Any.out (r : Ret κ) : Option (Int × Int × Int × Int × Int × Int × Bool × Int × Int) :=
  match r with
  | ⟨.agg [.int .i64 z0, .int .i64 z1, .int .i64 z2, .int .i64 z3, .int .i64 z4, .int .i64 z5, .bool z6], [.cells 137 [.sl 1, .int .i64 z7, .int .i64 z8]], []⟩ => some (z0, z1, z2, z3, z4, z5, z6, z7, z8)
  | _ => none
theorem spec_l10Any.out_ok (r : Ret κ) (y : Int × Int × Int × Int × Int × Int × Bool × Int × Int) (h : spec_l10Any.out r = some y) : r = spec_l10Any.g y := by
  unfold spec_l10Any.out at h
  split at h
  · obtain rfl := Option.some.inj h
    rfl
  · cases h
def spec_l10Any.body (k : Nat) (vs : List AV) (bs : List (Blk κ)) : Option (Lf κ) :=
  match vs, bs with
  | [.v (.ptr 0 0 0)], [.cells 137 [.sl 1, .int .i64 a0_1, .int .i64 a0_2], qb1] => (asO 0 false qb1).bind fun a0_0 => some ⟨Int × Int × Int × Int × Int × Int × Bool × Int × Int, spec_l10Any.f k a0_0 a0_1 a0_2, spec_l10Any.g⟩
  | _, _ => none
def spec_l10Any.C (k : Nat) : Nat → List AV → AP κ AV := contract spec_l10Any.sig (spec_l10Any.body k)
theorem spec_l10Any.den (k : Nat) (a0_0 : List Int) (a0_1 : Int) (a0_2 : Int) : Code.den ti (spec_l10Any.Γ k) (spec_l10Any.LH k) (bodyOf Try.f125) (finK ti Try.f125.results.toList [] (flags spec_l10Any.sig).length (rwI (flags spec_l10Any.sig) 0) spec_l10Any.out) ⟨envOf (([.v (.ptr 0 0 0)]).zipIdx.map fun q => (q.2, q.1)), hpOf [.cells 137 [.sl 1, .int .i64 a0_1, .int .i64 a0_2], .rows 0 false a0_0], (flags spec_l10Any.sig).length⟩ = spec_l10Any.f k a0_0 a0_1 a0_2 := by kernel_rfl
theorem spec_l10Any.ok (k : Nat) : CSound Try.prog 125 (spec_l10Any.C k) :=
  csound κ_ok mixed tok (spec_l10Any.hΓ k) (LH := spec_l10Any.LH k) (fn := Try.f125) (c := bodyOf Try.f125) Try.func125 rfl Try.call125 spec_l10Any.sig [] (spec_l10Any.body k) (by kernel_rfl) (spec_l10Any.lok k) (by decide) fun vs bs lf y hl hb hy => by
    unfold spec_l10Any.body at hb
    split at hb
    · obtain ⟨_, rfl, hb_1⟩ := asO_bind hb
      obtain rfl := Option.some.inj hb_1
      exact ⟨spec_l10Any.out, spec_l10Any.out_ok, (spec_l10Any.den k _ _ _).trans hy⟩
    · cases hb
/-! ### spec_l13Any -/
def spec_l13Any.f (k : Nat) (a0_0 : List Int) (a0_1 : Int) (a0_2 : Int) : Option (Int × Int × Int × Int × Int × Int × Int × Int × Int × Int) :=
  (spec_l13Draw.f k a0_0 a0_1 a0_2).bind fun t1 => (spec_l1Below.f k a0_0 t1.2.2.2.2.2.2.2.2.1 t1.2.2.2.2.2.2.2.2.2 (12 : Int)).bind fun t2 => (bif (t2.1 == (0 : Int)) then (spec_l9Raw.f k a0_0 t2.2.1 t2.2.2).bind fun t3 => some (t3.1, t1.2.1, t1.2.2.1, t1.2.2.2.1, t1.2.2.2.2.1, t1.2.2.2.2.2.1, t1.2.2.2.2.2.2.1, t1.2.2.2.2.2.2.2.1, t3.2.1, t3.2.2) else (bif (t2.1 == (1 : Int)) then (spec_l1Int.f k a0_0 t2.2.1 t2.2.2 ([(0 : Int), (9 : Int), (10 : Int)] : List Int)).bind fun t4 => some (t1.1, t4.1, t1.2.2.1, t1.2.2.2.1, t1.2.2.2.2.1, t1.2.2.2.2.2.1, t1.2.2.2.2.2.2.1, t1.2.2.2.2.2.2.2.1, t4.2.1, t4.2.2) else (bif (t2.1 == (2 : Int)) then (spec_l9Any.f k a0_0 t2.2.1 t2.2.2).bind fun t5 => some (t1.1, t1.2.1, t5.1, t5.2.1, t1.2.2.2.2.1, t1.2.2.2.2.2.1, t1.2.2.2.2.2.2.1, t1.2.2.2.2.2.2.2.1, t5.2.2.1, t5.2.2.2) else (bif (t2.1 == (3 : Int)) then (spec_l1Int.f k a0_0 t2.2.1 t2.2.2 ([(-1 : Int), (4 : Int), (5 : Int)] : List Int)).bind fun t6 => some (t1.1, t1.2.1, t1.2.2.1, t1.2.2.2.1, t6.1, t1.2.2.2.2.2.1, t1.2.2.2.2.2.2.1, t1.2.2.2.2.2.2.2.1, t6.2.1, t6.2.2) else (bif (t2.1 == (4 : Int)) then (spec_l1Int.f k a0_0 t2.2.1 t2.2.2 ([(0 : Int), (3 : Int), (4 : Int)] : List Int)).bind fun t7 => some (t1.1, t1.2.1, t1.2.2.1, t1.2.2.2.1, t1.2.2.2.2.1, t7.1, t1.2.2.2.2.2.2.1, t1.2.2.2.2.2.2.2.1, t7.2.1, t7.2.2) else (bif (t2.1 == (5 : Int)) then (spec_l9Raw.f k a0_0 t2.2.1 t2.2.2).bind fun t8 => some (t1.1, t1.2.1, t1.2.2.1, t1.2.2.2.1, t1.2.2.2.2.1, t1.2.2.2.2.2.1, t8.1, t1.2.2.2.2.2.2.2.1, t8.2.1, t8.2.2) else some (t1.1, t1.2.1, t1.2.2.1, t1.2.2.2.1, t1.2.2.2.2.1, t1.2.2.2.2.2.1, t1.2.2.2.2.2.2.1, t1.2.2.2.2.2.2.2.1, t2.2.1, t2.2.2)))))))
def spec_l13Any.Γ (k : Nat) : Ct κ := assoc [(107, spec_l13Draw.C k), (56, spec_l1Below.C k), (109, spec_l9Raw.C k), (60, spec_l1Int.C k), (145, spec_l9Any.C k)]
def spec_l13Any.LH (k : Nat) : Nat → Option (LHi κ) := assoc []
theorem spec_l13Any.hΓ (k : Nat) : ∀ f g, spec_l13Any.Γ k f = some g → CSound Try.prog f g := G_cons (spec_l13Draw.ok k) (G_cons (spec_l1Below.ok k) (G_cons (spec_l9Raw.ok k) (G_cons (spec_l1Int.ok k) (G_cons (spec_l9Any.ok k) G_nil))))
theorem spec_l13Any.lok (k : Nat) : LOK ti (spec_l13Any.Γ k) (spec_l13Any.LH k) 2 (loopsOf (bodyOf Try.f126)) :=
  (show loopsOf (bodyOf Try.f126) = [] by kernel_rfl) ▸ LOK_nil
def spec_l13Any.sig : List PSh := [.cur 137 [.ro 0, .sc, .sc]]
def spec_l13Any.g (y : Int × Int × Int × Int × Int × Int × Int × Int × Int × Int) : Ret κ := ⟨.agg [.int .i64 y.1, .int .i64 y.2.1, .int .i64 y.2.2.1, .int .i64 y.2.2.2.1, .int .i64 y.2.2.2.2.1, .int .i64 y.2.2.2.2.2.1, .int .i64 y.2.2.2.2.2.2.1, .int .i64 y.2.2.2.2.2.2.2.1], [.cells 137 [.sl 1, .int .i64 y.2.2.2.2.2.2.2.2.1, .int .i64 y.2.2.2.2.2.2.2.2.2]], []⟩
def spec_l13Any.out (r : Ret κ) : Option (Int × Int × Int × Int × Int × Int × Int × Int × Int × Int) :=
  match r with
  | ⟨.agg [.int .i64 z0, .int .i64 z1, .int .i64 z2, .int .i64 z3, .int .i64 z4, .int .i64 z5, .int .i64 z6, .int .i64 z7], [.cells 137 [.sl 1, .int .i64 z8, .int .i64 z9]], []⟩ => some (z0, z1, z2, z3, z4, z5, z6, z7, z8, z9)
  | _ => none
theorem spec_l13Any.out_ok (r : Ret κ) (y : Int × Int × Int × Int × Int × Int × Int × Int × Int × Int) (h : spec_l13Any.out r = some y) : r = spec_l13Any.g y := by
  unfold spec_l13Any.out at h
  split at h
  · obtain rfl := Option.some.inj h
    rfl
  · cases h
def spec_l13Any.body (k : Nat) (vs : List AV) (bs : List (Blk κ)) : Option (Lf κ) :=
  match vs, bs with
  | [.v (.ptr 0 0 0)], [.cells 137 [.sl 1, .int .i64 a0_1, .int .i64 a0_2], qb1] => (asO 0 false qb1).bind fun a0_0 => some ⟨Int × Int × Int × Int × Int × Int × Int × Int × Int × Int, spec_l13Any.f k a0_0 a0_1 a0_2, spec_l13Any.g⟩
  | _, _ => none
def spec_l13Any.C (k : Nat) : Nat → List AV → AP κ AV := contract spec_l13Any.sig (spec_l13Any.body k)
theorem spec_l13Any.den (k : Nat) (a0_0 : List Int) (a0_1 : Int) (a0_2 : Int) : Code.den ti (spec_l13Any.Γ k) (spec_l13Any.LH k) (bodyOf Try.f126) (finK ti Try.f126.results.toList [] (flags spec_l13Any.sig).length (rwI (flags spec_l13Any.sig) 0) spec_l13Any.out) ⟨envOf (([.v (.ptr 0 0 0)]).zipIdx.map fun q => (q.2, q.1)), hpOf [.cells 137 [.sl 1, .int .i64 a0_1, .int .i64 a0_2], .rows 0 false a0_0], (flags spec_l13Any.sig).length⟩ = spec_l13Any.f k a0_0 a0_1 a0_2 := by kernel_rfl
theorem spec_l13Any.ok (k : Nat) : CSound Try.prog 126 (spec_l13Any.C k) :=
  csound κ_ok mixed tok (spec_l13Any.hΓ k) (LH := spec_l13Any.LH k) (fn := Try.f126) (c := bodyOf Try.f126) Try.func126 rfl Try.call126 spec_l13Any.sig [] (spec_l13Any.body k) (by kernel_rfl) (spec_l13Any.lok k) (by decide) fun vs bs lf y hl hb hy => by
    unfold spec_l13Any.body at hb
    split at hb
    · obtain ⟨_, rfl, hb_1⟩ := asO_bind hb
      obtain rfl := Option.some.inj hb_1
      exact ⟨spec_l13Any.out, spec_l13Any.out_ok, (spec_l13Any.den k _ _ _).trans hy⟩
    · cases hb
/-! ### spec_l21Any -/
def spec_l21Any.L15 {R : Type} (k : Nat) (xc0_1 : Int) (xc0_2 : Int) (xl1 : List Int) (X0 : List T_impl_Op → Option R) (rec : List T_impl_Op → Option R) (xl2 : List T_impl_Op) : Option R :=
  (bif decide ((xl2.length : Int) < (17 : Int)) then (bif decide ((xl2.length + ([(⟨(2 : Int), (0 : Int), (0 : Int), (0 : Int)⟩ : T_impl_Op)] : List T_impl_Op).length) * 32 ≤ cap48) then (let l12 : List T_impl_Op := (xl2 ++ ([(⟨(2 : Int), (0 : Int), (0 : Int), (0 : Int)⟩ : T_impl_Op)] : List T_impl_Op)); (rec l12)) else none) else (X0 xl2))
def spec_l21Any.l15 {R : Type} (k : Nat) (xc0_1 : Int) (xc0_2 : Int) (xl1 : List Int) (X0 : List T_impl_Op → Option R) : Nat → List T_impl_Op → Option R
  | 0 => fun _ => none
  | n + 1 => spec_l21Any.L15 k xc0_1 xc0_2 xl1 X0 (spec_l21Any.l15 k xc0_1 xc0_2 xl1 X0 n)
def spec_l21Any.f (k : Nat) (a0_0 : List Int) (a0_1 : Int) (a0_2 : Int) : Option (Int × Int × List T_impl_Op) :=
  (spec_l21Ops.f k a0_0 a0_1 a0_2).bind fun t1 => (bif ((t1.2.2.length : Int) == (0 : Int)) then some (t1.1, t1.2.1, t1.2.2) else (spec_l1Below.f k a0_0 t1.1 t1.2.1 (t1.2.2.length : Int)).bind fun t2 => (spec_l1Below.f k a0_0 t2.2.1 t2.2.2 (12 : Int)).bind fun t3 => (bif (t3.1 == (0 : Int)) then (spec_l1Int.f k a0_0 t3.2.1 t3.2.2 ([(0 : Int), (6 : Int), (5 : Int)] : List Int)).bind fun t4 => (bif decide (0 ≤ t2.1) then (bif decide (t2.1 < (t1.2.2.length : Int)) then (let l5 : List T_impl_Op := (t1.2.2.set (t2.1).toNat (⟨t4.1, (rd_impl_Op t1.2.2 t2.1).f1, (rd_impl_Op t1.2.2 t2.1).f2, (rd_impl_Op t1.2.2 t2.1).f3⟩ : T_impl_Op)); some (t4.2.1, t4.2.2, l5)) else none) else none) else (bif (t3.1 == (1 : Int)) then (spec_l1Int.f k a0_0 t3.2.1 t3.2.2 ([(-1 : Int), (5 : Int), (6 : Int)] : List Int)).bind fun t6 => (bif decide (0 ≤ t2.1) then (bif decide (t2.1 < (t1.2.2.length : Int)) then (let l7 : List T_impl_Op := (t1.2.2.set (t2.1).toNat (⟨(rd_impl_Op t1.2.2 t2.1).f0, t6.1, (rd_impl_Op t1.2.2 t2.1).f2, (rd_impl_Op t1.2.2 t2.1).f3⟩ : T_impl_Op)); some (t6.2.1, t6.2.2, l7)) else none) else none) else (bif (t3.1 == (2 : Int)) then (spec_l9Raw.f k a0_0 t3.2.1 t3.2.2).bind fun t8 => (bif decide (0 ≤ t2.1) then (bif decide (t2.1 < (t1.2.2.length : Int)) then (let l9 : List T_impl_Op := (t1.2.2.set (t2.1).toNat (⟨(rd_impl_Op t1.2.2 t2.1).f0, (rd_impl_Op t1.2.2 t2.1).f1, t8.1, (rd_impl_Op t1.2.2 t2.1).f3⟩ : T_impl_Op)); some (t8.2.1, t8.2.2, l9)) else none) else none) else (bif (t3.1 == (3 : Int)) then (spec_l1Int.f k a0_0 t3.2.1 t3.2.2 ([(-1 : Int), (1 : Int), (6 : Int)] : List Int)).bind fun t10 => (bif decide (0 ≤ t2.1) then (bif decide (t2.1 < (t1.2.2.length : Int)) then (let l11 : List T_impl_Op := (t1.2.2.set (t2.1).toNat (⟨(rd_impl_Op t1.2.2 t2.1).f0, (rd_impl_Op t1.2.2 t2.1).f1, (rd_impl_Op t1.2.2 t2.1).f2, t10.1⟩ : T_impl_Op)); some (t10.2.1, t10.2.2, l11)) else none) else none) else (bif (t3.1 == (4 : Int)) then (spec_l21Any.l15 k t3.2.1 t3.2.2 a0_0 (fun (y13 : List T_impl_Op) => some (t3.2.1, t3.2.2, y13)) k t1.2.2) else some (t3.2.1, t3.2.2, t1.2.2)))))))
def spec_l21Any.h15 (k : Nat) {R : Type} (K : Ex → St κ → Option R) (vs : List AV) (bs : List (Blk κ)) : Option R :=
  match vs, bs with
  | [.v (.sl 2)], [.cells 137 [.sl 1, .int .i64 xc0_1, .int .i64 xc0_2], qb1, qb2] => (asO 0 false qb1).bind fun xl1 => (asO 1 true qb2).bind fun xl2 => spec_l21Any.l15 k xc0_1 xc0_2 xl1 (fun (zl2 : List T_impl_Op) => K (.exit 1) (stOf [(3, [some 1])] [.v (.sl 2)] [.cells 137 [.sl 1, .int .i64 xc0_1, .int .i64 xc0_2], .rows 0 false xl1, .rows 1 true zl2])) k xl2
  | _, _ => none
def spec_l21Any.Γ (k : Nat) : Ct κ := assoc [(104, spec_l21Ops.C k), (56, spec_l1Below.C k), (60, spec_l1Int.C k), (109, spec_l9Raw.C k)]
def spec_l21Any.LH (k : Nat) : Nat → Option (LHi κ) := assoc [(15, ⟨2, [(3, [some 1])], [(3, [some 1])], @spec_l21Any.h15 k⟩)]
theorem spec_l21Any.hΓ (k : Nat) : ∀ f g, spec_l21Any.Γ k f = some g → CSound Try.prog f g := G_cons (spec_l21Ops.ok k) (G_cons (spec_l1Below.ok k) (G_cons (spec_l1Int.ok k) (G_cons (spec_l9Raw.ok k) G_nil)))
theorem spec_l21Any.e15 {R : Type} (K : Ex → St κ → Option R) (k : Nat) (xc0_1 : Int) (xc0_2 : Int) (xl1 : List Int) : ∀ (n : Nat) (xl2 : List T_impl_Op), loopN 2 (Code.den ti (spec_l21Any.Γ k) (spec_l21Any.LH k) (loopAt Try.f127 0)) [(3, [some 1])] [(3, [some 1])] K n [.v (.sl 2)] [.cells 137 [.sl 1, .int .i64 xc0_1, .int .i64 xc0_2], .rows 0 false xl1, .rows 1 true xl2] = spec_l21Any.l15 k xc0_1 xc0_2 xl1 (fun (zl2 : List T_impl_Op) => K (.exit 1) (stOf [(3, [some 1])] [.v (.sl 2)] [.cells 137 [.sl 1, .int .i64 xc0_1, .int .i64 xc0_2], .rows 0 false xl1, .rows 1 true zl2])) n xl2
  | 0, _ => rfl
  | n + 1, xl2 => (show loopN 2 (Code.den ti (spec_l21Any.Γ k) (spec_l21Any.LH k) (loopAt Try.f127 0)) [(3, [some 1])] [(3, [some 1])] K (n + 1) [.v (.sl 2)] [.cells 137 [.sl 1, .int .i64 xc0_1, .int .i64 xc0_2], .rows 0 false xl1, .rows 1 true xl2] = spec_l21Any.L15 k xc0_1 xc0_2 xl1 (fun (zl2 : List T_impl_Op) => K (.exit 1) (stOf [(3, [some 1])] [.v (.sl 2)] [.cells 137 [.sl 1, .int .i64 xc0_1, .int .i64 xc0_2], .rows 0 false xl1, .rows 1 true zl2])) (fun (xl2' : List T_impl_Op) => loopN 2 (Code.den ti (spec_l21Any.Γ k) (spec_l21Any.LH k) (loopAt Try.f127 0)) [(3, [some 1])] [(3, [some 1])] K n [.v (.sl 2)] [.cells 137 [.sl 1, .int .i64 xc0_1, .int .i64 xc0_2], .rows 0 false xl1, .rows 1 true xl2']) xl2 by kernel_rfl).trans (congrArg (fun rec => spec_l21Any.L15 k xc0_1 xc0_2 xl1 (fun (zl2 : List T_impl_Op) => K (.exit 1) (stOf [(3, [some 1])] [.v (.sl 2)] [.cells 137 [.sl 1, .int .i64 xc0_1, .int .i64 xc0_2], .rows 0 false xl1, .rows 1 true zl2])) rec xl2) (funext fun xl2' => spec_l21Any.e15 K k xc0_1 xc0_2 xl1 n xl2'))
theorem spec_l21Any.q15 (k : Nat) {R : Type} (K : Ex → St κ → Option R) (vs : List AV) (bs : List (Blk κ)) (r : R) (h : spec_l21Any.h15 k K vs bs = some r) : ∃ n, loopN 2 (Code.den ti (spec_l21Any.Γ k) (spec_l21Any.LH k) (loopAt Try.f127 0)) [(3, [some 1])] [(3, [some 1])] K n vs bs = some r := by
  unfold spec_l21Any.h15 at h
  split at h
  · obtain ⟨_, rfl, h_1⟩ := asO_bind h
    obtain ⟨_, rfl, h_2⟩ := asO_bind h_1
    exact ⟨k, (spec_l21Any.e15 K k _ _ _ k _).trans h_2⟩
  · cases h
theorem spec_l21Any.lok (k : Nat) : LOK ti (spec_l21Any.Γ k) (spec_l21Any.LH k) 2 (loopsOf (bodyOf Try.f127)) :=
  (show loopsOf (bodyOf Try.f127) = [loopAt Try.f127 0] by kernel_rfl) ▸ (LOK_cons (g := ⟨2, [(3, [some 1])], [(3, [some 1])], @spec_l21Any.h15 k⟩) (by kernel_rfl) rfl (fun K vs xs r h => spec_l21Any.q15 k K vs xs r h) (LOK_nil))
def spec_l21Any.sig : List PSh := [.cur 137 [.ro 0, .sc, .sc]]
def spec_l21Any.g (y : Int × Int × List T_impl_Op) : Ret κ := ⟨.v (.sl 2), [.cells 137 [.sl 1, .int .i64 y.1, .int .i64 y.2.1]], [.rows 1 true y.2.2]⟩
def spec_l21Any.out (r : Ret κ) : Option (Int × Int × List T_impl_Op) :=
  match r with
  | ⟨.v (.sl 2), [.cells 137 [.sl 1, .int .i64 z0, .int .i64 z1]], [q2]⟩ => (asO 1 true q2).bind fun z2 => some (z0, z1, z2)
  | _ => none
theorem spec_l21Any.out_ok (r : Ret κ) (y : Int × Int × List T_impl_Op) (h : spec_l21Any.out r = some y) : r = spec_l21Any.g y := by
  unfold spec_l21Any.out at h
  split at h
  · obtain ⟨_, rfl, h_1⟩ := asO_bind h
    obtain rfl := Option.some.inj h_1
    rfl
  · cases h
def spec_l21Any.body (k : Nat) (vs : List AV) (bs : List (Blk κ)) : Option (Lf κ) :=
  match vs, bs with
  | [.v (.ptr 0 0 0)], [.cells 137 [.sl 1, .int .i64 a0_1, .int .i64 a0_2], qb1] => (asO 0 false qb1).bind fun a0_0 => some ⟨Int × Int × List T_impl_Op, spec_l21Any.f k a0_0 a0_1 a0_2, spec_l21Any.g⟩
  | _, _ => none
def spec_l21Any.C (k : Nat) : Nat → List AV → AP κ AV := contract spec_l21Any.sig (spec_l21Any.body k)
theorem spec_l21Any.den (k : Nat) (a0_0 : List Int) (a0_1 : Int) (a0_2 : Int) : Code.den ti (spec_l21Any.Γ k) (spec_l21Any.LH k) (bodyOf Try.f127) (finK ti Try.f127.results.toList [(2, [some 1])] (flags spec_l21Any.sig).length (rwI (flags spec_l21Any.sig) 0) spec_l21Any.out) ⟨envOf (([.v (.ptr 0 0 0)]).zipIdx.map fun q => (q.2, q.1)), hpOf [.cells 137 [.sl 1, .int .i64 a0_1, .int .i64 a0_2], .rows 0 false a0_0], (flags spec_l21Any.sig).length⟩ = spec_l21Any.f k a0_0 a0_1 a0_2 := by kernel_rfl
theorem spec_l21Any.ok (k : Nat) : CSound Try.prog 127 (spec_l21Any.C k) :=
  csound κ_ok mixed tok (spec_l21Any.hΓ k) (LH := spec_l21Any.LH k) (fn := Try.f127) (c := bodyOf Try.f127) Try.func127 rfl Try.call127 spec_l21Any.sig [(2, [some 1])] (spec_l21Any.body k) (by kernel_rfl) (spec_l21Any.lok k) (by decide) fun vs bs lf y hl hb hy => by
    unfold spec_l21Any.body at hb
    split at hb
    · obtain ⟨_, rfl, hb_1⟩ := asO_bind hb
      obtain rfl := Option.some.inj hb_1
      exact ⟨spec_l21Any.out, spec_l21Any.out_ok, (spec_l21Any.den k _ _ _).trans hy⟩
    · cases hb
/-! ### spec_l26Any -/
def spec_l26Any.f (k : Nat) (a0_0 : List Int) (a0_1 : Int) (a0_2 : Int) : Option (Int × Int × Int × Int × Int × Int × List T_impl_Grant × List T_impl_Flow × List T_impl_Rule × List T_impl_Op) :=
  (spec_l1Below.f k a0_0 a0_1 a0_2 (3 : Int)).bind fun t1 => (spec_l26Draw.f k a0_0 t1.2.1 t1.2.2 (w64 ((1 : Int) + t1.1))).bind fun t2 => (spec_l1Below.f k a0_0 t2.2.2.2.2.1 t2.2.2.2.2.2.1 (14 : Int)).bind fun t3 => (bif (t3.1 == (0 : Int)) then (spec_l9Raw.f k a0_0 t3.2.1 t3.2.2).bind fun t4 => some (t4.1, t2.2.1, t2.2.2.1, t2.2.2.2.1, t4.2.1, t4.2.2, t2.2.2.2.2.2.2.1, t2.2.2.2.2.2.2.2.1, t2.2.2.2.2.2.2.2.2.1, t2.2.2.2.2.2.2.2.2.2) else (bif (t3.1 == (1 : Int)) then (spec_l1Int.f k a0_0 t3.2.1 t3.2.2 ([(0 : Int), (9 : Int), (10 : Int)] : List Int)).bind fun t5 => some (t2.1, t5.1, t2.2.2.1, t2.2.2.2.1, t5.2.1, t5.2.2, t2.2.2.2.2.2.2.1, t2.2.2.2.2.2.2.2.1, t2.2.2.2.2.2.2.2.2.1, t2.2.2.2.2.2.2.2.2.2) else (bif (t3.1 == (2 : Int)) then (spec_l1Int.f k a0_0 t3.2.1 t3.2.2 ([(0 : Int), (999 : Int), (1000 : Int)] : List Int)).bind fun t6 => some (t2.1, t2.2.1, t6.1, t2.2.2.2.1, t6.2.1, t6.2.2, t2.2.2.2.2.2.2.1, t2.2.2.2.2.2.2.2.1, t2.2.2.2.2.2.2.2.2.1, t2.2.2.2.2.2.2.2.2.2) else (bif (t3.1 == (3 : Int)) then (spec_l10Any.f k a0_0 t3.2.1 t3.2.2).bind fun t7 => (bif decide ((t2.2.2.2.2.2.2.1.length + ([(⟨t7.1, (⟨t7.2.1, t7.2.2.1⟩ : T_impl_Pattern), t7.2.2.2.1, t7.2.2.2.2.1, t7.2.2.2.2.2.1, t7.2.2.2.2.2.2.1⟩ : T_impl_Grant)] : List T_impl_Grant).length) * 56 ≤ cap48) then (let l8 : List T_impl_Grant := (t2.2.2.2.2.2.2.1 ++ ([(⟨t7.1, (⟨t7.2.1, t7.2.2.1⟩ : T_impl_Pattern), t7.2.2.2.1, t7.2.2.2.2.1, t7.2.2.2.2.2.1, t7.2.2.2.2.2.2.1⟩ : T_impl_Grant)] : List T_impl_Grant)); some (t2.1, t2.2.1, t2.2.2.1, t2.2.2.2.1, t7.2.2.2.2.2.2.2.1, t7.2.2.2.2.2.2.2.2, l8, t2.2.2.2.2.2.2.2.1, t2.2.2.2.2.2.2.2.2.1, t2.2.2.2.2.2.2.2.2.2)) else none) else (bif (t3.1 == (4 : Int)) then (spec_l20Draw.f k a0_0 t3.2.1 t3.2.2).bind fun t9 => (bif decide ((t2.2.2.2.2.2.2.2.1.length + ([(⟨t9.1, t9.2.1, t9.2.2.1⟩ : T_impl_Flow)] : List T_impl_Flow).length) * 24 ≤ cap48) then (let l10 : List T_impl_Flow := (t2.2.2.2.2.2.2.2.1 ++ ([(⟨t9.1, t9.2.1, t9.2.2.1⟩ : T_impl_Flow)] : List T_impl_Flow)); some (t2.1, t2.2.1, t2.2.2.1, t2.2.2.2.1, t9.2.2.2.1, t9.2.2.2.2, t2.2.2.2.2.2.2.1, l10, t2.2.2.2.2.2.2.2.2.1, t2.2.2.2.2.2.2.2.2.2)) else none) else (bif (t3.1 == (5 : Int)) then (spec_l13Any.f k a0_0 t3.2.1 t3.2.2).bind fun t11 => (bif decide ((t2.2.2.2.2.2.2.2.2.1.length + ([(⟨t11.1, t11.2.1, (⟨t11.2.2.1, t11.2.2.2.1⟩ : T_impl_Pattern), t11.2.2.2.2.1, t11.2.2.2.2.2.1, (⟨t11.2.2.2.2.2.2.1, t11.2.2.2.2.2.2.2.1⟩ : T_impl_Site)⟩ : T_impl_Rule)] : List T_impl_Rule).length) * 64 ≤ cap48) then (let l12 : List T_impl_Rule := (t2.2.2.2.2.2.2.2.2.1 ++ ([(⟨t11.1, t11.2.1, (⟨t11.2.2.1, t11.2.2.2.1⟩ : T_impl_Pattern), t11.2.2.2.2.1, t11.2.2.2.2.2.1, (⟨t11.2.2.2.2.2.2.1, t11.2.2.2.2.2.2.2.1⟩ : T_impl_Site)⟩ : T_impl_Rule)] : List T_impl_Rule)); some (t2.1, t2.2.1, t2.2.2.1, t2.2.2.2.1, t11.2.2.2.2.2.2.2.2.1, t11.2.2.2.2.2.2.2.2.2, t2.2.2.2.2.2.2.1, t2.2.2.2.2.2.2.2.1, l12, t2.2.2.2.2.2.2.2.2.2)) else none) else (bif (t3.1 == (6 : Int)) then (spec_l21Any.f k a0_0 t3.2.1 t3.2.2).bind fun t13 => some (t2.1, t2.2.1, t2.2.2.1, t2.2.2.2.1, t13.1, t13.2.1, t2.2.2.2.2.2.2.1, t2.2.2.2.2.2.2.2.1, t2.2.2.2.2.2.2.2.2.1, t13.2.2) else (bif (t3.1 == (7 : Int)) then some (t2.1, t2.2.1, t2.2.2.1, (w64 (t2.2.2.2.1 + (1 : Int))), t3.2.1, t3.2.2, t2.2.2.2.2.2.2.1, t2.2.2.2.2.2.2.2.1, t2.2.2.2.2.2.2.2.2.1, t2.2.2.2.2.2.2.2.2.2) else some (t2.1, t2.2.1, t2.2.2.1, t2.2.2.2.1, t3.2.1, t3.2.2, t2.2.2.2.2.2.2.1, t2.2.2.2.2.2.2.2.1, t2.2.2.2.2.2.2.2.2.1, t2.2.2.2.2.2.2.2.2.2)))))))))
def spec_l26Any.Γ (k : Nat) : Ct κ := assoc [(56, spec_l1Below.C k), (55, spec_l26Draw.C k), (109, spec_l9Raw.C k), (60, spec_l1Int.C k), (125, spec_l10Any.C k), (106, spec_l20Draw.C k), (126, spec_l13Any.C k), (127, spec_l21Any.C k)]
def spec_l26Any.LH (k : Nat) : Nat → Option (LHi κ) := assoc []
theorem spec_l26Any.hΓ (k : Nat) : ∀ f g, spec_l26Any.Γ k f = some g → CSound Try.prog f g := G_cons (spec_l1Below.ok k) (G_cons (spec_l26Draw.ok k) (G_cons (spec_l9Raw.ok k) (G_cons (spec_l1Int.ok k) (G_cons (spec_l10Any.ok k) (G_cons (spec_l20Draw.ok k) (G_cons (spec_l13Any.ok k) (G_cons (spec_l21Any.ok k) G_nil)))))))
theorem spec_l26Any.lok (k : Nat) : LOK ti (spec_l26Any.Γ k) (spec_l26Any.LH k) 2 (loopsOf (bodyOf Try.f86)) :=
  (show loopsOf (bodyOf Try.f86) = [] by kernel_rfl) ▸ LOK_nil
def spec_l26Any.sig : List PSh := [.cur 137 [.ro 0, .sc, .sc]]
def spec_l26Any.g (y : Int × Int × Int × Int × Int × Int × List T_impl_Grant × List T_impl_Flow × List T_impl_Rule × List T_impl_Op) : Ret κ := ⟨.agg [.int .i64 y.1, .int .i64 y.2.1, .int .i64 y.2.2.1, .sl 2, .sl 3, .sl 4, .sl 5, .int .i64 y.2.2.2.1], [.cells 137 [.sl 1, .int .i64 y.2.2.2.2.1, .int .i64 y.2.2.2.2.2.1]], [.rows 2 true y.2.2.2.2.2.2.1, .rows 3 true y.2.2.2.2.2.2.2.1, .rows 4 true y.2.2.2.2.2.2.2.2.1, .rows 1 true y.2.2.2.2.2.2.2.2.2]⟩
def spec_l26Any.out (r : Ret κ) : Option (Int × Int × Int × Int × Int × Int × List T_impl_Grant × List T_impl_Flow × List T_impl_Rule × List T_impl_Op) :=
  match r with
  | ⟨.agg [.int .i64 z0, .int .i64 z1, .int .i64 z2, .sl 2, .sl 3, .sl 4, .sl 5, .int .i64 z3], [.cells 137 [.sl 1, .int .i64 z4, .int .i64 z5]], [q6, q7, q8, q9]⟩ => (asO 2 true q6).bind fun z6 => (asO 3 true q7).bind fun z7 => (asO 4 true q8).bind fun z8 => (asO 1 true q9).bind fun z9 => some (z0, z1, z2, z3, z4, z5, z6, z7, z8, z9)
  | _ => none
theorem spec_l26Any.out_ok (r : Ret κ) (y : Int × Int × Int × Int × Int × Int × List T_impl_Grant × List T_impl_Flow × List T_impl_Rule × List T_impl_Op) (h : spec_l26Any.out r = some y) : r = spec_l26Any.g y := by
  unfold spec_l26Any.out at h
  split at h
  · obtain ⟨_, rfl, h_1⟩ := asO_bind h
    obtain ⟨_, rfl, h_2⟩ := asO_bind h_1
    obtain ⟨_, rfl, h_3⟩ := asO_bind h_2
    obtain ⟨_, rfl, h_4⟩ := asO_bind h_3
    obtain rfl := Option.some.inj h_4
    rfl
  · cases h
def spec_l26Any.body (k : Nat) (vs : List AV) (bs : List (Blk κ)) : Option (Lf κ) :=
  match vs, bs with
  | [.v (.ptr 0 0 0)], [.cells 137 [.sl 1, .int .i64 a0_1, .int .i64 a0_2], qb1] => (asO 0 false qb1).bind fun a0_0 => some ⟨Int × Int × Int × Int × Int × Int × List T_impl_Grant × List T_impl_Flow × List T_impl_Rule × List T_impl_Op, spec_l26Any.f k a0_0 a0_1 a0_2, spec_l26Any.g⟩
  | _, _ => none
def spec_l26Any.C (k : Nat) : Nat → List AV → AP κ AV := contract spec_l26Any.sig (spec_l26Any.body k)
theorem spec_l26Any.den (k : Nat) (a0_0 : List Int) (a0_1 : Int) (a0_2 : Int) : Code.den ti (spec_l26Any.Γ k) (spec_l26Any.LH k) (bodyOf Try.f86) (finK ti Try.f86.results.toList [(2, [none, none, none, some 2, some 3, some 4, some 1, none])] (flags spec_l26Any.sig).length (rwI (flags spec_l26Any.sig) 0) spec_l26Any.out) ⟨envOf (([.v (.ptr 0 0 0)]).zipIdx.map fun q => (q.2, q.1)), hpOf [.cells 137 [.sl 1, .int .i64 a0_1, .int .i64 a0_2], .rows 0 false a0_0], (flags spec_l26Any.sig).length⟩ = spec_l26Any.f k a0_0 a0_1 a0_2 := by kernel_rfl
theorem spec_l26Any.ok (k : Nat) : CSound Try.prog 86 (spec_l26Any.C k) :=
  csound κ_ok mixed tok (spec_l26Any.hΓ k) (LH := spec_l26Any.LH k) (fn := Try.f86) (c := bodyOf Try.f86) Try.func86 rfl Try.call86 spec_l26Any.sig [(2, [none, none, none, some 2, some 3, some 4, some 1, none])] (spec_l26Any.body k) (by kernel_rfl) (spec_l26Any.lok k) (by decide) fun vs bs lf y hl hb hy => by
    unfold spec_l26Any.body at hb
    split at hb
    · obtain ⟨_, rfl, hb_1⟩ := asO_bind hb
      obtain rfl := Option.some.inj hb_1
      exact ⟨spec_l26Any.out, spec_l26Any.out_ok, (spec_l26Any.den k _ _ _).trans hy⟩
    · cases hb
/-! ### spec_DrawSealPackage -/
def spec_DrawSealPackage.f (k : Nat) (a0 : List Int) : Option (Int × Int × Int × Int × Int × List T_impl_Grant × List T_impl_Flow × List T_impl_Rule × List T_impl_Op) :=
  (spec_l1New.f k a0).bind fun t1 => (spec_l26Any.f k a0 t1.1 t1.2).bind fun t2 => (spec_l1Int.f k a0 t2.2.2.2.2.1 t2.2.2.2.2.2.1 ([(5 : Int), (5 : Int), (77 : Int), (0 : Int)] : List Int)).bind fun t3 => some (t3.1, t2.1, t2.2.1, t2.2.2.1, t2.2.2.2.1, t2.2.2.2.2.2.2.1, t2.2.2.2.2.2.2.2.1, t2.2.2.2.2.2.2.2.2.1, t2.2.2.2.2.2.2.2.2.2)
def spec_DrawSealPackage.Γ (k : Nat) : Ct κ := assoc [(54, spec_l1New.C k), (86, spec_l26Any.C k), (60, spec_l1Int.C k)]
def spec_DrawSealPackage.LH (k : Nat) : Nat → Option (LHi κ) := assoc []
theorem spec_DrawSealPackage.hΓ (k : Nat) : ∀ f g, spec_DrawSealPackage.Γ k f = some g → CSound Try.prog f g := G_cons (spec_l1New.ok k) (G_cons (spec_l26Any.ok k) (G_cons (spec_l1Int.ok k) G_nil))
theorem spec_DrawSealPackage.lok (k : Nat) : LOK ti (spec_DrawSealPackage.Γ k) (spec_DrawSealPackage.LH k) 1 (loopsOf (bodyOf Try.f30)) :=
  (show loopsOf (bodyOf Try.f30) = [] by kernel_rfl) ▸ LOK_nil
def spec_DrawSealPackage.sig : List PSh := [.one (.ro 0)]
def spec_DrawSealPackage.g (y : Int × Int × Int × Int × Int × List T_impl_Grant × List T_impl_Flow × List T_impl_Rule × List T_impl_Op) : Ret κ := ⟨.tup [(false, [.int .i64 y.1]), (true, [.int .i64 y.2.1, .int .i64 y.2.2.1, .int .i64 y.2.2.2.1, .sl 1, .sl 2, .sl 3, .sl 4, .int .i64 y.2.2.2.2.1])], [], [.rows 2 true y.2.2.2.2.2.1, .rows 3 true y.2.2.2.2.2.2.1, .rows 4 true y.2.2.2.2.2.2.2.1, .rows 1 true y.2.2.2.2.2.2.2.2]⟩
def spec_DrawSealPackage.out (r : Ret κ) : Option (Int × Int × Int × Int × Int × List T_impl_Grant × List T_impl_Flow × List T_impl_Rule × List T_impl_Op) :=
  match r with
  | ⟨.tup [(false, [.int .i64 z0]), (true, [.int .i64 z1, .int .i64 z2, .int .i64 z3, .sl 1, .sl 2, .sl 3, .sl 4, .int .i64 z4])], [], [q5, q6, q7, q8]⟩ => (asO 2 true q5).bind fun z5 => (asO 3 true q6).bind fun z6 => (asO 4 true q7).bind fun z7 => (asO 1 true q8).bind fun z8 => some (z0, z1, z2, z3, z4, z5, z6, z7, z8)
  | _ => none
theorem spec_DrawSealPackage.out_ok (r : Ret κ) (y : Int × Int × Int × Int × Int × List T_impl_Grant × List T_impl_Flow × List T_impl_Rule × List T_impl_Op) (h : spec_DrawSealPackage.out r = some y) : r = spec_DrawSealPackage.g y := by
  unfold spec_DrawSealPackage.out at h
  split at h
  · obtain ⟨_, rfl, h_1⟩ := asO_bind h
    obtain ⟨_, rfl, h_2⟩ := asO_bind h_1
    obtain ⟨_, rfl, h_3⟩ := asO_bind h_2
    obtain ⟨_, rfl, h_4⟩ := asO_bind h_3
    obtain rfl := Option.some.inj h_4
    rfl
  · cases h
def spec_DrawSealPackage.body (k : Nat) (vs : List AV) (bs : List (Blk κ)) : Option (Lf κ) :=
  match vs, bs with
  | [.v (.sl 0)], [qb0] => (asO 0 false qb0).bind fun a0 => some ⟨Int × Int × Int × Int × Int × List T_impl_Grant × List T_impl_Flow × List T_impl_Rule × List T_impl_Op, spec_DrawSealPackage.f k a0, spec_DrawSealPackage.g⟩
  | _, _ => none
def spec_DrawSealPackage.C (k : Nat) : Nat → List AV → AP κ AV := contract spec_DrawSealPackage.sig (spec_DrawSealPackage.body k)
theorem spec_DrawSealPackage.den (k : Nat) (a0 : List Int) : Code.den ti (spec_DrawSealPackage.Γ k) (spec_DrawSealPackage.LH k) (bodyOf Try.f30) (finK ti Try.f30.results.toList [(3, [none, none, none, some 2, some 3, some 4, some 1, none])] (flags spec_DrawSealPackage.sig).length (rwI (flags spec_DrawSealPackage.sig) 0) spec_DrawSealPackage.out) ⟨envOf (([.v (.sl 0)]).zipIdx.map fun q => (q.2, q.1)), hpOf [.rows 0 false a0], (flags spec_DrawSealPackage.sig).length⟩ = spec_DrawSealPackage.f k a0 := by kernel_rfl
theorem spec_DrawSealPackage.ok (k : Nat) : CSound Try.prog 30 (spec_DrawSealPackage.C k) :=
  csound κ_ok mixed tok (spec_DrawSealPackage.hΓ k) (LH := spec_DrawSealPackage.LH k) (fn := Try.f30) (c := bodyOf Try.f30) Try.func30 rfl Try.call30 spec_DrawSealPackage.sig [(3, [none, none, none, some 2, some 3, some 4, some 1, none])] (spec_DrawSealPackage.body k) (by kernel_rfl) (spec_DrawSealPackage.lok k) (by decide) fun vs bs lf y hl hb hy => by
    unfold spec_DrawSealPackage.body at hb
    split at hb
    · obtain ⟨_, rfl, hb_1⟩ := asO_bind hb
      obtain rfl := Option.some.inj hb_1
      exact ⟨spec_DrawSealPackage.out, spec_DrawSealPackage.out_ok, (spec_DrawSealPackage.den k _).trans hy⟩
    · cases hb
/-! ### slices_Clone_Grant -/
def slices_Clone_Grant.f (k : Nat) (l : List T_impl_Grant) : Option (List T_impl_Grant) := cloneF 2 κ l
def slices_Clone_Grant.C (k : Nat) : Nat → List AV → AP κ AV := contract [.one (.ro 2)] (cloneB 2 κ)
theorem slices_Clone_Grant.ok (k : Nat) : CSound Try.prog 110 (slices_Clone_Grant.C k) :=
  clone_sound κ_ok mixed tok (fn := Try.f110) 2 Try.func110 rfl Try.call110 rfl rfl rfl rfl rfl rfl Try.underlying24 rfl (by kernel_rfl) (by kernel_rfl) (by kernel_rfl) rfl rfl rfl (fun l => by kernel_rfl) (fun q l => by cases q <;> kernel_rfl)
/-! ### slices_Clone_Flow -/
def slices_Clone_Flow.f (k : Nat) (l : List T_impl_Flow) : Option (List T_impl_Flow) := cloneF 3 κ l
def slices_Clone_Flow.C (k : Nat) : Nat → List AV → AP κ AV := contract [.one (.ro 3)] (cloneB 3 κ)
theorem slices_Clone_Flow.ok (k : Nat) : CSound Try.prog 111 (slices_Clone_Flow.C k) :=
  clone_sound κ_ok mixed tok (fn := Try.f111) 3 Try.func111 rfl Try.call111 rfl rfl rfl rfl rfl rfl Try.underlying25 rfl (by kernel_rfl) (by kernel_rfl) (by kernel_rfl) rfl rfl rfl (fun l => by kernel_rfl) (fun q l => by cases q <;> kernel_rfl)
/-! ### slices_Clone_Rule -/
def slices_Clone_Rule.f (k : Nat) (l : List T_impl_Rule) : Option (List T_impl_Rule) := cloneF 4 κ l
def slices_Clone_Rule.C (k : Nat) : Nat → List AV → AP κ AV := contract [.one (.ro 4)] (cloneB 4 κ)
theorem slices_Clone_Rule.ok (k : Nat) : CSound Try.prog 112 (slices_Clone_Rule.C k) :=
  clone_sound κ_ok mixed tok (fn := Try.f112) 4 Try.func112 rfl Try.call112 rfl rfl rfl rfl rfl rfl Try.underlying26 rfl (by kernel_rfl) (by kernel_rfl) (by kernel_rfl) rfl rfl rfl (fun l => by kernel_rfl) (fun q l => by cases q <;> kernel_rfl)
/-! ### slices_Clone_Op -/
def slices_Clone_Op.f (k : Nat) (l : List T_impl_Op) : Option (List T_impl_Op) := cloneF 1 κ l
def slices_Clone_Op.C (k : Nat) : Nat → List AV → AP κ AV := contract [.one (.ro 1)] (cloneB 1 κ)
theorem slices_Clone_Op.ok (k : Nat) : CSound Try.prog 113 (slices_Clone_Op.C k) :=
  clone_sound κ_ok mixed tok (fn := Try.f113) 1 Try.func113 rfl Try.call113 rfl rfl rfl rfl rfl rfl Try.underlying27 rfl (by kernel_rfl) (by kernel_rfl) (by kernel_rfl) rfl rfl rfl (fun l => by kernel_rfl) (fun q l => by cases q <;> kernel_rfl)
/-! ### impl_clonePackage -/
def impl_clonePackage.f (k : Nat) (a0_0 : Int) (a0_1 : Int) (a0_2 : Int) (a0_3 : List T_impl_Grant) (a0_4 : List T_impl_Flow) (a0_5 : List T_impl_Rule) (a0_6 : List T_impl_Op) (a0_7 : Int) : Option (Int × Int × Int × Int × List T_impl_Grant × List T_impl_Flow × List T_impl_Rule × List T_impl_Op) :=
  (slices_Clone_Grant.f k a0_3).bind fun t1 => (slices_Clone_Flow.f k a0_4).bind fun t2 => (slices_Clone_Rule.f k a0_5).bind fun t3 => (slices_Clone_Op.f k a0_6).bind fun t4 => some (a0_0, a0_1, a0_2, a0_7, t1, t2, t3, t4)
def impl_clonePackage.Γ (k : Nat) : Ct κ := assoc [(110, slices_Clone_Grant.C k), (111, slices_Clone_Flow.C k), (112, slices_Clone_Rule.C k), (113, slices_Clone_Op.C k)]
def impl_clonePackage.LH (k : Nat) : Nat → Option (LHi κ) := assoc []
theorem impl_clonePackage.hΓ (k : Nat) : ∀ f g, impl_clonePackage.Γ k f = some g → CSound Try.prog f g := G_cons (slices_Clone_Grant.ok k) (G_cons (slices_Clone_Flow.ok k) (G_cons (slices_Clone_Rule.ok k) (G_cons (slices_Clone_Op.ok k) G_nil)))
theorem impl_clonePackage.lok (k : Nat) : LOK ti (impl_clonePackage.Γ k) (impl_clonePackage.LH k) 4 (loopsOf (bodyOf Try.f61)) :=
  (show loopsOf (bodyOf Try.f61) = [] by kernel_rfl) ▸ LOK_nil
def impl_clonePackage.sig : List PSh := [.agg [.sc, .sc, .sc, .ro 2, .ro 3, .ro 4, .ro 1, .sc]]
def impl_clonePackage.g (y : Int × Int × Int × Int × List T_impl_Grant × List T_impl_Flow × List T_impl_Rule × List T_impl_Op) : Ret κ := ⟨.agg [.int .i64 y.1, .int .i64 y.2.1, .int .i64 y.2.2.1, .sl 4, .sl 5, .sl 6, .sl 7, .int .i64 y.2.2.2.1], [], [.rows 2 true y.2.2.2.2.1, .rows 3 true y.2.2.2.2.2.1, .rows 4 true y.2.2.2.2.2.2.1, .rows 1 true y.2.2.2.2.2.2.2]⟩
def impl_clonePackage.out (r : Ret κ) : Option (Int × Int × Int × Int × List T_impl_Grant × List T_impl_Flow × List T_impl_Rule × List T_impl_Op) :=
  match r with
  | ⟨.agg [.int .i64 z0, .int .i64 z1, .int .i64 z2, .sl 4, .sl 5, .sl 6, .sl 7, .int .i64 z3], [], [q4, q5, q6, q7]⟩ => (asO 2 true q4).bind fun z4 => (asO 3 true q5).bind fun z5 => (asO 4 true q6).bind fun z6 => (asO 1 true q7).bind fun z7 => some (z0, z1, z2, z3, z4, z5, z6, z7)
  | _ => none
theorem impl_clonePackage.out_ok (r : Ret κ) (y : Int × Int × Int × Int × List T_impl_Grant × List T_impl_Flow × List T_impl_Rule × List T_impl_Op) (h : impl_clonePackage.out r = some y) : r = impl_clonePackage.g y := by
  unfold impl_clonePackage.out at h
  split at h
  · obtain ⟨_, rfl, h_1⟩ := asO_bind h
    obtain ⟨_, rfl, h_2⟩ := asO_bind h_1
    obtain ⟨_, rfl, h_3⟩ := asO_bind h_2
    obtain ⟨_, rfl, h_4⟩ := asO_bind h_3
    obtain rfl := Option.some.inj h_4
    rfl
  · cases h
def impl_clonePackage.body (k : Nat) (vs : List AV) (bs : List (Blk κ)) : Option (Lf κ) :=
  match vs, bs with
  | [.agg [.int .i64 a0_0, .int .i64 a0_1, .int .i64 a0_2, .sl 0, .sl 1, .sl 2, .sl 3, .int .i64 a0_7]], [qb0, qb1, qb2, qb3] => (asO 2 false qb0).bind fun a0_3 => (asO 3 false qb1).bind fun a0_4 => (asO 4 false qb2).bind fun a0_5 => (asO 1 false qb3).bind fun a0_6 => some ⟨Int × Int × Int × Int × List T_impl_Grant × List T_impl_Flow × List T_impl_Rule × List T_impl_Op, impl_clonePackage.f k a0_0 a0_1 a0_2 a0_3 a0_4 a0_5 a0_6 a0_7, impl_clonePackage.g⟩
  | _, _ => none
def impl_clonePackage.C (k : Nat) : Nat → List AV → AP κ AV := contract impl_clonePackage.sig (impl_clonePackage.body k)
theorem impl_clonePackage.den (k : Nat) (a0_0 : Int) (a0_1 : Int) (a0_2 : Int) (a0_3 : List T_impl_Grant) (a0_4 : List T_impl_Flow) (a0_5 : List T_impl_Rule) (a0_6 : List T_impl_Op) (a0_7 : Int) : Code.den ti (impl_clonePackage.Γ k) (impl_clonePackage.LH k) (bodyOf Try.f61) (finK ti Try.f61.results.toList [(2, [none, none, none, some 2, some 3, some 4, some 1, none])] (flags impl_clonePackage.sig).length (rwI (flags impl_clonePackage.sig) 0) impl_clonePackage.out) ⟨envOf (([.agg [.int .i64 a0_0, .int .i64 a0_1, .int .i64 a0_2, .sl 0, .sl 1, .sl 2, .sl 3, .int .i64 a0_7]]).zipIdx.map fun q => (q.2, q.1)), hpOf [.rows 2 false a0_3, .rows 3 false a0_4, .rows 4 false a0_5, .rows 1 false a0_6], (flags impl_clonePackage.sig).length⟩ = impl_clonePackage.f k a0_0 a0_1 a0_2 a0_3 a0_4 a0_5 a0_6 a0_7 := by kernel_rfl
theorem impl_clonePackage.ok (k : Nat) : CSound Try.prog 61 (impl_clonePackage.C k) :=
  csound κ_ok mixed tok (impl_clonePackage.hΓ k) (LH := impl_clonePackage.LH k) (fn := Try.f61) (c := bodyOf Try.f61) Try.func61 rfl Try.call61 impl_clonePackage.sig [(2, [none, none, none, some 2, some 3, some 4, some 1, none])] (impl_clonePackage.body k) (by kernel_rfl) (impl_clonePackage.lok k) (by decide) fun vs bs lf y hl hb hy => by
    unfold impl_clonePackage.body at hb
    split at hb
    · obtain ⟨_, rfl, hb_1⟩ := asO_bind hb
      obtain ⟨_, rfl, hb_2⟩ := asO_bind hb_1
      obtain ⟨_, rfl, hb_3⟩ := asO_bind hb_2
      obtain ⟨_, rfl, hb_4⟩ := asO_bind hb_3
      obtain rfl := Option.some.inj hb_4
      exact ⟨impl_clonePackage.out, impl_clonePackage.out_ok, (impl_clonePackage.den k _ _ _ _ _ _ _ _).trans hy⟩
    · cases hb
/-! ### impl_InRange -/
def impl_InRange.f (k : Nat) (a0 : Int) (a1 : Int) (a2 : Int) : Option Bool :=
  (bif decide (a1 ≤ a0) then some (decide (a0 ≤ a2)) else some false)
def impl_InRange.Γ (k : Nat) : Ct κ := assoc []
def impl_InRange.LH (k : Nat) : Nat → Option (LHi κ) := assoc []
theorem impl_InRange.hΓ (k : Nat) : ∀ f g, impl_InRange.Γ k f = some g → CSound Try.prog f g := G_nil
theorem impl_InRange.lok (k : Nat) : LOK ti (impl_InRange.Γ k) (impl_InRange.LH k) 0 (loopsOf (bodyOf Try.f62)) :=
  (show loopsOf (bodyOf Try.f62) = [] by kernel_rfl) ▸ LOK_nil
def impl_InRange.sig : List PSh := [.one .sc, .one .sc, .one .sc]
def impl_InRange.g (y : Bool) : Ret κ := ⟨.v (.bool y), [], []⟩
def impl_InRange.out (r : Ret κ) : Option Bool :=
  match r with
  | ⟨.v (.bool z0), [], []⟩ => some (z0)
  | _ => none
theorem impl_InRange.out_ok (r : Ret κ) (y : Bool) (h : impl_InRange.out r = some y) : r = impl_InRange.g y := by
  unfold impl_InRange.out at h
  split at h
  · obtain rfl := Option.some.inj h
    rfl
  · cases h
def impl_InRange.body (k : Nat) (vs : List AV) (bs : List (Blk κ)) : Option (Lf κ) :=
  match vs, bs with
  | [.v (.int .i64 a0), .v (.int .i64 a1), .v (.int .i64 a2)], [] => some ⟨Bool, impl_InRange.f k a0 a1 a2, impl_InRange.g⟩
  | _, _ => none
def impl_InRange.C (k : Nat) : Nat → List AV → AP κ AV := contract impl_InRange.sig (impl_InRange.body k)
theorem impl_InRange.den (k : Nat) (a0 : Int) (a1 : Int) (a2 : Int) : Code.den ti (impl_InRange.Γ k) (impl_InRange.LH k) (bodyOf Try.f62) (finK ti Try.f62.results.toList [] (flags impl_InRange.sig).length (rwI (flags impl_InRange.sig) 0) impl_InRange.out) ⟨envOf (([.v (.int .i64 a0), .v (.int .i64 a1), .v (.int .i64 a2)]).zipIdx.map fun q => (q.2, q.1)), hpOf [], (flags impl_InRange.sig).length⟩ = impl_InRange.f k a0 a1 a2 := by kernel_rfl
theorem impl_InRange.ok (k : Nat) : CSound Try.prog 62 (impl_InRange.C k) :=
  csound κ_ok mixed tok (impl_InRange.hΓ k) (LH := impl_InRange.LH k) (fn := Try.f62) (c := bodyOf Try.f62) Try.func62 rfl Try.call62 impl_InRange.sig [] (impl_InRange.body k) (by kernel_rfl) (impl_InRange.lok k) (by decide) fun vs bs lf y hl hb hy => by
    unfold impl_InRange.body at hb
    split at hb
    · obtain rfl := Option.some.inj hb
      exact ⟨impl_InRange.out, impl_InRange.out_ok, (impl_InRange.den k _ _ _).trans hy⟩
    · cases hb
/-! ### impl_IsValidKey -/
def impl_IsValidKey.f (k : Nat) (a0 : Int) : Option Bool :=
  (impl_InRange.f k a0 (1 : Int) (2147483646 : Int)).bind fun t1 => some t1
def impl_IsValidKey.Γ (k : Nat) : Ct κ := assoc [(62, impl_InRange.C k)]
def impl_IsValidKey.LH (k : Nat) : Nat → Option (LHi κ) := assoc []
theorem impl_IsValidKey.hΓ (k : Nat) : ∀ f g, impl_IsValidKey.Γ k f = some g → CSound Try.prog f g := G_cons (impl_InRange.ok k) G_nil
theorem impl_IsValidKey.lok (k : Nat) : LOK ti (impl_IsValidKey.Γ k) (impl_IsValidKey.LH k) 0 (loopsOf (bodyOf Try.f33)) :=
  (show loopsOf (bodyOf Try.f33) = [] by kernel_rfl) ▸ LOK_nil
def impl_IsValidKey.sig : List PSh := [.one .sc]
def impl_IsValidKey.g (y : Bool) : Ret κ := ⟨.v (.bool y), [], []⟩
def impl_IsValidKey.out (r : Ret κ) : Option Bool :=
  match r with
  | ⟨.v (.bool z0), [], []⟩ => some (z0)
  | _ => none
theorem impl_IsValidKey.out_ok (r : Ret κ) (y : Bool) (h : impl_IsValidKey.out r = some y) : r = impl_IsValidKey.g y := by
  unfold impl_IsValidKey.out at h
  split at h
  · obtain rfl := Option.some.inj h
    rfl
  · cases h
def impl_IsValidKey.body (k : Nat) (vs : List AV) (bs : List (Blk κ)) : Option (Lf κ) :=
  match vs, bs with
  | [.v (.int .i64 a0)], [] => some ⟨Bool, impl_IsValidKey.f k a0, impl_IsValidKey.g⟩
  | _, _ => none
def impl_IsValidKey.C (k : Nat) : Nat → List AV → AP κ AV := contract impl_IsValidKey.sig (impl_IsValidKey.body k)
theorem impl_IsValidKey.den (k : Nat) (a0 : Int) : Code.den ti (impl_IsValidKey.Γ k) (impl_IsValidKey.LH k) (bodyOf Try.f33) (finK ti Try.f33.results.toList [] (flags impl_IsValidKey.sig).length (rwI (flags impl_IsValidKey.sig) 0) impl_IsValidKey.out) ⟨envOf (([.v (.int .i64 a0)]).zipIdx.map fun q => (q.2, q.1)), hpOf [], (flags impl_IsValidKey.sig).length⟩ = impl_IsValidKey.f k a0 := by kernel_rfl
theorem impl_IsValidKey.ok (k : Nat) : CSound Try.prog 33 (impl_IsValidKey.C k) :=
  csound κ_ok mixed tok (impl_IsValidKey.hΓ k) (LH := impl_IsValidKey.LH k) (fn := Try.f33) (c := bodyOf Try.f33) Try.func33 rfl Try.call33 impl_IsValidKey.sig [] (impl_IsValidKey.body k) (by kernel_rfl) (impl_IsValidKey.lok k) (by decide) fun vs bs lf y hl hb hy => by
    unfold impl_IsValidKey.body at hb
    split at hb
    · obtain rfl := Option.some.inj hb
      exact ⟨impl_IsValidKey.out, impl_IsValidKey.out_ok, (impl_IsValidKey.den k _).trans hy⟩
    · cases hb
/-! ### impl_IsPattern -/
def impl_IsPattern.f (k : Nat) (a0_0 : Int) (a0_1 : Int) : Option Bool :=
  (impl_InRange.f k a0_0 (0 : Int) (9 : Int)).bind fun t1 => (bif t1 then (impl_InRange.f k a0_1 (-1 : Int) (9 : Int)).bind fun t2 => some t2 else some false)
def impl_IsPattern.Γ (k : Nat) : Ct κ := assoc [(62, impl_InRange.C k)]
def impl_IsPattern.LH (k : Nat) : Nat → Option (LHi κ) := assoc []
theorem impl_IsPattern.hΓ (k : Nat) : ∀ f g, impl_IsPattern.Γ k f = some g → CSound Try.prog f g := G_cons (impl_InRange.ok k) G_nil
theorem impl_IsPattern.lok (k : Nat) : LOK ti (impl_IsPattern.Γ k) (impl_IsPattern.LH k) 0 (loopsOf (bodyOf Try.f128)) :=
  (show loopsOf (bodyOf Try.f128) = [] by kernel_rfl) ▸ LOK_nil
def impl_IsPattern.sig : List PSh := [.agg [.sc, .sc]]
def impl_IsPattern.g (y : Bool) : Ret κ := ⟨.v (.bool y), [], []⟩
def impl_IsPattern.out (r : Ret κ) : Option Bool :=
  match r with
  | ⟨.v (.bool z0), [], []⟩ => some (z0)
  | _ => none
theorem impl_IsPattern.out_ok (r : Ret κ) (y : Bool) (h : impl_IsPattern.out r = some y) : r = impl_IsPattern.g y := by
  unfold impl_IsPattern.out at h
  split at h
  · obtain rfl := Option.some.inj h
    rfl
  · cases h
def impl_IsPattern.body (k : Nat) (vs : List AV) (bs : List (Blk κ)) : Option (Lf κ) :=
  match vs, bs with
  | [.agg [.int .i64 a0_0, .int .i64 a0_1]], [] => some ⟨Bool, impl_IsPattern.f k a0_0 a0_1, impl_IsPattern.g⟩
  | _, _ => none
def impl_IsPattern.C (k : Nat) : Nat → List AV → AP κ AV := contract impl_IsPattern.sig (impl_IsPattern.body k)
theorem impl_IsPattern.den (k : Nat) (a0_0 : Int) (a0_1 : Int) : Code.den ti (impl_IsPattern.Γ k) (impl_IsPattern.LH k) (bodyOf Try.f128) (finK ti Try.f128.results.toList [] (flags impl_IsPattern.sig).length (rwI (flags impl_IsPattern.sig) 0) impl_IsPattern.out) ⟨envOf (([.agg [.int .i64 a0_0, .int .i64 a0_1]]).zipIdx.map fun q => (q.2, q.1)), hpOf [], (flags impl_IsPattern.sig).length⟩ = impl_IsPattern.f k a0_0 a0_1 := by kernel_rfl
theorem impl_IsPattern.ok (k : Nat) : CSound Try.prog 128 (impl_IsPattern.C k) :=
  csound κ_ok mixed tok (impl_IsPattern.hΓ k) (LH := impl_IsPattern.LH k) (fn := Try.f128) (c := bodyOf Try.f128) Try.func128 rfl Try.call128 impl_IsPattern.sig [] (impl_IsPattern.body k) (by kernel_rfl) (impl_IsPattern.lok k) (by decide) fun vs bs lf y hl hb hy => by
    unfold impl_IsPattern.body at hb
    split at hb
    · obtain rfl := Option.some.inj hb
      exact ⟨impl_IsPattern.out, impl_IsPattern.out_ok, (impl_IsPattern.den k _ _).trans hy⟩
    · cases hb
/-! ### impl_IsGrant -/
def impl_IsGrant.f (k : Nat) (a0_0 : Int) (a0_1 : Int) (a0_2 : Int) (a0_3 : Int) (a0_4 : Int) (a0_5 : Int) (a0_6 : Bool) : Option Bool :=
  (impl_InRange.f k a0_0 (1 : Int) (5 : Int)).bind fun t1 => (bif t1 then (impl_IsPattern.f k a0_1 a0_2).bind fun t2 => (bif t2 then (impl_InRange.f k a0_3 (1 : Int) (4 : Int)).bind fun t3 => (bif t3 then (bif decide ((0 : Int) ≤ a0_4) then (bif decide (a0_4 ≤ a0_5) then some (decide (a0_5 ≤ (10000 : Int))) else some false) else some false) else some false) else some false) else some false)
def impl_IsGrant.Γ (k : Nat) : Ct κ := assoc [(62, impl_InRange.C k), (128, impl_IsPattern.C k)]
def impl_IsGrant.LH (k : Nat) : Nat → Option (LHi κ) := assoc []
theorem impl_IsGrant.hΓ (k : Nat) : ∀ f g, impl_IsGrant.Γ k f = some g → CSound Try.prog f g := G_cons (impl_InRange.ok k) (G_cons (impl_IsPattern.ok k) G_nil)
theorem impl_IsGrant.lok (k : Nat) : LOK ti (impl_IsGrant.Γ k) (impl_IsGrant.LH k) 0 (loopsOf (bodyOf Try.f87)) :=
  (show loopsOf (bodyOf Try.f87) = [] by kernel_rfl) ▸ LOK_nil
def impl_IsGrant.sig : List PSh := [.agg [.sc, .sc, .sc, .sc, .sc, .sc, .sc]]
def impl_IsGrant.g (y : Bool) : Ret κ := ⟨.v (.bool y), [], []⟩
def impl_IsGrant.out (r : Ret κ) : Option Bool :=
  match r with
  | ⟨.v (.bool z0), [], []⟩ => some (z0)
  | _ => none
theorem impl_IsGrant.out_ok (r : Ret κ) (y : Bool) (h : impl_IsGrant.out r = some y) : r = impl_IsGrant.g y := by
  unfold impl_IsGrant.out at h
  split at h
  · obtain rfl := Option.some.inj h
    rfl
  · cases h
def impl_IsGrant.body (k : Nat) (vs : List AV) (bs : List (Blk κ)) : Option (Lf κ) :=
  match vs, bs with
  | [.agg [.int .i64 a0_0, .int .i64 a0_1, .int .i64 a0_2, .int .i64 a0_3, .int .i64 a0_4, .int .i64 a0_5, .bool a0_6]], [] => some ⟨Bool, impl_IsGrant.f k a0_0 a0_1 a0_2 a0_3 a0_4 a0_5 a0_6, impl_IsGrant.g⟩
  | _, _ => none
def impl_IsGrant.C (k : Nat) : Nat → List AV → AP κ AV := contract impl_IsGrant.sig (impl_IsGrant.body k)
theorem impl_IsGrant.den (k : Nat) (a0_0 : Int) (a0_1 : Int) (a0_2 : Int) (a0_3 : Int) (a0_4 : Int) (a0_5 : Int) (a0_6 : Bool) : Code.den ti (impl_IsGrant.Γ k) (impl_IsGrant.LH k) (bodyOf Try.f87) (finK ti Try.f87.results.toList [] (flags impl_IsGrant.sig).length (rwI (flags impl_IsGrant.sig) 0) impl_IsGrant.out) ⟨envOf (([.agg [.int .i64 a0_0, .int .i64 a0_1, .int .i64 a0_2, .int .i64 a0_3, .int .i64 a0_4, .int .i64 a0_5, .bool a0_6]]).zipIdx.map fun q => (q.2, q.1)), hpOf [], (flags impl_IsGrant.sig).length⟩ = impl_IsGrant.f k a0_0 a0_1 a0_2 a0_3 a0_4 a0_5 a0_6 := by kernel_rfl
theorem impl_IsGrant.ok (k : Nat) : CSound Try.prog 87 (impl_IsGrant.C k) :=
  csound κ_ok mixed tok (impl_IsGrant.hΓ k) (LH := impl_IsGrant.LH k) (fn := Try.f87) (c := bodyOf Try.f87) Try.func87 rfl Try.call87 impl_IsGrant.sig [] (impl_IsGrant.body k) (by kernel_rfl) (impl_IsGrant.lok k) (by decide) fun vs bs lf y hl hb hy => by
    unfold impl_IsGrant.body at hb
    split at hb
    · obtain rfl := Option.some.inj hb
      exact ⟨impl_IsGrant.out, impl_IsGrant.out_ok, (impl_IsGrant.den k _ _ _ _ _ _ _).trans hy⟩
    · cases hb
/-! ### impl_IsFlow -/
def impl_IsFlow.f (k : Nat) (a0_0 : Int) (a0_1 : Int) (a0_2 : Int) : Option Bool :=
  (impl_InRange.f k a0_0 (1 : Int) (5 : Int)).bind fun t1 => (bif t1 then (impl_InRange.f k a0_1 (1 : Int) (9 : Int)).bind fun t2 => (bif t2 then (impl_InRange.f k a0_2 (1 : Int) (9 : Int)).bind fun t3 => some t3 else some false) else some false)
def impl_IsFlow.Γ (k : Nat) : Ct κ := assoc [(62, impl_InRange.C k)]
def impl_IsFlow.LH (k : Nat) : Nat → Option (LHi κ) := assoc []
theorem impl_IsFlow.hΓ (k : Nat) : ∀ f g, impl_IsFlow.Γ k f = some g → CSound Try.prog f g := G_cons (impl_InRange.ok k) G_nil
theorem impl_IsFlow.lok (k : Nat) : LOK ti (impl_IsFlow.Γ k) (impl_IsFlow.LH k) 0 (loopsOf (bodyOf Try.f88)) :=
  (show loopsOf (bodyOf Try.f88) = [] by kernel_rfl) ▸ LOK_nil
def impl_IsFlow.sig : List PSh := [.agg [.sc, .sc, .sc]]
def impl_IsFlow.g (y : Bool) : Ret κ := ⟨.v (.bool y), [], []⟩
def impl_IsFlow.out (r : Ret κ) : Option Bool :=
  match r with
  | ⟨.v (.bool z0), [], []⟩ => some (z0)
  | _ => none
theorem impl_IsFlow.out_ok (r : Ret κ) (y : Bool) (h : impl_IsFlow.out r = some y) : r = impl_IsFlow.g y := by
  unfold impl_IsFlow.out at h
  split at h
  · obtain rfl := Option.some.inj h
    rfl
  · cases h
def impl_IsFlow.body (k : Nat) (vs : List AV) (bs : List (Blk κ)) : Option (Lf κ) :=
  match vs, bs with
  | [.agg [.int .i64 a0_0, .int .i64 a0_1, .int .i64 a0_2]], [] => some ⟨Bool, impl_IsFlow.f k a0_0 a0_1 a0_2, impl_IsFlow.g⟩
  | _, _ => none
def impl_IsFlow.C (k : Nat) : Nat → List AV → AP κ AV := contract impl_IsFlow.sig (impl_IsFlow.body k)
theorem impl_IsFlow.den (k : Nat) (a0_0 : Int) (a0_1 : Int) (a0_2 : Int) : Code.den ti (impl_IsFlow.Γ k) (impl_IsFlow.LH k) (bodyOf Try.f88) (finK ti Try.f88.results.toList [] (flags impl_IsFlow.sig).length (rwI (flags impl_IsFlow.sig) 0) impl_IsFlow.out) ⟨envOf (([.agg [.int .i64 a0_0, .int .i64 a0_1, .int .i64 a0_2]]).zipIdx.map fun q => (q.2, q.1)), hpOf [], (flags impl_IsFlow.sig).length⟩ = impl_IsFlow.f k a0_0 a0_1 a0_2 := by kernel_rfl
theorem impl_IsFlow.ok (k : Nat) : CSound Try.prog 88 (impl_IsFlow.C k) :=
  csound κ_ok mixed tok (impl_IsFlow.hΓ k) (LH := impl_IsFlow.LH k) (fn := Try.f88) (c := bodyOf Try.f88) Try.func88 rfl Try.call88 impl_IsFlow.sig [] (impl_IsFlow.body k) (by kernel_rfl) (impl_IsFlow.lok k) (by decide) fun vs bs lf y hl hb hy => by
    unfold impl_IsFlow.body at hb
    split at hb
    · obtain rfl := Option.some.inj hb
      exact ⟨impl_IsFlow.out, impl_IsFlow.out_ok, (impl_IsFlow.den k _ _ _).trans hy⟩
    · cases hb
/-! ### impl_IsSite -/
def impl_IsSite.f (k : Nat) (a0_0 : Int) (a0_1 : Int) : Option Bool :=
  (impl_InRange.f k a0_0 (1 : Int) (9 : Int)).bind fun t1 => (bif t1 then (impl_InRange.f k a0_1 (0 : Int) (9 : Int)).bind fun t2 => some t2 else some false)
def impl_IsSite.Γ (k : Nat) : Ct κ := assoc [(62, impl_InRange.C k)]
def impl_IsSite.LH (k : Nat) : Nat → Option (LHi κ) := assoc []
theorem impl_IsSite.hΓ (k : Nat) : ∀ f g, impl_IsSite.Γ k f = some g → CSound Try.prog f g := G_cons (impl_InRange.ok k) G_nil
theorem impl_IsSite.lok (k : Nat) : LOK ti (impl_IsSite.Γ k) (impl_IsSite.LH k) 0 (loopsOf (bodyOf Try.f129)) :=
  (show loopsOf (bodyOf Try.f129) = [] by kernel_rfl) ▸ LOK_nil
def impl_IsSite.sig : List PSh := [.agg [.sc, .sc]]
def impl_IsSite.g (y : Bool) : Ret κ := ⟨.v (.bool y), [], []⟩
def impl_IsSite.out (r : Ret κ) : Option Bool :=
  match r with
  | ⟨.v (.bool z0), [], []⟩ => some (z0)
  | _ => none
theorem impl_IsSite.out_ok (r : Ret κ) (y : Bool) (h : impl_IsSite.out r = some y) : r = impl_IsSite.g y := by
  unfold impl_IsSite.out at h
  split at h
  · obtain rfl := Option.some.inj h
    rfl
  · cases h
def impl_IsSite.body (k : Nat) (vs : List AV) (bs : List (Blk κ)) : Option (Lf κ) :=
  match vs, bs with
  | [.agg [.int .i64 a0_0, .int .i64 a0_1]], [] => some ⟨Bool, impl_IsSite.f k a0_0 a0_1, impl_IsSite.g⟩
  | _, _ => none
def impl_IsSite.C (k : Nat) : Nat → List AV → AP κ AV := contract impl_IsSite.sig (impl_IsSite.body k)
theorem impl_IsSite.den (k : Nat) (a0_0 : Int) (a0_1 : Int) : Code.den ti (impl_IsSite.Γ k) (impl_IsSite.LH k) (bodyOf Try.f129) (finK ti Try.f129.results.toList [] (flags impl_IsSite.sig).length (rwI (flags impl_IsSite.sig) 0) impl_IsSite.out) ⟨envOf (([.agg [.int .i64 a0_0, .int .i64 a0_1]]).zipIdx.map fun q => (q.2, q.1)), hpOf [], (flags impl_IsSite.sig).length⟩ = impl_IsSite.f k a0_0 a0_1 := by kernel_rfl
theorem impl_IsSite.ok (k : Nat) : CSound Try.prog 129 (impl_IsSite.C k) :=
  csound κ_ok mixed tok (impl_IsSite.hΓ k) (LH := impl_IsSite.LH k) (fn := Try.f129) (c := bodyOf Try.f129) Try.func129 rfl Try.call129 impl_IsSite.sig [] (impl_IsSite.body k) (by kernel_rfl) (impl_IsSite.lok k) (by decide) fun vs bs lf y hl hb hy => by
    unfold impl_IsSite.body at hb
    split at hb
    · obtain rfl := Option.some.inj hb
      exact ⟨impl_IsSite.out, impl_IsSite.out_ok, (impl_IsSite.den k _ _).trans hy⟩
    · cases hb
/-! ### impl_IsRule -/
def impl_IsRule.f (k : Nat) (a0_0 : Int) (a0_1 : Int) (a0_2 : Int) (a0_3 : Int) (a0_4 : Int) (a0_5 : Int) (a0_6 : Int) (a0_7 : Int) : Option Bool :=
  (impl_InRange.f k a0_0 (1 : Int) (5 : Int)).bind fun t1 => (bif !t1 then some false else (impl_InRange.f k a0_1 (1 : Int) (9 : Int)).bind fun t2 => (bif !t2 then some false else (impl_IsPattern.f k a0_2 a0_3).bind fun t3 => (bif !t3 then some false else (impl_InRange.f k a0_4 (0 : Int) (4 : Int)).bind fun t4 => (bif !t4 then some false else (bif (a0_5 == (1 : Int)) then some ((a0_6 == (0 : Int)) && (a0_7 == (0 : Int))) else (bif (a0_5 == (2 : Int)) then some ((a0_6 == (0 : Int)) && (a0_7 == (0 : Int))) else (bif (a0_5 == (3 : Int)) then (impl_IsSite.f k a0_6 a0_7).bind fun t5 => some t5 else some false)))))))
def impl_IsRule.Γ (k : Nat) : Ct κ := assoc [(62, impl_InRange.C k), (128, impl_IsPattern.C k), (129, impl_IsSite.C k)]
def impl_IsRule.LH (k : Nat) : Nat → Option (LHi κ) := assoc []
theorem impl_IsRule.hΓ (k : Nat) : ∀ f g, impl_IsRule.Γ k f = some g → CSound Try.prog f g := G_cons (impl_InRange.ok k) (G_cons (impl_IsPattern.ok k) (G_cons (impl_IsSite.ok k) G_nil))
theorem impl_IsRule.lok (k : Nat) : LOK ti (impl_IsRule.Γ k) (impl_IsRule.LH k) 0 (loopsOf (bodyOf Try.f89)) :=
  (show loopsOf (bodyOf Try.f89) = [] by kernel_rfl) ▸ LOK_nil
def impl_IsRule.sig : List PSh := [.agg [.sc, .sc, .sc, .sc, .sc, .sc, .sc, .sc]]
def impl_IsRule.g (y : Bool) : Ret κ := ⟨.v (.bool y), [], []⟩
def impl_IsRule.out (r : Ret κ) : Option Bool :=
  match r with
  | ⟨.v (.bool z0), [], []⟩ => some (z0)
  | _ => none
theorem impl_IsRule.out_ok (r : Ret κ) (y : Bool) (h : impl_IsRule.out r = some y) : r = impl_IsRule.g y := by
  unfold impl_IsRule.out at h
  split at h
  · obtain rfl := Option.some.inj h
    rfl
  · cases h
def impl_IsRule.body (k : Nat) (vs : List AV) (bs : List (Blk κ)) : Option (Lf κ) :=
  match vs, bs with
  | [.agg [.int .i64 a0_0, .int .i64 a0_1, .int .i64 a0_2, .int .i64 a0_3, .int .i64 a0_4, .int .i64 a0_5, .int .i64 a0_6, .int .i64 a0_7]], [] => some ⟨Bool, impl_IsRule.f k a0_0 a0_1 a0_2 a0_3 a0_4 a0_5 a0_6 a0_7, impl_IsRule.g⟩
  | _, _ => none
def impl_IsRule.C (k : Nat) : Nat → List AV → AP κ AV := contract impl_IsRule.sig (impl_IsRule.body k)
theorem impl_IsRule.den (k : Nat) (a0_0 : Int) (a0_1 : Int) (a0_2 : Int) (a0_3 : Int) (a0_4 : Int) (a0_5 : Int) (a0_6 : Int) (a0_7 : Int) : Code.den ti (impl_IsRule.Γ k) (impl_IsRule.LH k) (bodyOf Try.f89) (finK ti Try.f89.results.toList [] (flags impl_IsRule.sig).length (rwI (flags impl_IsRule.sig) 0) impl_IsRule.out) ⟨envOf (([.agg [.int .i64 a0_0, .int .i64 a0_1, .int .i64 a0_2, .int .i64 a0_3, .int .i64 a0_4, .int .i64 a0_5, .int .i64 a0_6, .int .i64 a0_7]]).zipIdx.map fun q => (q.2, q.1)), hpOf [], (flags impl_IsRule.sig).length⟩ = impl_IsRule.f k a0_0 a0_1 a0_2 a0_3 a0_4 a0_5 a0_6 a0_7 := by kernel_rfl
theorem impl_IsRule.ok (k : Nat) : CSound Try.prog 89 (impl_IsRule.C k) :=
  csound κ_ok mixed tok (impl_IsRule.hΓ k) (LH := impl_IsRule.LH k) (fn := Try.f89) (c := bodyOf Try.f89) Try.func89 rfl Try.call89 impl_IsRule.sig [] (impl_IsRule.body k) (by kernel_rfl) (impl_IsRule.lok k) (by decide) fun vs bs lf y hl hb hy => by
    unfold impl_IsRule.body at hb
    split at hb
    · obtain rfl := Option.some.inj hb
      exact ⟨impl_IsRule.out, impl_IsRule.out_ok, (impl_IsRule.den k _ _ _ _ _ _ _ _).trans hy⟩
    · cases hb
/-! ### impl_isRegister -/
def impl_isRegister.f (k : Nat) (a0 : Int) : Option Bool :=
  (impl_InRange.f k a0 (0 : Int) (5 : Int)).bind fun t1 => some t1
def impl_isRegister.Γ (k : Nat) : Ct κ := assoc [(62, impl_InRange.C k)]
def impl_isRegister.LH (k : Nat) : Nat → Option (LHi κ) := assoc []
theorem impl_isRegister.hΓ (k : Nat) : ∀ f g, impl_isRegister.Γ k f = some g → CSound Try.prog f g := G_cons (impl_InRange.ok k) G_nil
theorem impl_isRegister.lok (k : Nat) : LOK ti (impl_isRegister.Γ k) (impl_isRegister.LH k) 0 (loopsOf (bodyOf Try.f146)) :=
  (show loopsOf (bodyOf Try.f146) = [] by kernel_rfl) ▸ LOK_nil
def impl_isRegister.sig : List PSh := [.one .sc]
def impl_isRegister.g (y : Bool) : Ret κ := ⟨.v (.bool y), [], []⟩
def impl_isRegister.out (r : Ret κ) : Option Bool :=
  match r with
  | ⟨.v (.bool z0), [], []⟩ => some (z0)
  | _ => none
theorem impl_isRegister.out_ok (r : Ret κ) (y : Bool) (h : impl_isRegister.out r = some y) : r = impl_isRegister.g y := by
  unfold impl_isRegister.out at h
  split at h
  · obtain rfl := Option.some.inj h
    rfl
  · cases h
def impl_isRegister.body (k : Nat) (vs : List AV) (bs : List (Blk κ)) : Option (Lf κ) :=
  match vs, bs with
  | [.v (.int .i64 a0)], [] => some ⟨Bool, impl_isRegister.f k a0, impl_isRegister.g⟩
  | _, _ => none
def impl_isRegister.C (k : Nat) : Nat → List AV → AP κ AV := contract impl_isRegister.sig (impl_isRegister.body k)
theorem impl_isRegister.den (k : Nat) (a0 : Int) : Code.den ti (impl_isRegister.Γ k) (impl_isRegister.LH k) (bodyOf Try.f146) (finK ti Try.f146.results.toList [] (flags impl_isRegister.sig).length (rwI (flags impl_isRegister.sig) 0) impl_isRegister.out) ⟨envOf (([.v (.int .i64 a0)]).zipIdx.map fun q => (q.2, q.1)), hpOf [], (flags impl_isRegister.sig).length⟩ = impl_isRegister.f k a0 := by kernel_rfl
theorem impl_isRegister.ok (k : Nat) : CSound Try.prog 146 (impl_isRegister.C k) :=
  csound κ_ok mixed tok (impl_isRegister.hΓ k) (LH := impl_isRegister.LH k) (fn := Try.f146) (c := bodyOf Try.f146) Try.func146 rfl Try.call146 impl_isRegister.sig [] (impl_isRegister.body k) (by kernel_rfl) (impl_isRegister.lok k) (by decide) fun vs bs lf y hl hb hy => by
    unfold impl_isRegister.body at hb
    split at hb
    · obtain rfl := Option.some.inj hb
      exact ⟨impl_isRegister.out, impl_isRegister.out_ok, (impl_isRegister.den k _).trans hy⟩
    · cases hb
end Go.Proofs.Ythingkcckjiniaa.PFnSealed
