/- What the functions that the law FnUpdated reaches come to; no conditions. -/
import Derived.Test.YtoenilndklbceaaGreatPFnUpdated4
set_option linter.unusedVariables false
set_option maxRecDepth 100000
namespace Go.Proofs.YtoenilndklbceaaGreat.PFnUpdated
open Go Go.Eng Go.Proofs
/-! ### spec_l1Int -/
def spec_l1Int.f (k : Nat) (a0_0 : List Int) (a0_1 : Int) (a0_2 : Int) (a1 : List Int) : Option (Int × Int × Int) :=
  (spec_l1Below.f k a0_0 a0_1 a0_2 (a1.length : Int)).bind fun t1 => (bif decide (0 ≤ t1.1) then (bif decide (t1.1 < (a1.length : Int)) then some ((rd_i64 a1 t1.1), t1.2.1, t1.2.2) else none) else none)
def spec_l1Int.Γ (k : Nat) : Ct κ := assoc [(83, spec_l1Below.C k)]
def spec_l1Int.LH (k : Nat) : Nat → Option (LHi κ) := assoc []
theorem spec_l1Int.hΓ (k : Nat) : ∀ f g, spec_l1Int.Γ k f = some g → CSound Tryz.prog f g := G_cons (spec_l1Below.ok k) G_nil
theorem spec_l1Int.lok (k : Nat) : LOK ti (spec_l1Int.Γ k) (spec_l1Int.LH k) 3 (loopsOf (bodyOf Tryz.f86)) :=
  (show loopsOf (bodyOf Tryz.f86) = [] by kernel_rfl) ▸ LOK_nil
def spec_l1Int.sig : List PSh := [.cur 157 [.ro 0, .sc, .sc], .one (.ro 5)]
def spec_l1Int.g (y : Int × Int × Int) : Ret κ := ⟨.v (.int .i64 y.1), [.cells 157 [.sl 1, .int .i64 y.2.1, .int .i64 y.2.2]], []⟩
def spec_l1Int.out (r : Ret κ) : Option (Int × Int × Int) :=
  match r with
  | ⟨.v (.int .i64 z0), [.cells 157 [.sl 1, .int .i64 z1, .int .i64 z2]], []⟩ => some (z0, z1, z2)
  | _ => none
theorem spec_l1Int.out_ok (r : Ret κ) (y : Int × Int × Int) (h : spec_l1Int.out r = some y) : r = spec_l1Int.g y := by
  unfold spec_l1Int.out at h
  split at h
  · obtain rfl := Option.some.inj h
    rfl
  · cases h
def spec_l1Int.body (k : Nat) (vs : List AV) (bs : List (Blk κ)) : Option (Lf κ) :=
  match vs, bs with
  | [.v (.ptr 0 0 0), .v (.sl 2)], [.cells 157 [.sl 1, .int .i64 a0_1, .int .i64 a0_2], qb1, qb2] => (asO 0 false qb1).bind fun a0_0 => (asO 5 false qb2).bind fun a1 => some ⟨Int × Int × Int, spec_l1Int.f k a0_0 a0_1 a0_2 a1, spec_l1Int.g⟩
  | _, _ => none
def spec_l1Int.C (k : Nat) : Nat → List AV → AP κ AV := contract spec_l1Int.sig (spec_l1Int.body k)
theorem spec_l1Int.den (k : Nat) (a0_0 : List Int) (a0_1 : Int) (a0_2 : Int) (a1 : List Int) : Code.den ti (spec_l1Int.Γ k) (spec_l1Int.LH k) (bodyOf Tryz.f86) (finK ti Tryz.f86.results.toList [] (flags spec_l1Int.sig).length (rwI (flags spec_l1Int.sig) 0) spec_l1Int.out) ⟨envOf (([.v (.ptr 0 0 0), .v (.sl 2)]).zipIdx.map fun q => (q.2, q.1)), hpOf [.cells 157 [.sl 1, .int .i64 a0_1, .int .i64 a0_2], .rows 0 false a0_0, .rows 5 false a1], (flags spec_l1Int.sig).length⟩ = spec_l1Int.f k a0_0 a0_1 a0_2 a1 := by kernel_rfl
theorem spec_l1Int.ok (k : Nat) : CSound Tryz.prog 86 (spec_l1Int.C k) :=
  csound κ_ok mixed tok (spec_l1Int.hΓ k) (LH := spec_l1Int.LH k) (fn := Tryz.f86) (c := bodyOf Tryz.f86) Tryz.func86 rfl Tryz.call86 spec_l1Int.sig [] (spec_l1Int.body k) (by kernel_rfl) (spec_l1Int.lok k) (by decide) fun vs bs lf y hl hb hy => by
    unfold spec_l1Int.body at hb
    split at hb
    · obtain ⟨_, rfl, hb_1⟩ := asO_bind hb
      obtain ⟨_, rfl, hb_2⟩ := asO_bind hb_1
      obtain rfl := Option.some.inj hb_2
      exact ⟨spec_l1Int.out, spec_l1Int.out_ok, (spec_l1Int.den k _ _ _ _).trans hy⟩
    · cases hb
/-! ### spec_l1Once -/
def spec_l1Once.f (k : Nat) (a0_0 : List Int) (a0_1 : Int) (a0_2 : Int) (a1 : Int) : Option (Bool × Int × Int) :=
  (spec_l1Below.f k a0_0 a0_1 a0_2 a1).bind fun t1 => some ((t1.1 == (0 : Int)), t1.2.1, t1.2.2)
def spec_l1Once.Γ (k : Nat) : Ct κ := assoc [(83, spec_l1Below.C k)]
def spec_l1Once.LH (k : Nat) : Nat → Option (LHi κ) := assoc []
theorem spec_l1Once.hΓ (k : Nat) : ∀ f g, spec_l1Once.Γ k f = some g → CSound Tryz.prog f g := G_cons (spec_l1Below.ok k) G_nil
theorem spec_l1Once.lok (k : Nat) : LOK ti (spec_l1Once.Γ k) (spec_l1Once.LH k) 2 (loopsOf (bodyOf Tryz.f84)) :=
  (show loopsOf (bodyOf Tryz.f84) = [] by kernel_rfl) ▸ LOK_nil
def spec_l1Once.sig : List PSh := [.cur 157 [.ro 0, .sc, .sc], .one .sc]
def spec_l1Once.g (y : Bool × Int × Int) : Ret κ := ⟨.v (.bool y.1), [.cells 157 [.sl 1, .int .i64 y.2.1, .int .i64 y.2.2]], []⟩
def spec_l1Once.out (r : Ret κ) : Option (Bool × Int × Int) :=
  match r with
  | ⟨.v (.bool z0), [.cells 157 [.sl 1, .int .i64 z1, .int .i64 z2]], []⟩ => some (z0, z1, z2)
  | _ => none
theorem spec_l1Once.out_ok (r : Ret κ) (y : Bool × Int × Int) (h : spec_l1Once.out r = some y) : r = spec_l1Once.g y := by
  unfold spec_l1Once.out at h
  split at h
  · obtain rfl := Option.some.inj h
    rfl
  · cases h
def spec_l1Once.body (k : Nat) (vs : List AV) (bs : List (Blk κ)) : Option (Lf κ) :=
  match vs, bs with
  | [.v (.ptr 0 0 0), .v (.int .i64 a1)], [.cells 157 [.sl 1, .int .i64 a0_1, .int .i64 a0_2], qb1] => (asO 0 false qb1).bind fun a0_0 => some ⟨Bool × Int × Int, spec_l1Once.f k a0_0 a0_1 a0_2 a1, spec_l1Once.g⟩
  | _, _ => none
def spec_l1Once.C (k : Nat) : Nat → List AV → AP κ AV := contract spec_l1Once.sig (spec_l1Once.body k)
theorem spec_l1Once.den (k : Nat) (a0_0 : List Int) (a0_1 : Int) (a0_2 : Int) (a1 : Int) : Code.den ti (spec_l1Once.Γ k) (spec_l1Once.LH k) (bodyOf Tryz.f84) (finK ti Tryz.f84.results.toList [] (flags spec_l1Once.sig).length (rwI (flags spec_l1Once.sig) 0) spec_l1Once.out) ⟨envOf (([.v (.ptr 0 0 0), .v (.int .i64 a1)]).zipIdx.map fun q => (q.2, q.1)), hpOf [.cells 157 [.sl 1, .int .i64 a0_1, .int .i64 a0_2], .rows 0 false a0_0], (flags spec_l1Once.sig).length⟩ = spec_l1Once.f k a0_0 a0_1 a0_2 a1 := by kernel_rfl
theorem spec_l1Once.ok (k : Nat) : CSound Tryz.prog 84 (spec_l1Once.C k) :=
  csound κ_ok mixed tok (spec_l1Once.hΓ k) (LH := spec_l1Once.LH k) (fn := Tryz.f84) (c := bodyOf Tryz.f84) Tryz.func84 rfl Tryz.call84 spec_l1Once.sig [] (spec_l1Once.body k) (by kernel_rfl) (spec_l1Once.lok k) (by decide) fun vs bs lf y hl hb hy => by
    unfold spec_l1Once.body at hb
    split at hb
    · obtain ⟨_, rfl, hb_1⟩ := asO_bind hb
      obtain rfl := Option.some.inj hb_1
      exact ⟨spec_l1Once.out, spec_l1Once.out_ok, (spec_l1Once.den k _ _ _ _).trans hy⟩
    · cases hb
/-! ### spec_DrawUpdateCode -/
def spec_DrawUpdateCode.f (k : Nat) (a0 : List Int) : Option (Int × Int × Int × Int × Int × Int × Int × Int × Int × Bool × List T_impl_Grant × List T_impl_Flow × List T_impl_Rule × List T_impl_Op × List T_impl_Grant × List T_impl_Flow × List T_impl_Rule × List T_impl_Op) :=
  (spec_l1New.f k a0).bind fun t1 => (spec_l28Pair.f k a0 t1.1 t1.2).bind fun t2 => (spec_l1Int.f k a0 t2.2.2.2.2.2.2.2.2.1 t2.2.2.2.2.2.2.2.2.2.1 ([(5 : Int), (5 : Int), (5 : Int), (77 : Int)] : List Int)).bind fun t3 => (spec_l1Once.f k a0 t3.2.1 t3.2.2 (2 : Int)).bind fun t4 => some (t3.1, t2.1, t2.2.1, t2.2.2.1, t2.2.2.2.1, t2.2.2.2.2.1, t2.2.2.2.2.2.1, t2.2.2.2.2.2.2.1, t2.2.2.2.2.2.2.2.1, t4.1, t2.2.2.2.2.2.2.2.2.2.2.1, t2.2.2.2.2.2.2.2.2.2.2.2.1, t2.2.2.2.2.2.2.2.2.2.2.2.2.1, t2.2.2.2.2.2.2.2.2.2.2.2.2.2.1, t2.2.2.2.2.2.2.2.2.2.2.2.2.2.2.1, t2.2.2.2.2.2.2.2.2.2.2.2.2.2.2.2.1, t2.2.2.2.2.2.2.2.2.2.2.2.2.2.2.2.2.1, t2.2.2.2.2.2.2.2.2.2.2.2.2.2.2.2.2.2)
def spec_DrawUpdateCode.Γ (k : Nat) : Ct κ := assoc [(80, spec_l1New.C k), (81, spec_l28Pair.C k), (86, spec_l1Int.C k), (84, spec_l1Once.C k)]
def spec_DrawUpdateCode.LH (k : Nat) : Nat → Option (LHi κ) := assoc []
theorem spec_DrawUpdateCode.hΓ (k : Nat) : ∀ f g, spec_DrawUpdateCode.Γ k f = some g → CSound Tryz.prog f g := G_cons (spec_l1New.ok k) (G_cons (spec_l28Pair.ok k) (G_cons (spec_l1Int.ok k) (G_cons (spec_l1Once.ok k) G_nil)))
theorem spec_DrawUpdateCode.lok (k : Nat) : LOK ti (spec_DrawUpdateCode.Γ k) (spec_DrawUpdateCode.LH k) 1 (loopsOf (bodyOf Tryz.f69)) :=
  (show loopsOf (bodyOf Tryz.f69) = [] by kernel_rfl) ▸ LOK_nil
def spec_DrawUpdateCode.sig : List PSh := [.one (.ro 0)]
def spec_DrawUpdateCode.g (y : Int × Int × Int × Int × Int × Int × Int × Int × Int × Bool × List T_impl_Grant × List T_impl_Flow × List T_impl_Rule × List T_impl_Op × List T_impl_Grant × List T_impl_Flow × List T_impl_Rule × List T_impl_Op) : Ret κ := ⟨.tup [(false, [.int .i64 y.1]), (true, [.int .i64 y.2.1, .int .i64 y.2.2.1, .int .i64 y.2.2.2.1, .sl 1, .sl 2, .sl 3, .sl 4, .int .i64 y.2.2.2.2.1]), (true, [.int .i64 y.2.2.2.2.2.1, .int .i64 y.2.2.2.2.2.2.1, .int .i64 y.2.2.2.2.2.2.2.1, .sl 5, .sl 6, .sl 7, .sl 8, .int .i64 y.2.2.2.2.2.2.2.2.1]), (false, [.bool y.2.2.2.2.2.2.2.2.2.1])], [], [.rows 2 true y.2.2.2.2.2.2.2.2.2.2.1, .rows 3 true y.2.2.2.2.2.2.2.2.2.2.2.1, .rows 4 true y.2.2.2.2.2.2.2.2.2.2.2.2.1, .rows 1 true y.2.2.2.2.2.2.2.2.2.2.2.2.2.1, .rows 2 true y.2.2.2.2.2.2.2.2.2.2.2.2.2.2.1, .rows 3 true y.2.2.2.2.2.2.2.2.2.2.2.2.2.2.2.1, .rows 4 true y.2.2.2.2.2.2.2.2.2.2.2.2.2.2.2.2.1, .rows 1 true y.2.2.2.2.2.2.2.2.2.2.2.2.2.2.2.2.2]⟩
def spec_DrawUpdateCode.out (r : Ret κ) : Option (Int × Int × Int × Int × Int × Int × Int × Int × Int × Bool × List T_impl_Grant × List T_impl_Flow × List T_impl_Rule × List T_impl_Op × List T_impl_Grant × List T_impl_Flow × List T_impl_Rule × List T_impl_Op) :=
  match r with
  | ⟨.tup [(false, [.int .i64 z0]), (true, [.int .i64 z1, .int .i64 z2, .int .i64 z3, .sl 1, .sl 2, .sl 3, .sl 4, .int .i64 z4]), (true, [.int .i64 z5, .int .i64 z6, .int .i64 z7, .sl 5, .sl 6, .sl 7, .sl 8, .int .i64 z8]), (false, [.bool z9])], [], [q10, q11, q12, q13, q14, q15, q16, q17]⟩ => (asO 2 true q10).bind fun z10 => (asO 3 true q11).bind fun z11 => (asO 4 true q12).bind fun z12 => (asO 1 true q13).bind fun z13 => (asO 2 true q14).bind fun z14 => (asO 3 true q15).bind fun z15 => (asO 4 true q16).bind fun z16 => (asO 1 true q17).bind fun z17 => some (z0, z1, z2, z3, z4, z5, z6, z7, z8, z9, z10, z11, z12, z13, z14, z15, z16, z17)
  | _ => none
theorem spec_DrawUpdateCode.out_ok (r : Ret κ) (y : Int × Int × Int × Int × Int × Int × Int × Int × Int × Bool × List T_impl_Grant × List T_impl_Flow × List T_impl_Rule × List T_impl_Op × List T_impl_Grant × List T_impl_Flow × List T_impl_Rule × List T_impl_Op) (h : spec_DrawUpdateCode.out r = some y) : r = spec_DrawUpdateCode.g y := by
  unfold spec_DrawUpdateCode.out at h
  split at h
  · obtain ⟨_, rfl, h_1⟩ := asO_bind h
    obtain ⟨_, rfl, h_2⟩ := asO_bind h_1
    obtain ⟨_, rfl, h_3⟩ := asO_bind h_2
    obtain ⟨_, rfl, h_4⟩ := asO_bind h_3
    obtain ⟨_, rfl, h_5⟩ := asO_bind h_4
    obtain ⟨_, rfl, h_6⟩ := asO_bind h_5
    obtain ⟨_, rfl, h_7⟩ := asO_bind h_6
    obtain ⟨_, rfl, h_8⟩ := asO_bind h_7
    obtain rfl := Option.some.inj h_8
    rfl
  · cases h
def spec_DrawUpdateCode.body (k : Nat) (vs : List AV) (bs : List (Blk κ)) : Option (Lf κ) :=
  match vs, bs with
  | [.v (.sl 0)], [qb0] => (asO 0 false qb0).bind fun a0 => some ⟨Int × Int × Int × Int × Int × Int × Int × Int × Int × Bool × List T_impl_Grant × List T_impl_Flow × List T_impl_Rule × List T_impl_Op × List T_impl_Grant × List T_impl_Flow × List T_impl_Rule × List T_impl_Op, spec_DrawUpdateCode.f k a0, spec_DrawUpdateCode.g⟩
  | _, _ => none
def spec_DrawUpdateCode.C (k : Nat) : Nat → List AV → AP κ AV := contract spec_DrawUpdateCode.sig (spec_DrawUpdateCode.body k)
theorem spec_DrawUpdateCode.den (k : Nat) (a0 : List Int) : Code.den ti (spec_DrawUpdateCode.Γ k) (spec_DrawUpdateCode.LH k) (bodyOf Tryz.f69) (finK ti Tryz.f69.results.toList [(3, [none, none, none, some 2, some 3, some 4, some 1, none]), (4, [none, none, none, some 2, some 3, some 4, some 1, none])] (flags spec_DrawUpdateCode.sig).length (rwI (flags spec_DrawUpdateCode.sig) 0) spec_DrawUpdateCode.out) ⟨envOf (([.v (.sl 0)]).zipIdx.map fun q => (q.2, q.1)), hpOf [.rows 0 false a0], (flags spec_DrawUpdateCode.sig).length⟩ = spec_DrawUpdateCode.f k a0 := by kernel_rfl
theorem spec_DrawUpdateCode.ok (k : Nat) : CSound Tryz.prog 69 (spec_DrawUpdateCode.C k) :=
  csound κ_ok mixed tok (spec_DrawUpdateCode.hΓ k) (LH := spec_DrawUpdateCode.LH k) (fn := Tryz.f69) (c := bodyOf Tryz.f69) Tryz.func69 rfl Tryz.call69 spec_DrawUpdateCode.sig [(3, [none, none, none, some 2, some 3, some 4, some 1, none]), (4, [none, none, none, some 2, some 3, some 4, some 1, none])] (spec_DrawUpdateCode.body k) (by kernel_rfl) (spec_DrawUpdateCode.lok k) (by decide) fun vs bs lf y hl hb hy => by
    unfold spec_DrawUpdateCode.body at hb
    split at hb
    · obtain ⟨_, rfl, hb_1⟩ := asO_bind hb
      obtain rfl := Option.some.inj hb_1
      exact ⟨spec_DrawUpdateCode.out, spec_DrawUpdateCode.out_ok, (spec_DrawUpdateCode.den k _).trans hy⟩
    · cases hb
/-! ### spec_DrawUpdatePackage -/
def spec_DrawUpdatePackage.f (k : Nat) (a0 : List Int) : Option (Int × Int × Int × Int × Int × Int × Int × Int × Int × Bool × List T_impl_Grant × List T_impl_Flow × List T_impl_Rule × List T_impl_Op × List T_impl_Grant × List T_impl_Flow × List T_impl_Rule × List T_impl_Op) :=
  (spec_DrawUpdateCode.f k a0).bind fun t1 => some (t1.1, t1.2.1, t1.2.2.1, t1.2.2.2.1, t1.2.2.2.2.1, t1.2.2.2.2.2.1, t1.2.2.2.2.2.2.1, t1.2.2.2.2.2.2.2.1, t1.2.2.2.2.2.2.2.2.1, t1.2.2.2.2.2.2.2.2.2.1, t1.2.2.2.2.2.2.2.2.2.2.1, t1.2.2.2.2.2.2.2.2.2.2.2.1, t1.2.2.2.2.2.2.2.2.2.2.2.2.1, t1.2.2.2.2.2.2.2.2.2.2.2.2.2.1, t1.2.2.2.2.2.2.2.2.2.2.2.2.2.2.1, t1.2.2.2.2.2.2.2.2.2.2.2.2.2.2.2.1, t1.2.2.2.2.2.2.2.2.2.2.2.2.2.2.2.2.1, t1.2.2.2.2.2.2.2.2.2.2.2.2.2.2.2.2.2)
def spec_DrawUpdatePackage.Γ (k : Nat) : Ct κ := assoc [(69, spec_DrawUpdateCode.C k)]
def spec_DrawUpdatePackage.LH (k : Nat) : Nat → Option (LHi κ) := assoc []
theorem spec_DrawUpdatePackage.hΓ (k : Nat) : ∀ f g, spec_DrawUpdatePackage.Γ k f = some g → CSound Tryz.prog f g := G_cons (spec_DrawUpdateCode.ok k) G_nil
theorem spec_DrawUpdatePackage.lok (k : Nat) : LOK ti (spec_DrawUpdatePackage.Γ k) (spec_DrawUpdatePackage.LH k) 1 (loopsOf (bodyOf Tryz.f22)) :=
  (show loopsOf (bodyOf Tryz.f22) = [] by kernel_rfl) ▸ LOK_nil
def spec_DrawUpdatePackage.sig : List PSh := [.one (.ro 0)]
def spec_DrawUpdatePackage.g (y : Int × Int × Int × Int × Int × Int × Int × Int × Int × Bool × List T_impl_Grant × List T_impl_Flow × List T_impl_Rule × List T_impl_Op × List T_impl_Grant × List T_impl_Flow × List T_impl_Rule × List T_impl_Op) : Ret κ := ⟨.tup [(false, [.int .i64 y.1]), (true, [.int .i64 y.2.1, .int .i64 y.2.2.1, .int .i64 y.2.2.2.1, .sl 1, .sl 2, .sl 3, .sl 4, .int .i64 y.2.2.2.2.1]), (true, [.int .i64 y.2.2.2.2.2.1, .int .i64 y.2.2.2.2.2.2.1, .int .i64 y.2.2.2.2.2.2.2.1, .sl 5, .sl 6, .sl 7, .sl 8, .int .i64 y.2.2.2.2.2.2.2.2.1]), (false, [.bool y.2.2.2.2.2.2.2.2.2.1])], [], [.rows 2 true y.2.2.2.2.2.2.2.2.2.2.1, .rows 3 true y.2.2.2.2.2.2.2.2.2.2.2.1, .rows 4 true y.2.2.2.2.2.2.2.2.2.2.2.2.1, .rows 1 true y.2.2.2.2.2.2.2.2.2.2.2.2.2.1, .rows 2 true y.2.2.2.2.2.2.2.2.2.2.2.2.2.2.1, .rows 3 true y.2.2.2.2.2.2.2.2.2.2.2.2.2.2.2.1, .rows 4 true y.2.2.2.2.2.2.2.2.2.2.2.2.2.2.2.2.1, .rows 1 true y.2.2.2.2.2.2.2.2.2.2.2.2.2.2.2.2.2]⟩
def spec_DrawUpdatePackage.out (r : Ret κ) : Option (Int × Int × Int × Int × Int × Int × Int × Int × Int × Bool × List T_impl_Grant × List T_impl_Flow × List T_impl_Rule × List T_impl_Op × List T_impl_Grant × List T_impl_Flow × List T_impl_Rule × List T_impl_Op) :=
  match r with
  | ⟨.tup [(false, [.int .i64 z0]), (true, [.int .i64 z1, .int .i64 z2, .int .i64 z3, .sl 1, .sl 2, .sl 3, .sl 4, .int .i64 z4]), (true, [.int .i64 z5, .int .i64 z6, .int .i64 z7, .sl 5, .sl 6, .sl 7, .sl 8, .int .i64 z8]), (false, [.bool z9])], [], [q10, q11, q12, q13, q14, q15, q16, q17]⟩ => (asO 2 true q10).bind fun z10 => (asO 3 true q11).bind fun z11 => (asO 4 true q12).bind fun z12 => (asO 1 true q13).bind fun z13 => (asO 2 true q14).bind fun z14 => (asO 3 true q15).bind fun z15 => (asO 4 true q16).bind fun z16 => (asO 1 true q17).bind fun z17 => some (z0, z1, z2, z3, z4, z5, z6, z7, z8, z9, z10, z11, z12, z13, z14, z15, z16, z17)
  | _ => none
theorem spec_DrawUpdatePackage.out_ok (r : Ret κ) (y : Int × Int × Int × Int × Int × Int × Int × Int × Int × Bool × List T_impl_Grant × List T_impl_Flow × List T_impl_Rule × List T_impl_Op × List T_impl_Grant × List T_impl_Flow × List T_impl_Rule × List T_impl_Op) (h : spec_DrawUpdatePackage.out r = some y) : r = spec_DrawUpdatePackage.g y := by
  unfold spec_DrawUpdatePackage.out at h
  split at h
  · obtain ⟨_, rfl, h_1⟩ := asO_bind h
    obtain ⟨_, rfl, h_2⟩ := asO_bind h_1
    obtain ⟨_, rfl, h_3⟩ := asO_bind h_2
    obtain ⟨_, rfl, h_4⟩ := asO_bind h_3
    obtain ⟨_, rfl, h_5⟩ := asO_bind h_4
    obtain ⟨_, rfl, h_6⟩ := asO_bind h_5
    obtain ⟨_, rfl, h_7⟩ := asO_bind h_6
    obtain ⟨_, rfl, h_8⟩ := asO_bind h_7
    obtain rfl := Option.some.inj h_8
    rfl
  · cases h
def spec_DrawUpdatePackage.body (k : Nat) (vs : List AV) (bs : List (Blk κ)) : Option (Lf κ) :=
  match vs, bs with
  | [.v (.sl 0)], [qb0] => (asO 0 false qb0).bind fun a0 => some ⟨Int × Int × Int × Int × Int × Int × Int × Int × Int × Bool × List T_impl_Grant × List T_impl_Flow × List T_impl_Rule × List T_impl_Op × List T_impl_Grant × List T_impl_Flow × List T_impl_Rule × List T_impl_Op, spec_DrawUpdatePackage.f k a0, spec_DrawUpdatePackage.g⟩
  | _, _ => none
def spec_DrawUpdatePackage.C (k : Nat) : Nat → List AV → AP κ AV := contract spec_DrawUpdatePackage.sig (spec_DrawUpdatePackage.body k)
theorem spec_DrawUpdatePackage.den (k : Nat) (a0 : List Int) : Code.den ti (spec_DrawUpdatePackage.Γ k) (spec_DrawUpdatePackage.LH k) (bodyOf Tryz.f22) (finK ti Tryz.f22.results.toList [(3, [none, none, none, some 2, some 3, some 4, some 1, none]), (4, [none, none, none, some 2, some 3, some 4, some 1, none])] (flags spec_DrawUpdatePackage.sig).length (rwI (flags spec_DrawUpdatePackage.sig) 0) spec_DrawUpdatePackage.out) ⟨envOf (([.v (.sl 0)]).zipIdx.map fun q => (q.2, q.1)), hpOf [.rows 0 false a0], (flags spec_DrawUpdatePackage.sig).length⟩ = spec_DrawUpdatePackage.f k a0 := by kernel_rfl
theorem spec_DrawUpdatePackage.ok (k : Nat) : CSound Tryz.prog 22 (spec_DrawUpdatePackage.C k) :=
  csound κ_ok mixed tok (spec_DrawUpdatePackage.hΓ k) (LH := spec_DrawUpdatePackage.LH k) (fn := Tryz.f22) (c := bodyOf Tryz.f22) Tryz.func22 rfl Tryz.call22 spec_DrawUpdatePackage.sig [(3, [none, none, none, some 2, some 3, some 4, some 1, none]), (4, [none, none, none, some 2, some 3, some 4, some 1, none])] (spec_DrawUpdatePackage.body k) (by kernel_rfl) (spec_DrawUpdatePackage.lok k) (by decide) fun vs bs lf y hl hb hy => by
    unfold spec_DrawUpdatePackage.body at hb
    split at hb
    · obtain ⟨_, rfl, hb_1⟩ := asO_bind hb
      obtain rfl := Option.some.inj hb_1
      exact ⟨spec_DrawUpdatePackage.out, spec_DrawUpdatePackage.out_ok, (spec_DrawUpdatePackage.den k _).trans hy⟩
    · cases hb
/-! ### impl_InRange -/
def impl_InRange.f (k : Nat) (a0 : Int) (a1 : Int) (a2 : Int) : Option Bool :=
  (bif decide (a1 ≤ a0) then some (decide (a0 ≤ a2)) else some false)
def impl_InRange.Γ (k : Nat) : Ct κ := assoc []
def impl_InRange.LH (k : Nat) : Nat → Option (LHi κ) := assoc []
theorem impl_InRange.hΓ (k : Nat) : ∀ f g, impl_InRange.Γ k f = some g → CSound Tryz.prog f g := G_nil
theorem impl_InRange.lok (k : Nat) : LOK ti (impl_InRange.Γ k) (impl_InRange.LH k) 0 (loopsOf (bodyOf Tryz.f111)) :=
  (show loopsOf (bodyOf Tryz.f111) = [] by kernel_rfl) ▸ LOK_nil
def impl_InRange.sig : List PSh := [.one .sc, .one .sc, .one .sc]
def impl_InRange.g (y : Bool) : Ret κ := ⟨.v (.bool y), [], []⟩
def impl_InRange.out (r : Ret κ) : Option Bool :=
  match r with
  | ⟨.v (.bool z0), [], []⟩ => some (z0)
  | _ => none
theorem impl_InRange.out_ok (r : Ret κ) (y : Bool) (h : impl_InRange.out r = some y) : r = impl_InRange.g y := by
  unfold impl_InRange.out at h
  split at h
  · obtain rfl := Option.some.inj h
    rfl
  · cases h
def impl_InRange.body (k : Nat) (vs : List AV) (bs : List (Blk κ)) : Option (Lf κ) :=
  match vs, bs with
  | [.v (.int .i64 a0), .v (.int .i64 a1), .v (.int .i64 a2)], [] => some ⟨Bool, impl_InRange.f k a0 a1 a2, impl_InRange.g⟩
  | _, _ => none
def impl_InRange.C (k : Nat) : Nat → List AV → AP κ AV := contract impl_InRange.sig (impl_InRange.body k)
theorem impl_InRange.den (k : Nat) (a0 : Int) (a1 : Int) (a2 : Int) : Code.den ti (impl_InRange.Γ k) (impl_InRange.LH k) (bodyOf Tryz.f111) (finK ti Tryz.f111.results.toList [] (flags impl_InRange.sig).length (rwI (flags impl_InRange.sig) 0) impl_InRange.out) ⟨envOf (([.v (.int .i64 a0), .v (.int .i64 a1), .v (.int .i64 a2)]).zipIdx.map fun q => (q.2, q.1)), hpOf [], (flags impl_InRange.sig).length⟩ = impl_InRange.f k a0 a1 a2 := by kernel_rfl
theorem impl_InRange.ok (k : Nat) : CSound Tryz.prog 111 (impl_InRange.C k) :=
  csound κ_ok mixed tok (impl_InRange.hΓ k) (LH := impl_InRange.LH k) (fn := Tryz.f111) (c := bodyOf Tryz.f111) Tryz.func111 rfl Tryz.call111 impl_InRange.sig [] (impl_InRange.body k) (by kernel_rfl) (impl_InRange.lok k) (by decide) fun vs bs lf y hl hb hy => by
    unfold impl_InRange.body at hb
    split at hb
    · obtain rfl := Option.some.inj hb
      exact ⟨impl_InRange.out, impl_InRange.out_ok, (impl_InRange.den k _ _ _).trans hy⟩
    · cases hb
/-! ### impl_IsPattern -/
def impl_IsPattern.f (k : Nat) (a0_0 : Int) (a0_1 : Int) : Option Bool :=
  (impl_InRange.f k a0_0 (0 : Int) (9 : Int)).bind fun t1 => (bif t1 then (impl_InRange.f k a0_1 (-1 : Int) (9 : Int)).bind fun t2 => some t2 else some false)
def impl_IsPattern.Γ (k : Nat) : Ct κ := assoc [(111, impl_InRange.C k)]
def impl_IsPattern.LH (k : Nat) : Nat → Option (LHi κ) := assoc []
theorem impl_IsPattern.hΓ (k : Nat) : ∀ f g, impl_IsPattern.Γ k f = some g → CSound Tryz.prog f g := G_cons (impl_InRange.ok k) G_nil
theorem impl_IsPattern.lok (k : Nat) : LOK ti (impl_IsPattern.Γ k) (impl_IsPattern.LH k) 0 (loopsOf (bodyOf Tryz.f122)) :=
  (show loopsOf (bodyOf Tryz.f122) = [] by kernel_rfl) ▸ LOK_nil
def impl_IsPattern.sig : List PSh := [.agg [.sc, .sc]]
def impl_IsPattern.g (y : Bool) : Ret κ := ⟨.v (.bool y), [], []⟩
def impl_IsPattern.out (r : Ret κ) : Option Bool :=
  match r with
  | ⟨.v (.bool z0), [], []⟩ => some (z0)
  | _ => none
theorem impl_IsPattern.out_ok (r : Ret κ) (y : Bool) (h : impl_IsPattern.out r = some y) : r = impl_IsPattern.g y := by
  unfold impl_IsPattern.out at h
  split at h
  · obtain rfl := Option.some.inj h
    rfl
  · cases h
def impl_IsPattern.body (k : Nat) (vs : List AV) (bs : List (Blk κ)) : Option (Lf κ) :=
  match vs, bs with
  | [.agg [.int .i64 a0_0, .int .i64 a0_1]], [] => some ⟨Bool, impl_IsPattern.f k a0_0 a0_1, impl_IsPattern.g⟩
  | _, _ => none
def impl_IsPattern.C (k : Nat) : Nat → List AV → AP κ AV := contract impl_IsPattern.sig (impl_IsPattern.body k)
theorem impl_IsPattern.den (k : Nat) (a0_0 : Int) (a0_1 : Int) : Code.den ti (impl_IsPattern.Γ k) (impl_IsPattern.LH k) (bodyOf Tryz.f122) (finK ti Tryz.f122.results.toList [] (flags impl_IsPattern.sig).length (rwI (flags impl_IsPattern.sig) 0) impl_IsPattern.out) ⟨envOf (([.agg [.int .i64 a0_0, .int .i64 a0_1]]).zipIdx.map fun q => (q.2, q.1)), hpOf [], (flags impl_IsPattern.sig).length⟩ = impl_IsPattern.f k a0_0 a0_1 := by kernel_rfl
theorem impl_IsPattern.ok (k : Nat) : CSound Tryz.prog 122 (impl_IsPattern.C k) :=
  csound κ_ok mixed tok (impl_IsPattern.hΓ k) (LH := impl_IsPattern.LH k) (fn := Tryz.f122) (c := bodyOf Tryz.f122) Tryz.func122 rfl Tryz.call122 impl_IsPattern.sig [] (impl_IsPattern.body k) (by kernel_rfl) (impl_IsPattern.lok k) (by decide) fun vs bs lf y hl hb hy => by
    unfold impl_IsPattern.body at hb
    split at hb
    · obtain rfl := Option.some.inj hb
      exact ⟨impl_IsPattern.out, impl_IsPattern.out_ok, (impl_IsPattern.den k _ _).trans hy⟩
    · cases hb
/-! ### impl_IsGrant -/
def impl_IsGrant.f (k : Nat) (a0_0 : Int) (a0_1 : Int) (a0_2 : Int) (a0_3 : Int) (a0_4 : Int) (a0_5 : Int) (a0_6 : Bool) : Option Bool :=
  (impl_InRange.f k a0_0 (1 : Int) (5 : Int)).bind fun t1 => (bif t1 then (impl_IsPattern.f k a0_1 a0_2).bind fun t2 => (bif t2 then (impl_InRange.f k a0_3 (1 : Int) (4 : Int)).bind fun t3 => (bif t3 then (bif decide ((0 : Int) ≤ a0_4) then (bif decide (a0_4 ≤ a0_5) then some (decide (a0_5 ≤ (10000 : Int))) else some false) else some false) else some false) else some false) else some false)
def impl_IsGrant.Γ (k : Nat) : Ct κ := assoc [(111, impl_InRange.C k), (122, impl_IsPattern.C k)]
def impl_IsGrant.LH (k : Nat) : Nat → Option (LHi κ) := assoc []
theorem impl_IsGrant.hΓ (k : Nat) : ∀ f g, impl_IsGrant.Γ k f = some g → CSound Tryz.prog f g := G_cons (impl_InRange.ok k) (G_cons (impl_IsPattern.ok k) G_nil)
theorem impl_IsGrant.lok (k : Nat) : LOK ti (impl_IsGrant.Γ k) (impl_IsGrant.LH k) 0 (loopsOf (bodyOf Tryz.f76)) :=
  (show loopsOf (bodyOf Tryz.f76) = [] by kernel_rfl) ▸ LOK_nil
def impl_IsGrant.sig : List PSh := [.agg [.sc, .sc, .sc, .sc, .sc, .sc, .sc]]
def impl_IsGrant.g (y : Bool) : Ret κ := ⟨.v (.bool y), [], []⟩
def impl_IsGrant.out (r : Ret κ) : Option Bool :=
  match r with
  | ⟨.v (.bool z0), [], []⟩ => some (z0)
  | _ => none
theorem impl_IsGrant.out_ok (r : Ret κ) (y : Bool) (h : impl_IsGrant.out r = some y) : r = impl_IsGrant.g y := by
  unfold impl_IsGrant.out at h
  split at h
  · obtain rfl := Option.some.inj h
    rfl
  · cases h
def impl_IsGrant.body (k : Nat) (vs : List AV) (bs : List (Blk κ)) : Option (Lf κ) :=
  match vs, bs with
  | [.agg [.int .i64 a0_0, .int .i64 a0_1, .int .i64 a0_2, .int .i64 a0_3, .int .i64 a0_4, .int .i64 a0_5, .bool a0_6]], [] => some ⟨Bool, impl_IsGrant.f k a0_0 a0_1 a0_2 a0_3 a0_4 a0_5 a0_6, impl_IsGrant.g⟩
  | _, _ => none
def impl_IsGrant.C (k : Nat) : Nat → List AV → AP κ AV := contract impl_IsGrant.sig (impl_IsGrant.body k)
theorem impl_IsGrant.den (k : Nat) (a0_0 : Int) (a0_1 : Int) (a0_2 : Int) (a0_3 : Int) (a0_4 : Int) (a0_5 : Int) (a0_6 : Bool) : Code.den ti (impl_IsGrant.Γ k) (impl_IsGrant.LH k) (bodyOf Tryz.f76) (finK ti Tryz.f76.results.toList [] (flags impl_IsGrant.sig).length (rwI (flags impl_IsGrant.sig) 0) impl_IsGrant.out) ⟨envOf (([.agg [.int .i64 a0_0, .int .i64 a0_1, .int .i64 a0_2, .int .i64 a0_3, .int .i64 a0_4, .int .i64 a0_5, .bool a0_6]]).zipIdx.map fun q => (q.2, q.1)), hpOf [], (flags impl_IsGrant.sig).length⟩ = impl_IsGrant.f k a0_0 a0_1 a0_2 a0_3 a0_4 a0_5 a0_6 := by kernel_rfl
theorem impl_IsGrant.ok (k : Nat) : CSound Tryz.prog 76 (impl_IsGrant.C k) :=
  csound κ_ok mixed tok (impl_IsGrant.hΓ k) (LH := impl_IsGrant.LH k) (fn := Tryz.f76) (c := bodyOf Tryz.f76) Tryz.func76 rfl Tryz.call76 impl_IsGrant.sig [] (impl_IsGrant.body k) (by kernel_rfl) (impl_IsGrant.lok k) (by decide) fun vs bs lf y hl hb hy => by
    unfold impl_IsGrant.body at hb
    split at hb
    · obtain rfl := Option.some.inj hb
      exact ⟨impl_IsGrant.out, impl_IsGrant.out_ok, (impl_IsGrant.den k _ _ _ _ _ _ _).trans hy⟩
    · cases hb
/-! ### impl_IsFlow -/
def impl_IsFlow.f (k : Nat) (a0_0 : Int) (a0_1 : Int) (a0_2 : Int) : Option Bool :=
  (impl_InRange.f k a0_0 (1 : Int) (5 : Int)).bind fun t1 => (bif t1 then (impl_InRange.f k a0_1 (1 : Int) (9 : Int)).bind fun t2 => (bif t2 then (impl_InRange.f k a0_2 (1 : Int) (9 : Int)).bind fun t3 => some t3 else some false) else some false)
def impl_IsFlow.Γ (k : Nat) : Ct κ := assoc [(111, impl_InRange.C k)]
def impl_IsFlow.LH (k : Nat) : Nat → Option (LHi κ) := assoc []
theorem impl_IsFlow.hΓ (k : Nat) : ∀ f g, impl_IsFlow.Γ k f = some g → CSound Tryz.prog f g := G_cons (impl_InRange.ok k) G_nil
theorem impl_IsFlow.lok (k : Nat) : LOK ti (impl_IsFlow.Γ k) (impl_IsFlow.LH k) 0 (loopsOf (bodyOf Tryz.f78)) :=
  (show loopsOf (bodyOf Tryz.f78) = [] by kernel_rfl) ▸ LOK_nil
def impl_IsFlow.sig : List PSh := [.agg [.sc, .sc, .sc]]
def impl_IsFlow.g (y : Bool) : Ret κ := ⟨.v (.bool y), [], []⟩
def impl_IsFlow.out (r : Ret κ) : Option Bool :=
  match r with
  | ⟨.v (.bool z0), [], []⟩ => some (z0)
  | _ => none
theorem impl_IsFlow.out_ok (r : Ret κ) (y : Bool) (h : impl_IsFlow.out r = some y) : r = impl_IsFlow.g y := by
  unfold impl_IsFlow.out at h
  split at h
  · obtain rfl := Option.some.inj h
    rfl
  · cases h
def impl_IsFlow.body (k : Nat) (vs : List AV) (bs : List (Blk κ)) : Option (Lf κ) :=
  match vs, bs with
  | [.agg [.int .i64 a0_0, .int .i64 a0_1, .int .i64 a0_2]], [] => some ⟨Bool, impl_IsFlow.f k a0_0 a0_1 a0_2, impl_IsFlow.g⟩
  | _, _ => none
def impl_IsFlow.C (k : Nat) : Nat → List AV → AP κ AV := contract impl_IsFlow.sig (impl_IsFlow.body k)
theorem impl_IsFlow.den (k : Nat) (a0_0 : Int) (a0_1 : Int) (a0_2 : Int) : Code.den ti (impl_IsFlow.Γ k) (impl_IsFlow.LH k) (bodyOf Tryz.f78) (finK ti Tryz.f78.results.toList [] (flags impl_IsFlow.sig).length (rwI (flags impl_IsFlow.sig) 0) impl_IsFlow.out) ⟨envOf (([.agg [.int .i64 a0_0, .int .i64 a0_1, .int .i64 a0_2]]).zipIdx.map fun q => (q.2, q.1)), hpOf [], (flags impl_IsFlow.sig).length⟩ = impl_IsFlow.f k a0_0 a0_1 a0_2 := by kernel_rfl
theorem impl_IsFlow.ok (k : Nat) : CSound Tryz.prog 78 (impl_IsFlow.C k) :=
  csound κ_ok mixed tok (impl_IsFlow.hΓ k) (LH := impl_IsFlow.LH k) (fn := Tryz.f78) (c := bodyOf Tryz.f78) Tryz.func78 rfl Tryz.call78 impl_IsFlow.sig [] (impl_IsFlow.body k) (by kernel_rfl) (impl_IsFlow.lok k) (by decide) fun vs bs lf y hl hb hy => by
    unfold impl_IsFlow.body at hb
    split at hb
    · obtain rfl := Option.some.inj hb
      exact ⟨impl_IsFlow.out, impl_IsFlow.out_ok, (impl_IsFlow.den k _ _ _).trans hy⟩
    · cases hb
/-! ### impl_IsSite -/
def impl_IsSite.f (k : Nat) (a0_0 : Int) (a0_1 : Int) : Option Bool :=
  (impl_InRange.f k a0_0 (1 : Int) (9 : Int)).bind fun t1 => (bif t1 then (impl_InRange.f k a0_1 (0 : Int) (9 : Int)).bind fun t2 => some t2 else some false)
def impl_IsSite.Γ (k : Nat) : Ct κ := assoc [(111, impl_InRange.C k)]
def impl_IsSite.LH (k : Nat) : Nat → Option (LHi κ) := assoc []
theorem impl_IsSite.hΓ (k : Nat) : ∀ f g, impl_IsSite.Γ k f = some g → CSound Tryz.prog f g := G_cons (impl_InRange.ok k) G_nil
theorem impl_IsSite.lok (k : Nat) : LOK ti (impl_IsSite.Γ k) (impl_IsSite.LH k) 0 (loopsOf (bodyOf Tryz.f153)) :=
  (show loopsOf (bodyOf Tryz.f153) = [] by kernel_rfl) ▸ LOK_nil
def impl_IsSite.sig : List PSh := [.agg [.sc, .sc]]
def impl_IsSite.g (y : Bool) : Ret κ := ⟨.v (.bool y), [], []⟩
def impl_IsSite.out (r : Ret κ) : Option Bool :=
  match r with
  | ⟨.v (.bool z0), [], []⟩ => some (z0)
  | _ => none
theorem impl_IsSite.out_ok (r : Ret κ) (y : Bool) (h : impl_IsSite.out r = some y) : r = impl_IsSite.g y := by
  unfold impl_IsSite.out at h
  split at h
  · obtain rfl := Option.some.inj h
    rfl
  · cases h
def impl_IsSite.body (k : Nat) (vs : List AV) (bs : List (Blk κ)) : Option (Lf κ) :=
  match vs, bs with
  | [.agg [.int .i64 a0_0, .int .i64 a0_1]], [] => some ⟨Bool, impl_IsSite.f k a0_0 a0_1, impl_IsSite.g⟩
  | _, _ => none
def impl_IsSite.C (k : Nat) : Nat → List AV → AP κ AV := contract impl_IsSite.sig (impl_IsSite.body k)
theorem impl_IsSite.den (k : Nat) (a0_0 : Int) (a0_1 : Int) : Code.den ti (impl_IsSite.Γ k) (impl_IsSite.LH k) (bodyOf Tryz.f153) (finK ti Tryz.f153.results.toList [] (flags impl_IsSite.sig).length (rwI (flags impl_IsSite.sig) 0) impl_IsSite.out) ⟨envOf (([.agg [.int .i64 a0_0, .int .i64 a0_1]]).zipIdx.map fun q => (q.2, q.1)), hpOf [], (flags impl_IsSite.sig).length⟩ = impl_IsSite.f k a0_0 a0_1 := by kernel_rfl
theorem impl_IsSite.ok (k : Nat) : CSound Tryz.prog 153 (impl_IsSite.C k) :=
  csound κ_ok mixed tok (impl_IsSite.hΓ k) (LH := impl_IsSite.LH k) (fn := Tryz.f153) (c := bodyOf Tryz.f153) Tryz.func153 rfl Tryz.call153 impl_IsSite.sig [] (impl_IsSite.body k) (by kernel_rfl) (impl_IsSite.lok k) (by decide) fun vs bs lf y hl hb hy => by
    unfold impl_IsSite.body at hb
    split at hb
    · obtain rfl := Option.some.inj hb
      exact ⟨impl_IsSite.out, impl_IsSite.out_ok, (impl_IsSite.den k _ _).trans hy⟩
    · cases hb
/-! ### impl_IsRule -/
def impl_IsRule.f (k : Nat) (a0_0 : Int) (a0_1 : Int) (a0_2 : Int) (a0_3 : Int) (a0_4 : Int) (a0_5 : Int) (a0_6 : Int) (a0_7 : Int) : Option Bool :=
  (impl_InRange.f k a0_0 (1 : Int) (5 : Int)).bind fun t1 => (bif !t1 then some false else (impl_InRange.f k a0_1 (1 : Int) (9 : Int)).bind fun t2 => (bif !t2 then some false else (impl_IsPattern.f k a0_2 a0_3).bind fun t3 => (bif !t3 then some false else (impl_InRange.f k a0_4 (0 : Int) (4 : Int)).bind fun t4 => (bif !t4 then some false else (bif (a0_5 == (1 : Int)) then some ((a0_6 == (0 : Int)) && (a0_7 == (0 : Int))) else (bif (a0_5 == (2 : Int)) then some ((a0_6 == (0 : Int)) && (a0_7 == (0 : Int))) else (bif (a0_5 == (3 : Int)) then (impl_IsSite.f k a0_6 a0_7).bind fun t5 => some t5 else some false)))))))
def impl_IsRule.Γ (k : Nat) : Ct κ := assoc [(111, impl_InRange.C k), (122, impl_IsPattern.C k), (153, impl_IsSite.C k)]
def impl_IsRule.LH (k : Nat) : Nat → Option (LHi κ) := assoc []
theorem impl_IsRule.hΓ (k : Nat) : ∀ f g, impl_IsRule.Γ k f = some g → CSound Tryz.prog f g := G_cons (impl_InRange.ok k) (G_cons (impl_IsPattern.ok k) (G_cons (impl_IsSite.ok k) G_nil))
theorem impl_IsRule.lok (k : Nat) : LOK ti (impl_IsRule.Γ k) (impl_IsRule.LH k) 0 (loopsOf (bodyOf Tryz.f112)) :=
  (show loopsOf (bodyOf Tryz.f112) = [] by kernel_rfl) ▸ LOK_nil
def impl_IsRule.sig : List PSh := [.agg [.sc, .sc, .sc, .sc, .sc, .sc, .sc, .sc]]
def impl_IsRule.g (y : Bool) : Ret κ := ⟨.v (.bool y), [], []⟩
def impl_IsRule.out (r : Ret κ) : Option Bool :=
  match r with
  | ⟨.v (.bool z0), [], []⟩ => some (z0)
  | _ => none
theorem impl_IsRule.out_ok (r : Ret κ) (y : Bool) (h : impl_IsRule.out r = some y) : r = impl_IsRule.g y := by
  unfold impl_IsRule.out at h
  split at h
  · obtain rfl := Option.some.inj h
    rfl
  · cases h
def impl_IsRule.body (k : Nat) (vs : List AV) (bs : List (Blk κ)) : Option (Lf κ) :=
  match vs, bs with
  | [.agg [.int .i64 a0_0, .int .i64 a0_1, .int .i64 a0_2, .int .i64 a0_3, .int .i64 a0_4, .int .i64 a0_5, .int .i64 a0_6, .int .i64 a0_7]], [] => some ⟨Bool, impl_IsRule.f k a0_0 a0_1 a0_2 a0_3 a0_4 a0_5 a0_6 a0_7, impl_IsRule.g⟩
  | _, _ => none
def impl_IsRule.C (k : Nat) : Nat → List AV → AP κ AV := contract impl_IsRule.sig (impl_IsRule.body k)
theorem impl_IsRule.den (k : Nat) (a0_0 : Int) (a0_1 : Int) (a0_2 : Int) (a0_3 : Int) (a0_4 : Int) (a0_5 : Int) (a0_6 : Int) (a0_7 : Int) : Code.den ti (impl_IsRule.Γ k) (impl_IsRule.LH k) (bodyOf Tryz.f112) (finK ti Tryz.f112.results.toList [] (flags impl_IsRule.sig).length (rwI (flags impl_IsRule.sig) 0) impl_IsRule.out) ⟨envOf (([.agg [.int .i64 a0_0, .int .i64 a0_1, .int .i64 a0_2, .int .i64 a0_3, .int .i64 a0_4, .int .i64 a0_5, .int .i64 a0_6, .int .i64 a0_7]]).zipIdx.map fun q => (q.2, q.1)), hpOf [], (flags impl_IsRule.sig).length⟩ = impl_IsRule.f k a0_0 a0_1 a0_2 a0_3 a0_4 a0_5 a0_6 a0_7 := by kernel_rfl
theorem impl_IsRule.ok (k : Nat) : CSound Tryz.prog 112 (impl_IsRule.C k) :=
  csound κ_ok mixed tok (impl_IsRule.hΓ k) (LH := impl_IsRule.LH k) (fn := Tryz.f112) (c := bodyOf Tryz.f112) Tryz.func112 rfl Tryz.call112 impl_IsRule.sig [] (impl_IsRule.body k) (by kernel_rfl) (impl_IsRule.lok k) (by decide) fun vs bs lf y hl hb hy => by
    unfold impl_IsRule.body at hb
    split at hb
    · obtain rfl := Option.some.inj hb
      exact ⟨impl_IsRule.out, impl_IsRule.out_ok, (impl_IsRule.den k _ _ _ _ _ _ _ _).trans hy⟩
    · cases hb
/-! ### impl_isRegister -/
def impl_isRegister.f (k : Nat) (a0 : Int) : Option Bool :=
  (impl_InRange.f k a0 (0 : Int) (5 : Int)).bind fun t1 => some t1
def impl_isRegister.Γ (k : Nat) : Ct κ := assoc [(111, impl_InRange.C k)]
def impl_isRegister.LH (k : Nat) : Nat → Option (LHi κ) := assoc []
theorem impl_isRegister.hΓ (k : Nat) : ∀ f g, impl_isRegister.Γ k f = some g → CSound Tryz.prog f g := G_cons (impl_InRange.ok k) G_nil
theorem impl_isRegister.lok (k : Nat) : LOK ti (impl_isRegister.Γ k) (impl_isRegister.LH k) 0 (loopsOf (bodyOf Tryz.f169)) :=
  (show loopsOf (bodyOf Tryz.f169) = [] by kernel_rfl) ▸ LOK_nil
def impl_isRegister.sig : List PSh := [.one .sc]
def impl_isRegister.g (y : Bool) : Ret κ := ⟨.v (.bool y), [], []⟩
def impl_isRegister.out (r : Ret κ) : Option Bool :=
  match r with
  | ⟨.v (.bool z0), [], []⟩ => some (z0)
  | _ => none
theorem impl_isRegister.out_ok (r : Ret κ) (y : Bool) (h : impl_isRegister.out r = some y) : r = impl_isRegister.g y := by
  unfold impl_isRegister.out at h
  split at h
  · obtain rfl := Option.some.inj h
    rfl
  · cases h
def impl_isRegister.body (k : Nat) (vs : List AV) (bs : List (Blk κ)) : Option (Lf κ) :=
  match vs, bs with
  | [.v (.int .i64 a0)], [] => some ⟨Bool, impl_isRegister.f k a0, impl_isRegister.g⟩
  | _, _ => none
def impl_isRegister.C (k : Nat) : Nat → List AV → AP κ AV := contract impl_isRegister.sig (impl_isRegister.body k)
theorem impl_isRegister.den (k : Nat) (a0 : Int) : Code.den ti (impl_isRegister.Γ k) (impl_isRegister.LH k) (bodyOf Tryz.f169) (finK ti Tryz.f169.results.toList [] (flags impl_isRegister.sig).length (rwI (flags impl_isRegister.sig) 0) impl_isRegister.out) ⟨envOf (([.v (.int .i64 a0)]).zipIdx.map fun q => (q.2, q.1)), hpOf [], (flags impl_isRegister.sig).length⟩ = impl_isRegister.f k a0 := by kernel_rfl
theorem impl_isRegister.ok (k : Nat) : CSound Tryz.prog 169 (impl_isRegister.C k) :=
  csound κ_ok mixed tok (impl_isRegister.hΓ k) (LH := impl_isRegister.LH k) (fn := Tryz.f169) (c := bodyOf Tryz.f169) Tryz.func169 rfl Tryz.call169 impl_isRegister.sig [] (impl_isRegister.body k) (by kernel_rfl) (impl_isRegister.lok k) (by decide) fun vs bs lf y hl hb hy => by
    unfold impl_isRegister.body at hb
    split at hb
    · obtain rfl := Option.some.inj hb
      exact ⟨impl_isRegister.out, impl_isRegister.out_ok, (impl_isRegister.den k _).trans hy⟩
    · cases hb
/-! ### impl_isOp -/
def impl_isOp.f (k : Nat) (a0_0 : Int) (a0_1 : Int) (a0_2 : Int) (a0_3 : Int) : Option Bool :=
  (impl_isRegister.f k a0_1).bind fun t1 => (bif !t1 then some false else (bif (a0_0 == (1 : Int)) then (impl_InRange.f k a0_2 (1 : Int) (9 : Int)).bind fun t2 => (bif t2 then some (a0_3 == (0 : Int)) else some false) else (bif (a0_0 == (5 : Int)) then (impl_InRange.f k a0_2 (1 : Int) (9 : Int)).bind fun t3 => (bif t3 then some (a0_3 == (0 : Int)) else some false) else (bif (a0_0 == (2 : Int)) then (impl_InRange.f k a0_2 (0 : Int) (999 : Int)).bind fun t4 => (bif t4 then some (a0_3 == (0 : Int)) else some false) else (bif (a0_0 == (3 : Int)) then (impl_isRegister.f k a0_2).bind fun t5 => (bif t5 then (impl_isRegister.f k a0_3).bind fun t6 => some t6 else some false) else (bif (a0_0 == (4 : Int)) then (impl_isRegister.f k a0_2).bind fun t7 => (bif t7 then (impl_isRegister.f k a0_3).bind fun t8 => some t8 else some false) else some false))))))
def impl_isOp.Γ (k : Nat) : Ct κ := assoc [(169, impl_isRegister.C k), (111, impl_InRange.C k)]
def impl_isOp.LH (k : Nat) : Nat → Option (LHi κ) := assoc []
theorem impl_isOp.hΓ (k : Nat) : ∀ f g, impl_isOp.Γ k f = some g → CSound Tryz.prog f g := G_cons (impl_isRegister.ok k) (G_cons (impl_InRange.ok k) G_nil)
theorem impl_isOp.lok (k : Nat) : LOK ti (impl_isOp.Γ k) (impl_isOp.LH k) 0 (loopsOf (bodyOf Tryz.f137)) :=
  (show loopsOf (bodyOf Tryz.f137) = [] by kernel_rfl) ▸ LOK_nil
def impl_isOp.sig : List PSh := [.agg [.sc, .sc, .sc, .sc]]
def impl_isOp.g (y : Bool) : Ret κ := ⟨.v (.bool y), [], []⟩
def impl_isOp.out (r : Ret κ) : Option Bool :=
  match r with
  | ⟨.v (.bool z0), [], []⟩ => some (z0)
  | _ => none
theorem impl_isOp.out_ok (r : Ret κ) (y : Bool) (h : impl_isOp.out r = some y) : r = impl_isOp.g y := by
  unfold impl_isOp.out at h
  split at h
  · obtain rfl := Option.some.inj h
    rfl
  · cases h
def impl_isOp.body (k : Nat) (vs : List AV) (bs : List (Blk κ)) : Option (Lf κ) :=
  match vs, bs with
  | [.agg [.int .i64 a0_0, .int .i64 a0_1, .int .i64 a0_2, .int .i64 a0_3]], [] => some ⟨Bool, impl_isOp.f k a0_0 a0_1 a0_2 a0_3, impl_isOp.g⟩
  | _, _ => none
def impl_isOp.C (k : Nat) : Nat → List AV → AP κ AV := contract impl_isOp.sig (impl_isOp.body k)
theorem impl_isOp.den (k : Nat) (a0_0 : Int) (a0_1 : Int) (a0_2 : Int) (a0_3 : Int) : Code.den ti (impl_isOp.Γ k) (impl_isOp.LH k) (bodyOf Tryz.f137) (finK ti Tryz.f137.results.toList [] (flags impl_isOp.sig).length (rwI (flags impl_isOp.sig) 0) impl_isOp.out) ⟨envOf (([.agg [.int .i64 a0_0, .int .i64 a0_1, .int .i64 a0_2, .int .i64 a0_3]]).zipIdx.map fun q => (q.2, q.1)), hpOf [], (flags impl_isOp.sig).length⟩ = impl_isOp.f k a0_0 a0_1 a0_2 a0_3 := by kernel_rfl
theorem impl_isOp.ok (k : Nat) : CSound Tryz.prog 137 (impl_isOp.C k) :=
  csound κ_ok mixed tok (impl_isOp.hΓ k) (LH := impl_isOp.LH k) (fn := Tryz.f137) (c := bodyOf Tryz.f137) Tryz.func137 rfl Tryz.call137 impl_isOp.sig [] (impl_isOp.body k) (by kernel_rfl) (impl_isOp.lok k) (by decide) fun vs bs lf y hl hb hy => by
    unfold impl_isOp.body at hb
    split at hb
    · obtain rfl := Option.some.inj hb
      exact ⟨impl_isOp.out, impl_isOp.out_ok, (impl_isOp.den k _ _ _ _).trans hy⟩
    · cases hb
/-! ### impl_AreOps -/
def impl_AreOps.L4 {R : Type} (k : Nat) (x1 : Int) (xl0 : List T_impl_Op) (X0 : Bool → Option R) (X1 : Unit → Option R) (rec : Int → Option R) (x2 : Int) : Option R :=
  (bif decide (x2 < x1) then (bif decide (0 ≤ x2) then (bif decide (x2 < (xl0.length : Int)) then (impl_isOp.f k ((rd_impl_Op xl0 x2).f0) ((rd_impl_Op xl0 x2).f1) ((rd_impl_Op xl0 x2).f2) ((rd_impl_Op xl0 x2).f3)).bind fun t1 => (bif !t1 then (X0 false) else (rec (w64 (x2 + (1 : Int))))) else none) else none) else (X1 ()))
def impl_AreOps.l4 {R : Type} (k : Nat) (x1 : Int) (xl0 : List T_impl_Op) (X0 : Bool → Option R) (X1 : Unit → Option R) : Nat → Int → Option R
  | 0 => fun _ => none
  | n + 1 => impl_AreOps.L4 k x1 xl0 X0 X1 (impl_AreOps.l4 k x1 xl0 X0 X1 n)
def impl_AreOps.f (k : Nat) (a0 : List T_impl_Op) : Option Bool :=
  (bif decide ((a0.length : Int) > (16 : Int)) then some false else (impl_AreOps.l4 k (a0.length : Int) a0 (fun (y2 : Bool) => some y2) (fun (_ : Unit) => some true) k (0 : Int)))
def impl_AreOps.h4 (k : Nat) {R : Type} (K : Ex → St κ → Option R) (vs : List AV) (bs : List (Blk κ)) : Option R :=
  match vs, bs with
  | [.v (.sl 0), .v (.int .i64 x1), .v (.int .i64 x2)], [qb0] => (asO 1 false qb0).bind fun xl0 => impl_AreOps.l4 k x1 xl0 (fun (z0 : Bool) => K .ret (stOf [(2, [])] [.v (.bool z0)] [.rows 1 false xl0])) (fun (_ : Unit) => K (.exit 0) (stOf [(2, [])] [.v .any] [.rows 1 false xl0])) k x2
  | _, _ => none
def impl_AreOps.Γ (k : Nat) : Ct κ := assoc [(137, impl_isOp.C k)]
def impl_AreOps.LH (k : Nat) : Nat → Option (LHi κ) := assoc [(4, ⟨1, [(8, [some 1]), (9, []), (10, [])], [(2, [])], @impl_AreOps.h4 k⟩)]
theorem impl_AreOps.hΓ (k : Nat) : ∀ f g, impl_AreOps.Γ k f = some g → CSound Tryz.prog f g := G_cons (impl_isOp.ok k) G_nil
theorem impl_AreOps.e4 {R : Type} (K : Ex → St κ → Option R) (k : Nat) (x1 : Int) (xl0 : List T_impl_Op) : ∀ (n : Nat) (x2 : Int), loopN 1 (Code.den ti (impl_AreOps.Γ k) (impl_AreOps.LH k) (loopAt Tryz.f89 0)) [(8, [some 1]), (9, []), (10, [])] [(2, [])] K n [.v (.sl 0), .v (.int .i64 x1), .v (.int .i64 x2)] [.rows 1 false xl0] = impl_AreOps.l4 k x1 xl0 (fun (z0 : Bool) => K .ret (stOf [(2, [])] [.v (.bool z0)] [.rows 1 false xl0])) (fun (_ : Unit) => K (.exit 0) (stOf [(2, [])] [.v .any] [.rows 1 false xl0])) n x2
  | 0, _ => rfl
  | n + 1, x2 => (show loopN 1 (Code.den ti (impl_AreOps.Γ k) (impl_AreOps.LH k) (loopAt Tryz.f89 0)) [(8, [some 1]), (9, []), (10, [])] [(2, [])] K (n + 1) [.v (.sl 0), .v (.int .i64 x1), .v (.int .i64 x2)] [.rows 1 false xl0] = impl_AreOps.L4 k x1 xl0 (fun (z0 : Bool) => K .ret (stOf [(2, [])] [.v (.bool z0)] [.rows 1 false xl0])) (fun (_ : Unit) => K (.exit 0) (stOf [(2, [])] [.v .any] [.rows 1 false xl0])) (fun (x2' : Int) => loopN 1 (Code.den ti (impl_AreOps.Γ k) (impl_AreOps.LH k) (loopAt Tryz.f89 0)) [(8, [some 1]), (9, []), (10, [])] [(2, [])] K n [.v (.sl 0), .v (.int .i64 x1), .v (.int .i64 x2')] [.rows 1 false xl0]) x2 by kernel_rfl).trans (congrArg (fun rec => impl_AreOps.L4 k x1 xl0 (fun (z0 : Bool) => K .ret (stOf [(2, [])] [.v (.bool z0)] [.rows 1 false xl0])) (fun (_ : Unit) => K (.exit 0) (stOf [(2, [])] [.v .any] [.rows 1 false xl0])) rec x2) (funext fun x2' => impl_AreOps.e4 K k x1 xl0 n x2'))
theorem impl_AreOps.q4 (k : Nat) {R : Type} (K : Ex → St κ → Option R) (vs : List AV) (bs : List (Blk κ)) (r : R) (h : impl_AreOps.h4 k K vs bs = some r) : ∃ n, loopN 1 (Code.den ti (impl_AreOps.Γ k) (impl_AreOps.LH k) (loopAt Tryz.f89 0)) [(8, [some 1]), (9, []), (10, [])] [(2, [])] K n vs bs = some r := by
  unfold impl_AreOps.h4 at h
  split at h
  · obtain ⟨_, rfl, h_1⟩ := asO_bind h
    exact ⟨k, (impl_AreOps.e4 K k _ _ k _).trans h_1⟩
  · cases h
theorem impl_AreOps.lok (k : Nat) : LOK ti (impl_AreOps.Γ k) (impl_AreOps.LH k) 1 (loopsOf (bodyOf Tryz.f89)) :=
  (show loopsOf (bodyOf Tryz.f89) = [loopAt Tryz.f89 0] by kernel_rfl) ▸ (LOK_cons (g := ⟨1, [(8, [some 1]), (9, []), (10, [])], [(2, [])], @impl_AreOps.h4 k⟩) (by kernel_rfl) rfl (fun K vs xs r h => impl_AreOps.q4 k K vs xs r h) (LOK_nil))
def impl_AreOps.sig : List PSh := [.one (.ro 1)]
def impl_AreOps.g (y : Bool) : Ret κ := ⟨.v (.bool y), [], []⟩
def impl_AreOps.out (r : Ret κ) : Option Bool :=
  match r with
  | ⟨.v (.bool z0), [], []⟩ => some (z0)
  | _ => none
theorem impl_AreOps.out_ok (r : Ret κ) (y : Bool) (h : impl_AreOps.out r = some y) : r = impl_AreOps.g y := by
  unfold impl_AreOps.out at h
  split at h
  · obtain rfl := Option.some.inj h
    rfl
  · cases h
def impl_AreOps.body (k : Nat) (vs : List AV) (bs : List (Blk κ)) : Option (Lf κ) :=
  match vs, bs with
  | [.v (.sl 0)], [qb0] => (asO 1 false qb0).bind fun a0 => some ⟨Bool, impl_AreOps.f k a0, impl_AreOps.g⟩
  | _, _ => none
def impl_AreOps.C (k : Nat) : Nat → List AV → AP κ AV := contract impl_AreOps.sig (impl_AreOps.body k)
theorem impl_AreOps.den (k : Nat) (a0 : List T_impl_Op) : Code.den ti (impl_AreOps.Γ k) (impl_AreOps.LH k) (bodyOf Tryz.f89) (finK ti Tryz.f89.results.toList [] (flags impl_AreOps.sig).length (rwI (flags impl_AreOps.sig) 0) impl_AreOps.out) ⟨envOf (([.v (.sl 0)]).zipIdx.map fun q => (q.2, q.1)), hpOf [.rows 1 false a0], (flags impl_AreOps.sig).length⟩ = impl_AreOps.f k a0 := by kernel_rfl
theorem impl_AreOps.ok (k : Nat) : CSound Tryz.prog 89 (impl_AreOps.C k) :=
  csound κ_ok mixed tok (impl_AreOps.hΓ k) (LH := impl_AreOps.LH k) (fn := Tryz.f89) (c := bodyOf Tryz.f89) Tryz.func89 rfl Tryz.call89 impl_AreOps.sig [] (impl_AreOps.body k) (by kernel_rfl) (impl_AreOps.lok k) (by decide) fun vs bs lf y hl hb hy => by
    unfold impl_AreOps.body at hb
    split at hb
    · obtain ⟨_, rfl, hb_1⟩ := asO_bind hb
      obtain rfl := Option.some.inj hb_1
      exact ⟨impl_AreOps.out, impl_AreOps.out_ok, (impl_AreOps.den k _).trans hy⟩
    · cases hb
/-! ### impl_IsPackage -/
def impl_IsPackage.L4 {R : Type} (k : Nat) (x2 : Int) (xl0 : List T_impl_Grant) (xl1 : List T_impl_Flow) (xl2 : List T_impl_Rule) (xl3 : List T_impl_Op) (xc4_0 : Int) (xc4_1 : Int) (xc4_2 : Int) (xc4_7 : Int) (X0 : Bool → Option R) (X1 : Unit → Option R) (rec : Int → Option R) (x3 : Int) : Option R :=
  (bif decide (x3 < x2) then (bif decide (0 ≤ x3) then (bif decide (x3 < (xl0.length : Int)) then (impl_IsGrant.f k ((rd_impl_Grant xl0 x3).f0) ((rd_impl_Grant xl0 x3).f1.f0) ((rd_impl_Grant xl0 x3).f1.f1) ((rd_impl_Grant xl0 x3).f2) ((rd_impl_Grant xl0 x3).f3) ((rd_impl_Grant xl0 x3).f4) ((rd_impl_Grant xl0 x3).f5)).bind fun t4 => (bif !t4 then (X0 false) else (bif ((rd_impl_Grant xl0 x3).f0 != xc4_0) then (X0 false) else (rec (w64 (x3 + (1 : Int)))))) else none) else none) else (X1 ()))
def impl_IsPackage.l4 {R : Type} (k : Nat) (x2 : Int) (xl0 : List T_impl_Grant) (xl1 : List T_impl_Flow) (xl2 : List T_impl_Rule) (xl3 : List T_impl_Op) (xc4_0 : Int) (xc4_1 : Int) (xc4_2 : Int) (xc4_7 : Int) (X0 : Bool → Option R) (X1 : Unit → Option R) : Nat → Int → Option R
  | 0 => fun _ => none
  | n + 1 => impl_IsPackage.L4 k x2 xl0 xl1 xl2 xl3 xc4_0 xc4_1 xc4_2 xc4_7 X0 X1 (impl_IsPackage.l4 k x2 xl0 xl1 xl2 xl3 xc4_0 xc4_1 xc4_2 xc4_7 X0 X1 n)
def impl_IsPackage.L10 {R : Type} (k : Nat) (x2 : Int) (xl0 : List T_impl_Grant) (xl1 : List T_impl_Flow) (xl2 : List T_impl_Rule) (xl3 : List T_impl_Op) (xc4_0 : Int) (xc4_1 : Int) (xc4_2 : Int) (xc4_7 : Int) (X0 : Bool → Option R) (X1 : Unit → Option R) (rec : Int → Option R) (x3 : Int) : Option R :=
  (bif decide (x3 < x2) then (bif decide (0 ≤ x3) then (bif decide (x3 < (xl1.length : Int)) then (impl_IsFlow.f k ((rd_impl_Flow xl1 x3).f0) ((rd_impl_Flow xl1 x3).f1) ((rd_impl_Flow xl1 x3).f2)).bind fun t6 => (bif !t6 then (X0 false) else (bif ((rd_impl_Flow xl1 x3).f0 != xc4_0) then (X0 false) else (rec (w64 (x3 + (1 : Int)))))) else none) else none) else (X1 ()))
def impl_IsPackage.l10 {R : Type} (k : Nat) (x2 : Int) (xl0 : List T_impl_Grant) (xl1 : List T_impl_Flow) (xl2 : List T_impl_Rule) (xl3 : List T_impl_Op) (xc4_0 : Int) (xc4_1 : Int) (xc4_2 : Int) (xc4_7 : Int) (X0 : Bool → Option R) (X1 : Unit → Option R) : Nat → Int → Option R
  | 0 => fun _ => none
  | n + 1 => impl_IsPackage.L10 k x2 xl0 xl1 xl2 xl3 xc4_0 xc4_1 xc4_2 xc4_7 X0 X1 (impl_IsPackage.l10 k x2 xl0 xl1 xl2 xl3 xc4_0 xc4_1 xc4_2 xc4_7 X0 X1 n)
def impl_IsPackage.L16 {R : Type} (k : Nat) (x2 : Int) (xl0 : List T_impl_Grant) (xl1 : List T_impl_Flow) (xl2 : List T_impl_Rule) (xl3 : List T_impl_Op) (xc4_0 : Int) (xc4_1 : Int) (xc4_2 : Int) (xc4_7 : Int) (X0 : Bool → Option R) (X1 : Unit → Option R) (rec : Int → Option R) (x3 : Int) : Option R :=
  (bif decide (x3 < x2) then (bif decide (0 ≤ x3) then (bif decide (x3 < (xl2.length : Int)) then (impl_IsRule.f k ((rd_impl_Rule xl2 x3).f0) ((rd_impl_Rule xl2 x3).f1) ((rd_impl_Rule xl2 x3).f2.f0) ((rd_impl_Rule xl2 x3).f2.f1) ((rd_impl_Rule xl2 x3).f3) ((rd_impl_Rule xl2 x3).f4) ((rd_impl_Rule xl2 x3).f5.f0) ((rd_impl_Rule xl2 x3).f5.f1)).bind fun t8 => (bif !t8 then (X0 false) else (bif ((rd_impl_Rule xl2 x3).f0 != xc4_0) then (X0 false) else (rec (w64 (x3 + (1 : Int)))))) else none) else none) else (X1 ()))
def impl_IsPackage.l16 {R : Type} (k : Nat) (x2 : Int) (xl0 : List T_impl_Grant) (xl1 : List T_impl_Flow) (xl2 : List T_impl_Rule) (xl3 : List T_impl_Op) (xc4_0 : Int) (xc4_1 : Int) (xc4_2 : Int) (xc4_7 : Int) (X0 : Bool → Option R) (X1 : Unit → Option R) : Nat → Int → Option R
  | 0 => fun _ => none
  | n + 1 => impl_IsPackage.L16 k x2 xl0 xl1 xl2 xl3 xc4_0 xc4_1 xc4_2 xc4_7 X0 X1 (impl_IsPackage.l16 k x2 xl0 xl1 xl2 xl3 xc4_0 xc4_1 xc4_2 xc4_7 X0 X1 n)
def impl_IsPackage.f (k : Nat) (a0_0 : Int) (a0_1 : Int) (a0_2 : Int) (a0_3 : List T_impl_Grant) (a0_4 : List T_impl_Flow) (a0_5 : List T_impl_Rule) (a0_6 : List T_impl_Op) (a0_7 : Int) : Option Bool :=
  (impl_InRange.f k a0_0 (1 : Int) (5 : Int)).bind fun t1 => (bif !t1 then some false else (impl_InRange.f k a0_1 (1 : Int) (9 : Int)).bind fun t2 => (bif !t2 then some false else (impl_InRange.f k a0_2 (1 : Int) (999 : Int)).bind fun t3 => (bif !t3 then some false else (bif decide ((a0_3.length : Int) > (6 : Int)) then some false else (bif decide ((a0_4.length : Int) > (6 : Int)) then some false else (bif decide ((a0_5.length : Int) > (6 : Int)) then some false else (impl_IsPackage.l4 k (a0_3.length : Int) a0_3 a0_4 a0_5 a0_6 a0_0 a0_1 a0_2 a0_7 (fun (y5 : Bool) => some y5) (fun (_ : Unit) => (impl_IsPackage.l10 k (a0_4.length : Int) a0_3 a0_4 a0_5 a0_6 a0_0 a0_1 a0_2 a0_7 (fun (y7 : Bool) => some y7) (fun (_ : Unit) => (impl_IsPackage.l16 k (a0_5.length : Int) a0_3 a0_4 a0_5 a0_6 a0_0 a0_1 a0_2 a0_7 (fun (y9 : Bool) => some y9) (fun (_ : Unit) => (impl_AreOps.f k a0_6).bind fun t10 => some t10) k (0 : Int))) k (0 : Int))) k (0 : Int))))))))
def impl_IsPackage.h4 (k : Nat) {R : Type} (K : Ex → St κ → Option R) (vs : List AV) (bs : List (Blk κ)) : Option R :=
  match vs, bs with
  | [.v (.ptr 4 0 0), .v (.sl 0), .v (.int .i64 x2), .v (.int .i64 x3)], [qb0, qb1, qb2, qb3, .cells 39 [.int .i64 xc4_0, .int .i64 xc4_1, .int .i64 xc4_2, .sl 0, .sl 1, .sl 2, .sl 3, .int .i64 xc4_7]] => (asO 2 false qb0).bind fun xl0 => (asO 3 false qb1).bind fun xl1 => (asO 4 false qb2).bind fun xl2 => (asO 1 false qb3).bind fun xl3 => impl_IsPackage.l4 k x2 xl0 xl1 xl2 xl3 xc4_0 xc4_1 xc4_2 xc4_7 (fun (z1 : Bool) => K .ret (stOf [(1, [none, none, none, some 2, some 3, some 4, some 1, none]), (2, [])] [.v (.ptr 4 0 0), .v (.bool z1)] [.rows 2 false xl0, .rows 3 false xl1, .rows 4 false xl2, .rows 1 false xl3, .cells 39 [.int .i64 xc4_0, .int .i64 xc4_1, .int .i64 xc4_2, .sl 0, .sl 1, .sl 2, .sl 3, .int .i64 xc4_7]])) (fun (_ : Unit) => K (.exit 0) (stOf [(1, [none, none, none, some 2, some 3, some 4, some 1, none]), (2, [])] [.v (.ptr 4 0 0), .v .any] [.rows 2 false xl0, .rows 3 false xl1, .rows 4 false xl2, .rows 1 false xl3, .cells 39 [.int .i64 xc4_0, .int .i64 xc4_1, .int .i64 xc4_2, .sl 0, .sl 1, .sl 2, .sl 3, .int .i64 xc4_7]])) k x3
  | _, _ => none
def impl_IsPackage.h10 (k : Nat) {R : Type} (K : Ex → St κ → Option R) (vs : List AV) (bs : List (Blk κ)) : Option R :=
  match vs, bs with
  | [.v (.ptr 4 0 0), .v (.sl 1), .v (.int .i64 x2), .v (.int .i64 x3)], [qb0, qb1, qb2, qb3, .cells 39 [.int .i64 xc4_0, .int .i64 xc4_1, .int .i64 xc4_2, .sl 0, .sl 1, .sl 2, .sl 3, .int .i64 xc4_7]] => (asO 2 false qb0).bind fun xl0 => (asO 3 false qb1).bind fun xl1 => (asO 4 false qb2).bind fun xl2 => (asO 1 false qb3).bind fun xl3 => impl_IsPackage.l10 k x2 xl0 xl1 xl2 xl3 xc4_0 xc4_1 xc4_2 xc4_7 (fun (z1 : Bool) => K .ret (stOf [(1, [none, none, none, some 2, some 3, some 4, some 1, none]), (2, [])] [.v (.ptr 4 0 0), .v (.bool z1)] [.rows 2 false xl0, .rows 3 false xl1, .rows 4 false xl2, .rows 1 false xl3, .cells 39 [.int .i64 xc4_0, .int .i64 xc4_1, .int .i64 xc4_2, .sl 0, .sl 1, .sl 2, .sl 3, .int .i64 xc4_7]])) (fun (_ : Unit) => K (.exit 2) (stOf [(1, [none, none, none, some 2, some 3, some 4, some 1, none]), (2, [])] [.v (.ptr 4 0 0), .v .any] [.rows 2 false xl0, .rows 3 false xl1, .rows 4 false xl2, .rows 1 false xl3, .cells 39 [.int .i64 xc4_0, .int .i64 xc4_1, .int .i64 xc4_2, .sl 0, .sl 1, .sl 2, .sl 3, .int .i64 xc4_7]])) k x3
  | _, _ => none
def impl_IsPackage.h16 (k : Nat) {R : Type} (K : Ex → St κ → Option R) (vs : List AV) (bs : List (Blk κ)) : Option R :=
  match vs, bs with
  | [.v (.ptr 4 0 0), .v (.sl 2), .v (.int .i64 x2), .v (.int .i64 x3)], [qb0, qb1, qb2, qb3, .cells 39 [.int .i64 xc4_0, .int .i64 xc4_1, .int .i64 xc4_2, .sl 0, .sl 1, .sl 2, .sl 3, .int .i64 xc4_7]] => (asO 2 false qb0).bind fun xl0 => (asO 3 false qb1).bind fun xl1 => (asO 4 false qb2).bind fun xl2 => (asO 1 false qb3).bind fun xl3 => impl_IsPackage.l16 k x2 xl0 xl1 xl2 xl3 xc4_0 xc4_1 xc4_2 xc4_7 (fun (z1 : Bool) => K .ret (stOf [(1, [none, none, none, some 2, some 3, some 4, some 1, none]), (2, [])] [.v (.ptr 4 0 0), .v (.bool z1)] [.rows 2 false xl0, .rows 3 false xl1, .rows 4 false xl2, .rows 1 false xl3, .cells 39 [.int .i64 xc4_0, .int .i64 xc4_1, .int .i64 xc4_2, .sl 0, .sl 1, .sl 2, .sl 3, .int .i64 xc4_7]])) (fun (_ : Unit) => K (.exit 4) (stOf [(1, [none, none, none, some 2, some 3, some 4, some 1, none]), (2, [])] [.v (.ptr 4 0 0), .v .any] [.rows 2 false xl0, .rows 3 false xl1, .rows 4 false xl2, .rows 1 false xl3, .cells 39 [.int .i64 xc4_0, .int .i64 xc4_1, .int .i64 xc4_2, .sl 0, .sl 1, .sl 2, .sl 3, .int .i64 xc4_7]])) k x3
  | _, _ => none
def impl_IsPackage.Γ (k : Nat) : Ct κ := assoc [(111, impl_InRange.C k), (76, impl_IsGrant.C k), (78, impl_IsFlow.C k), (112, impl_IsRule.C k), (89, impl_AreOps.C k)]
def impl_IsPackage.LH (k : Nat) : Nat → Option (LHi κ) := assoc [(4, ⟨4, [(1, [none, none, none, some 2, some 3, some 4, some 1, none]), (44, [some 2]), (45, []), (46, [])], [(1, [none, none, none, some 2, some 3, some 4, some 1, none]), (2, [])], @impl_IsPackage.h4 k⟩), (10, ⟨4, [(1, [none, none, none, some 2, some 3, some 4, some 1, none]), (62, [some 3]), (63, []), (64, [])], [(1, [none, none, none, some 2, some 3, some 4, some 1, none]), (2, [])], @impl_IsPackage.h10 k⟩), (16, ⟨4, [(1, [none, none, none, some 2, some 3, some 4, some 1, none]), (80, [some 4]), (81, []), (82, [])], [(1, [none, none, none, some 2, some 3, some 4, some 1, none]), (2, [])], @impl_IsPackage.h16 k⟩)]
theorem impl_IsPackage.hΓ (k : Nat) : ∀ f g, impl_IsPackage.Γ k f = some g → CSound Tryz.prog f g := G_cons (impl_InRange.ok k) (G_cons (impl_IsGrant.ok k) (G_cons (impl_IsFlow.ok k) (G_cons (impl_IsRule.ok k) (G_cons (impl_AreOps.ok k) G_nil))))
theorem impl_IsPackage.e4 {R : Type} (K : Ex → St κ → Option R) (k : Nat) (x2 : Int) (xl0 : List T_impl_Grant) (xl1 : List T_impl_Flow) (xl2 : List T_impl_Rule) (xl3 : List T_impl_Op) (xc4_0 : Int) (xc4_1 : Int) (xc4_2 : Int) (xc4_7 : Int) : ∀ (n : Nat) (x3 : Int), loopN 4 (Code.den ti (impl_IsPackage.Γ k) (impl_IsPackage.LH k) (loopAt Tryz.f53 0)) [(1, [none, none, none, some 2, some 3, some 4, some 1, none]), (44, [some 2]), (45, []), (46, [])] [(1, [none, none, none, some 2, some 3, some 4, some 1, none]), (2, [])] K n [.v (.ptr 4 0 0), .v (.sl 0), .v (.int .i64 x2), .v (.int .i64 x3)] [.rows 2 false xl0, .rows 3 false xl1, .rows 4 false xl2, .rows 1 false xl3, .cells 39 [.int .i64 xc4_0, .int .i64 xc4_1, .int .i64 xc4_2, .sl 0, .sl 1, .sl 2, .sl 3, .int .i64 xc4_7]] = impl_IsPackage.l4 k x2 xl0 xl1 xl2 xl3 xc4_0 xc4_1 xc4_2 xc4_7 (fun (z1 : Bool) => K .ret (stOf [(1, [none, none, none, some 2, some 3, some 4, some 1, none]), (2, [])] [.v (.ptr 4 0 0), .v (.bool z1)] [.rows 2 false xl0, .rows 3 false xl1, .rows 4 false xl2, .rows 1 false xl3, .cells 39 [.int .i64 xc4_0, .int .i64 xc4_1, .int .i64 xc4_2, .sl 0, .sl 1, .sl 2, .sl 3, .int .i64 xc4_7]])) (fun (_ : Unit) => K (.exit 0) (stOf [(1, [none, none, none, some 2, some 3, some 4, some 1, none]), (2, [])] [.v (.ptr 4 0 0), .v .any] [.rows 2 false xl0, .rows 3 false xl1, .rows 4 false xl2, .rows 1 false xl3, .cells 39 [.int .i64 xc4_0, .int .i64 xc4_1, .int .i64 xc4_2, .sl 0, .sl 1, .sl 2, .sl 3, .int .i64 xc4_7]])) n x3
  | 0, _ => rfl
  | n + 1, x3 => (show loopN 4 (Code.den ti (impl_IsPackage.Γ k) (impl_IsPackage.LH k) (loopAt Tryz.f53 0)) [(1, [none, none, none, some 2, some 3, some 4, some 1, none]), (44, [some 2]), (45, []), (46, [])] [(1, [none, none, none, some 2, some 3, some 4, some 1, none]), (2, [])] K (n + 1) [.v (.ptr 4 0 0), .v (.sl 0), .v (.int .i64 x2), .v (.int .i64 x3)] [.rows 2 false xl0, .rows 3 false xl1, .rows 4 false xl2, .rows 1 false xl3, .cells 39 [.int .i64 xc4_0, .int .i64 xc4_1, .int .i64 xc4_2, .sl 0, .sl 1, .sl 2, .sl 3, .int .i64 xc4_7]] = impl_IsPackage.L4 k x2 xl0 xl1 xl2 xl3 xc4_0 xc4_1 xc4_2 xc4_7 (fun (z1 : Bool) => K .ret (stOf [(1, [none, none, none, some 2, some 3, some 4, some 1, none]), (2, [])] [.v (.ptr 4 0 0), .v (.bool z1)] [.rows 2 false xl0, .rows 3 false xl1, .rows 4 false xl2, .rows 1 false xl3, .cells 39 [.int .i64 xc4_0, .int .i64 xc4_1, .int .i64 xc4_2, .sl 0, .sl 1, .sl 2, .sl 3, .int .i64 xc4_7]])) (fun (_ : Unit) => K (.exit 0) (stOf [(1, [none, none, none, some 2, some 3, some 4, some 1, none]), (2, [])] [.v (.ptr 4 0 0), .v .any] [.rows 2 false xl0, .rows 3 false xl1, .rows 4 false xl2, .rows 1 false xl3, .cells 39 [.int .i64 xc4_0, .int .i64 xc4_1, .int .i64 xc4_2, .sl 0, .sl 1, .sl 2, .sl 3, .int .i64 xc4_7]])) (fun (x3' : Int) => loopN 4 (Code.den ti (impl_IsPackage.Γ k) (impl_IsPackage.LH k) (loopAt Tryz.f53 0)) [(1, [none, none, none, some 2, some 3, some 4, some 1, none]), (44, [some 2]), (45, []), (46, [])] [(1, [none, none, none, some 2, some 3, some 4, some 1, none]), (2, [])] K n [.v (.ptr 4 0 0), .v (.sl 0), .v (.int .i64 x2), .v (.int .i64 x3')] [.rows 2 false xl0, .rows 3 false xl1, .rows 4 false xl2, .rows 1 false xl3, .cells 39 [.int .i64 xc4_0, .int .i64 xc4_1, .int .i64 xc4_2, .sl 0, .sl 1, .sl 2, .sl 3, .int .i64 xc4_7]]) x3 by kernel_rfl).trans (congrArg (fun rec => impl_IsPackage.L4 k x2 xl0 xl1 xl2 xl3 xc4_0 xc4_1 xc4_2 xc4_7 (fun (z1 : Bool) => K .ret (stOf [(1, [none, none, none, some 2, some 3, some 4, some 1, none]), (2, [])] [.v (.ptr 4 0 0), .v (.bool z1)] [.rows 2 false xl0, .rows 3 false xl1, .rows 4 false xl2, .rows 1 false xl3, .cells 39 [.int .i64 xc4_0, .int .i64 xc4_1, .int .i64 xc4_2, .sl 0, .sl 1, .sl 2, .sl 3, .int .i64 xc4_7]])) (fun (_ : Unit) => K (.exit 0) (stOf [(1, [none, none, none, some 2, some 3, some 4, some 1, none]), (2, [])] [.v (.ptr 4 0 0), .v .any] [.rows 2 false xl0, .rows 3 false xl1, .rows 4 false xl2, .rows 1 false xl3, .cells 39 [.int .i64 xc4_0, .int .i64 xc4_1, .int .i64 xc4_2, .sl 0, .sl 1, .sl 2, .sl 3, .int .i64 xc4_7]])) rec x3) (funext fun x3' => impl_IsPackage.e4 K k x2 xl0 xl1 xl2 xl3 xc4_0 xc4_1 xc4_2 xc4_7 n x3'))
theorem impl_IsPackage.q4 (k : Nat) {R : Type} (K : Ex → St κ → Option R) (vs : List AV) (bs : List (Blk κ)) (r : R) (h : impl_IsPackage.h4 k K vs bs = some r) : ∃ n, loopN 4 (Code.den ti (impl_IsPackage.Γ k) (impl_IsPackage.LH k) (loopAt Tryz.f53 0)) [(1, [none, none, none, some 2, some 3, some 4, some 1, none]), (44, [some 2]), (45, []), (46, [])] [(1, [none, none, none, some 2, some 3, some 4, some 1, none]), (2, [])] K n vs bs = some r := by
  unfold impl_IsPackage.h4 at h
  split at h
  · obtain ⟨_, rfl, h_1⟩ := asO_bind h
    obtain ⟨_, rfl, h_2⟩ := asO_bind h_1
    obtain ⟨_, rfl, h_3⟩ := asO_bind h_2
    obtain ⟨_, rfl, h_4⟩ := asO_bind h_3
    exact ⟨k, (impl_IsPackage.e4 K k _ _ _ _ _ _ _ _ _ k _).trans h_4⟩
  · cases h
theorem impl_IsPackage.e10 {R : Type} (K : Ex → St κ → Option R) (k : Nat) (x2 : Int) (xl0 : List T_impl_Grant) (xl1 : List T_impl_Flow) (xl2 : List T_impl_Rule) (xl3 : List T_impl_Op) (xc4_0 : Int) (xc4_1 : Int) (xc4_2 : Int) (xc4_7 : Int) : ∀ (n : Nat) (x3 : Int), loopN 4 (Code.den ti (impl_IsPackage.Γ k) (impl_IsPackage.LH k) (loopAt Tryz.f53 1)) [(1, [none, none, none, some 2, some 3, some 4, some 1, none]), (62, [some 3]), (63, []), (64, [])] [(1, [none, none, none, some 2, some 3, some 4, some 1, none]), (2, [])] K n [.v (.ptr 4 0 0), .v (.sl 1), .v (.int .i64 x2), .v (.int .i64 x3)] [.rows 2 false xl0, .rows 3 false xl1, .rows 4 false xl2, .rows 1 false xl3, .cells 39 [.int .i64 xc4_0, .int .i64 xc4_1, .int .i64 xc4_2, .sl 0, .sl 1, .sl 2, .sl 3, .int .i64 xc4_7]] = impl_IsPackage.l10 k x2 xl0 xl1 xl2 xl3 xc4_0 xc4_1 xc4_2 xc4_7 (fun (z1 : Bool) => K .ret (stOf [(1, [none, none, none, some 2, some 3, some 4, some 1, none]), (2, [])] [.v (.ptr 4 0 0), .v (.bool z1)] [.rows 2 false xl0, .rows 3 false xl1, .rows 4 false xl2, .rows 1 false xl3, .cells 39 [.int .i64 xc4_0, .int .i64 xc4_1, .int .i64 xc4_2, .sl 0, .sl 1, .sl 2, .sl 3, .int .i64 xc4_7]])) (fun (_ : Unit) => K (.exit 2) (stOf [(1, [none, none, none, some 2, some 3, some 4, some 1, none]), (2, [])] [.v (.ptr 4 0 0), .v .any] [.rows 2 false xl0, .rows 3 false xl1, .rows 4 false xl2, .rows 1 false xl3, .cells 39 [.int .i64 xc4_0, .int .i64 xc4_1, .int .i64 xc4_2, .sl 0, .sl 1, .sl 2, .sl 3, .int .i64 xc4_7]])) n x3
  | 0, _ => rfl
  | n + 1, x3 => (show loopN 4 (Code.den ti (impl_IsPackage.Γ k) (impl_IsPackage.LH k) (loopAt Tryz.f53 1)) [(1, [none, none, none, some 2, some 3, some 4, some 1, none]), (62, [some 3]), (63, []), (64, [])] [(1, [none, none, none, some 2, some 3, some 4, some 1, none]), (2, [])] K (n + 1) [.v (.ptr 4 0 0), .v (.sl 1), .v (.int .i64 x2), .v (.int .i64 x3)] [.rows 2 false xl0, .rows 3 false xl1, .rows 4 false xl2, .rows 1 false xl3, .cells 39 [.int .i64 xc4_0, .int .i64 xc4_1, .int .i64 xc4_2, .sl 0, .sl 1, .sl 2, .sl 3, .int .i64 xc4_7]] = impl_IsPackage.L10 k x2 xl0 xl1 xl2 xl3 xc4_0 xc4_1 xc4_2 xc4_7 (fun (z1 : Bool) => K .ret (stOf [(1, [none, none, none, some 2, some 3, some 4, some 1, none]), (2, [])] [.v (.ptr 4 0 0), .v (.bool z1)] [.rows 2 false xl0, .rows 3 false xl1, .rows 4 false xl2, .rows 1 false xl3, .cells 39 [.int .i64 xc4_0, .int .i64 xc4_1, .int .i64 xc4_2, .sl 0, .sl 1, .sl 2, .sl 3, .int .i64 xc4_7]])) (fun (_ : Unit) => K (.exit 2) (stOf [(1, [none, none, none, some 2, some 3, some 4, some 1, none]), (2, [])] [.v (.ptr 4 0 0), .v .any] [.rows 2 false xl0, .rows 3 false xl1, .rows 4 false xl2, .rows 1 false xl3, .cells 39 [.int .i64 xc4_0, .int .i64 xc4_1, .int .i64 xc4_2, .sl 0, .sl 1, .sl 2, .sl 3, .int .i64 xc4_7]])) (fun (x3' : Int) => loopN 4 (Code.den ti (impl_IsPackage.Γ k) (impl_IsPackage.LH k) (loopAt Tryz.f53 1)) [(1, [none, none, none, some 2, some 3, some 4, some 1, none]), (62, [some 3]), (63, []), (64, [])] [(1, [none, none, none, some 2, some 3, some 4, some 1, none]), (2, [])] K n [.v (.ptr 4 0 0), .v (.sl 1), .v (.int .i64 x2), .v (.int .i64 x3')] [.rows 2 false xl0, .rows 3 false xl1, .rows 4 false xl2, .rows 1 false xl3, .cells 39 [.int .i64 xc4_0, .int .i64 xc4_1, .int .i64 xc4_2, .sl 0, .sl 1, .sl 2, .sl 3, .int .i64 xc4_7]]) x3 by kernel_rfl).trans (congrArg (fun rec => impl_IsPackage.L10 k x2 xl0 xl1 xl2 xl3 xc4_0 xc4_1 xc4_2 xc4_7 (fun (z1 : Bool) => K .ret (stOf [(1, [none, none, none, some 2, some 3, some 4, some 1, none]), (2, [])] [.v (.ptr 4 0 0), .v (.bool z1)] [.rows 2 false xl0, .rows 3 false xl1, .rows 4 false xl2, .rows 1 false xl3, .cells 39 [.int .i64 xc4_0, .int .i64 xc4_1, .int .i64 xc4_2, .sl 0, .sl 1, .sl 2, .sl 3, .int .i64 xc4_7]])) (fun (_ : Unit) => K (.exit 2) (stOf [(1, [none, none, none, some 2, some 3, some 4, some 1, none]), (2, [])] [.v (.ptr 4 0 0), .v .any] [.rows 2 false xl0, .rows 3 false xl1, .rows 4 false xl2, .rows 1 false xl3, .cells 39 [.int .i64 xc4_0, .int .i64 xc4_1, .int .i64 xc4_2, .sl 0, .sl 1, .sl 2, .sl 3, .int .i64 xc4_7]])) rec x3) (funext fun x3' => impl_IsPackage.e10 K k x2 xl0 xl1 xl2 xl3 xc4_0 xc4_1 xc4_2 xc4_7 n x3'))
theorem impl_IsPackage.q10 (k : Nat) {R : Type} (K : Ex → St κ → Option R) (vs : List AV) (bs : List (Blk κ)) (r : R) (h : impl_IsPackage.h10 k K vs bs = some r) : ∃ n, loopN 4 (Code.den ti (impl_IsPackage.Γ k) (impl_IsPackage.LH k) (loopAt Tryz.f53 1)) [(1, [none, none, none, some 2, some 3, some 4, some 1, none]), (62, [some 3]), (63, []), (64, [])] [(1, [none, none, none, some 2, some 3, some 4, some 1, none]), (2, [])] K n vs bs = some r := by
  unfold impl_IsPackage.h10 at h
  split at h
  · obtain ⟨_, rfl, h_1⟩ := asO_bind h
    obtain ⟨_, rfl, h_2⟩ := asO_bind h_1
    obtain ⟨_, rfl, h_3⟩ := asO_bind h_2
    obtain ⟨_, rfl, h_4⟩ := asO_bind h_3
    exact ⟨k, (impl_IsPackage.e10 K k _ _ _ _ _ _ _ _ _ k _).trans h_4⟩
  · cases h
theorem impl_IsPackage.e16 {R : Type} (K : Ex → St κ → Option R) (k : Nat) (x2 : Int) (xl0 : List T_impl_Grant) (xl1 : List T_impl_Flow) (xl2 : List T_impl_Rule) (xl3 : List T_impl_Op) (xc4_0 : Int) (xc4_1 : Int) (xc4_2 : Int) (xc4_7 : Int) : ∀ (n : Nat) (x3 : Int), loopN 4 (Code.den ti (impl_IsPackage.Γ k) (impl_IsPackage.LH k) (loopAt Tryz.f53 2)) [(1, [none, none, none, some 2, some 3, some 4, some 1, none]), (80, [some 4]), (81, []), (82, [])] [(1, [none, none, none, some 2, some 3, some 4, some 1, none]), (2, [])] K n [.v (.ptr 4 0 0), .v (.sl 2), .v (.int .i64 x2), .v (.int .i64 x3)] [.rows 2 false xl0, .rows 3 false xl1, .rows 4 false xl2, .rows 1 false xl3, .cells 39 [.int .i64 xc4_0, .int .i64 xc4_1, .int .i64 xc4_2, .sl 0, .sl 1, .sl 2, .sl 3, .int .i64 xc4_7]] = impl_IsPackage.l16 k x2 xl0 xl1 xl2 xl3 xc4_0 xc4_1 xc4_2 xc4_7 (fun (z1 : Bool) => K .ret (stOf [(1, [none, none, none, some 2, some 3, some 4, some 1, none]), (2, [])] [.v (.ptr 4 0 0), .v (.bool z1)] [.rows 2 false xl0, .rows 3 false xl1, .rows 4 false xl2, .rows 1 false xl3, .cells 39 [.int .i64 xc4_0, .int .i64 xc4_1, .int .i64 xc4_2, .sl 0, .sl 1, .sl 2, .sl 3, .int .i64 xc4_7]])) (fun (_ : Unit) => K (.exit 4) (stOf [(1, [none, none, none, some 2, some 3, some 4, some 1, none]), (2, [])] [.v (.ptr 4 0 0), .v .any] [.rows 2 false xl0, .rows 3 false xl1, .rows 4 false xl2, .rows 1 false xl3, .cells 39 [.int .i64 xc4_0, .int .i64 xc4_1, .int .i64 xc4_2, .sl 0, .sl 1, .sl 2, .sl 3, .int .i64 xc4_7]])) n x3
  | 0, _ => rfl
  | n + 1, x3 => (show loopN 4 (Code.den ti (impl_IsPackage.Γ k) (impl_IsPackage.LH k) (loopAt Tryz.f53 2)) [(1, [none, none, none, some 2, some 3, some 4, some 1, none]), (80, [some 4]), (81, []), (82, [])] [(1, [none, none, none, some 2, some 3, some 4, some 1, none]), (2, [])] K (n + 1) [.v (.ptr 4 0 0), .v (.sl 2), .v (.int .i64 x2), .v (.int .i64 x3)] [.rows 2 false xl0, .rows 3 false xl1, .rows 4 false xl2, .rows 1 false xl3, .cells 39 [.int .i64 xc4_0, .int .i64 xc4_1, .int .i64 xc4_2, .sl 0, .sl 1, .sl 2, .sl 3, .int .i64 xc4_7]] = impl_IsPackage.L16 k x2 xl0 xl1 xl2 xl3 xc4_0 xc4_1 xc4_2 xc4_7 (fun (z1 : Bool) => K .ret (stOf [(1, [none, none, none, some 2, some 3, some 4, some 1, none]), (2, [])] [.v (.ptr 4 0 0), .v (.bool z1)] [.rows 2 false xl0, .rows 3 false xl1, .rows 4 false xl2, .rows 1 false xl3, .cells 39 [.int .i64 xc4_0, .int .i64 xc4_1, .int .i64 xc4_2, .sl 0, .sl 1, .sl 2, .sl 3, .int .i64 xc4_7]])) (fun (_ : Unit) => K (.exit 4) (stOf [(1, [none, none, none, some 2, some 3, some 4, some 1, none]), (2, [])] [.v (.ptr 4 0 0), .v .any] [.rows 2 false xl0, .rows 3 false xl1, .rows 4 false xl2, .rows 1 false xl3, .cells 39 [.int .i64 xc4_0, .int .i64 xc4_1, .int .i64 xc4_2, .sl 0, .sl 1, .sl 2, .sl 3, .int .i64 xc4_7]])) (fun (x3' : Int) => loopN 4 (Code.den ti (impl_IsPackage.Γ k) (impl_IsPackage.LH k) (loopAt Tryz.f53 2)) [(1, [none, none, none, some 2, some 3, some 4, some 1, none]), (80, [some 4]), (81, []), (82, [])] [(1, [none, none, none, some 2, some 3, some 4, some 1, none]), (2, [])] K n [.v (.ptr 4 0 0), .v (.sl 2), .v (.int .i64 x2), .v (.int .i64 x3')] [.rows 2 false xl0, .rows 3 false xl1, .rows 4 false xl2, .rows 1 false xl3, .cells 39 [.int .i64 xc4_0, .int .i64 xc4_1, .int .i64 xc4_2, .sl 0, .sl 1, .sl 2, .sl 3, .int .i64 xc4_7]]) x3 by kernel_rfl).trans (congrArg (fun rec => impl_IsPackage.L16 k x2 xl0 xl1 xl2 xl3 xc4_0 xc4_1 xc4_2 xc4_7 (fun (z1 : Bool) => K .ret (stOf [(1, [none, none, none, some 2, some 3, some 4, some 1, none]), (2, [])] [.v (.ptr 4 0 0), .v (.bool z1)] [.rows 2 false xl0, .rows 3 false xl1, .rows 4 false xl2, .rows 1 false xl3, .cells 39 [.int .i64 xc4_0, .int .i64 xc4_1, .int .i64 xc4_2, .sl 0, .sl 1, .sl 2, .sl 3, .int .i64 xc4_7]])) (fun (_ : Unit) => K (.exit 4) (stOf [(1, [none, none, none, some 2, some 3, some 4, some 1, none]), (2, [])] [.v (.ptr 4 0 0), .v .any] [.rows 2 false xl0, .rows 3 false xl1, .rows 4 false xl2, .rows 1 false xl3, .cells 39 [.int .i64 xc4_0, .int .i64 xc4_1, .int .i64 xc4_2, .sl 0, .sl 1, .sl 2, .sl 3, .int .i64 xc4_7]])) rec x3) (funext fun x3' => impl_IsPackage.e16 K k x2 xl0 xl1 xl2 xl3 xc4_0 xc4_1 xc4_2 xc4_7 n x3'))
theorem impl_IsPackage.q16 (k : Nat) {R : Type} (K : Ex → St κ → Option R) (vs : List AV) (bs : List (Blk κ)) (r : R) (h : impl_IsPackage.h16 k K vs bs = some r) : ∃ n, loopN 4 (Code.den ti (impl_IsPackage.Γ k) (impl_IsPackage.LH k) (loopAt Tryz.f53 2)) [(1, [none, none, none, some 2, some 3, some 4, some 1, none]), (80, [some 4]), (81, []), (82, [])] [(1, [none, none, none, some 2, some 3, some 4, some 1, none]), (2, [])] K n vs bs = some r := by
  unfold impl_IsPackage.h16 at h
  split at h
  · obtain ⟨_, rfl, h_1⟩ := asO_bind h
    obtain ⟨_, rfl, h_2⟩ := asO_bind h_1
    obtain ⟨_, rfl, h_3⟩ := asO_bind h_2
    obtain ⟨_, rfl, h_4⟩ := asO_bind h_3
    exact ⟨k, (impl_IsPackage.e16 K k _ _ _ _ _ _ _ _ _ k _).trans h_4⟩
  · cases h
theorem impl_IsPackage.lok (k : Nat) : LOK ti (impl_IsPackage.Γ k) (impl_IsPackage.LH k) 4 (loopsOf (bodyOf Tryz.f53)) :=
  (show loopsOf (bodyOf Tryz.f53) = [loopAt Tryz.f53 0, loopAt Tryz.f53 1, loopAt Tryz.f53 2] by kernel_rfl) ▸ (LOK_cons (g := ⟨4, [(1, [none, none, none, some 2, some 3, some 4, some 1, none]), (44, [some 2]), (45, []), (46, [])], [(1, [none, none, none, some 2, some 3, some 4, some 1, none]), (2, [])], @impl_IsPackage.h4 k⟩) (by kernel_rfl) rfl (fun K vs xs r h => impl_IsPackage.q4 k K vs xs r h) (LOK_cons (g := ⟨4, [(1, [none, none, none, some 2, some 3, some 4, some 1, none]), (62, [some 3]), (63, []), (64, [])], [(1, [none, none, none, some 2, some 3, some 4, some 1, none]), (2, [])], @impl_IsPackage.h10 k⟩) (by kernel_rfl) rfl (fun K vs xs r h => impl_IsPackage.q10 k K vs xs r h) (LOK_cons (g := ⟨4, [(1, [none, none, none, some 2, some 3, some 4, some 1, none]), (80, [some 4]), (81, []), (82, [])], [(1, [none, none, none, some 2, some 3, some 4, some 1, none]), (2, [])], @impl_IsPackage.h16 k⟩) (by kernel_rfl) rfl (fun K vs xs r h => impl_IsPackage.q16 k K vs xs r h) (LOK_nil))))
def impl_IsPackage.sig : List PSh := [.agg [.sc, .sc, .sc, .ro 2, .ro 3, .ro 4, .ro 1, .sc]]
def impl_IsPackage.g (y : Bool) : Ret κ := ⟨.v (.bool y), [], []⟩
def impl_IsPackage.out (r : Ret κ) : Option Bool :=
  match r with
  | ⟨.v (.bool z0), [], []⟩ => some (z0)
  | _ => none
theorem impl_IsPackage.out_ok (r : Ret κ) (y : Bool) (h : impl_IsPackage.out r = some y) : r = impl_IsPackage.g y := by
  unfold impl_IsPackage.out at h
  split at h
  · obtain rfl := Option.some.inj h
    rfl
  · cases h
def impl_IsPackage.body (k : Nat) (vs : List AV) (bs : List (Blk κ)) : Option (Lf κ) :=
  match vs, bs with
  | [.agg [.int .i64 a0_0, .int .i64 a0_1, .int .i64 a0_2, .sl 0, .sl 1, .sl 2, .sl 3, .int .i64 a0_7]], [qb0, qb1, qb2, qb3] => (asO 2 false qb0).bind fun a0_3 => (asO 3 false qb1).bind fun a0_4 => (asO 4 false qb2).bind fun a0_5 => (asO 1 false qb3).bind fun a0_6 => some ⟨Bool, impl_IsPackage.f k a0_0 a0_1 a0_2 a0_3 a0_4 a0_5 a0_6 a0_7, impl_IsPackage.g⟩
  | _, _ => none
def impl_IsPackage.C (k : Nat) : Nat → List AV → AP κ AV := contract impl_IsPackage.sig (impl_IsPackage.body k)
theorem impl_IsPackage.den (k : Nat) (a0_0 : Int) (a0_1 : Int) (a0_2 : Int) (a0_3 : List T_impl_Grant) (a0_4 : List T_impl_Flow) (a0_5 : List T_impl_Rule) (a0_6 : List T_impl_Op) (a0_7 : Int) : Code.den ti (impl_IsPackage.Γ k) (impl_IsPackage.LH k) (bodyOf Tryz.f53) (finK ti Tryz.f53.results.toList [] (flags impl_IsPackage.sig).length (rwI (flags impl_IsPackage.sig) 0) impl_IsPackage.out) ⟨envOf (([.agg [.int .i64 a0_0, .int .i64 a0_1, .int .i64 a0_2, .sl 0, .sl 1, .sl 2, .sl 3, .int .i64 a0_7]]).zipIdx.map fun q => (q.2, q.1)), hpOf [.rows 2 false a0_3, .rows 3 false a0_4, .rows 4 false a0_5, .rows 1 false a0_6], (flags impl_IsPackage.sig).length⟩ = impl_IsPackage.f k a0_0 a0_1 a0_2 a0_3 a0_4 a0_5 a0_6 a0_7 := by kernel_rfl
theorem impl_IsPackage.ok (k : Nat) : CSound Tryz.prog 53 (impl_IsPackage.C k) :=
  csound κ_ok mixed tok (impl_IsPackage.hΓ k) (LH := impl_IsPackage.LH k) (fn := Tryz.f53) (c := bodyOf Tryz.f53) Tryz.func53 rfl Tryz.call53 impl_IsPackage.sig [] (impl_IsPackage.body k) (by kernel_rfl) (impl_IsPackage.lok k) (by decide) fun vs bs lf y hl hb hy => by
    unfold impl_IsPackage.body at hb
    split at hb
    · obtain ⟨_, rfl, hb_1⟩ := asO_bind hb
      obtain ⟨_, rfl, hb_2⟩ := asO_bind hb_1
      obtain ⟨_, rfl, hb_3⟩ := asO_bind hb_2
      obtain ⟨_, rfl, hb_4⟩ := asO_bind hb_3
      obtain rfl := Option.some.inj hb_4
      exact ⟨impl_IsPackage.out, impl_IsPackage.out_ok, (impl_IsPackage.den k _ _ _ _ _ _ _ _).trans hy⟩
    · cases hb
end Go.Proofs.YtoenilndklbceaaGreat.PFnUpdated
