/- What the functions that the law FnTransferred reaches come to; no conditions. -/
import Derived.Test.YthingkcckjiniaaPFnTransferred3
set_option linter.unusedVariables false
set_option maxRecDepth 100000
namespace Go.Proofs.Ythingkcckjiniaa.PFnTransferred
open Go Go.Eng Go.Proofs
/-! ### spec_l1Int -/
def spec_l1Int.f (k : Nat) (a0_0 : List Int) (a0_1 : Int) (a0_2 : Int) (a1 : List Int) : Option (Int × Int × Int) :=
  (spec_l1Below.f k a0_0 a0_1 a0_2 (a1.length : Int)).bind fun t1 => (bif decide (0 ≤ t1.1) then (bif decide (t1.1 < (a1.length : Int)) then some ((rd_i64 a1 t1.1), t1.2.1, t1.2.2) else none) else none)
def spec_l1Int.Γ (k : Nat) : Ct κ := assoc [(56, spec_l1Below.C k)]
def spec_l1Int.LH (k : Nat) : Nat → Option (LHi κ) := assoc []
theorem spec_l1Int.hΓ (k : Nat) : ∀ f g, spec_l1Int.Γ k f = some g → CSound Try.prog f g := G_cons (spec_l1Below.ok k) G_nil
theorem spec_l1Int.lok (k : Nat) : LOK ti (spec_l1Int.Γ k) (spec_l1Int.LH k) 3 (loopsOf (bodyOf Try.f60)) :=
  (show loopsOf (bodyOf Try.f60) = [] by kernel_rfl) ▸ LOK_nil
def spec_l1Int.sig : List PSh := [.cur 137 [.ro 0, .sc, .sc], .one (.ro 5)]
def spec_l1Int.g (y : Int × Int × Int) : Ret κ := ⟨.v (.int .i64 y.1), [.cells 137 [.sl 1, .int .i64 y.2.1, .int .i64 y.2.2]], []⟩
def spec_l1Int.out (r : Ret κ) : Option (Int × Int × Int) :=
  match r with
  | ⟨.v (.int .i64 z0), [.cells 137 [.sl 1, .int .i64 z1, .int .i64 z2]], []⟩ => some (z0, z1, z2)
  | _ => none
theorem spec_l1Int.out_ok (r : Ret κ) (y : Int × Int × Int) (h : spec_l1Int.out r = some y) : r = spec_l1Int.g y := by
  unfold spec_l1Int.out at h
  split at h
  · obtain rfl := Option.some.inj h
    rfl
  · cases h
def spec_l1Int.body (k : Nat) (vs : List AV) (bs : List (Blk κ)) : Option (Lf κ) :=
  match vs, bs with
  | [.v (.ptr 0 0 0), .v (.sl 2)], [.cells 137 [.sl 1, .int .i64 a0_1, .int .i64 a0_2], qb1, qb2] => (asO 0 false qb1).bind fun a0_0 => (asO 5 false qb2).bind fun a1 => some ⟨Int × Int × Int, spec_l1Int.f k a0_0 a0_1 a0_2 a1, spec_l1Int.g⟩
  | _, _ => none
def spec_l1Int.C (k : Nat) : Nat → List AV → AP κ AV := contract spec_l1Int.sig (spec_l1Int.body k)
theorem spec_l1Int.den (k : Nat) (a0_0 : List Int) (a0_1 : Int) (a0_2 : Int) (a1 : List Int) : Code.den ti (spec_l1Int.Γ k) (spec_l1Int.LH k) (bodyOf Try.f60) (finK ti Try.f60.results.toList [] (flags spec_l1Int.sig).length (rwI (flags spec_l1Int.sig) 0) spec_l1Int.out) ⟨envOf (([.v (.ptr 0 0 0), .v (.sl 2)]).zipIdx.map fun q => (q.2, q.1)), hpOf [.cells 137 [.sl 1, .int .i64 a0_1, .int .i64 a0_2], .rows 0 false a0_0, .rows 5 false a1], (flags spec_l1Int.sig).length⟩ = spec_l1Int.f k a0_0 a0_1 a0_2 a1 := by kernel_rfl
theorem spec_l1Int.ok (k : Nat) : CSound Try.prog 60 (spec_l1Int.C k) :=
  csound κ_ok mixed tok (spec_l1Int.hΓ k) (LH := spec_l1Int.LH k) (fn := Try.f60) (c := bodyOf Try.f60) Try.func60 rfl Try.call60 spec_l1Int.sig [] (spec_l1Int.body k) (by kernel_rfl) (spec_l1Int.lok k) (by decide) fun vs bs lf y hl hb hy => by
    unfold spec_l1Int.body at hb
    split at hb
    · obtain ⟨_, rfl, hb_1⟩ := asO_bind hb
      obtain ⟨_, rfl, hb_2⟩ := asO_bind hb_1
      obtain rfl := Option.some.inj hb_2
      exact ⟨spec_l1Int.out, spec_l1Int.out_ok, (spec_l1Int.den k _ _ _ _).trans hy⟩
    · cases hb
/-! ### spec_l9Raw -/
def spec_l9Raw.f (k : Nat) (a0_0 : List Int) (a0_1 : Int) (a0_2 : Int) : Option (Int × Int × Int) :=
  (spec_l1Int.f k a0_0 a0_1 a0_2 ([(-2 : Int), (-1 : Int), (0 : Int), (9 : Int), (10 : Int), (9223372036854775807 : Int), (-9223372036854775808 : Int)] : List Int)).bind fun t1 => some (t1.1, t1.2.1, t1.2.2)
def spec_l9Raw.Γ (k : Nat) : Ct κ := assoc [(60, spec_l1Int.C k)]
def spec_l9Raw.LH (k : Nat) : Nat → Option (LHi κ) := assoc []
theorem spec_l9Raw.hΓ (k : Nat) : ∀ f g, spec_l9Raw.Γ k f = some g → CSound Try.prog f g := G_cons (spec_l1Int.ok k) G_nil
theorem spec_l9Raw.lok (k : Nat) : LOK ti (spec_l9Raw.Γ k) (spec_l9Raw.LH k) 2 (loopsOf (bodyOf Try.f109)) :=
  (show loopsOf (bodyOf Try.f109) = [] by kernel_rfl) ▸ LOK_nil
def spec_l9Raw.sig : List PSh := [.cur 137 [.ro 0, .sc, .sc]]
def spec_l9Raw.g (y : Int × Int × Int) : Ret κ := ⟨.v (.int .i64 y.1), [.cells 137 [.sl 1, .int .i64 y.2.1, .int .i64 y.2.2]], []⟩
def spec_l9Raw.out (r : Ret κ) : Option (Int × Int × Int) :=
  match r with
  | ⟨.v (.int .i64 z0), [.cells 137 [.sl 1, .int .i64 z1, .int .i64 z2]], []⟩ => some (z0, z1, z2)
  | _ => none
theorem spec_l9Raw.out_ok (r : Ret κ) (y : Int × Int × Int) (h : spec_l9Raw.out r = some y) : r = spec_l9Raw.g y := by
  unfold spec_l9Raw.out at h
  split at h
  · obtain rfl := Option.some.inj h
    rfl
  · cases h
def spec_l9Raw.body (k : Nat) (vs : List AV) (bs : List (Blk κ)) : Option (Lf κ) :=
  match vs, bs with
  | [.v (.ptr 0 0 0)], [.cells 137 [.sl 1, .int .i64 a0_1, .int .i64 a0_2], qb1] => (asO 0 false qb1).bind fun a0_0 => some ⟨Int × Int × Int, spec_l9Raw.f k a0_0 a0_1 a0_2, spec_l9Raw.g⟩
  | _, _ => none
def spec_l9Raw.C (k : Nat) : Nat → List AV → AP κ AV := contract spec_l9Raw.sig (spec_l9Raw.body k)
theorem spec_l9Raw.den (k : Nat) (a0_0 : List Int) (a0_1 : Int) (a0_2 : Int) : Code.den ti (spec_l9Raw.Γ k) (spec_l9Raw.LH k) (bodyOf Try.f109) (finK ti Try.f109.results.toList [] (flags spec_l9Raw.sig).length (rwI (flags spec_l9Raw.sig) 0) spec_l9Raw.out) ⟨envOf (([.v (.ptr 0 0 0)]).zipIdx.map fun q => (q.2, q.1)), hpOf [.cells 137 [.sl 1, .int .i64 a0_1, .int .i64 a0_2], .rows 0 false a0_0], (flags spec_l9Raw.sig).length⟩ = spec_l9Raw.f k a0_0 a0_1 a0_2 := by kernel_rfl
theorem spec_l9Raw.ok (k : Nat) : CSound Try.prog 109 (spec_l9Raw.C k) :=
  csound κ_ok mixed tok (spec_l9Raw.hΓ k) (LH := spec_l9Raw.LH k) (fn := Try.f109) (c := bodyOf Try.f109) Try.func109 rfl Try.call109 spec_l9Raw.sig [] (spec_l9Raw.body k) (by kernel_rfl) (spec_l9Raw.lok k) (by decide) fun vs bs lf y hl hb hy => by
    unfold spec_l9Raw.body at hb
    split at hb
    · obtain ⟨_, rfl, hb_1⟩ := asO_bind hb
      obtain rfl := Option.some.inj hb_1
      exact ⟨spec_l9Raw.out, spec_l9Raw.out_ok, (spec_l9Raw.den k _ _ _).trans hy⟩
    · cases hb
/-! ### spec_l29Draw -/
def spec_l29Draw.f (k : Nat) (a0_0 : List Int) (a0_1 : Int) (a0_2 : Int) : Option (Int × Int × Int × Int × Int × Int × Int) :=
  (spec_l1Below.f k a0_0 a0_1 a0_2 (3 : Int)).bind fun t1 => (spec_l1Below.f k a0_0 t1.2.1 t1.2.2 (3 : Int)).bind fun t2 => (spec_l1Below.f k a0_0 t2.2.1 t2.2.2 (4 : Int)).bind fun t3 => (spec_SealDeed.f k (w64 ((1 : Int) + t1.1)) (w64 ((1 : Int) + t2.1)) (w64 ((1 : Int) + t3.1)) (0 : Int) (0 : Int) (11 : Int) (12 : Int)).bind fun t4 => (spec_l1Below.f k a0_0 t3.2.1 t3.2.2 (8 : Int)).bind fun t5 => (bif (t5.1 == (0 : Int)) then (spec_l1Int.f k a0_0 t5.2.1 t5.2.2 ([(0 : Int), (9 : Int), (10 : Int)] : List Int)).bind fun t6 => some (t4.1, t4.2.1, t6.1, t4.2.2.2.1, t4.2.2.2.2, t6.2.1, t6.2.2) else (bif (t5.1 == (1 : Int)) then some (t4.1, t4.2.1, t4.2.2.1, t4.2.2.2.1, (0 : Int), t5.2.1, t5.2.2) else (bif (t5.1 == (2 : Int)) then some (t4.1, t4.2.1, t4.2.2.1, t4.2.2.2.2, t4.2.2.2.2, t5.2.1, t5.2.2) else (bif (t5.1 == (3 : Int)) then (spec_l9Raw.f k a0_0 t5.2.1 t5.2.2).bind fun t7 => some (t7.1, t4.2.1, t4.2.2.1, t4.2.2.2.1, t4.2.2.2.2, t7.2.1, t7.2.2) else some (t4.1, t4.2.1, t4.2.2.1, t4.2.2.2.1, t4.2.2.2.2, t5.2.1, t5.2.2)))))
def spec_l29Draw.Γ (k : Nat) : Ct κ := assoc [(56, spec_l1Below.C k), (57, spec_SealDeed.C k), (60, spec_l1Int.C k), (109, spec_l9Raw.C k)]
def spec_l29Draw.LH (k : Nat) : Nat → Option (LHi κ) := assoc []
theorem spec_l29Draw.hΓ (k : Nat) : ∀ f g, spec_l29Draw.Γ k f = some g → CSound Try.prog f g := G_cons (spec_l1Below.ok k) (G_cons (spec_SealDeed.ok k) (G_cons (spec_l1Int.ok k) (G_cons (spec_l9Raw.ok k) G_nil)))
theorem spec_l29Draw.lok (k : Nat) : LOK ti (spec_l29Draw.Γ k) (spec_l29Draw.LH k) 2 (loopsOf (bodyOf Try.f59)) :=
  (show loopsOf (bodyOf Try.f59) = [] by kernel_rfl) ▸ LOK_nil
def spec_l29Draw.sig : List PSh := [.cur 137 [.ro 0, .sc, .sc]]
def spec_l29Draw.g (y : Int × Int × Int × Int × Int × Int × Int) : Ret κ := ⟨.agg [.int .i64 y.1, .int .i64 y.2.1, .int .i64 y.2.2.1, .int .i64 y.2.2.2.1, .int .i64 y.2.2.2.2.1], [.cells 137 [.sl 1, .int .i64 y.2.2.2.2.2.1, .int .i64 y.2.2.2.2.2.2]], []⟩
def spec_l29Draw.out (r : Ret κ) : Option (Int × Int × Int × Int × Int × Int × Int) :=
  match r with
  | ⟨.agg [.int .i64 z0, .int .i64 z1, .int .i64 z2, .int .i64 z3, .int .i64 z4], [.cells 137 [.sl 1, .int .i64 z5, .int .i64 z6]], []⟩ => some (z0, z1, z2, z3, z4, z5, z6)
  | _ => none
theorem spec_l29Draw.out_ok (r : Ret κ) (y : Int × Int × Int × Int × Int × Int × Int) (h : spec_l29Draw.out r = some y) : r = spec_l29Draw.g y := by
  unfold spec_l29Draw.out at h
  split at h
  · obtain rfl := Option.some.inj h
    rfl
  · cases h
def spec_l29Draw.body (k : Nat) (vs : List AV) (bs : List (Blk κ)) : Option (Lf κ) :=
  match vs, bs with
  | [.v (.ptr 0 0 0)], [.cells 137 [.sl 1, .int .i64 a0_1, .int .i64 a0_2], qb1] => (asO 0 false qb1).bind fun a0_0 => some ⟨Int × Int × Int × Int × Int × Int × Int, spec_l29Draw.f k a0_0 a0_1 a0_2, spec_l29Draw.g⟩
  | _, _ => none
def spec_l29Draw.C (k : Nat) : Nat → List AV → AP κ AV := contract spec_l29Draw.sig (spec_l29Draw.body k)
theorem spec_l29Draw.den (k : Nat) (a0_0 : List Int) (a0_1 : Int) (a0_2 : Int) : Code.den ti (spec_l29Draw.Γ k) (spec_l29Draw.LH k) (bodyOf Try.f59) (finK ti Try.f59.results.toList [] (flags spec_l29Draw.sig).length (rwI (flags spec_l29Draw.sig) 0) spec_l29Draw.out) ⟨envOf (([.v (.ptr 0 0 0)]).zipIdx.map fun q => (q.2, q.1)), hpOf [.cells 137 [.sl 1, .int .i64 a0_1, .int .i64 a0_2], .rows 0 false a0_0], (flags spec_l29Draw.sig).length⟩ = spec_l29Draw.f k a0_0 a0_1 a0_2 := by kernel_rfl
theorem spec_l29Draw.ok (k : Nat) : CSound Try.prog 59 (spec_l29Draw.C k) :=
  csound κ_ok mixed tok (spec_l29Draw.hΓ k) (LH := spec_l29Draw.LH k) (fn := Try.f59) (c := bodyOf Try.f59) Try.func59 rfl Try.call59 spec_l29Draw.sig [] (spec_l29Draw.body k) (by kernel_rfl) (spec_l29Draw.lok k) (by decide) fun vs bs lf y hl hb hy => by
    unfold spec_l29Draw.body at hb
    split at hb
    · obtain ⟨_, rfl, hb_1⟩ := asO_bind hb
      obtain rfl := Option.some.inj hb_1
      exact ⟨spec_l29Draw.out, spec_l29Draw.out_ok, (spec_l29Draw.den k _ _ _).trans hy⟩
    · cases hb
/-! ### spec_DrawTransfer -/
def spec_DrawTransfer.f (k : Nat) (a0 : List Int) : Option (Int × Int × Int × Int × Int × Int × Int × Int × Int × Int × Int × Int × List T_impl_Grant × List T_impl_Flow × List T_impl_Rule × List T_impl_Op) :=
  (spec_l1New.f k a0).bind fun t1 => (spec_l1Below.f k a0 t1.1 t1.2 (3 : Int)).bind fun t2 => (spec_l26Draw.f k a0 t2.2.1 t2.2.2 (w64 ((1 : Int) + t2.1))).bind fun t3 => (spec_l1Below.f k a0 t3.2.2.2.2.1 t3.2.2.2.2.2.1 (4 : Int)).bind fun t4 => (spec_SealDeed.f k t3.1 t3.2.1 (w64 ((1 : Int) + t4.1)) (0 : Int) (0 : Int) (11 : Int) (12 : Int)).bind fun t5 => (spec_l1Once.f k a0 t4.2.1 t4.2.2 (4 : Int)).bind fun t6 => (bif t6.1 then (spec_l29Draw.f k a0 t6.2.1 t6.2.2).bind fun t7 => (spec_l1Int.f k a0 t7.2.2.2.2.2.1 t7.2.2.2.2.2.2 ([(5 : Int), (5 : Int), (77 : Int)] : List Int)).bind fun t8 => (spec_l1Int.f k a0 t8.2.1 t8.2.2 ([(12 : Int), (12 : Int), (12 : Int), (11 : Int)] : List Int)).bind fun t9 => some (t8.1, t3.1, t3.2.1, t3.2.2.1, t3.2.2.2.1, t7.1, t7.2.1, t7.2.2.1, t7.2.2.2.1, t7.2.2.2.2.1, (11 : Int), t9.1, t3.2.2.2.2.2.2.1, t3.2.2.2.2.2.2.2.1, t3.2.2.2.2.2.2.2.2.1, t3.2.2.2.2.2.2.2.2.2) else (spec_l1Int.f k a0 t6.2.1 t6.2.2 ([(5 : Int), (5 : Int), (77 : Int)] : List Int)).bind fun t10 => (spec_l1Int.f k a0 t10.2.1 t10.2.2 ([(12 : Int), (12 : Int), (12 : Int), (11 : Int)] : List Int)).bind fun t11 => some (t10.1, t3.1, t3.2.1, t3.2.2.1, t3.2.2.2.1, t5.1, t5.2.1, t5.2.2.1, t5.2.2.2.1, t5.2.2.2.2, (11 : Int), t11.1, t3.2.2.2.2.2.2.1, t3.2.2.2.2.2.2.2.1, t3.2.2.2.2.2.2.2.2.1, t3.2.2.2.2.2.2.2.2.2))
def spec_DrawTransfer.Γ (k : Nat) : Ct κ := assoc [(54, spec_l1New.C k), (56, spec_l1Below.C k), (55, spec_l26Draw.C k), (57, spec_SealDeed.C k), (58, spec_l1Once.C k), (59, spec_l29Draw.C k), (60, spec_l1Int.C k)]
def spec_DrawTransfer.LH (k : Nat) : Nat → Option (LHi κ) := assoc []
theorem spec_DrawTransfer.hΓ (k : Nat) : ∀ f g, spec_DrawTransfer.Γ k f = some g → CSound Try.prog f g := G_cons (spec_l1New.ok k) (G_cons (spec_l1Below.ok k) (G_cons (spec_l26Draw.ok k) (G_cons (spec_SealDeed.ok k) (G_cons (spec_l1Once.ok k) (G_cons (spec_l29Draw.ok k) (G_cons (spec_l1Int.ok k) G_nil))))))
theorem spec_DrawTransfer.lok (k : Nat) : LOK ti (spec_DrawTransfer.Γ k) (spec_DrawTransfer.LH k) 1 (loopsOf (bodyOf Try.f12)) :=
  (show loopsOf (bodyOf Try.f12) = [] by kernel_rfl) ▸ LOK_nil
def spec_DrawTransfer.sig : List PSh := [.one (.ro 0)]
def spec_DrawTransfer.g (y : Int × Int × Int × Int × Int × Int × Int × Int × Int × Int × Int × Int × List T_impl_Grant × List T_impl_Flow × List T_impl_Rule × List T_impl_Op) : Ret κ := ⟨.tup [(false, [.int .i64 y.1]), (true, [.int .i64 y.2.1, .int .i64 y.2.2.1, .int .i64 y.2.2.2.1, .sl 1, .sl 2, .sl 3, .sl 4, .int .i64 y.2.2.2.2.1]), (true, [.int .i64 y.2.2.2.2.2.1, .int .i64 y.2.2.2.2.2.2.1, .int .i64 y.2.2.2.2.2.2.2.1, .int .i64 y.2.2.2.2.2.2.2.2.1, .int .i64 y.2.2.2.2.2.2.2.2.2.1]), (false, [.int .i64 y.2.2.2.2.2.2.2.2.2.2.1]), (false, [.int .i64 y.2.2.2.2.2.2.2.2.2.2.2.1])], [], [.rows 2 true y.2.2.2.2.2.2.2.2.2.2.2.2.1, .rows 3 true y.2.2.2.2.2.2.2.2.2.2.2.2.2.1, .rows 4 true y.2.2.2.2.2.2.2.2.2.2.2.2.2.2.1, .rows 1 true y.2.2.2.2.2.2.2.2.2.2.2.2.2.2.2]⟩
def spec_DrawTransfer.out (r : Ret κ) : Option (Int × Int × Int × Int × Int × Int × Int × Int × Int × Int × Int × Int × List T_impl_Grant × List T_impl_Flow × List T_impl_Rule × List T_impl_Op) :=
  match r with
  | ⟨.tup [(false, [.int .i64 z0]), (true, [.int .i64 z1, .int .i64 z2, .int .i64 z3, .sl 1, .sl 2, .sl 3, .sl 4, .int .i64 z4]), (true, [.int .i64 z5, .int .i64 z6, .int .i64 z7, .int .i64 z8, .int .i64 z9]), (false, [.int .i64 z10]), (false, [.int .i64 z11])], [], [q12, q13, q14, q15]⟩ => (asO 2 true q12).bind fun z12 => (asO 3 true q13).bind fun z13 => (asO 4 true q14).bind fun z14 => (asO 1 true q15).bind fun z15 => some (z0, z1, z2, z3, z4, z5, z6, z7, z8, z9, z10, z11, z12, z13, z14, z15)
  | _ => none
theorem spec_DrawTransfer.out_ok (r : Ret κ) (y : Int × Int × Int × Int × Int × Int × Int × Int × Int × Int × Int × Int × List T_impl_Grant × List T_impl_Flow × List T_impl_Rule × List T_impl_Op) (h : spec_DrawTransfer.out r = some y) : r = spec_DrawTransfer.g y := by
  unfold spec_DrawTransfer.out at h
  split at h
  · obtain ⟨_, rfl, h_1⟩ := asO_bind h
    obtain ⟨_, rfl, h_2⟩ := asO_bind h_1
    obtain ⟨_, rfl, h_3⟩ := asO_bind h_2
    obtain ⟨_, rfl, h_4⟩ := asO_bind h_3
    obtain rfl := Option.some.inj h_4
    rfl
  · cases h
def spec_DrawTransfer.body (k : Nat) (vs : List AV) (bs : List (Blk κ)) : Option (Lf κ) :=
  match vs, bs with
  | [.v (.sl 0)], [qb0] => (asO 0 false qb0).bind fun a0 => some ⟨Int × Int × Int × Int × Int × Int × Int × Int × Int × Int × Int × Int × List T_impl_Grant × List T_impl_Flow × List T_impl_Rule × List T_impl_Op, spec_DrawTransfer.f k a0, spec_DrawTransfer.g⟩
  | _, _ => none
def spec_DrawTransfer.C (k : Nat) : Nat → List AV → AP κ AV := contract spec_DrawTransfer.sig (spec_DrawTransfer.body k)
theorem spec_DrawTransfer.den (k : Nat) (a0 : List Int) : Code.den ti (spec_DrawTransfer.Γ k) (spec_DrawTransfer.LH k) (bodyOf Try.f12) (finK ti Try.f12.results.toList [(3, [none, none, none, some 2, some 3, some 4, some 1, none])] (flags spec_DrawTransfer.sig).length (rwI (flags spec_DrawTransfer.sig) 0) spec_DrawTransfer.out) ⟨envOf (([.v (.sl 0)]).zipIdx.map fun q => (q.2, q.1)), hpOf [.rows 0 false a0], (flags spec_DrawTransfer.sig).length⟩ = spec_DrawTransfer.f k a0 := by kernel_rfl
theorem spec_DrawTransfer.ok (k : Nat) : CSound Try.prog 12 (spec_DrawTransfer.C k) :=
  csound κ_ok mixed tok (spec_DrawTransfer.hΓ k) (LH := spec_DrawTransfer.LH k) (fn := Try.f12) (c := bodyOf Try.f12) Try.func12 rfl Try.call12 spec_DrawTransfer.sig [(3, [none, none, none, some 2, some 3, some 4, some 1, none])] (spec_DrawTransfer.body k) (by kernel_rfl) (spec_DrawTransfer.lok k) (by decide) fun vs bs lf y hl hb hy => by
    unfold spec_DrawTransfer.body at hb
    split at hb
    · obtain ⟨_, rfl, hb_1⟩ := asO_bind hb
      obtain rfl := Option.some.inj hb_1
      exact ⟨spec_DrawTransfer.out, spec_DrawTransfer.out_ok, (spec_DrawTransfer.den k _).trans hy⟩
    · cases hb
/-! ### slices_Clone_Grant -/
def slices_Clone_Grant.f (k : Nat) (l : List T_impl_Grant) : Option (List T_impl_Grant) := cloneF 2 κ l
def slices_Clone_Grant.C (k : Nat) : Nat → List AV → AP κ AV := contract [.one (.ro 2)] (cloneB 2 κ)
theorem slices_Clone_Grant.ok (k : Nat) : CSound Try.prog 110 (slices_Clone_Grant.C k) :=
  clone_sound κ_ok mixed tok (fn := Try.f110) 2 Try.func110 rfl Try.call110 rfl rfl rfl rfl rfl rfl Try.underlying24 rfl (by kernel_rfl) (by kernel_rfl) (by kernel_rfl) rfl rfl rfl (fun l => by kernel_rfl) (fun q l => by cases q <;> kernel_rfl)
/-! ### slices_Clone_Flow -/
def slices_Clone_Flow.f (k : Nat) (l : List T_impl_Flow) : Option (List T_impl_Flow) := cloneF 3 κ l
def slices_Clone_Flow.C (k : Nat) : Nat → List AV → AP κ AV := contract [.one (.ro 3)] (cloneB 3 κ)
theorem slices_Clone_Flow.ok (k : Nat) : CSound Try.prog 111 (slices_Clone_Flow.C k) :=
  clone_sound κ_ok mixed tok (fn := Try.f111) 3 Try.func111 rfl Try.call111 rfl rfl rfl rfl rfl rfl Try.underlying25 rfl (by kernel_rfl) (by kernel_rfl) (by kernel_rfl) rfl rfl rfl (fun l => by kernel_rfl) (fun q l => by cases q <;> kernel_rfl)
/-! ### slices_Clone_Rule -/
def slices_Clone_Rule.f (k : Nat) (l : List T_impl_Rule) : Option (List T_impl_Rule) := cloneF 4 κ l
def slices_Clone_Rule.C (k : Nat) : Nat → List AV → AP κ AV := contract [.one (.ro 4)] (cloneB 4 κ)
theorem slices_Clone_Rule.ok (k : Nat) : CSound Try.prog 112 (slices_Clone_Rule.C k) :=
  clone_sound κ_ok mixed tok (fn := Try.f112) 4 Try.func112 rfl Try.call112 rfl rfl rfl rfl rfl rfl Try.underlying26 rfl (by kernel_rfl) (by kernel_rfl) (by kernel_rfl) rfl rfl rfl (fun l => by kernel_rfl) (fun q l => by cases q <;> kernel_rfl)
/-! ### slices_Clone_Op -/
def slices_Clone_Op.f (k : Nat) (l : List T_impl_Op) : Option (List T_impl_Op) := cloneF 1 κ l
def slices_Clone_Op.C (k : Nat) : Nat → List AV → AP κ AV := contract [.one (.ro 1)] (cloneB 1 κ)
theorem slices_Clone_Op.ok (k : Nat) : CSound Try.prog 113 (slices_Clone_Op.C k) :=
  clone_sound κ_ok mixed tok (fn := Try.f113) 1 Try.func113 rfl Try.call113 rfl rfl rfl rfl rfl rfl Try.underlying27 rfl (by kernel_rfl) (by kernel_rfl) (by kernel_rfl) rfl rfl rfl (fun l => by kernel_rfl) (fun q l => by cases q <;> kernel_rfl)
/-! ### impl_clonePackage -/
def impl_clonePackage.f (k : Nat) (a0_0 : Int) (a0_1 : Int) (a0_2 : Int) (a0_3 : List T_impl_Grant) (a0_4 : List T_impl_Flow) (a0_5 : List T_impl_Rule) (a0_6 : List T_impl_Op) (a0_7 : Int) : Option (Int × Int × Int × Int × List T_impl_Grant × List T_impl_Flow × List T_impl_Rule × List T_impl_Op) :=
  (slices_Clone_Grant.f k a0_3).bind fun t1 => (slices_Clone_Flow.f k a0_4).bind fun t2 => (slices_Clone_Rule.f k a0_5).bind fun t3 => (slices_Clone_Op.f k a0_6).bind fun t4 => some (a0_0, a0_1, a0_2, a0_7, t1, t2, t3, t4)
def impl_clonePackage.Γ (k : Nat) : Ct κ := assoc [(110, slices_Clone_Grant.C k), (111, slices_Clone_Flow.C k), (112, slices_Clone_Rule.C k), (113, slices_Clone_Op.C k)]
def impl_clonePackage.LH (k : Nat) : Nat → Option (LHi κ) := assoc []
theorem impl_clonePackage.hΓ (k : Nat) : ∀ f g, impl_clonePackage.Γ k f = some g → CSound Try.prog f g := G_cons (slices_Clone_Grant.ok k) (G_cons (slices_Clone_Flow.ok k) (G_cons (slices_Clone_Rule.ok k) (G_cons (slices_Clone_Op.ok k) G_nil)))
theorem impl_clonePackage.lok (k : Nat) : LOK ti (impl_clonePackage.Γ k) (impl_clonePackage.LH k) 4 (loopsOf (bodyOf Try.f61)) :=
  (show loopsOf (bodyOf Try.f61) = [] by kernel_rfl) ▸ LOK_nil
def impl_clonePackage.sig : List PSh := [.agg [.sc, .sc, .sc, .ro 2, .ro 3, .ro 4, .ro 1, .sc]]
def impl_clonePackage.g (y : Int × Int × Int × Int × List T_impl_Grant × List T_impl_Flow × List T_impl_Rule × List T_impl_Op) : Ret κ := ⟨.agg [.int .i64 y.1, .int .i64 y.2.1, .int .i64 y.2.2.1, .sl 4, .sl 5, .sl 6, .sl 7, .int .i64 y.2.2.2.1], [], [.rows 2 true y.2.2.2.2.1, .rows 3 true y.2.2.2.2.2.1, .rows 4 true y.2.2.2.2.2.2.1, .rows 1 true y.2.2.2.2.2.2.2]⟩
def impl_clonePackage.out (r : Ret κ) : Option (Int × Int × Int × Int × List T_impl_Grant × List T_impl_Flow × List T_impl_Rule × List T_impl_Op) :=
  match r with
  | ⟨.agg [.int .i64 z0, .int .i64 z1, .int .i64 z2, .sl 4, .sl 5, .sl 6, .sl 7, .int .i64 z3], [], [q4, q5, q6, q7]⟩ => (asO 2 true q4).bind fun z4 => (asO 3 true q5).bind fun z5 => (asO 4 true q6).bind fun z6 => (asO 1 true q7).bind fun z7 => some (z0, z1, z2, z3, z4, z5, z6, z7)
  | _ => none
theorem impl_clonePackage.out_ok (r : Ret κ) (y : Int × Int × Int × Int × List T_impl_Grant × List T_impl_Flow × List T_impl_Rule × List T_impl_Op) (h : impl_clonePackage.out r = some y) : r = impl_clonePackage.g y := by
  unfold impl_clonePackage.out at h
  split at h
  · obtain ⟨_, rfl, h_1⟩ := asO_bind h
    obtain ⟨_, rfl, h_2⟩ := asO_bind h_1
    obtain ⟨_, rfl, h_3⟩ := asO_bind h_2
    obtain ⟨_, rfl, h_4⟩ := asO_bind h_3
    obtain rfl := Option.some.inj h_4
    rfl
  · cases h
def impl_clonePackage.body (k : Nat) (vs : List AV) (bs : List (Blk κ)) : Option (Lf κ) :=
  match vs, bs with
  | [.agg [.int .i64 a0_0, .int .i64 a0_1, .int .i64 a0_2, .sl 0, .sl 1, .sl 2, .sl 3, .int .i64 a0_7]], [qb0, qb1, qb2, qb3] => (asO 2 false qb0).bind fun a0_3 => (asO 3 false qb1).bind fun a0_4 => (asO 4 false qb2).bind fun a0_5 => (asO 1 false qb3).bind fun a0_6 => some ⟨Int × Int × Int × Int × List T_impl_Grant × List T_impl_Flow × List T_impl_Rule × List T_impl_Op, impl_clonePackage.f k a0_0 a0_1 a0_2 a0_3 a0_4 a0_5 a0_6 a0_7, impl_clonePackage.g⟩
  | _, _ => none
def impl_clonePackage.C (k : Nat) : Nat → List AV → AP κ AV := contract impl_clonePackage.sig (impl_clonePackage.body k)
theorem impl_clonePackage.den (k : Nat) (a0_0 : Int) (a0_1 : Int) (a0_2 : Int) (a0_3 : List T_impl_Grant) (a0_4 : List T_impl_Flow) (a0_5 : List T_impl_Rule) (a0_6 : List T_impl_Op) (a0_7 : Int) : Code.den ti (impl_clonePackage.Γ k) (impl_clonePackage.LH k) (bodyOf Try.f61) (finK ti Try.f61.results.toList [(2, [none, none, none, some 2, some 3, some 4, some 1, none])] (flags impl_clonePackage.sig).length (rwI (flags impl_clonePackage.sig) 0) impl_clonePackage.out) ⟨envOf (([.agg [.int .i64 a0_0, .int .i64 a0_1, .int .i64 a0_2, .sl 0, .sl 1, .sl 2, .sl 3, .int .i64 a0_7]]).zipIdx.map fun q => (q.2, q.1)), hpOf [.rows 2 false a0_3, .rows 3 false a0_4, .rows 4 false a0_5, .rows 1 false a0_6], (flags impl_clonePackage.sig).length⟩ = impl_clonePackage.f k a0_0 a0_1 a0_2 a0_3 a0_4 a0_5 a0_6 a0_7 := by kernel_rfl
theorem impl_clonePackage.ok (k : Nat) : CSound Try.prog 61 (impl_clonePackage.C k) :=
  csound κ_ok mixed tok (impl_clonePackage.hΓ k) (LH := impl_clonePackage.LH k) (fn := Try.f61) (c := bodyOf Try.f61) Try.func61 rfl Try.call61 impl_clonePackage.sig [(2, [none, none, none, some 2, some 3, some 4, some 1, none])] (impl_clonePackage.body k) (by kernel_rfl) (impl_clonePackage.lok k) (by decide) fun vs bs lf y hl hb hy => by
    unfold impl_clonePackage.body at hb
    split at hb
    · obtain ⟨_, rfl, hb_1⟩ := asO_bind hb
      obtain ⟨_, rfl, hb_2⟩ := asO_bind hb_1
      obtain ⟨_, rfl, hb_3⟩ := asO_bind hb_2
      obtain ⟨_, rfl, hb_4⟩ := asO_bind hb_3
      obtain rfl := Option.some.inj hb_4
      exact ⟨impl_clonePackage.out, impl_clonePackage.out_ok, (impl_clonePackage.den k _ _ _ _ _ _ _ _).trans hy⟩
    · cases hb
/-! ### impl_InRange -/
def impl_InRange.f (k : Nat) (a0 : Int) (a1 : Int) (a2 : Int) : Option Bool :=
  (bif decide (a1 ≤ a0) then some (decide (a0 ≤ a2)) else some false)
def impl_InRange.Γ (k : Nat) : Ct κ := assoc []
def impl_InRange.LH (k : Nat) : Nat → Option (LHi κ) := assoc []
theorem impl_InRange.hΓ (k : Nat) : ∀ f g, impl_InRange.Γ k f = some g → CSound Try.prog f g := G_nil
theorem impl_InRange.lok (k : Nat) : LOK ti (impl_InRange.Γ k) (impl_InRange.LH k) 0 (loopsOf (bodyOf Try.f62)) :=
  (show loopsOf (bodyOf Try.f62) = [] by kernel_rfl) ▸ LOK_nil
def impl_InRange.sig : List PSh := [.one .sc, .one .sc, .one .sc]
def impl_InRange.g (y : Bool) : Ret κ := ⟨.v (.bool y), [], []⟩
def impl_InRange.out (r : Ret κ) : Option Bool :=
  match r with
  | ⟨.v (.bool z0), [], []⟩ => some (z0)
  | _ => none
theorem impl_InRange.out_ok (r : Ret κ) (y : Bool) (h : impl_InRange.out r = some y) : r = impl_InRange.g y := by
  unfold impl_InRange.out at h
  split at h
  · obtain rfl := Option.some.inj h
    rfl
  · cases h
def impl_InRange.body (k : Nat) (vs : List AV) (bs : List (Blk κ)) : Option (Lf κ) :=
  match vs, bs with
  | [.v (.int .i64 a0), .v (.int .i64 a1), .v (.int .i64 a2)], [] => some ⟨Bool, impl_InRange.f k a0 a1 a2, impl_InRange.g⟩
  | _, _ => none
def impl_InRange.C (k : Nat) : Nat → List AV → AP κ AV := contract impl_InRange.sig (impl_InRange.body k)
theorem impl_InRange.den (k : Nat) (a0 : Int) (a1 : Int) (a2 : Int) : Code.den ti (impl_InRange.Γ k) (impl_InRange.LH k) (bodyOf Try.f62) (finK ti Try.f62.results.toList [] (flags impl_InRange.sig).length (rwI (flags impl_InRange.sig) 0) impl_InRange.out) ⟨envOf (([.v (.int .i64 a0), .v (.int .i64 a1), .v (.int .i64 a2)]).zipIdx.map fun q => (q.2, q.1)), hpOf [], (flags impl_InRange.sig).length⟩ = impl_InRange.f k a0 a1 a2 := by kernel_rfl
theorem impl_InRange.ok (k : Nat) : CSound Try.prog 62 (impl_InRange.C k) :=
  csound κ_ok mixed tok (impl_InRange.hΓ k) (LH := impl_InRange.LH k) (fn := Try.f62) (c := bodyOf Try.f62) Try.func62 rfl Try.call62 impl_InRange.sig [] (impl_InRange.body k) (by kernel_rfl) (impl_InRange.lok k) (by decide) fun vs bs lf y hl hb hy => by
    unfold impl_InRange.body at hb
    split at hb
    · obtain rfl := Option.some.inj hb
      exact ⟨impl_InRange.out, impl_InRange.out_ok, (impl_InRange.den k _ _ _).trans hy⟩
    · cases hb
/-! ### impl_IsPattern -/
def impl_IsPattern.f (k : Nat) (a0_0 : Int) (a0_1 : Int) : Option Bool :=
  (impl_InRange.f k a0_0 (0 : Int) (9 : Int)).bind fun t1 => (bif t1 then (impl_InRange.f k a0_1 (-1 : Int) (9 : Int)).bind fun t2 => some t2 else some false)
def impl_IsPattern.Γ (k : Nat) : Ct κ := assoc [(62, impl_InRange.C k)]
def impl_IsPattern.LH (k : Nat) : Nat → Option (LHi κ) := assoc []
theorem impl_IsPattern.hΓ (k : Nat) : ∀ f g, impl_IsPattern.Γ k f = some g → CSound Try.prog f g := G_cons (impl_InRange.ok k) G_nil
theorem impl_IsPattern.lok (k : Nat) : LOK ti (impl_IsPattern.Γ k) (impl_IsPattern.LH k) 0 (loopsOf (bodyOf Try.f128)) :=
  (show loopsOf (bodyOf Try.f128) = [] by kernel_rfl) ▸ LOK_nil
def impl_IsPattern.sig : List PSh := [.agg [.sc, .sc]]
def impl_IsPattern.g (y : Bool) : Ret κ := ⟨.v (.bool y), [], []⟩
def impl_IsPattern.out (r : Ret κ) : Option Bool :=
  match r with
  | ⟨.v (.bool z0), [], []⟩ => some (z0)
  | _ => none
theorem impl_IsPattern.out_ok (r : Ret κ) (y : Bool) (h : impl_IsPattern.out r = some y) : r = impl_IsPattern.g y := by
  unfold impl_IsPattern.out at h
  split at h
  · obtain rfl := Option.some.inj h
    rfl
  · cases h
def impl_IsPattern.body (k : Nat) (vs : List AV) (bs : List (Blk κ)) : Option (Lf κ) :=
  match vs, bs with
  | [.agg [.int .i64 a0_0, .int .i64 a0_1]], [] => some ⟨Bool, impl_IsPattern.f k a0_0 a0_1, impl_IsPattern.g⟩
  | _, _ => none
def impl_IsPattern.C (k : Nat) : Nat → List AV → AP κ AV := contract impl_IsPattern.sig (impl_IsPattern.body k)
theorem impl_IsPattern.den (k : Nat) (a0_0 : Int) (a0_1 : Int) : Code.den ti (impl_IsPattern.Γ k) (impl_IsPattern.LH k) (bodyOf Try.f128) (finK ti Try.f128.results.toList [] (flags impl_IsPattern.sig).length (rwI (flags impl_IsPattern.sig) 0) impl_IsPattern.out) ⟨envOf (([.agg [.int .i64 a0_0, .int .i64 a0_1]]).zipIdx.map fun q => (q.2, q.1)), hpOf [], (flags impl_IsPattern.sig).length⟩ = impl_IsPattern.f k a0_0 a0_1 := by kernel_rfl
theorem impl_IsPattern.ok (k : Nat) : CSound Try.prog 128 (impl_IsPattern.C k) :=
  csound κ_ok mixed tok (impl_IsPattern.hΓ k) (LH := impl_IsPattern.LH k) (fn := Try.f128) (c := bodyOf Try.f128) Try.func128 rfl Try.call128 impl_IsPattern.sig [] (impl_IsPattern.body k) (by kernel_rfl) (impl_IsPattern.lok k) (by decide) fun vs bs lf y hl hb hy => by
    unfold impl_IsPattern.body at hb
    split at hb
    · obtain rfl := Option.some.inj hb
      exact ⟨impl_IsPattern.out, impl_IsPattern.out_ok, (impl_IsPattern.den k _ _).trans hy⟩
    · cases hb
/-! ### impl_IsGrant -/
def impl_IsGrant.f (k : Nat) (a0_0 : Int) (a0_1 : Int) (a0_2 : Int) (a0_3 : Int) (a0_4 : Int) (a0_5 : Int) (a0_6 : Bool) : Option Bool :=
  (impl_InRange.f k a0_0 (1 : Int) (5 : Int)).bind fun t1 => (bif t1 then (impl_IsPattern.f k a0_1 a0_2).bind fun t2 => (bif t2 then (impl_InRange.f k a0_3 (1 : Int) (4 : Int)).bind fun t3 => (bif t3 then (bif decide ((0 : Int) ≤ a0_4) then (bif decide (a0_4 ≤ a0_5) then some (decide (a0_5 ≤ (10000 : Int))) else some false) else some false) else some false) else some false) else some false)
def impl_IsGrant.Γ (k : Nat) : Ct κ := assoc [(62, impl_InRange.C k), (128, impl_IsPattern.C k)]
def impl_IsGrant.LH (k : Nat) : Nat → Option (LHi κ) := assoc []
theorem impl_IsGrant.hΓ (k : Nat) : ∀ f g, impl_IsGrant.Γ k f = some g → CSound Try.prog f g := G_cons (impl_InRange.ok k) (G_cons (impl_IsPattern.ok k) G_nil)
theorem impl_IsGrant.lok (k : Nat) : LOK ti (impl_IsGrant.Γ k) (impl_IsGrant.LH k) 0 (loopsOf (bodyOf Try.f87)) :=
  (show loopsOf (bodyOf Try.f87) = [] by kernel_rfl) ▸ LOK_nil
def impl_IsGrant.sig : List PSh := [.agg [.sc, .sc, .sc, .sc, .sc, .sc, .sc]]
def impl_IsGrant.g (y : Bool) : Ret κ := ⟨.v (.bool y), [], []⟩
def impl_IsGrant.out (r : Ret κ) : Option Bool :=
  match r with
  | ⟨.v (.bool z0), [], []⟩ => some (z0)
  | _ => none
theorem impl_IsGrant.out_ok (r : Ret κ) (y : Bool) (h : impl_IsGrant.out r = some y) : r = impl_IsGrant.g y := by
  unfold impl_IsGrant.out at h
  split at h
  · obtain rfl := Option.some.inj h
    rfl
  · cases h
def impl_IsGrant.body (k : Nat) (vs : List AV) (bs : List (Blk κ)) : Option (Lf κ) :=
  match vs, bs with
  | [.agg [.int .i64 a0_0, .int .i64 a0_1, .int .i64 a0_2, .int .i64 a0_3, .int .i64 a0_4, .int .i64 a0_5, .bool a0_6]], [] => some ⟨Bool, impl_IsGrant.f k a0_0 a0_1 a0_2 a0_3 a0_4 a0_5 a0_6, impl_IsGrant.g⟩
  | _, _ => none
def impl_IsGrant.C (k : Nat) : Nat → List AV → AP κ AV := contract impl_IsGrant.sig (impl_IsGrant.body k)
theorem impl_IsGrant.den (k : Nat) (a0_0 : Int) (a0_1 : Int) (a0_2 : Int) (a0_3 : Int) (a0_4 : Int) (a0_5 : Int) (a0_6 : Bool) : Code.den ti (impl_IsGrant.Γ k) (impl_IsGrant.LH k) (bodyOf Try.f87) (finK ti Try.f87.results.toList [] (flags impl_IsGrant.sig).length (rwI (flags impl_IsGrant.sig) 0) impl_IsGrant.out) ⟨envOf (([.agg [.int .i64 a0_0, .int .i64 a0_1, .int .i64 a0_2, .int .i64 a0_3, .int .i64 a0_4, .int .i64 a0_5, .bool a0_6]]).zipIdx.map fun q => (q.2, q.1)), hpOf [], (flags impl_IsGrant.sig).length⟩ = impl_IsGrant.f k a0_0 a0_1 a0_2 a0_3 a0_4 a0_5 a0_6 := by kernel_rfl
theorem impl_IsGrant.ok (k : Nat) : CSound Try.prog 87 (impl_IsGrant.C k) :=
  csound κ_ok mixed tok (impl_IsGrant.hΓ k) (LH := impl_IsGrant.LH k) (fn := Try.f87) (c := bodyOf Try.f87) Try.func87 rfl Try.call87 impl_IsGrant.sig [] (impl_IsGrant.body k) (by kernel_rfl) (impl_IsGrant.lok k) (by decide) fun vs bs lf y hl hb hy => by
    unfold impl_IsGrant.body at hb
    split at hb
    · obtain rfl := Option.some.inj hb
      exact ⟨impl_IsGrant.out, impl_IsGrant.out_ok, (impl_IsGrant.den k _ _ _ _ _ _ _).trans hy⟩
    · cases hb
/-! ### impl_IsFlow -/
def impl_IsFlow.f (k : Nat) (a0_0 : Int) (a0_1 : Int) (a0_2 : Int) : Option Bool :=
  (impl_InRange.f k a0_0 (1 : Int) (5 : Int)).bind fun t1 => (bif t1 then (impl_InRange.f k a0_1 (1 : Int) (9 : Int)).bind fun t2 => (bif t2 then (impl_InRange.f k a0_2 (1 : Int) (9 : Int)).bind fun t3 => some t3 else some false) else some false)
def impl_IsFlow.Γ (k : Nat) : Ct κ := assoc [(62, impl_InRange.C k)]
def impl_IsFlow.LH (k : Nat) : Nat → Option (LHi κ) := assoc []
theorem impl_IsFlow.hΓ (k : Nat) : ∀ f g, impl_IsFlow.Γ k f = some g → CSound Try.prog f g := G_cons (impl_InRange.ok k) G_nil
theorem impl_IsFlow.lok (k : Nat) : LOK ti (impl_IsFlow.Γ k) (impl_IsFlow.LH k) 0 (loopsOf (bodyOf Try.f88)) :=
  (show loopsOf (bodyOf Try.f88) = [] by kernel_rfl) ▸ LOK_nil
def impl_IsFlow.sig : List PSh := [.agg [.sc, .sc, .sc]]
def impl_IsFlow.g (y : Bool) : Ret κ := ⟨.v (.bool y), [], []⟩
def impl_IsFlow.out (r : Ret κ) : Option Bool :=
  match r with
  | ⟨.v (.bool z0), [], []⟩ => some (z0)
  | _ => none
theorem impl_IsFlow.out_ok (r : Ret κ) (y : Bool) (h : impl_IsFlow.out r = some y) : r = impl_IsFlow.g y := by
  unfold impl_IsFlow.out at h
  split at h
  · obtain rfl := Option.some.inj h
    rfl
  · cases h
def impl_IsFlow.body (k : Nat) (vs : List AV) (bs : List (Blk κ)) : Option (Lf κ) :=
  match vs, bs with
  | [.agg [.int .i64 a0_0, .int .i64 a0_1, .int .i64 a0_2]], [] => some ⟨Bool, impl_IsFlow.f k a0_0 a0_1 a0_2, impl_IsFlow.g⟩
  | _, _ => none
def impl_IsFlow.C (k : Nat) : Nat → List AV → AP κ AV := contract impl_IsFlow.sig (impl_IsFlow.body k)
theorem impl_IsFlow.den (k : Nat) (a0_0 : Int) (a0_1 : Int) (a0_2 : Int) : Code.den ti (impl_IsFlow.Γ k) (impl_IsFlow.LH k) (bodyOf Try.f88) (finK ti Try.f88.results.toList [] (flags impl_IsFlow.sig).length (rwI (flags impl_IsFlow.sig) 0) impl_IsFlow.out) ⟨envOf (([.agg [.int .i64 a0_0, .int .i64 a0_1, .int .i64 a0_2]]).zipIdx.map fun q => (q.2, q.1)), hpOf [], (flags impl_IsFlow.sig).length⟩ = impl_IsFlow.f k a0_0 a0_1 a0_2 := by kernel_rfl
theorem impl_IsFlow.ok (k : Nat) : CSound Try.prog 88 (impl_IsFlow.C k) :=
  csound κ_ok mixed tok (impl_IsFlow.hΓ k) (LH := impl_IsFlow.LH k) (fn := Try.f88) (c := bodyOf Try.f88) Try.func88 rfl Try.call88 impl_IsFlow.sig [] (impl_IsFlow.body k) (by kernel_rfl) (impl_IsFlow.lok k) (by decide) fun vs bs lf y hl hb hy => by
    unfold impl_IsFlow.body at hb
    split at hb
    · obtain rfl := Option.some.inj hb
      exact ⟨impl_IsFlow.out, impl_IsFlow.out_ok, (impl_IsFlow.den k _ _ _).trans hy⟩
    · cases hb
/-! ### impl_IsSite -/
def impl_IsSite.f (k : Nat) (a0_0 : Int) (a0_1 : Int) : Option Bool :=
  (impl_InRange.f k a0_0 (1 : Int) (9 : Int)).bind fun t1 => (bif t1 then (impl_InRange.f k a0_1 (0 : Int) (9 : Int)).bind fun t2 => some t2 else some false)
def impl_IsSite.Γ (k : Nat) : Ct κ := assoc [(62, impl_InRange.C k)]
def impl_IsSite.LH (k : Nat) : Nat → Option (LHi κ) := assoc []
theorem impl_IsSite.hΓ (k : Nat) : ∀ f g, impl_IsSite.Γ k f = some g → CSound Try.prog f g := G_cons (impl_InRange.ok k) G_nil
theorem impl_IsSite.lok (k : Nat) : LOK ti (impl_IsSite.Γ k) (impl_IsSite.LH k) 0 (loopsOf (bodyOf Try.f129)) :=
  (show loopsOf (bodyOf Try.f129) = [] by kernel_rfl) ▸ LOK_nil
def impl_IsSite.sig : List PSh := [.agg [.sc, .sc]]
def impl_IsSite.g (y : Bool) : Ret κ := ⟨.v (.bool y), [], []⟩
def impl_IsSite.out (r : Ret κ) : Option Bool :=
  match r with
  | ⟨.v (.bool z0), [], []⟩ => some (z0)
  | _ => none
theorem impl_IsSite.out_ok (r : Ret κ) (y : Bool) (h : impl_IsSite.out r = some y) : r = impl_IsSite.g y := by
  unfold impl_IsSite.out at h
  split at h
  · obtain rfl := Option.some.inj h
    rfl
  · cases h
def impl_IsSite.body (k : Nat) (vs : List AV) (bs : List (Blk κ)) : Option (Lf κ) :=
  match vs, bs with
  | [.agg [.int .i64 a0_0, .int .i64 a0_1]], [] => some ⟨Bool, impl_IsSite.f k a0_0 a0_1, impl_IsSite.g⟩
  | _, _ => none
def impl_IsSite.C (k : Nat) : Nat → List AV → AP κ AV := contract impl_IsSite.sig (impl_IsSite.body k)
theorem impl_IsSite.den (k : Nat) (a0_0 : Int) (a0_1 : Int) : Code.den ti (impl_IsSite.Γ k) (impl_IsSite.LH k) (bodyOf Try.f129) (finK ti Try.f129.results.toList [] (flags impl_IsSite.sig).length (rwI (flags impl_IsSite.sig) 0) impl_IsSite.out) ⟨envOf (([.agg [.int .i64 a0_0, .int .i64 a0_1]]).zipIdx.map fun q => (q.2, q.1)), hpOf [], (flags impl_IsSite.sig).length⟩ = impl_IsSite.f k a0_0 a0_1 := by kernel_rfl
theorem impl_IsSite.ok (k : Nat) : CSound Try.prog 129 (impl_IsSite.C k) :=
  csound κ_ok mixed tok (impl_IsSite.hΓ k) (LH := impl_IsSite.LH k) (fn := Try.f129) (c := bodyOf Try.f129) Try.func129 rfl Try.call129 impl_IsSite.sig [] (impl_IsSite.body k) (by kernel_rfl) (impl_IsSite.lok k) (by decide) fun vs bs lf y hl hb hy => by
    unfold impl_IsSite.body at hb
    split at hb
    · obtain rfl := Option.some.inj hb
      exact ⟨impl_IsSite.out, impl_IsSite.out_ok, (impl_IsSite.den k _ _).trans hy⟩
    · cases hb
/-! ### impl_IsRule -/
def impl_IsRule.f (k : Nat) (a0_0 : Int) (a0_1 : Int) (a0_2 : Int) (a0_3 : Int) (a0_4 : Int) (a0_5 : Int) (a0_6 : Int) (a0_7 : Int) : Option Bool :=
  (impl_InRange.f k a0_0 (1 : Int) (5 : Int)).bind fun t1 => (bif !t1 then some false else (impl_InRange.f k a0_1 (1 : Int) (9 : Int)).bind fun t2 => (bif !t2 then some false else (impl_IsPattern.f k a0_2 a0_3).bind fun t3 => (bif !t3 then some false else (impl_InRange.f k a0_4 (0 : Int) (4 : Int)).bind fun t4 => (bif !t4 then some false else (bif (a0_5 == (1 : Int)) then some ((a0_6 == (0 : Int)) && (a0_7 == (0 : Int))) else (bif (a0_5 == (2 : Int)) then some ((a0_6 == (0 : Int)) && (a0_7 == (0 : Int))) else (bif (a0_5 == (3 : Int)) then (impl_IsSite.f k a0_6 a0_7).bind fun t5 => some t5 else some false)))))))
def impl_IsRule.Γ (k : Nat) : Ct κ := assoc [(62, impl_InRange.C k), (128, impl_IsPattern.C k), (129, impl_IsSite.C k)]
def impl_IsRule.LH (k : Nat) : Nat → Option (LHi κ) := assoc []
theorem impl_IsRule.hΓ (k : Nat) : ∀ f g, impl_IsRule.Γ k f = some g → CSound Try.prog f g := G_cons (impl_InRange.ok k) (G_cons (impl_IsPattern.ok k) (G_cons (impl_IsSite.ok k) G_nil))
theorem impl_IsRule.lok (k : Nat) : LOK ti (impl_IsRule.Γ k) (impl_IsRule.LH k) 0 (loopsOf (bodyOf Try.f89)) :=
  (show loopsOf (bodyOf Try.f89) = [] by kernel_rfl) ▸ LOK_nil
def impl_IsRule.sig : List PSh := [.agg [.sc, .sc, .sc, .sc, .sc, .sc, .sc, .sc]]
def impl_IsRule.g (y : Bool) : Ret κ := ⟨.v (.bool y), [], []⟩
def impl_IsRule.out (r : Ret κ) : Option Bool :=
  match r with
  | ⟨.v (.bool z0), [], []⟩ => some (z0)
  | _ => none
theorem impl_IsRule.out_ok (r : Ret κ) (y : Bool) (h : impl_IsRule.out r = some y) : r = impl_IsRule.g y := by
  unfold impl_IsRule.out at h
  split at h
  · obtain rfl := Option.some.inj h
    rfl
  · cases h
def impl_IsRule.body (k : Nat) (vs : List AV) (bs : List (Blk κ)) : Option (Lf κ) :=
  match vs, bs with
  | [.agg [.int .i64 a0_0, .int .i64 a0_1, .int .i64 a0_2, .int .i64 a0_3, .int .i64 a0_4, .int .i64 a0_5, .int .i64 a0_6, .int .i64 a0_7]], [] => some ⟨Bool, impl_IsRule.f k a0_0 a0_1 a0_2 a0_3 a0_4 a0_5 a0_6 a0_7, impl_IsRule.g⟩
  | _, _ => none
def impl_IsRule.C (k : Nat) : Nat → List AV → AP κ AV := contract impl_IsRule.sig (impl_IsRule.body k)
theorem impl_IsRule.den (k : Nat) (a0_0 : Int) (a0_1 : Int) (a0_2 : Int) (a0_3 : Int) (a0_4 : Int) (a0_5 : Int) (a0_6 : Int) (a0_7 : Int) : Code.den ti (impl_IsRule.Γ k) (impl_IsRule.LH k) (bodyOf Try.f89) (finK ti Try.f89.results.toList [] (flags impl_IsRule.sig).length (rwI (flags impl_IsRule.sig) 0) impl_IsRule.out) ⟨envOf (([.agg [.int .i64 a0_0, .int .i64 a0_1, .int .i64 a0_2, .int .i64 a0_3, .int .i64 a0_4, .int .i64 a0_5, .int .i64 a0_6, .int .i64 a0_7]]).zipIdx.map fun q => (q.2, q.1)), hpOf [], (flags impl_IsRule.sig).length⟩ = impl_IsRule.f k a0_0 a0_1 a0_2 a0_3 a0_4 a0_5 a0_6 a0_7 := by kernel_rfl
theorem impl_IsRule.ok (k : Nat) : CSound Try.prog 89 (impl_IsRule.C k) :=
  csound κ_ok mixed tok (impl_IsRule.hΓ k) (LH := impl_IsRule.LH k) (fn := Try.f89) (c := bodyOf Try.f89) Try.func89 rfl Try.call89 impl_IsRule.sig [] (impl_IsRule.body k) (by kernel_rfl) (impl_IsRule.lok k) (by decide) fun vs bs lf y hl hb hy => by
    unfold impl_IsRule.body at hb
    split at hb
    · obtain rfl := Option.some.inj hb
      exact ⟨impl_IsRule.out, impl_IsRule.out_ok, (impl_IsRule.den k _ _ _ _ _ _ _ _).trans hy⟩
    · cases hb
/-! ### impl_isRegister -/
def impl_isRegister.f (k : Nat) (a0 : Int) : Option Bool :=
  (impl_InRange.f k a0 (0 : Int) (5 : Int)).bind fun t1 => some t1
def impl_isRegister.Γ (k : Nat) : Ct κ := assoc [(62, impl_InRange.C k)]
def impl_isRegister.LH (k : Nat) : Nat → Option (LHi κ) := assoc []
theorem impl_isRegister.hΓ (k : Nat) : ∀ f g, impl_isRegister.Γ k f = some g → CSound Try.prog f g := G_cons (impl_InRange.ok k) G_nil
theorem impl_isRegister.lok (k : Nat) : LOK ti (impl_isRegister.Γ k) (impl_isRegister.LH k) 0 (loopsOf (bodyOf Try.f146)) :=
  (show loopsOf (bodyOf Try.f146) = [] by kernel_rfl) ▸ LOK_nil
def impl_isRegister.sig : List PSh := [.one .sc]
def impl_isRegister.g (y : Bool) : Ret κ := ⟨.v (.bool y), [], []⟩
def impl_isRegister.out (r : Ret κ) : Option Bool :=
  match r with
  | ⟨.v (.bool z0), [], []⟩ => some (z0)
  | _ => none
theorem impl_isRegister.out_ok (r : Ret κ) (y : Bool) (h : impl_isRegister.out r = some y) : r = impl_isRegister.g y := by
  unfold impl_isRegister.out at h
  split at h
  · obtain rfl := Option.some.inj h
    rfl
  · cases h
def impl_isRegister.body (k : Nat) (vs : List AV) (bs : List (Blk κ)) : Option (Lf κ) :=
  match vs, bs with
  | [.v (.int .i64 a0)], [] => some ⟨Bool, impl_isRegister.f k a0, impl_isRegister.g⟩
  | _, _ => none
def impl_isRegister.C (k : Nat) : Nat → List AV → AP κ AV := contract impl_isRegister.sig (impl_isRegister.body k)
theorem impl_isRegister.den (k : Nat) (a0 : Int) : Code.den ti (impl_isRegister.Γ k) (impl_isRegister.LH k) (bodyOf Try.f146) (finK ti Try.f146.results.toList [] (flags impl_isRegister.sig).length (rwI (flags impl_isRegister.sig) 0) impl_isRegister.out) ⟨envOf (([.v (.int .i64 a0)]).zipIdx.map fun q => (q.2, q.1)), hpOf [], (flags impl_isRegister.sig).length⟩ = impl_isRegister.f k a0 := by kernel_rfl
theorem impl_isRegister.ok (k : Nat) : CSound Try.prog 146 (impl_isRegister.C k) :=
  csound κ_ok mixed tok (impl_isRegister.hΓ k) (LH := impl_isRegister.LH k) (fn := Try.f146) (c := bodyOf Try.f146) Try.func146 rfl Try.call146 impl_isRegister.sig [] (impl_isRegister.body k) (by kernel_rfl) (impl_isRegister.lok k) (by decide) fun vs bs lf y hl hb hy => by
    unfold impl_isRegister.body at hb
    split at hb
    · obtain rfl := Option.some.inj hb
      exact ⟨impl_isRegister.out, impl_isRegister.out_ok, (impl_isRegister.den k _).trans hy⟩
    · cases hb
/-! ### impl_isOp -/
def impl_isOp.f (k : Nat) (a0_0 : Int) (a0_1 : Int) (a0_2 : Int) (a0_3 : Int) : Option Bool :=
  (impl_isRegister.f k a0_1).bind fun t1 => (bif !t1 then some false else (bif (a0_0 == (1 : Int)) then (impl_InRange.f k a0_2 (1 : Int) (9 : Int)).bind fun t2 => (bif t2 then some (a0_3 == (0 : Int)) else some false) else (bif (a0_0 == (5 : Int)) then (impl_InRange.f k a0_2 (1 : Int) (9 : Int)).bind fun t3 => (bif t3 then some (a0_3 == (0 : Int)) else some false) else (bif (a0_0 == (2 : Int)) then (impl_InRange.f k a0_2 (0 : Int) (999 : Int)).bind fun t4 => (bif t4 then some (a0_3 == (0 : Int)) else some false) else (bif (a0_0 == (3 : Int)) then (impl_isRegister.f k a0_2).bind fun t5 => (bif t5 then (impl_isRegister.f k a0_3).bind fun t6 => some t6 else some false) else (bif (a0_0 == (4 : Int)) then (impl_isRegister.f k a0_2).bind fun t7 => (bif t7 then (impl_isRegister.f k a0_3).bind fun t8 => some t8 else some false) else some false))))))
def impl_isOp.Γ (k : Nat) : Ct κ := assoc [(146, impl_isRegister.C k), (62, impl_InRange.C k)]
def impl_isOp.LH (k : Nat) : Nat → Option (LHi κ) := assoc []
theorem impl_isOp.hΓ (k : Nat) : ∀ f g, impl_isOp.Γ k f = some g → CSound Try.prog f g := G_cons (impl_isRegister.ok k) (G_cons (impl_InRange.ok k) G_nil)
theorem impl_isOp.lok (k : Nat) : LOK ti (impl_isOp.Γ k) (impl_isOp.LH k) 0 (loopsOf (bodyOf Try.f130)) :=
  (show loopsOf (bodyOf Try.f130) = [] by kernel_rfl) ▸ LOK_nil
def impl_isOp.sig : List PSh := [.agg [.sc, .sc, .sc, .sc]]
def impl_isOp.g (y : Bool) : Ret κ := ⟨.v (.bool y), [], []⟩
def impl_isOp.out (r : Ret κ) : Option Bool :=
  match r with
  | ⟨.v (.bool z0), [], []⟩ => some (z0)
  | _ => none
theorem impl_isOp.out_ok (r : Ret κ) (y : Bool) (h : impl_isOp.out r = some y) : r = impl_isOp.g y := by
  unfold impl_isOp.out at h
  split at h
  · obtain rfl := Option.some.inj h
    rfl
  · cases h
def impl_isOp.body (k : Nat) (vs : List AV) (bs : List (Blk κ)) : Option (Lf κ) :=
  match vs, bs with
  | [.agg [.int .i64 a0_0, .int .i64 a0_1, .int .i64 a0_2, .int .i64 a0_3]], [] => some ⟨Bool, impl_isOp.f k a0_0 a0_1 a0_2 a0_3, impl_isOp.g⟩
  | _, _ => none
def impl_isOp.C (k : Nat) : Nat → List AV → AP κ AV := contract impl_isOp.sig (impl_isOp.body k)
theorem impl_isOp.den (k : Nat) (a0_0 : Int) (a0_1 : Int) (a0_2 : Int) (a0_3 : Int) : Code.den ti (impl_isOp.Γ k) (impl_isOp.LH k) (bodyOf Try.f130) (finK ti Try.f130.results.toList [] (flags impl_isOp.sig).length (rwI (flags impl_isOp.sig) 0) impl_isOp.out) ⟨envOf (([.agg [.int .i64 a0_0, .int .i64 a0_1, .int .i64 a0_2, .int .i64 a0_3]]).zipIdx.map fun q => (q.2, q.1)), hpOf [], (flags impl_isOp.sig).length⟩ = impl_isOp.f k a0_0 a0_1 a0_2 a0_3 := by kernel_rfl
theorem impl_isOp.ok (k : Nat) : CSound Try.prog 130 (impl_isOp.C k) :=
  csound κ_ok mixed tok (impl_isOp.hΓ k) (LH := impl_isOp.LH k) (fn := Try.f130) (c := bodyOf Try.f130) Try.func130 rfl Try.call130 impl_isOp.sig [] (impl_isOp.body k) (by kernel_rfl) (impl_isOp.lok k) (by decide) fun vs bs lf y hl hb hy => by
    unfold impl_isOp.body at hb
    split at hb
    · obtain rfl := Option.some.inj hb
      exact ⟨impl_isOp.out, impl_isOp.out_ok, (impl_isOp.den k _ _ _ _).trans hy⟩
    · cases hb
/-! ### impl_AreOps -/
def impl_AreOps.L4 {R : Type} (k : Nat) (x1 : Int) (xl0 : List T_impl_Op) (X0 : Bool → Option R) (X1 : Unit → Option R) (rec : Int → Option R) (x2 : Int) : Option R :=
  (bif decide (x2 < x1) then (bif decide (0 ≤ x2) then (bif decide (x2 < (xl0.length : Int)) then (impl_isOp.f k ((rd_impl_Op xl0 x2).f0) ((rd_impl_Op xl0 x2).f1) ((rd_impl_Op xl0 x2).f2) ((rd_impl_Op xl0 x2).f3)).bind fun t1 => (bif !t1 then (X0 false) else (rec (w64 (x2 + (1 : Int))))) else none) else none) else (X1 ()))
def impl_AreOps.l4 {R : Type} (k : Nat) (x1 : Int) (xl0 : List T_impl_Op) (X0 : Bool → Option R) (X1 : Unit → Option R) : Nat → Int → Option R
  | 0 => fun _ => none
  | n + 1 => impl_AreOps.L4 k x1 xl0 X0 X1 (impl_AreOps.l4 k x1 xl0 X0 X1 n)
def impl_AreOps.f (k : Nat) (a0 : List T_impl_Op) : Option Bool :=
  (bif decide ((a0.length : Int) > (16 : Int)) then some false else (impl_AreOps.l4 k (a0.length : Int) a0 (fun (y2 : Bool) => some y2) (fun (_ : Unit) => some true) k (0 : Int)))
def impl_AreOps.h4 (k : Nat) {R : Type} (K : Ex → St κ → Option R) (vs : List AV) (bs : List (Blk κ)) : Option R :=
  match vs, bs with
  | [.v (.sl 0), .v (.int .i64 x1), .v (.int .i64 x2)], [qb0] => (asO 1 false qb0).bind fun xl0 => impl_AreOps.l4 k x1 xl0 (fun (z0 : Bool) => K .ret (stOf [(2, [])] [.v (.bool z0)] [.rows 1 false xl0])) (fun (_ : Unit) => K (.exit 0) (stOf [(2, [])] [.v .any] [.rows 1 false xl0])) k x2
  | _, _ => none
def impl_AreOps.Γ (k : Nat) : Ct κ := assoc [(130, impl_isOp.C k)]
def impl_AreOps.LH (k : Nat) : Nat → Option (LHi κ) := assoc [(4, ⟨1, [(8, [some 1]), (9, []), (10, [])], [(2, [])], @impl_AreOps.h4 k⟩)]
theorem impl_AreOps.hΓ (k : Nat) : ∀ f g, impl_AreOps.Γ k f = some g → CSound Try.prog f g := G_cons (impl_isOp.ok k) G_nil
theorem impl_AreOps.e4 {R : Type} (K : Ex → St κ → Option R) (k : Nat) (x1 : Int) (xl0 : List T_impl_Op) : ∀ (n : Nat) (x2 : Int), loopN 1 (Code.den ti (impl_AreOps.Γ k) (impl_AreOps.LH k) (loopAt Try.f90 0)) [(8, [some 1]), (9, []), (10, [])] [(2, [])] K n [.v (.sl 0), .v (.int .i64 x1), .v (.int .i64 x2)] [.rows 1 false xl0] = impl_AreOps.l4 k x1 xl0 (fun (z0 : Bool) => K .ret (stOf [(2, [])] [.v (.bool z0)] [.rows 1 false xl0])) (fun (_ : Unit) => K (.exit 0) (stOf [(2, [])] [.v .any] [.rows 1 false xl0])) n x2
  | 0, _ => rfl
  | n + 1, x2 => (show loopN 1 (Code.den ti (impl_AreOps.Γ k) (impl_AreOps.LH k) (loopAt Try.f90 0)) [(8, [some 1]), (9, []), (10, [])] [(2, [])] K (n + 1) [.v (.sl 0), .v (.int .i64 x1), .v (.int .i64 x2)] [.rows 1 false xl0] = impl_AreOps.L4 k x1 xl0 (fun (z0 : Bool) => K .ret (stOf [(2, [])] [.v (.bool z0)] [.rows 1 false xl0])) (fun (_ : Unit) => K (.exit 0) (stOf [(2, [])] [.v .any] [.rows 1 false xl0])) (fun (x2' : Int) => loopN 1 (Code.den ti (impl_AreOps.Γ k) (impl_AreOps.LH k) (loopAt Try.f90 0)) [(8, [some 1]), (9, []), (10, [])] [(2, [])] K n [.v (.sl 0), .v (.int .i64 x1), .v (.int .i64 x2')] [.rows 1 false xl0]) x2 by kernel_rfl).trans (congrArg (fun rec => impl_AreOps.L4 k x1 xl0 (fun (z0 : Bool) => K .ret (stOf [(2, [])] [.v (.bool z0)] [.rows 1 false xl0])) (fun (_ : Unit) => K (.exit 0) (stOf [(2, [])] [.v .any] [.rows 1 false xl0])) rec x2) (funext fun x2' => impl_AreOps.e4 K k x1 xl0 n x2'))
theorem impl_AreOps.q4 (k : Nat) {R : Type} (K : Ex → St κ → Option R) (vs : List AV) (bs : List (Blk κ)) (r : R) (h : impl_AreOps.h4 k K vs bs = some r) : ∃ n, loopN 1 (Code.den ti (impl_AreOps.Γ k) (impl_AreOps.LH k) (loopAt Try.f90 0)) [(8, [some 1]), (9, []), (10, [])] [(2, [])] K n vs bs = some r := by
  unfold impl_AreOps.h4 at h
  split at h
  · obtain ⟨_, rfl, h_1⟩ := asO_bind h
    exact ⟨k, (impl_AreOps.e4 K k _ _ k _).trans h_1⟩
  · cases h
theorem impl_AreOps.lok (k : Nat) : LOK ti (impl_AreOps.Γ k) (impl_AreOps.LH k) 1 (loopsOf (bodyOf Try.f90)) :=
  (show loopsOf (bodyOf Try.f90) = [loopAt Try.f90 0] by kernel_rfl) ▸ (LOK_cons (g := ⟨1, [(8, [some 1]), (9, []), (10, [])], [(2, [])], @impl_AreOps.h4 k⟩) (by kernel_rfl) rfl (fun K vs xs r h => impl_AreOps.q4 k K vs xs r h) (LOK_nil))
def impl_AreOps.sig : List PSh := [.one (.ro 1)]
def impl_AreOps.g (y : Bool) : Ret κ := ⟨.v (.bool y), [], []⟩
def impl_AreOps.out (r : Ret κ) : Option Bool :=
  match r with
  | ⟨.v (.bool z0), [], []⟩ => some (z0)
  | _ => none
theorem impl_AreOps.out_ok (r : Ret κ) (y : Bool) (h : impl_AreOps.out r = some y) : r = impl_AreOps.g y := by
  unfold impl_AreOps.out at h
  split at h
  · obtain rfl := Option.some.inj h
    rfl
  · cases h
def impl_AreOps.body (k : Nat) (vs : List AV) (bs : List (Blk κ)) : Option (Lf κ) :=
  match vs, bs with
  | [.v (.sl 0)], [qb0] => (asO 1 false qb0).bind fun a0 => some ⟨Bool, impl_AreOps.f k a0, impl_AreOps.g⟩
  | _, _ => none
def impl_AreOps.C (k : Nat) : Nat → List AV → AP κ AV := contract impl_AreOps.sig (impl_AreOps.body k)
theorem impl_AreOps.den (k : Nat) (a0 : List T_impl_Op) : Code.den ti (impl_AreOps.Γ k) (impl_AreOps.LH k) (bodyOf Try.f90) (finK ti Try.f90.results.toList [] (flags impl_AreOps.sig).length (rwI (flags impl_AreOps.sig) 0) impl_AreOps.out) ⟨envOf (([.v (.sl 0)]).zipIdx.map fun q => (q.2, q.1)), hpOf [.rows 1 false a0], (flags impl_AreOps.sig).length⟩ = impl_AreOps.f k a0 := by kernel_rfl
theorem impl_AreOps.ok (k : Nat) : CSound Try.prog 90 (impl_AreOps.C k) :=
  csound κ_ok mixed tok (impl_AreOps.hΓ k) (LH := impl_AreOps.LH k) (fn := Try.f90) (c := bodyOf Try.f90) Try.func90 rfl Try.call90 impl_AreOps.sig [] (impl_AreOps.body k) (by kernel_rfl) (impl_AreOps.lok k) (by decide) fun vs bs lf y hl hb hy => by
    unfold impl_AreOps.body at hb
    split at hb
    · obtain ⟨_, rfl, hb_1⟩ := asO_bind hb
      obtain rfl := Option.some.inj hb_1
      exact ⟨impl_AreOps.out, impl_AreOps.out_ok, (impl_AreOps.den k _).trans hy⟩
    · cases hb
/-! ### impl_IsPackage -/
def impl_IsPackage.L4 {R : Type} (k : Nat) (x2 : Int) (xl0 : List T_impl_Grant) (xl1 : List T_impl_Flow) (xl2 : List T_impl_Rule) (xl3 : List T_impl_Op) (xc4_0 : Int) (xc4_1 : Int) (xc4_2 : Int) (xc4_7 : Int) (X0 : Bool → Option R) (X1 : Unit → Option R) (rec : Int → Option R) (x3 : Int) : Option R :=
  (bif decide (x3 < x2) then (bif decide (0 ≤ x3) then (bif decide (x3 < (xl0.length : Int)) then (impl_IsGrant.f k ((rd_impl_Grant xl0 x3).f0) ((rd_impl_Grant xl0 x3).f1.f0) ((rd_impl_Grant xl0 x3).f1.f1) ((rd_impl_Grant xl0 x3).f2) ((rd_impl_Grant xl0 x3).f3) ((rd_impl_Grant xl0 x3).f4) ((rd_impl_Grant xl0 x3).f5)).bind fun t4 => (bif !t4 then (X0 false) else (bif ((rd_impl_Grant xl0 x3).f0 != xc4_0) then (X0 false) else (rec (w64 (x3 + (1 : Int)))))) else none) else none) else (X1 ()))
def impl_IsPackage.l4 {R : Type} (k : Nat) (x2 : Int) (xl0 : List T_impl_Grant) (xl1 : List T_impl_Flow) (xl2 : List T_impl_Rule) (xl3 : List T_impl_Op) (xc4_0 : Int) (xc4_1 : Int) (xc4_2 : Int) (xc4_7 : Int) (X0 : Bool → Option R) (X1 : Unit → Option R) : Nat → Int → Option R
  | 0 => fun _ => none
  | n + 1 => impl_IsPackage.L4 k x2 xl0 xl1 xl2 xl3 xc4_0 xc4_1 xc4_2 xc4_7 X0 X1 (impl_IsPackage.l4 k x2 xl0 xl1 xl2 xl3 xc4_0 xc4_1 xc4_2 xc4_7 X0 X1 n)
def impl_IsPackage.L10 {R : Type} (k : Nat) (x2 : Int) (xl0 : List T_impl_Grant) (xl1 : List T_impl_Flow) (xl2 : List T_impl_Rule) (xl3 : List T_impl_Op) (xc4_0 : Int) (xc4_1 : Int) (xc4_2 : Int) (xc4_7 : Int) (X0 : Bool → Option R) (X1 : Unit → Option R) (rec : Int → Option R) (x3 : Int) : Option R :=
  (bif decide (x3 < x2) then (bif decide (0 ≤ x3) then (bif decide (x3 < (xl1.length : Int)) then (impl_IsFlow.f k ((rd_impl_Flow xl1 x3).f0) ((rd_impl_Flow xl1 x3).f1) ((rd_impl_Flow xl1 x3).f2)).bind fun t6 => (bif !t6 then (X0 false) else (bif ((rd_impl_Flow xl1 x3).f0 != xc4_0) then (X0 false) else (rec (w64 (x3 + (1 : Int)))))) else none) else none) else (X1 ()))
def impl_IsPackage.l10 {R : Type} (k : Nat) (x2 : Int) (xl0 : List T_impl_Grant) (xl1 : List T_impl_Flow) (xl2 : List T_impl_Rule) (xl3 : List T_impl_Op) (xc4_0 : Int) (xc4_1 : Int) (xc4_2 : Int) (xc4_7 : Int) (X0 : Bool → Option R) (X1 : Unit → Option R) : Nat → Int → Option R
  | 0 => fun _ => none
  | n + 1 => impl_IsPackage.L10 k x2 xl0 xl1 xl2 xl3 xc4_0 xc4_1 xc4_2 xc4_7 X0 X1 (impl_IsPackage.l10 k x2 xl0 xl1 xl2 xl3 xc4_0 xc4_1 xc4_2 xc4_7 X0 X1 n)
def impl_IsPackage.L16 {R : Type} (k : Nat) (x2 : Int) (xl0 : List T_impl_Grant) (xl1 : List T_impl_Flow) (xl2 : List T_impl_Rule) (xl3 : List T_impl_Op) (xc4_0 : Int) (xc4_1 : Int) (xc4_2 : Int) (xc4_7 : Int) (X0 : Bool → Option R) (X1 : Unit → Option R) (rec : Int → Option R) (x3 : Int) : Option R :=
  (bif decide (x3 < x2) then (bif decide (0 ≤ x3) then (bif decide (x3 < (xl2.length : Int)) then (impl_IsRule.f k ((rd_impl_Rule xl2 x3).f0) ((rd_impl_Rule xl2 x3).f1) ((rd_impl_Rule xl2 x3).f2.f0) ((rd_impl_Rule xl2 x3).f2.f1) ((rd_impl_Rule xl2 x3).f3) ((rd_impl_Rule xl2 x3).f4) ((rd_impl_Rule xl2 x3).f5.f0) ((rd_impl_Rule xl2 x3).f5.f1)).bind fun t8 => (bif !t8 then (X0 false) else (bif ((rd_impl_Rule xl2 x3).f0 != xc4_0) then (X0 false) else (rec (w64 (x3 + (1 : Int)))))) else none) else none) else (X1 ()))
def impl_IsPackage.l16 {R : Type} (k : Nat) (x2 : Int) (xl0 : List T_impl_Grant) (xl1 : List T_impl_Flow) (xl2 : List T_impl_Rule) (xl3 : List T_impl_Op) (xc4_0 : Int) (xc4_1 : Int) (xc4_2 : Int) (xc4_7 : Int) (X0 : Bool → Option R) (X1 : Unit → Option R) : Nat → Int → Option R
  | 0 => fun _ => none
  | n + 1 => impl_IsPackage.L16 k x2 xl0 xl1 xl2 xl3 xc4_0 xc4_1 xc4_2 xc4_7 X0 X1 (impl_IsPackage.l16 k x2 xl0 xl1 xl2 xl3 xc4_0 xc4_1 xc4_2 xc4_7 X0 X1 n)
def impl_IsPackage.f (k : Nat) (a0_0 : Int) (a0_1 : Int) (a0_2 : Int) (a0_3 : List T_impl_Grant) (a0_4 : List T_impl_Flow) (a0_5 : List T_impl_Rule) (a0_6 : List T_impl_Op) (a0_7 : Int) : Option Bool :=
  (impl_InRange.f k a0_0 (1 : Int) (5 : Int)).bind fun t1 => (bif !t1 then some false else (impl_InRange.f k a0_1 (1 : Int) (9 : Int)).bind fun t2 => (bif !t2 then some false else (impl_InRange.f k a0_2 (1 : Int) (999 : Int)).bind fun t3 => (bif !t3 then some false else (bif decide ((a0_3.length : Int) > (6 : Int)) then some false else (bif decide ((a0_4.length : Int) > (6 : Int)) then some false else (bif decide ((a0_5.length : Int) > (6 : Int)) then some false else (impl_IsPackage.l4 k (a0_3.length : Int) a0_3 a0_4 a0_5 a0_6 a0_0 a0_1 a0_2 a0_7 (fun (y5 : Bool) => some y5) (fun (_ : Unit) => (impl_IsPackage.l10 k (a0_4.length : Int) a0_3 a0_4 a0_5 a0_6 a0_0 a0_1 a0_2 a0_7 (fun (y7 : Bool) => some y7) (fun (_ : Unit) => (impl_IsPackage.l16 k (a0_5.length : Int) a0_3 a0_4 a0_5 a0_6 a0_0 a0_1 a0_2 a0_7 (fun (y9 : Bool) => some y9) (fun (_ : Unit) => (impl_AreOps.f k a0_6).bind fun t10 => some t10) k (0 : Int))) k (0 : Int))) k (0 : Int))))))))
def impl_IsPackage.h4 (k : Nat) {R : Type} (K : Ex → St κ → Option R) (vs : List AV) (bs : List (Blk κ)) : Option R :=
  match vs, bs with
  | [.v (.ptr 4 0 0), .v (.sl 0), .v (.int .i64 x2), .v (.int .i64 x3)], [qb0, qb1, qb2, qb3, .cells 29 [.int .i64 xc4_0, .int .i64 xc4_1, .int .i64 xc4_2, .sl 0, .sl 1, .sl 2, .sl 3, .int .i64 xc4_7]] => (asO 2 false qb0).bind fun xl0 => (asO 3 false qb1).bind fun xl1 => (asO 4 false qb2).bind fun xl2 => (asO 1 false qb3).bind fun xl3 => impl_IsPackage.l4 k x2 xl0 xl1 xl2 xl3 xc4_0 xc4_1 xc4_2 xc4_7 (fun (z1 : Bool) => K .ret (stOf [(1, [none, none, none, some 2, some 3, some 4, some 1, none]), (2, [])] [.v (.ptr 4 0 0), .v (.bool z1)] [.rows 2 false xl0, .rows 3 false xl1, .rows 4 false xl2, .rows 1 false xl3, .cells 29 [.int .i64 xc4_0, .int .i64 xc4_1, .int .i64 xc4_2, .sl 0, .sl 1, .sl 2, .sl 3, .int .i64 xc4_7]])) (fun (_ : Unit) => K (.exit 0) (stOf [(1, [none, none, none, some 2, some 3, some 4, some 1, none]), (2, [])] [.v (.ptr 4 0 0), .v .any] [.rows 2 false xl0, .rows 3 false xl1, .rows 4 false xl2, .rows 1 false xl3, .cells 29 [.int .i64 xc4_0, .int .i64 xc4_1, .int .i64 xc4_2, .sl 0, .sl 1, .sl 2, .sl 3, .int .i64 xc4_7]])) k x3
  | _, _ => none
def impl_IsPackage.h10 (k : Nat) {R : Type} (K : Ex → St κ → Option R) (vs : List AV) (bs : List (Blk κ)) : Option R :=
  match vs, bs with
  | [.v (.ptr 4 0 0), .v (.sl 1), .v (.int .i64 x2), .v (.int .i64 x3)], [qb0, qb1, qb2, qb3, .cells 29 [.int .i64 xc4_0, .int .i64 xc4_1, .int .i64 xc4_2, .sl 0, .sl 1, .sl 2, .sl 3, .int .i64 xc4_7]] => (asO 2 false qb0).bind fun xl0 => (asO 3 false qb1).bind fun xl1 => (asO 4 false qb2).bind fun xl2 => (asO 1 false qb3).bind fun xl3 => impl_IsPackage.l10 k x2 xl0 xl1 xl2 xl3 xc4_0 xc4_1 xc4_2 xc4_7 (fun (z1 : Bool) => K .ret (stOf [(1, [none, none, none, some 2, some 3, some 4, some 1, none]), (2, [])] [.v (.ptr 4 0 0), .v (.bool z1)] [.rows 2 false xl0, .rows 3 false xl1, .rows 4 false xl2, .rows 1 false xl3, .cells 29 [.int .i64 xc4_0, .int .i64 xc4_1, .int .i64 xc4_2, .sl 0, .sl 1, .sl 2, .sl 3, .int .i64 xc4_7]])) (fun (_ : Unit) => K (.exit 2) (stOf [(1, [none, none, none, some 2, some 3, some 4, some 1, none]), (2, [])] [.v (.ptr 4 0 0), .v .any] [.rows 2 false xl0, .rows 3 false xl1, .rows 4 false xl2, .rows 1 false xl3, .cells 29 [.int .i64 xc4_0, .int .i64 xc4_1, .int .i64 xc4_2, .sl 0, .sl 1, .sl 2, .sl 3, .int .i64 xc4_7]])) k x3
  | _, _ => none
def impl_IsPackage.h16 (k : Nat) {R : Type} (K : Ex → St κ → Option R) (vs : List AV) (bs : List (Blk κ)) : Option R :=
  match vs, bs with
  | [.v (.ptr 4 0 0), .v (.sl 2), .v (.int .i64 x2), .v (.int .i64 x3)], [qb0, qb1, qb2, qb3, .cells 29 [.int .i64 xc4_0, .int .i64 xc4_1, .int .i64 xc4_2, .sl 0, .sl 1, .sl 2, .sl 3, .int .i64 xc4_7]] => (asO 2 false qb0).bind fun xl0 => (asO 3 false qb1).bind fun xl1 => (asO 4 false qb2).bind fun xl2 => (asO 1 false qb3).bind fun xl3 => impl_IsPackage.l16 k x2 xl0 xl1 xl2 xl3 xc4_0 xc4_1 xc4_2 xc4_7 (fun (z1 : Bool) => K .ret (stOf [(1, [none, none, none, some 2, some 3, some 4, some 1, none]), (2, [])] [.v (.ptr 4 0 0), .v (.bool z1)] [.rows 2 false xl0, .rows 3 false xl1, .rows 4 false xl2, .rows 1 false xl3, .cells 29 [.int .i64 xc4_0, .int .i64 xc4_1, .int .i64 xc4_2, .sl 0, .sl 1, .sl 2, .sl 3, .int .i64 xc4_7]])) (fun (_ : Unit) => K (.exit 4) (stOf [(1, [none, none, none, some 2, some 3, some 4, some 1, none]), (2, [])] [.v (.ptr 4 0 0), .v .any] [.rows 2 false xl0, .rows 3 false xl1, .rows 4 false xl2, .rows 1 false xl3, .cells 29 [.int .i64 xc4_0, .int .i64 xc4_1, .int .i64 xc4_2, .sl 0, .sl 1, .sl 2, .sl 3, .int .i64 xc4_7]])) k x3
  | _, _ => none
def impl_IsPackage.Γ (k : Nat) : Ct κ := assoc [(62, impl_InRange.C k), (87, impl_IsGrant.C k), (88, impl_IsFlow.C k), (89, impl_IsRule.C k), (90, impl_AreOps.C k)]
def impl_IsPackage.LH (k : Nat) : Nat → Option (LHi κ) := assoc [(4, ⟨4, [(1, [none, none, none, some 2, some 3, some 4, some 1, none]), (44, [some 2]), (45, []), (46, [])], [(1, [none, none, none, some 2, some 3, some 4, some 1, none]), (2, [])], @impl_IsPackage.h4 k⟩), (10, ⟨4, [(1, [none, none, none, some 2, some 3, some 4, some 1, none]), (62, [some 3]), (63, []), (64, [])], [(1, [none, none, none, some 2, some 3, some 4, some 1, none]), (2, [])], @impl_IsPackage.h10 k⟩), (16, ⟨4, [(1, [none, none, none, some 2, some 3, some 4, some 1, none]), (80, [some 4]), (81, []), (82, [])], [(1, [none, none, none, some 2, some 3, some 4, some 1, none]), (2, [])], @impl_IsPackage.h16 k⟩)]
theorem impl_IsPackage.hΓ (k : Nat) : ∀ f g, impl_IsPackage.Γ k f = some g → CSound Try.prog f g := G_cons (impl_InRange.ok k) (G_cons (impl_IsGrant.ok k) (G_cons (impl_IsFlow.ok k) (G_cons (impl_IsRule.ok k) (G_cons (impl_AreOps.ok k) G_nil))))
theorem impl_IsPackage.e4 {R : Type} (K : Ex → St κ → Option R) (k : Nat) (x2 : Int) (xl0 : List T_impl_Grant) (xl1 : List T_impl_Flow) (xl2 : List T_impl_Rule) (xl3 : List T_impl_Op) (xc4_0 : Int) (xc4_1 : Int) (xc4_2 : Int) (xc4_7 : Int) : ∀ (n : Nat) (x3 : Int), loopN 4 (Code.den ti (impl_IsPackage.Γ k) (impl_IsPackage.LH k) (loopAt Try.f32 0)) [(1, [none, none, none, some 2, some 3, some 4, some 1, none]), (44, [some 2]), (45, []), (46, [])] [(1, [none, none, none, some 2, some 3, some 4, some 1, none]), (2, [])] K n [.v (.ptr 4 0 0), .v (.sl 0), .v (.int .i64 x2), .v (.int .i64 x3)] [.rows 2 false xl0, .rows 3 false xl1, .rows 4 false xl2, .rows 1 false xl3, .cells 29 [.int .i64 xc4_0, .int .i64 xc4_1, .int .i64 xc4_2, .sl 0, .sl 1, .sl 2, .sl 3, .int .i64 xc4_7]] = impl_IsPackage.l4 k x2 xl0 xl1 xl2 xl3 xc4_0 xc4_1 xc4_2 xc4_7 (fun (z1 : Bool) => K .ret (stOf [(1, [none, none, none, some 2, some 3, some 4, some 1, none]), (2, [])] [.v (.ptr 4 0 0), .v (.bool z1)] [.rows 2 false xl0, .rows 3 false xl1, .rows 4 false xl2, .rows 1 false xl3, .cells 29 [.int .i64 xc4_0, .int .i64 xc4_1, .int .i64 xc4_2, .sl 0, .sl 1, .sl 2, .sl 3, .int .i64 xc4_7]])) (fun (_ : Unit) => K (.exit 0) (stOf [(1, [none, none, none, some 2, some 3, some 4, some 1, none]), (2, [])] [.v (.ptr 4 0 0), .v .any] [.rows 2 false xl0, .rows 3 false xl1, .rows 4 false xl2, .rows 1 false xl3, .cells 29 [.int .i64 xc4_0, .int .i64 xc4_1, .int .i64 xc4_2, .sl 0, .sl 1, .sl 2, .sl 3, .int .i64 xc4_7]])) n x3
  | 0, _ => rfl
  | n + 1, x3 => (show loopN 4 (Code.den ti (impl_IsPackage.Γ k) (impl_IsPackage.LH k) (loopAt Try.f32 0)) [(1, [none, none, none, some 2, some 3, some 4, some 1, none]), (44, [some 2]), (45, []), (46, [])] [(1, [none, none, none, some 2, some 3, some 4, some 1, none]), (2, [])] K (n + 1) [.v (.ptr 4 0 0), .v (.sl 0), .v (.int .i64 x2), .v (.int .i64 x3)] [.rows 2 false xl0, .rows 3 false xl1, .rows 4 false xl2, .rows 1 false xl3, .cells 29 [.int .i64 xc4_0, .int .i64 xc4_1, .int .i64 xc4_2, .sl 0, .sl 1, .sl 2, .sl 3, .int .i64 xc4_7]] = impl_IsPackage.L4 k x2 xl0 xl1 xl2 xl3 xc4_0 xc4_1 xc4_2 xc4_7 (fun (z1 : Bool) => K .ret (stOf [(1, [none, none, none, some 2, some 3, some 4, some 1, none]), (2, [])] [.v (.ptr 4 0 0), .v (.bool z1)] [.rows 2 false xl0, .rows 3 false xl1, .rows 4 false xl2, .rows 1 false xl3, .cells 29 [.int .i64 xc4_0, .int .i64 xc4_1, .int .i64 xc4_2, .sl 0, .sl 1, .sl 2, .sl 3, .int .i64 xc4_7]])) (fun (_ : Unit) => K (.exit 0) (stOf [(1, [none, none, none, some 2, some 3, some 4, some 1, none]), (2, [])] [.v (.ptr 4 0 0), .v .any] [.rows 2 false xl0, .rows 3 false xl1, .rows 4 false xl2, .rows 1 false xl3, .cells 29 [.int .i64 xc4_0, .int .i64 xc4_1, .int .i64 xc4_2, .sl 0, .sl 1, .sl 2, .sl 3, .int .i64 xc4_7]])) (fun (x3' : Int) => loopN 4 (Code.den ti (impl_IsPackage.Γ k) (impl_IsPackage.LH k) (loopAt Try.f32 0)) [(1, [none, none, none, some 2, some 3, some 4, some 1, none]), (44, [some 2]), (45, []), (46, [])] [(1, [none, none, none, some 2, some 3, some 4, some 1, none]), (2, [])] K n [.v (.ptr 4 0 0), .v (.sl 0), .v (.int .i64 x2), .v (.int .i64 x3')] [.rows 2 false xl0, .rows 3 false xl1, .rows 4 false xl2, .rows 1 false xl3, .cells 29 [.int .i64 xc4_0, .int .i64 xc4_1, .int .i64 xc4_2, .sl 0, .sl 1, .sl 2, .sl 3, .int .i64 xc4_7]]) x3 by kernel_rfl).trans (congrArg (fun rec => impl_IsPackage.L4 k x2 xl0 xl1 xl2 xl3 xc4_0 xc4_1 xc4_2 xc4_7 (fun (z1 : Bool) => K .ret (stOf [(1, [none, none, none, some 2, some 3, some 4, some 1, none]), (2, [])] [.v (.ptr 4 0 0), .v (.bool z1)] [.rows 2 false xl0, .rows 3 false xl1, .rows 4 false xl2, .rows 1 false xl3, .cells 29 [.int .i64 xc4_0, .int .i64 xc4_1, .int .i64 xc4_2, .sl 0, .sl 1, .sl 2, .sl 3, .int .i64 xc4_7]])) (fun (_ : Unit) => K (.exit 0) (stOf [(1, [none, none, none, some 2, some 3, some 4, some 1, none]), (2, [])] [.v (.ptr 4 0 0), .v .any] [.rows 2 false xl0, .rows 3 false xl1, .rows 4 false xl2, .rows 1 false xl3, .cells 29 [.int .i64 xc4_0, .int .i64 xc4_1, .int .i64 xc4_2, .sl 0, .sl 1, .sl 2, .sl 3, .int .i64 xc4_7]])) rec x3) (funext fun x3' => impl_IsPackage.e4 K k x2 xl0 xl1 xl2 xl3 xc4_0 xc4_1 xc4_2 xc4_7 n x3'))
theorem impl_IsPackage.q4 (k : Nat) {R : Type} (K : Ex → St κ → Option R) (vs : List AV) (bs : List (Blk κ)) (r : R) (h : impl_IsPackage.h4 k K vs bs = some r) : ∃ n, loopN 4 (Code.den ti (impl_IsPackage.Γ k) (impl_IsPackage.LH k) (loopAt Try.f32 0)) [(1, [none, none, none, some 2, some 3, some 4, some 1, none]), (44, [some 2]), (45, []), (46, [])] [(1, [none, none, none, some 2, some 3, some 4, some 1, none]), (2, [])] K n vs bs = some r := by
  unfold impl_IsPackage.h4 at h
  split at h
  · obtain ⟨_, rfl, h_1⟩ := asO_bind h
    obtain ⟨_, rfl, h_2⟩ := asO_bind h_1
    obtain ⟨_, rfl, h_3⟩ := asO_bind h_2
    obtain ⟨_, rfl, h_4⟩ := asO_bind h_3
    exact ⟨k, (impl_IsPackage.e4 K k _ _ _ _ _ _ _ _ _ k _).trans h_4⟩
  · cases h
theorem impl_IsPackage.e10 {R : Type} (K : Ex → St κ → Option R) (k : Nat) (x2 : Int) (xl0 : List T_impl_Grant) (xl1 : List T_impl_Flow) (xl2 : List T_impl_Rule) (xl3 : List T_impl_Op) (xc4_0 : Int) (xc4_1 : Int) (xc4_2 : Int) (xc4_7 : Int) : ∀ (n : Nat) (x3 : Int), loopN 4 (Code.den ti (impl_IsPackage.Γ k) (impl_IsPackage.LH k) (loopAt Try.f32 1)) [(1, [none, none, none, some 2, some 3, some 4, some 1, none]), (62, [some 3]), (63, []), (64, [])] [(1, [none, none, none, some 2, some 3, some 4, some 1, none]), (2, [])] K n [.v (.ptr 4 0 0), .v (.sl 1), .v (.int .i64 x2), .v (.int .i64 x3)] [.rows 2 false xl0, .rows 3 false xl1, .rows 4 false xl2, .rows 1 false xl3, .cells 29 [.int .i64 xc4_0, .int .i64 xc4_1, .int .i64 xc4_2, .sl 0, .sl 1, .sl 2, .sl 3, .int .i64 xc4_7]] = impl_IsPackage.l10 k x2 xl0 xl1 xl2 xl3 xc4_0 xc4_1 xc4_2 xc4_7 (fun (z1 : Bool) => K .ret (stOf [(1, [none, none, none, some 2, some 3, some 4, some 1, none]), (2, [])] [.v (.ptr 4 0 0), .v (.bool z1)] [.rows 2 false xl0, .rows 3 false xl1, .rows 4 false xl2, .rows 1 false xl3, .cells 29 [.int .i64 xc4_0, .int .i64 xc4_1, .int .i64 xc4_2, .sl 0, .sl 1, .sl 2, .sl 3, .int .i64 xc4_7]])) (fun (_ : Unit) => K (.exit 2) (stOf [(1, [none, none, none, some 2, some 3, some 4, some 1, none]), (2, [])] [.v (.ptr 4 0 0), .v .any] [.rows 2 false xl0, .rows 3 false xl1, .rows 4 false xl2, .rows 1 false xl3, .cells 29 [.int .i64 xc4_0, .int .i64 xc4_1, .int .i64 xc4_2, .sl 0, .sl 1, .sl 2, .sl 3, .int .i64 xc4_7]])) n x3
  | 0, _ => rfl
  | n + 1, x3 => (show loopN 4 (Code.den ti (impl_IsPackage.Γ k) (impl_IsPackage.LH k) (loopAt Try.f32 1)) [(1, [none, none, none, some 2, some 3, some 4, some 1, none]), (62, [some 3]), (63, []), (64, [])] [(1, [none, none, none, some 2, some 3, some 4, some 1, none]), (2, [])] K (n + 1) [.v (.ptr 4 0 0), .v (.sl 1), .v (.int .i64 x2), .v (.int .i64 x3)] [.rows 2 false xl0, .rows 3 false xl1, .rows 4 false xl2, .rows 1 false xl3, .cells 29 [.int .i64 xc4_0, .int .i64 xc4_1, .int .i64 xc4_2, .sl 0, .sl 1, .sl 2, .sl 3, .int .i64 xc4_7]] = impl_IsPackage.L10 k x2 xl0 xl1 xl2 xl3 xc4_0 xc4_1 xc4_2 xc4_7 (fun (z1 : Bool) => K .ret (stOf [(1, [none, none, none, some 2, some 3, some 4, some 1, none]), (2, [])] [.v (.ptr 4 0 0), .v (.bool z1)] [.rows 2 false xl0, .rows 3 false xl1, .rows 4 false xl2, .rows 1 false xl3, .cells 29 [.int .i64 xc4_0, .int .i64 xc4_1, .int .i64 xc4_2, .sl 0, .sl 1, .sl 2, .sl 3, .int .i64 xc4_7]])) (fun (_ : Unit) => K (.exit 2) (stOf [(1, [none, none, none, some 2, some 3, some 4, some 1, none]), (2, [])] [.v (.ptr 4 0 0), .v .any] [.rows 2 false xl0, .rows 3 false xl1, .rows 4 false xl2, .rows 1 false xl3, .cells 29 [.int .i64 xc4_0, .int .i64 xc4_1, .int .i64 xc4_2, .sl 0, .sl 1, .sl 2, .sl 3, .int .i64 xc4_7]])) (fun (x3' : Int) => loopN 4 (Code.den ti (impl_IsPackage.Γ k) (impl_IsPackage.LH k) (loopAt Try.f32 1)) [(1, [none, none, none, some 2, some 3, some 4, some 1, none]), (62, [some 3]), (63, []), (64, [])] [(1, [none, none, none, some 2, some 3, some 4, some 1, none]), (2, [])] K n [.v (.ptr 4 0 0), .v (.sl 1), .v (.int .i64 x2), .v (.int .i64 x3')] [.rows 2 false xl0, .rows 3 false xl1, .rows 4 false xl2, .rows 1 false xl3, .cells 29 [.int .i64 xc4_0, .int .i64 xc4_1, .int .i64 xc4_2, .sl 0, .sl 1, .sl 2, .sl 3, .int .i64 xc4_7]]) x3 by kernel_rfl).trans (congrArg (fun rec => impl_IsPackage.L10 k x2 xl0 xl1 xl2 xl3 xc4_0 xc4_1 xc4_2 xc4_7 (fun (z1 : Bool) => K .ret (stOf [(1, [none, none, none, some 2, some 3, some 4, some 1, none]), (2, [])] [.v (.ptr 4 0 0), .v (.bool z1)] [.rows 2 false xl0, .rows 3 false xl1, .rows 4 false xl2, .rows 1 false xl3, .cells 29 [.int .i64 xc4_0, .int .i64 xc4_1, .int .i64 xc4_2, .sl 0, .sl 1, .sl 2, .sl 3, .int .i64 xc4_7]])) (fun (_ : Unit) => K (.exit 2) (stOf [(1, [none, none, none, some 2, some 3, some 4, some 1, none]), (2, [])] [.v (.ptr 4 0 0), .v .any] [.rows 2 false xl0, .rows 3 false xl1, .rows 4 false xl2, .rows 1 false xl3, .cells 29 [.int .i64 xc4_0, .int .i64 xc4_1, .int .i64 xc4_2, .sl 0, .sl 1, .sl 2, .sl 3, .int .i64 xc4_7]])) rec x3) (funext fun x3' => impl_IsPackage.e10 K k x2 xl0 xl1 xl2 xl3 xc4_0 xc4_1 xc4_2 xc4_7 n x3'))
theorem impl_IsPackage.q10 (k : Nat) {R : Type} (K : Ex → St κ → Option R) (vs : List AV) (bs : List (Blk κ)) (r : R) (h : impl_IsPackage.h10 k K vs bs = some r) : ∃ n, loopN 4 (Code.den ti (impl_IsPackage.Γ k) (impl_IsPackage.LH k) (loopAt Try.f32 1)) [(1, [none, none, none, some 2, some 3, some 4, some 1, none]), (62, [some 3]), (63, []), (64, [])] [(1, [none, none, none, some 2, some 3, some 4, some 1, none]), (2, [])] K n vs bs = some r := by
  unfold impl_IsPackage.h10 at h
  split at h
  · obtain ⟨_, rfl, h_1⟩ := asO_bind h
    obtain ⟨_, rfl, h_2⟩ := asO_bind h_1
    obtain ⟨_, rfl, h_3⟩ := asO_bind h_2
    obtain ⟨_, rfl, h_4⟩ := asO_bind h_3
    exact ⟨k, (impl_IsPackage.e10 K k _ _ _ _ _ _ _ _ _ k _).trans h_4⟩
  · cases h
theorem impl_IsPackage.e16 {R : Type} (K : Ex → St κ → Option R) (k : Nat) (x2 : Int) (xl0 : List T_impl_Grant) (xl1 : List T_impl_Flow) (xl2 : List T_impl_Rule) (xl3 : List T_impl_Op) (xc4_0 : Int) (xc4_1 : Int) (xc4_2 : Int) (xc4_7 : Int) : ∀ (n : Nat) (x3 : Int), loopN 4 (Code.den ti (impl_IsPackage.Γ k) (impl_IsPackage.LH k) (loopAt Try.f32 2)) [(1, [none, none, none, some 2, some 3, some 4, some 1, none]), (80, [some 4]), (81, []), (82, [])] [(1, [none, none, none, some 2, some 3, some 4, some 1, none]), (2, [])] K n [.v (.ptr 4 0 0), .v (.sl 2), .v (.int .i64 x2), .v (.int .i64 x3)] [.rows 2 false xl0, .rows 3 false xl1, .rows 4 false xl2, .rows 1 false xl3, .cells 29 [.int .i64 xc4_0, .int .i64 xc4_1, .int .i64 xc4_2, .sl 0, .sl 1, .sl 2, .sl 3, .int .i64 xc4_7]] = impl_IsPackage.l16 k x2 xl0 xl1 xl2 xl3 xc4_0 xc4_1 xc4_2 xc4_7 (fun (z1 : Bool) => K .ret (stOf [(1, [none, none, none, some 2, some 3, some 4, some 1, none]), (2, [])] [.v (.ptr 4 0 0), .v (.bool z1)] [.rows 2 false xl0, .rows 3 false xl1, .rows 4 false xl2, .rows 1 false xl3, .cells 29 [.int .i64 xc4_0, .int .i64 xc4_1, .int .i64 xc4_2, .sl 0, .sl 1, .sl 2, .sl 3, .int .i64 xc4_7]])) (fun (_ : Unit) => K (.exit 4) (stOf [(1, [none, none, none, some 2, some 3, some 4, some 1, none]), (2, [])] [.v (.ptr 4 0 0), .v .any] [.rows 2 false xl0, .rows 3 false xl1, .rows 4 false xl2, .rows 1 false xl3, .cells 29 [.int .i64 xc4_0, .int .i64 xc4_1, .int .i64 xc4_2, .sl 0, .sl 1, .sl 2, .sl 3, .int .i64 xc4_7]])) n x3
  | 0, _ => rfl
  | n + 1, x3 => (show loopN 4 (Code.den ti (impl_IsPackage.Γ k) (impl_IsPackage.LH k) (loopAt Try.f32 2)) [(1, [none, none, none, some 2, some 3, some 4, some 1, none]), (80, [some 4]), (81, []), (82, [])] [(1, [none, none, none, some 2, some 3, some 4, some 1, none]), (2, [])] K (n + 1) [.v (.ptr 4 0 0), .v (.sl 2), .v (.int .i64 x2), .v (.int .i64 x3)] [.rows 2 false xl0, .rows 3 false xl1, .rows 4 false xl2, .rows 1 false xl3, .cells 29 [.int .i64 xc4_0, .int .i64 xc4_1, .int .i64 xc4_2, .sl 0, .sl 1, .sl 2, .sl 3, .int .i64 xc4_7]] = impl_IsPackage.L16 k x2 xl0 xl1 xl2 xl3 xc4_0 xc4_1 xc4_2 xc4_7 (fun (z1 : Bool) => K .ret (stOf [(1, [none, none, none, some 2, some 3, some 4, some 1, none]), (2, [])] [.v (.ptr 4 0 0), .v (.bool z1)] [.rows 2 false xl0, .rows 3 false xl1, .rows 4 false xl2, .rows 1 false xl3, .cells 29 [.int .i64 xc4_0, .int .i64 xc4_1, .int .i64 xc4_2, .sl 0, .sl 1, .sl 2, .sl 3, .int .i64 xc4_7]])) (fun (_ : Unit) => K (.exit 4) (stOf [(1, [none, none, none, some 2, some 3, some 4, some 1, none]), (2, [])] [.v (.ptr 4 0 0), .v .any] [.rows 2 false xl0, .rows 3 false xl1, .rows 4 false xl2, .rows 1 false xl3, .cells 29 [.int .i64 xc4_0, .int .i64 xc4_1, .int .i64 xc4_2, .sl 0, .sl 1, .sl 2, .sl 3, .int .i64 xc4_7]])) (fun (x3' : Int) => loopN 4 (Code.den ti (impl_IsPackage.Γ k) (impl_IsPackage.LH k) (loopAt Try.f32 2)) [(1, [none, none, none, some 2, some 3, some 4, some 1, none]), (80, [some 4]), (81, []), (82, [])] [(1, [none, none, none, some 2, some 3, some 4, some 1, none]), (2, [])] K n [.v (.ptr 4 0 0), .v (.sl 2), .v (.int .i64 x2), .v (.int .i64 x3')] [.rows 2 false xl0, .rows 3 false xl1, .rows 4 false xl2, .rows 1 false xl3, .cells 29 [.int .i64 xc4_0, .int .i64 xc4_1, .int .i64 xc4_2, .sl 0, .sl 1, .sl 2, .sl 3, .int .i64 xc4_7]]) x3 by kernel_rfl).trans (congrArg (fun rec => impl_IsPackage.L16 k x2 xl0 xl1 xl2 xl3 xc4_0 xc4_1 xc4_2 xc4_7 (fun (z1 : Bool) => K .ret (stOf [(1, [none, none, none, some 2, some 3, some 4, some 1, none]), (2, [])] [.v (.ptr 4 0 0), .v (.bool z1)] [.rows 2 false xl0, .rows 3 false xl1, .rows 4 false xl2, .rows 1 false xl3, .cells 29 [.int .i64 xc4_0, .int .i64 xc4_1, .int .i64 xc4_2, .sl 0, .sl 1, .sl 2, .sl 3, .int .i64 xc4_7]])) (fun (_ : Unit) => K (.exit 4) (stOf [(1, [none, none, none, some 2, some 3, some 4, some 1, none]), (2, [])] [.v (.ptr 4 0 0), .v .any] [.rows 2 false xl0, .rows 3 false xl1, .rows 4 false xl2, .rows 1 false xl3, .cells 29 [.int .i64 xc4_0, .int .i64 xc4_1, .int .i64 xc4_2, .sl 0, .sl 1, .sl 2, .sl 3, .int .i64 xc4_7]])) rec x3) (funext fun x3' => impl_IsPackage.e16 K k x2 xl0 xl1 xl2 xl3 xc4_0 xc4_1 xc4_2 xc4_7 n x3'))
theorem impl_IsPackage.q16 (k : Nat) {R : Type} (K : Ex → St κ → Option R) (vs : List AV) (bs : List (Blk κ)) (r : R) (h : impl_IsPackage.h16 k K vs bs = some r) : ∃ n, loopN 4 (Code.den ti (impl_IsPackage.Γ k) (impl_IsPackage.LH k) (loopAt Try.f32 2)) [(1, [none, none, none, some 2, some 3, some 4, some 1, none]), (80, [some 4]), (81, []), (82, [])] [(1, [none, none, none, some 2, some 3, some 4, some 1, none]), (2, [])] K n vs bs = some r := by
  unfold impl_IsPackage.h16 at h
  split at h
  · obtain ⟨_, rfl, h_1⟩ := asO_bind h
    obtain ⟨_, rfl, h_2⟩ := asO_bind h_1
    obtain ⟨_, rfl, h_3⟩ := asO_bind h_2
    obtain ⟨_, rfl, h_4⟩ := asO_bind h_3
    exact ⟨k, (impl_IsPackage.e16 K k _ _ _ _ _ _ _ _ _ k _).trans h_4⟩
  · cases h
theorem impl_IsPackage.lok (k : Nat) : LOK ti (impl_IsPackage.Γ k) (impl_IsPackage.LH k) 4 (loopsOf (bodyOf Try.f32)) :=
  (show loopsOf (bodyOf Try.f32) = [loopAt Try.f32 0, loopAt Try.f32 1, loopAt Try.f32 2] by kernel_rfl) ▸ (LOK_cons (g := ⟨4, [(1, [none, none, none, some 2, some 3, some 4, some 1, none]), (44, [some 2]), (45, []), (46, [])], [(1, [none, none, none, some 2, some 3, some 4, some 1, none]), (2, [])], @impl_IsPackage.h4 k⟩) (by kernel_rfl) rfl (fun K vs xs r h => impl_IsPackage.q4 k K vs xs r h) (LOK_cons (g := ⟨4, [(1, [none, none, none, some 2, some 3, some 4, some 1, none]), (62, [some 3]), (63, []), (64, [])], [(1, [none, none, none, some 2, some 3, some 4, some 1, none]), (2, [])], @impl_IsPackage.h10 k⟩) (by kernel_rfl) rfl (fun K vs xs r h => impl_IsPackage.q10 k K vs xs r h) (LOK_cons (g := ⟨4, [(1, [none, none, none, some 2, some 3, some 4, some 1, none]), (80, [some 4]), (81, []), (82, [])], [(1, [none, none, none, some 2, some 3, some 4, some 1, none]), (2, [])], @impl_IsPackage.h16 k⟩) (by kernel_rfl) rfl (fun K vs xs r h => impl_IsPackage.q16 k K vs xs r h) (LOK_nil))))
def impl_IsPackage.sig : List PSh := [.agg [.sc, .sc, .sc, .ro 2, .ro 3, .ro 4, .ro 1, .sc]]
def impl_IsPackage.g (y : Bool) : Ret κ := ⟨.v (.bool y), [], []⟩
def impl_IsPackage.out (r : Ret κ) : Option Bool :=
  match r with
  | ⟨.v (.bool z0), [], []⟩ => some (z0)
  | _ => none
theorem impl_IsPackage.out_ok (r : Ret κ) (y : Bool) (h : impl_IsPackage.out r = some y) : r = impl_IsPackage.g y := by
  unfold impl_IsPackage.out at h
  split at h
  · obtain rfl := Option.some.inj h
    rfl
  · cases h
def impl_IsPackage.body (k : Nat) (vs : List AV) (bs : List (Blk κ)) : Option (Lf κ) :=
  match vs, bs with
  | [.agg [.int .i64 a0_0, .int .i64 a0_1, .int .i64 a0_2, .sl 0, .sl 1, .sl 2, .sl 3, .int .i64 a0_7]], [qb0, qb1, qb2, qb3] => (asO 2 false qb0).bind fun a0_3 => (asO 3 false qb1).bind fun a0_4 => (asO 4 false qb2).bind fun a0_5 => (asO 1 false qb3).bind fun a0_6 => some ⟨Bool, impl_IsPackage.f k a0_0 a0_1 a0_2 a0_3 a0_4 a0_5 a0_6 a0_7, impl_IsPackage.g⟩
  | _, _ => none
def impl_IsPackage.C (k : Nat) : Nat → List AV → AP κ AV := contract impl_IsPackage.sig (impl_IsPackage.body k)
theorem impl_IsPackage.den (k : Nat) (a0_0 : Int) (a0_1 : Int) (a0_2 : Int) (a0_3 : List T_impl_Grant) (a0_4 : List T_impl_Flow) (a0_5 : List T_impl_Rule) (a0_6 : List T_impl_Op) (a0_7 : Int) : Code.den ti (impl_IsPackage.Γ k) (impl_IsPackage.LH k) (bodyOf Try.f32) (finK ti Try.f32.results.toList [] (flags impl_IsPackage.sig).length (rwI (flags impl_IsPackage.sig) 0) impl_IsPackage.out) ⟨envOf (([.agg [.int .i64 a0_0, .int .i64 a0_1, .int .i64 a0_2, .sl 0, .sl 1, .sl 2, .sl 3, .int .i64 a0_7]]).zipIdx.map fun q => (q.2, q.1)), hpOf [.rows 2 false a0_3, .rows 3 false a0_4, .rows 4 false a0_5, .rows 1 false a0_6], (flags impl_IsPackage.sig).length⟩ = impl_IsPackage.f k a0_0 a0_1 a0_2 a0_3 a0_4 a0_5 a0_6 a0_7 := by kernel_rfl
theorem impl_IsPackage.ok (k : Nat) : CSound Try.prog 32 (impl_IsPackage.C k) :=
  csound κ_ok mixed tok (impl_IsPackage.hΓ k) (LH := impl_IsPackage.LH k) (fn := Try.f32) (c := bodyOf Try.f32) Try.func32 rfl Try.call32 impl_IsPackage.sig [] (impl_IsPackage.body k) (by kernel_rfl) (impl_IsPackage.lok k) (by decide) fun vs bs lf y hl hb hy => by
    unfold impl_IsPackage.body at hb
    split at hb
    · obtain ⟨_, rfl, hb_1⟩ := asO_bind hb
      obtain ⟨_, rfl, hb_2⟩ := asO_bind hb_1
      obtain ⟨_, rfl, hb_3⟩ := asO_bind hb_2
      obtain ⟨_, rfl, hb_4⟩ := asO_bind hb_3
      obtain rfl := Option.some.inj hb_4
      exact ⟨impl_IsPackage.out, impl_IsPackage.out_ok, (impl_IsPackage.den k _ _ _ _ _ _ _ _).trans hy⟩
    · cases hb
end Go.Proofs.Ythingkcckjiniaa.PFnTransferred
