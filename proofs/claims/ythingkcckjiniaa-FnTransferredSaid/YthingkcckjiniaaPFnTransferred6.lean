/- What the functions that the law FnTransferred reaches come to; no conditions. -/
import Derived.Test.YthingkcckjiniaaPFnTransferred5
set_option linter.unusedVariables false
set_option maxRecDepth 100000
namespace Go.Proofs.Ythingkcckjiniaa.PFnTransferred
open Go Go.Eng Go.Proofs
/-! ### impl_SealPackage -/
def impl_SealPackage.f (k : Nat) (a0 : Int) (a1_0 : Int) (a1_1 : Int) (a1_2 : Int) (a1_3 : List T_impl_Grant) (a1_4 : List T_impl_Flow) (a1_5 : List T_impl_Rule) (a1_6 : List T_impl_Op) (a1_7 : Int) : Option (Int × Int × Int × Int × List T_impl_Grant × List T_impl_Flow × List T_impl_Rule × List T_impl_Op) :=
  (impl_clonePackage.f k a1_0 a1_1 a1_2 a1_3 a1_4 a1_5 a1_6 a1_7).bind fun t1 => (impl_sealOf.f k a0 a1_0 a1_1 a1_2 a1_3 a1_4 a1_5 a1_6 a1_7).bind fun t2 => some (t1.1, t1.2.1, t1.2.2.1, t2, t1.2.2.2.2.1, t1.2.2.2.2.2.1, t1.2.2.2.2.2.2.1, t1.2.2.2.2.2.2.2)
def impl_SealPackage.Γ (k : Nat) : Ct κ := assoc [(61, impl_clonePackage.C k), (63, impl_sealOf.C k)]
def impl_SealPackage.LH (k : Nat) : Nat → Option (LHi κ) := assoc []
theorem impl_SealPackage.hΓ (k : Nat) : ∀ f g, impl_SealPackage.Γ k f = some g → CSound Try.prog f g := G_cons (impl_clonePackage.ok k) (G_cons (impl_sealOf.ok k) G_nil)
theorem impl_SealPackage.lok (k : Nat) : LOK ti (impl_SealPackage.Γ k) (impl_SealPackage.LH k) 4 (loopsOf (bodyOf Try.f31)) :=
  (show loopsOf (bodyOf Try.f31) = [] by kernel_rfl) ▸ LOK_nil
def impl_SealPackage.sig : List PSh := [.one .sc, .agg [.sc, .sc, .sc, .ro 2, .ro 3, .ro 4, .ro 1, .sc]]
def impl_SealPackage.g (y : Int × Int × Int × Int × List T_impl_Grant × List T_impl_Flow × List T_impl_Rule × List T_impl_Op) : Ret κ := ⟨.agg [.int .i64 y.1, .int .i64 y.2.1, .int .i64 y.2.2.1, .sl 4, .sl 5, .sl 6, .sl 7, .int .i64 y.2.2.2.1], [], [.rows 2 true y.2.2.2.2.1, .rows 3 true y.2.2.2.2.2.1, .rows 4 true y.2.2.2.2.2.2.1, .rows 1 true y.2.2.2.2.2.2.2]⟩
def impl_SealPackage.out (r : Ret κ) : Option (Int × Int × Int × Int × List T_impl_Grant × List T_impl_Flow × List T_impl_Rule × List T_impl_Op) :=
  match r with
  | ⟨.agg [.int .i64 z0, .int .i64 z1, .int .i64 z2, .sl 4, .sl 5, .sl 6, .sl 7, .int .i64 z3], [], [q4, q5, q6, q7]⟩ => (asO 2 true q4).bind fun z4 => (asO 3 true q5).bind fun z5 => (asO 4 true q6).bind fun z6 => (asO 1 true q7).bind fun z7 => some (z0, z1, z2, z3, z4, z5, z6, z7)
  | _ => none
theorem impl_SealPackage.out_ok (r : Ret κ) (y : Int × Int × Int × Int × List T_impl_Grant × List T_impl_Flow × List T_impl_Rule × List T_impl_Op) (h : impl_SealPackage.out r = some y) : r = impl_SealPackage.g y := by
  unfold impl_SealPackage.out at h
  split at h
  · obtain ⟨_, rfl, h_1⟩ := asO_bind h
    obtain ⟨_, rfl, h_2⟩ := asO_bind h_1
    obtain ⟨_, rfl, h_3⟩ := asO_bind h_2
    obtain ⟨_, rfl, h_4⟩ := asO_bind h_3
    obtain rfl := Option.some.inj h_4
    rfl
  · cases h
def impl_SealPackage.body (k : Nat) (vs : List AV) (bs : List (Blk κ)) : Option (Lf κ) :=
  match vs, bs with
  | [.v (.int .i64 a0), .agg [.int .i64 a1_0, .int .i64 a1_1, .int .i64 a1_2, .sl 0, .sl 1, .sl 2, .sl 3, .int .i64 a1_7]], [qb0, qb1, qb2, qb3] => (asO 2 false qb0).bind fun a1_3 => (asO 3 false qb1).bind fun a1_4 => (asO 4 false qb2).bind fun a1_5 => (asO 1 false qb3).bind fun a1_6 => some ⟨Int × Int × Int × Int × List T_impl_Grant × List T_impl_Flow × List T_impl_Rule × List T_impl_Op, impl_SealPackage.f k a0 a1_0 a1_1 a1_2 a1_3 a1_4 a1_5 a1_6 a1_7, impl_SealPackage.g⟩
  | _, _ => none
def impl_SealPackage.C (k : Nat) : Nat → List AV → AP κ AV := contract impl_SealPackage.sig (impl_SealPackage.body k)
theorem impl_SealPackage.den (k : Nat) (a0 : Int) (a1_0 : Int) (a1_1 : Int) (a1_2 : Int) (a1_3 : List T_impl_Grant) (a1_4 : List T_impl_Flow) (a1_5 : List T_impl_Rule) (a1_6 : List T_impl_Op) (a1_7 : Int) : Code.den ti (impl_SealPackage.Γ k) (impl_SealPackage.LH k) (bodyOf Try.f31) (finK ti Try.f31.results.toList [(4, [none, none, none, some 2, some 3, some 4, some 1, none])] (flags impl_SealPackage.sig).length (rwI (flags impl_SealPackage.sig) 0) impl_SealPackage.out) ⟨envOf (([.v (.int .i64 a0), .agg [.int .i64 a1_0, .int .i64 a1_1, .int .i64 a1_2, .sl 0, .sl 1, .sl 2, .sl 3, .int .i64 a1_7]]).zipIdx.map fun q => (q.2, q.1)), hpOf [.rows 2 false a1_3, .rows 3 false a1_4, .rows 4 false a1_5, .rows 1 false a1_6], (flags impl_SealPackage.sig).length⟩ = impl_SealPackage.f k a0 a1_0 a1_1 a1_2 a1_3 a1_4 a1_5 a1_6 a1_7 := by kernel_rfl
theorem impl_SealPackage.ok (k : Nat) : CSound Try.prog 31 (impl_SealPackage.C k) :=
  csound κ_ok mixed tok (impl_SealPackage.hΓ k) (LH := impl_SealPackage.LH k) (fn := Try.f31) (c := bodyOf Try.f31) Try.func31 rfl Try.call31 impl_SealPackage.sig [(4, [none, none, none, some 2, some 3, some 4, some 1, none])] (impl_SealPackage.body k) (by kernel_rfl) (impl_SealPackage.lok k) (by decide) fun vs bs lf y hl hb hy => by
    unfold impl_SealPackage.body at hb
    split at hb
    · obtain ⟨_, rfl, hb_1⟩ := asO_bind hb
      obtain ⟨_, rfl, hb_2⟩ := asO_bind hb_1
      obtain ⟨_, rfl, hb_3⟩ := asO_bind hb_2
      obtain ⟨_, rfl, hb_4⟩ := asO_bind hb_3
      obtain rfl := Option.some.inj hb_4
      exact ⟨impl_SealPackage.out, impl_SealPackage.out_ok, (impl_SealPackage.den k _ _ _ _ _ _ _ _ _).trans hy⟩
    · cases hb
/-! ### impl_Transfer -/
def impl_Transfer.f (k : Nat) (a0 : Int) (a1_0 : Int) (a1_1 : Int) (a1_2 : Int) (a1_3 : List T_impl_Grant) (a1_4 : List T_impl_Flow) (a1_5 : List T_impl_Rule) (a1_6 : List T_impl_Op) (a1_7 : Int) (a2_0 : Int) (a2_1 : Int) (a2_2 : Int) (a2_3 : Int) (a2_4 : Int) (a3 : Int) (a4 : Int) : Option (Int × Int × Int × Int × Bool × List T_impl_Grant × List T_impl_Flow × List T_impl_Rule × List T_impl_Op) :=
  (impl_clonePackage.f k a1_0 a1_1 a1_2 a1_3 a1_4 a1_5 a1_6 a1_7).bind fun t1 => (impl_IsSealed.f k a0 a1_0 a1_1 a1_2 a1_3 a1_4 a1_5 a1_6 a1_7).bind fun t2 => (bif !t2 then some (t1.1, t1.2.1, t1.2.2.1, t1.2.2.2.1, false, t1.2.2.2.2.1, t1.2.2.2.2.2.1, t1.2.2.2.2.2.2.1, t1.2.2.2.2.2.2.2) else (impl_IsDeed.f k a2_0 a2_1 a2_2 a2_3 a2_4 a3 a4).bind fun t3 => (bif !t3 then some (t1.1, t1.2.1, t1.2.2.1, t1.2.2.2.1, false, t1.2.2.2.2.1, t1.2.2.2.2.2.1, t1.2.2.2.2.2.2.1, t1.2.2.2.2.2.2.2) else (bif (a1_0 != a2_0) then some (t1.1, t1.2.1, t1.2.2.1, t1.2.2.2.1, false, t1.2.2.2.2.1, t1.2.2.2.2.2.1, t1.2.2.2.2.2.2.1, t1.2.2.2.2.2.2.2) else (bif (a1_1 != a2_1) then some (t1.1, t1.2.1, t1.2.2.1, t1.2.2.2.1, false, t1.2.2.2.2.1, t1.2.2.2.2.2.1, t1.2.2.2.2.2.2.1, t1.2.2.2.2.2.2.2) else (impl_SealPackage.f k a0 t1.1 a2_2 t1.2.2.1 t1.2.2.2.2.1 t1.2.2.2.2.2.1 t1.2.2.2.2.2.2.1 t1.2.2.2.2.2.2.2 t1.2.2.2.1).bind fun t4 => some (t4.1, t4.2.1, t4.2.2.1, t4.2.2.2.1, true, t4.2.2.2.2.1, t4.2.2.2.2.2.1, t4.2.2.2.2.2.2.1, t4.2.2.2.2.2.2.2)))))
def impl_Transfer.Γ (k : Nat) : Ct κ := assoc [(61, impl_clonePackage.C k), (15, impl_IsSealed.C k), (14, impl_IsDeed.C k), (31, impl_SealPackage.C k)]
def impl_Transfer.LH (k : Nat) : Nat → Option (LHi κ) := assoc []
theorem impl_Transfer.hΓ (k : Nat) : ∀ f g, impl_Transfer.Γ k f = some g → CSound Try.prog f g := G_cons (impl_clonePackage.ok k) (G_cons (impl_IsSealed.ok k) (G_cons (impl_IsDeed.ok k) (G_cons (impl_SealPackage.ok k) G_nil)))
theorem impl_Transfer.lok (k : Nat) : LOK ti (impl_Transfer.Γ k) (impl_Transfer.LH k) 4 (loopsOf (bodyOf Try.f13)) :=
  (show loopsOf (bodyOf Try.f13) = [] by kernel_rfl) ▸ LOK_nil
def impl_Transfer.sig : List PSh := [.one .sc, .agg [.sc, .sc, .sc, .ro 2, .ro 3, .ro 4, .ro 1, .sc], .agg [.sc, .sc, .sc, .sc, .sc], .one .sc, .one .sc]
def impl_Transfer.g (y : Int × Int × Int × Int × Bool × List T_impl_Grant × List T_impl_Flow × List T_impl_Rule × List T_impl_Op) : Ret κ := ⟨.tup [(true, [.int .i64 y.1, .int .i64 y.2.1, .int .i64 y.2.2.1, .sl 4, .sl 5, .sl 6, .sl 7, .int .i64 y.2.2.2.1]), (false, [.bool y.2.2.2.2.1])], [], [.rows 2 true y.2.2.2.2.2.1, .rows 3 true y.2.2.2.2.2.2.1, .rows 4 true y.2.2.2.2.2.2.2.1, .rows 1 true y.2.2.2.2.2.2.2.2]⟩
def impl_Transfer.out (r : Ret κ) : Option (Int × Int × Int × Int × Bool × List T_impl_Grant × List T_impl_Flow × List T_impl_Rule × List T_impl_Op) :=
  match r with
  | ⟨.tup [(true, [.int .i64 z0, .int .i64 z1, .int .i64 z2, .sl 4, .sl 5, .sl 6, .sl 7, .int .i64 z3]), (false, [.bool z4])], [], [q5, q6, q7, q8]⟩ => (asO 2 true q5).bind fun z5 => (asO 3 true q6).bind fun z6 => (asO 4 true q7).bind fun z7 => (asO 1 true q8).bind fun z8 => some (z0, z1, z2, z3, z4, z5, z6, z7, z8)
  | _ => none
theorem impl_Transfer.out_ok (r : Ret κ) (y : Int × Int × Int × Int × Bool × List T_impl_Grant × List T_impl_Flow × List T_impl_Rule × List T_impl_Op) (h : impl_Transfer.out r = some y) : r = impl_Transfer.g y := by
  unfold impl_Transfer.out at h
  split at h
  · obtain ⟨_, rfl, h_1⟩ := asO_bind h
    obtain ⟨_, rfl, h_2⟩ := asO_bind h_1
    obtain ⟨_, rfl, h_3⟩ := asO_bind h_2
    obtain ⟨_, rfl, h_4⟩ := asO_bind h_3
    obtain rfl := Option.some.inj h_4
    rfl
  · cases h
def impl_Transfer.body (k : Nat) (vs : List AV) (bs : List (Blk κ)) : Option (Lf κ) :=
  match vs, bs with
  | [.v (.int .i64 a0), .agg [.int .i64 a1_0, .int .i64 a1_1, .int .i64 a1_2, .sl 0, .sl 1, .sl 2, .sl 3, .int .i64 a1_7], .agg [.int .i64 a2_0, .int .i64 a2_1, .int .i64 a2_2, .int .i64 a2_3, .int .i64 a2_4], .v (.int .i64 a3), .v (.int .i64 a4)], [qb0, qb1, qb2, qb3] => (asO 2 false qb0).bind fun a1_3 => (asO 3 false qb1).bind fun a1_4 => (asO 4 false qb2).bind fun a1_5 => (asO 1 false qb3).bind fun a1_6 => some ⟨Int × Int × Int × Int × Bool × List T_impl_Grant × List T_impl_Flow × List T_impl_Rule × List T_impl_Op, impl_Transfer.f k a0 a1_0 a1_1 a1_2 a1_3 a1_4 a1_5 a1_6 a1_7 a2_0 a2_1 a2_2 a2_3 a2_4 a3 a4, impl_Transfer.g⟩
  | _, _ => none
def impl_Transfer.C (k : Nat) : Nat → List AV → AP κ AV := contract impl_Transfer.sig (impl_Transfer.body k)
theorem impl_Transfer.den (k : Nat) (a0 : Int) (a1_0 : Int) (a1_1 : Int) (a1_2 : Int) (a1_3 : List T_impl_Grant) (a1_4 : List T_impl_Flow) (a1_5 : List T_impl_Rule) (a1_6 : List T_impl_Op) (a1_7 : Int) (a2_0 : Int) (a2_1 : Int) (a2_2 : Int) (a2_3 : Int) (a2_4 : Int) (a3 : Int) (a4 : Int) : Code.den ti (impl_Transfer.Γ k) (impl_Transfer.LH k) (bodyOf Try.f13) (finK ti Try.f13.results.toList [(10, [none, none, none, some 2, some 3, some 4, some 1, none])] (flags impl_Transfer.sig).length (rwI (flags impl_Transfer.sig) 0) impl_Transfer.out) ⟨envOf (([.v (.int .i64 a0), .agg [.int .i64 a1_0, .int .i64 a1_1, .int .i64 a1_2, .sl 0, .sl 1, .sl 2, .sl 3, .int .i64 a1_7], .agg [.int .i64 a2_0, .int .i64 a2_1, .int .i64 a2_2, .int .i64 a2_3, .int .i64 a2_4], .v (.int .i64 a3), .v (.int .i64 a4)]).zipIdx.map fun q => (q.2, q.1)), hpOf [.rows 2 false a1_3, .rows 3 false a1_4, .rows 4 false a1_5, .rows 1 false a1_6], (flags impl_Transfer.sig).length⟩ = impl_Transfer.f k a0 a1_0 a1_1 a1_2 a1_3 a1_4 a1_5 a1_6 a1_7 a2_0 a2_1 a2_2 a2_3 a2_4 a3 a4 := by kernel_rfl
theorem impl_Transfer.ok (k : Nat) : CSound Try.prog 13 (impl_Transfer.C k) :=
  csound κ_ok mixed tok (impl_Transfer.hΓ k) (LH := impl_Transfer.LH k) (fn := Try.f13) (c := bodyOf Try.f13) Try.func13 rfl Try.call13 impl_Transfer.sig [(10, [none, none, none, some 2, some 3, some 4, some 1, none])] (impl_Transfer.body k) (by kernel_rfl) (impl_Transfer.lok k) (by decide) fun vs bs lf y hl hb hy => by
    unfold impl_Transfer.body at hb
    split at hb
    · obtain ⟨_, rfl, hb_1⟩ := asO_bind hb
      obtain ⟨_, rfl, hb_2⟩ := asO_bind hb_1
      obtain ⟨_, rfl, hb_3⟩ := asO_bind hb_2
      obtain ⟨_, rfl, hb_4⟩ := asO_bind hb_3
      obtain rfl := Option.some.inj hb_4
      exact ⟨impl_Transfer.out, impl_Transfer.out_ok, (impl_Transfer.den k _ _ _ _ _ _ _ _ _ _ _ _ _ _ _ _).trans hy⟩
    · cases hb
/-! ### slices_Equal_Grant -/
def slices_Equal_Grant.L4 {R : Type} (k : Nat) (x2 : Int) (xl0 : List T_impl_Grant) (xl1 : List T_impl_Grant) (X0 : Bool → Option R) (X1 : Unit → Option R) (rec : Int → Option R) (x3 : Int) : Option R :=
  (bif decide (x3 < x2) then (bif decide (0 ≤ x3) then (bif decide (x3 < (xl0.length : Int)) then (bif decide (0 ≤ x3) then (bif decide (x3 < (xl1.length : Int)) then (bif !((((rd_impl_Grant xl0 x3).f0) == ((rd_impl_Grant xl1 x3).f0)) && ((((rd_impl_Grant xl0 x3).f1.f0) == ((rd_impl_Grant xl1 x3).f1.f0)) && ((((rd_impl_Grant xl0 x3).f1.f1) == ((rd_impl_Grant xl1 x3).f1.f1)) && ((((rd_impl_Grant xl0 x3).f2) == ((rd_impl_Grant xl1 x3).f2)) && ((((rd_impl_Grant xl0 x3).f3) == ((rd_impl_Grant xl1 x3).f3)) && ((((rd_impl_Grant xl0 x3).f4) == ((rd_impl_Grant xl1 x3).f4)) && (((rd_impl_Grant xl0 x3).f5) == ((rd_impl_Grant xl1 x3).f5)))))))) then (X0 false) else (rec (w64 (x3 + (1 : Int))))) else none) else none) else none) else none) else (X1 ()))
def slices_Equal_Grant.l4 {R : Type} (k : Nat) (x2 : Int) (xl0 : List T_impl_Grant) (xl1 : List T_impl_Grant) (X0 : Bool → Option R) (X1 : Unit → Option R) : Nat → Int → Option R
  | 0 => fun _ => none
  | n + 1 => slices_Equal_Grant.L4 k x2 xl0 xl1 X0 X1 (slices_Equal_Grant.l4 k x2 xl0 xl1 X0 X1 n)
def slices_Equal_Grant.f (k : Nat) (a0 : List T_impl_Grant) (a1 : List T_impl_Grant) : Option Bool :=
  (bif ((a0.length : Int) != (a1.length : Int)) then some false else (slices_Equal_Grant.l4 k (a0.length : Int) a0 a1 (fun (y1 : Bool) => some y1) (fun (_ : Unit) => some true) k (0 : Int)))
def slices_Equal_Grant.h4 (k : Nat) {R : Type} (K : Ex → St κ → Option R) (vs : List AV) (bs : List (Blk κ)) : Option R :=
  match vs, bs with
  | [.v (.sl 0), .v (.sl 1), .v (.int .i64 x2), .v (.int .i64 x3)], [qb0, qb1] => (asO 2 false qb0).bind fun xl0 => (asO 2 false qb1).bind fun xl1 => slices_Equal_Grant.l4 k x2 xl0 xl1 (fun (z0 : Bool) => K .ret (stOf [(4, [])] [.v (.bool z0)] [.rows 2 false xl0, .rows 2 false xl1])) (fun (_ : Unit) => K (.exit 0) (stOf [(4, [])] [.v .any] [.rows 2 false xl0, .rows 2 false xl1])) k x3
  | _, _ => none
def slices_Equal_Grant.Γ (k : Nat) : Ct κ := assoc []
def slices_Equal_Grant.LH (k : Nat) : Nat → Option (LHi κ) := assoc [(4, ⟨2, [(0, [some 2]), (1, [some 2]), (12, []), (13, [])], [(4, [])], @slices_Equal_Grant.h4 k⟩)]
theorem slices_Equal_Grant.hΓ (k : Nat) : ∀ f g, slices_Equal_Grant.Γ k f = some g → CSound Try.prog f g := G_nil
theorem slices_Equal_Grant.e4 {R : Type} (K : Ex → St κ → Option R) (k : Nat) (x2 : Int) (xl0 : List T_impl_Grant) (xl1 : List T_impl_Grant) : ∀ (n : Nat) (x3 : Int), loopN 2 (Code.den ti (slices_Equal_Grant.Γ k) (slices_Equal_Grant.LH k) (loopAt Try.f64 0)) [(0, [some 2]), (1, [some 2]), (12, []), (13, [])] [(4, [])] K n [.v (.sl 0), .v (.sl 1), .v (.int .i64 x2), .v (.int .i64 x3)] [.rows 2 false xl0, .rows 2 false xl1] = slices_Equal_Grant.l4 k x2 xl0 xl1 (fun (z0 : Bool) => K .ret (stOf [(4, [])] [.v (.bool z0)] [.rows 2 false xl0, .rows 2 false xl1])) (fun (_ : Unit) => K (.exit 0) (stOf [(4, [])] [.v .any] [.rows 2 false xl0, .rows 2 false xl1])) n x3
  | 0, _ => rfl
  | n + 1, x3 => (show loopN 2 (Code.den ti (slices_Equal_Grant.Γ k) (slices_Equal_Grant.LH k) (loopAt Try.f64 0)) [(0, [some 2]), (1, [some 2]), (12, []), (13, [])] [(4, [])] K (n + 1) [.v (.sl 0), .v (.sl 1), .v (.int .i64 x2), .v (.int .i64 x3)] [.rows 2 false xl0, .rows 2 false xl1] = slices_Equal_Grant.L4 k x2 xl0 xl1 (fun (z0 : Bool) => K .ret (stOf [(4, [])] [.v (.bool z0)] [.rows 2 false xl0, .rows 2 false xl1])) (fun (_ : Unit) => K (.exit 0) (stOf [(4, [])] [.v .any] [.rows 2 false xl0, .rows 2 false xl1])) (fun (x3' : Int) => loopN 2 (Code.den ti (slices_Equal_Grant.Γ k) (slices_Equal_Grant.LH k) (loopAt Try.f64 0)) [(0, [some 2]), (1, [some 2]), (12, []), (13, [])] [(4, [])] K n [.v (.sl 0), .v (.sl 1), .v (.int .i64 x2), .v (.int .i64 x3')] [.rows 2 false xl0, .rows 2 false xl1]) x3 by kernel_rfl).trans (congrArg (fun rec => slices_Equal_Grant.L4 k x2 xl0 xl1 (fun (z0 : Bool) => K .ret (stOf [(4, [])] [.v (.bool z0)] [.rows 2 false xl0, .rows 2 false xl1])) (fun (_ : Unit) => K (.exit 0) (stOf [(4, [])] [.v .any] [.rows 2 false xl0, .rows 2 false xl1])) rec x3) (funext fun x3' => slices_Equal_Grant.e4 K k x2 xl0 xl1 n x3'))
theorem slices_Equal_Grant.q4 (k : Nat) {R : Type} (K : Ex → St κ → Option R) (vs : List AV) (bs : List (Blk κ)) (r : R) (h : slices_Equal_Grant.h4 k K vs bs = some r) : ∃ n, loopN 2 (Code.den ti (slices_Equal_Grant.Γ k) (slices_Equal_Grant.LH k) (loopAt Try.f64 0)) [(0, [some 2]), (1, [some 2]), (12, []), (13, [])] [(4, [])] K n vs bs = some r := by
  unfold slices_Equal_Grant.h4 at h
  split at h
  · obtain ⟨_, rfl, h_1⟩ := asO_bind h
    obtain ⟨_, rfl, h_2⟩ := asO_bind h_1
    exact ⟨k, (slices_Equal_Grant.e4 K k _ _ _ k _).trans h_2⟩
  · cases h
theorem slices_Equal_Grant.lok (k : Nat) : LOK ti (slices_Equal_Grant.Γ k) (slices_Equal_Grant.LH k) 2 (loopsOf (bodyOf Try.f64)) :=
  (show loopsOf (bodyOf Try.f64) = [loopAt Try.f64 0] by kernel_rfl) ▸ (LOK_cons (g := ⟨2, [(0, [some 2]), (1, [some 2]), (12, []), (13, [])], [(4, [])], @slices_Equal_Grant.h4 k⟩) (by kernel_rfl) rfl (fun K vs xs r h => slices_Equal_Grant.q4 k K vs xs r h) (LOK_nil))
def slices_Equal_Grant.sig : List PSh := [.one (.ro 2), .one (.ro 2)]
def slices_Equal_Grant.g (y : Bool) : Ret κ := ⟨.v (.bool y), [], []⟩
def slices_Equal_Grant.out (r : Ret κ) : Option Bool :=
  match r with
  | ⟨.v (.bool z0), [], []⟩ => some (z0)
  | _ => none
theorem slices_Equal_Grant.out_ok (r : Ret κ) (y : Bool) (h : slices_Equal_Grant.out r = some y) : r = slices_Equal_Grant.g y := by
  unfold slices_Equal_Grant.out at h
  split at h
  · obtain rfl := Option.some.inj h
    rfl
  · cases h
def slices_Equal_Grant.body (k : Nat) (vs : List AV) (bs : List (Blk κ)) : Option (Lf κ) :=
  match vs, bs with
  | [.v (.sl 0), .v (.sl 1)], [qb0, qb1] => (asO 2 false qb0).bind fun a0 => (asO 2 false qb1).bind fun a1 => some ⟨Bool, slices_Equal_Grant.f k a0 a1, slices_Equal_Grant.g⟩
  | _, _ => none
def slices_Equal_Grant.C (k : Nat) : Nat → List AV → AP κ AV := contract slices_Equal_Grant.sig (slices_Equal_Grant.body k)
theorem slices_Equal_Grant.den (k : Nat) (a0 : List T_impl_Grant) (a1 : List T_impl_Grant) : Code.den ti (slices_Equal_Grant.Γ k) (slices_Equal_Grant.LH k) (bodyOf Try.f64) (finK ti Try.f64.results.toList [] (flags slices_Equal_Grant.sig).length (rwI (flags slices_Equal_Grant.sig) 0) slices_Equal_Grant.out) ⟨envOf (([.v (.sl 0), .v (.sl 1)]).zipIdx.map fun q => (q.2, q.1)), hpOf [.rows 2 false a0, .rows 2 false a1], (flags slices_Equal_Grant.sig).length⟩ = slices_Equal_Grant.f k a0 a1 := by kernel_rfl
theorem slices_Equal_Grant.ok (k : Nat) : CSound Try.prog 64 (slices_Equal_Grant.C k) :=
  csound κ_ok mixed tok (slices_Equal_Grant.hΓ k) (LH := slices_Equal_Grant.LH k) (fn := Try.f64) (c := bodyOf Try.f64) Try.func64 rfl Try.call64 slices_Equal_Grant.sig [] (slices_Equal_Grant.body k) (by kernel_rfl) (slices_Equal_Grant.lok k) (by decide) fun vs bs lf y hl hb hy => by
    unfold slices_Equal_Grant.body at hb
    split at hb
    · obtain ⟨_, rfl, hb_1⟩ := asO_bind hb
      obtain ⟨_, rfl, hb_2⟩ := asO_bind hb_1
      obtain rfl := Option.some.inj hb_2
      exact ⟨slices_Equal_Grant.out, slices_Equal_Grant.out_ok, (slices_Equal_Grant.den k _ _).trans hy⟩
    · cases hb
/-! ### slices_Equal_Flow -/
def slices_Equal_Flow.L4 {R : Type} (k : Nat) (x2 : Int) (xl0 : List T_impl_Flow) (xl1 : List T_impl_Flow) (X0 : Bool → Option R) (X1 : Unit → Option R) (rec : Int → Option R) (x3 : Int) : Option R :=
  (bif decide (x3 < x2) then (bif decide (0 ≤ x3) then (bif decide (x3 < (xl0.length : Int)) then (bif decide (0 ≤ x3) then (bif decide (x3 < (xl1.length : Int)) then (bif !((((rd_impl_Flow xl0 x3).f0) == ((rd_impl_Flow xl1 x3).f0)) && ((((rd_impl_Flow xl0 x3).f1) == ((rd_impl_Flow xl1 x3).f1)) && (((rd_impl_Flow xl0 x3).f2) == ((rd_impl_Flow xl1 x3).f2)))) then (X0 false) else (rec (w64 (x3 + (1 : Int))))) else none) else none) else none) else none) else (X1 ()))
def slices_Equal_Flow.l4 {R : Type} (k : Nat) (x2 : Int) (xl0 : List T_impl_Flow) (xl1 : List T_impl_Flow) (X0 : Bool → Option R) (X1 : Unit → Option R) : Nat → Int → Option R
  | 0 => fun _ => none
  | n + 1 => slices_Equal_Flow.L4 k x2 xl0 xl1 X0 X1 (slices_Equal_Flow.l4 k x2 xl0 xl1 X0 X1 n)
def slices_Equal_Flow.f (k : Nat) (a0 : List T_impl_Flow) (a1 : List T_impl_Flow) : Option Bool :=
  (bif ((a0.length : Int) != (a1.length : Int)) then some false else (slices_Equal_Flow.l4 k (a0.length : Int) a0 a1 (fun (y1 : Bool) => some y1) (fun (_ : Unit) => some true) k (0 : Int)))
def slices_Equal_Flow.h4 (k : Nat) {R : Type} (K : Ex → St κ → Option R) (vs : List AV) (bs : List (Blk κ)) : Option R :=
  match vs, bs with
  | [.v (.sl 0), .v (.sl 1), .v (.int .i64 x2), .v (.int .i64 x3)], [qb0, qb1] => (asO 3 false qb0).bind fun xl0 => (asO 3 false qb1).bind fun xl1 => slices_Equal_Flow.l4 k x2 xl0 xl1 (fun (z0 : Bool) => K .ret (stOf [(4, [])] [.v (.bool z0)] [.rows 3 false xl0, .rows 3 false xl1])) (fun (_ : Unit) => K (.exit 0) (stOf [(4, [])] [.v .any] [.rows 3 false xl0, .rows 3 false xl1])) k x3
  | _, _ => none
def slices_Equal_Flow.Γ (k : Nat) : Ct κ := assoc []
def slices_Equal_Flow.LH (k : Nat) : Nat → Option (LHi κ) := assoc [(4, ⟨2, [(0, [some 3]), (1, [some 3]), (12, []), (13, [])], [(4, [])], @slices_Equal_Flow.h4 k⟩)]
theorem slices_Equal_Flow.hΓ (k : Nat) : ∀ f g, slices_Equal_Flow.Γ k f = some g → CSound Try.prog f g := G_nil
theorem slices_Equal_Flow.e4 {R : Type} (K : Ex → St κ → Option R) (k : Nat) (x2 : Int) (xl0 : List T_impl_Flow) (xl1 : List T_impl_Flow) : ∀ (n : Nat) (x3 : Int), loopN 2 (Code.den ti (slices_Equal_Flow.Γ k) (slices_Equal_Flow.LH k) (loopAt Try.f65 0)) [(0, [some 3]), (1, [some 3]), (12, []), (13, [])] [(4, [])] K n [.v (.sl 0), .v (.sl 1), .v (.int .i64 x2), .v (.int .i64 x3)] [.rows 3 false xl0, .rows 3 false xl1] = slices_Equal_Flow.l4 k x2 xl0 xl1 (fun (z0 : Bool) => K .ret (stOf [(4, [])] [.v (.bool z0)] [.rows 3 false xl0, .rows 3 false xl1])) (fun (_ : Unit) => K (.exit 0) (stOf [(4, [])] [.v .any] [.rows 3 false xl0, .rows 3 false xl1])) n x3
  | 0, _ => rfl
  | n + 1, x3 => (show loopN 2 (Code.den ti (slices_Equal_Flow.Γ k) (slices_Equal_Flow.LH k) (loopAt Try.f65 0)) [(0, [some 3]), (1, [some 3]), (12, []), (13, [])] [(4, [])] K (n + 1) [.v (.sl 0), .v (.sl 1), .v (.int .i64 x2), .v (.int .i64 x3)] [.rows 3 false xl0, .rows 3 false xl1] = slices_Equal_Flow.L4 k x2 xl0 xl1 (fun (z0 : Bool) => K .ret (stOf [(4, [])] [.v (.bool z0)] [.rows 3 false xl0, .rows 3 false xl1])) (fun (_ : Unit) => K (.exit 0) (stOf [(4, [])] [.v .any] [.rows 3 false xl0, .rows 3 false xl1])) (fun (x3' : Int) => loopN 2 (Code.den ti (slices_Equal_Flow.Γ k) (slices_Equal_Flow.LH k) (loopAt Try.f65 0)) [(0, [some 3]), (1, [some 3]), (12, []), (13, [])] [(4, [])] K n [.v (.sl 0), .v (.sl 1), .v (.int .i64 x2), .v (.int .i64 x3')] [.rows 3 false xl0, .rows 3 false xl1]) x3 by kernel_rfl).trans (congrArg (fun rec => slices_Equal_Flow.L4 k x2 xl0 xl1 (fun (z0 : Bool) => K .ret (stOf [(4, [])] [.v (.bool z0)] [.rows 3 false xl0, .rows 3 false xl1])) (fun (_ : Unit) => K (.exit 0) (stOf [(4, [])] [.v .any] [.rows 3 false xl0, .rows 3 false xl1])) rec x3) (funext fun x3' => slices_Equal_Flow.e4 K k x2 xl0 xl1 n x3'))
theorem slices_Equal_Flow.q4 (k : Nat) {R : Type} (K : Ex → St κ → Option R) (vs : List AV) (bs : List (Blk κ)) (r : R) (h : slices_Equal_Flow.h4 k K vs bs = some r) : ∃ n, loopN 2 (Code.den ti (slices_Equal_Flow.Γ k) (slices_Equal_Flow.LH k) (loopAt Try.f65 0)) [(0, [some 3]), (1, [some 3]), (12, []), (13, [])] [(4, [])] K n vs bs = some r := by
  unfold slices_Equal_Flow.h4 at h
  split at h
  · obtain ⟨_, rfl, h_1⟩ := asO_bind h
    obtain ⟨_, rfl, h_2⟩ := asO_bind h_1
    exact ⟨k, (slices_Equal_Flow.e4 K k _ _ _ k _).trans h_2⟩
  · cases h
theorem slices_Equal_Flow.lok (k : Nat) : LOK ti (slices_Equal_Flow.Γ k) (slices_Equal_Flow.LH k) 2 (loopsOf (bodyOf Try.f65)) :=
  (show loopsOf (bodyOf Try.f65) = [loopAt Try.f65 0] by kernel_rfl) ▸ (LOK_cons (g := ⟨2, [(0, [some 3]), (1, [some 3]), (12, []), (13, [])], [(4, [])], @slices_Equal_Flow.h4 k⟩) (by kernel_rfl) rfl (fun K vs xs r h => slices_Equal_Flow.q4 k K vs xs r h) (LOK_nil))
def slices_Equal_Flow.sig : List PSh := [.one (.ro 3), .one (.ro 3)]
def slices_Equal_Flow.g (y : Bool) : Ret κ := ⟨.v (.bool y), [], []⟩
def slices_Equal_Flow.out (r : Ret κ) : Option Bool :=
  match r with
  | ⟨.v (.bool z0), [], []⟩ => some (z0)
  | _ => none
theorem slices_Equal_Flow.out_ok (r : Ret κ) (y : Bool) (h : slices_Equal_Flow.out r = some y) : r = slices_Equal_Flow.g y := by
  unfold slices_Equal_Flow.out at h
  split at h
  · obtain rfl := Option.some.inj h
    rfl
  · cases h
def slices_Equal_Flow.body (k : Nat) (vs : List AV) (bs : List (Blk κ)) : Option (Lf κ) :=
  match vs, bs with
  | [.v (.sl 0), .v (.sl 1)], [qb0, qb1] => (asO 3 false qb0).bind fun a0 => (asO 3 false qb1).bind fun a1 => some ⟨Bool, slices_Equal_Flow.f k a0 a1, slices_Equal_Flow.g⟩
  | _, _ => none
def slices_Equal_Flow.C (k : Nat) : Nat → List AV → AP κ AV := contract slices_Equal_Flow.sig (slices_Equal_Flow.body k)
theorem slices_Equal_Flow.den (k : Nat) (a0 : List T_impl_Flow) (a1 : List T_impl_Flow) : Code.den ti (slices_Equal_Flow.Γ k) (slices_Equal_Flow.LH k) (bodyOf Try.f65) (finK ti Try.f65.results.toList [] (flags slices_Equal_Flow.sig).length (rwI (flags slices_Equal_Flow.sig) 0) slices_Equal_Flow.out) ⟨envOf (([.v (.sl 0), .v (.sl 1)]).zipIdx.map fun q => (q.2, q.1)), hpOf [.rows 3 false a0, .rows 3 false a1], (flags slices_Equal_Flow.sig).length⟩ = slices_Equal_Flow.f k a0 a1 := by kernel_rfl
theorem slices_Equal_Flow.ok (k : Nat) : CSound Try.prog 65 (slices_Equal_Flow.C k) :=
  csound κ_ok mixed tok (slices_Equal_Flow.hΓ k) (LH := slices_Equal_Flow.LH k) (fn := Try.f65) (c := bodyOf Try.f65) Try.func65 rfl Try.call65 slices_Equal_Flow.sig [] (slices_Equal_Flow.body k) (by kernel_rfl) (slices_Equal_Flow.lok k) (by decide) fun vs bs lf y hl hb hy => by
    unfold slices_Equal_Flow.body at hb
    split at hb
    · obtain ⟨_, rfl, hb_1⟩ := asO_bind hb
      obtain ⟨_, rfl, hb_2⟩ := asO_bind hb_1
      obtain rfl := Option.some.inj hb_2
      exact ⟨slices_Equal_Flow.out, slices_Equal_Flow.out_ok, (slices_Equal_Flow.den k _ _).trans hy⟩
    · cases hb
/-! ### slices_Equal_Rule -/
def slices_Equal_Rule.L4 {R : Type} (k : Nat) (x2 : Int) (xl0 : List T_impl_Rule) (xl1 : List T_impl_Rule) (X0 : Bool → Option R) (X1 : Unit → Option R) (rec : Int → Option R) (x3 : Int) : Option R :=
  (bif decide (x3 < x2) then (bif decide (0 ≤ x3) then (bif decide (x3 < (xl0.length : Int)) then (bif decide (0 ≤ x3) then (bif decide (x3 < (xl1.length : Int)) then (bif !((((rd_impl_Rule xl0 x3).f0) == ((rd_impl_Rule xl1 x3).f0)) && ((((rd_impl_Rule xl0 x3).f1) == ((rd_impl_Rule xl1 x3).f1)) && ((((rd_impl_Rule xl0 x3).f2.f0) == ((rd_impl_Rule xl1 x3).f2.f0)) && ((((rd_impl_Rule xl0 x3).f2.f1) == ((rd_impl_Rule xl1 x3).f2.f1)) && ((((rd_impl_Rule xl0 x3).f3) == ((rd_impl_Rule xl1 x3).f3)) && ((((rd_impl_Rule xl0 x3).f4) == ((rd_impl_Rule xl1 x3).f4)) && ((((rd_impl_Rule xl0 x3).f5.f0) == ((rd_impl_Rule xl1 x3).f5.f0)) && (((rd_impl_Rule xl0 x3).f5.f1) == ((rd_impl_Rule xl1 x3).f5.f1))))))))) then (X0 false) else (rec (w64 (x3 + (1 : Int))))) else none) else none) else none) else none) else (X1 ()))
def slices_Equal_Rule.l4 {R : Type} (k : Nat) (x2 : Int) (xl0 : List T_impl_Rule) (xl1 : List T_impl_Rule) (X0 : Bool → Option R) (X1 : Unit → Option R) : Nat → Int → Option R
  | 0 => fun _ => none
  | n + 1 => slices_Equal_Rule.L4 k x2 xl0 xl1 X0 X1 (slices_Equal_Rule.l4 k x2 xl0 xl1 X0 X1 n)
def slices_Equal_Rule.f (k : Nat) (a0 : List T_impl_Rule) (a1 : List T_impl_Rule) : Option Bool :=
  (bif ((a0.length : Int) != (a1.length : Int)) then some false else (slices_Equal_Rule.l4 k (a0.length : Int) a0 a1 (fun (y1 : Bool) => some y1) (fun (_ : Unit) => some true) k (0 : Int)))
def slices_Equal_Rule.h4 (k : Nat) {R : Type} (K : Ex → St κ → Option R) (vs : List AV) (bs : List (Blk κ)) : Option R :=
  match vs, bs with
  | [.v (.sl 0), .v (.sl 1), .v (.int .i64 x2), .v (.int .i64 x3)], [qb0, qb1] => (asO 4 false qb0).bind fun xl0 => (asO 4 false qb1).bind fun xl1 => slices_Equal_Rule.l4 k x2 xl0 xl1 (fun (z0 : Bool) => K .ret (stOf [(4, [])] [.v (.bool z0)] [.rows 4 false xl0, .rows 4 false xl1])) (fun (_ : Unit) => K (.exit 0) (stOf [(4, [])] [.v .any] [.rows 4 false xl0, .rows 4 false xl1])) k x3
  | _, _ => none
def slices_Equal_Rule.Γ (k : Nat) : Ct κ := assoc []
def slices_Equal_Rule.LH (k : Nat) : Nat → Option (LHi κ) := assoc [(4, ⟨2, [(0, [some 4]), (1, [some 4]), (12, []), (13, [])], [(4, [])], @slices_Equal_Rule.h4 k⟩)]
theorem slices_Equal_Rule.hΓ (k : Nat) : ∀ f g, slices_Equal_Rule.Γ k f = some g → CSound Try.prog f g := G_nil
theorem slices_Equal_Rule.e4 {R : Type} (K : Ex → St κ → Option R) (k : Nat) (x2 : Int) (xl0 : List T_impl_Rule) (xl1 : List T_impl_Rule) : ∀ (n : Nat) (x3 : Int), loopN 2 (Code.den ti (slices_Equal_Rule.Γ k) (slices_Equal_Rule.LH k) (loopAt Try.f66 0)) [(0, [some 4]), (1, [some 4]), (12, []), (13, [])] [(4, [])] K n [.v (.sl 0), .v (.sl 1), .v (.int .i64 x2), .v (.int .i64 x3)] [.rows 4 false xl0, .rows 4 false xl1] = slices_Equal_Rule.l4 k x2 xl0 xl1 (fun (z0 : Bool) => K .ret (stOf [(4, [])] [.v (.bool z0)] [.rows 4 false xl0, .rows 4 false xl1])) (fun (_ : Unit) => K (.exit 0) (stOf [(4, [])] [.v .any] [.rows 4 false xl0, .rows 4 false xl1])) n x3
  | 0, _ => rfl
  | n + 1, x3 => (show loopN 2 (Code.den ti (slices_Equal_Rule.Γ k) (slices_Equal_Rule.LH k) (loopAt Try.f66 0)) [(0, [some 4]), (1, [some 4]), (12, []), (13, [])] [(4, [])] K (n + 1) [.v (.sl 0), .v (.sl 1), .v (.int .i64 x2), .v (.int .i64 x3)] [.rows 4 false xl0, .rows 4 false xl1] = slices_Equal_Rule.L4 k x2 xl0 xl1 (fun (z0 : Bool) => K .ret (stOf [(4, [])] [.v (.bool z0)] [.rows 4 false xl0, .rows 4 false xl1])) (fun (_ : Unit) => K (.exit 0) (stOf [(4, [])] [.v .any] [.rows 4 false xl0, .rows 4 false xl1])) (fun (x3' : Int) => loopN 2 (Code.den ti (slices_Equal_Rule.Γ k) (slices_Equal_Rule.LH k) (loopAt Try.f66 0)) [(0, [some 4]), (1, [some 4]), (12, []), (13, [])] [(4, [])] K n [.v (.sl 0), .v (.sl 1), .v (.int .i64 x2), .v (.int .i64 x3')] [.rows 4 false xl0, .rows 4 false xl1]) x3 by kernel_rfl).trans (congrArg (fun rec => slices_Equal_Rule.L4 k x2 xl0 xl1 (fun (z0 : Bool) => K .ret (stOf [(4, [])] [.v (.bool z0)] [.rows 4 false xl0, .rows 4 false xl1])) (fun (_ : Unit) => K (.exit 0) (stOf [(4, [])] [.v .any] [.rows 4 false xl0, .rows 4 false xl1])) rec x3) (funext fun x3' => slices_Equal_Rule.e4 K k x2 xl0 xl1 n x3'))
theorem slices_Equal_Rule.q4 (k : Nat) {R : Type} (K : Ex → St κ → Option R) (vs : List AV) (bs : List (Blk κ)) (r : R) (h : slices_Equal_Rule.h4 k K vs bs = some r) : ∃ n, loopN 2 (Code.den ti (slices_Equal_Rule.Γ k) (slices_Equal_Rule.LH k) (loopAt Try.f66 0)) [(0, [some 4]), (1, [some 4]), (12, []), (13, [])] [(4, [])] K n vs bs = some r := by
  unfold slices_Equal_Rule.h4 at h
  split at h
  · obtain ⟨_, rfl, h_1⟩ := asO_bind h
    obtain ⟨_, rfl, h_2⟩ := asO_bind h_1
    exact ⟨k, (slices_Equal_Rule.e4 K k _ _ _ k _).trans h_2⟩
  · cases h
theorem slices_Equal_Rule.lok (k : Nat) : LOK ti (slices_Equal_Rule.Γ k) (slices_Equal_Rule.LH k) 2 (loopsOf (bodyOf Try.f66)) :=
  (show loopsOf (bodyOf Try.f66) = [loopAt Try.f66 0] by kernel_rfl) ▸ (LOK_cons (g := ⟨2, [(0, [some 4]), (1, [some 4]), (12, []), (13, [])], [(4, [])], @slices_Equal_Rule.h4 k⟩) (by kernel_rfl) rfl (fun K vs xs r h => slices_Equal_Rule.q4 k K vs xs r h) (LOK_nil))
def slices_Equal_Rule.sig : List PSh := [.one (.ro 4), .one (.ro 4)]
def slices_Equal_Rule.g (y : Bool) : Ret κ := ⟨.v (.bool y), [], []⟩
def slices_Equal_Rule.out (r : Ret κ) : Option Bool :=
  match r with
  | ⟨.v (.bool z0), [], []⟩ => some (z0)
  | _ => none
theorem slices_Equal_Rule.out_ok (r : Ret κ) (y : Bool) (h : slices_Equal_Rule.out r = some y) : r = slices_Equal_Rule.g y := by
  unfold slices_Equal_Rule.out at h
  split at h
  · obtain rfl := Option.some.inj h
    rfl
  · cases h
def slices_Equal_Rule.body (k : Nat) (vs : List AV) (bs : List (Blk κ)) : Option (Lf κ) :=
  match vs, bs with
  | [.v (.sl 0), .v (.sl 1)], [qb0, qb1] => (asO 4 false qb0).bind fun a0 => (asO 4 false qb1).bind fun a1 => some ⟨Bool, slices_Equal_Rule.f k a0 a1, slices_Equal_Rule.g⟩
  | _, _ => none
def slices_Equal_Rule.C (k : Nat) : Nat → List AV → AP κ AV := contract slices_Equal_Rule.sig (slices_Equal_Rule.body k)
theorem slices_Equal_Rule.den (k : Nat) (a0 : List T_impl_Rule) (a1 : List T_impl_Rule) : Code.den ti (slices_Equal_Rule.Γ k) (slices_Equal_Rule.LH k) (bodyOf Try.f66) (finK ti Try.f66.results.toList [] (flags slices_Equal_Rule.sig).length (rwI (flags slices_Equal_Rule.sig) 0) slices_Equal_Rule.out) ⟨envOf (([.v (.sl 0), .v (.sl 1)]).zipIdx.map fun q => (q.2, q.1)), hpOf [.rows 4 false a0, .rows 4 false a1], (flags slices_Equal_Rule.sig).length⟩ = slices_Equal_Rule.f k a0 a1 := by kernel_rfl
theorem slices_Equal_Rule.ok (k : Nat) : CSound Try.prog 66 (slices_Equal_Rule.C k) :=
  csound κ_ok mixed tok (slices_Equal_Rule.hΓ k) (LH := slices_Equal_Rule.LH k) (fn := Try.f66) (c := bodyOf Try.f66) Try.func66 rfl Try.call66 slices_Equal_Rule.sig [] (slices_Equal_Rule.body k) (by kernel_rfl) (slices_Equal_Rule.lok k) (by decide) fun vs bs lf y hl hb hy => by
    unfold slices_Equal_Rule.body at hb
    split at hb
    · obtain ⟨_, rfl, hb_1⟩ := asO_bind hb
      obtain ⟨_, rfl, hb_2⟩ := asO_bind hb_1
      obtain rfl := Option.some.inj hb_2
      exact ⟨slices_Equal_Rule.out, slices_Equal_Rule.out_ok, (slices_Equal_Rule.den k _ _).trans hy⟩
    · cases hb
/-! ### slices_Equal_Op -/
def slices_Equal_Op.L4 {R : Type} (k : Nat) (x2 : Int) (xl0 : List T_impl_Op) (xl1 : List T_impl_Op) (X0 : Bool → Option R) (X1 : Unit → Option R) (rec : Int → Option R) (x3 : Int) : Option R :=
  (bif decide (x3 < x2) then (bif decide (0 ≤ x3) then (bif decide (x3 < (xl0.length : Int)) then (bif decide (0 ≤ x3) then (bif decide (x3 < (xl1.length : Int)) then (bif !((((rd_impl_Op xl0 x3).f0) == ((rd_impl_Op xl1 x3).f0)) && ((((rd_impl_Op xl0 x3).f1) == ((rd_impl_Op xl1 x3).f1)) && ((((rd_impl_Op xl0 x3).f2) == ((rd_impl_Op xl1 x3).f2)) && (((rd_impl_Op xl0 x3).f3) == ((rd_impl_Op xl1 x3).f3))))) then (X0 false) else (rec (w64 (x3 + (1 : Int))))) else none) else none) else none) else none) else (X1 ()))
def slices_Equal_Op.l4 {R : Type} (k : Nat) (x2 : Int) (xl0 : List T_impl_Op) (xl1 : List T_impl_Op) (X0 : Bool → Option R) (X1 : Unit → Option R) : Nat → Int → Option R
  | 0 => fun _ => none
  | n + 1 => slices_Equal_Op.L4 k x2 xl0 xl1 X0 X1 (slices_Equal_Op.l4 k x2 xl0 xl1 X0 X1 n)
def slices_Equal_Op.f (k : Nat) (a0 : List T_impl_Op) (a1 : List T_impl_Op) : Option Bool :=
  (bif ((a0.length : Int) != (a1.length : Int)) then some false else (slices_Equal_Op.l4 k (a0.length : Int) a0 a1 (fun (y1 : Bool) => some y1) (fun (_ : Unit) => some true) k (0 : Int)))
def slices_Equal_Op.h4 (k : Nat) {R : Type} (K : Ex → St κ → Option R) (vs : List AV) (bs : List (Blk κ)) : Option R :=
  match vs, bs with
  | [.v (.sl 0), .v (.sl 1), .v (.int .i64 x2), .v (.int .i64 x3)], [qb0, qb1] => (asO 1 false qb0).bind fun xl0 => (asO 1 false qb1).bind fun xl1 => slices_Equal_Op.l4 k x2 xl0 xl1 (fun (z0 : Bool) => K .ret (stOf [(4, [])] [.v (.bool z0)] [.rows 1 false xl0, .rows 1 false xl1])) (fun (_ : Unit) => K (.exit 0) (stOf [(4, [])] [.v .any] [.rows 1 false xl0, .rows 1 false xl1])) k x3
  | _, _ => none
def slices_Equal_Op.Γ (k : Nat) : Ct κ := assoc []
def slices_Equal_Op.LH (k : Nat) : Nat → Option (LHi κ) := assoc [(4, ⟨2, [(0, [some 1]), (1, [some 1]), (12, []), (13, [])], [(4, [])], @slices_Equal_Op.h4 k⟩)]
theorem slices_Equal_Op.hΓ (k : Nat) : ∀ f g, slices_Equal_Op.Γ k f = some g → CSound Try.prog f g := G_nil
theorem slices_Equal_Op.e4 {R : Type} (K : Ex → St κ → Option R) (k : Nat) (x2 : Int) (xl0 : List T_impl_Op) (xl1 : List T_impl_Op) : ∀ (n : Nat) (x3 : Int), loopN 2 (Code.den ti (slices_Equal_Op.Γ k) (slices_Equal_Op.LH k) (loopAt Try.f67 0)) [(0, [some 1]), (1, [some 1]), (12, []), (13, [])] [(4, [])] K n [.v (.sl 0), .v (.sl 1), .v (.int .i64 x2), .v (.int .i64 x3)] [.rows 1 false xl0, .rows 1 false xl1] = slices_Equal_Op.l4 k x2 xl0 xl1 (fun (z0 : Bool) => K .ret (stOf [(4, [])] [.v (.bool z0)] [.rows 1 false xl0, .rows 1 false xl1])) (fun (_ : Unit) => K (.exit 0) (stOf [(4, [])] [.v .any] [.rows 1 false xl0, .rows 1 false xl1])) n x3
  | 0, _ => rfl
  | n + 1, x3 => (show loopN 2 (Code.den ti (slices_Equal_Op.Γ k) (slices_Equal_Op.LH k) (loopAt Try.f67 0)) [(0, [some 1]), (1, [some 1]), (12, []), (13, [])] [(4, [])] K (n + 1) [.v (.sl 0), .v (.sl 1), .v (.int .i64 x2), .v (.int .i64 x3)] [.rows 1 false xl0, .rows 1 false xl1] = slices_Equal_Op.L4 k x2 xl0 xl1 (fun (z0 : Bool) => K .ret (stOf [(4, [])] [.v (.bool z0)] [.rows 1 false xl0, .rows 1 false xl1])) (fun (_ : Unit) => K (.exit 0) (stOf [(4, [])] [.v .any] [.rows 1 false xl0, .rows 1 false xl1])) (fun (x3' : Int) => loopN 2 (Code.den ti (slices_Equal_Op.Γ k) (slices_Equal_Op.LH k) (loopAt Try.f67 0)) [(0, [some 1]), (1, [some 1]), (12, []), (13, [])] [(4, [])] K n [.v (.sl 0), .v (.sl 1), .v (.int .i64 x2), .v (.int .i64 x3')] [.rows 1 false xl0, .rows 1 false xl1]) x3 by kernel_rfl).trans (congrArg (fun rec => slices_Equal_Op.L4 k x2 xl0 xl1 (fun (z0 : Bool) => K .ret (stOf [(4, [])] [.v (.bool z0)] [.rows 1 false xl0, .rows 1 false xl1])) (fun (_ : Unit) => K (.exit 0) (stOf [(4, [])] [.v .any] [.rows 1 false xl0, .rows 1 false xl1])) rec x3) (funext fun x3' => slices_Equal_Op.e4 K k x2 xl0 xl1 n x3'))
theorem slices_Equal_Op.q4 (k : Nat) {R : Type} (K : Ex → St κ → Option R) (vs : List AV) (bs : List (Blk κ)) (r : R) (h : slices_Equal_Op.h4 k K vs bs = some r) : ∃ n, loopN 2 (Code.den ti (slices_Equal_Op.Γ k) (slices_Equal_Op.LH k) (loopAt Try.f67 0)) [(0, [some 1]), (1, [some 1]), (12, []), (13, [])] [(4, [])] K n vs bs = some r := by
  unfold slices_Equal_Op.h4 at h
  split at h
  · obtain ⟨_, rfl, h_1⟩ := asO_bind h
    obtain ⟨_, rfl, h_2⟩ := asO_bind h_1
    exact ⟨k, (slices_Equal_Op.e4 K k _ _ _ k _).trans h_2⟩
  · cases h
theorem slices_Equal_Op.lok (k : Nat) : LOK ti (slices_Equal_Op.Γ k) (slices_Equal_Op.LH k) 2 (loopsOf (bodyOf Try.f67)) :=
  (show loopsOf (bodyOf Try.f67) = [loopAt Try.f67 0] by kernel_rfl) ▸ (LOK_cons (g := ⟨2, [(0, [some 1]), (1, [some 1]), (12, []), (13, [])], [(4, [])], @slices_Equal_Op.h4 k⟩) (by kernel_rfl) rfl (fun K vs xs r h => slices_Equal_Op.q4 k K vs xs r h) (LOK_nil))
def slices_Equal_Op.sig : List PSh := [.one (.ro 1), .one (.ro 1)]
def slices_Equal_Op.g (y : Bool) : Ret κ := ⟨.v (.bool y), [], []⟩
def slices_Equal_Op.out (r : Ret κ) : Option Bool :=
  match r with
  | ⟨.v (.bool z0), [], []⟩ => some (z0)
  | _ => none
theorem slices_Equal_Op.out_ok (r : Ret κ) (y : Bool) (h : slices_Equal_Op.out r = some y) : r = slices_Equal_Op.g y := by
  unfold slices_Equal_Op.out at h
  split at h
  · obtain rfl := Option.some.inj h
    rfl
  · cases h
def slices_Equal_Op.body (k : Nat) (vs : List AV) (bs : List (Blk κ)) : Option (Lf κ) :=
  match vs, bs with
  | [.v (.sl 0), .v (.sl 1)], [qb0, qb1] => (asO 1 false qb0).bind fun a0 => (asO 1 false qb1).bind fun a1 => some ⟨Bool, slices_Equal_Op.f k a0 a1, slices_Equal_Op.g⟩
  | _, _ => none
def slices_Equal_Op.C (k : Nat) : Nat → List AV → AP κ AV := contract slices_Equal_Op.sig (slices_Equal_Op.body k)
theorem slices_Equal_Op.den (k : Nat) (a0 : List T_impl_Op) (a1 : List T_impl_Op) : Code.den ti (slices_Equal_Op.Γ k) (slices_Equal_Op.LH k) (bodyOf Try.f67) (finK ti Try.f67.results.toList [] (flags slices_Equal_Op.sig).length (rwI (flags slices_Equal_Op.sig) 0) slices_Equal_Op.out) ⟨envOf (([.v (.sl 0), .v (.sl 1)]).zipIdx.map fun q => (q.2, q.1)), hpOf [.rows 1 false a0, .rows 1 false a1], (flags slices_Equal_Op.sig).length⟩ = slices_Equal_Op.f k a0 a1 := by kernel_rfl
theorem slices_Equal_Op.ok (k : Nat) : CSound Try.prog 67 (slices_Equal_Op.C k) :=
  csound κ_ok mixed tok (slices_Equal_Op.hΓ k) (LH := slices_Equal_Op.LH k) (fn := Try.f67) (c := bodyOf Try.f67) Try.func67 rfl Try.call67 slices_Equal_Op.sig [] (slices_Equal_Op.body k) (by kernel_rfl) (slices_Equal_Op.lok k) (by decide) fun vs bs lf y hl hb hy => by
    unfold slices_Equal_Op.body at hb
    split at hb
    · obtain ⟨_, rfl, hb_1⟩ := asO_bind hb
      obtain ⟨_, rfl, hb_2⟩ := asO_bind hb_1
      obtain rfl := Option.some.inj hb_2
      exact ⟨slices_Equal_Op.out, slices_Equal_Op.out_ok, (slices_Equal_Op.den k _ _).trans hy⟩
    · cases hb
/-! ### impl_EqualPackages -/
def impl_EqualPackages.f (k : Nat) (a0_0 : Int) (a0_1 : Int) (a0_2 : Int) (a0_3 : List T_impl_Grant) (a0_4 : List T_impl_Flow) (a0_5 : List T_impl_Rule) (a0_6 : List T_impl_Op) (a0_7 : Int) (a1_0 : Int) (a1_1 : Int) (a1_2 : Int) (a1_3 : List T_impl_Grant) (a1_4 : List T_impl_Flow) (a1_5 : List T_impl_Rule) (a1_6 : List T_impl_Op) (a1_7 : Int) : Option Bool :=
  (bif (a0_0 == a1_0) then (bif (a0_1 == a1_1) then (bif (a0_2 == a1_2) then (bif (a0_7 == a1_7) then (slices_Equal_Grant.f k a0_3 a1_3).bind fun t1 => (bif t1 then (slices_Equal_Flow.f k a0_4 a1_4).bind fun t2 => (bif t2 then (slices_Equal_Rule.f k a0_5 a1_5).bind fun t3 => (bif t3 then (slices_Equal_Op.f k a0_6 a1_6).bind fun t4 => some t4 else some false) else some false) else some false) else some false) else some false) else some false) else some false)
def impl_EqualPackages.Γ (k : Nat) : Ct κ := assoc [(64, slices_Equal_Grant.C k), (65, slices_Equal_Flow.C k), (66, slices_Equal_Rule.C k), (67, slices_Equal_Op.C k)]
def impl_EqualPackages.LH (k : Nat) : Nat → Option (LHi κ) := assoc []
theorem impl_EqualPackages.hΓ (k : Nat) : ∀ f g, impl_EqualPackages.Γ k f = some g → CSound Try.prog f g := G_cons (slices_Equal_Grant.ok k) (G_cons (slices_Equal_Flow.ok k) (G_cons (slices_Equal_Rule.ok k) (G_cons (slices_Equal_Op.ok k) G_nil)))
theorem impl_EqualPackages.lok (k : Nat) : LOK ti (impl_EqualPackages.Γ k) (impl_EqualPackages.LH k) 8 (loopsOf (bodyOf Try.f16)) :=
  (show loopsOf (bodyOf Try.f16) = [] by kernel_rfl) ▸ LOK_nil
def impl_EqualPackages.sig : List PSh := [.agg [.sc, .sc, .sc, .ro 2, .ro 3, .ro 4, .ro 1, .sc], .agg [.sc, .sc, .sc, .ro 2, .ro 3, .ro 4, .ro 1, .sc]]
def impl_EqualPackages.g (y : Bool) : Ret κ := ⟨.v (.bool y), [], []⟩
def impl_EqualPackages.out (r : Ret κ) : Option Bool :=
  match r with
  | ⟨.v (.bool z0), [], []⟩ => some (z0)
  | _ => none
theorem impl_EqualPackages.out_ok (r : Ret κ) (y : Bool) (h : impl_EqualPackages.out r = some y) : r = impl_EqualPackages.g y := by
  unfold impl_EqualPackages.out at h
  split at h
  · obtain rfl := Option.some.inj h
    rfl
  · cases h
def impl_EqualPackages.body (k : Nat) (vs : List AV) (bs : List (Blk κ)) : Option (Lf κ) :=
  match vs, bs with
  | [.agg [.int .i64 a0_0, .int .i64 a0_1, .int .i64 a0_2, .sl 0, .sl 1, .sl 2, .sl 3, .int .i64 a0_7], .agg [.int .i64 a1_0, .int .i64 a1_1, .int .i64 a1_2, .sl 4, .sl 5, .sl 6, .sl 7, .int .i64 a1_7]], [qb0, qb1, qb2, qb3, qb4, qb5, qb6, qb7] => (asO 2 false qb0).bind fun a0_3 => (asO 3 false qb1).bind fun a0_4 => (asO 4 false qb2).bind fun a0_5 => (asO 1 false qb3).bind fun a0_6 => (asO 2 false qb4).bind fun a1_3 => (asO 3 false qb5).bind fun a1_4 => (asO 4 false qb6).bind fun a1_5 => (asO 1 false qb7).bind fun a1_6 => some ⟨Bool, impl_EqualPackages.f k a0_0 a0_1 a0_2 a0_3 a0_4 a0_5 a0_6 a0_7 a1_0 a1_1 a1_2 a1_3 a1_4 a1_5 a1_6 a1_7, impl_EqualPackages.g⟩
  | _, _ => none
def impl_EqualPackages.C (k : Nat) : Nat → List AV → AP κ AV := contract impl_EqualPackages.sig (impl_EqualPackages.body k)
theorem impl_EqualPackages.den (k : Nat) (a0_0 : Int) (a0_1 : Int) (a0_2 : Int) (a0_3 : List T_impl_Grant) (a0_4 : List T_impl_Flow) (a0_5 : List T_impl_Rule) (a0_6 : List T_impl_Op) (a0_7 : Int) (a1_0 : Int) (a1_1 : Int) (a1_2 : Int) (a1_3 : List T_impl_Grant) (a1_4 : List T_impl_Flow) (a1_5 : List T_impl_Rule) (a1_6 : List T_impl_Op) (a1_7 : Int) : Code.den ti (impl_EqualPackages.Γ k) (impl_EqualPackages.LH k) (bodyOf Try.f16) (finK ti Try.f16.results.toList [] (flags impl_EqualPackages.sig).length (rwI (flags impl_EqualPackages.sig) 0) impl_EqualPackages.out) ⟨envOf (([.agg [.int .i64 a0_0, .int .i64 a0_1, .int .i64 a0_2, .sl 0, .sl 1, .sl 2, .sl 3, .int .i64 a0_7], .agg [.int .i64 a1_0, .int .i64 a1_1, .int .i64 a1_2, .sl 4, .sl 5, .sl 6, .sl 7, .int .i64 a1_7]]).zipIdx.map fun q => (q.2, q.1)), hpOf [.rows 2 false a0_3, .rows 3 false a0_4, .rows 4 false a0_5, .rows 1 false a0_6, .rows 2 false a1_3, .rows 3 false a1_4, .rows 4 false a1_5, .rows 1 false a1_6], (flags impl_EqualPackages.sig).length⟩ = impl_EqualPackages.f k a0_0 a0_1 a0_2 a0_3 a0_4 a0_5 a0_6 a0_7 a1_0 a1_1 a1_2 a1_3 a1_4 a1_5 a1_6 a1_7 := by kernel_rfl
theorem impl_EqualPackages.ok (k : Nat) : CSound Try.prog 16 (impl_EqualPackages.C k) :=
  csound κ_ok mixed tok (impl_EqualPackages.hΓ k) (LH := impl_EqualPackages.LH k) (fn := Try.f16) (c := bodyOf Try.f16) Try.func16 rfl Try.call16 impl_EqualPackages.sig [] (impl_EqualPackages.body k) (by kernel_rfl) (impl_EqualPackages.lok k) (by decide) fun vs bs lf y hl hb hy => by
    unfold impl_EqualPackages.body at hb
    split at hb
    · obtain ⟨_, rfl, hb_1⟩ := asO_bind hb
      obtain ⟨_, rfl, hb_2⟩ := asO_bind hb_1
      obtain ⟨_, rfl, hb_3⟩ := asO_bind hb_2
      obtain ⟨_, rfl, hb_4⟩ := asO_bind hb_3
      obtain ⟨_, rfl, hb_5⟩ := asO_bind hb_4
      obtain ⟨_, rfl, hb_6⟩ := asO_bind hb_5
      obtain ⟨_, rfl, hb_7⟩ := asO_bind hb_6
      obtain ⟨_, rfl, hb_8⟩ := asO_bind hb_7
      obtain rfl := Option.some.inj hb_8
      exact ⟨impl_EqualPackages.out, impl_EqualPackages.out_ok, (impl_EqualPackages.den k _ _ _ _ _ _ _ _ _ _ _ _ _ _ _ _).trans hy⟩
    · cases hb
/-! ### spec_DrawChain -/
def spec_DrawChain.L4 {R : Type} (k : Nat) (xl0 : List Int) (X0 : Int → Int → List T_impl_Deed → Option R) (rec : Int → Int → Int → List T_impl_Deed → Option R) (x2 : Int) (xc1_1 : Int) (xc1_2 : Int) (xl2 : List T_impl_Deed) : Option R :=
  (bif decide (x2 > (0 : Int)) then (spec_l29Draw.f k xl0 xc1_1 xc1_2).bind fun t3 => (bif decide ((xl2.length + ([(⟨t3.1, t3.2.1, t3.2.2.1, t3.2.2.2.1, t3.2.2.2.2.1⟩ : T_impl_Deed)] : List T_impl_Deed).length) * 40 ≤ cap48) then (let l4 : List T_impl_Deed := (xl2 ++ ([(⟨t3.1, t3.2.1, t3.2.2.1, t3.2.2.2.1, t3.2.2.2.2.1⟩ : T_impl_Deed)] : List T_impl_Deed)); (rec (w64 (x2 - (1 : Int))) t3.2.2.2.2.2.1 t3.2.2.2.2.2.2 l4)) else none) else (X0 xc1_1 xc1_2 xl2))
def spec_DrawChain.l4 {R : Type} (k : Nat) (xl0 : List Int) (X0 : Int → Int → List T_impl_Deed → Option R) : Nat → Int → Int → Int → List T_impl_Deed → Option R
  | 0 => fun _ _ _ _ => none
  | n + 1 => spec_DrawChain.L4 k xl0 X0 (spec_DrawChain.l4 k xl0 X0 n)
def spec_DrawChain.f (k : Nat) (a0 : List Int) : Option (Int × Int × List T_impl_Deed) :=
  (spec_l1New.f k a0).bind fun t1 => (spec_l1Below.f k a0 t1.1 t1.2 (6 : Int)).bind fun t2 => (spec_DrawChain.l4 k a0 (fun (y5 : Int) (y6 : Int) (y7 : List T_impl_Deed) => (spec_l1Below.f k a0 y5 y6 (3 : Int)).bind fun t8 => (spec_l1Below.f k a0 t8.2.1 t8.2.2 (3 : Int)).bind fun t9 => some ((w64 ((1 : Int) + t8.1)), (w64 ((1 : Int) + t9.1)), y7)) k t2.1 t2.2.1 t2.2.2 ([] : List T_impl_Deed))
def spec_DrawChain.h4 (k : Nat) {R : Type} (K : Ex → St κ → Option R) (vs : List AV) (bs : List (Blk κ)) : Option R :=
  match vs, bs with
  | [.v (.ptr 1 0 0), .v (.sl 2), .v (.int .i64 x2)], [qb0, .cells 137 [.sl 0, .int .i64 xc1_1, .int .i64 xc1_2], qb2] => (asO 0 false qb0).bind fun xl0 => (asO 6 true qb2).bind fun xl2 => spec_DrawChain.l4 k xl0 (fun (zc1_1 : Int) (zc1_2 : Int) (zl2 : List T_impl_Deed) => K (.exit 0) (stOf [(5, [some 0, none, none]), (6, [some 6])] [.v (.ptr 1 0 0), .v (.sl 2)] [.rows 0 false xl0, .cells 137 [.sl 0, .int .i64 zc1_1, .int .i64 zc1_2], .rows 6 true zl2])) k x2 xc1_1 xc1_2 xl2
  | _, _ => none
def spec_DrawChain.Γ (k : Nat) : Ct κ := assoc [(54, spec_l1New.C k), (56, spec_l1Below.C k), (59, spec_l29Draw.C k)]
def spec_DrawChain.LH (k : Nat) : Nat → Option (LHi κ) := assoc [(4, ⟨1, [(5, [some 0, none, none]), (6, [some 6]), (7, [])], [(5, [some 0, none, none]), (6, [some 6])], @spec_DrawChain.h4 k⟩)]
theorem spec_DrawChain.hΓ (k : Nat) : ∀ f g, spec_DrawChain.Γ k f = some g → CSound Try.prog f g := G_cons (spec_l1New.ok k) (G_cons (spec_l1Below.ok k) (G_cons (spec_l29Draw.ok k) G_nil))
theorem spec_DrawChain.e4 {R : Type} (K : Ex → St κ → Option R) (k : Nat) (xl0 : List Int) : ∀ (n : Nat) (x2 : Int) (xc1_1 : Int) (xc1_2 : Int) (xl2 : List T_impl_Deed), loopN 1 (Code.den ti (spec_DrawChain.Γ k) (spec_DrawChain.LH k) (loopAt Try.f18 0)) [(5, [some 0, none, none]), (6, [some 6]), (7, [])] [(5, [some 0, none, none]), (6, [some 6])] K n [.v (.ptr 1 0 0), .v (.sl 2), .v (.int .i64 x2)] [.rows 0 false xl0, .cells 137 [.sl 0, .int .i64 xc1_1, .int .i64 xc1_2], .rows 6 true xl2] = spec_DrawChain.l4 k xl0 (fun (zc1_1 : Int) (zc1_2 : Int) (zl2 : List T_impl_Deed) => K (.exit 0) (stOf [(5, [some 0, none, none]), (6, [some 6])] [.v (.ptr 1 0 0), .v (.sl 2)] [.rows 0 false xl0, .cells 137 [.sl 0, .int .i64 zc1_1, .int .i64 zc1_2], .rows 6 true zl2])) n x2 xc1_1 xc1_2 xl2
  | 0, _, _, _, _ => rfl
  | n + 1, x2, xc1_1, xc1_2, xl2 => (show loopN 1 (Code.den ti (spec_DrawChain.Γ k) (spec_DrawChain.LH k) (loopAt Try.f18 0)) [(5, [some 0, none, none]), (6, [some 6]), (7, [])] [(5, [some 0, none, none]), (6, [some 6])] K (n + 1) [.v (.ptr 1 0 0), .v (.sl 2), .v (.int .i64 x2)] [.rows 0 false xl0, .cells 137 [.sl 0, .int .i64 xc1_1, .int .i64 xc1_2], .rows 6 true xl2] = spec_DrawChain.L4 k xl0 (fun (zc1_1 : Int) (zc1_2 : Int) (zl2 : List T_impl_Deed) => K (.exit 0) (stOf [(5, [some 0, none, none]), (6, [some 6])] [.v (.ptr 1 0 0), .v (.sl 2)] [.rows 0 false xl0, .cells 137 [.sl 0, .int .i64 zc1_1, .int .i64 zc1_2], .rows 6 true zl2])) (fun (x2' : Int) (xc1_1' : Int) (xc1_2' : Int) (xl2' : List T_impl_Deed) => loopN 1 (Code.den ti (spec_DrawChain.Γ k) (spec_DrawChain.LH k) (loopAt Try.f18 0)) [(5, [some 0, none, none]), (6, [some 6]), (7, [])] [(5, [some 0, none, none]), (6, [some 6])] K n [.v (.ptr 1 0 0), .v (.sl 2), .v (.int .i64 x2')] [.rows 0 false xl0, .cells 137 [.sl 0, .int .i64 xc1_1', .int .i64 xc1_2'], .rows 6 true xl2']) x2 xc1_1 xc1_2 xl2 by kernel_rfl).trans (congrArg (fun rec => spec_DrawChain.L4 k xl0 (fun (zc1_1 : Int) (zc1_2 : Int) (zl2 : List T_impl_Deed) => K (.exit 0) (stOf [(5, [some 0, none, none]), (6, [some 6])] [.v (.ptr 1 0 0), .v (.sl 2)] [.rows 0 false xl0, .cells 137 [.sl 0, .int .i64 zc1_1, .int .i64 zc1_2], .rows 6 true zl2])) rec x2 xc1_1 xc1_2 xl2) (funext fun x2' => funext fun xc1_1' => funext fun xc1_2' => funext fun xl2' => spec_DrawChain.e4 K k xl0 n x2' xc1_1' xc1_2' xl2'))
theorem spec_DrawChain.q4 (k : Nat) {R : Type} (K : Ex → St κ → Option R) (vs : List AV) (bs : List (Blk κ)) (r : R) (h : spec_DrawChain.h4 k K vs bs = some r) : ∃ n, loopN 1 (Code.den ti (spec_DrawChain.Γ k) (spec_DrawChain.LH k) (loopAt Try.f18 0)) [(5, [some 0, none, none]), (6, [some 6]), (7, [])] [(5, [some 0, none, none]), (6, [some 6])] K n vs bs = some r := by
  unfold spec_DrawChain.h4 at h
  split at h
  · obtain ⟨_, rfl, h_1⟩ := asO_bind h
    obtain ⟨_, rfl, h_2⟩ := asO_bind h_1
    exact ⟨k, (spec_DrawChain.e4 K k _ k _ _ _ _).trans h_2⟩
  · cases h
theorem spec_DrawChain.lok (k : Nat) : LOK ti (spec_DrawChain.Γ k) (spec_DrawChain.LH k) 1 (loopsOf (bodyOf Try.f18)) :=
  (show loopsOf (bodyOf Try.f18) = [loopAt Try.f18 0] by kernel_rfl) ▸ (LOK_cons (g := ⟨1, [(5, [some 0, none, none]), (6, [some 6]), (7, [])], [(5, [some 0, none, none]), (6, [some 6])], @spec_DrawChain.h4 k⟩) (by kernel_rfl) rfl (fun K vs xs r h => spec_DrawChain.q4 k K vs xs r h) (LOK_nil))
def spec_DrawChain.sig : List PSh := [.one (.ro 0)]
def spec_DrawChain.g (y : Int × Int × List T_impl_Deed) : Ret κ := ⟨.tup [(false, [.sl 1]), (false, [.int .i64 y.1]), (false, [.int .i64 y.2.1])], [], [.rows 6 true y.2.2]⟩
def spec_DrawChain.out (r : Ret κ) : Option (Int × Int × List T_impl_Deed) :=
  match r with
  | ⟨.tup [(false, [.sl 1]), (false, [.int .i64 z0]), (false, [.int .i64 z1])], [], [q2]⟩ => (asO 6 true q2).bind fun z2 => some (z0, z1, z2)
  | _ => none
theorem spec_DrawChain.out_ok (r : Ret κ) (y : Int × Int × List T_impl_Deed) (h : spec_DrawChain.out r = some y) : r = spec_DrawChain.g y := by
  unfold spec_DrawChain.out at h
  split at h
  · obtain ⟨_, rfl, h_1⟩ := asO_bind h
    obtain rfl := Option.some.inj h_1
    rfl
  · cases h
def spec_DrawChain.body (k : Nat) (vs : List AV) (bs : List (Blk κ)) : Option (Lf κ) :=
  match vs, bs with
  | [.v (.sl 0)], [qb0] => (asO 0 false qb0).bind fun a0 => some ⟨Int × Int × List T_impl_Deed, spec_DrawChain.f k a0, spec_DrawChain.g⟩
  | _, _ => none
def spec_DrawChain.C (k : Nat) : Nat → List AV → AP κ AV := contract spec_DrawChain.sig (spec_DrawChain.body k)
theorem spec_DrawChain.den (k : Nat) (a0 : List Int) : Code.den ti (spec_DrawChain.Γ k) (spec_DrawChain.LH k) (bodyOf Try.f18) (finK ti Try.f18.results.toList [(2, [some 6])] (flags spec_DrawChain.sig).length (rwI (flags spec_DrawChain.sig) 0) spec_DrawChain.out) ⟨envOf (([.v (.sl 0)]).zipIdx.map fun q => (q.2, q.1)), hpOf [.rows 0 false a0], (flags spec_DrawChain.sig).length⟩ = spec_DrawChain.f k a0 := by kernel_rfl
theorem spec_DrawChain.ok (k : Nat) : CSound Try.prog 18 (spec_DrawChain.C k) :=
  csound κ_ok mixed tok (spec_DrawChain.hΓ k) (LH := spec_DrawChain.LH k) (fn := Try.f18) (c := bodyOf Try.f18) Try.func18 rfl Try.call18 spec_DrawChain.sig [(2, [some 6])] (spec_DrawChain.body k) (by kernel_rfl) (spec_DrawChain.lok k) (by decide) fun vs bs lf y hl hb hy => by
    unfold spec_DrawChain.body at hb
    split at hb
    · obtain ⟨_, rfl, hb_1⟩ := asO_bind hb
      obtain rfl := Option.some.inj hb_1
      exact ⟨spec_DrawChain.out, spec_DrawChain.out_ok, (spec_DrawChain.den k _).trans hy⟩
    · cases hb
/-! ### impl_Chain -/
def impl_Chain.L2 {R : Type} (k : Nat) (x0 : Int) (x3 : Int) (xl0 : List T_impl_Deed) (X0 : Int → Option R) (rec : Int → Int → Option R) (x1 : Int) (x4 : Int) : Option R :=
  (bif decide (x4 < x3) then (bif decide (0 ≤ x4) then (bif decide (x4 < (xl0.length : Int)) then (bif ((rd_impl_Deed xl0 x4).f0 == x0) then (bif ((rd_impl_Deed xl0 x4).f1 == x1) then (rec ((rd_impl_Deed xl0 x4).f2) (w64 (x4 + (1 : Int)))) else (rec x1 (w64 (x4 + (1 : Int))))) else (rec x1 (w64 (x4 + (1 : Int))))) else none) else none) else (X0 x1))
def impl_Chain.l2 {R : Type} (k : Nat) (x0 : Int) (x3 : Int) (xl0 : List T_impl_Deed) (X0 : Int → Option R) : Nat → Int → Int → Option R
  | 0 => fun _ _ => none
  | n + 1 => impl_Chain.L2 k x0 x3 xl0 X0 (impl_Chain.l2 k x0 x3 xl0 X0 n)
def impl_Chain.f (k : Nat) (a0 : List T_impl_Deed) (a1 : Int) (a2 : Int) : Option Int :=
  (impl_Chain.l2 k a1 (a0.length : Int) a0 (fun (y1 : Int) => some y1) k a2 (0 : Int))
def impl_Chain.h2 (k : Nat) {R : Type} (K : Ex → St κ → Option R) (vs : List AV) (bs : List (Blk κ)) : Option R :=
  match vs, bs with
  | [.v (.int .i64 x0), .v (.int .i64 x1), .v (.sl 0), .v (.int .i64 x3), .v (.int .i64 x4)], [qb0] => (asO 6 false qb0).bind fun xl0 => impl_Chain.l2 k x0 x3 xl0 (fun (z0 : Int) => K (.exit 0) (stOf [(2, [])] [.v (.int .i64 z0)] [.rows 6 false xl0])) k x1 x4
  | _, _ => none
def impl_Chain.Γ (k : Nat) : Ct κ := assoc []
def impl_Chain.LH (k : Nat) : Nat → Option (LHi κ) := assoc [(2, ⟨1, [(1, []), (2, []), (9, [some 6]), (10, []), (11, [])], [(2, [])], @impl_Chain.h2 k⟩)]
theorem impl_Chain.hΓ (k : Nat) : ∀ f g, impl_Chain.Γ k f = some g → CSound Try.prog f g := G_nil
theorem impl_Chain.e2 {R : Type} (K : Ex → St κ → Option R) (k : Nat) (x0 : Int) (x3 : Int) (xl0 : List T_impl_Deed) : ∀ (n : Nat) (x1 : Int) (x4 : Int), loopN 1 (Code.den ti (impl_Chain.Γ k) (impl_Chain.LH k) (loopAt Try.f19 0)) [(1, []), (2, []), (9, [some 6]), (10, []), (11, [])] [(2, [])] K n [.v (.int .i64 x0), .v (.int .i64 x1), .v (.sl 0), .v (.int .i64 x3), .v (.int .i64 x4)] [.rows 6 false xl0] = impl_Chain.l2 k x0 x3 xl0 (fun (z0 : Int) => K (.exit 0) (stOf [(2, [])] [.v (.int .i64 z0)] [.rows 6 false xl0])) n x1 x4
  | 0, _, _ => rfl
  | n + 1, x1, x4 => (show loopN 1 (Code.den ti (impl_Chain.Γ k) (impl_Chain.LH k) (loopAt Try.f19 0)) [(1, []), (2, []), (9, [some 6]), (10, []), (11, [])] [(2, [])] K (n + 1) [.v (.int .i64 x0), .v (.int .i64 x1), .v (.sl 0), .v (.int .i64 x3), .v (.int .i64 x4)] [.rows 6 false xl0] = impl_Chain.L2 k x0 x3 xl0 (fun (z0 : Int) => K (.exit 0) (stOf [(2, [])] [.v (.int .i64 z0)] [.rows 6 false xl0])) (fun (x1' : Int) (x4' : Int) => loopN 1 (Code.den ti (impl_Chain.Γ k) (impl_Chain.LH k) (loopAt Try.f19 0)) [(1, []), (2, []), (9, [some 6]), (10, []), (11, [])] [(2, [])] K n [.v (.int .i64 x0), .v (.int .i64 x1'), .v (.sl 0), .v (.int .i64 x3), .v (.int .i64 x4')] [.rows 6 false xl0]) x1 x4 by kernel_rfl).trans (congrArg (fun rec => impl_Chain.L2 k x0 x3 xl0 (fun (z0 : Int) => K (.exit 0) (stOf [(2, [])] [.v (.int .i64 z0)] [.rows 6 false xl0])) rec x1 x4) (funext fun x1' => funext fun x4' => impl_Chain.e2 K k x0 x3 xl0 n x1' x4'))
theorem impl_Chain.q2 (k : Nat) {R : Type} (K : Ex → St κ → Option R) (vs : List AV) (bs : List (Blk κ)) (r : R) (h : impl_Chain.h2 k K vs bs = some r) : ∃ n, loopN 1 (Code.den ti (impl_Chain.Γ k) (impl_Chain.LH k) (loopAt Try.f19 0)) [(1, []), (2, []), (9, [some 6]), (10, []), (11, [])] [(2, [])] K n vs bs = some r := by
  unfold impl_Chain.h2 at h
  split at h
  · obtain ⟨_, rfl, h_1⟩ := asO_bind h
    exact ⟨k, (impl_Chain.e2 K k _ _ _ k _ _).trans h_1⟩
  · cases h
theorem impl_Chain.lok (k : Nat) : LOK ti (impl_Chain.Γ k) (impl_Chain.LH k) 1 (loopsOf (bodyOf Try.f19)) :=
  (show loopsOf (bodyOf Try.f19) = [loopAt Try.f19 0] by kernel_rfl) ▸ (LOK_cons (g := ⟨1, [(1, []), (2, []), (9, [some 6]), (10, []), (11, [])], [(2, [])], @impl_Chain.h2 k⟩) (by kernel_rfl) rfl (fun K vs xs r h => impl_Chain.q2 k K vs xs r h) (LOK_nil))
def impl_Chain.sig : List PSh := [.one (.ro 6), .one .sc, .one .sc]
def impl_Chain.g (y : Int) : Ret κ := ⟨.v (.int .i64 y), [], []⟩
def impl_Chain.out (r : Ret κ) : Option Int :=
  match r with
  | ⟨.v (.int .i64 z0), [], []⟩ => some (z0)
  | _ => none
theorem impl_Chain.out_ok (r : Ret κ) (y : Int) (h : impl_Chain.out r = some y) : r = impl_Chain.g y := by
  unfold impl_Chain.out at h
  split at h
  · obtain rfl := Option.some.inj h
    rfl
  · cases h
def impl_Chain.body (k : Nat) (vs : List AV) (bs : List (Blk κ)) : Option (Lf κ) :=
  match vs, bs with
  | [.v (.sl 0), .v (.int .i64 a1), .v (.int .i64 a2)], [qb0] => (asO 6 false qb0).bind fun a0 => some ⟨Int, impl_Chain.f k a0 a1 a2, impl_Chain.g⟩
  | _, _ => none
def impl_Chain.C (k : Nat) : Nat → List AV → AP κ AV := contract impl_Chain.sig (impl_Chain.body k)
theorem impl_Chain.den (k : Nat) (a0 : List T_impl_Deed) (a1 : Int) (a2 : Int) : Code.den ti (impl_Chain.Γ k) (impl_Chain.LH k) (bodyOf Try.f19) (finK ti Try.f19.results.toList [] (flags impl_Chain.sig).length (rwI (flags impl_Chain.sig) 0) impl_Chain.out) ⟨envOf (([.v (.sl 0), .v (.int .i64 a1), .v (.int .i64 a2)]).zipIdx.map fun q => (q.2, q.1)), hpOf [.rows 6 false a0], (flags impl_Chain.sig).length⟩ = impl_Chain.f k a0 a1 a2 := by kernel_rfl
theorem impl_Chain.ok (k : Nat) : CSound Try.prog 19 (impl_Chain.C k) :=
  csound κ_ok mixed tok (impl_Chain.hΓ k) (LH := impl_Chain.LH k) (fn := Try.f19) (c := bodyOf Try.f19) Try.func19 rfl Try.call19 impl_Chain.sig [] (impl_Chain.body k) (by kernel_rfl) (impl_Chain.lok k) (by decide) fun vs bs lf y hl hb hy => by
    unfold impl_Chain.body at hb
    split at hb
    · obtain ⟨_, rfl, hb_1⟩ := asO_bind hb
      obtain rfl := Option.some.inj hb_1
      exact ⟨impl_Chain.out, impl_Chain.out_ok, (impl_Chain.den k _ _ _).trans hy⟩
    · cases hb
/-! ### laws_at -/
def laws_at.f (k : Nat) (a0 : List Int) (a1 : Int) : Option Int :=
  (bif decide (a1 < (a0.length : Int)) then (bif decide (0 ≤ a1) then (bif decide (a1 < (a0.length : Int)) then some (w64 ((rd_u8 a0 a1))) else none) else none) else some ((w64 ((w64 (a1 * (31 : Int))) + (w64 ((a0.length : Int) * (7 : Int))))).tmod (256 : Int)))
def laws_at.Γ (k : Nat) : Ct κ := assoc []
def laws_at.LH (k : Nat) : Nat → Option (LHi κ) := assoc []
theorem laws_at.hΓ (k : Nat) : ∀ f g, laws_at.Γ k f = some g → CSound Try.prog f g := G_nil
theorem laws_at.lok (k : Nat) : LOK ti (laws_at.Γ k) (laws_at.LH k) 1 (loopsOf (bodyOf Try.f20)) :=
  (show loopsOf (bodyOf Try.f20) = [] by kernel_rfl) ▸ LOK_nil
def laws_at.sig : List PSh := [.one (.ro 0), .one .sc]
def laws_at.g (y : Int) : Ret κ := ⟨.v (.int .i64 y), [], []⟩
def laws_at.out (r : Ret κ) : Option Int :=
  match r with
  | ⟨.v (.int .i64 z0), [], []⟩ => some (z0)
  | _ => none
theorem laws_at.out_ok (r : Ret κ) (y : Int) (h : laws_at.out r = some y) : r = laws_at.g y := by
  unfold laws_at.out at h
  split at h
  · obtain rfl := Option.some.inj h
    rfl
  · cases h
def laws_at.body (k : Nat) (vs : List AV) (bs : List (Blk κ)) : Option (Lf κ) :=
  match vs, bs with
  | [.v (.sl 0), .v (.int .i64 a1)], [qb0] => (asO 0 false qb0).bind fun a0 => some ⟨Int, laws_at.f k a0 a1, laws_at.g⟩
  | _, _ => none
def laws_at.C (k : Nat) : Nat → List AV → AP κ AV := contract laws_at.sig (laws_at.body k)
theorem laws_at.den (k : Nat) (a0 : List Int) (a1 : Int) : Code.den ti (laws_at.Γ k) (laws_at.LH k) (bodyOf Try.f20) (finK ti Try.f20.results.toList [] (flags laws_at.sig).length (rwI (flags laws_at.sig) 0) laws_at.out) ⟨envOf (([.v (.sl 0), .v (.int .i64 a1)]).zipIdx.map fun q => (q.2, q.1)), hpOf [.rows 0 false a0], (flags laws_at.sig).length⟩ = laws_at.f k a0 a1 := by kernel_rfl
theorem laws_at.ok (k : Nat) : CSound Try.prog 20 (laws_at.C k) :=
  csound κ_ok mixed tok (laws_at.hΓ k) (LH := laws_at.LH k) (fn := Try.f20) (c := bodyOf Try.f20) Try.func20 rfl Try.call20 laws_at.sig [] (laws_at.body k) (by kernel_rfl) (laws_at.lok k) (by decide) fun vs bs lf y hl hb hy => by
    unfold laws_at.body at hb
    split at hb
    · obtain ⟨_, rfl, hb_1⟩ := asO_bind hb
      obtain rfl := Option.some.inj hb_1
      exact ⟨laws_at.out, laws_at.out_ok, (laws_at.den k _ _).trans hy⟩
    · cases hb
end Go.Proofs.Ythingkcckjiniaa.PFnTransferred
