/- What the functions that the law FnExactUpdatePackage reaches come to; no conditions. -/
import Derived.Test.YtoenilndklbceaaGreatPFnExactUpdatePackage9
set_option linter.unusedVariables false
set_option maxRecDepth 100000
namespace Go.Proofs.YtoenilndklbceaaGreat.PFnExactUpdatePackage
open Go Go.Eng Go.Proofs
/-! ### laws_eqOpS -/
def laws_eqOpS.L4 {R : Type} (k : Nat) (xl0 : List T_impl_Op) (xl1 : List T_impl_Op) (X0 : Bool → Option R) (X1 : Unit → Option R) (rec : Int → Option R) (x2 : Int) : Option R :=
  (bif decide (x2 < (xl0.length : Int)) then (bif decide (0 ≤ x2) then (bif decide (x2 < (xl0.length : Int)) then (bif decide (0 ≤ x2) then (bif decide (x2 < (xl1.length : Int)) then (laws_eqOp.f k ((rd_impl_Op xl0 x2).f0) ((rd_impl_Op xl0 x2).f1) ((rd_impl_Op xl0 x2).f2) ((rd_impl_Op xl0 x2).f3) ((rd_impl_Op xl1 x2).f0) ((rd_impl_Op xl1 x2).f1) ((rd_impl_Op xl1 x2).f2) ((rd_impl_Op xl1 x2).f3)).bind fun t1 => (bif !t1 then (X0 false) else (rec (w64 (x2 + (1 : Int))))) else none) else none) else none) else none) else (X1 ()))
def laws_eqOpS.l4 {R : Type} (k : Nat) (xl0 : List T_impl_Op) (xl1 : List T_impl_Op) (X0 : Bool → Option R) (X1 : Unit → Option R) : Nat → Int → Option R
  | 0 => fun _ => none
  | n + 1 => laws_eqOpS.L4 k xl0 xl1 X0 X1 (laws_eqOpS.l4 k xl0 xl1 X0 X1 n)
def laws_eqOpS.f (k : Nat) (a0 : List T_impl_Op) (a1 : List T_impl_Op) : Option Bool :=
  (bif ((a0.length : Int) != (a1.length : Int)) then some false else (laws_eqOpS.l4 k a0 a1 (fun (y2 : Bool) => some y2) (fun (_ : Unit) => some true) k (0 : Int)))
def laws_eqOpS.h4 (k : Nat) {R : Type} (K : Ex → St κ → Option R) (vs : List AV) (bs : List (Blk κ)) : Option R :=
  match vs, bs with
  | [.v (.sl 0), .v (.sl 1), .v (.int .i64 x2)], [qb0, qb1] => (asO 7 false qb0).bind fun xl0 => (asO 7 false qb1).bind fun xl1 => laws_eqOpS.l4 k xl0 xl1 (fun (z0 : Bool) => K .ret (stOf [(4, [])] [.v (.bool z0)] [.rows 7 false xl0, .rows 7 false xl1])) (fun (_ : Unit) => K (.exit 0) (stOf [(4, [])] [.v .any] [.rows 7 false xl0, .rows 7 false xl1])) k x2
  | _, _ => none
def laws_eqOpS.Γ (k : Nat) : Ct κ := assoc [(117, laws_eqOp.C k)]
def laws_eqOpS.LH (k : Nat) : Nat → Option (LHi κ) := assoc [(4, ⟨2, [(0, [some 7]), (1, [some 7]), (5, [])], [(4, [])], @laws_eqOpS.h4 k⟩)]
theorem laws_eqOpS.hΓ (k : Nat) : ∀ f g, laws_eqOpS.Γ k f = some g → CSound Tryz.prog f g := G_cons (laws_eqOp.ok k) G_nil
theorem laws_eqOpS.e4 {R : Type} (K : Ex → St κ → Option R) (k : Nat) (xl0 : List T_impl_Op) (xl1 : List T_impl_Op) : ∀ (n : Nat) (x2 : Int), loopN 2 (Code.den ti (laws_eqOpS.Γ k) (laws_eqOpS.LH k) (loopAt Tryz.f58 0)) [(0, [some 7]), (1, [some 7]), (5, [])] [(4, [])] K n [.v (.sl 0), .v (.sl 1), .v (.int .i64 x2)] [.rows 7 false xl0, .rows 7 false xl1] = laws_eqOpS.l4 k xl0 xl1 (fun (z0 : Bool) => K .ret (stOf [(4, [])] [.v (.bool z0)] [.rows 7 false xl0, .rows 7 false xl1])) (fun (_ : Unit) => K (.exit 0) (stOf [(4, [])] [.v .any] [.rows 7 false xl0, .rows 7 false xl1])) n x2
  | 0, _ => rfl
  | n + 1, x2 => (show loopN 2 (Code.den ti (laws_eqOpS.Γ k) (laws_eqOpS.LH k) (loopAt Tryz.f58 0)) [(0, [some 7]), (1, [some 7]), (5, [])] [(4, [])] K (n + 1) [.v (.sl 0), .v (.sl 1), .v (.int .i64 x2)] [.rows 7 false xl0, .rows 7 false xl1] = laws_eqOpS.L4 k xl0 xl1 (fun (z0 : Bool) => K .ret (stOf [(4, [])] [.v (.bool z0)] [.rows 7 false xl0, .rows 7 false xl1])) (fun (_ : Unit) => K (.exit 0) (stOf [(4, [])] [.v .any] [.rows 7 false xl0, .rows 7 false xl1])) (fun (x2' : Int) => loopN 2 (Code.den ti (laws_eqOpS.Γ k) (laws_eqOpS.LH k) (loopAt Tryz.f58 0)) [(0, [some 7]), (1, [some 7]), (5, [])] [(4, [])] K n [.v (.sl 0), .v (.sl 1), .v (.int .i64 x2')] [.rows 7 false xl0, .rows 7 false xl1]) x2 by kernel_rfl).trans (congrArg (fun rec => laws_eqOpS.L4 k xl0 xl1 (fun (z0 : Bool) => K .ret (stOf [(4, [])] [.v (.bool z0)] [.rows 7 false xl0, .rows 7 false xl1])) (fun (_ : Unit) => K (.exit 0) (stOf [(4, [])] [.v .any] [.rows 7 false xl0, .rows 7 false xl1])) rec x2) (funext fun x2' => laws_eqOpS.e4 K k xl0 xl1 n x2'))
theorem laws_eqOpS.q4 (k : Nat) {R : Type} (K : Ex → St κ → Option R) (vs : List AV) (bs : List (Blk κ)) (r : R) (h : laws_eqOpS.h4 k K vs bs = some r) : ∃ n, loopN 2 (Code.den ti (laws_eqOpS.Γ k) (laws_eqOpS.LH k) (loopAt Tryz.f58 0)) [(0, [some 7]), (1, [some 7]), (5, [])] [(4, [])] K n vs bs = some r := by
  unfold laws_eqOpS.h4 at h
  split at h
  · obtain ⟨_, rfl, h_1⟩ := asO_bind h
    obtain ⟨_, rfl, h_2⟩ := asO_bind h_1
    exact ⟨k, (laws_eqOpS.e4 K k _ _ k _).trans h_2⟩
  · cases h
theorem laws_eqOpS.lok (k : Nat) : LOK ti (laws_eqOpS.Γ k) (laws_eqOpS.LH k) 2 (loopsOf (bodyOf Tryz.f58)) :=
  (show loopsOf (bodyOf Tryz.f58) = [loopAt Tryz.f58 0] by kernel_rfl) ▸ (LOK_cons (g := ⟨2, [(0, [some 7]), (1, [some 7]), (5, [])], [(4, [])], @laws_eqOpS.h4 k⟩) (by kernel_rfl) rfl (fun K vs xs r h => laws_eqOpS.q4 k K vs xs r h) (LOK_nil))
def laws_eqOpS.sig : List PSh := [.one (.ro 7), .one (.ro 7)]
def laws_eqOpS.g (y : Bool) : Ret κ := ⟨.v (.bool y), [], []⟩
def laws_eqOpS.out (r : Ret κ) : Option Bool :=
  match r with
  | ⟨.v (.bool z0), [], []⟩ => some (z0)
  | _ => none
theorem laws_eqOpS.out_ok (r : Ret κ) (y : Bool) (h : laws_eqOpS.out r = some y) : r = laws_eqOpS.g y := by
  unfold laws_eqOpS.out at h
  split at h
  · obtain rfl := Option.some.inj h
    rfl
  · cases h
def laws_eqOpS.body (k : Nat) (vs : List AV) (bs : List (Blk κ)) : Option (Lf κ) :=
  match vs, bs with
  | [.v (.sl 0), .v (.sl 1)], [qb0, qb1] => (asO 7 false qb0).bind fun a0 => (asO 7 false qb1).bind fun a1 => some ⟨Bool, laws_eqOpS.f k a0 a1, laws_eqOpS.g⟩
  | _, _ => none
def laws_eqOpS.C (k : Nat) : Nat → List AV → AP κ AV := contract laws_eqOpS.sig (laws_eqOpS.body k)
theorem laws_eqOpS.den (k : Nat) (a0 : List T_impl_Op) (a1 : List T_impl_Op) : Code.den ti (laws_eqOpS.Γ k) (laws_eqOpS.LH k) (bodyOf Tryz.f58) (finK ti Tryz.f58.results.toList [] (flags laws_eqOpS.sig).length (rwI (flags laws_eqOpS.sig) 0) laws_eqOpS.out) ⟨envOf (([.v (.sl 0), .v (.sl 1)]).zipIdx.map fun q => (q.2, q.1)), hpOf [.rows 7 false a0, .rows 7 false a1], (flags laws_eqOpS.sig).length⟩ = laws_eqOpS.f k a0 a1 := by kernel_rfl
theorem laws_eqOpS.ok (k : Nat) : CSound Tryz.prog 58 (laws_eqOpS.C k) :=
  csound κ_ok mixed tok (laws_eqOpS.hΓ k) (LH := laws_eqOpS.LH k) (fn := Tryz.f58) (c := bodyOf Tryz.f58) Tryz.func58 rfl Tryz.call58 laws_eqOpS.sig [] (laws_eqOpS.body k) (by kernel_rfl) (laws_eqOpS.lok k) (by decide) fun vs bs lf y hl hb hy => by
    unfold laws_eqOpS.body at hb
    split at hb
    · obtain ⟨_, rfl, hb_1⟩ := asO_bind hb
      obtain ⟨_, rfl, hb_2⟩ := asO_bind hb_1
      obtain rfl := Option.some.inj hb_2
      exact ⟨laws_eqOpS.out, laws_eqOpS.out_ok, (laws_eqOpS.den k _ _).trans hy⟩
    · cases hb
/-! ### laws_eqPackage -/
def laws_eqPackage.f (k : Nat) (a0_0 : Int) (a0_1 : Int) (a0_2 : Int) (a0_3 : List T_impl_Grant) (a0_4 : List T_impl_Flow) (a0_5 : List T_impl_Rule) (a0_6 : List T_impl_Op) (a0_7 : Int) (a1_0 : Int) (a1_1 : Int) (a1_2 : Int) (a1_3 : List T_impl_Grant) (a1_4 : List T_impl_Flow) (a1_5 : List T_impl_Rule) (a1_6 : List T_impl_Op) (a1_7 : Int) : Option Bool :=
  (bif (a0_0 != a1_0) then some false else (bif (a0_1 != a1_1) then some false else (bif (a0_2 != a1_2) then some false else (laws_eqGrantS.f k a0_3 a1_3).bind fun t1 => (bif !t1 then some false else (laws_eqFlowS.f k a0_4 a1_4).bind fun t2 => (bif !t2 then some false else (laws_eqRuleS.f k a0_5 a1_5).bind fun t3 => (bif !t3 then some false else (laws_eqOpS.f k a0_6 a1_6).bind fun t4 => (bif !t4 then some false else (bif (a0_7 != a1_7) then some false else some true))))))))
def laws_eqPackage.Γ (k : Nat) : Ct κ := assoc [(55, laws_eqGrantS.C k), (56, laws_eqFlowS.C k), (57, laws_eqRuleS.C k), (58, laws_eqOpS.C k)]
def laws_eqPackage.LH (k : Nat) : Nat → Option (LHi κ) := assoc []
theorem laws_eqPackage.hΓ (k : Nat) : ∀ f g, laws_eqPackage.Γ k f = some g → CSound Tryz.prog f g := G_cons (laws_eqGrantS.ok k) (G_cons (laws_eqFlowS.ok k) (G_cons (laws_eqRuleS.ok k) (G_cons (laws_eqOpS.ok k) G_nil)))
theorem laws_eqPackage.lok (k : Nat) : LOK ti (laws_eqPackage.Γ k) (laws_eqPackage.LH k) 8 (loopsOf (bodyOf Tryz.f16)) :=
  (show loopsOf (bodyOf Tryz.f16) = [] by kernel_rfl) ▸ LOK_nil
def laws_eqPackage.sig : List PSh := [.agg [.sc, .sc, .sc, .ro 4, .ro 5, .ro 6, .ro 7, .sc], .agg [.sc, .sc, .sc, .ro 4, .ro 5, .ro 6, .ro 7, .sc]]
def laws_eqPackage.g (y : Bool) : Ret κ := ⟨.v (.bool y), [], []⟩
def laws_eqPackage.out (r : Ret κ) : Option Bool :=
  match r with
  | ⟨.v (.bool z0), [], []⟩ => some (z0)
  | _ => none
theorem laws_eqPackage.out_ok (r : Ret κ) (y : Bool) (h : laws_eqPackage.out r = some y) : r = laws_eqPackage.g y := by
  unfold laws_eqPackage.out at h
  split at h
  · obtain rfl := Option.some.inj h
    rfl
  · cases h
def laws_eqPackage.body (k : Nat) (vs : List AV) (bs : List (Blk κ)) : Option (Lf κ) :=
  match vs, bs with
  | [.agg [.int .i64 a0_0, .int .i64 a0_1, .int .i64 a0_2, .sl 0, .sl 1, .sl 2, .sl 3, .int .i64 a0_7], .agg [.int .i64 a1_0, .int .i64 a1_1, .int .i64 a1_2, .sl 4, .sl 5, .sl 6, .sl 7, .int .i64 a1_7]], [qb0, qb1, qb2, qb3, qb4, qb5, qb6, qb7] => (asO 4 false qb0).bind fun a0_3 => (asO 5 false qb1).bind fun a0_4 => (asO 6 false qb2).bind fun a0_5 => (asO 7 false qb3).bind fun a0_6 => (asO 4 false qb4).bind fun a1_3 => (asO 5 false qb5).bind fun a1_4 => (asO 6 false qb6).bind fun a1_5 => (asO 7 false qb7).bind fun a1_6 => some ⟨Bool, laws_eqPackage.f k a0_0 a0_1 a0_2 a0_3 a0_4 a0_5 a0_6 a0_7 a1_0 a1_1 a1_2 a1_3 a1_4 a1_5 a1_6 a1_7, laws_eqPackage.g⟩
  | _, _ => none
def laws_eqPackage.C (k : Nat) : Nat → List AV → AP κ AV := contract laws_eqPackage.sig (laws_eqPackage.body k)
theorem laws_eqPackage.den (k : Nat) (a0_0 : Int) (a0_1 : Int) (a0_2 : Int) (a0_3 : List T_impl_Grant) (a0_4 : List T_impl_Flow) (a0_5 : List T_impl_Rule) (a0_6 : List T_impl_Op) (a0_7 : Int) (a1_0 : Int) (a1_1 : Int) (a1_2 : Int) (a1_3 : List T_impl_Grant) (a1_4 : List T_impl_Flow) (a1_5 : List T_impl_Rule) (a1_6 : List T_impl_Op) (a1_7 : Int) : Code.den ti (laws_eqPackage.Γ k) (laws_eqPackage.LH k) (bodyOf Tryz.f16) (finK ti Tryz.f16.results.toList [] (flags laws_eqPackage.sig).length (rwI (flags laws_eqPackage.sig) 0) laws_eqPackage.out) ⟨envOf (([.agg [.int .i64 a0_0, .int .i64 a0_1, .int .i64 a0_2, .sl 0, .sl 1, .sl 2, .sl 3, .int .i64 a0_7], .agg [.int .i64 a1_0, .int .i64 a1_1, .int .i64 a1_2, .sl 4, .sl 5, .sl 6, .sl 7, .int .i64 a1_7]]).zipIdx.map fun q => (q.2, q.1)), hpOf [.rows 4 false a0_3, .rows 5 false a0_4, .rows 6 false a0_5, .rows 7 false a0_6, .rows 4 false a1_3, .rows 5 false a1_4, .rows 6 false a1_5, .rows 7 false a1_6], (flags laws_eqPackage.sig).length⟩ = laws_eqPackage.f k a0_0 a0_1 a0_2 a0_3 a0_4 a0_5 a0_6 a0_7 a1_0 a1_1 a1_2 a1_3 a1_4 a1_5 a1_6 a1_7 := by kernel_rfl
theorem laws_eqPackage.ok (k : Nat) : CSound Tryz.prog 16 (laws_eqPackage.C k) :=
  csound κ_ok mixed tok (laws_eqPackage.hΓ k) (LH := laws_eqPackage.LH k) (fn := Tryz.f16) (c := bodyOf Tryz.f16) Tryz.func16 rfl Tryz.call16 laws_eqPackage.sig [] (laws_eqPackage.body k) (by kernel_rfl) (laws_eqPackage.lok k) (by decide) fun vs bs lf y hl hb hy => by
    unfold laws_eqPackage.body at hb
    split at hb
    · obtain ⟨_, rfl, hb_1⟩ := asO_bind hb
      obtain ⟨_, rfl, hb_2⟩ := asO_bind hb_1
      obtain ⟨_, rfl, hb_3⟩ := asO_bind hb_2
      obtain ⟨_, rfl, hb_4⟩ := asO_bind hb_3
      obtain ⟨_, rfl, hb_5⟩ := asO_bind hb_4
      obtain ⟨_, rfl, hb_6⟩ := asO_bind hb_5
      obtain ⟨_, rfl, hb_7⟩ := asO_bind hb_6
      obtain ⟨_, rfl, hb_8⟩ := asO_bind hb_7
      obtain rfl := Option.some.inj hb_8
      exact ⟨laws_eqPackage.out, laws_eqPackage.out_ok, (laws_eqPackage.den k _ _ _ _ _ _ _ _ _ _ _ _ _ _ _ _).trans hy⟩
    · cases hb
/-! ### laws_markGrantS -/
def laws_markGrantS.L2 {R : Type} (k : Nat) (X0 : Int → List T_impl_Grant → Option R) (rec : Int → Int → List T_impl_Grant → Option R) (x1 : Int) (x2 : Int) (xl0 : List T_impl_Grant) : Option R :=
  (bif decide (x2 < (xl0.length : Int)) then (bif decide (0 ≤ x2) then (bif decide (x2 < (xl0.length : Int)) then (let l1 : List T_impl_Grant := (xl0.set (x2).toNat (⟨x1, (⟨(rd_impl_Grant xl0 x2).f1.f0, (rd_impl_Grant xl0 x2).f1.f1⟩ : T_impl_Pattern), (rd_impl_Grant xl0 x2).f2, (rd_impl_Grant xl0 x2).f3, (rd_impl_Grant xl0 x2).f4, (rd_impl_Grant xl0 x2).f5⟩ : T_impl_Grant)); (bif decide (0 ≤ x2) then (bif decide (x2 < (l1.length : Int)) then (let l2 : List T_impl_Grant := (l1.set (x2).toNat (⟨(rd_impl_Grant l1 x2).f0, (⟨(w64 (x1 + (1 : Int))), (rd_impl_Grant l1 x2).f1.f1⟩ : T_impl_Pattern), (rd_impl_Grant l1 x2).f2, (rd_impl_Grant l1 x2).f3, (rd_impl_Grant l1 x2).f4, (rd_impl_Grant l1 x2).f5⟩ : T_impl_Grant)); (bif decide (0 ≤ x2) then (bif decide (x2 < (l2.length : Int)) then (let l3 : List T_impl_Grant := (l2.set (x2).toNat (⟨(rd_impl_Grant l2 x2).f0, (⟨(rd_impl_Grant l2 x2).f1.f0, (w64 ((w64 (x1 + (1 : Int))) + (1 : Int)))⟩ : T_impl_Pattern), (rd_impl_Grant l2 x2).f2, (rd_impl_Grant l2 x2).f3, (rd_impl_Grant l2 x2).f4, (rd_impl_Grant l2 x2).f5⟩ : T_impl_Grant)); (bif decide (0 ≤ x2) then (bif decide (x2 < (l3.length : Int)) then (let l4 : List T_impl_Grant := (l3.set (x2).toNat (⟨(rd_impl_Grant l3 x2).f0, (⟨(rd_impl_Grant l3 x2).f1.f0, (rd_impl_Grant l3 x2).f1.f1⟩ : T_impl_Pattern), (w64 ((w64 ((w64 (x1 + (1 : Int))) + (1 : Int))) + (1 : Int))), (rd_impl_Grant l3 x2).f3, (rd_impl_Grant l3 x2).f4, (rd_impl_Grant l3 x2).f5⟩ : T_impl_Grant)); (bif decide (0 ≤ x2) then (bif decide (x2 < (l4.length : Int)) then (let l5 : List T_impl_Grant := (l4.set (x2).toNat (⟨(rd_impl_Grant l4 x2).f0, (⟨(rd_impl_Grant l4 x2).f1.f0, (rd_impl_Grant l4 x2).f1.f1⟩ : T_impl_Pattern), (rd_impl_Grant l4 x2).f2, (w64 ((w64 ((w64 ((w64 (x1 + (1 : Int))) + (1 : Int))) + (1 : Int))) + (1 : Int))), (rd_impl_Grant l4 x2).f4, (rd_impl_Grant l4 x2).f5⟩ : T_impl_Grant)); (bif decide (0 ≤ x2) then (bif decide (x2 < (l5.length : Int)) then (let l6 : List T_impl_Grant := (l5.set (x2).toNat (⟨(rd_impl_Grant l5 x2).f0, (⟨(rd_impl_Grant l5 x2).f1.f0, (rd_impl_Grant l5 x2).f1.f1⟩ : T_impl_Pattern), (rd_impl_Grant l5 x2).f2, (rd_impl_Grant l5 x2).f3, (w64 ((w64 ((w64 ((w64 ((w64 (x1 + (1 : Int))) + (1 : Int))) + (1 : Int))) + (1 : Int))) + (1 : Int))), (rd_impl_Grant l5 x2).f5⟩ : T_impl_Grant)); (bif decide (0 ≤ x2) then (bif decide (x2 < (l6.length : Int)) then (let l7 : List T_impl_Grant := (l6.set (x2).toNat (⟨(rd_impl_Grant l6 x2).f0, (⟨(rd_impl_Grant l6 x2).f1.f0, (rd_impl_Grant l6 x2).f1.f1⟩ : T_impl_Pattern), (rd_impl_Grant l6 x2).f2, (rd_impl_Grant l6 x2).f3, (rd_impl_Grant l6 x2).f4, (((w64 ((w64 ((w64 ((w64 ((w64 ((w64 (x1 + (1 : Int))) + (1 : Int))) + (1 : Int))) + (1 : Int))) + (1 : Int))) + (1 : Int))).tmod (3 : Int)) == (0 : Int))⟩ : T_impl_Grant)); (rec (w64 ((w64 ((w64 ((w64 ((w64 ((w64 ((w64 (x1 + (1 : Int))) + (1 : Int))) + (1 : Int))) + (1 : Int))) + (1 : Int))) + (1 : Int))) + (1 : Int))) (w64 (x2 + (1 : Int))) l7)) else none) else none)) else none) else none)) else none) else none)) else none) else none)) else none) else none)) else none) else none)) else none) else none) else (X0 x1 xl0))
def laws_markGrantS.l2 {R : Type} (k : Nat) (X0 : Int → List T_impl_Grant → Option R) : Nat → Int → Int → List T_impl_Grant → Option R
  | 0 => fun _ _ _ => none
  | n + 1 => laws_markGrantS.L2 k X0 (laws_markGrantS.l2 k X0 n)
def laws_markGrantS.f (k : Nat) (a0 : List T_impl_Grant) (a1 : Int) : Option (Int × List T_impl_Grant) :=
  (laws_markGrantS.l2 k (fun (y8 : Int) (y9 : List T_impl_Grant) => some (y8, y9)) k a1 (0 : Int) a0)
def laws_markGrantS.h2 (k : Nat) {R : Type} (K : Ex → St κ → Option R) (vs : List AV) (bs : List (Blk κ)) : Option R :=
  match vs, bs with
  | [.v (.sl 0), .v (.int .i64 x1), .v (.int .i64 x2)], [qb0] => (asO 4 true qb0).bind fun xl0 => laws_markGrantS.l2 k (fun (z0 : Int) (zl0 : List T_impl_Grant) => K (.exit 0) (stOf [(1, [])] [.v (.int .i64 z0)] [.rows 4 true zl0])) k x1 x2 xl0
  | _, _ => none
def laws_markGrantS.Γ (k : Nat) : Ct κ := assoc []
def laws_markGrantS.LH (k : Nat) : Nat → Option (LHi κ) := assoc [(2, ⟨1, [(0, [some 4]), (1, []), (5, [])], [(1, [])], @laws_markGrantS.h2 k⟩)]
theorem laws_markGrantS.hΓ (k : Nat) : ∀ f g, laws_markGrantS.Γ k f = some g → CSound Tryz.prog f g := G_nil
theorem laws_markGrantS.e2 {R : Type} (K : Ex → St κ → Option R) (k : Nat) : ∀ (n : Nat) (x1 : Int) (x2 : Int) (xl0 : List T_impl_Grant), loopN 1 (Code.den ti (laws_markGrantS.Γ k) (laws_markGrantS.LH k) (loopAt Tryz.f61 0)) [(0, [some 4]), (1, []), (5, [])] [(1, [])] K n [.v (.sl 0), .v (.int .i64 x1), .v (.int .i64 x2)] [.rows 4 true xl0] = laws_markGrantS.l2 k (fun (z0 : Int) (zl0 : List T_impl_Grant) => K (.exit 0) (stOf [(1, [])] [.v (.int .i64 z0)] [.rows 4 true zl0])) n x1 x2 xl0
  | 0, _, _, _ => rfl
  | n + 1, x1, x2, xl0 => (show loopN 1 (Code.den ti (laws_markGrantS.Γ k) (laws_markGrantS.LH k) (loopAt Tryz.f61 0)) [(0, [some 4]), (1, []), (5, [])] [(1, [])] K (n + 1) [.v (.sl 0), .v (.int .i64 x1), .v (.int .i64 x2)] [.rows 4 true xl0] = laws_markGrantS.L2 k (fun (z0 : Int) (zl0 : List T_impl_Grant) => K (.exit 0) (stOf [(1, [])] [.v (.int .i64 z0)] [.rows 4 true zl0])) (fun (x1' : Int) (x2' : Int) (xl0' : List T_impl_Grant) => loopN 1 (Code.den ti (laws_markGrantS.Γ k) (laws_markGrantS.LH k) (loopAt Tryz.f61 0)) [(0, [some 4]), (1, []), (5, [])] [(1, [])] K n [.v (.sl 0), .v (.int .i64 x1'), .v (.int .i64 x2')] [.rows 4 true xl0']) x1 x2 xl0 by kernel_rfl).trans (congrArg (fun rec => laws_markGrantS.L2 k (fun (z0 : Int) (zl0 : List T_impl_Grant) => K (.exit 0) (stOf [(1, [])] [.v (.int .i64 z0)] [.rows 4 true zl0])) rec x1 x2 xl0) (funext fun x1' => funext fun x2' => funext fun xl0' => laws_markGrantS.e2 K k n x1' x2' xl0'))
theorem laws_markGrantS.q2 (k : Nat) {R : Type} (K : Ex → St κ → Option R) (vs : List AV) (bs : List (Blk κ)) (r : R) (h : laws_markGrantS.h2 k K vs bs = some r) : ∃ n, loopN 1 (Code.den ti (laws_markGrantS.Γ k) (laws_markGrantS.LH k) (loopAt Tryz.f61 0)) [(0, [some 4]), (1, []), (5, [])] [(1, [])] K n vs bs = some r := by
  unfold laws_markGrantS.h2 at h
  split at h
  · obtain ⟨_, rfl, h_1⟩ := asO_bind h
    exact ⟨k, (laws_markGrantS.e2 K k k _ _ _).trans h_1⟩
  · cases h
theorem laws_markGrantS.lok (k : Nat) : LOK ti (laws_markGrantS.Γ k) (laws_markGrantS.LH k) 1 (loopsOf (bodyOf Tryz.f61)) :=
  (show loopsOf (bodyOf Tryz.f61) = [loopAt Tryz.f61 0] by kernel_rfl) ▸ (LOK_cons (g := ⟨1, [(0, [some 4]), (1, []), (5, [])], [(1, [])], @laws_markGrantS.h2 k⟩) (by kernel_rfl) rfl (fun K vs xs r h => laws_markGrantS.q2 k K vs xs r h) (LOK_nil))
def laws_markGrantS.sig : List PSh := [.one (.rw 4), .one .sc]
def laws_markGrantS.g (y : Int × List T_impl_Grant) : Ret κ := ⟨.v (.int .i64 y.1), [.rows 4 true y.2], []⟩
def laws_markGrantS.out (r : Ret κ) : Option (Int × List T_impl_Grant) :=
  match r with
  | ⟨.v (.int .i64 z0), [q1], []⟩ => (asO 4 true q1).bind fun z1 => some (z0, z1)
  | _ => none
theorem laws_markGrantS.out_ok (r : Ret κ) (y : Int × List T_impl_Grant) (h : laws_markGrantS.out r = some y) : r = laws_markGrantS.g y := by
  unfold laws_markGrantS.out at h
  split at h
  · obtain ⟨_, rfl, h_1⟩ := asO_bind h
    obtain rfl := Option.some.inj h_1
    rfl
  · cases h
def laws_markGrantS.body (k : Nat) (vs : List AV) (bs : List (Blk κ)) : Option (Lf κ) :=
  match vs, bs with
  | [.v (.sl 0), .v (.int .i64 a1)], [qb0] => (asO 4 true qb0).bind fun a0 => some ⟨Int × List T_impl_Grant, laws_markGrantS.f k a0 a1, laws_markGrantS.g⟩
  | _, _ => none
def laws_markGrantS.C (k : Nat) : Nat → List AV → AP κ AV := contract laws_markGrantS.sig (laws_markGrantS.body k)
theorem laws_markGrantS.den (k : Nat) (a0 : List T_impl_Grant) (a1 : Int) : Code.den ti (laws_markGrantS.Γ k) (laws_markGrantS.LH k) (bodyOf Tryz.f61) (finK ti Tryz.f61.results.toList [] (flags laws_markGrantS.sig).length (rwI (flags laws_markGrantS.sig) 0) laws_markGrantS.out) ⟨envOf (([.v (.sl 0), .v (.int .i64 a1)]).zipIdx.map fun q => (q.2, q.1)), hpOf [.rows 4 true a0], (flags laws_markGrantS.sig).length⟩ = laws_markGrantS.f k a0 a1 := by kernel_rfl
theorem laws_markGrantS.ok (k : Nat) : CSound Tryz.prog 61 (laws_markGrantS.C k) :=
  csound κ_ok mixed tok (laws_markGrantS.hΓ k) (LH := laws_markGrantS.LH k) (fn := Tryz.f61) (c := bodyOf Tryz.f61) Tryz.func61 rfl Tryz.call61 laws_markGrantS.sig [] (laws_markGrantS.body k) (by kernel_rfl) (laws_markGrantS.lok k) (by decide) fun vs bs lf y hl hb hy => by
    unfold laws_markGrantS.body at hb
    split at hb
    · obtain ⟨_, rfl, hb_1⟩ := asO_bind hb
      obtain rfl := Option.some.inj hb_1
      exact ⟨laws_markGrantS.out, laws_markGrantS.out_ok, (laws_markGrantS.den k _ _).trans hy⟩
    · cases hb
/-! ### laws_markFlowS -/
def laws_markFlowS.L2 {R : Type} (k : Nat) (X0 : Int → List T_impl_Flow → Option R) (rec : Int → Int → List T_impl_Flow → Option R) (x1 : Int) (x2 : Int) (xl0 : List T_impl_Flow) : Option R :=
  (bif decide (x2 < (xl0.length : Int)) then (bif decide (0 ≤ x2) then (bif decide (x2 < (xl0.length : Int)) then (let l1 : List T_impl_Flow := (xl0.set (x2).toNat (⟨x1, (rd_impl_Flow xl0 x2).f1, (rd_impl_Flow xl0 x2).f2⟩ : T_impl_Flow)); (bif decide (0 ≤ x2) then (bif decide (x2 < (l1.length : Int)) then (let l2 : List T_impl_Flow := (l1.set (x2).toNat (⟨(rd_impl_Flow l1 x2).f0, (w64 (x1 + (1 : Int))), (rd_impl_Flow l1 x2).f2⟩ : T_impl_Flow)); (bif decide (0 ≤ x2) then (bif decide (x2 < (l2.length : Int)) then (let l3 : List T_impl_Flow := (l2.set (x2).toNat (⟨(rd_impl_Flow l2 x2).f0, (rd_impl_Flow l2 x2).f1, (w64 ((w64 (x1 + (1 : Int))) + (1 : Int)))⟩ : T_impl_Flow)); (rec (w64 ((w64 ((w64 (x1 + (1 : Int))) + (1 : Int))) + (1 : Int))) (w64 (x2 + (1 : Int))) l3)) else none) else none)) else none) else none)) else none) else none) else (X0 x1 xl0))
def laws_markFlowS.l2 {R : Type} (k : Nat) (X0 : Int → List T_impl_Flow → Option R) : Nat → Int → Int → List T_impl_Flow → Option R
  | 0 => fun _ _ _ => none
  | n + 1 => laws_markFlowS.L2 k X0 (laws_markFlowS.l2 k X0 n)
def laws_markFlowS.f (k : Nat) (a0 : List T_impl_Flow) (a1 : Int) : Option (Int × List T_impl_Flow) :=
  (laws_markFlowS.l2 k (fun (y4 : Int) (y5 : List T_impl_Flow) => some (y4, y5)) k a1 (0 : Int) a0)
def laws_markFlowS.h2 (k : Nat) {R : Type} (K : Ex → St κ → Option R) (vs : List AV) (bs : List (Blk κ)) : Option R :=
  match vs, bs with
  | [.v (.sl 0), .v (.int .i64 x1), .v (.int .i64 x2)], [qb0] => (asO 5 true qb0).bind fun xl0 => laws_markFlowS.l2 k (fun (z0 : Int) (zl0 : List T_impl_Flow) => K (.exit 0) (stOf [(1, [])] [.v (.int .i64 z0)] [.rows 5 true zl0])) k x1 x2 xl0
  | _, _ => none
def laws_markFlowS.Γ (k : Nat) : Ct κ := assoc []
def laws_markFlowS.LH (k : Nat) : Nat → Option (LHi κ) := assoc [(2, ⟨1, [(0, [some 5]), (1, []), (5, [])], [(1, [])], @laws_markFlowS.h2 k⟩)]
theorem laws_markFlowS.hΓ (k : Nat) : ∀ f g, laws_markFlowS.Γ k f = some g → CSound Tryz.prog f g := G_nil
theorem laws_markFlowS.e2 {R : Type} (K : Ex → St κ → Option R) (k : Nat) : ∀ (n : Nat) (x1 : Int) (x2 : Int) (xl0 : List T_impl_Flow), loopN 1 (Code.den ti (laws_markFlowS.Γ k) (laws_markFlowS.LH k) (loopAt Tryz.f62 0)) [(0, [some 5]), (1, []), (5, [])] [(1, [])] K n [.v (.sl 0), .v (.int .i64 x1), .v (.int .i64 x2)] [.rows 5 true xl0] = laws_markFlowS.l2 k (fun (z0 : Int) (zl0 : List T_impl_Flow) => K (.exit 0) (stOf [(1, [])] [.v (.int .i64 z0)] [.rows 5 true zl0])) n x1 x2 xl0
  | 0, _, _, _ => rfl
  | n + 1, x1, x2, xl0 => (show loopN 1 (Code.den ti (laws_markFlowS.Γ k) (laws_markFlowS.LH k) (loopAt Tryz.f62 0)) [(0, [some 5]), (1, []), (5, [])] [(1, [])] K (n + 1) [.v (.sl 0), .v (.int .i64 x1), .v (.int .i64 x2)] [.rows 5 true xl0] = laws_markFlowS.L2 k (fun (z0 : Int) (zl0 : List T_impl_Flow) => K (.exit 0) (stOf [(1, [])] [.v (.int .i64 z0)] [.rows 5 true zl0])) (fun (x1' : Int) (x2' : Int) (xl0' : List T_impl_Flow) => loopN 1 (Code.den ti (laws_markFlowS.Γ k) (laws_markFlowS.LH k) (loopAt Tryz.f62 0)) [(0, [some 5]), (1, []), (5, [])] [(1, [])] K n [.v (.sl 0), .v (.int .i64 x1'), .v (.int .i64 x2')] [.rows 5 true xl0']) x1 x2 xl0 by kernel_rfl).trans (congrArg (fun rec => laws_markFlowS.L2 k (fun (z0 : Int) (zl0 : List T_impl_Flow) => K (.exit 0) (stOf [(1, [])] [.v (.int .i64 z0)] [.rows 5 true zl0])) rec x1 x2 xl0) (funext fun x1' => funext fun x2' => funext fun xl0' => laws_markFlowS.e2 K k n x1' x2' xl0'))
theorem laws_markFlowS.q2 (k : Nat) {R : Type} (K : Ex → St κ → Option R) (vs : List AV) (bs : List (Blk κ)) (r : R) (h : laws_markFlowS.h2 k K vs bs = some r) : ∃ n, loopN 1 (Code.den ti (laws_markFlowS.Γ k) (laws_markFlowS.LH k) (loopAt Tryz.f62 0)) [(0, [some 5]), (1, []), (5, [])] [(1, [])] K n vs bs = some r := by
  unfold laws_markFlowS.h2 at h
  split at h
  · obtain ⟨_, rfl, h_1⟩ := asO_bind h
    exact ⟨k, (laws_markFlowS.e2 K k k _ _ _).trans h_1⟩
  · cases h
theorem laws_markFlowS.lok (k : Nat) : LOK ti (laws_markFlowS.Γ k) (laws_markFlowS.LH k) 1 (loopsOf (bodyOf Tryz.f62)) :=
  (show loopsOf (bodyOf Tryz.f62) = [loopAt Tryz.f62 0] by kernel_rfl) ▸ (LOK_cons (g := ⟨1, [(0, [some 5]), (1, []), (5, [])], [(1, [])], @laws_markFlowS.h2 k⟩) (by kernel_rfl) rfl (fun K vs xs r h => laws_markFlowS.q2 k K vs xs r h) (LOK_nil))
def laws_markFlowS.sig : List PSh := [.one (.rw 5), .one .sc]
def laws_markFlowS.g (y : Int × List T_impl_Flow) : Ret κ := ⟨.v (.int .i64 y.1), [.rows 5 true y.2], []⟩
def laws_markFlowS.out (r : Ret κ) : Option (Int × List T_impl_Flow) :=
  match r with
  | ⟨.v (.int .i64 z0), [q1], []⟩ => (asO 5 true q1).bind fun z1 => some (z0, z1)
  | _ => none
theorem laws_markFlowS.out_ok (r : Ret κ) (y : Int × List T_impl_Flow) (h : laws_markFlowS.out r = some y) : r = laws_markFlowS.g y := by
  unfold laws_markFlowS.out at h
  split at h
  · obtain ⟨_, rfl, h_1⟩ := asO_bind h
    obtain rfl := Option.some.inj h_1
    rfl
  · cases h
def laws_markFlowS.body (k : Nat) (vs : List AV) (bs : List (Blk κ)) : Option (Lf κ) :=
  match vs, bs with
  | [.v (.sl 0), .v (.int .i64 a1)], [qb0] => (asO 5 true qb0).bind fun a0 => some ⟨Int × List T_impl_Flow, laws_markFlowS.f k a0 a1, laws_markFlowS.g⟩
  | _, _ => none
def laws_markFlowS.C (k : Nat) : Nat → List AV → AP κ AV := contract laws_markFlowS.sig (laws_markFlowS.body k)
theorem laws_markFlowS.den (k : Nat) (a0 : List T_impl_Flow) (a1 : Int) : Code.den ti (laws_markFlowS.Γ k) (laws_markFlowS.LH k) (bodyOf Tryz.f62) (finK ti Tryz.f62.results.toList [] (flags laws_markFlowS.sig).length (rwI (flags laws_markFlowS.sig) 0) laws_markFlowS.out) ⟨envOf (([.v (.sl 0), .v (.int .i64 a1)]).zipIdx.map fun q => (q.2, q.1)), hpOf [.rows 5 true a0], (flags laws_markFlowS.sig).length⟩ = laws_markFlowS.f k a0 a1 := by kernel_rfl
theorem laws_markFlowS.ok (k : Nat) : CSound Tryz.prog 62 (laws_markFlowS.C k) :=
  csound κ_ok mixed tok (laws_markFlowS.hΓ k) (LH := laws_markFlowS.LH k) (fn := Tryz.f62) (c := bodyOf Tryz.f62) Tryz.func62 rfl Tryz.call62 laws_markFlowS.sig [] (laws_markFlowS.body k) (by kernel_rfl) (laws_markFlowS.lok k) (by decide) fun vs bs lf y hl hb hy => by
    unfold laws_markFlowS.body at hb
    split at hb
    · obtain ⟨_, rfl, hb_1⟩ := asO_bind hb
      obtain rfl := Option.some.inj hb_1
      exact ⟨laws_markFlowS.out, laws_markFlowS.out_ok, (laws_markFlowS.den k _ _).trans hy⟩
    · cases hb
/-! ### laws_markRuleS -/
def laws_markRuleS.L2 {R : Type} (k : Nat) (X0 : Int → List T_impl_Rule → Option R) (rec : Int → Int → List T_impl_Rule → Option R) (x1 : Int) (x2 : Int) (xl0 : List T_impl_Rule) : Option R :=
  (bif decide (x2 < (xl0.length : Int)) then (bif decide (0 ≤ x2) then (bif decide (x2 < (xl0.length : Int)) then (let l1 : List T_impl_Rule := (xl0.set (x2).toNat (⟨x1, (rd_impl_Rule xl0 x2).f1, (⟨(rd_impl_Rule xl0 x2).f2.f0, (rd_impl_Rule xl0 x2).f2.f1⟩ : T_impl_Pattern), (rd_impl_Rule xl0 x2).f3, (rd_impl_Rule xl0 x2).f4, (⟨(rd_impl_Rule xl0 x2).f5.f0, (rd_impl_Rule xl0 x2).f5.f1⟩ : T_impl_Site)⟩ : T_impl_Rule)); (bif decide (0 ≤ x2) then (bif decide (x2 < (l1.length : Int)) then (let l2 : List T_impl_Rule := (l1.set (x2).toNat (⟨(rd_impl_Rule l1 x2).f0, (w64 (x1 + (1 : Int))), (⟨(rd_impl_Rule l1 x2).f2.f0, (rd_impl_Rule l1 x2).f2.f1⟩ : T_impl_Pattern), (rd_impl_Rule l1 x2).f3, (rd_impl_Rule l1 x2).f4, (⟨(rd_impl_Rule l1 x2).f5.f0, (rd_impl_Rule l1 x2).f5.f1⟩ : T_impl_Site)⟩ : T_impl_Rule)); (bif decide (0 ≤ x2) then (bif decide (x2 < (l2.length : Int)) then (let l3 : List T_impl_Rule := (l2.set (x2).toNat (⟨(rd_impl_Rule l2 x2).f0, (rd_impl_Rule l2 x2).f1, (⟨(w64 ((w64 (x1 + (1 : Int))) + (1 : Int))), (rd_impl_Rule l2 x2).f2.f1⟩ : T_impl_Pattern), (rd_impl_Rule l2 x2).f3, (rd_impl_Rule l2 x2).f4, (⟨(rd_impl_Rule l2 x2).f5.f0, (rd_impl_Rule l2 x2).f5.f1⟩ : T_impl_Site)⟩ : T_impl_Rule)); (bif decide (0 ≤ x2) then (bif decide (x2 < (l3.length : Int)) then (let l4 : List T_impl_Rule := (l3.set (x2).toNat (⟨(rd_impl_Rule l3 x2).f0, (rd_impl_Rule l3 x2).f1, (⟨(rd_impl_Rule l3 x2).f2.f0, (w64 ((w64 ((w64 (x1 + (1 : Int))) + (1 : Int))) + (1 : Int)))⟩ : T_impl_Pattern), (rd_impl_Rule l3 x2).f3, (rd_impl_Rule l3 x2).f4, (⟨(rd_impl_Rule l3 x2).f5.f0, (rd_impl_Rule l3 x2).f5.f1⟩ : T_impl_Site)⟩ : T_impl_Rule)); (bif decide (0 ≤ x2) then (bif decide (x2 < (l4.length : Int)) then (let l5 : List T_impl_Rule := (l4.set (x2).toNat (⟨(rd_impl_Rule l4 x2).f0, (rd_impl_Rule l4 x2).f1, (⟨(rd_impl_Rule l4 x2).f2.f0, (rd_impl_Rule l4 x2).f2.f1⟩ : T_impl_Pattern), (w64 ((w64 ((w64 ((w64 (x1 + (1 : Int))) + (1 : Int))) + (1 : Int))) + (1 : Int))), (rd_impl_Rule l4 x2).f4, (⟨(rd_impl_Rule l4 x2).f5.f0, (rd_impl_Rule l4 x2).f5.f1⟩ : T_impl_Site)⟩ : T_impl_Rule)); (bif decide (0 ≤ x2) then (bif decide (x2 < (l5.length : Int)) then (let l6 : List T_impl_Rule := (l5.set (x2).toNat (⟨(rd_impl_Rule l5 x2).f0, (rd_impl_Rule l5 x2).f1, (⟨(rd_impl_Rule l5 x2).f2.f0, (rd_impl_Rule l5 x2).f2.f1⟩ : T_impl_Pattern), (rd_impl_Rule l5 x2).f3, (w64 ((w64 ((w64 ((w64 ((w64 (x1 + (1 : Int))) + (1 : Int))) + (1 : Int))) + (1 : Int))) + (1 : Int))), (⟨(rd_impl_Rule l5 x2).f5.f0, (rd_impl_Rule l5 x2).f5.f1⟩ : T_impl_Site)⟩ : T_impl_Rule)); (bif decide (0 ≤ x2) then (bif decide (x2 < (l6.length : Int)) then (let l7 : List T_impl_Rule := (l6.set (x2).toNat (⟨(rd_impl_Rule l6 x2).f0, (rd_impl_Rule l6 x2).f1, (⟨(rd_impl_Rule l6 x2).f2.f0, (rd_impl_Rule l6 x2).f2.f1⟩ : T_impl_Pattern), (rd_impl_Rule l6 x2).f3, (rd_impl_Rule l6 x2).f4, (⟨(w64 ((w64 ((w64 ((w64 ((w64 ((w64 (x1 + (1 : Int))) + (1 : Int))) + (1 : Int))) + (1 : Int))) + (1 : Int))) + (1 : Int))), (rd_impl_Rule l6 x2).f5.f1⟩ : T_impl_Site)⟩ : T_impl_Rule)); (bif decide (0 ≤ x2) then (bif decide (x2 < (l7.length : Int)) then (let l8 : List T_impl_Rule := (l7.set (x2).toNat (⟨(rd_impl_Rule l7 x2).f0, (rd_impl_Rule l7 x2).f1, (⟨(rd_impl_Rule l7 x2).f2.f0, (rd_impl_Rule l7 x2).f2.f1⟩ : T_impl_Pattern), (rd_impl_Rule l7 x2).f3, (rd_impl_Rule l7 x2).f4, (⟨(rd_impl_Rule l7 x2).f5.f0, (w64 ((w64 ((w64 ((w64 ((w64 ((w64 ((w64 (x1 + (1 : Int))) + (1 : Int))) + (1 : Int))) + (1 : Int))) + (1 : Int))) + (1 : Int))) + (1 : Int)))⟩ : T_impl_Site)⟩ : T_impl_Rule)); (rec (w64 ((w64 ((w64 ((w64 ((w64 ((w64 ((w64 ((w64 (x1 + (1 : Int))) + (1 : Int))) + (1 : Int))) + (1 : Int))) + (1 : Int))) + (1 : Int))) + (1 : Int))) + (1 : Int))) (w64 (x2 + (1 : Int))) l8)) else none) else none)) else none) else none)) else none) else none)) else none) else none)) else none) else none)) else none) else none)) else none) else none)) else none) else none) else (X0 x1 xl0))
def laws_markRuleS.l2 {R : Type} (k : Nat) (X0 : Int → List T_impl_Rule → Option R) : Nat → Int → Int → List T_impl_Rule → Option R
  | 0 => fun _ _ _ => none
  | n + 1 => laws_markRuleS.L2 k X0 (laws_markRuleS.l2 k X0 n)
def laws_markRuleS.f (k : Nat) (a0 : List T_impl_Rule) (a1 : Int) : Option (Int × List T_impl_Rule) :=
  (laws_markRuleS.l2 k (fun (y9 : Int) (y10 : List T_impl_Rule) => some (y9, y10)) k a1 (0 : Int) a0)
def laws_markRuleS.h2 (k : Nat) {R : Type} (K : Ex → St κ → Option R) (vs : List AV) (bs : List (Blk κ)) : Option R :=
  match vs, bs with
  | [.v (.sl 0), .v (.int .i64 x1), .v (.int .i64 x2)], [qb0] => (asO 6 true qb0).bind fun xl0 => laws_markRuleS.l2 k (fun (z0 : Int) (zl0 : List T_impl_Rule) => K (.exit 0) (stOf [(1, [])] [.v (.int .i64 z0)] [.rows 6 true zl0])) k x1 x2 xl0
  | _, _ => none
def laws_markRuleS.Γ (k : Nat) : Ct κ := assoc []
def laws_markRuleS.LH (k : Nat) : Nat → Option (LHi κ) := assoc [(2, ⟨1, [(0, [some 6]), (1, []), (5, [])], [(1, [])], @laws_markRuleS.h2 k⟩)]
theorem laws_markRuleS.hΓ (k : Nat) : ∀ f g, laws_markRuleS.Γ k f = some g → CSound Tryz.prog f g := G_nil
theorem laws_markRuleS.e2 {R : Type} (K : Ex → St κ → Option R) (k : Nat) : ∀ (n : Nat) (x1 : Int) (x2 : Int) (xl0 : List T_impl_Rule), loopN 1 (Code.den ti (laws_markRuleS.Γ k) (laws_markRuleS.LH k) (loopAt Tryz.f63 0)) [(0, [some 6]), (1, []), (5, [])] [(1, [])] K n [.v (.sl 0), .v (.int .i64 x1), .v (.int .i64 x2)] [.rows 6 true xl0] = laws_markRuleS.l2 k (fun (z0 : Int) (zl0 : List T_impl_Rule) => K (.exit 0) (stOf [(1, [])] [.v (.int .i64 z0)] [.rows 6 true zl0])) n x1 x2 xl0
  | 0, _, _, _ => rfl
  | n + 1, x1, x2, xl0 => (show loopN 1 (Code.den ti (laws_markRuleS.Γ k) (laws_markRuleS.LH k) (loopAt Tryz.f63 0)) [(0, [some 6]), (1, []), (5, [])] [(1, [])] K (n + 1) [.v (.sl 0), .v (.int .i64 x1), .v (.int .i64 x2)] [.rows 6 true xl0] = laws_markRuleS.L2 k (fun (z0 : Int) (zl0 : List T_impl_Rule) => K (.exit 0) (stOf [(1, [])] [.v (.int .i64 z0)] [.rows 6 true zl0])) (fun (x1' : Int) (x2' : Int) (xl0' : List T_impl_Rule) => loopN 1 (Code.den ti (laws_markRuleS.Γ k) (laws_markRuleS.LH k) (loopAt Tryz.f63 0)) [(0, [some 6]), (1, []), (5, [])] [(1, [])] K n [.v (.sl 0), .v (.int .i64 x1'), .v (.int .i64 x2')] [.rows 6 true xl0']) x1 x2 xl0 by kernel_rfl).trans (congrArg (fun rec => laws_markRuleS.L2 k (fun (z0 : Int) (zl0 : List T_impl_Rule) => K (.exit 0) (stOf [(1, [])] [.v (.int .i64 z0)] [.rows 6 true zl0])) rec x1 x2 xl0) (funext fun x1' => funext fun x2' => funext fun xl0' => laws_markRuleS.e2 K k n x1' x2' xl0'))
theorem laws_markRuleS.q2 (k : Nat) {R : Type} (K : Ex → St κ → Option R) (vs : List AV) (bs : List (Blk κ)) (r : R) (h : laws_markRuleS.h2 k K vs bs = some r) : ∃ n, loopN 1 (Code.den ti (laws_markRuleS.Γ k) (laws_markRuleS.LH k) (loopAt Tryz.f63 0)) [(0, [some 6]), (1, []), (5, [])] [(1, [])] K n vs bs = some r := by
  unfold laws_markRuleS.h2 at h
  split at h
  · obtain ⟨_, rfl, h_1⟩ := asO_bind h
    exact ⟨k, (laws_markRuleS.e2 K k k _ _ _).trans h_1⟩
  · cases h
theorem laws_markRuleS.lok (k : Nat) : LOK ti (laws_markRuleS.Γ k) (laws_markRuleS.LH k) 1 (loopsOf (bodyOf Tryz.f63)) :=
  (show loopsOf (bodyOf Tryz.f63) = [loopAt Tryz.f63 0] by kernel_rfl) ▸ (LOK_cons (g := ⟨1, [(0, [some 6]), (1, []), (5, [])], [(1, [])], @laws_markRuleS.h2 k⟩) (by kernel_rfl) rfl (fun K vs xs r h => laws_markRuleS.q2 k K vs xs r h) (LOK_nil))
def laws_markRuleS.sig : List PSh := [.one (.rw 6), .one .sc]
def laws_markRuleS.g (y : Int × List T_impl_Rule) : Ret κ := ⟨.v (.int .i64 y.1), [.rows 6 true y.2], []⟩
def laws_markRuleS.out (r : Ret κ) : Option (Int × List T_impl_Rule) :=
  match r with
  | ⟨.v (.int .i64 z0), [q1], []⟩ => (asO 6 true q1).bind fun z1 => some (z0, z1)
  | _ => none
theorem laws_markRuleS.out_ok (r : Ret κ) (y : Int × List T_impl_Rule) (h : laws_markRuleS.out r = some y) : r = laws_markRuleS.g y := by
  unfold laws_markRuleS.out at h
  split at h
  · obtain ⟨_, rfl, h_1⟩ := asO_bind h
    obtain rfl := Option.some.inj h_1
    rfl
  · cases h
def laws_markRuleS.body (k : Nat) (vs : List AV) (bs : List (Blk κ)) : Option (Lf κ) :=
  match vs, bs with
  | [.v (.sl 0), .v (.int .i64 a1)], [qb0] => (asO 6 true qb0).bind fun a0 => some ⟨Int × List T_impl_Rule, laws_markRuleS.f k a0 a1, laws_markRuleS.g⟩
  | _, _ => none
def laws_markRuleS.C (k : Nat) : Nat → List AV → AP κ AV := contract laws_markRuleS.sig (laws_markRuleS.body k)
theorem laws_markRuleS.den (k : Nat) (a0 : List T_impl_Rule) (a1 : Int) : Code.den ti (laws_markRuleS.Γ k) (laws_markRuleS.LH k) (bodyOf Tryz.f63) (finK ti Tryz.f63.results.toList [] (flags laws_markRuleS.sig).length (rwI (flags laws_markRuleS.sig) 0) laws_markRuleS.out) ⟨envOf (([.v (.sl 0), .v (.int .i64 a1)]).zipIdx.map fun q => (q.2, q.1)), hpOf [.rows 6 true a0], (flags laws_markRuleS.sig).length⟩ = laws_markRuleS.f k a0 a1 := by kernel_rfl
theorem laws_markRuleS.ok (k : Nat) : CSound Tryz.prog 63 (laws_markRuleS.C k) :=
  csound κ_ok mixed tok (laws_markRuleS.hΓ k) (LH := laws_markRuleS.LH k) (fn := Tryz.f63) (c := bodyOf Tryz.f63) Tryz.func63 rfl Tryz.call63 laws_markRuleS.sig [] (laws_markRuleS.body k) (by kernel_rfl) (laws_markRuleS.lok k) (by decide) fun vs bs lf y hl hb hy => by
    unfold laws_markRuleS.body at hb
    split at hb
    · obtain ⟨_, rfl, hb_1⟩ := asO_bind hb
      obtain rfl := Option.some.inj hb_1
      exact ⟨laws_markRuleS.out, laws_markRuleS.out_ok, (laws_markRuleS.den k _ _).trans hy⟩
    · cases hb
/-! ### laws_markOpS -/
def laws_markOpS.L2 {R : Type} (k : Nat) (X0 : Int → List T_impl_Op → Option R) (rec : Int → Int → List T_impl_Op → Option R) (x1 : Int) (x2 : Int) (xl0 : List T_impl_Op) : Option R :=
  (bif decide (x2 < (xl0.length : Int)) then (bif decide (0 ≤ x2) then (bif decide (x2 < (xl0.length : Int)) then (let l1 : List T_impl_Op := (xl0.set (x2).toNat (⟨x1, (rd_impl_Op xl0 x2).f1, (rd_impl_Op xl0 x2).f2, (rd_impl_Op xl0 x2).f3⟩ : T_impl_Op)); (bif decide (0 ≤ x2) then (bif decide (x2 < (l1.length : Int)) then (let l2 : List T_impl_Op := (l1.set (x2).toNat (⟨(rd_impl_Op l1 x2).f0, (w64 (x1 + (1 : Int))), (rd_impl_Op l1 x2).f2, (rd_impl_Op l1 x2).f3⟩ : T_impl_Op)); (bif decide (0 ≤ x2) then (bif decide (x2 < (l2.length : Int)) then (let l3 : List T_impl_Op := (l2.set (x2).toNat (⟨(rd_impl_Op l2 x2).f0, (rd_impl_Op l2 x2).f1, (w64 ((w64 (x1 + (1 : Int))) + (1 : Int))), (rd_impl_Op l2 x2).f3⟩ : T_impl_Op)); (bif decide (0 ≤ x2) then (bif decide (x2 < (l3.length : Int)) then (let l4 : List T_impl_Op := (l3.set (x2).toNat (⟨(rd_impl_Op l3 x2).f0, (rd_impl_Op l3 x2).f1, (rd_impl_Op l3 x2).f2, (w64 ((w64 ((w64 (x1 + (1 : Int))) + (1 : Int))) + (1 : Int)))⟩ : T_impl_Op)); (rec (w64 ((w64 ((w64 ((w64 (x1 + (1 : Int))) + (1 : Int))) + (1 : Int))) + (1 : Int))) (w64 (x2 + (1 : Int))) l4)) else none) else none)) else none) else none)) else none) else none)) else none) else none) else (X0 x1 xl0))
def laws_markOpS.l2 {R : Type} (k : Nat) (X0 : Int → List T_impl_Op → Option R) : Nat → Int → Int → List T_impl_Op → Option R
  | 0 => fun _ _ _ => none
  | n + 1 => laws_markOpS.L2 k X0 (laws_markOpS.l2 k X0 n)
def laws_markOpS.f (k : Nat) (a0 : List T_impl_Op) (a1 : Int) : Option (Int × List T_impl_Op) :=
  (laws_markOpS.l2 k (fun (y5 : Int) (y6 : List T_impl_Op) => some (y5, y6)) k a1 (0 : Int) a0)
def laws_markOpS.h2 (k : Nat) {R : Type} (K : Ex → St κ → Option R) (vs : List AV) (bs : List (Blk κ)) : Option R :=
  match vs, bs with
  | [.v (.sl 0), .v (.int .i64 x1), .v (.int .i64 x2)], [qb0] => (asO 7 true qb0).bind fun xl0 => laws_markOpS.l2 k (fun (z0 : Int) (zl0 : List T_impl_Op) => K (.exit 0) (stOf [(1, [])] [.v (.int .i64 z0)] [.rows 7 true zl0])) k x1 x2 xl0
  | _, _ => none
def laws_markOpS.Γ (k : Nat) : Ct κ := assoc []
def laws_markOpS.LH (k : Nat) : Nat → Option (LHi κ) := assoc [(2, ⟨1, [(0, [some 7]), (1, []), (5, [])], [(1, [])], @laws_markOpS.h2 k⟩)]
theorem laws_markOpS.hΓ (k : Nat) : ∀ f g, laws_markOpS.Γ k f = some g → CSound Tryz.prog f g := G_nil
theorem laws_markOpS.e2 {R : Type} (K : Ex → St κ → Option R) (k : Nat) : ∀ (n : Nat) (x1 : Int) (x2 : Int) (xl0 : List T_impl_Op), loopN 1 (Code.den ti (laws_markOpS.Γ k) (laws_markOpS.LH k) (loopAt Tryz.f64 0)) [(0, [some 7]), (1, []), (5, [])] [(1, [])] K n [.v (.sl 0), .v (.int .i64 x1), .v (.int .i64 x2)] [.rows 7 true xl0] = laws_markOpS.l2 k (fun (z0 : Int) (zl0 : List T_impl_Op) => K (.exit 0) (stOf [(1, [])] [.v (.int .i64 z0)] [.rows 7 true zl0])) n x1 x2 xl0
  | 0, _, _, _ => rfl
  | n + 1, x1, x2, xl0 => (show loopN 1 (Code.den ti (laws_markOpS.Γ k) (laws_markOpS.LH k) (loopAt Tryz.f64 0)) [(0, [some 7]), (1, []), (5, [])] [(1, [])] K (n + 1) [.v (.sl 0), .v (.int .i64 x1), .v (.int .i64 x2)] [.rows 7 true xl0] = laws_markOpS.L2 k (fun (z0 : Int) (zl0 : List T_impl_Op) => K (.exit 0) (stOf [(1, [])] [.v (.int .i64 z0)] [.rows 7 true zl0])) (fun (x1' : Int) (x2' : Int) (xl0' : List T_impl_Op) => loopN 1 (Code.den ti (laws_markOpS.Γ k) (laws_markOpS.LH k) (loopAt Tryz.f64 0)) [(0, [some 7]), (1, []), (5, [])] [(1, [])] K n [.v (.sl 0), .v (.int .i64 x1'), .v (.int .i64 x2')] [.rows 7 true xl0']) x1 x2 xl0 by kernel_rfl).trans (congrArg (fun rec => laws_markOpS.L2 k (fun (z0 : Int) (zl0 : List T_impl_Op) => K (.exit 0) (stOf [(1, [])] [.v (.int .i64 z0)] [.rows 7 true zl0])) rec x1 x2 xl0) (funext fun x1' => funext fun x2' => funext fun xl0' => laws_markOpS.e2 K k n x1' x2' xl0'))
theorem laws_markOpS.q2 (k : Nat) {R : Type} (K : Ex → St κ → Option R) (vs : List AV) (bs : List (Blk κ)) (r : R) (h : laws_markOpS.h2 k K vs bs = some r) : ∃ n, loopN 1 (Code.den ti (laws_markOpS.Γ k) (laws_markOpS.LH k) (loopAt Tryz.f64 0)) [(0, [some 7]), (1, []), (5, [])] [(1, [])] K n vs bs = some r := by
  unfold laws_markOpS.h2 at h
  split at h
  · obtain ⟨_, rfl, h_1⟩ := asO_bind h
    exact ⟨k, (laws_markOpS.e2 K k k _ _ _).trans h_1⟩
  · cases h
theorem laws_markOpS.lok (k : Nat) : LOK ti (laws_markOpS.Γ k) (laws_markOpS.LH k) 1 (loopsOf (bodyOf Tryz.f64)) :=
  (show loopsOf (bodyOf Tryz.f64) = [loopAt Tryz.f64 0] by kernel_rfl) ▸ (LOK_cons (g := ⟨1, [(0, [some 7]), (1, []), (5, [])], [(1, [])], @laws_markOpS.h2 k⟩) (by kernel_rfl) rfl (fun K vs xs r h => laws_markOpS.q2 k K vs xs r h) (LOK_nil))
def laws_markOpS.sig : List PSh := [.one (.rw 7), .one .sc]
def laws_markOpS.g (y : Int × List T_impl_Op) : Ret κ := ⟨.v (.int .i64 y.1), [.rows 7 true y.2], []⟩
def laws_markOpS.out (r : Ret κ) : Option (Int × List T_impl_Op) :=
  match r with
  | ⟨.v (.int .i64 z0), [q1], []⟩ => (asO 7 true q1).bind fun z1 => some (z0, z1)
  | _ => none
theorem laws_markOpS.out_ok (r : Ret κ) (y : Int × List T_impl_Op) (h : laws_markOpS.out r = some y) : r = laws_markOpS.g y := by
  unfold laws_markOpS.out at h
  split at h
  · obtain ⟨_, rfl, h_1⟩ := asO_bind h
    obtain rfl := Option.some.inj h_1
    rfl
  · cases h
def laws_markOpS.body (k : Nat) (vs : List AV) (bs : List (Blk κ)) : Option (Lf κ) :=
  match vs, bs with
  | [.v (.sl 0), .v (.int .i64 a1)], [qb0] => (asO 7 true qb0).bind fun a0 => some ⟨Int × List T_impl_Op, laws_markOpS.f k a0 a1, laws_markOpS.g⟩
  | _, _ => none
def laws_markOpS.C (k : Nat) : Nat → List AV → AP κ AV := contract laws_markOpS.sig (laws_markOpS.body k)
theorem laws_markOpS.den (k : Nat) (a0 : List T_impl_Op) (a1 : Int) : Code.den ti (laws_markOpS.Γ k) (laws_markOpS.LH k) (bodyOf Tryz.f64) (finK ti Tryz.f64.results.toList [] (flags laws_markOpS.sig).length (rwI (flags laws_markOpS.sig) 0) laws_markOpS.out) ⟨envOf (([.v (.sl 0), .v (.int .i64 a1)]).zipIdx.map fun q => (q.2, q.1)), hpOf [.rows 7 true a0], (flags laws_markOpS.sig).length⟩ = laws_markOpS.f k a0 a1 := by kernel_rfl
theorem laws_markOpS.ok (k : Nat) : CSound Tryz.prog 64 (laws_markOpS.C k) :=
  csound κ_ok mixed tok (laws_markOpS.hΓ k) (LH := laws_markOpS.LH k) (fn := Tryz.f64) (c := bodyOf Tryz.f64) Tryz.func64 rfl Tryz.call64 laws_markOpS.sig [] (laws_markOpS.body k) (by kernel_rfl) (laws_markOpS.lok k) (by decide) fun vs bs lf y hl hb hy => by
    unfold laws_markOpS.body at hb
    split at hb
    · obtain ⟨_, rfl, hb_1⟩ := asO_bind hb
      obtain rfl := Option.some.inj hb_1
      exact ⟨laws_markOpS.out, laws_markOpS.out_ok, (laws_markOpS.den k _ _).trans hy⟩
    · cases hb
/-! ### laws_markPackage -/
def laws_markPackage.f (k : Nat) (a0_0 : Int) (a0_1 : Int) (a0_2 : Int) (a0_3 : List T_impl_Grant) (a0_4 : List T_impl_Flow) (a0_5 : List T_impl_Rule) (a0_6 : List T_impl_Op) (a0_7 : Int) (a1 : Int) : Option (Int × List T_impl_Grant × List T_impl_Flow × List T_impl_Rule × List T_impl_Op) :=
  (laws_markGrantS.f k a0_3 a1).bind fun t1 => (laws_markFlowS.f k a0_4 t1.1).bind fun t2 => (laws_markRuleS.f k a0_5 t2.1).bind fun t3 => (laws_markOpS.f k a0_6 t3.1).bind fun t4 => some (t4.1, t1.2, t2.2, t3.2, t4.2)
def laws_markPackage.Γ (k : Nat) : Ct κ := assoc [(61, laws_markGrantS.C k), (62, laws_markFlowS.C k), (63, laws_markRuleS.C k), (64, laws_markOpS.C k)]
def laws_markPackage.LH (k : Nat) : Nat → Option (LHi κ) := assoc []
theorem laws_markPackage.hΓ (k : Nat) : ∀ f g, laws_markPackage.Γ k f = some g → CSound Tryz.prog f g := G_cons (laws_markGrantS.ok k) (G_cons (laws_markFlowS.ok k) (G_cons (laws_markRuleS.ok k) (G_cons (laws_markOpS.ok k) G_nil)))
theorem laws_markPackage.lok (k : Nat) : LOK ti (laws_markPackage.Γ k) (laws_markPackage.LH k) 4 (loopsOf (bodyOf Tryz.f19)) :=
  (show loopsOf (bodyOf Tryz.f19) = [] by kernel_rfl) ▸ LOK_nil
def laws_markPackage.sig : List PSh := [.agg [.sc, .sc, .sc, .rw 4, .rw 5, .rw 6, .rw 7, .sc], .one .sc]
def laws_markPackage.g (y : Int × List T_impl_Grant × List T_impl_Flow × List T_impl_Rule × List T_impl_Op) : Ret κ := ⟨.v (.int .i64 y.1), [.rows 4 true y.2.1, .rows 5 true y.2.2.1, .rows 6 true y.2.2.2.1, .rows 7 true y.2.2.2.2], []⟩
def laws_markPackage.out (r : Ret κ) : Option (Int × List T_impl_Grant × List T_impl_Flow × List T_impl_Rule × List T_impl_Op) :=
  match r with
  | ⟨.v (.int .i64 z0), [q1, q2, q3, q4], []⟩ => (asO 4 true q1).bind fun z1 => (asO 5 true q2).bind fun z2 => (asO 6 true q3).bind fun z3 => (asO 7 true q4).bind fun z4 => some (z0, z1, z2, z3, z4)
  | _ => none
theorem laws_markPackage.out_ok (r : Ret κ) (y : Int × List T_impl_Grant × List T_impl_Flow × List T_impl_Rule × List T_impl_Op) (h : laws_markPackage.out r = some y) : r = laws_markPackage.g y := by
  unfold laws_markPackage.out at h
  split at h
  · obtain ⟨_, rfl, h_1⟩ := asO_bind h
    obtain ⟨_, rfl, h_2⟩ := asO_bind h_1
    obtain ⟨_, rfl, h_3⟩ := asO_bind h_2
    obtain ⟨_, rfl, h_4⟩ := asO_bind h_3
    obtain rfl := Option.some.inj h_4
    rfl
  · cases h
def laws_markPackage.body (k : Nat) (vs : List AV) (bs : List (Blk κ)) : Option (Lf κ) :=
  match vs, bs with
  | [.agg [.int .i64 a0_0, .int .i64 a0_1, .int .i64 a0_2, .sl 0, .sl 1, .sl 2, .sl 3, .int .i64 a0_7], .v (.int .i64 a1)], [qb0, qb1, qb2, qb3] => (asO 4 true qb0).bind fun a0_3 => (asO 5 true qb1).bind fun a0_4 => (asO 6 true qb2).bind fun a0_5 => (asO 7 true qb3).bind fun a0_6 => some ⟨Int × List T_impl_Grant × List T_impl_Flow × List T_impl_Rule × List T_impl_Op, laws_markPackage.f k a0_0 a0_1 a0_2 a0_3 a0_4 a0_5 a0_6 a0_7 a1, laws_markPackage.g⟩
  | _, _ => none
def laws_markPackage.C (k : Nat) : Nat → List AV → AP κ AV := contract laws_markPackage.sig (laws_markPackage.body k)
theorem laws_markPackage.den (k : Nat) (a0_0 : Int) (a0_1 : Int) (a0_2 : Int) (a0_3 : List T_impl_Grant) (a0_4 : List T_impl_Flow) (a0_5 : List T_impl_Rule) (a0_6 : List T_impl_Op) (a0_7 : Int) (a1 : Int) : Code.den ti (laws_markPackage.Γ k) (laws_markPackage.LH k) (bodyOf Tryz.f19) (finK ti Tryz.f19.results.toList [] (flags laws_markPackage.sig).length (rwI (flags laws_markPackage.sig) 0) laws_markPackage.out) ⟨envOf (([.agg [.int .i64 a0_0, .int .i64 a0_1, .int .i64 a0_2, .sl 0, .sl 1, .sl 2, .sl 3, .int .i64 a0_7], .v (.int .i64 a1)]).zipIdx.map fun q => (q.2, q.1)), hpOf [.rows 4 true a0_3, .rows 5 true a0_4, .rows 6 true a0_5, .rows 7 true a0_6], (flags laws_markPackage.sig).length⟩ = laws_markPackage.f k a0_0 a0_1 a0_2 a0_3 a0_4 a0_5 a0_6 a0_7 a1 := by kernel_rfl
theorem laws_markPackage.ok (k : Nat) : CSound Tryz.prog 19 (laws_markPackage.C k) :=
  csound κ_ok mixed tok (laws_markPackage.hΓ k) (LH := laws_markPackage.LH k) (fn := Tryz.f19) (c := bodyOf Tryz.f19) Tryz.func19 rfl Tryz.call19 laws_markPackage.sig [] (laws_markPackage.body k) (by kernel_rfl) (laws_markPackage.lok k) (by decide) fun vs bs lf y hl hb hy => by
    unfold laws_markPackage.body at hb
    split at hb
    · obtain ⟨_, rfl, hb_1⟩ := asO_bind hb
      obtain ⟨_, rfl, hb_2⟩ := asO_bind hb_1
      obtain ⟨_, rfl, hb_3⟩ := asO_bind hb_2
      obtain ⟨_, rfl, hb_4⟩ := asO_bind hb_3
      obtain rfl := Option.some.inj hb_4
      exact ⟨laws_markPackage.out, laws_markPackage.out_ok, (laws_markPackage.den k _ _ _ _ _ _ _ _ _).trans hy⟩
    · cases hb
/-! ### laws_heldGrantS -/
def laws_heldGrantS.L2 {R : Type} (k : Nat) (xl0 : List T_impl_Grant) (X0 : Int → Int → Option R) (X1 : Int → Option R) (rec : Int → Int → Option R) (x1 : Int) (x2 : Int) : Option R :=
  (bif decide (x2 < (xl0.length : Int)) then (bif decide (0 ≤ x2) then (bif decide (x2 < (xl0.length : Int)) then (bif ((rd_impl_Grant xl0 x2).f0 != x1) then (X0 x1 (-1 : Int)) else (bif decide (0 ≤ x2) then (bif decide (x2 < (xl0.length : Int)) then (bif ((rd_impl_Grant xl0 x2).f1.f0 != (w64 (x1 + (1 : Int)))) then (X0 (w64 (x1 + (1 : Int))) (-1 : Int)) else (bif decide (0 ≤ x2) then (bif decide (x2 < (xl0.length : Int)) then (bif ((rd_impl_Grant xl0 x2).f1.f1 != (w64 ((w64 (x1 + (1 : Int))) + (1 : Int)))) then (X0 (w64 ((w64 (x1 + (1 : Int))) + (1 : Int))) (-1 : Int)) else (bif decide (0 ≤ x2) then (bif decide (x2 < (xl0.length : Int)) then (bif ((rd_impl_Grant xl0 x2).f2 != (w64 ((w64 ((w64 (x1 + (1 : Int))) + (1 : Int))) + (1 : Int)))) then (X0 (w64 ((w64 ((w64 (x1 + (1 : Int))) + (1 : Int))) + (1 : Int))) (-1 : Int)) else (bif decide (0 ≤ x2) then (bif decide (x2 < (xl0.length : Int)) then (bif ((rd_impl_Grant xl0 x2).f3 != (w64 ((w64 ((w64 ((w64 (x1 + (1 : Int))) + (1 : Int))) + (1 : Int))) + (1 : Int)))) then (X0 (w64 ((w64 ((w64 ((w64 (x1 + (1 : Int))) + (1 : Int))) + (1 : Int))) + (1 : Int))) (-1 : Int)) else (bif decide (0 ≤ x2) then (bif decide (x2 < (xl0.length : Int)) then (bif ((rd_impl_Grant xl0 x2).f4 != (w64 ((w64 ((w64 ((w64 ((w64 (x1 + (1 : Int))) + (1 : Int))) + (1 : Int))) + (1 : Int))) + (1 : Int)))) then (X0 (w64 ((w64 ((w64 ((w64 ((w64 (x1 + (1 : Int))) + (1 : Int))) + (1 : Int))) + (1 : Int))) + (1 : Int))) (-1 : Int)) else (bif decide (0 ≤ x2) then (bif decide (x2 < (xl0.length : Int)) then (bif !(((rd_impl_Grant xl0 x2).f5) == (((w64 ((w64 ((w64 ((w64 ((w64 ((w64 (x1 + (1 : Int))) + (1 : Int))) + (1 : Int))) + (1 : Int))) + (1 : Int))) + (1 : Int))).tmod (3 : Int)) == (0 : Int))) then (X0 (w64 ((w64 ((w64 ((w64 ((w64 ((w64 (x1 + (1 : Int))) + (1 : Int))) + (1 : Int))) + (1 : Int))) + (1 : Int))) + (1 : Int))) (-1 : Int)) else (rec (w64 ((w64 ((w64 ((w64 ((w64 ((w64 ((w64 (x1 + (1 : Int))) + (1 : Int))) + (1 : Int))) + (1 : Int))) + (1 : Int))) + (1 : Int))) + (1 : Int))) (w64 (x2 + (1 : Int))))) else none) else none)) else none) else none)) else none) else none)) else none) else none)) else none) else none)) else none) else none)) else none) else none) else (X1 x1))
def laws_heldGrantS.l2 {R : Type} (k : Nat) (xl0 : List T_impl_Grant) (X0 : Int → Int → Option R) (X1 : Int → Option R) : Nat → Int → Int → Option R
  | 0 => fun _ _ => none
  | n + 1 => laws_heldGrantS.L2 k xl0 X0 X1 (laws_heldGrantS.l2 k xl0 X0 X1 n)
def laws_heldGrantS.f (k : Nat) (a0 : List T_impl_Grant) (a1 : Int) : Option Int :=
  (laws_heldGrantS.l2 k a0 (fun (y1 : Int) (y2 : Int) => some y2) (fun (y3 : Int) => some y3) k a1 (0 : Int))
def laws_heldGrantS.h2 (k : Nat) {R : Type} (K : Ex → St κ → Option R) (vs : List AV) (bs : List (Blk κ)) : Option R :=
  match vs, bs with
  | [.v (.sl 0), .v (.int .i64 x1), .v (.int .i64 x2)], [qb0] => (asO 4 false qb0).bind fun xl0 => laws_heldGrantS.l2 k xl0 (fun (z0 : Int) (z1 : Int) => K .ret (stOf [(1, []), (4, [])] [.v (.int .i64 z0), .v (.int .i64 z1)] [.rows 4 false xl0])) (fun (z0 : Int) => K (.exit 0) (stOf [(1, []), (4, [])] [.v (.int .i64 z0), .v .any] [.rows 4 false xl0])) k x1 x2
  | _, _ => none
def laws_heldGrantS.Γ (k : Nat) : Ct κ := assoc []
def laws_heldGrantS.LH (k : Nat) : Nat → Option (LHi κ) := assoc [(2, ⟨1, [(0, [some 4]), (1, []), (5, [])], [(1, []), (4, [])], @laws_heldGrantS.h2 k⟩)]
theorem laws_heldGrantS.hΓ (k : Nat) : ∀ f g, laws_heldGrantS.Γ k f = some g → CSound Tryz.prog f g := G_nil
theorem laws_heldGrantS.e2 {R : Type} (K : Ex → St κ → Option R) (k : Nat) (xl0 : List T_impl_Grant) : ∀ (n : Nat) (x1 : Int) (x2 : Int), loopN 1 (Code.den ti (laws_heldGrantS.Γ k) (laws_heldGrantS.LH k) (loopAt Tryz.f65 0)) [(0, [some 4]), (1, []), (5, [])] [(1, []), (4, [])] K n [.v (.sl 0), .v (.int .i64 x1), .v (.int .i64 x2)] [.rows 4 false xl0] = laws_heldGrantS.l2 k xl0 (fun (z0 : Int) (z1 : Int) => K .ret (stOf [(1, []), (4, [])] [.v (.int .i64 z0), .v (.int .i64 z1)] [.rows 4 false xl0])) (fun (z0 : Int) => K (.exit 0) (stOf [(1, []), (4, [])] [.v (.int .i64 z0), .v .any] [.rows 4 false xl0])) n x1 x2
  | 0, _, _ => rfl
  | n + 1, x1, x2 => (show loopN 1 (Code.den ti (laws_heldGrantS.Γ k) (laws_heldGrantS.LH k) (loopAt Tryz.f65 0)) [(0, [some 4]), (1, []), (5, [])] [(1, []), (4, [])] K (n + 1) [.v (.sl 0), .v (.int .i64 x1), .v (.int .i64 x2)] [.rows 4 false xl0] = laws_heldGrantS.L2 k xl0 (fun (z0 : Int) (z1 : Int) => K .ret (stOf [(1, []), (4, [])] [.v (.int .i64 z0), .v (.int .i64 z1)] [.rows 4 false xl0])) (fun (z0 : Int) => K (.exit 0) (stOf [(1, []), (4, [])] [.v (.int .i64 z0), .v .any] [.rows 4 false xl0])) (fun (x1' : Int) (x2' : Int) => loopN 1 (Code.den ti (laws_heldGrantS.Γ k) (laws_heldGrantS.LH k) (loopAt Tryz.f65 0)) [(0, [some 4]), (1, []), (5, [])] [(1, []), (4, [])] K n [.v (.sl 0), .v (.int .i64 x1'), .v (.int .i64 x2')] [.rows 4 false xl0]) x1 x2 by kernel_rfl).trans (congrArg (fun rec => laws_heldGrantS.L2 k xl0 (fun (z0 : Int) (z1 : Int) => K .ret (stOf [(1, []), (4, [])] [.v (.int .i64 z0), .v (.int .i64 z1)] [.rows 4 false xl0])) (fun (z0 : Int) => K (.exit 0) (stOf [(1, []), (4, [])] [.v (.int .i64 z0), .v .any] [.rows 4 false xl0])) rec x1 x2) (funext fun x1' => funext fun x2' => laws_heldGrantS.e2 K k xl0 n x1' x2'))
theorem laws_heldGrantS.q2 (k : Nat) {R : Type} (K : Ex → St κ → Option R) (vs : List AV) (bs : List (Blk κ)) (r : R) (h : laws_heldGrantS.h2 k K vs bs = some r) : ∃ n, loopN 1 (Code.den ti (laws_heldGrantS.Γ k) (laws_heldGrantS.LH k) (loopAt Tryz.f65 0)) [(0, [some 4]), (1, []), (5, [])] [(1, []), (4, [])] K n vs bs = some r := by
  unfold laws_heldGrantS.h2 at h
  split at h
  · obtain ⟨_, rfl, h_1⟩ := asO_bind h
    exact ⟨k, (laws_heldGrantS.e2 K k _ k _ _).trans h_1⟩
  · cases h
theorem laws_heldGrantS.lok (k : Nat) : LOK ti (laws_heldGrantS.Γ k) (laws_heldGrantS.LH k) 1 (loopsOf (bodyOf Tryz.f65)) :=
  (show loopsOf (bodyOf Tryz.f65) = [loopAt Tryz.f65 0] by kernel_rfl) ▸ (LOK_cons (g := ⟨1, [(0, [some 4]), (1, []), (5, [])], [(1, []), (4, [])], @laws_heldGrantS.h2 k⟩) (by kernel_rfl) rfl (fun K vs xs r h => laws_heldGrantS.q2 k K vs xs r h) (LOK_nil))
def laws_heldGrantS.sig : List PSh := [.one (.ro 4), .one .sc]
def laws_heldGrantS.g (y : Int) : Ret κ := ⟨.v (.int .i64 y), [], []⟩
def laws_heldGrantS.out (r : Ret κ) : Option Int :=
  match r with
  | ⟨.v (.int .i64 z0), [], []⟩ => some (z0)
  | _ => none
theorem laws_heldGrantS.out_ok (r : Ret κ) (y : Int) (h : laws_heldGrantS.out r = some y) : r = laws_heldGrantS.g y := by
  unfold laws_heldGrantS.out at h
  split at h
  · obtain rfl := Option.some.inj h
    rfl
  · cases h
def laws_heldGrantS.body (k : Nat) (vs : List AV) (bs : List (Blk κ)) : Option (Lf κ) :=
  match vs, bs with
  | [.v (.sl 0), .v (.int .i64 a1)], [qb0] => (asO 4 false qb0).bind fun a0 => some ⟨Int, laws_heldGrantS.f k a0 a1, laws_heldGrantS.g⟩
  | _, _ => none
def laws_heldGrantS.C (k : Nat) : Nat → List AV → AP κ AV := contract laws_heldGrantS.sig (laws_heldGrantS.body k)
theorem laws_heldGrantS.den (k : Nat) (a0 : List T_impl_Grant) (a1 : Int) : Code.den ti (laws_heldGrantS.Γ k) (laws_heldGrantS.LH k) (bodyOf Tryz.f65) (finK ti Tryz.f65.results.toList [] (flags laws_heldGrantS.sig).length (rwI (flags laws_heldGrantS.sig) 0) laws_heldGrantS.out) ⟨envOf (([.v (.sl 0), .v (.int .i64 a1)]).zipIdx.map fun q => (q.2, q.1)), hpOf [.rows 4 false a0], (flags laws_heldGrantS.sig).length⟩ = laws_heldGrantS.f k a0 a1 := by kernel_rfl
theorem laws_heldGrantS.ok (k : Nat) : CSound Tryz.prog 65 (laws_heldGrantS.C k) :=
  csound κ_ok mixed tok (laws_heldGrantS.hΓ k) (LH := laws_heldGrantS.LH k) (fn := Tryz.f65) (c := bodyOf Tryz.f65) Tryz.func65 rfl Tryz.call65 laws_heldGrantS.sig [] (laws_heldGrantS.body k) (by kernel_rfl) (laws_heldGrantS.lok k) (by decide) fun vs bs lf y hl hb hy => by
    unfold laws_heldGrantS.body at hb
    split at hb
    · obtain ⟨_, rfl, hb_1⟩ := asO_bind hb
      obtain rfl := Option.some.inj hb_1
      exact ⟨laws_heldGrantS.out, laws_heldGrantS.out_ok, (laws_heldGrantS.den k _ _).trans hy⟩
    · cases hb
/-! ### laws_heldFlowS -/
def laws_heldFlowS.L2 {R : Type} (k : Nat) (xl0 : List T_impl_Flow) (X0 : Int → Int → Option R) (X1 : Int → Option R) (rec : Int → Int → Option R) (x1 : Int) (x2 : Int) : Option R :=
  (bif decide (x2 < (xl0.length : Int)) then (bif decide (0 ≤ x2) then (bif decide (x2 < (xl0.length : Int)) then (bif ((rd_impl_Flow xl0 x2).f0 != x1) then (X0 x1 (-1 : Int)) else (bif decide (0 ≤ x2) then (bif decide (x2 < (xl0.length : Int)) then (bif ((rd_impl_Flow xl0 x2).f1 != (w64 (x1 + (1 : Int)))) then (X0 (w64 (x1 + (1 : Int))) (-1 : Int)) else (bif decide (0 ≤ x2) then (bif decide (x2 < (xl0.length : Int)) then (bif ((rd_impl_Flow xl0 x2).f2 != (w64 ((w64 (x1 + (1 : Int))) + (1 : Int)))) then (X0 (w64 ((w64 (x1 + (1 : Int))) + (1 : Int))) (-1 : Int)) else (rec (w64 ((w64 ((w64 (x1 + (1 : Int))) + (1 : Int))) + (1 : Int))) (w64 (x2 + (1 : Int))))) else none) else none)) else none) else none)) else none) else none) else (X1 x1))
def laws_heldFlowS.l2 {R : Type} (k : Nat) (xl0 : List T_impl_Flow) (X0 : Int → Int → Option R) (X1 : Int → Option R) : Nat → Int → Int → Option R
  | 0 => fun _ _ => none
  | n + 1 => laws_heldFlowS.L2 k xl0 X0 X1 (laws_heldFlowS.l2 k xl0 X0 X1 n)
def laws_heldFlowS.f (k : Nat) (a0 : List T_impl_Flow) (a1 : Int) : Option Int :=
  (laws_heldFlowS.l2 k a0 (fun (y1 : Int) (y2 : Int) => some y2) (fun (y3 : Int) => some y3) k a1 (0 : Int))
def laws_heldFlowS.h2 (k : Nat) {R : Type} (K : Ex → St κ → Option R) (vs : List AV) (bs : List (Blk κ)) : Option R :=
  match vs, bs with
  | [.v (.sl 0), .v (.int .i64 x1), .v (.int .i64 x2)], [qb0] => (asO 5 false qb0).bind fun xl0 => laws_heldFlowS.l2 k xl0 (fun (z0 : Int) (z1 : Int) => K .ret (stOf [(1, []), (4, [])] [.v (.int .i64 z0), .v (.int .i64 z1)] [.rows 5 false xl0])) (fun (z0 : Int) => K (.exit 0) (stOf [(1, []), (4, [])] [.v (.int .i64 z0), .v .any] [.rows 5 false xl0])) k x1 x2
  | _, _ => none
def laws_heldFlowS.Γ (k : Nat) : Ct κ := assoc []
def laws_heldFlowS.LH (k : Nat) : Nat → Option (LHi κ) := assoc [(2, ⟨1, [(0, [some 5]), (1, []), (5, [])], [(1, []), (4, [])], @laws_heldFlowS.h2 k⟩)]
theorem laws_heldFlowS.hΓ (k : Nat) : ∀ f g, laws_heldFlowS.Γ k f = some g → CSound Tryz.prog f g := G_nil
theorem laws_heldFlowS.e2 {R : Type} (K : Ex → St κ → Option R) (k : Nat) (xl0 : List T_impl_Flow) : ∀ (n : Nat) (x1 : Int) (x2 : Int), loopN 1 (Code.den ti (laws_heldFlowS.Γ k) (laws_heldFlowS.LH k) (loopAt Tryz.f66 0)) [(0, [some 5]), (1, []), (5, [])] [(1, []), (4, [])] K n [.v (.sl 0), .v (.int .i64 x1), .v (.int .i64 x2)] [.rows 5 false xl0] = laws_heldFlowS.l2 k xl0 (fun (z0 : Int) (z1 : Int) => K .ret (stOf [(1, []), (4, [])] [.v (.int .i64 z0), .v (.int .i64 z1)] [.rows 5 false xl0])) (fun (z0 : Int) => K (.exit 0) (stOf [(1, []), (4, [])] [.v (.int .i64 z0), .v .any] [.rows 5 false xl0])) n x1 x2
  | 0, _, _ => rfl
  | n + 1, x1, x2 => (show loopN 1 (Code.den ti (laws_heldFlowS.Γ k) (laws_heldFlowS.LH k) (loopAt Tryz.f66 0)) [(0, [some 5]), (1, []), (5, [])] [(1, []), (4, [])] K (n + 1) [.v (.sl 0), .v (.int .i64 x1), .v (.int .i64 x2)] [.rows 5 false xl0] = laws_heldFlowS.L2 k xl0 (fun (z0 : Int) (z1 : Int) => K .ret (stOf [(1, []), (4, [])] [.v (.int .i64 z0), .v (.int .i64 z1)] [.rows 5 false xl0])) (fun (z0 : Int) => K (.exit 0) (stOf [(1, []), (4, [])] [.v (.int .i64 z0), .v .any] [.rows 5 false xl0])) (fun (x1' : Int) (x2' : Int) => loopN 1 (Code.den ti (laws_heldFlowS.Γ k) (laws_heldFlowS.LH k) (loopAt Tryz.f66 0)) [(0, [some 5]), (1, []), (5, [])] [(1, []), (4, [])] K n [.v (.sl 0), .v (.int .i64 x1'), .v (.int .i64 x2')] [.rows 5 false xl0]) x1 x2 by kernel_rfl).trans (congrArg (fun rec => laws_heldFlowS.L2 k xl0 (fun (z0 : Int) (z1 : Int) => K .ret (stOf [(1, []), (4, [])] [.v (.int .i64 z0), .v (.int .i64 z1)] [.rows 5 false xl0])) (fun (z0 : Int) => K (.exit 0) (stOf [(1, []), (4, [])] [.v (.int .i64 z0), .v .any] [.rows 5 false xl0])) rec x1 x2) (funext fun x1' => funext fun x2' => laws_heldFlowS.e2 K k xl0 n x1' x2'))
theorem laws_heldFlowS.q2 (k : Nat) {R : Type} (K : Ex → St κ → Option R) (vs : List AV) (bs : List (Blk κ)) (r : R) (h : laws_heldFlowS.h2 k K vs bs = some r) : ∃ n, loopN 1 (Code.den ti (laws_heldFlowS.Γ k) (laws_heldFlowS.LH k) (loopAt Tryz.f66 0)) [(0, [some 5]), (1, []), (5, [])] [(1, []), (4, [])] K n vs bs = some r := by
  unfold laws_heldFlowS.h2 at h
  split at h
  · obtain ⟨_, rfl, h_1⟩ := asO_bind h
    exact ⟨k, (laws_heldFlowS.e2 K k _ k _ _).trans h_1⟩
  · cases h
theorem laws_heldFlowS.lok (k : Nat) : LOK ti (laws_heldFlowS.Γ k) (laws_heldFlowS.LH k) 1 (loopsOf (bodyOf Tryz.f66)) :=
  (show loopsOf (bodyOf Tryz.f66) = [loopAt Tryz.f66 0] by kernel_rfl) ▸ (LOK_cons (g := ⟨1, [(0, [some 5]), (1, []), (5, [])], [(1, []), (4, [])], @laws_heldFlowS.h2 k⟩) (by kernel_rfl) rfl (fun K vs xs r h => laws_heldFlowS.q2 k K vs xs r h) (LOK_nil))
def laws_heldFlowS.sig : List PSh := [.one (.ro 5), .one .sc]
def laws_heldFlowS.g (y : Int) : Ret κ := ⟨.v (.int .i64 y), [], []⟩
def laws_heldFlowS.out (r : Ret κ) : Option Int :=
  match r with
  | ⟨.v (.int .i64 z0), [], []⟩ => some (z0)
  | _ => none
theorem laws_heldFlowS.out_ok (r : Ret κ) (y : Int) (h : laws_heldFlowS.out r = some y) : r = laws_heldFlowS.g y := by
  unfold laws_heldFlowS.out at h
  split at h
  · obtain rfl := Option.some.inj h
    rfl
  · cases h
def laws_heldFlowS.body (k : Nat) (vs : List AV) (bs : List (Blk κ)) : Option (Lf κ) :=
  match vs, bs with
  | [.v (.sl 0), .v (.int .i64 a1)], [qb0] => (asO 5 false qb0).bind fun a0 => some ⟨Int, laws_heldFlowS.f k a0 a1, laws_heldFlowS.g⟩
  | _, _ => none
def laws_heldFlowS.C (k : Nat) : Nat → List AV → AP κ AV := contract laws_heldFlowS.sig (laws_heldFlowS.body k)
theorem laws_heldFlowS.den (k : Nat) (a0 : List T_impl_Flow) (a1 : Int) : Code.den ti (laws_heldFlowS.Γ k) (laws_heldFlowS.LH k) (bodyOf Tryz.f66) (finK ti Tryz.f66.results.toList [] (flags laws_heldFlowS.sig).length (rwI (flags laws_heldFlowS.sig) 0) laws_heldFlowS.out) ⟨envOf (([.v (.sl 0), .v (.int .i64 a1)]).zipIdx.map fun q => (q.2, q.1)), hpOf [.rows 5 false a0], (flags laws_heldFlowS.sig).length⟩ = laws_heldFlowS.f k a0 a1 := by kernel_rfl
theorem laws_heldFlowS.ok (k : Nat) : CSound Tryz.prog 66 (laws_heldFlowS.C k) :=
  csound κ_ok mixed tok (laws_heldFlowS.hΓ k) (LH := laws_heldFlowS.LH k) (fn := Tryz.f66) (c := bodyOf Tryz.f66) Tryz.func66 rfl Tryz.call66 laws_heldFlowS.sig [] (laws_heldFlowS.body k) (by kernel_rfl) (laws_heldFlowS.lok k) (by decide) fun vs bs lf y hl hb hy => by
    unfold laws_heldFlowS.body at hb
    split at hb
    · obtain ⟨_, rfl, hb_1⟩ := asO_bind hb
      obtain rfl := Option.some.inj hb_1
      exact ⟨laws_heldFlowS.out, laws_heldFlowS.out_ok, (laws_heldFlowS.den k _ _).trans hy⟩
    · cases hb
end Go.Proofs.YtoenilndklbceaaGreat.PFnExactUpdatePackage
