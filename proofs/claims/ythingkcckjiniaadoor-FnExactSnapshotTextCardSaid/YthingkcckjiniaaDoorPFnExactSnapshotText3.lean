/- What the functions that the law FnExactSnapshotText reaches come to; no conditions. -/
import Derived.Test.YthingkcckjiniaaDoorPFnExactSnapshotText2
set_option linter.unusedVariables false
set_option maxRecDepth 100000
namespace Go.Proofs.YthingkcckjiniaaDoor.PFnExactSnapshotText
open Go Go.Eng Go.Proofs
/-! ### laws_eqRule -/
def laws_eqRule.f (k : Nat) (a0_0 : Int) (a0_1 : Int) (a0_2 : Int) (a0_3 : Int) (a0_4 : Int) (a0_5 : Int) (a0_6 : Int) (a0_7 : Int) (a1_0 : Int) (a1_1 : Int) (a1_2 : Int) (a1_3 : Int) (a1_4 : Int) (a1_5 : Int) (a1_6 : Int) (a1_7 : Int) : Option Bool :=
  (bif (a0_0 != a1_0) then some false else (bif (a0_1 != a1_1) then some false else (laws_eqPattern.f k a0_2 a0_3 a1_2 a1_3).bind fun t1 => (bif !t1 then some false else (bif (a0_4 != a1_4) then some false else (bif (a0_5 != a1_5) then some false else (laws_eqSite.f k a0_6 a0_7 a1_6 a1_7).bind fun t2 => (bif !t2 then some false else some true))))))
def laws_eqRule.Γ (k : Nat) : Ct κ := assoc [(44, laws_eqPattern.C k), (45, laws_eqSite.C k)]
def laws_eqRule.LH (k : Nat) : Nat → Option (LHi κ) := assoc []
theorem laws_eqRule.hΓ (k : Nat) : ∀ f g, laws_eqRule.Γ k f = some g → CSound Tryd.prog f g := G_cons (laws_eqPattern.ok k) (G_cons (laws_eqSite.ok k) G_nil)
theorem laws_eqRule.lok (k : Nat) : LOK ti (laws_eqRule.Γ k) (laws_eqRule.LH k) 0 (loopsOf (bodyOf Tryd.f39)) :=
  (show loopsOf (bodyOf Tryd.f39) = [] by kernel_rfl) ▸ LOK_nil
def laws_eqRule.sig : List PSh := [.agg [.sc, .sc, .sc, .sc, .sc, .sc, .sc, .sc], .agg [.sc, .sc, .sc, .sc, .sc, .sc, .sc, .sc]]
def laws_eqRule.g (y : Bool) : Ret κ := ⟨.v (.bool y), [], []⟩
def laws_eqRule.out (r : Ret κ) : Option Bool :=
  match r with
  | ⟨.v (.bool z0), [], []⟩ => some (z0)
  | _ => none
theorem laws_eqRule.out_ok (r : Ret κ) (y : Bool) (h : laws_eqRule.out r = some y) : r = laws_eqRule.g y := by
  unfold laws_eqRule.out at h
  split at h
  · obtain rfl := Option.some.inj h
    rfl
  · cases h
def laws_eqRule.body (k : Nat) (vs : List AV) (bs : List (Blk κ)) : Option (Lf κ) :=
  match vs, bs with
  | [.agg [.int .i64 a0_0, .int .i64 a0_1, .int .i64 a0_2, .int .i64 a0_3, .int .i64 a0_4, .int .i64 a0_5, .int .i64 a0_6, .int .i64 a0_7], .agg [.int .i64 a1_0, .int .i64 a1_1, .int .i64 a1_2, .int .i64 a1_3, .int .i64 a1_4, .int .i64 a1_5, .int .i64 a1_6, .int .i64 a1_7]], [] => some ⟨Bool, laws_eqRule.f k a0_0 a0_1 a0_2 a0_3 a0_4 a0_5 a0_6 a0_7 a1_0 a1_1 a1_2 a1_3 a1_4 a1_5 a1_6 a1_7, laws_eqRule.g⟩
  | _, _ => none
def laws_eqRule.C (k : Nat) : Nat → List AV → AP κ AV := contract laws_eqRule.sig (laws_eqRule.body k)
theorem laws_eqRule.den (k : Nat) (a0_0 : Int) (a0_1 : Int) (a0_2 : Int) (a0_3 : Int) (a0_4 : Int) (a0_5 : Int) (a0_6 : Int) (a0_7 : Int) (a1_0 : Int) (a1_1 : Int) (a1_2 : Int) (a1_3 : Int) (a1_4 : Int) (a1_5 : Int) (a1_6 : Int) (a1_7 : Int) : Code.den ti (laws_eqRule.Γ k) (laws_eqRule.LH k) (bodyOf Tryd.f39) (finK ti Tryd.f39.results.toList [] (flags laws_eqRule.sig).length (rwI (flags laws_eqRule.sig) 0) laws_eqRule.out) ⟨envOf (([.agg [.int .i64 a0_0, .int .i64 a0_1, .int .i64 a0_2, .int .i64 a0_3, .int .i64 a0_4, .int .i64 a0_5, .int .i64 a0_6, .int .i64 a0_7], .agg [.int .i64 a1_0, .int .i64 a1_1, .int .i64 a1_2, .int .i64 a1_3, .int .i64 a1_4, .int .i64 a1_5, .int .i64 a1_6, .int .i64 a1_7]]).zipIdx.map fun q => (q.2, q.1)), hpOf [], (flags laws_eqRule.sig).length⟩ = laws_eqRule.f k a0_0 a0_1 a0_2 a0_3 a0_4 a0_5 a0_6 a0_7 a1_0 a1_1 a1_2 a1_3 a1_4 a1_5 a1_6 a1_7 := by kernel_rfl
theorem laws_eqRule.ok (k : Nat) : CSound Tryd.prog 39 (laws_eqRule.C k) :=
  csound κ_ok mixed tok (laws_eqRule.hΓ k) (LH := laws_eqRule.LH k) (fn := Tryd.f39) (c := bodyOf Tryd.f39) Tryd.func39 rfl Tryd.call39 laws_eqRule.sig [] (laws_eqRule.body k) (by kernel_rfl) (laws_eqRule.lok k) (by decide) fun vs bs lf y hl hb hy => by
    unfold laws_eqRule.body at hb
    split at hb
    · obtain rfl := Option.some.inj hb
      exact ⟨laws_eqRule.out, laws_eqRule.out_ok, (laws_eqRule.den k _ _ _ _ _ _ _ _ _ _ _ _ _ _ _ _).trans hy⟩
    · cases hb
/-! ### laws_eqRuleS -/
def laws_eqRuleS.L4 {R : Type} (k : Nat) (xl0 : List T_impl_Rule) (xl1 : List T_impl_Rule) (X0 : Bool → Option R) (X1 : Unit → Option R) (rec : Int → Option R) (x2 : Int) : Option R :=
  (bif decide (x2 < (xl0.length : Int)) then (bif decide (0 ≤ x2) then (bif decide (x2 < (xl0.length : Int)) then (bif decide (0 ≤ x2) then (bif decide (x2 < (xl1.length : Int)) then (laws_eqRule.f k ((rd_impl_Rule xl0 x2).f0) ((rd_impl_Rule xl0 x2).f1) ((rd_impl_Rule xl0 x2).f2.f0) ((rd_impl_Rule xl0 x2).f2.f1) ((rd_impl_Rule xl0 x2).f3) ((rd_impl_Rule xl0 x2).f4) ((rd_impl_Rule xl0 x2).f5.f0) ((rd_impl_Rule xl0 x2).f5.f1) ((rd_impl_Rule xl1 x2).f0) ((rd_impl_Rule xl1 x2).f1) ((rd_impl_Rule xl1 x2).f2.f0) ((rd_impl_Rule xl1 x2).f2.f1) ((rd_impl_Rule xl1 x2).f3) ((rd_impl_Rule xl1 x2).f4) ((rd_impl_Rule xl1 x2).f5.f0) ((rd_impl_Rule xl1 x2).f5.f1)).bind fun t1 => (bif !t1 then (X0 false) else (rec (w64 (x2 + (1 : Int))))) else none) else none) else none) else none) else (X1 ()))
def laws_eqRuleS.l4 {R : Type} (k : Nat) (xl0 : List T_impl_Rule) (xl1 : List T_impl_Rule) (X0 : Bool → Option R) (X1 : Unit → Option R) : Nat → Int → Option R
  | 0 => fun _ => none
  | n + 1 => laws_eqRuleS.L4 k xl0 xl1 X0 X1 (laws_eqRuleS.l4 k xl0 xl1 X0 X1 n)
def laws_eqRuleS.f (k : Nat) (a0 : List T_impl_Rule) (a1 : List T_impl_Rule) : Option Bool :=
  (bif ((a0.length : Int) != (a1.length : Int)) then some false else (laws_eqRuleS.l4 k a0 a1 (fun (y2 : Bool) => some y2) (fun (_ : Unit) => some true) k (0 : Int)))
def laws_eqRuleS.h4 (k : Nat) {R : Type} (K : Ex → St κ → Option R) (vs : List AV) (bs : List (Blk κ)) : Option R :=
  match vs, bs with
  | [.v (.sl 0), .v (.sl 1), .v (.int .i64 x2)], [qb0, qb1] => (asO 7 false qb0).bind fun xl0 => (asO 7 false qb1).bind fun xl1 => laws_eqRuleS.l4 k xl0 xl1 (fun (z0 : Bool) => K .ret (stOf [(4, [])] [.v (.bool z0)] [.rows 7 false xl0, .rows 7 false xl1])) (fun (_ : Unit) => K (.exit 0) (stOf [(4, [])] [.v .any] [.rows 7 false xl0, .rows 7 false xl1])) k x2
  | _, _ => none
def laws_eqRuleS.Γ (k : Nat) : Ct κ := assoc [(39, laws_eqRule.C k)]
def laws_eqRuleS.LH (k : Nat) : Nat → Option (LHi κ) := assoc [(4, ⟨2, [(0, [some 7]), (1, [some 7]), (5, [])], [(4, [])], @laws_eqRuleS.h4 k⟩)]
theorem laws_eqRuleS.hΓ (k : Nat) : ∀ f g, laws_eqRuleS.Γ k f = some g → CSound Tryd.prog f g := G_cons (laws_eqRule.ok k) G_nil
theorem laws_eqRuleS.e4 {R : Type} (K : Ex → St κ → Option R) (k : Nat) (xl0 : List T_impl_Rule) (xl1 : List T_impl_Rule) : ∀ (n : Nat) (x2 : Int), loopN 2 (Code.den ti (laws_eqRuleS.Γ k) (laws_eqRuleS.LH k) (loopAt Tryd.f29 0)) [(0, [some 7]), (1, [some 7]), (5, [])] [(4, [])] K n [.v (.sl 0), .v (.sl 1), .v (.int .i64 x2)] [.rows 7 false xl0, .rows 7 false xl1] = laws_eqRuleS.l4 k xl0 xl1 (fun (z0 : Bool) => K .ret (stOf [(4, [])] [.v (.bool z0)] [.rows 7 false xl0, .rows 7 false xl1])) (fun (_ : Unit) => K (.exit 0) (stOf [(4, [])] [.v .any] [.rows 7 false xl0, .rows 7 false xl1])) n x2
  | 0, _ => rfl
  | n + 1, x2 => (show loopN 2 (Code.den ti (laws_eqRuleS.Γ k) (laws_eqRuleS.LH k) (loopAt Tryd.f29 0)) [(0, [some 7]), (1, [some 7]), (5, [])] [(4, [])] K (n + 1) [.v (.sl 0), .v (.sl 1), .v (.int .i64 x2)] [.rows 7 false xl0, .rows 7 false xl1] = laws_eqRuleS.L4 k xl0 xl1 (fun (z0 : Bool) => K .ret (stOf [(4, [])] [.v (.bool z0)] [.rows 7 false xl0, .rows 7 false xl1])) (fun (_ : Unit) => K (.exit 0) (stOf [(4, [])] [.v .any] [.rows 7 false xl0, .rows 7 false xl1])) (fun (x2' : Int) => loopN 2 (Code.den ti (laws_eqRuleS.Γ k) (laws_eqRuleS.LH k) (loopAt Tryd.f29 0)) [(0, [some 7]), (1, [some 7]), (5, [])] [(4, [])] K n [.v (.sl 0), .v (.sl 1), .v (.int .i64 x2')] [.rows 7 false xl0, .rows 7 false xl1]) x2 by kernel_rfl).trans (congrArg (fun rec => laws_eqRuleS.L4 k xl0 xl1 (fun (z0 : Bool) => K .ret (stOf [(4, [])] [.v (.bool z0)] [.rows 7 false xl0, .rows 7 false xl1])) (fun (_ : Unit) => K (.exit 0) (stOf [(4, [])] [.v .any] [.rows 7 false xl0, .rows 7 false xl1])) rec x2) (funext fun x2' => laws_eqRuleS.e4 K k xl0 xl1 n x2'))
theorem laws_eqRuleS.q4 (k : Nat) {R : Type} (K : Ex → St κ → Option R) (vs : List AV) (bs : List (Blk κ)) (r : R) (h : laws_eqRuleS.h4 k K vs bs = some r) : ∃ n, loopN 2 (Code.den ti (laws_eqRuleS.Γ k) (laws_eqRuleS.LH k) (loopAt Tryd.f29 0)) [(0, [some 7]), (1, [some 7]), (5, [])] [(4, [])] K n vs bs = some r := by
  unfold laws_eqRuleS.h4 at h
  split at h
  · obtain ⟨_, rfl, h_1⟩ := asO_bind h
    obtain ⟨_, rfl, h_2⟩ := asO_bind h_1
    exact ⟨k, (laws_eqRuleS.e4 K k _ _ k _).trans h_2⟩
  · cases h
theorem laws_eqRuleS.lok (k : Nat) : LOK ti (laws_eqRuleS.Γ k) (laws_eqRuleS.LH k) 2 (loopsOf (bodyOf Tryd.f29)) :=
  (show loopsOf (bodyOf Tryd.f29) = [loopAt Tryd.f29 0] by kernel_rfl) ▸ (LOK_cons (g := ⟨2, [(0, [some 7]), (1, [some 7]), (5, [])], [(4, [])], @laws_eqRuleS.h4 k⟩) (by kernel_rfl) rfl (fun K vs xs r h => laws_eqRuleS.q4 k K vs xs r h) (LOK_nil))
def laws_eqRuleS.sig : List PSh := [.one (.ro 7), .one (.ro 7)]
def laws_eqRuleS.g (y : Bool) : Ret κ := ⟨.v (.bool y), [], []⟩
def laws_eqRuleS.out (r : Ret κ) : Option Bool :=
  match r with
  | ⟨.v (.bool z0), [], []⟩ => some (z0)
  | _ => none
theorem laws_eqRuleS.out_ok (r : Ret κ) (y : Bool) (h : laws_eqRuleS.out r = some y) : r = laws_eqRuleS.g y := by
  unfold laws_eqRuleS.out at h
  split at h
  · obtain rfl := Option.some.inj h
    rfl
  · cases h
def laws_eqRuleS.body (k : Nat) (vs : List AV) (bs : List (Blk κ)) : Option (Lf κ) :=
  match vs, bs with
  | [.v (.sl 0), .v (.sl 1)], [qb0, qb1] => (asO 7 false qb0).bind fun a0 => (asO 7 false qb1).bind fun a1 => some ⟨Bool, laws_eqRuleS.f k a0 a1, laws_eqRuleS.g⟩
  | _, _ => none
def laws_eqRuleS.C (k : Nat) : Nat → List AV → AP κ AV := contract laws_eqRuleS.sig (laws_eqRuleS.body k)
theorem laws_eqRuleS.den (k : Nat) (a0 : List T_impl_Rule) (a1 : List T_impl_Rule) : Code.den ti (laws_eqRuleS.Γ k) (laws_eqRuleS.LH k) (bodyOf Tryd.f29) (finK ti Tryd.f29.results.toList [] (flags laws_eqRuleS.sig).length (rwI (flags laws_eqRuleS.sig) 0) laws_eqRuleS.out) ⟨envOf (([.v (.sl 0), .v (.sl 1)]).zipIdx.map fun q => (q.2, q.1)), hpOf [.rows 7 false a0, .rows 7 false a1], (flags laws_eqRuleS.sig).length⟩ = laws_eqRuleS.f k a0 a1 := by kernel_rfl
theorem laws_eqRuleS.ok (k : Nat) : CSound Tryd.prog 29 (laws_eqRuleS.C k) :=
  csound κ_ok mixed tok (laws_eqRuleS.hΓ k) (LH := laws_eqRuleS.LH k) (fn := Tryd.f29) (c := bodyOf Tryd.f29) Tryd.func29 rfl Tryd.call29 laws_eqRuleS.sig [] (laws_eqRuleS.body k) (by kernel_rfl) (laws_eqRuleS.lok k) (by decide) fun vs bs lf y hl hb hy => by
    unfold laws_eqRuleS.body at hb
    split at hb
    · obtain ⟨_, rfl, hb_1⟩ := asO_bind hb
      obtain ⟨_, rfl, hb_2⟩ := asO_bind hb_1
      obtain rfl := Option.some.inj hb_2
      exact ⟨laws_eqRuleS.out, laws_eqRuleS.out_ok, (laws_eqRuleS.den k _ _).trans hy⟩
    · cases hb
/-! ### laws_eqOp -/
def laws_eqOp.f (k : Nat) (a0_0 : Int) (a0_1 : Int) (a0_2 : Int) (a0_3 : Int) (a1_0 : Int) (a1_1 : Int) (a1_2 : Int) (a1_3 : Int) : Option Bool :=
  (bif (a0_0 != a1_0) then some false else (bif (a0_1 != a1_1) then some false else (bif (a0_2 != a1_2) then some false else (bif (a0_3 != a1_3) then some false else some true))))
def laws_eqOp.Γ (k : Nat) : Ct κ := assoc []
def laws_eqOp.LH (k : Nat) : Nat → Option (LHi κ) := assoc []
theorem laws_eqOp.hΓ (k : Nat) : ∀ f g, laws_eqOp.Γ k f = some g → CSound Tryd.prog f g := G_nil
theorem laws_eqOp.lok (k : Nat) : LOK ti (laws_eqOp.Γ k) (laws_eqOp.LH k) 0 (loopsOf (bodyOf Tryd.f40)) :=
  (show loopsOf (bodyOf Tryd.f40) = [] by kernel_rfl) ▸ LOK_nil
def laws_eqOp.sig : List PSh := [.agg [.sc, .sc, .sc, .sc], .agg [.sc, .sc, .sc, .sc]]
def laws_eqOp.g (y : Bool) : Ret κ := ⟨.v (.bool y), [], []⟩
def laws_eqOp.out (r : Ret κ) : Option Bool :=
  match r with
  | ⟨.v (.bool z0), [], []⟩ => some (z0)
  | _ => none
theorem laws_eqOp.out_ok (r : Ret κ) (y : Bool) (h : laws_eqOp.out r = some y) : r = laws_eqOp.g y := by
  unfold laws_eqOp.out at h
  split at h
  · obtain rfl := Option.some.inj h
    rfl
  · cases h
def laws_eqOp.body (k : Nat) (vs : List AV) (bs : List (Blk κ)) : Option (Lf κ) :=
  match vs, bs with
  | [.agg [.int .i64 a0_0, .int .i64 a0_1, .int .i64 a0_2, .int .i64 a0_3], .agg [.int .i64 a1_0, .int .i64 a1_1, .int .i64 a1_2, .int .i64 a1_3]], [] => some ⟨Bool, laws_eqOp.f k a0_0 a0_1 a0_2 a0_3 a1_0 a1_1 a1_2 a1_3, laws_eqOp.g⟩
  | _, _ => none
def laws_eqOp.C (k : Nat) : Nat → List AV → AP κ AV := contract laws_eqOp.sig (laws_eqOp.body k)
theorem laws_eqOp.den (k : Nat) (a0_0 : Int) (a0_1 : Int) (a0_2 : Int) (a0_3 : Int) (a1_0 : Int) (a1_1 : Int) (a1_2 : Int) (a1_3 : Int) : Code.den ti (laws_eqOp.Γ k) (laws_eqOp.LH k) (bodyOf Tryd.f40) (finK ti Tryd.f40.results.toList [] (flags laws_eqOp.sig).length (rwI (flags laws_eqOp.sig) 0) laws_eqOp.out) ⟨envOf (([.agg [.int .i64 a0_0, .int .i64 a0_1, .int .i64 a0_2, .int .i64 a0_3], .agg [.int .i64 a1_0, .int .i64 a1_1, .int .i64 a1_2, .int .i64 a1_3]]).zipIdx.map fun q => (q.2, q.1)), hpOf [], (flags laws_eqOp.sig).length⟩ = laws_eqOp.f k a0_0 a0_1 a0_2 a0_3 a1_0 a1_1 a1_2 a1_3 := by kernel_rfl
theorem laws_eqOp.ok (k : Nat) : CSound Tryd.prog 40 (laws_eqOp.C k) :=
  csound κ_ok mixed tok (laws_eqOp.hΓ k) (LH := laws_eqOp.LH k) (fn := Tryd.f40) (c := bodyOf Tryd.f40) Tryd.func40 rfl Tryd.call40 laws_eqOp.sig [] (laws_eqOp.body k) (by kernel_rfl) (laws_eqOp.lok k) (by decide) fun vs bs lf y hl hb hy => by
    unfold laws_eqOp.body at hb
    split at hb
    · obtain rfl := Option.some.inj hb
      exact ⟨laws_eqOp.out, laws_eqOp.out_ok, (laws_eqOp.den k _ _ _ _ _ _ _ _).trans hy⟩
    · cases hb
/-! ### laws_eqOpS -/
def laws_eqOpS.L4 {R : Type} (k : Nat) (xl0 : List T_impl_Op) (xl1 : List T_impl_Op) (X0 : Bool → Option R) (X1 : Unit → Option R) (rec : Int → Option R) (x2 : Int) : Option R :=
  (bif decide (x2 < (xl0.length : Int)) then (bif decide (0 ≤ x2) then (bif decide (x2 < (xl0.length : Int)) then (bif decide (0 ≤ x2) then (bif decide (x2 < (xl1.length : Int)) then (laws_eqOp.f k ((rd_impl_Op xl0 x2).f0) ((rd_impl_Op xl0 x2).f1) ((rd_impl_Op xl0 x2).f2) ((rd_impl_Op xl0 x2).f3) ((rd_impl_Op xl1 x2).f0) ((rd_impl_Op xl1 x2).f1) ((rd_impl_Op xl1 x2).f2) ((rd_impl_Op xl1 x2).f3)).bind fun t1 => (bif !t1 then (X0 false) else (rec (w64 (x2 + (1 : Int))))) else none) else none) else none) else none) else (X1 ()))
def laws_eqOpS.l4 {R : Type} (k : Nat) (xl0 : List T_impl_Op) (xl1 : List T_impl_Op) (X0 : Bool → Option R) (X1 : Unit → Option R) : Nat → Int → Option R
  | 0 => fun _ => none
  | n + 1 => laws_eqOpS.L4 k xl0 xl1 X0 X1 (laws_eqOpS.l4 k xl0 xl1 X0 X1 n)
def laws_eqOpS.f (k : Nat) (a0 : List T_impl_Op) (a1 : List T_impl_Op) : Option Bool :=
  (bif ((a0.length : Int) != (a1.length : Int)) then some false else (laws_eqOpS.l4 k a0 a1 (fun (y2 : Bool) => some y2) (fun (_ : Unit) => some true) k (0 : Int)))
def laws_eqOpS.h4 (k : Nat) {R : Type} (K : Ex → St κ → Option R) (vs : List AV) (bs : List (Blk κ)) : Option R :=
  match vs, bs with
  | [.v (.sl 0), .v (.sl 1), .v (.int .i64 x2)], [qb0, qb1] => (asO 8 false qb0).bind fun xl0 => (asO 8 false qb1).bind fun xl1 => laws_eqOpS.l4 k xl0 xl1 (fun (z0 : Bool) => K .ret (stOf [(4, [])] [.v (.bool z0)] [.rows 8 false xl0, .rows 8 false xl1])) (fun (_ : Unit) => K (.exit 0) (stOf [(4, [])] [.v .any] [.rows 8 false xl0, .rows 8 false xl1])) k x2
  | _, _ => none
def laws_eqOpS.Γ (k : Nat) : Ct κ := assoc [(40, laws_eqOp.C k)]
def laws_eqOpS.LH (k : Nat) : Nat → Option (LHi κ) := assoc [(4, ⟨2, [(0, [some 8]), (1, [some 8]), (5, [])], [(4, [])], @laws_eqOpS.h4 k⟩)]
theorem laws_eqOpS.hΓ (k : Nat) : ∀ f g, laws_eqOpS.Γ k f = some g → CSound Tryd.prog f g := G_cons (laws_eqOp.ok k) G_nil
theorem laws_eqOpS.e4 {R : Type} (K : Ex → St κ → Option R) (k : Nat) (xl0 : List T_impl_Op) (xl1 : List T_impl_Op) : ∀ (n : Nat) (x2 : Int), loopN 2 (Code.den ti (laws_eqOpS.Γ k) (laws_eqOpS.LH k) (loopAt Tryd.f30 0)) [(0, [some 8]), (1, [some 8]), (5, [])] [(4, [])] K n [.v (.sl 0), .v (.sl 1), .v (.int .i64 x2)] [.rows 8 false xl0, .rows 8 false xl1] = laws_eqOpS.l4 k xl0 xl1 (fun (z0 : Bool) => K .ret (stOf [(4, [])] [.v (.bool z0)] [.rows 8 false xl0, .rows 8 false xl1])) (fun (_ : Unit) => K (.exit 0) (stOf [(4, [])] [.v .any] [.rows 8 false xl0, .rows 8 false xl1])) n x2
  | 0, _ => rfl
  | n + 1, x2 => (show loopN 2 (Code.den ti (laws_eqOpS.Γ k) (laws_eqOpS.LH k) (loopAt Tryd.f30 0)) [(0, [some 8]), (1, [some 8]), (5, [])] [(4, [])] K (n + 1) [.v (.sl 0), .v (.sl 1), .v (.int .i64 x2)] [.rows 8 false xl0, .rows 8 false xl1] = laws_eqOpS.L4 k xl0 xl1 (fun (z0 : Bool) => K .ret (stOf [(4, [])] [.v (.bool z0)] [.rows 8 false xl0, .rows 8 false xl1])) (fun (_ : Unit) => K (.exit 0) (stOf [(4, [])] [.v .any] [.rows 8 false xl0, .rows 8 false xl1])) (fun (x2' : Int) => loopN 2 (Code.den ti (laws_eqOpS.Γ k) (laws_eqOpS.LH k) (loopAt Tryd.f30 0)) [(0, [some 8]), (1, [some 8]), (5, [])] [(4, [])] K n [.v (.sl 0), .v (.sl 1), .v (.int .i64 x2')] [.rows 8 false xl0, .rows 8 false xl1]) x2 by kernel_rfl).trans (congrArg (fun rec => laws_eqOpS.L4 k xl0 xl1 (fun (z0 : Bool) => K .ret (stOf [(4, [])] [.v (.bool z0)] [.rows 8 false xl0, .rows 8 false xl1])) (fun (_ : Unit) => K (.exit 0) (stOf [(4, [])] [.v .any] [.rows 8 false xl0, .rows 8 false xl1])) rec x2) (funext fun x2' => laws_eqOpS.e4 K k xl0 xl1 n x2'))
theorem laws_eqOpS.q4 (k : Nat) {R : Type} (K : Ex → St κ → Option R) (vs : List AV) (bs : List (Blk κ)) (r : R) (h : laws_eqOpS.h4 k K vs bs = some r) : ∃ n, loopN 2 (Code.den ti (laws_eqOpS.Γ k) (laws_eqOpS.LH k) (loopAt Tryd.f30 0)) [(0, [some 8]), (1, [some 8]), (5, [])] [(4, [])] K n vs bs = some r := by
  unfold laws_eqOpS.h4 at h
  split at h
  · obtain ⟨_, rfl, h_1⟩ := asO_bind h
    obtain ⟨_, rfl, h_2⟩ := asO_bind h_1
    exact ⟨k, (laws_eqOpS.e4 K k _ _ k _).trans h_2⟩
  · cases h
theorem laws_eqOpS.lok (k : Nat) : LOK ti (laws_eqOpS.Γ k) (laws_eqOpS.LH k) 2 (loopsOf (bodyOf Tryd.f30)) :=
  (show loopsOf (bodyOf Tryd.f30) = [loopAt Tryd.f30 0] by kernel_rfl) ▸ (LOK_cons (g := ⟨2, [(0, [some 8]), (1, [some 8]), (5, [])], [(4, [])], @laws_eqOpS.h4 k⟩) (by kernel_rfl) rfl (fun K vs xs r h => laws_eqOpS.q4 k K vs xs r h) (LOK_nil))
def laws_eqOpS.sig : List PSh := [.one (.ro 8), .one (.ro 8)]
def laws_eqOpS.g (y : Bool) : Ret κ := ⟨.v (.bool y), [], []⟩
def laws_eqOpS.out (r : Ret κ) : Option Bool :=
  match r with
  | ⟨.v (.bool z0), [], []⟩ => some (z0)
  | _ => none
theorem laws_eqOpS.out_ok (r : Ret κ) (y : Bool) (h : laws_eqOpS.out r = some y) : r = laws_eqOpS.g y := by
  unfold laws_eqOpS.out at h
  split at h
  · obtain rfl := Option.some.inj h
    rfl
  · cases h
def laws_eqOpS.body (k : Nat) (vs : List AV) (bs : List (Blk κ)) : Option (Lf κ) :=
  match vs, bs with
  | [.v (.sl 0), .v (.sl 1)], [qb0, qb1] => (asO 8 false qb0).bind fun a0 => (asO 8 false qb1).bind fun a1 => some ⟨Bool, laws_eqOpS.f k a0 a1, laws_eqOpS.g⟩
  | _, _ => none
def laws_eqOpS.C (k : Nat) : Nat → List AV → AP κ AV := contract laws_eqOpS.sig (laws_eqOpS.body k)
theorem laws_eqOpS.den (k : Nat) (a0 : List T_impl_Op) (a1 : List T_impl_Op) : Code.den ti (laws_eqOpS.Γ k) (laws_eqOpS.LH k) (bodyOf Tryd.f30) (finK ti Tryd.f30.results.toList [] (flags laws_eqOpS.sig).length (rwI (flags laws_eqOpS.sig) 0) laws_eqOpS.out) ⟨envOf (([.v (.sl 0), .v (.sl 1)]).zipIdx.map fun q => (q.2, q.1)), hpOf [.rows 8 false a0, .rows 8 false a1], (flags laws_eqOpS.sig).length⟩ = laws_eqOpS.f k a0 a1 := by kernel_rfl
theorem laws_eqOpS.ok (k : Nat) : CSound Tryd.prog 30 (laws_eqOpS.C k) :=
  csound κ_ok mixed tok (laws_eqOpS.hΓ k) (LH := laws_eqOpS.LH k) (fn := Tryd.f30) (c := bodyOf Tryd.f30) Tryd.func30 rfl Tryd.call30 laws_eqOpS.sig [] (laws_eqOpS.body k) (by kernel_rfl) (laws_eqOpS.lok k) (by decide) fun vs bs lf y hl hb hy => by
    unfold laws_eqOpS.body at hb
    split at hb
    · obtain ⟨_, rfl, hb_1⟩ := asO_bind hb
      obtain ⟨_, rfl, hb_2⟩ := asO_bind hb_1
      obtain rfl := Option.some.inj hb_2
      exact ⟨laws_eqOpS.out, laws_eqOpS.out_ok, (laws_eqOpS.den k _ _).trans hy⟩
    · cases hb
/-! ### laws_eqPackage -/
def laws_eqPackage.f (k : Nat) (a0_0 : Int) (a0_1 : Int) (a0_2 : Int) (a0_3 : List T_impl_Grant) (a0_4 : List T_impl_Flow) (a0_5 : List T_impl_Rule) (a0_6 : List T_impl_Op) (a0_7 : Int) (a1_0 : Int) (a1_1 : Int) (a1_2 : Int) (a1_3 : List T_impl_Grant) (a1_4 : List T_impl_Flow) (a1_5 : List T_impl_Rule) (a1_6 : List T_impl_Op) (a1_7 : Int) : Option Bool :=
  (bif (a0_0 != a1_0) then some false else (bif (a0_1 != a1_1) then some false else (bif (a0_2 != a1_2) then some false else (laws_eqGrantS.f k a0_3 a1_3).bind fun t1 => (bif !t1 then some false else (laws_eqFlowS.f k a0_4 a1_4).bind fun t2 => (bif !t2 then some false else (laws_eqRuleS.f k a0_5 a1_5).bind fun t3 => (bif !t3 then some false else (laws_eqOpS.f k a0_6 a1_6).bind fun t4 => (bif !t4 then some false else (bif (a0_7 != a1_7) then some false else some true))))))))
def laws_eqPackage.Γ (k : Nat) : Ct κ := assoc [(27, laws_eqGrantS.C k), (28, laws_eqFlowS.C k), (29, laws_eqRuleS.C k), (30, laws_eqOpS.C k)]
def laws_eqPackage.LH (k : Nat) : Nat → Option (LHi κ) := assoc []
theorem laws_eqPackage.hΓ (k : Nat) : ∀ f g, laws_eqPackage.Γ k f = some g → CSound Tryd.prog f g := G_cons (laws_eqGrantS.ok k) (G_cons (laws_eqFlowS.ok k) (G_cons (laws_eqRuleS.ok k) (G_cons (laws_eqOpS.ok k) G_nil)))
theorem laws_eqPackage.lok (k : Nat) : LOK ti (laws_eqPackage.Γ k) (laws_eqPackage.LH k) 8 (loopsOf (bodyOf Tryd.f15)) :=
  (show loopsOf (bodyOf Tryd.f15) = [] by kernel_rfl) ▸ LOK_nil
def laws_eqPackage.sig : List PSh := [.agg [.sc, .sc, .sc, .ro 5, .ro 6, .ro 7, .ro 8, .sc], .agg [.sc, .sc, .sc, .ro 5, .ro 6, .ro 7, .ro 8, .sc]]
def laws_eqPackage.g (y : Bool) : Ret κ := ⟨.v (.bool y), [], []⟩
def laws_eqPackage.out (r : Ret κ) : Option Bool :=
  match r with
  | ⟨.v (.bool z0), [], []⟩ => some (z0)
  | _ => none
theorem laws_eqPackage.out_ok (r : Ret κ) (y : Bool) (h : laws_eqPackage.out r = some y) : r = laws_eqPackage.g y := by
  unfold laws_eqPackage.out at h
  split at h
  · obtain rfl := Option.some.inj h
    rfl
  · cases h
def laws_eqPackage.body (k : Nat) (vs : List AV) (bs : List (Blk κ)) : Option (Lf κ) :=
  match vs, bs with
  | [.agg [.int .i64 a0_0, .int .i64 a0_1, .int .i64 a0_2, .sl 0, .sl 1, .sl 2, .sl 3, .int .i64 a0_7], .agg [.int .i64 a1_0, .int .i64 a1_1, .int .i64 a1_2, .sl 4, .sl 5, .sl 6, .sl 7, .int .i64 a1_7]], [qb0, qb1, qb2, qb3, qb4, qb5, qb6, qb7] => (asO 5 false qb0).bind fun a0_3 => (asO 6 false qb1).bind fun a0_4 => (asO 7 false qb2).bind fun a0_5 => (asO 8 false qb3).bind fun a0_6 => (asO 5 false qb4).bind fun a1_3 => (asO 6 false qb5).bind fun a1_4 => (asO 7 false qb6).bind fun a1_5 => (asO 8 false qb7).bind fun a1_6 => some ⟨Bool, laws_eqPackage.f k a0_0 a0_1 a0_2 a0_3 a0_4 a0_5 a0_6 a0_7 a1_0 a1_1 a1_2 a1_3 a1_4 a1_5 a1_6 a1_7, laws_eqPackage.g⟩
  | _, _ => none
def laws_eqPackage.C (k : Nat) : Nat → List AV → AP κ AV := contract laws_eqPackage.sig (laws_eqPackage.body k)
theorem laws_eqPackage.den (k : Nat) (a0_0 : Int) (a0_1 : Int) (a0_2 : Int) (a0_3 : List T_impl_Grant) (a0_4 : List T_impl_Flow) (a0_5 : List T_impl_Rule) (a0_6 : List T_impl_Op) (a0_7 : Int) (a1_0 : Int) (a1_1 : Int) (a1_2 : Int) (a1_3 : List T_impl_Grant) (a1_4 : List T_impl_Flow) (a1_5 : List T_impl_Rule) (a1_6 : List T_impl_Op) (a1_7 : Int) : Code.den ti (laws_eqPackage.Γ k) (laws_eqPackage.LH k) (bodyOf Tryd.f15) (finK ti Tryd.f15.results.toList [] (flags laws_eqPackage.sig).length (rwI (flags laws_eqPackage.sig) 0) laws_eqPackage.out) ⟨envOf (([.agg [.int .i64 a0_0, .int .i64 a0_1, .int .i64 a0_2, .sl 0, .sl 1, .sl 2, .sl 3, .int .i64 a0_7], .agg [.int .i64 a1_0, .int .i64 a1_1, .int .i64 a1_2, .sl 4, .sl 5, .sl 6, .sl 7, .int .i64 a1_7]]).zipIdx.map fun q => (q.2, q.1)), hpOf [.rows 5 false a0_3, .rows 6 false a0_4, .rows 7 false a0_5, .rows 8 false a0_6, .rows 5 false a1_3, .rows 6 false a1_4, .rows 7 false a1_5, .rows 8 false a1_6], (flags laws_eqPackage.sig).length⟩ = laws_eqPackage.f k a0_0 a0_1 a0_2 a0_3 a0_4 a0_5 a0_6 a0_7 a1_0 a1_1 a1_2 a1_3 a1_4 a1_5 a1_6 a1_7 := by kernel_rfl
theorem laws_eqPackage.ok (k : Nat) : CSound Tryd.prog 15 (laws_eqPackage.C k) :=
  csound κ_ok mixed tok (laws_eqPackage.hΓ k) (LH := laws_eqPackage.LH k) (fn := Tryd.f15) (c := bodyOf Tryd.f15) Tryd.func15 rfl Tryd.call15 laws_eqPackage.sig [] (laws_eqPackage.body k) (by kernel_rfl) (laws_eqPackage.lok k) (by decide) fun vs bs lf y hl hb hy => by
    unfold laws_eqPackage.body at hb
    split at hb
    · obtain ⟨_, rfl, hb_1⟩ := asO_bind hb
      obtain ⟨_, rfl, hb_2⟩ := asO_bind hb_1
      obtain ⟨_, rfl, hb_3⟩ := asO_bind hb_2
      obtain ⟨_, rfl, hb_4⟩ := asO_bind hb_3
      obtain ⟨_, rfl, hb_5⟩ := asO_bind hb_4
      obtain ⟨_, rfl, hb_6⟩ := asO_bind hb_5
      obtain ⟨_, rfl, hb_7⟩ := asO_bind hb_6
      obtain ⟨_, rfl, hb_8⟩ := asO_bind hb_7
      obtain rfl := Option.some.inj hb_8
      exact ⟨laws_eqPackage.out, laws_eqPackage.out_ok, (laws_eqPackage.den k _ _ _ _ _ _ _ _ _ _ _ _ _ _ _ _).trans hy⟩
    · cases hb
/-! ### laws_eqStored -/
def laws_eqStored.f (k : Nat) (a0_0 : Int) (a0_1 : Int) (a0_2 : Int) (a0_3 : Int) (a1_0 : Int) (a1_1 : Int) (a1_2 : Int) (a1_3 : Int) : Option Bool :=
  (bif (a0_0 != a1_0) then some false else (bif (a0_1 != a1_1) then some false else (bif (a0_2 != a1_2) then some false else (bif (a0_3 != a1_3) then some false else some true))))
def laws_eqStored.Γ (k : Nat) : Ct κ := assoc []
def laws_eqStored.LH (k : Nat) : Nat → Option (LHi κ) := assoc []
theorem laws_eqStored.hΓ (k : Nat) : ∀ f g, laws_eqStored.Γ k f = some g → CSound Tryd.prog f g := G_nil
theorem laws_eqStored.lok (k : Nat) : LOK ti (laws_eqStored.Γ k) (laws_eqStored.LH k) 0 (loopsOf (bodyOf Tryd.f31)) :=
  (show loopsOf (bodyOf Tryd.f31) = [] by kernel_rfl) ▸ LOK_nil
def laws_eqStored.sig : List PSh := [.agg [.sc, .sc, .sc, .sc], .agg [.sc, .sc, .sc, .sc]]
def laws_eqStored.g (y : Bool) : Ret κ := ⟨.v (.bool y), [], []⟩
def laws_eqStored.out (r : Ret κ) : Option Bool :=
  match r with
  | ⟨.v (.bool z0), [], []⟩ => some (z0)
  | _ => none
theorem laws_eqStored.out_ok (r : Ret κ) (y : Bool) (h : laws_eqStored.out r = some y) : r = laws_eqStored.g y := by
  unfold laws_eqStored.out at h
  split at h
  · obtain rfl := Option.some.inj h
    rfl
  · cases h
def laws_eqStored.body (k : Nat) (vs : List AV) (bs : List (Blk κ)) : Option (Lf κ) :=
  match vs, bs with
  | [.agg [.int .i64 a0_0, .int .i64 a0_1, .int .i64 a0_2, .int .i64 a0_3], .agg [.int .i64 a1_0, .int .i64 a1_1, .int .i64 a1_2, .int .i64 a1_3]], [] => some ⟨Bool, laws_eqStored.f k a0_0 a0_1 a0_2 a0_3 a1_0 a1_1 a1_2 a1_3, laws_eqStored.g⟩
  | _, _ => none
def laws_eqStored.C (k : Nat) : Nat → List AV → AP κ AV := contract laws_eqStored.sig (laws_eqStored.body k)
theorem laws_eqStored.den (k : Nat) (a0_0 : Int) (a0_1 : Int) (a0_2 : Int) (a0_3 : Int) (a1_0 : Int) (a1_1 : Int) (a1_2 : Int) (a1_3 : Int) : Code.den ti (laws_eqStored.Γ k) (laws_eqStored.LH k) (bodyOf Tryd.f31) (finK ti Tryd.f31.results.toList [] (flags laws_eqStored.sig).length (rwI (flags laws_eqStored.sig) 0) laws_eqStored.out) ⟨envOf (([.agg [.int .i64 a0_0, .int .i64 a0_1, .int .i64 a0_2, .int .i64 a0_3], .agg [.int .i64 a1_0, .int .i64 a1_1, .int .i64 a1_2, .int .i64 a1_3]]).zipIdx.map fun q => (q.2, q.1)), hpOf [], (flags laws_eqStored.sig).length⟩ = laws_eqStored.f k a0_0 a0_1 a0_2 a0_3 a1_0 a1_1 a1_2 a1_3 := by kernel_rfl
theorem laws_eqStored.ok (k : Nat) : CSound Tryd.prog 31 (laws_eqStored.C k) :=
  csound κ_ok mixed tok (laws_eqStored.hΓ k) (LH := laws_eqStored.LH k) (fn := Tryd.f31) (c := bodyOf Tryd.f31) Tryd.func31 rfl Tryd.call31 laws_eqStored.sig [] (laws_eqStored.body k) (by kernel_rfl) (laws_eqStored.lok k) (by decide) fun vs bs lf y hl hb hy => by
    unfold laws_eqStored.body at hb
    split at hb
    · obtain rfl := Option.some.inj hb
      exact ⟨laws_eqStored.out, laws_eqStored.out_ok, (laws_eqStored.den k _ _ _ _ _ _ _ _).trans hy⟩
    · cases hb
/-! ### laws_eqStoredS -/
def laws_eqStoredS.L4 {R : Type} (k : Nat) (xl0 : List T_impl_Stored) (xl1 : List T_impl_Stored) (X0 : Bool → Option R) (X1 : Unit → Option R) (rec : Int → Option R) (x2 : Int) : Option R :=
  (bif decide (x2 < (xl0.length : Int)) then (bif decide (0 ≤ x2) then (bif decide (x2 < (xl0.length : Int)) then (bif decide (0 ≤ x2) then (bif decide (x2 < (xl1.length : Int)) then (laws_eqStored.f k ((rd_impl_Stored xl0 x2).f0) ((rd_impl_Stored xl0 x2).f1) ((rd_impl_Stored xl0 x2).f2) ((rd_impl_Stored xl0 x2).f3) ((rd_impl_Stored xl1 x2).f0) ((rd_impl_Stored xl1 x2).f1) ((rd_impl_Stored xl1 x2).f2) ((rd_impl_Stored xl1 x2).f3)).bind fun t1 => (bif !t1 then (X0 false) else (rec (w64 (x2 + (1 : Int))))) else none) else none) else none) else none) else (X1 ()))
def laws_eqStoredS.l4 {R : Type} (k : Nat) (xl0 : List T_impl_Stored) (xl1 : List T_impl_Stored) (X0 : Bool → Option R) (X1 : Unit → Option R) : Nat → Int → Option R
  | 0 => fun _ => none
  | n + 1 => laws_eqStoredS.L4 k xl0 xl1 X0 X1 (laws_eqStoredS.l4 k xl0 xl1 X0 X1 n)
def laws_eqStoredS.f (k : Nat) (a0 : List T_impl_Stored) (a1 : List T_impl_Stored) : Option Bool :=
  (bif ((a0.length : Int) != (a1.length : Int)) then some false else (laws_eqStoredS.l4 k a0 a1 (fun (y2 : Bool) => some y2) (fun (_ : Unit) => some true) k (0 : Int)))
def laws_eqStoredS.h4 (k : Nat) {R : Type} (K : Ex → St κ → Option R) (vs : List AV) (bs : List (Blk κ)) : Option R :=
  match vs, bs with
  | [.v (.sl 0), .v (.sl 1), .v (.int .i64 x2)], [qb0, qb1] => (asO 9 false qb0).bind fun xl0 => (asO 9 false qb1).bind fun xl1 => laws_eqStoredS.l4 k xl0 xl1 (fun (z0 : Bool) => K .ret (stOf [(4, [])] [.v (.bool z0)] [.rows 9 false xl0, .rows 9 false xl1])) (fun (_ : Unit) => K (.exit 0) (stOf [(4, [])] [.v .any] [.rows 9 false xl0, .rows 9 false xl1])) k x2
  | _, _ => none
def laws_eqStoredS.Γ (k : Nat) : Ct κ := assoc [(31, laws_eqStored.C k)]
def laws_eqStoredS.LH (k : Nat) : Nat → Option (LHi κ) := assoc [(4, ⟨2, [(0, [some 9]), (1, [some 9]), (5, [])], [(4, [])], @laws_eqStoredS.h4 k⟩)]
theorem laws_eqStoredS.hΓ (k : Nat) : ∀ f g, laws_eqStoredS.Γ k f = some g → CSound Tryd.prog f g := G_cons (laws_eqStored.ok k) G_nil
theorem laws_eqStoredS.e4 {R : Type} (K : Ex → St κ → Option R) (k : Nat) (xl0 : List T_impl_Stored) (xl1 : List T_impl_Stored) : ∀ (n : Nat) (x2 : Int), loopN 2 (Code.den ti (laws_eqStoredS.Γ k) (laws_eqStoredS.LH k) (loopAt Tryd.f16 0)) [(0, [some 9]), (1, [some 9]), (5, [])] [(4, [])] K n [.v (.sl 0), .v (.sl 1), .v (.int .i64 x2)] [.rows 9 false xl0, .rows 9 false xl1] = laws_eqStoredS.l4 k xl0 xl1 (fun (z0 : Bool) => K .ret (stOf [(4, [])] [.v (.bool z0)] [.rows 9 false xl0, .rows 9 false xl1])) (fun (_ : Unit) => K (.exit 0) (stOf [(4, [])] [.v .any] [.rows 9 false xl0, .rows 9 false xl1])) n x2
  | 0, _ => rfl
  | n + 1, x2 => (show loopN 2 (Code.den ti (laws_eqStoredS.Γ k) (laws_eqStoredS.LH k) (loopAt Tryd.f16 0)) [(0, [some 9]), (1, [some 9]), (5, [])] [(4, [])] K (n + 1) [.v (.sl 0), .v (.sl 1), .v (.int .i64 x2)] [.rows 9 false xl0, .rows 9 false xl1] = laws_eqStoredS.L4 k xl0 xl1 (fun (z0 : Bool) => K .ret (stOf [(4, [])] [.v (.bool z0)] [.rows 9 false xl0, .rows 9 false xl1])) (fun (_ : Unit) => K (.exit 0) (stOf [(4, [])] [.v .any] [.rows 9 false xl0, .rows 9 false xl1])) (fun (x2' : Int) => loopN 2 (Code.den ti (laws_eqStoredS.Γ k) (laws_eqStoredS.LH k) (loopAt Tryd.f16 0)) [(0, [some 9]), (1, [some 9]), (5, [])] [(4, [])] K n [.v (.sl 0), .v (.sl 1), .v (.int .i64 x2')] [.rows 9 false xl0, .rows 9 false xl1]) x2 by kernel_rfl).trans (congrArg (fun rec => laws_eqStoredS.L4 k xl0 xl1 (fun (z0 : Bool) => K .ret (stOf [(4, [])] [.v (.bool z0)] [.rows 9 false xl0, .rows 9 false xl1])) (fun (_ : Unit) => K (.exit 0) (stOf [(4, [])] [.v .any] [.rows 9 false xl0, .rows 9 false xl1])) rec x2) (funext fun x2' => laws_eqStoredS.e4 K k xl0 xl1 n x2'))
theorem laws_eqStoredS.q4 (k : Nat) {R : Type} (K : Ex → St κ → Option R) (vs : List AV) (bs : List (Blk κ)) (r : R) (h : laws_eqStoredS.h4 k K vs bs = some r) : ∃ n, loopN 2 (Code.den ti (laws_eqStoredS.Γ k) (laws_eqStoredS.LH k) (loopAt Tryd.f16 0)) [(0, [some 9]), (1, [some 9]), (5, [])] [(4, [])] K n vs bs = some r := by
  unfold laws_eqStoredS.h4 at h
  split at h
  · obtain ⟨_, rfl, h_1⟩ := asO_bind h
    obtain ⟨_, rfl, h_2⟩ := asO_bind h_1
    exact ⟨k, (laws_eqStoredS.e4 K k _ _ k _).trans h_2⟩
  · cases h
theorem laws_eqStoredS.lok (k : Nat) : LOK ti (laws_eqStoredS.Γ k) (laws_eqStoredS.LH k) 2 (loopsOf (bodyOf Tryd.f16)) :=
  (show loopsOf (bodyOf Tryd.f16) = [loopAt Tryd.f16 0] by kernel_rfl) ▸ (LOK_cons (g := ⟨2, [(0, [some 9]), (1, [some 9]), (5, [])], [(4, [])], @laws_eqStoredS.h4 k⟩) (by kernel_rfl) rfl (fun K vs xs r h => laws_eqStoredS.q4 k K vs xs r h) (LOK_nil))
def laws_eqStoredS.sig : List PSh := [.one (.ro 9), .one (.ro 9)]
def laws_eqStoredS.g (y : Bool) : Ret κ := ⟨.v (.bool y), [], []⟩
def laws_eqStoredS.out (r : Ret κ) : Option Bool :=
  match r with
  | ⟨.v (.bool z0), [], []⟩ => some (z0)
  | _ => none
theorem laws_eqStoredS.out_ok (r : Ret κ) (y : Bool) (h : laws_eqStoredS.out r = some y) : r = laws_eqStoredS.g y := by
  unfold laws_eqStoredS.out at h
  split at h
  · obtain rfl := Option.some.inj h
    rfl
  · cases h
def laws_eqStoredS.body (k : Nat) (vs : List AV) (bs : List (Blk κ)) : Option (Lf κ) :=
  match vs, bs with
  | [.v (.sl 0), .v (.sl 1)], [qb0, qb1] => (asO 9 false qb0).bind fun a0 => (asO 9 false qb1).bind fun a1 => some ⟨Bool, laws_eqStoredS.f k a0 a1, laws_eqStoredS.g⟩
  | _, _ => none
def laws_eqStoredS.C (k : Nat) : Nat → List AV → AP κ AV := contract laws_eqStoredS.sig (laws_eqStoredS.body k)
theorem laws_eqStoredS.den (k : Nat) (a0 : List T_impl_Stored) (a1 : List T_impl_Stored) : Code.den ti (laws_eqStoredS.Γ k) (laws_eqStoredS.LH k) (bodyOf Tryd.f16) (finK ti Tryd.f16.results.toList [] (flags laws_eqStoredS.sig).length (rwI (flags laws_eqStoredS.sig) 0) laws_eqStoredS.out) ⟨envOf (([.v (.sl 0), .v (.sl 1)]).zipIdx.map fun q => (q.2, q.1)), hpOf [.rows 9 false a0, .rows 9 false a1], (flags laws_eqStoredS.sig).length⟩ = laws_eqStoredS.f k a0 a1 := by kernel_rfl
theorem laws_eqStoredS.ok (k : Nat) : CSound Tryd.prog 16 (laws_eqStoredS.C k) :=
  csound κ_ok mixed tok (laws_eqStoredS.hΓ k) (LH := laws_eqStoredS.LH k) (fn := Tryd.f16) (c := bodyOf Tryd.f16) Tryd.func16 rfl Tryd.call16 laws_eqStoredS.sig [] (laws_eqStoredS.body k) (by kernel_rfl) (laws_eqStoredS.lok k) (by decide) fun vs bs lf y hl hb hy => by
    unfold laws_eqStoredS.body at hb
    split at hb
    · obtain ⟨_, rfl, hb_1⟩ := asO_bind hb
      obtain ⟨_, rfl, hb_2⟩ := asO_bind hb_1
      obtain rfl := Option.some.inj hb_2
      exact ⟨laws_eqStoredS.out, laws_eqStoredS.out_ok, (laws_eqStoredS.den k _ _).trans hy⟩
    · cases hb
/-! ### laws_eqSnapshot -/
def laws_eqSnapshot.f (k : Nat) (a0_0 : Int) (a0_1 : Int) (a0_2 : Int) (a0_3 : List T_impl_Grant) (a0_4 : List T_impl_Flow) (a0_5 : List T_impl_Rule) (a0_6 : List T_impl_Op) (a0_7 : Int) (a0_8 : List T_impl_Stored) (a1_0 : Int) (a1_1 : Int) (a1_2 : Int) (a1_3 : List T_impl_Grant) (a1_4 : List T_impl_Flow) (a1_5 : List T_impl_Rule) (a1_6 : List T_impl_Op) (a1_7 : Int) (a1_8 : List T_impl_Stored) : Option Bool :=
  (laws_eqPackage.f k a0_0 a0_1 a0_2 a0_3 a0_4 a0_5 a0_6 a0_7 a1_0 a1_1 a1_2 a1_3 a1_4 a1_5 a1_6 a1_7).bind fun t1 => (bif !t1 then some false else (laws_eqStoredS.f k a0_8 a1_8).bind fun t2 => (bif !t2 then some false else some true))
def laws_eqSnapshot.Γ (k : Nat) : Ct κ := assoc [(15, laws_eqPackage.C k), (16, laws_eqStoredS.C k)]
def laws_eqSnapshot.LH (k : Nat) : Nat → Option (LHi κ) := assoc []
theorem laws_eqSnapshot.hΓ (k : Nat) : ∀ f g, laws_eqSnapshot.Γ k f = some g → CSound Tryd.prog f g := G_cons (laws_eqPackage.ok k) (G_cons (laws_eqStoredS.ok k) G_nil)
theorem laws_eqSnapshot.lok (k : Nat) : LOK ti (laws_eqSnapshot.Γ k) (laws_eqSnapshot.LH k) 10 (loopsOf (bodyOf Tryd.f8)) :=
  (show loopsOf (bodyOf Tryd.f8) = [] by kernel_rfl) ▸ LOK_nil
def laws_eqSnapshot.sig : List PSh := [.agg [.sc, .sc, .sc, .ro 5, .ro 6, .ro 7, .ro 8, .sc, .ro 9], .agg [.sc, .sc, .sc, .ro 5, .ro 6, .ro 7, .ro 8, .sc, .ro 9]]
def laws_eqSnapshot.g (y : Bool) : Ret κ := ⟨.v (.bool y), [], []⟩
def laws_eqSnapshot.out (r : Ret κ) : Option Bool :=
  match r with
  | ⟨.v (.bool z0), [], []⟩ => some (z0)
  | _ => none
theorem laws_eqSnapshot.out_ok (r : Ret κ) (y : Bool) (h : laws_eqSnapshot.out r = some y) : r = laws_eqSnapshot.g y := by
  unfold laws_eqSnapshot.out at h
  split at h
  · obtain rfl := Option.some.inj h
    rfl
  · cases h
def laws_eqSnapshot.body (k : Nat) (vs : List AV) (bs : List (Blk κ)) : Option (Lf κ) :=
  match vs, bs with
  | [.agg [.int .i64 a0_0, .int .i64 a0_1, .int .i64 a0_2, .sl 0, .sl 1, .sl 2, .sl 3, .int .i64 a0_7, .sl 4], .agg [.int .i64 a1_0, .int .i64 a1_1, .int .i64 a1_2, .sl 5, .sl 6, .sl 7, .sl 8, .int .i64 a1_7, .sl 9]], [qb0, qb1, qb2, qb3, qb4, qb5, qb6, qb7, qb8, qb9] => (asO 5 false qb0).bind fun a0_3 => (asO 6 false qb1).bind fun a0_4 => (asO 7 false qb2).bind fun a0_5 => (asO 8 false qb3).bind fun a0_6 => (asO 9 false qb4).bind fun a0_8 => (asO 5 false qb5).bind fun a1_3 => (asO 6 false qb6).bind fun a1_4 => (asO 7 false qb7).bind fun a1_5 => (asO 8 false qb8).bind fun a1_6 => (asO 9 false qb9).bind fun a1_8 => some ⟨Bool, laws_eqSnapshot.f k a0_0 a0_1 a0_2 a0_3 a0_4 a0_5 a0_6 a0_7 a0_8 a1_0 a1_1 a1_2 a1_3 a1_4 a1_5 a1_6 a1_7 a1_8, laws_eqSnapshot.g⟩
  | _, _ => none
def laws_eqSnapshot.C (k : Nat) : Nat → List AV → AP κ AV := contract laws_eqSnapshot.sig (laws_eqSnapshot.body k)
theorem laws_eqSnapshot.den (k : Nat) (a0_0 : Int) (a0_1 : Int) (a0_2 : Int) (a0_3 : List T_impl_Grant) (a0_4 : List T_impl_Flow) (a0_5 : List T_impl_Rule) (a0_6 : List T_impl_Op) (a0_7 : Int) (a0_8 : List T_impl_Stored) (a1_0 : Int) (a1_1 : Int) (a1_2 : Int) (a1_3 : List T_impl_Grant) (a1_4 : List T_impl_Flow) (a1_5 : List T_impl_Rule) (a1_6 : List T_impl_Op) (a1_7 : Int) (a1_8 : List T_impl_Stored) : Code.den ti (laws_eqSnapshot.Γ k) (laws_eqSnapshot.LH k) (bodyOf Tryd.f8) (finK ti Tryd.f8.results.toList [] (flags laws_eqSnapshot.sig).length (rwI (flags laws_eqSnapshot.sig) 0) laws_eqSnapshot.out) ⟨envOf (([.agg [.int .i64 a0_0, .int .i64 a0_1, .int .i64 a0_2, .sl 0, .sl 1, .sl 2, .sl 3, .int .i64 a0_7, .sl 4], .agg [.int .i64 a1_0, .int .i64 a1_1, .int .i64 a1_2, .sl 5, .sl 6, .sl 7, .sl 8, .int .i64 a1_7, .sl 9]]).zipIdx.map fun q => (q.2, q.1)), hpOf [.rows 5 false a0_3, .rows 6 false a0_4, .rows 7 false a0_5, .rows 8 false a0_6, .rows 9 false a0_8, .rows 5 false a1_3, .rows 6 false a1_4, .rows 7 false a1_5, .rows 8 false a1_6, .rows 9 false a1_8], (flags laws_eqSnapshot.sig).length⟩ = laws_eqSnapshot.f k a0_0 a0_1 a0_2 a0_3 a0_4 a0_5 a0_6 a0_7 a0_8 a1_0 a1_1 a1_2 a1_3 a1_4 a1_5 a1_6 a1_7 a1_8 := by kernel_rfl
theorem laws_eqSnapshot.ok (k : Nat) : CSound Tryd.prog 8 (laws_eqSnapshot.C k) :=
  csound κ_ok mixed tok (laws_eqSnapshot.hΓ k) (LH := laws_eqSnapshot.LH k) (fn := Tryd.f8) (c := bodyOf Tryd.f8) Tryd.func8 rfl Tryd.call8 laws_eqSnapshot.sig [] (laws_eqSnapshot.body k) (by kernel_rfl) (laws_eqSnapshot.lok k) (by decide) fun vs bs lf y hl hb hy => by
    unfold laws_eqSnapshot.body at hb
    split at hb
    · obtain ⟨_, rfl, hb_1⟩ := asO_bind hb
      obtain ⟨_, rfl, hb_2⟩ := asO_bind hb_1
      obtain ⟨_, rfl, hb_3⟩ := asO_bind hb_2
      obtain ⟨_, rfl, hb_4⟩ := asO_bind hb_3
      obtain ⟨_, rfl, hb_5⟩ := asO_bind hb_4
      obtain ⟨_, rfl, hb_6⟩ := asO_bind hb_5
      obtain ⟨_, rfl, hb_7⟩ := asO_bind hb_6
      obtain ⟨_, rfl, hb_8⟩ := asO_bind hb_7
      obtain ⟨_, rfl, hb_9⟩ := asO_bind hb_8
      obtain ⟨_, rfl, hb_10⟩ := asO_bind hb_9
      obtain rfl := Option.some.inj hb_10
      exact ⟨laws_eqSnapshot.out, laws_eqSnapshot.out_ok, (laws_eqSnapshot.den k _ _ _ _ _ _ _ _ _ _ _ _ _ _ _ _ _ _).trans hy⟩
    · cases hb
/-! ### laws_FnExactSnapshotText -/
def laws_FnExactSnapshotText.f (k : Nat) (a0_0 : Int) (a0_1 : Int) (a0_2 : Int) (a0_3 : List T_laws_Grant) (a0_4 : List T_laws_Flow) (a0_5 : List T_laws_Rule) (a0_6 : List T_laws_Op) (a0_7 : Int) (a0_8 : List T_laws_Stored) : Option Bool :=
  (laws_szSnapshot.f k a0_0 a0_1 a0_2 a0_3 a0_4 a0_5 a0_6 a0_7 a0_8 (1048576 : Int)).bind fun t1 => (bif decide (t1 < (0 : Int)) then some true else (laws_toSnapshot.f k a0_0 a0_1 a0_2 a0_3 a0_4 a0_5 a0_6 a0_7 a0_8).bind fun t2 => (spec_SnapshotText.f k t2.1 t2.2.1 t2.2.2.1 t2.2.2.2.2.1 t2.2.2.2.2.2.1 t2.2.2.2.2.2.2.1 t2.2.2.2.2.2.2.2.1 t2.2.2.2.1 t2.2.2.2.2.2.2.2.2).bind fun t3 => (laws_toSnapshot.f k a0_0 a0_1 a0_2 a0_3 a0_4 a0_5 a0_6 a0_7 a0_8).bind fun t4 => (impl_SnapshotText.f k t4.1 t4.2.1 t4.2.2.1 t4.2.2.2.2.1 t4.2.2.2.2.2.1 t4.2.2.2.2.2.2.1 t4.2.2.2.2.2.2.2.1 t4.2.2.2.1 t4.2.2.2.2.2.2.2.2).bind fun t5 => (bif !(t5.toList == t3.toList) then some false else (laws_toSnapshot.f k a0_0 a0_1 a0_2 a0_3 a0_4 a0_5 a0_6 a0_7 a0_8).bind fun t6 => (laws_eqSnapshot.f k t4.1 t4.2.1 t4.2.2.1 t4.2.2.2.2.1 t4.2.2.2.2.2.1 t4.2.2.2.2.2.2.1 t4.2.2.2.2.2.2.2.1 t4.2.2.2.1 t4.2.2.2.2.2.2.2.2 t6.1 t6.2.1 t6.2.2.1 t6.2.2.2.2.1 t6.2.2.2.2.2.1 t6.2.2.2.2.2.2.1 t6.2.2.2.2.2.2.2.1 t6.2.2.2.1 t6.2.2.2.2.2.2.2.2).bind fun t7 => (bif !t7 then some false else some true)))
def laws_FnExactSnapshotText.Γ (k : Nat) : Ct κ := assoc [(4, laws_szSnapshot.C k), (6, laws_toSnapshot.C k), (5, spec_SnapshotText.C k), (7, impl_SnapshotText.C k), (8, laws_eqSnapshot.C k)]
def laws_FnExactSnapshotText.LH (k : Nat) : Nat → Option (LHi κ) := assoc []
theorem laws_FnExactSnapshotText.hΓ (k : Nat) : ∀ f g, laws_FnExactSnapshotText.Γ k f = some g → CSound Tryd.prog f g := G_cons (laws_szSnapshot.ok k) (G_cons (laws_toSnapshot.ok k) (G_cons (spec_SnapshotText.ok k) (G_cons (impl_SnapshotText.ok k) (G_cons (laws_eqSnapshot.ok k) G_nil))))
theorem laws_FnExactSnapshotText.lok (k : Nat) : LOK ti (laws_FnExactSnapshotText.Γ k) (laws_FnExactSnapshotText.LH k) 5 (loopsOf (bodyOf Tryd.f3)) :=
  (show loopsOf (bodyOf Tryd.f3) = [] by kernel_rfl) ▸ LOK_nil
def laws_FnExactSnapshotText.sig : List PSh := [.agg [.sc, .sc, .sc, .ro 0, .ro 1, .ro 2, .ro 3, .sc, .ro 4]]
def laws_FnExactSnapshotText.g (y : Bool) : Ret κ := ⟨.v (.bool y), [], []⟩
def laws_FnExactSnapshotText.out (r : Ret κ) : Option Bool :=
  match r with
  | ⟨.v (.bool z0), [], []⟩ => some (z0)
  | _ => none
theorem laws_FnExactSnapshotText.out_ok (r : Ret κ) (y : Bool) (h : laws_FnExactSnapshotText.out r = some y) : r = laws_FnExactSnapshotText.g y := by
  unfold laws_FnExactSnapshotText.out at h
  split at h
  · obtain rfl := Option.some.inj h
    rfl
  · cases h
def laws_FnExactSnapshotText.body (k : Nat) (vs : List AV) (bs : List (Blk κ)) : Option (Lf κ) :=
  match vs, bs with
  | [.agg [.int .i64 a0_0, .int .i64 a0_1, .int .i64 a0_2, .sl 0, .sl 1, .sl 2, .sl 3, .int .i64 a0_7, .sl 4]], [qb0, qb1, qb2, qb3, qb4] => (asO 0 false qb0).bind fun a0_3 => (asO 1 false qb1).bind fun a0_4 => (asO 2 false qb2).bind fun a0_5 => (asO 3 false qb3).bind fun a0_6 => (asO 4 false qb4).bind fun a0_8 => some ⟨Bool, laws_FnExactSnapshotText.f k a0_0 a0_1 a0_2 a0_3 a0_4 a0_5 a0_6 a0_7 a0_8, laws_FnExactSnapshotText.g⟩
  | _, _ => none
def laws_FnExactSnapshotText.C (k : Nat) : Nat → List AV → AP κ AV := contract laws_FnExactSnapshotText.sig (laws_FnExactSnapshotText.body k)
theorem laws_FnExactSnapshotText.den (k : Nat) (a0_0 : Int) (a0_1 : Int) (a0_2 : Int) (a0_3 : List T_laws_Grant) (a0_4 : List T_laws_Flow) (a0_5 : List T_laws_Rule) (a0_6 : List T_laws_Op) (a0_7 : Int) (a0_8 : List T_laws_Stored) : Code.den ti (laws_FnExactSnapshotText.Γ k) (laws_FnExactSnapshotText.LH k) (bodyOf Tryd.f3) (finK ti Tryd.f3.results.toList [] (flags laws_FnExactSnapshotText.sig).length (rwI (flags laws_FnExactSnapshotText.sig) 0) laws_FnExactSnapshotText.out) ⟨envOf (([.agg [.int .i64 a0_0, .int .i64 a0_1, .int .i64 a0_2, .sl 0, .sl 1, .sl 2, .sl 3, .int .i64 a0_7, .sl 4]]).zipIdx.map fun q => (q.2, q.1)), hpOf [.rows 0 false a0_3, .rows 1 false a0_4, .rows 2 false a0_5, .rows 3 false a0_6, .rows 4 false a0_8], (flags laws_FnExactSnapshotText.sig).length⟩ = laws_FnExactSnapshotText.f k a0_0 a0_1 a0_2 a0_3 a0_4 a0_5 a0_6 a0_7 a0_8 := by kernel_rfl
theorem laws_FnExactSnapshotText.ok (k : Nat) : CSound Tryd.prog 3 (laws_FnExactSnapshotText.C k) :=
  csound κ_ok mixed tok (laws_FnExactSnapshotText.hΓ k) (LH := laws_FnExactSnapshotText.LH k) (fn := Tryd.f3) (c := bodyOf Tryd.f3) Tryd.func3 rfl Tryd.call3 laws_FnExactSnapshotText.sig [] (laws_FnExactSnapshotText.body k) (by kernel_rfl) (laws_FnExactSnapshotText.lok k) (by decide) fun vs bs lf y hl hb hy => by
    unfold laws_FnExactSnapshotText.body at hb
    split at hb
    · obtain ⟨_, rfl, hb_1⟩ := asO_bind hb
      obtain ⟨_, rfl, hb_2⟩ := asO_bind hb_1
      obtain ⟨_, rfl, hb_3⟩ := asO_bind hb_2
      obtain ⟨_, rfl, hb_4⟩ := asO_bind hb_3
      obtain ⟨_, rfl, hb_5⟩ := asO_bind hb_4
      obtain rfl := Option.some.inj hb_5
      exact ⟨laws_FnExactSnapshotText.out, laws_FnExactSnapshotText.out_ok, (laws_FnExactSnapshotText.den k _ _ _ _ _ _ _ _ _).trans hy⟩
    · cases hb
end Go.Proofs.YthingkcckjiniaaDoor.PFnExactSnapshotText
