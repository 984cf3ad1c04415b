/- What the functions that the law FnExactRestoreStore reaches come to; no conditions. -/
import Derived.Test.YtmjflahlhgibnaaPFnExactRestoreStore3
set_option linter.unusedVariables false
set_option maxRecDepth 100000
namespace Go.Proofs.Ytmjflahlhgibnaa.PFnExactRestoreStore
open Go Go.Eng Go.Proofs
/-! ### laws_eqGrant -/
def laws_eqGrant.f (k : Nat) (a0_0 : Int) (a0_1 : Int) (a0_2 : Int) (a0_3 : Int) (a0_4 : Int) (a0_5 : Int) (a0_6 : Bool) (a1_0 : Int) (a1_1 : Int) (a1_2 : Int) (a1_3 : Int) (a1_4 : Int) (a1_5 : Int) (a1_6 : Bool) : Option Bool :=
  (bif (a0_0 != a1_0) then some false else (laws_eqPattern.f k a0_1 a0_2 a1_1 a1_2).bind fun t1 => (bif !t1 then some false else (bif (a0_3 != a1_3) then some false else (bif (a0_4 != a1_4) then some false else (bif (a0_5 != a1_5) then some false else (bif !(a0_6 == a1_6) then some false else some true))))))
def laws_eqGrant.Γ (k : Nat) : Ct κ := assoc [(121, laws_eqPattern.C k)]
def laws_eqGrant.LH (k : Nat) : Nat → Option (LHi κ) := assoc []
theorem laws_eqGrant.hΓ (k : Nat) : ∀ f g, laws_eqGrant.Γ k f = some g → CSound Try.prog f g := G_cons (laws_eqPattern.ok k) G_nil
theorem laws_eqGrant.lok (k : Nat) : LOK ti (laws_eqGrant.Γ k) (laws_eqGrant.LH k) 0 (loopsOf (bodyOf Try.f108)) :=
  (show loopsOf (bodyOf Try.f108) = [] by kernel_rfl) ▸ LOK_nil
def laws_eqGrant.sig : List PSh := [.agg [.sc, .sc, .sc, .sc, .sc, .sc, .sc], .agg [.sc, .sc, .sc, .sc, .sc, .sc, .sc]]
def laws_eqGrant.g (y : Bool) : Ret κ := ⟨.v (.bool y), [], []⟩
def laws_eqGrant.out (r : Ret κ) : Option Bool :=
  match r with
  | ⟨.v (.bool z0), [], []⟩ => some (z0)
  | _ => none
theorem laws_eqGrant.out_ok (r : Ret κ) (y : Bool) (h : laws_eqGrant.out r = some y) : r = laws_eqGrant.g y := by
  unfold laws_eqGrant.out at h
  split at h
  · obtain rfl := Option.some.inj h
    rfl
  · cases h
def laws_eqGrant.body (k : Nat) (vs : List AV) (bs : List (Blk κ)) : Option (Lf κ) :=
  match vs, bs with
  | [.agg [.int .i64 a0_0, .int .i64 a0_1, .int .i64 a0_2, .int .i64 a0_3, .int .i64 a0_4, .int .i64 a0_5, .bool a0_6], .agg [.int .i64 a1_0, .int .i64 a1_1, .int .i64 a1_2, .int .i64 a1_3, .int .i64 a1_4, .int .i64 a1_5, .bool a1_6]], [] => some ⟨Bool, laws_eqGrant.f k a0_0 a0_1 a0_2 a0_3 a0_4 a0_5 a0_6 a1_0 a1_1 a1_2 a1_3 a1_4 a1_5 a1_6, laws_eqGrant.g⟩
  | _, _ => none
def laws_eqGrant.C (k : Nat) : Nat → List AV → AP κ AV := contract laws_eqGrant.sig (laws_eqGrant.body k)
theorem laws_eqGrant.den (k : Nat) (a0_0 : Int) (a0_1 : Int) (a0_2 : Int) (a0_3 : Int) (a0_4 : Int) (a0_5 : Int) (a0_6 : Bool) (a1_0 : Int) (a1_1 : Int) (a1_2 : Int) (a1_3 : Int) (a1_4 : Int) (a1_5 : Int) (a1_6 : Bool) : Code.den ti (laws_eqGrant.Γ k) (laws_eqGrant.LH k) (bodyOf Try.f108) (finK ti Try.f108.results.toList [] (flags laws_eqGrant.sig).length (rwI (flags laws_eqGrant.sig) 0) laws_eqGrant.out) ⟨envOf (([.agg [.int .i64 a0_0, .int .i64 a0_1, .int .i64 a0_2, .int .i64 a0_3, .int .i64 a0_4, .int .i64 a0_5, .bool a0_6], .agg [.int .i64 a1_0, .int .i64 a1_1, .int .i64 a1_2, .int .i64 a1_3, .int .i64 a1_4, .int .i64 a1_5, .bool a1_6]]).zipIdx.map fun q => (q.2, q.1)), hpOf [], (flags laws_eqGrant.sig).length⟩ = laws_eqGrant.f k a0_0 a0_1 a0_2 a0_3 a0_4 a0_5 a0_6 a1_0 a1_1 a1_2 a1_3 a1_4 a1_5 a1_6 := by kernel_rfl
theorem laws_eqGrant.ok (k : Nat) : CSound Try.prog 108 (laws_eqGrant.C k) :=
  csound κ_ok mixed tok (laws_eqGrant.hΓ k) (LH := laws_eqGrant.LH k) (fn := Try.f108) (c := bodyOf Try.f108) Try.func108 rfl Try.call108 laws_eqGrant.sig [] (laws_eqGrant.body k) (by kernel_rfl) (laws_eqGrant.lok k) (by decide) fun vs bs lf y hl hb hy => by
    unfold laws_eqGrant.body at hb
    split at hb
    · obtain rfl := Option.some.inj hb
      exact ⟨laws_eqGrant.out, laws_eqGrant.out_ok, (laws_eqGrant.den k _ _ _ _ _ _ _ _ _ _ _ _ _ _).trans hy⟩
    · cases hb
/-! ### laws_eqGrantS -/
def laws_eqGrantS.L4 {R : Type} (k : Nat) (xl0 : List T_impl_Grant) (xl1 : List T_impl_Grant) (X0 : Bool → Option R) (X1 : Unit → Option R) (rec : Int → Option R) (x2 : Int) : Option R :=
  (bif decide (x2 < (xl0.length : Int)) then (bif decide (0 ≤ x2) then (bif decide (x2 < (xl0.length : Int)) then (bif decide (0 ≤ x2) then (bif decide (x2 < (xl1.length : Int)) then (laws_eqGrant.f k ((rd_impl_Grant xl0 x2).f0) ((rd_impl_Grant xl0 x2).f1.f0) ((rd_impl_Grant xl0 x2).f1.f1) ((rd_impl_Grant xl0 x2).f2) ((rd_impl_Grant xl0 x2).f3) ((rd_impl_Grant xl0 x2).f4) ((rd_impl_Grant xl0 x2).f5) ((rd_impl_Grant xl1 x2).f0) ((rd_impl_Grant xl1 x2).f1.f0) ((rd_impl_Grant xl1 x2).f1.f1) ((rd_impl_Grant xl1 x2).f2) ((rd_impl_Grant xl1 x2).f3) ((rd_impl_Grant xl1 x2).f4) ((rd_impl_Grant xl1 x2).f5)).bind fun t1 => (bif !t1 then (X0 false) else (rec (w64 (x2 + (1 : Int))))) else none) else none) else none) else none) else (X1 ()))
def laws_eqGrantS.l4 {R : Type} (k : Nat) (xl0 : List T_impl_Grant) (xl1 : List T_impl_Grant) (X0 : Bool → Option R) (X1 : Unit → Option R) : Nat → Int → Option R
  | 0 => fun _ => none
  | n + 1 => laws_eqGrantS.L4 k xl0 xl1 X0 X1 (laws_eqGrantS.l4 k xl0 xl1 X0 X1 n)
def laws_eqGrantS.f (k : Nat) (a0 : List T_impl_Grant) (a1 : List T_impl_Grant) : Option Bool :=
  (bif ((a0.length : Int) != (a1.length : Int)) then some false else (laws_eqGrantS.l4 k a0 a1 (fun (y2 : Bool) => some y2) (fun (_ : Unit) => some true) k (0 : Int)))
def laws_eqGrantS.h4 (k : Nat) {R : Type} (K : Ex → St κ → Option R) (vs : List AV) (bs : List (Blk κ)) : Option R :=
  match vs, bs with
  | [.v (.sl 0), .v (.sl 1), .v (.int .i64 x2)], [qb0, qb1] => (asO 6 false qb0).bind fun xl0 => (asO 6 false qb1).bind fun xl1 => laws_eqGrantS.l4 k xl0 xl1 (fun (z0 : Bool) => K .ret (stOf [(4, [])] [.v (.bool z0)] [.rows 6 false xl0, .rows 6 false xl1])) (fun (_ : Unit) => K (.exit 0) (stOf [(4, [])] [.v .any] [.rows 6 false xl0, .rows 6 false xl1])) k x2
  | _, _ => none
def laws_eqGrantS.Γ (k : Nat) : Ct κ := assoc [(108, laws_eqGrant.C k)]
def laws_eqGrantS.LH (k : Nat) : Nat → Option (LHi κ) := assoc [(4, ⟨2, [(0, [some 6]), (1, [some 6]), (5, [])], [(4, [])], @laws_eqGrantS.h4 k⟩)]
theorem laws_eqGrantS.hΓ (k : Nat) : ∀ f g, laws_eqGrantS.Γ k f = some g → CSound Try.prog f g := G_cons (laws_eqGrant.ok k) G_nil
theorem laws_eqGrantS.e4 {R : Type} (K : Ex → St κ → Option R) (k : Nat) (xl0 : List T_impl_Grant) (xl1 : List T_impl_Grant) : ∀ (n : Nat) (x2 : Int), loopN 2 (Code.den ti (laws_eqGrantS.Γ k) (laws_eqGrantS.LH k) (loopAt Try.f80 0)) [(0, [some 6]), (1, [some 6]), (5, [])] [(4, [])] K n [.v (.sl 0), .v (.sl 1), .v (.int .i64 x2)] [.rows 6 false xl0, .rows 6 false xl1] = laws_eqGrantS.l4 k xl0 xl1 (fun (z0 : Bool) => K .ret (stOf [(4, [])] [.v (.bool z0)] [.rows 6 false xl0, .rows 6 false xl1])) (fun (_ : Unit) => K (.exit 0) (stOf [(4, [])] [.v .any] [.rows 6 false xl0, .rows 6 false xl1])) n x2
  | 0, _ => rfl
  | n + 1, x2 => (show loopN 2 (Code.den ti (laws_eqGrantS.Γ k) (laws_eqGrantS.LH k) (loopAt Try.f80 0)) [(0, [some 6]), (1, [some 6]), (5, [])] [(4, [])] K (n + 1) [.v (.sl 0), .v (.sl 1), .v (.int .i64 x2)] [.rows 6 false xl0, .rows 6 false xl1] = laws_eqGrantS.L4 k xl0 xl1 (fun (z0 : Bool) => K .ret (stOf [(4, [])] [.v (.bool z0)] [.rows 6 false xl0, .rows 6 false xl1])) (fun (_ : Unit) => K (.exit 0) (stOf [(4, [])] [.v .any] [.rows 6 false xl0, .rows 6 false xl1])) (fun (x2' : Int) => loopN 2 (Code.den ti (laws_eqGrantS.Γ k) (laws_eqGrantS.LH k) (loopAt Try.f80 0)) [(0, [some 6]), (1, [some 6]), (5, [])] [(4, [])] K n [.v (.sl 0), .v (.sl 1), .v (.int .i64 x2')] [.rows 6 false xl0, .rows 6 false xl1]) x2 by kernel_rfl).trans (congrArg (fun rec => laws_eqGrantS.L4 k xl0 xl1 (fun (z0 : Bool) => K .ret (stOf [(4, [])] [.v (.bool z0)] [.rows 6 false xl0, .rows 6 false xl1])) (fun (_ : Unit) => K (.exit 0) (stOf [(4, [])] [.v .any] [.rows 6 false xl0, .rows 6 false xl1])) rec x2) (funext fun x2' => laws_eqGrantS.e4 K k xl0 xl1 n x2'))
theorem laws_eqGrantS.q4 (k : Nat) {R : Type} (K : Ex → St κ → Option R) (vs : List AV) (bs : List (Blk κ)) (r : R) (h : laws_eqGrantS.h4 k K vs bs = some r) : ∃ n, loopN 2 (Code.den ti (laws_eqGrantS.Γ k) (laws_eqGrantS.LH k) (loopAt Try.f80 0)) [(0, [some 6]), (1, [some 6]), (5, [])] [(4, [])] K n vs bs = some r := by
  unfold laws_eqGrantS.h4 at h
  split at h
  · obtain ⟨_, rfl, h_1⟩ := asO_bind h
    obtain ⟨_, rfl, h_2⟩ := asO_bind h_1
    exact ⟨k, (laws_eqGrantS.e4 K k _ _ k _).trans h_2⟩
  · cases h
theorem laws_eqGrantS.lok (k : Nat) : LOK ti (laws_eqGrantS.Γ k) (laws_eqGrantS.LH k) 2 (loopsOf (bodyOf Try.f80)) :=
  (show loopsOf (bodyOf Try.f80) = [loopAt Try.f80 0] by kernel_rfl) ▸ (LOK_cons (g := ⟨2, [(0, [some 6]), (1, [some 6]), (5, [])], [(4, [])], @laws_eqGrantS.h4 k⟩) (by kernel_rfl) rfl (fun K vs xs r h => laws_eqGrantS.q4 k K vs xs r h) (LOK_nil))
def laws_eqGrantS.sig : List PSh := [.one (.ro 6), .one (.ro 6)]
def laws_eqGrantS.g (y : Bool) : Ret κ := ⟨.v (.bool y), [], []⟩
def laws_eqGrantS.out (r : Ret κ) : Option Bool :=
  match r with
  | ⟨.v (.bool z0), [], []⟩ => some (z0)
  | _ => none
theorem laws_eqGrantS.out_ok (r : Ret κ) (y : Bool) (h : laws_eqGrantS.out r = some y) : r = laws_eqGrantS.g y := by
  unfold laws_eqGrantS.out at h
  split at h
  · obtain rfl := Option.some.inj h
    rfl
  · cases h
def laws_eqGrantS.body (k : Nat) (vs : List AV) (bs : List (Blk κ)) : Option (Lf κ) :=
  match vs, bs with
  | [.v (.sl 0), .v (.sl 1)], [qb0, qb1] => (asO 6 false qb0).bind fun a0 => (asO 6 false qb1).bind fun a1 => some ⟨Bool, laws_eqGrantS.f k a0 a1, laws_eqGrantS.g⟩
  | _, _ => none
def laws_eqGrantS.C (k : Nat) : Nat → List AV → AP κ AV := contract laws_eqGrantS.sig (laws_eqGrantS.body k)
theorem laws_eqGrantS.den (k : Nat) (a0 : List T_impl_Grant) (a1 : List T_impl_Grant) : Code.den ti (laws_eqGrantS.Γ k) (laws_eqGrantS.LH k) (bodyOf Try.f80) (finK ti Try.f80.results.toList [] (flags laws_eqGrantS.sig).length (rwI (flags laws_eqGrantS.sig) 0) laws_eqGrantS.out) ⟨envOf (([.v (.sl 0), .v (.sl 1)]).zipIdx.map fun q => (q.2, q.1)), hpOf [.rows 6 false a0, .rows 6 false a1], (flags laws_eqGrantS.sig).length⟩ = laws_eqGrantS.f k a0 a1 := by kernel_rfl
theorem laws_eqGrantS.ok (k : Nat) : CSound Try.prog 80 (laws_eqGrantS.C k) :=
  csound κ_ok mixed tok (laws_eqGrantS.hΓ k) (LH := laws_eqGrantS.LH k) (fn := Try.f80) (c := bodyOf Try.f80) Try.func80 rfl Try.call80 laws_eqGrantS.sig [] (laws_eqGrantS.body k) (by kernel_rfl) (laws_eqGrantS.lok k) (by decide) fun vs bs lf y hl hb hy => by
    unfold laws_eqGrantS.body at hb
    split at hb
    · obtain ⟨_, rfl, hb_1⟩ := asO_bind hb
      obtain ⟨_, rfl, hb_2⟩ := asO_bind hb_1
      obtain rfl := Option.some.inj hb_2
      exact ⟨laws_eqGrantS.out, laws_eqGrantS.out_ok, (laws_eqGrantS.den k _ _).trans hy⟩
    · cases hb
/-! ### laws_eqFlow -/
def laws_eqFlow.f (k : Nat) (a0_0 : Int) (a0_1 : Int) (a0_2 : Int) (a1_0 : Int) (a1_1 : Int) (a1_2 : Int) : Option Bool :=
  (bif (a0_0 != a1_0) then some false else (bif (a0_1 != a1_1) then some false else (bif (a0_2 != a1_2) then some false else some true)))
def laws_eqFlow.Γ (k : Nat) : Ct κ := assoc []
def laws_eqFlow.LH (k : Nat) : Nat → Option (LHi κ) := assoc []
theorem laws_eqFlow.hΓ (k : Nat) : ∀ f g, laws_eqFlow.Γ k f = some g → CSound Try.prog f g := G_nil
theorem laws_eqFlow.lok (k : Nat) : LOK ti (laws_eqFlow.Γ k) (laws_eqFlow.LH k) 0 (loopsOf (bodyOf Try.f109)) :=
  (show loopsOf (bodyOf Try.f109) = [] by kernel_rfl) ▸ LOK_nil
def laws_eqFlow.sig : List PSh := [.agg [.sc, .sc, .sc], .agg [.sc, .sc, .sc]]
def laws_eqFlow.g (y : Bool) : Ret κ := ⟨.v (.bool y), [], []⟩
def laws_eqFlow.out (r : Ret κ) : Option Bool :=
  match r with
  | ⟨.v (.bool z0), [], []⟩ => some (z0)
  | _ => none
theorem laws_eqFlow.out_ok (r : Ret κ) (y : Bool) (h : laws_eqFlow.out r = some y) : r = laws_eqFlow.g y := by
  unfold laws_eqFlow.out at h
  split at h
  · obtain rfl := Option.some.inj h
    rfl
  · cases h
def laws_eqFlow.body (k : Nat) (vs : List AV) (bs : List (Blk κ)) : Option (Lf κ) :=
  match vs, bs with
  | [.agg [.int .i64 a0_0, .int .i64 a0_1, .int .i64 a0_2], .agg [.int .i64 a1_0, .int .i64 a1_1, .int .i64 a1_2]], [] => some ⟨Bool, laws_eqFlow.f k a0_0 a0_1 a0_2 a1_0 a1_1 a1_2, laws_eqFlow.g⟩
  | _, _ => none
def laws_eqFlow.C (k : Nat) : Nat → List AV → AP κ AV := contract laws_eqFlow.sig (laws_eqFlow.body k)
theorem laws_eqFlow.den (k : Nat) (a0_0 : Int) (a0_1 : Int) (a0_2 : Int) (a1_0 : Int) (a1_1 : Int) (a1_2 : Int) : Code.den ti (laws_eqFlow.Γ k) (laws_eqFlow.LH k) (bodyOf Try.f109) (finK ti Try.f109.results.toList [] (flags laws_eqFlow.sig).length (rwI (flags laws_eqFlow.sig) 0) laws_eqFlow.out) ⟨envOf (([.agg [.int .i64 a0_0, .int .i64 a0_1, .int .i64 a0_2], .agg [.int .i64 a1_0, .int .i64 a1_1, .int .i64 a1_2]]).zipIdx.map fun q => (q.2, q.1)), hpOf [], (flags laws_eqFlow.sig).length⟩ = laws_eqFlow.f k a0_0 a0_1 a0_2 a1_0 a1_1 a1_2 := by kernel_rfl
theorem laws_eqFlow.ok (k : Nat) : CSound Try.prog 109 (laws_eqFlow.C k) :=
  csound κ_ok mixed tok (laws_eqFlow.hΓ k) (LH := laws_eqFlow.LH k) (fn := Try.f109) (c := bodyOf Try.f109) Try.func109 rfl Try.call109 laws_eqFlow.sig [] (laws_eqFlow.body k) (by kernel_rfl) (laws_eqFlow.lok k) (by decide) fun vs bs lf y hl hb hy => by
    unfold laws_eqFlow.body at hb
    split at hb
    · obtain rfl := Option.some.inj hb
      exact ⟨laws_eqFlow.out, laws_eqFlow.out_ok, (laws_eqFlow.den k _ _ _ _ _ _).trans hy⟩
    · cases hb
/-! ### laws_eqFlowS -/
def laws_eqFlowS.L4 {R : Type} (k : Nat) (xl0 : List T_impl_Flow) (xl1 : List T_impl_Flow) (X0 : Bool → Option R) (X1 : Unit → Option R) (rec : Int → Option R) (x2 : Int) : Option R :=
  (bif decide (x2 < (xl0.length : Int)) then (bif decide (0 ≤ x2) then (bif decide (x2 < (xl0.length : Int)) then (bif decide (0 ≤ x2) then (bif decide (x2 < (xl1.length : Int)) then (laws_eqFlow.f k ((rd_impl_Flow xl0 x2).f0) ((rd_impl_Flow xl0 x2).f1) ((rd_impl_Flow xl0 x2).f2) ((rd_impl_Flow xl1 x2).f0) ((rd_impl_Flow xl1 x2).f1) ((rd_impl_Flow xl1 x2).f2)).bind fun t1 => (bif !t1 then (X0 false) else (rec (w64 (x2 + (1 : Int))))) else none) else none) else none) else none) else (X1 ()))
def laws_eqFlowS.l4 {R : Type} (k : Nat) (xl0 : List T_impl_Flow) (xl1 : List T_impl_Flow) (X0 : Bool → Option R) (X1 : Unit → Option R) : Nat → Int → Option R
  | 0 => fun _ => none
  | n + 1 => laws_eqFlowS.L4 k xl0 xl1 X0 X1 (laws_eqFlowS.l4 k xl0 xl1 X0 X1 n)
def laws_eqFlowS.f (k : Nat) (a0 : List T_impl_Flow) (a1 : List T_impl_Flow) : Option Bool :=
  (bif ((a0.length : Int) != (a1.length : Int)) then some false else (laws_eqFlowS.l4 k a0 a1 (fun (y2 : Bool) => some y2) (fun (_ : Unit) => some true) k (0 : Int)))
def laws_eqFlowS.h4 (k : Nat) {R : Type} (K : Ex → St κ → Option R) (vs : List AV) (bs : List (Blk κ)) : Option R :=
  match vs, bs with
  | [.v (.sl 0), .v (.sl 1), .v (.int .i64 x2)], [qb0, qb1] => (asO 7 false qb0).bind fun xl0 => (asO 7 false qb1).bind fun xl1 => laws_eqFlowS.l4 k xl0 xl1 (fun (z0 : Bool) => K .ret (stOf [(4, [])] [.v (.bool z0)] [.rows 7 false xl0, .rows 7 false xl1])) (fun (_ : Unit) => K (.exit 0) (stOf [(4, [])] [.v .any] [.rows 7 false xl0, .rows 7 false xl1])) k x2
  | _, _ => none
def laws_eqFlowS.Γ (k : Nat) : Ct κ := assoc [(109, laws_eqFlow.C k)]
def laws_eqFlowS.LH (k : Nat) : Nat → Option (LHi κ) := assoc [(4, ⟨2, [(0, [some 7]), (1, [some 7]), (5, [])], [(4, [])], @laws_eqFlowS.h4 k⟩)]
theorem laws_eqFlowS.hΓ (k : Nat) : ∀ f g, laws_eqFlowS.Γ k f = some g → CSound Try.prog f g := G_cons (laws_eqFlow.ok k) G_nil
theorem laws_eqFlowS.e4 {R : Type} (K : Ex → St κ → Option R) (k : Nat) (xl0 : List T_impl_Flow) (xl1 : List T_impl_Flow) : ∀ (n : Nat) (x2 : Int), loopN 2 (Code.den ti (laws_eqFlowS.Γ k) (laws_eqFlowS.LH k) (loopAt Try.f81 0)) [(0, [some 7]), (1, [some 7]), (5, [])] [(4, [])] K n [.v (.sl 0), .v (.sl 1), .v (.int .i64 x2)] [.rows 7 false xl0, .rows 7 false xl1] = laws_eqFlowS.l4 k xl0 xl1 (fun (z0 : Bool) => K .ret (stOf [(4, [])] [.v (.bool z0)] [.rows 7 false xl0, .rows 7 false xl1])) (fun (_ : Unit) => K (.exit 0) (stOf [(4, [])] [.v .any] [.rows 7 false xl0, .rows 7 false xl1])) n x2
  | 0, _ => rfl
  | n + 1, x2 => (show loopN 2 (Code.den ti (laws_eqFlowS.Γ k) (laws_eqFlowS.LH k) (loopAt Try.f81 0)) [(0, [some 7]), (1, [some 7]), (5, [])] [(4, [])] K (n + 1) [.v (.sl 0), .v (.sl 1), .v (.int .i64 x2)] [.rows 7 false xl0, .rows 7 false xl1] = laws_eqFlowS.L4 k xl0 xl1 (fun (z0 : Bool) => K .ret (stOf [(4, [])] [.v (.bool z0)] [.rows 7 false xl0, .rows 7 false xl1])) (fun (_ : Unit) => K (.exit 0) (stOf [(4, [])] [.v .any] [.rows 7 false xl0, .rows 7 false xl1])) (fun (x2' : Int) => loopN 2 (Code.den ti (laws_eqFlowS.Γ k) (laws_eqFlowS.LH k) (loopAt Try.f81 0)) [(0, [some 7]), (1, [some 7]), (5, [])] [(4, [])] K n [.v (.sl 0), .v (.sl 1), .v (.int .i64 x2')] [.rows 7 false xl0, .rows 7 false xl1]) x2 by kernel_rfl).trans (congrArg (fun rec => laws_eqFlowS.L4 k xl0 xl1 (fun (z0 : Bool) => K .ret (stOf [(4, [])] [.v (.bool z0)] [.rows 7 false xl0, .rows 7 false xl1])) (fun (_ : Unit) => K (.exit 0) (stOf [(4, [])] [.v .any] [.rows 7 false xl0, .rows 7 false xl1])) rec x2) (funext fun x2' => laws_eqFlowS.e4 K k xl0 xl1 n x2'))
theorem laws_eqFlowS.q4 (k : Nat) {R : Type} (K : Ex → St κ → Option R) (vs : List AV) (bs : List (Blk κ)) (r : R) (h : laws_eqFlowS.h4 k K vs bs = some r) : ∃ n, loopN 2 (Code.den ti (laws_eqFlowS.Γ k) (laws_eqFlowS.LH k) (loopAt Try.f81 0)) [(0, [some 7]), (1, [some 7]), (5, [])] [(4, [])] K n vs bs = some r := by
  unfold laws_eqFlowS.h4 at h
  split at h
  · obtain ⟨_, rfl, h_1⟩ := asO_bind h
    obtain ⟨_, rfl, h_2⟩ := asO_bind h_1
    exact ⟨k, (laws_eqFlowS.e4 K k _ _ k _).trans h_2⟩
  · cases h
theorem laws_eqFlowS.lok (k : Nat) : LOK ti (laws_eqFlowS.Γ k) (laws_eqFlowS.LH k) 2 (loopsOf (bodyOf Try.f81)) :=
  (show loopsOf (bodyOf Try.f81) = [loopAt Try.f81 0] by kernel_rfl) ▸ (LOK_cons (g := ⟨2, [(0, [some 7]), (1, [some 7]), (5, [])], [(4, [])], @laws_eqFlowS.h4 k⟩) (by kernel_rfl) rfl (fun K vs xs r h => laws_eqFlowS.q4 k K vs xs r h) (LOK_nil))
def laws_eqFlowS.sig : List PSh := [.one (.ro 7), .one (.ro 7)]
def laws_eqFlowS.g (y : Bool) : Ret κ := ⟨.v (.bool y), [], []⟩
def laws_eqFlowS.out (r : Ret κ) : Option Bool :=
  match r with
  | ⟨.v (.bool z0), [], []⟩ => some (z0)
  | _ => none
theorem laws_eqFlowS.out_ok (r : Ret κ) (y : Bool) (h : laws_eqFlowS.out r = some y) : r = laws_eqFlowS.g y := by
  unfold laws_eqFlowS.out at h
  split at h
  · obtain rfl := Option.some.inj h
    rfl
  · cases h
def laws_eqFlowS.body (k : Nat) (vs : List AV) (bs : List (Blk κ)) : Option (Lf κ) :=
  match vs, bs with
  | [.v (.sl 0), .v (.sl 1)], [qb0, qb1] => (asO 7 false qb0).bind fun a0 => (asO 7 false qb1).bind fun a1 => some ⟨Bool, laws_eqFlowS.f k a0 a1, laws_eqFlowS.g⟩
  | _, _ => none
def laws_eqFlowS.C (k : Nat) : Nat → List AV → AP κ AV := contract laws_eqFlowS.sig (laws_eqFlowS.body k)
theorem laws_eqFlowS.den (k : Nat) (a0 : List T_impl_Flow) (a1 : List T_impl_Flow) : Code.den ti (laws_eqFlowS.Γ k) (laws_eqFlowS.LH k) (bodyOf Try.f81) (finK ti Try.f81.results.toList [] (flags laws_eqFlowS.sig).length (rwI (flags laws_eqFlowS.sig) 0) laws_eqFlowS.out) ⟨envOf (([.v (.sl 0), .v (.sl 1)]).zipIdx.map fun q => (q.2, q.1)), hpOf [.rows 7 false a0, .rows 7 false a1], (flags laws_eqFlowS.sig).length⟩ = laws_eqFlowS.f k a0 a1 := by kernel_rfl
theorem laws_eqFlowS.ok (k : Nat) : CSound Try.prog 81 (laws_eqFlowS.C k) :=
  csound κ_ok mixed tok (laws_eqFlowS.hΓ k) (LH := laws_eqFlowS.LH k) (fn := Try.f81) (c := bodyOf Try.f81) Try.func81 rfl Try.call81 laws_eqFlowS.sig [] (laws_eqFlowS.body k) (by kernel_rfl) (laws_eqFlowS.lok k) (by decide) fun vs bs lf y hl hb hy => by
    unfold laws_eqFlowS.body at hb
    split at hb
    · obtain ⟨_, rfl, hb_1⟩ := asO_bind hb
      obtain ⟨_, rfl, hb_2⟩ := asO_bind hb_1
      obtain rfl := Option.some.inj hb_2
      exact ⟨laws_eqFlowS.out, laws_eqFlowS.out_ok, (laws_eqFlowS.den k _ _).trans hy⟩
    · cases hb
/-! ### laws_eqSite -/
def laws_eqSite.f (k : Nat) (a0_0 : Int) (a0_1 : Int) (a1_0 : Int) (a1_1 : Int) : Option Bool :=
  (bif (a0_0 != a1_0) then some false else (bif (a0_1 != a1_1) then some false else some true))
def laws_eqSite.Γ (k : Nat) : Ct κ := assoc []
def laws_eqSite.LH (k : Nat) : Nat → Option (LHi κ) := assoc []
theorem laws_eqSite.hΓ (k : Nat) : ∀ f g, laws_eqSite.Γ k f = some g → CSound Try.prog f g := G_nil
theorem laws_eqSite.lok (k : Nat) : LOK ti (laws_eqSite.Γ k) (laws_eqSite.LH k) 0 (loopsOf (bodyOf Try.f122)) :=
  (show loopsOf (bodyOf Try.f122) = [] by kernel_rfl) ▸ LOK_nil
def laws_eqSite.sig : List PSh := [.agg [.sc, .sc], .agg [.sc, .sc]]
def laws_eqSite.g (y : Bool) : Ret κ := ⟨.v (.bool y), [], []⟩
def laws_eqSite.out (r : Ret κ) : Option Bool :=
  match r with
  | ⟨.v (.bool z0), [], []⟩ => some (z0)
  | _ => none
theorem laws_eqSite.out_ok (r : Ret κ) (y : Bool) (h : laws_eqSite.out r = some y) : r = laws_eqSite.g y := by
  unfold laws_eqSite.out at h
  split at h
  · obtain rfl := Option.some.inj h
    rfl
  · cases h
def laws_eqSite.body (k : Nat) (vs : List AV) (bs : List (Blk κ)) : Option (Lf κ) :=
  match vs, bs with
  | [.agg [.int .i64 a0_0, .int .i64 a0_1], .agg [.int .i64 a1_0, .int .i64 a1_1]], [] => some ⟨Bool, laws_eqSite.f k a0_0 a0_1 a1_0 a1_1, laws_eqSite.g⟩
  | _, _ => none
def laws_eqSite.C (k : Nat) : Nat → List AV → AP κ AV := contract laws_eqSite.sig (laws_eqSite.body k)
theorem laws_eqSite.den (k : Nat) (a0_0 : Int) (a0_1 : Int) (a1_0 : Int) (a1_1 : Int) : Code.den ti (laws_eqSite.Γ k) (laws_eqSite.LH k) (bodyOf Try.f122) (finK ti Try.f122.results.toList [] (flags laws_eqSite.sig).length (rwI (flags laws_eqSite.sig) 0) laws_eqSite.out) ⟨envOf (([.agg [.int .i64 a0_0, .int .i64 a0_1], .agg [.int .i64 a1_0, .int .i64 a1_1]]).zipIdx.map fun q => (q.2, q.1)), hpOf [], (flags laws_eqSite.sig).length⟩ = laws_eqSite.f k a0_0 a0_1 a1_0 a1_1 := by kernel_rfl
theorem laws_eqSite.ok (k : Nat) : CSound Try.prog 122 (laws_eqSite.C k) :=
  csound κ_ok mixed tok (laws_eqSite.hΓ k) (LH := laws_eqSite.LH k) (fn := Try.f122) (c := bodyOf Try.f122) Try.func122 rfl Try.call122 laws_eqSite.sig [] (laws_eqSite.body k) (by kernel_rfl) (laws_eqSite.lok k) (by decide) fun vs bs lf y hl hb hy => by
    unfold laws_eqSite.body at hb
    split at hb
    · obtain rfl := Option.some.inj hb
      exact ⟨laws_eqSite.out, laws_eqSite.out_ok, (laws_eqSite.den k _ _ _ _).trans hy⟩
    · cases hb
/-! ### laws_eqRule -/
def laws_eqRule.f (k : Nat) (a0_0 : Int) (a0_1 : Int) (a0_2 : Int) (a0_3 : Int) (a0_4 : Int) (a0_5 : Int) (a0_6 : Int) (a0_7 : Int) (a1_0 : Int) (a1_1 : Int) (a1_2 : Int) (a1_3 : Int) (a1_4 : Int) (a1_5 : Int) (a1_6 : Int) (a1_7 : Int) : Option Bool :=
  (bif (a0_0 != a1_0) then some false else (bif (a0_1 != a1_1) then some false else (laws_eqPattern.f k a0_2 a0_3 a1_2 a1_3).bind fun t1 => (bif !t1 then some false else (bif (a0_4 != a1_4) then some false else (bif (a0_5 != a1_5) then some false else (laws_eqSite.f k a0_6 a0_7 a1_6 a1_7).bind fun t2 => (bif !t2 then some false else some true))))))
def laws_eqRule.Γ (k : Nat) : Ct κ := assoc [(121, laws_eqPattern.C k), (122, laws_eqSite.C k)]
def laws_eqRule.LH (k : Nat) : Nat → Option (LHi κ) := assoc []
theorem laws_eqRule.hΓ (k : Nat) : ∀ f g, laws_eqRule.Γ k f = some g → CSound Try.prog f g := G_cons (laws_eqPattern.ok k) (G_cons (laws_eqSite.ok k) G_nil)
theorem laws_eqRule.lok (k : Nat) : LOK ti (laws_eqRule.Γ k) (laws_eqRule.LH k) 0 (loopsOf (bodyOf Try.f110)) :=
  (show loopsOf (bodyOf Try.f110) = [] by kernel_rfl) ▸ LOK_nil
def laws_eqRule.sig : List PSh := [.agg [.sc, .sc, .sc, .sc, .sc, .sc, .sc, .sc], .agg [.sc, .sc, .sc, .sc, .sc, .sc, .sc, .sc]]
def laws_eqRule.g (y : Bool) : Ret κ := ⟨.v (.bool y), [], []⟩
def laws_eqRule.out (r : Ret κ) : Option Bool :=
  match r with
  | ⟨.v (.bool z0), [], []⟩ => some (z0)
  | _ => none
theorem laws_eqRule.out_ok (r : Ret κ) (y : Bool) (h : laws_eqRule.out r = some y) : r = laws_eqRule.g y := by
  unfold laws_eqRule.out at h
  split at h
  · obtain rfl := Option.some.inj h
    rfl
  · cases h
def laws_eqRule.body (k : Nat) (vs : List AV) (bs : List (Blk κ)) : Option (Lf κ) :=
  match vs, bs with
  | [.agg [.int .i64 a0_0, .int .i64 a0_1, .int .i64 a0_2, .int .i64 a0_3, .int .i64 a0_4, .int .i64 a0_5, .int .i64 a0_6, .int .i64 a0_7], .agg [.int .i64 a1_0, .int .i64 a1_1, .int .i64 a1_2, .int .i64 a1_3, .int .i64 a1_4, .int .i64 a1_5, .int .i64 a1_6, .int .i64 a1_7]], [] => some ⟨Bool, laws_eqRule.f k a0_0 a0_1 a0_2 a0_3 a0_4 a0_5 a0_6 a0_7 a1_0 a1_1 a1_2 a1_3 a1_4 a1_5 a1_6 a1_7, laws_eqRule.g⟩
  | _, _ => none
def laws_eqRule.C (k : Nat) : Nat → List AV → AP κ AV := contract laws_eqRule.sig (laws_eqRule.body k)
theorem laws_eqRule.den (k : Nat) (a0_0 : Int) (a0_1 : Int) (a0_2 : Int) (a0_3 : Int) (a0_4 : Int) (a0_5 : Int) (a0_6 : Int) (a0_7 : Int) (a1_0 : Int) (a1_1 : Int) (a1_2 : Int) (a1_3 : Int) (a1_4 : Int) (a1_5 : Int) (a1_6 : Int) (a1_7 : Int) : Code.den ti (laws_eqRule.Γ k) (laws_eqRule.LH k) (bodyOf Try.f110) (finK ti Try.f110.results.toList [] (flags laws_eqRule.sig).length (rwI (flags laws_eqRule.sig) 0) laws_eqRule.out) ⟨envOf (([.agg [.int .i64 a0_0, .int .i64 a0_1, .int .i64 a0_2, .int .i64 a0_3, .int .i64 a0_4, .int .i64 a0_5, .int .i64 a0_6, .int .i64 a0_7], .agg [.int .i64 a1_0, .int .i64 a1_1, .int .i64 a1_2, .int .i64 a1_3, .int .i64 a1_4, .int .i64 a1_5, .int .i64 a1_6, .int .i64 a1_7]]).zipIdx.map fun q => (q.2, q.1)), hpOf [], (flags laws_eqRule.sig).length⟩ = laws_eqRule.f k a0_0 a0_1 a0_2 a0_3 a0_4 a0_5 a0_6 a0_7 a1_0 a1_1 a1_2 a1_3 a1_4 a1_5 a1_6 a1_7 := by kernel_rfl
theorem laws_eqRule.ok (k : Nat) : CSound Try.prog 110 (laws_eqRule.C k) :=
  csound κ_ok mixed tok (laws_eqRule.hΓ k) (LH := laws_eqRule.LH k) (fn := Try.f110) (c := bodyOf Try.f110) Try.func110 rfl Try.call110 laws_eqRule.sig [] (laws_eqRule.body k) (by kernel_rfl) (laws_eqRule.lok k) (by decide) fun vs bs lf y hl hb hy => by
    unfold laws_eqRule.body at hb
    split at hb
    · obtain rfl := Option.some.inj hb
      exact ⟨laws_eqRule.out, laws_eqRule.out_ok, (laws_eqRule.den k _ _ _ _ _ _ _ _ _ _ _ _ _ _ _ _).trans hy⟩
    · cases hb
/-! ### laws_eqRuleS -/
def laws_eqRuleS.L4 {R : Type} (k : Nat) (xl0 : List T_impl_Rule) (xl1 : List T_impl_Rule) (X0 : Bool → Option R) (X1 : Unit → Option R) (rec : Int → Option R) (x2 : Int) : Option R :=
  (bif decide (x2 < (xl0.length : Int)) then (bif decide (0 ≤ x2) then (bif decide (x2 < (xl0.length : Int)) then (bif decide (0 ≤ x2) then (bif decide (x2 < (xl1.length : Int)) then (laws_eqRule.f k ((rd_impl_Rule xl0 x2).f0) ((rd_impl_Rule xl0 x2).f1) ((rd_impl_Rule xl0 x2).f2.f0) ((rd_impl_Rule xl0 x2).f2.f1) ((rd_impl_Rule xl0 x2).f3) ((rd_impl_Rule xl0 x2).f4) ((rd_impl_Rule xl0 x2).f5.f0) ((rd_impl_Rule xl0 x2).f5.f1) ((rd_impl_Rule xl1 x2).f0) ((rd_impl_Rule xl1 x2).f1) ((rd_impl_Rule xl1 x2).f2.f0) ((rd_impl_Rule xl1 x2).f2.f1) ((rd_impl_Rule xl1 x2).f3) ((rd_impl_Rule xl1 x2).f4) ((rd_impl_Rule xl1 x2).f5.f0) ((rd_impl_Rule xl1 x2).f5.f1)).bind fun t1 => (bif !t1 then (X0 false) else (rec (w64 (x2 + (1 : Int))))) else none) else none) else none) else none) else (X1 ()))
def laws_eqRuleS.l4 {R : Type} (k : Nat) (xl0 : List T_impl_Rule) (xl1 : List T_impl_Rule) (X0 : Bool → Option R) (X1 : Unit → Option R) : Nat → Int → Option R
  | 0 => fun _ => none
  | n + 1 => laws_eqRuleS.L4 k xl0 xl1 X0 X1 (laws_eqRuleS.l4 k xl0 xl1 X0 X1 n)
def laws_eqRuleS.f (k : Nat) (a0 : List T_impl_Rule) (a1 : List T_impl_Rule) : Option Bool :=
  (bif ((a0.length : Int) != (a1.length : Int)) then some false else (laws_eqRuleS.l4 k a0 a1 (fun (y2 : Bool) => some y2) (fun (_ : Unit) => some true) k (0 : Int)))
def laws_eqRuleS.h4 (k : Nat) {R : Type} (K : Ex → St κ → Option R) (vs : List AV) (bs : List (Blk κ)) : Option R :=
  match vs, bs with
  | [.v (.sl 0), .v (.sl 1), .v (.int .i64 x2)], [qb0, qb1] => (asO 8 false qb0).bind fun xl0 => (asO 8 false qb1).bind fun xl1 => laws_eqRuleS.l4 k xl0 xl1 (fun (z0 : Bool) => K .ret (stOf [(4, [])] [.v (.bool z0)] [.rows 8 false xl0, .rows 8 false xl1])) (fun (_ : Unit) => K (.exit 0) (stOf [(4, [])] [.v .any] [.rows 8 false xl0, .rows 8 false xl1])) k x2
  | _, _ => none
def laws_eqRuleS.Γ (k : Nat) : Ct κ := assoc [(110, laws_eqRule.C k)]
def laws_eqRuleS.LH (k : Nat) : Nat → Option (LHi κ) := assoc [(4, ⟨2, [(0, [some 8]), (1, [some 8]), (5, [])], [(4, [])], @laws_eqRuleS.h4 k⟩)]
theorem laws_eqRuleS.hΓ (k : Nat) : ∀ f g, laws_eqRuleS.Γ k f = some g → CSound Try.prog f g := G_cons (laws_eqRule.ok k) G_nil
theorem laws_eqRuleS.e4 {R : Type} (K : Ex → St κ → Option R) (k : Nat) (xl0 : List T_impl_Rule) (xl1 : List T_impl_Rule) : ∀ (n : Nat) (x2 : Int), loopN 2 (Code.den ti (laws_eqRuleS.Γ k) (laws_eqRuleS.LH k) (loopAt Try.f82 0)) [(0, [some 8]), (1, [some 8]), (5, [])] [(4, [])] K n [.v (.sl 0), .v (.sl 1), .v (.int .i64 x2)] [.rows 8 false xl0, .rows 8 false xl1] = laws_eqRuleS.l4 k xl0 xl1 (fun (z0 : Bool) => K .ret (stOf [(4, [])] [.v (.bool z0)] [.rows 8 false xl0, .rows 8 false xl1])) (fun (_ : Unit) => K (.exit 0) (stOf [(4, [])] [.v .any] [.rows 8 false xl0, .rows 8 false xl1])) n x2
  | 0, _ => rfl
  | n + 1, x2 => (show loopN 2 (Code.den ti (laws_eqRuleS.Γ k) (laws_eqRuleS.LH k) (loopAt Try.f82 0)) [(0, [some 8]), (1, [some 8]), (5, [])] [(4, [])] K (n + 1) [.v (.sl 0), .v (.sl 1), .v (.int .i64 x2)] [.rows 8 false xl0, .rows 8 false xl1] = laws_eqRuleS.L4 k xl0 xl1 (fun (z0 : Bool) => K .ret (stOf [(4, [])] [.v (.bool z0)] [.rows 8 false xl0, .rows 8 false xl1])) (fun (_ : Unit) => K (.exit 0) (stOf [(4, [])] [.v .any] [.rows 8 false xl0, .rows 8 false xl1])) (fun (x2' : Int) => loopN 2 (Code.den ti (laws_eqRuleS.Γ k) (laws_eqRuleS.LH k) (loopAt Try.f82 0)) [(0, [some 8]), (1, [some 8]), (5, [])] [(4, [])] K n [.v (.sl 0), .v (.sl 1), .v (.int .i64 x2')] [.rows 8 false xl0, .rows 8 false xl1]) x2 by kernel_rfl).trans (congrArg (fun rec => laws_eqRuleS.L4 k xl0 xl1 (fun (z0 : Bool) => K .ret (stOf [(4, [])] [.v (.bool z0)] [.rows 8 false xl0, .rows 8 false xl1])) (fun (_ : Unit) => K (.exit 0) (stOf [(4, [])] [.v .any] [.rows 8 false xl0, .rows 8 false xl1])) rec x2) (funext fun x2' => laws_eqRuleS.e4 K k xl0 xl1 n x2'))
theorem laws_eqRuleS.q4 (k : Nat) {R : Type} (K : Ex → St κ → Option R) (vs : List AV) (bs : List (Blk κ)) (r : R) (h : laws_eqRuleS.h4 k K vs bs = some r) : ∃ n, loopN 2 (Code.den ti (laws_eqRuleS.Γ k) (laws_eqRuleS.LH k) (loopAt Try.f82 0)) [(0, [some 8]), (1, [some 8]), (5, [])] [(4, [])] K n vs bs = some r := by
  unfold laws_eqRuleS.h4 at h
  split at h
  · obtain ⟨_, rfl, h_1⟩ := asO_bind h
    obtain ⟨_, rfl, h_2⟩ := asO_bind h_1
    exact ⟨k, (laws_eqRuleS.e4 K k _ _ k _).trans h_2⟩
  · cases h
theorem laws_eqRuleS.lok (k : Nat) : LOK ti (laws_eqRuleS.Γ k) (laws_eqRuleS.LH k) 2 (loopsOf (bodyOf Try.f82)) :=
  (show loopsOf (bodyOf Try.f82) = [loopAt Try.f82 0] by kernel_rfl) ▸ (LOK_cons (g := ⟨2, [(0, [some 8]), (1, [some 8]), (5, [])], [(4, [])], @laws_eqRuleS.h4 k⟩) (by kernel_rfl) rfl (fun K vs xs r h => laws_eqRuleS.q4 k K vs xs r h) (LOK_nil))
def laws_eqRuleS.sig : List PSh := [.one (.ro 8), .one (.ro 8)]
def laws_eqRuleS.g (y : Bool) : Ret κ := ⟨.v (.bool y), [], []⟩
def laws_eqRuleS.out (r : Ret κ) : Option Bool :=
  match r with
  | ⟨.v (.bool z0), [], []⟩ => some (z0)
  | _ => none
theorem laws_eqRuleS.out_ok (r : Ret κ) (y : Bool) (h : laws_eqRuleS.out r = some y) : r = laws_eqRuleS.g y := by
  unfold laws_eqRuleS.out at h
  split at h
  · obtain rfl := Option.some.inj h
    rfl
  · cases h
def laws_eqRuleS.body (k : Nat) (vs : List AV) (bs : List (Blk κ)) : Option (Lf κ) :=
  match vs, bs with
  | [.v (.sl 0), .v (.sl 1)], [qb0, qb1] => (asO 8 false qb0).bind fun a0 => (asO 8 false qb1).bind fun a1 => some ⟨Bool, laws_eqRuleS.f k a0 a1, laws_eqRuleS.g⟩
  | _, _ => none
def laws_eqRuleS.C (k : Nat) : Nat → List AV → AP κ AV := contract laws_eqRuleS.sig (laws_eqRuleS.body k)
theorem laws_eqRuleS.den (k : Nat) (a0 : List T_impl_Rule) (a1 : List T_impl_Rule) : Code.den ti (laws_eqRuleS.Γ k) (laws_eqRuleS.LH k) (bodyOf Try.f82) (finK ti Try.f82.results.toList [] (flags laws_eqRuleS.sig).length (rwI (flags laws_eqRuleS.sig) 0) laws_eqRuleS.out) ⟨envOf (([.v (.sl 0), .v (.sl 1)]).zipIdx.map fun q => (q.2, q.1)), hpOf [.rows 8 false a0, .rows 8 false a1], (flags laws_eqRuleS.sig).length⟩ = laws_eqRuleS.f k a0 a1 := by kernel_rfl
theorem laws_eqRuleS.ok (k : Nat) : CSound Try.prog 82 (laws_eqRuleS.C k) :=
  csound κ_ok mixed tok (laws_eqRuleS.hΓ k) (LH := laws_eqRuleS.LH k) (fn := Try.f82) (c := bodyOf Try.f82) Try.func82 rfl Try.call82 laws_eqRuleS.sig [] (laws_eqRuleS.body k) (by kernel_rfl) (laws_eqRuleS.lok k) (by decide) fun vs bs lf y hl hb hy => by
    unfold laws_eqRuleS.body at hb
    split at hb
    · obtain ⟨_, rfl, hb_1⟩ := asO_bind hb
      obtain ⟨_, rfl, hb_2⟩ := asO_bind hb_1
      obtain rfl := Option.some.inj hb_2
      exact ⟨laws_eqRuleS.out, laws_eqRuleS.out_ok, (laws_eqRuleS.den k _ _).trans hy⟩
    · cases hb
/-! ### laws_eqOp -/
def laws_eqOp.f (k : Nat) (a0_0 : Int) (a0_1 : Int) (a0_2 : Int) (a0_3 : Int) (a1_0 : Int) (a1_1 : Int) (a1_2 : Int) (a1_3 : Int) : Option Bool :=
  (bif (a0_0 != a1_0) then some false else (bif (a0_1 != a1_1) then some false else (bif (a0_2 != a1_2) then some false else (bif (a0_3 != a1_3) then some false else some true))))
def laws_eqOp.Γ (k : Nat) : Ct κ := assoc []
def laws_eqOp.LH (k : Nat) : Nat → Option (LHi κ) := assoc []
theorem laws_eqOp.hΓ (k : Nat) : ∀ f g, laws_eqOp.Γ k f = some g → CSound Try.prog f g := G_nil
theorem laws_eqOp.lok (k : Nat) : LOK ti (laws_eqOp.Γ k) (laws_eqOp.LH k) 0 (loopsOf (bodyOf Try.f111)) :=
  (show loopsOf (bodyOf Try.f111) = [] by kernel_rfl) ▸ LOK_nil
def laws_eqOp.sig : List PSh := [.agg [.sc, .sc, .sc, .sc], .agg [.sc, .sc, .sc, .sc]]
def laws_eqOp.g (y : Bool) : Ret κ := ⟨.v (.bool y), [], []⟩
def laws_eqOp.out (r : Ret κ) : Option Bool :=
  match r with
  | ⟨.v (.bool z0), [], []⟩ => some (z0)
  | _ => none
theorem laws_eqOp.out_ok (r : Ret κ) (y : Bool) (h : laws_eqOp.out r = some y) : r = laws_eqOp.g y := by
  unfold laws_eqOp.out at h
  split at h
  · obtain rfl := Option.some.inj h
    rfl
  · cases h
def laws_eqOp.body (k : Nat) (vs : List AV) (bs : List (Blk κ)) : Option (Lf κ) :=
  match vs, bs with
  | [.agg [.int .i64 a0_0, .int .i64 a0_1, .int .i64 a0_2, .int .i64 a0_3], .agg [.int .i64 a1_0, .int .i64 a1_1, .int .i64 a1_2, .int .i64 a1_3]], [] => some ⟨Bool, laws_eqOp.f k a0_0 a0_1 a0_2 a0_3 a1_0 a1_1 a1_2 a1_3, laws_eqOp.g⟩
  | _, _ => none
def laws_eqOp.C (k : Nat) : Nat → List AV → AP κ AV := contract laws_eqOp.sig (laws_eqOp.body k)
theorem laws_eqOp.den (k : Nat) (a0_0 : Int) (a0_1 : Int) (a0_2 : Int) (a0_3 : Int) (a1_0 : Int) (a1_1 : Int) (a1_2 : Int) (a1_3 : Int) : Code.den ti (laws_eqOp.Γ k) (laws_eqOp.LH k) (bodyOf Try.f111) (finK ti Try.f111.results.toList [] (flags laws_eqOp.sig).length (rwI (flags laws_eqOp.sig) 0) laws_eqOp.out) ⟨envOf (([.agg [.int .i64 a0_0, .int .i64 a0_1, .int .i64 a0_2, .int .i64 a0_3], .agg [.int .i64 a1_0, .int .i64 a1_1, .int .i64 a1_2, .int .i64 a1_3]]).zipIdx.map fun q => (q.2, q.1)), hpOf [], (flags laws_eqOp.sig).length⟩ = laws_eqOp.f k a0_0 a0_1 a0_2 a0_3 a1_0 a1_1 a1_2 a1_3 := by kernel_rfl
theorem laws_eqOp.ok (k : Nat) : CSound Try.prog 111 (laws_eqOp.C k) :=
  csound κ_ok mixed tok (laws_eqOp.hΓ k) (LH := laws_eqOp.LH k) (fn := Try.f111) (c := bodyOf Try.f111) Try.func111 rfl Try.call111 laws_eqOp.sig [] (laws_eqOp.body k) (by kernel_rfl) (laws_eqOp.lok k) (by decide) fun vs bs lf y hl hb hy => by
    unfold laws_eqOp.body at hb
    split at hb
    · obtain rfl := Option.some.inj hb
      exact ⟨laws_eqOp.out, laws_eqOp.out_ok, (laws_eqOp.den k _ _ _ _ _ _ _ _).trans hy⟩
    · cases hb
/-! ### laws_eqOpS -/
def laws_eqOpS.L4 {R : Type} (k : Nat) (xl0 : List T_impl_Op) (xl1 : List T_impl_Op) (X0 : Bool → Option R) (X1 : Unit → Option R) (rec : Int → Option R) (x2 : Int) : Option R :=
  (bif decide (x2 < (xl0.length : Int)) then (bif decide (0 ≤ x2) then (bif decide (x2 < (xl0.length : Int)) then (bif decide (0 ≤ x2) then (bif decide (x2 < (xl1.length : Int)) then (laws_eqOp.f k ((rd_impl_Op xl0 x2).f0) ((rd_impl_Op xl0 x2).f1) ((rd_impl_Op xl0 x2).f2) ((rd_impl_Op xl0 x2).f3) ((rd_impl_Op xl1 x2).f0) ((rd_impl_Op xl1 x2).f1) ((rd_impl_Op xl1 x2).f2) ((rd_impl_Op xl1 x2).f3)).bind fun t1 => (bif !t1 then (X0 false) else (rec (w64 (x2 + (1 : Int))))) else none) else none) else none) else none) else (X1 ()))
def laws_eqOpS.l4 {R : Type} (k : Nat) (xl0 : List T_impl_Op) (xl1 : List T_impl_Op) (X0 : Bool → Option R) (X1 : Unit → Option R) : Nat → Int → Option R
  | 0 => fun _ => none
  | n + 1 => laws_eqOpS.L4 k xl0 xl1 X0 X1 (laws_eqOpS.l4 k xl0 xl1 X0 X1 n)
def laws_eqOpS.f (k : Nat) (a0 : List T_impl_Op) (a1 : List T_impl_Op) : Option Bool :=
  (bif ((a0.length : Int) != (a1.length : Int)) then some false else (laws_eqOpS.l4 k a0 a1 (fun (y2 : Bool) => some y2) (fun (_ : Unit) => some true) k (0 : Int)))
def laws_eqOpS.h4 (k : Nat) {R : Type} (K : Ex → St κ → Option R) (vs : List AV) (bs : List (Blk κ)) : Option R :=
  match vs, bs with
  | [.v (.sl 0), .v (.sl 1), .v (.int .i64 x2)], [qb0, qb1] => (asO 9 false qb0).bind fun xl0 => (asO 9 false qb1).bind fun xl1 => laws_eqOpS.l4 k xl0 xl1 (fun (z0 : Bool) => K .ret (stOf [(4, [])] [.v (.bool z0)] [.rows 9 false xl0, .rows 9 false xl1])) (fun (_ : Unit) => K (.exit 0) (stOf [(4, [])] [.v .any] [.rows 9 false xl0, .rows 9 false xl1])) k x2
  | _, _ => none
def laws_eqOpS.Γ (k : Nat) : Ct κ := assoc [(111, laws_eqOp.C k)]
def laws_eqOpS.LH (k : Nat) : Nat → Option (LHi κ) := assoc [(4, ⟨2, [(0, [some 9]), (1, [some 9]), (5, [])], [(4, [])], @laws_eqOpS.h4 k⟩)]
theorem laws_eqOpS.hΓ (k : Nat) : ∀ f g, laws_eqOpS.Γ k f = some g → CSound Try.prog f g := G_cons (laws_eqOp.ok k) G_nil
theorem laws_eqOpS.e4 {R : Type} (K : Ex → St κ → Option R) (k : Nat) (xl0 : List T_impl_Op) (xl1 : List T_impl_Op) : ∀ (n : Nat) (x2 : Int), loopN 2 (Code.den ti (laws_eqOpS.Γ k) (laws_eqOpS.LH k) (loopAt Try.f83 0)) [(0, [some 9]), (1, [some 9]), (5, [])] [(4, [])] K n [.v (.sl 0), .v (.sl 1), .v (.int .i64 x2)] [.rows 9 false xl0, .rows 9 false xl1] = laws_eqOpS.l4 k xl0 xl1 (fun (z0 : Bool) => K .ret (stOf [(4, [])] [.v (.bool z0)] [.rows 9 false xl0, .rows 9 false xl1])) (fun (_ : Unit) => K (.exit 0) (stOf [(4, [])] [.v .any] [.rows 9 false xl0, .rows 9 false xl1])) n x2
  | 0, _ => rfl
  | n + 1, x2 => (show loopN 2 (Code.den ti (laws_eqOpS.Γ k) (laws_eqOpS.LH k) (loopAt Try.f83 0)) [(0, [some 9]), (1, [some 9]), (5, [])] [(4, [])] K (n + 1) [.v (.sl 0), .v (.sl 1), .v (.int .i64 x2)] [.rows 9 false xl0, .rows 9 false xl1] = laws_eqOpS.L4 k xl0 xl1 (fun (z0 : Bool) => K .ret (stOf [(4, [])] [.v (.bool z0)] [.rows 9 false xl0, .rows 9 false xl1])) (fun (_ : Unit) => K (.exit 0) (stOf [(4, [])] [.v .any] [.rows 9 false xl0, .rows 9 false xl1])) (fun (x2' : Int) => loopN 2 (Code.den ti (laws_eqOpS.Γ k) (laws_eqOpS.LH k) (loopAt Try.f83 0)) [(0, [some 9]), (1, [some 9]), (5, [])] [(4, [])] K n [.v (.sl 0), .v (.sl 1), .v (.int .i64 x2')] [.rows 9 false xl0, .rows 9 false xl1]) x2 by kernel_rfl).trans (congrArg (fun rec => laws_eqOpS.L4 k xl0 xl1 (fun (z0 : Bool) => K .ret (stOf [(4, [])] [.v (.bool z0)] [.rows 9 false xl0, .rows 9 false xl1])) (fun (_ : Unit) => K (.exit 0) (stOf [(4, [])] [.v .any] [.rows 9 false xl0, .rows 9 false xl1])) rec x2) (funext fun x2' => laws_eqOpS.e4 K k xl0 xl1 n x2'))
theorem laws_eqOpS.q4 (k : Nat) {R : Type} (K : Ex → St κ → Option R) (vs : List AV) (bs : List (Blk κ)) (r : R) (h : laws_eqOpS.h4 k K vs bs = some r) : ∃ n, loopN 2 (Code.den ti (laws_eqOpS.Γ k) (laws_eqOpS.LH k) (loopAt Try.f83 0)) [(0, [some 9]), (1, [some 9]), (5, [])] [(4, [])] K n vs bs = some r := by
  unfold laws_eqOpS.h4 at h
  split at h
  · obtain ⟨_, rfl, h_1⟩ := asO_bind h
    obtain ⟨_, rfl, h_2⟩ := asO_bind h_1
    exact ⟨k, (laws_eqOpS.e4 K k _ _ k _).trans h_2⟩
  · cases h
theorem laws_eqOpS.lok (k : Nat) : LOK ti (laws_eqOpS.Γ k) (laws_eqOpS.LH k) 2 (loopsOf (bodyOf Try.f83)) :=
  (show loopsOf (bodyOf Try.f83) = [loopAt Try.f83 0] by kernel_rfl) ▸ (LOK_cons (g := ⟨2, [(0, [some 9]), (1, [some 9]), (5, [])], [(4, [])], @laws_eqOpS.h4 k⟩) (by kernel_rfl) rfl (fun K vs xs r h => laws_eqOpS.q4 k K vs xs r h) (LOK_nil))
def laws_eqOpS.sig : List PSh := [.one (.ro 9), .one (.ro 9)]
def laws_eqOpS.g (y : Bool) : Ret κ := ⟨.v (.bool y), [], []⟩
def laws_eqOpS.out (r : Ret κ) : Option Bool :=
  match r with
  | ⟨.v (.bool z0), [], []⟩ => some (z0)
  | _ => none
theorem laws_eqOpS.out_ok (r : Ret κ) (y : Bool) (h : laws_eqOpS.out r = some y) : r = laws_eqOpS.g y := by
  unfold laws_eqOpS.out at h
  split at h
  · obtain rfl := Option.some.inj h
    rfl
  · cases h
def laws_eqOpS.body (k : Nat) (vs : List AV) (bs : List (Blk κ)) : Option (Lf κ) :=
  match vs, bs with
  | [.v (.sl 0), .v (.sl 1)], [qb0, qb1] => (asO 9 false qb0).bind fun a0 => (asO 9 false qb1).bind fun a1 => some ⟨Bool, laws_eqOpS.f k a0 a1, laws_eqOpS.g⟩
  | _, _ => none
def laws_eqOpS.C (k : Nat) : Nat → List AV → AP κ AV := contract laws_eqOpS.sig (laws_eqOpS.body k)
theorem laws_eqOpS.den (k : Nat) (a0 : List T_impl_Op) (a1 : List T_impl_Op) : Code.den ti (laws_eqOpS.Γ k) (laws_eqOpS.LH k) (bodyOf Try.f83) (finK ti Try.f83.results.toList [] (flags laws_eqOpS.sig).length (rwI (flags laws_eqOpS.sig) 0) laws_eqOpS.out) ⟨envOf (([.v (.sl 0), .v (.sl 1)]).zipIdx.map fun q => (q.2, q.1)), hpOf [.rows 9 false a0, .rows 9 false a1], (flags laws_eqOpS.sig).length⟩ = laws_eqOpS.f k a0 a1 := by kernel_rfl
theorem laws_eqOpS.ok (k : Nat) : CSound Try.prog 83 (laws_eqOpS.C k) :=
  csound κ_ok mixed tok (laws_eqOpS.hΓ k) (LH := laws_eqOpS.LH k) (fn := Try.f83) (c := bodyOf Try.f83) Try.func83 rfl Try.call83 laws_eqOpS.sig [] (laws_eqOpS.body k) (by kernel_rfl) (laws_eqOpS.lok k) (by decide) fun vs bs lf y hl hb hy => by
    unfold laws_eqOpS.body at hb
    split at hb
    · obtain ⟨_, rfl, hb_1⟩ := asO_bind hb
      obtain ⟨_, rfl, hb_2⟩ := asO_bind hb_1
      obtain rfl := Option.some.inj hb_2
      exact ⟨laws_eqOpS.out, laws_eqOpS.out_ok, (laws_eqOpS.den k _ _).trans hy⟩
    · cases hb
/-! ### laws_eqPackage -/
def laws_eqPackage.f (k : Nat) (a0_0 : Int) (a0_1 : Int) (a0_2 : Int) (a0_3 : List T_impl_Grant) (a0_4 : List T_impl_Flow) (a0_5 : List T_impl_Rule) (a0_6 : List T_impl_Op) (a0_7 : Int) (a1_0 : Int) (a1_1 : Int) (a1_2 : Int) (a1_3 : List T_impl_Grant) (a1_4 : List T_impl_Flow) (a1_5 : List T_impl_Rule) (a1_6 : List T_impl_Op) (a1_7 : Int) : Option Bool :=
  (bif (a0_0 != a1_0) then some false else (bif (a0_1 != a1_1) then some false else (bif (a0_2 != a1_2) then some false else (laws_eqGrantS.f k a0_3 a1_3).bind fun t1 => (bif !t1 then some false else (laws_eqFlowS.f k a0_4 a1_4).bind fun t2 => (bif !t2 then some false else (laws_eqRuleS.f k a0_5 a1_5).bind fun t3 => (bif !t3 then some false else (laws_eqOpS.f k a0_6 a1_6).bind fun t4 => (bif !t4 then some false else (bif (a0_7 != a1_7) then some false else some true))))))))
def laws_eqPackage.Γ (k : Nat) : Ct κ := assoc [(80, laws_eqGrantS.C k), (81, laws_eqFlowS.C k), (82, laws_eqRuleS.C k), (83, laws_eqOpS.C k)]
def laws_eqPackage.LH (k : Nat) : Nat → Option (LHi κ) := assoc []
theorem laws_eqPackage.hΓ (k : Nat) : ∀ f g, laws_eqPackage.Γ k f = some g → CSound Try.prog f g := G_cons (laws_eqGrantS.ok k) (G_cons (laws_eqFlowS.ok k) (G_cons (laws_eqRuleS.ok k) (G_cons (laws_eqOpS.ok k) G_nil)))
theorem laws_eqPackage.lok (k : Nat) : LOK ti (laws_eqPackage.Γ k) (laws_eqPackage.LH k) 8 (loopsOf (bodyOf Try.f59)) :=
  (show loopsOf (bodyOf Try.f59) = [] by kernel_rfl) ▸ LOK_nil
def laws_eqPackage.sig : List PSh := [.agg [.sc, .sc, .sc, .ro 6, .ro 7, .ro 8, .ro 9, .sc], .agg [.sc, .sc, .sc, .ro 6, .ro 7, .ro 8, .ro 9, .sc]]
def laws_eqPackage.g (y : Bool) : Ret κ := ⟨.v (.bool y), [], []⟩
def laws_eqPackage.out (r : Ret κ) : Option Bool :=
  match r with
  | ⟨.v (.bool z0), [], []⟩ => some (z0)
  | _ => none
theorem laws_eqPackage.out_ok (r : Ret κ) (y : Bool) (h : laws_eqPackage.out r = some y) : r = laws_eqPackage.g y := by
  unfold laws_eqPackage.out at h
  split at h
  · obtain rfl := Option.some.inj h
    rfl
  · cases h
def laws_eqPackage.body (k : Nat) (vs : List AV) (bs : List (Blk κ)) : Option (Lf κ) :=
  match vs, bs with
  | [.agg [.int .i64 a0_0, .int .i64 a0_1, .int .i64 a0_2, .sl 0, .sl 1, .sl 2, .sl 3, .int .i64 a0_7], .agg [.int .i64 a1_0, .int .i64 a1_1, .int .i64 a1_2, .sl 4, .sl 5, .sl 6, .sl 7, .int .i64 a1_7]], [qb0, qb1, qb2, qb3, qb4, qb5, qb6, qb7] => (asO 6 false qb0).bind fun a0_3 => (asO 7 false qb1).bind fun a0_4 => (asO 8 false qb2).bind fun a0_5 => (asO 9 false qb3).bind fun a0_6 => (asO 6 false qb4).bind fun a1_3 => (asO 7 false qb5).bind fun a1_4 => (asO 8 false qb6).bind fun a1_5 => (asO 9 false qb7).bind fun a1_6 => some ⟨Bool, laws_eqPackage.f k a0_0 a0_1 a0_2 a0_3 a0_4 a0_5 a0_6 a0_7 a1_0 a1_1 a1_2 a1_3 a1_4 a1_5 a1_6 a1_7, laws_eqPackage.g⟩
  | _, _ => none
def laws_eqPackage.C (k : Nat) : Nat → List AV → AP κ AV := contract laws_eqPackage.sig (laws_eqPackage.body k)
theorem laws_eqPackage.den (k : Nat) (a0_0 : Int) (a0_1 : Int) (a0_2 : Int) (a0_3 : List T_impl_Grant) (a0_4 : List T_impl_Flow) (a0_5 : List T_impl_Rule) (a0_6 : List T_impl_Op) (a0_7 : Int) (a1_0 : Int) (a1_1 : Int) (a1_2 : Int) (a1_3 : List T_impl_Grant) (a1_4 : List T_impl_Flow) (a1_5 : List T_impl_Rule) (a1_6 : List T_impl_Op) (a1_7 : Int) : Code.den ti (laws_eqPackage.Γ k) (laws_eqPackage.LH k) (bodyOf Try.f59) (finK ti Try.f59.results.toList [] (flags laws_eqPackage.sig).length (rwI (flags laws_eqPackage.sig) 0) laws_eqPackage.out) ⟨envOf (([.agg [.int .i64 a0_0, .int .i64 a0_1, .int .i64 a0_2, .sl 0, .sl 1, .sl 2, .sl 3, .int .i64 a0_7], .agg [.int .i64 a1_0, .int .i64 a1_1, .int .i64 a1_2, .sl 4, .sl 5, .sl 6, .sl 7, .int .i64 a1_7]]).zipIdx.map fun q => (q.2, q.1)), hpOf [.rows 6 false a0_3, .rows 7 false a0_4, .rows 8 false a0_5, .rows 9 false a0_6, .rows 6 false a1_3, .rows 7 false a1_4, .rows 8 false a1_5, .rows 9 false a1_6], (flags laws_eqPackage.sig).length⟩ = laws_eqPackage.f k a0_0 a0_1 a0_2 a0_3 a0_4 a0_5 a0_6 a0_7 a1_0 a1_1 a1_2 a1_3 a1_4 a1_5 a1_6 a1_7 := by kernel_rfl
theorem laws_eqPackage.ok (k : Nat) : CSound Try.prog 59 (laws_eqPackage.C k) :=
  csound κ_ok mixed tok (laws_eqPackage.hΓ k) (LH := laws_eqPackage.LH k) (fn := Try.f59) (c := bodyOf Try.f59) Try.func59 rfl Try.call59 laws_eqPackage.sig [] (laws_eqPackage.body k) (by kernel_rfl) (laws_eqPackage.lok k) (by decide) fun vs bs lf y hl hb hy => by
    unfold laws_eqPackage.body at hb
    split at hb
    · obtain ⟨_, rfl, hb_1⟩ := asO_bind hb
      obtain ⟨_, rfl, hb_2⟩ := asO_bind hb_1
      obtain ⟨_, rfl, hb_3⟩ := asO_bind hb_2
      obtain ⟨_, rfl, hb_4⟩ := asO_bind hb_3
      obtain ⟨_, rfl, hb_5⟩ := asO_bind hb_4
      obtain ⟨_, rfl, hb_6⟩ := asO_bind hb_5
      obtain ⟨_, rfl, hb_7⟩ := asO_bind hb_6
      obtain ⟨_, rfl, hb_8⟩ := asO_bind hb_7
      obtain rfl := Option.some.inj hb_8
      exact ⟨laws_eqPackage.out, laws_eqPackage.out_ok, (laws_eqPackage.den k _ _ _ _ _ _ _ _ _ _ _ _ _ _ _ _).trans hy⟩
    · cases hb
/-! ### laws_eqSnapshot -/
def laws_eqSnapshot.f (k : Nat) (a0_0 : Int) (a0_1 : Int) (a0_2 : Int) (a0_3 : List T_impl_Grant) (a0_4 : List T_impl_Flow) (a0_5 : List T_impl_Rule) (a0_6 : List T_impl_Op) (a0_7 : Int) (a0_8 : List T_impl_Stored) (a1_0 : Int) (a1_1 : Int) (a1_2 : Int) (a1_3 : List T_impl_Grant) (a1_4 : List T_impl_Flow) (a1_5 : List T_impl_Rule) (a1_6 : List T_impl_Op) (a1_7 : Int) (a1_8 : List T_impl_Stored) : Option Bool :=
  (laws_eqPackage.f k a0_0 a0_1 a0_2 a0_3 a0_4 a0_5 a0_6 a0_7 a1_0 a1_1 a1_2 a1_3 a1_4 a1_5 a1_6 a1_7).bind fun t1 => (bif !t1 then some false else (laws_eqStoredS.f k a0_8 a1_8).bind fun t2 => (bif !t2 then some false else some true))
def laws_eqSnapshot.Γ (k : Nat) : Ct κ := assoc [(59, laws_eqPackage.C k), (20, laws_eqStoredS.C k)]
def laws_eqSnapshot.LH (k : Nat) : Nat → Option (LHi κ) := assoc []
theorem laws_eqSnapshot.hΓ (k : Nat) : ∀ f g, laws_eqSnapshot.Γ k f = some g → CSound Try.prog f g := G_cons (laws_eqPackage.ok k) (G_cons (laws_eqStoredS.ok k) G_nil)
theorem laws_eqSnapshot.lok (k : Nat) : LOK ti (laws_eqSnapshot.Γ k) (laws_eqSnapshot.LH k) 10 (loopsOf (bodyOf Try.f34)) :=
  (show loopsOf (bodyOf Try.f34) = [] by kernel_rfl) ▸ LOK_nil
def laws_eqSnapshot.sig : List PSh := [.agg [.sc, .sc, .sc, .ro 6, .ro 7, .ro 8, .ro 9, .sc, .ro 5], .agg [.sc, .sc, .sc, .ro 6, .ro 7, .ro 8, .ro 9, .sc, .ro 5]]
def laws_eqSnapshot.g (y : Bool) : Ret κ := ⟨.v (.bool y), [], []⟩
def laws_eqSnapshot.out (r : Ret κ) : Option Bool :=
  match r with
  | ⟨.v (.bool z0), [], []⟩ => some (z0)
  | _ => none
theorem laws_eqSnapshot.out_ok (r : Ret κ) (y : Bool) (h : laws_eqSnapshot.out r = some y) : r = laws_eqSnapshot.g y := by
  unfold laws_eqSnapshot.out at h
  split at h
  · obtain rfl := Option.some.inj h
    rfl
  · cases h
def laws_eqSnapshot.body (k : Nat) (vs : List AV) (bs : List (Blk κ)) : Option (Lf κ) :=
  match vs, bs with
  | [.agg [.int .i64 a0_0, .int .i64 a0_1, .int .i64 a0_2, .sl 0, .sl 1, .sl 2, .sl 3, .int .i64 a0_7, .sl 4], .agg [.int .i64 a1_0, .int .i64 a1_1, .int .i64 a1_2, .sl 5, .sl 6, .sl 7, .sl 8, .int .i64 a1_7, .sl 9]], [qb0, qb1, qb2, qb3, qb4, qb5, qb6, qb7, qb8, qb9] => (asO 6 false qb0).bind fun a0_3 => (asO 7 false qb1).bind fun a0_4 => (asO 8 false qb2).bind fun a0_5 => (asO 9 false qb3).bind fun a0_6 => (asO 5 false qb4).bind fun a0_8 => (asO 6 false qb5).bind fun a1_3 => (asO 7 false qb6).bind fun a1_4 => (asO 8 false qb7).bind fun a1_5 => (asO 9 false qb8).bind fun a1_6 => (asO 5 false qb9).bind fun a1_8 => some ⟨Bool, laws_eqSnapshot.f k a0_0 a0_1 a0_2 a0_3 a0_4 a0_5 a0_6 a0_7 a0_8 a1_0 a1_1 a1_2 a1_3 a1_4 a1_5 a1_6 a1_7 a1_8, laws_eqSnapshot.g⟩
  | _, _ => none
def laws_eqSnapshot.C (k : Nat) : Nat → List AV → AP κ AV := contract laws_eqSnapshot.sig (laws_eqSnapshot.body k)
theorem laws_eqSnapshot.den (k : Nat) (a0_0 : Int) (a0_1 : Int) (a0_2 : Int) (a0_3 : List T_impl_Grant) (a0_4 : List T_impl_Flow) (a0_5 : List T_impl_Rule) (a0_6 : List T_impl_Op) (a0_7 : Int) (a0_8 : List T_impl_Stored) (a1_0 : Int) (a1_1 : Int) (a1_2 : Int) (a1_3 : List T_impl_Grant) (a1_4 : List T_impl_Flow) (a1_5 : List T_impl_Rule) (a1_6 : List T_impl_Op) (a1_7 : Int) (a1_8 : List T_impl_Stored) : Code.den ti (laws_eqSnapshot.Γ k) (laws_eqSnapshot.LH k) (bodyOf Try.f34) (finK ti Try.f34.results.toList [] (flags laws_eqSnapshot.sig).length (rwI (flags laws_eqSnapshot.sig) 0) laws_eqSnapshot.out) ⟨envOf (([.agg [.int .i64 a0_0, .int .i64 a0_1, .int .i64 a0_2, .sl 0, .sl 1, .sl 2, .sl 3, .int .i64 a0_7, .sl 4], .agg [.int .i64 a1_0, .int .i64 a1_1, .int .i64 a1_2, .sl 5, .sl 6, .sl 7, .sl 8, .int .i64 a1_7, .sl 9]]).zipIdx.map fun q => (q.2, q.1)), hpOf [.rows 6 false a0_3, .rows 7 false a0_4, .rows 8 false a0_5, .rows 9 false a0_6, .rows 5 false a0_8, .rows 6 false a1_3, .rows 7 false a1_4, .rows 8 false a1_5, .rows 9 false a1_6, .rows 5 false a1_8], (flags laws_eqSnapshot.sig).length⟩ = laws_eqSnapshot.f k a0_0 a0_1 a0_2 a0_3 a0_4 a0_5 a0_6 a0_7 a0_8 a1_0 a1_1 a1_2 a1_3 a1_4 a1_5 a1_6 a1_7 a1_8 := by kernel_rfl
theorem laws_eqSnapshot.ok (k : Nat) : CSound Try.prog 34 (laws_eqSnapshot.C k) :=
  csound κ_ok mixed tok (laws_eqSnapshot.hΓ k) (LH := laws_eqSnapshot.LH k) (fn := Try.f34) (c := bodyOf Try.f34) Try.func34 rfl Try.call34 laws_eqSnapshot.sig [] (laws_eqSnapshot.body k) (by kernel_rfl) (laws_eqSnapshot.lok k) (by decide) fun vs bs lf y hl hb hy => by
    unfold laws_eqSnapshot.body at hb
    split at hb
    · obtain ⟨_, rfl, hb_1⟩ := asO_bind hb
      obtain ⟨_, rfl, hb_2⟩ := asO_bind hb_1
      obtain ⟨_, rfl, hb_3⟩ := asO_bind hb_2
      obtain ⟨_, rfl, hb_4⟩ := asO_bind hb_3
      obtain ⟨_, rfl, hb_5⟩ := asO_bind hb_4
      obtain ⟨_, rfl, hb_6⟩ := asO_bind hb_5
      obtain ⟨_, rfl, hb_7⟩ := asO_bind hb_6
      obtain ⟨_, rfl, hb_8⟩ := asO_bind hb_7
      obtain ⟨_, rfl, hb_9⟩ := asO_bind hb_8
      obtain ⟨_, rfl, hb_10⟩ := asO_bind hb_9
      obtain rfl := Option.some.inj hb_10
      exact ⟨laws_eqSnapshot.out, laws_eqSnapshot.out_ok, (laws_eqSnapshot.den k _ _ _ _ _ _ _ _ _ _ _ _ _ _ _ _ _ _).trans hy⟩
    · cases hb
/-! ### laws_markStoredS -/
def laws_markStoredS.L2 {R : Type} (k : Nat) (X0 : Int → List T_impl_Stored → Option R) (rec : Int → Int → List T_impl_Stored → Option R) (x1 : Int) (x2 : Int) (xl0 : List T_impl_Stored) : Option R :=
  (bif decide (x2 < (xl0.length : Int)) then (bif decide (0 ≤ x2) then (bif decide (x2 < (xl0.length : Int)) then (let l1 : List T_impl_Stored := (xl0.set (x2).toNat (⟨x1, (rd_impl_Stored xl0 x2).f1, (rd_impl_Stored xl0 x2).f2, (rd_impl_Stored xl0 x2).f3⟩ : T_impl_Stored)); (bif decide (0 ≤ x2) then (bif decide (x2 < (l1.length : Int)) then (let l2 : List T_impl_Stored := (l1.set (x2).toNat (⟨(rd_impl_Stored l1 x2).f0, (w64 (x1 + (1 : Int))), (rd_impl_Stored l1 x2).f2, (rd_impl_Stored l1 x2).f3⟩ : T_impl_Stored)); (bif decide (0 ≤ x2) then (bif decide (x2 < (l2.length : Int)) then (let l3 : List T_impl_Stored := (l2.set (x2).toNat (⟨(rd_impl_Stored l2 x2).f0, (rd_impl_Stored l2 x2).f1, (w64 ((w64 (x1 + (1 : Int))) + (1 : Int))), (rd_impl_Stored l2 x2).f3⟩ : T_impl_Stored)); (bif decide (0 ≤ x2) then (bif decide (x2 < (l3.length : Int)) then (let l4 : List T_impl_Stored := (l3.set (x2).toNat (⟨(rd_impl_Stored l3 x2).f0, (rd_impl_Stored l3 x2).f1, (rd_impl_Stored l3 x2).f2, (w64 ((w64 ((w64 (x1 + (1 : Int))) + (1 : Int))) + (1 : Int)))⟩ : T_impl_Stored)); (rec (w64 ((w64 ((w64 ((w64 (x1 + (1 : Int))) + (1 : Int))) + (1 : Int))) + (1 : Int))) (w64 (x2 + (1 : Int))) l4)) else none) else none)) else none) else none)) else none) else none)) else none) else none) else (X0 x1 xl0))
def laws_markStoredS.l2 {R : Type} (k : Nat) (X0 : Int → List T_impl_Stored → Option R) : Nat → Int → Int → List T_impl_Stored → Option R
  | 0 => fun _ _ _ => none
  | n + 1 => laws_markStoredS.L2 k X0 (laws_markStoredS.l2 k X0 n)
def laws_markStoredS.f (k : Nat) (a0 : List T_impl_Stored) (a1 : Int) : Option (Int × List T_impl_Stored) :=
  (laws_markStoredS.l2 k (fun (y5 : Int) (y6 : List T_impl_Stored) => some (y5, y6)) k a1 (0 : Int) a0)
def laws_markStoredS.h2 (k : Nat) {R : Type} (K : Ex → St κ → Option R) (vs : List AV) (bs : List (Blk κ)) : Option R :=
  match vs, bs with
  | [.v (.sl 0), .v (.int .i64 x1), .v (.int .i64 x2)], [qb0] => (asO 5 true qb0).bind fun xl0 => laws_markStoredS.l2 k (fun (z0 : Int) (zl0 : List T_impl_Stored) => K (.exit 0) (stOf [(1, [])] [.v (.int .i64 z0)] [.rows 5 true zl0])) k x1 x2 xl0
  | _, _ => none
def laws_markStoredS.Γ (k : Nat) : Ct κ := assoc []
def laws_markStoredS.LH (k : Nat) : Nat → Option (LHi κ) := assoc [(2, ⟨1, [(0, [some 5]), (1, []), (5, [])], [(1, [])], @laws_markStoredS.h2 k⟩)]
theorem laws_markStoredS.hΓ (k : Nat) : ∀ f g, laws_markStoredS.Γ k f = some g → CSound Try.prog f g := G_nil
theorem laws_markStoredS.e2 {R : Type} (K : Ex → St κ → Option R) (k : Nat) : ∀ (n : Nat) (x1 : Int) (x2 : Int) (xl0 : List T_impl_Stored), loopN 1 (Code.den ti (laws_markStoredS.Γ k) (laws_markStoredS.LH k) (loopAt Try.f21 0)) [(0, [some 5]), (1, []), (5, [])] [(1, [])] K n [.v (.sl 0), .v (.int .i64 x1), .v (.int .i64 x2)] [.rows 5 true xl0] = laws_markStoredS.l2 k (fun (z0 : Int) (zl0 : List T_impl_Stored) => K (.exit 0) (stOf [(1, [])] [.v (.int .i64 z0)] [.rows 5 true zl0])) n x1 x2 xl0
  | 0, _, _, _ => rfl
  | n + 1, x1, x2, xl0 => (show loopN 1 (Code.den ti (laws_markStoredS.Γ k) (laws_markStoredS.LH k) (loopAt Try.f21 0)) [(0, [some 5]), (1, []), (5, [])] [(1, [])] K (n + 1) [.v (.sl 0), .v (.int .i64 x1), .v (.int .i64 x2)] [.rows 5 true xl0] = laws_markStoredS.L2 k (fun (z0 : Int) (zl0 : List T_impl_Stored) => K (.exit 0) (stOf [(1, [])] [.v (.int .i64 z0)] [.rows 5 true zl0])) (fun (x1' : Int) (x2' : Int) (xl0' : List T_impl_Stored) => loopN 1 (Code.den ti (laws_markStoredS.Γ k) (laws_markStoredS.LH k) (loopAt Try.f21 0)) [(0, [some 5]), (1, []), (5, [])] [(1, [])] K n [.v (.sl 0), .v (.int .i64 x1'), .v (.int .i64 x2')] [.rows 5 true xl0']) x1 x2 xl0 by kernel_rfl).trans (congrArg (fun rec => laws_markStoredS.L2 k (fun (z0 : Int) (zl0 : List T_impl_Stored) => K (.exit 0) (stOf [(1, [])] [.v (.int .i64 z0)] [.rows 5 true zl0])) rec x1 x2 xl0) (funext fun x1' => funext fun x2' => funext fun xl0' => laws_markStoredS.e2 K k n x1' x2' xl0'))
theorem laws_markStoredS.q2 (k : Nat) {R : Type} (K : Ex → St κ → Option R) (vs : List AV) (bs : List (Blk κ)) (r : R) (h : laws_markStoredS.h2 k K vs bs = some r) : ∃ n, loopN 1 (Code.den ti (laws_markStoredS.Γ k) (laws_markStoredS.LH k) (loopAt Try.f21 0)) [(0, [some 5]), (1, []), (5, [])] [(1, [])] K n vs bs = some r := by
  unfold laws_markStoredS.h2 at h
  split at h
  · obtain ⟨_, rfl, h_1⟩ := asO_bind h
    exact ⟨k, (laws_markStoredS.e2 K k k _ _ _).trans h_1⟩
  · cases h
theorem laws_markStoredS.lok (k : Nat) : LOK ti (laws_markStoredS.Γ k) (laws_markStoredS.LH k) 1 (loopsOf (bodyOf Try.f21)) :=
  (show loopsOf (bodyOf Try.f21) = [loopAt Try.f21 0] by kernel_rfl) ▸ (LOK_cons (g := ⟨1, [(0, [some 5]), (1, []), (5, [])], [(1, [])], @laws_markStoredS.h2 k⟩) (by kernel_rfl) rfl (fun K vs xs r h => laws_markStoredS.q2 k K vs xs r h) (LOK_nil))
def laws_markStoredS.sig : List PSh := [.one (.rw 5), .one .sc]
def laws_markStoredS.g (y : Int × List T_impl_Stored) : Ret κ := ⟨.v (.int .i64 y.1), [.rows 5 true y.2], []⟩
def laws_markStoredS.out (r : Ret κ) : Option (Int × List T_impl_Stored) :=
  match r with
  | ⟨.v (.int .i64 z0), [q1], []⟩ => (asO 5 true q1).bind fun z1 => some (z0, z1)
  | _ => none
theorem laws_markStoredS.out_ok (r : Ret κ) (y : Int × List T_impl_Stored) (h : laws_markStoredS.out r = some y) : r = laws_markStoredS.g y := by
  unfold laws_markStoredS.out at h
  split at h
  · obtain ⟨_, rfl, h_1⟩ := asO_bind h
    obtain rfl := Option.some.inj h_1
    rfl
  · cases h
def laws_markStoredS.body (k : Nat) (vs : List AV) (bs : List (Blk κ)) : Option (Lf κ) :=
  match vs, bs with
  | [.v (.sl 0), .v (.int .i64 a1)], [qb0] => (asO 5 true qb0).bind fun a0 => some ⟨Int × List T_impl_Stored, laws_markStoredS.f k a0 a1, laws_markStoredS.g⟩
  | _, _ => none
def laws_markStoredS.C (k : Nat) : Nat → List AV → AP κ AV := contract laws_markStoredS.sig (laws_markStoredS.body k)
theorem laws_markStoredS.den (k : Nat) (a0 : List T_impl_Stored) (a1 : Int) : Code.den ti (laws_markStoredS.Γ k) (laws_markStoredS.LH k) (bodyOf Try.f21) (finK ti Try.f21.results.toList [] (flags laws_markStoredS.sig).length (rwI (flags laws_markStoredS.sig) 0) laws_markStoredS.out) ⟨envOf (([.v (.sl 0), .v (.int .i64 a1)]).zipIdx.map fun q => (q.2, q.1)), hpOf [.rows 5 true a0], (flags laws_markStoredS.sig).length⟩ = laws_markStoredS.f k a0 a1 := by kernel_rfl
theorem laws_markStoredS.ok (k : Nat) : CSound Try.prog 21 (laws_markStoredS.C k) :=
  csound κ_ok mixed tok (laws_markStoredS.hΓ k) (LH := laws_markStoredS.LH k) (fn := Try.f21) (c := bodyOf Try.f21) Try.func21 rfl Try.call21 laws_markStoredS.sig [] (laws_markStoredS.body k) (by kernel_rfl) (laws_markStoredS.lok k) (by decide) fun vs bs lf y hl hb hy => by
    unfold laws_markStoredS.body at hb
    split at hb
    · obtain ⟨_, rfl, hb_1⟩ := asO_bind hb
      obtain rfl := Option.some.inj hb_1
      exact ⟨laws_markStoredS.out, laws_markStoredS.out_ok, (laws_markStoredS.den k _ _).trans hy⟩
    · cases hb
/-! ### laws_markGrantS -/
def laws_markGrantS.L2 {R : Type} (k : Nat) (X0 : Int → List T_impl_Grant → Option R) (rec : Int → Int → List T_impl_Grant → Option R) (x1 : Int) (x2 : Int) (xl0 : List T_impl_Grant) : Option R :=
  (bif decide (x2 < (xl0.length : Int)) then (bif decide (0 ≤ x2) then (bif decide (x2 < (xl0.length : Int)) then (let l1 : List T_impl_Grant := (xl0.set (x2).toNat (⟨x1, (⟨(rd_impl_Grant xl0 x2).f1.f0, (rd_impl_Grant xl0 x2).f1.f1⟩ : T_impl_Pattern), (rd_impl_Grant xl0 x2).f2, (rd_impl_Grant xl0 x2).f3, (rd_impl_Grant xl0 x2).f4, (rd_impl_Grant xl0 x2).f5⟩ : T_impl_Grant)); (bif decide (0 ≤ x2) then (bif decide (x2 < (l1.length : Int)) then (let l2 : List T_impl_Grant := (l1.set (x2).toNat (⟨(rd_impl_Grant l1 x2).f0, (⟨(w64 (x1 + (1 : Int))), (rd_impl_Grant l1 x2).f1.f1⟩ : T_impl_Pattern), (rd_impl_Grant l1 x2).f2, (rd_impl_Grant l1 x2).f3, (rd_impl_Grant l1 x2).f4, (rd_impl_Grant l1 x2).f5⟩ : T_impl_Grant)); (bif decide (0 ≤ x2) then (bif decide (x2 < (l2.length : Int)) then (let l3 : List T_impl_Grant := (l2.set (x2).toNat (⟨(rd_impl_Grant l2 x2).f0, (⟨(rd_impl_Grant l2 x2).f1.f0, (w64 ((w64 (x1 + (1 : Int))) + (1 : Int)))⟩ : T_impl_Pattern), (rd_impl_Grant l2 x2).f2, (rd_impl_Grant l2 x2).f3, (rd_impl_Grant l2 x2).f4, (rd_impl_Grant l2 x2).f5⟩ : T_impl_Grant)); (bif decide (0 ≤ x2) then (bif decide (x2 < (l3.length : Int)) then (let l4 : List T_impl_Grant := (l3.set (x2).toNat (⟨(rd_impl_Grant l3 x2).f0, (⟨(rd_impl_Grant l3 x2).f1.f0, (rd_impl_Grant l3 x2).f1.f1⟩ : T_impl_Pattern), (w64 ((w64 ((w64 (x1 + (1 : Int))) + (1 : Int))) + (1 : Int))), (rd_impl_Grant l3 x2).f3, (rd_impl_Grant l3 x2).f4, (rd_impl_Grant l3 x2).f5⟩ : T_impl_Grant)); (bif decide (0 ≤ x2) then (bif decide (x2 < (l4.length : Int)) then (let l5 : List T_impl_Grant := (l4.set (x2).toNat (⟨(rd_impl_Grant l4 x2).f0, (⟨(rd_impl_Grant l4 x2).f1.f0, (rd_impl_Grant l4 x2).f1.f1⟩ : T_impl_Pattern), (rd_impl_Grant l4 x2).f2, (w64 ((w64 ((w64 ((w64 (x1 + (1 : Int))) + (1 : Int))) + (1 : Int))) + (1 : Int))), (rd_impl_Grant l4 x2).f4, (rd_impl_Grant l4 x2).f5⟩ : T_impl_Grant)); (bif decide (0 ≤ x2) then (bif decide (x2 < (l5.length : Int)) then (let l6 : List T_impl_Grant := (l5.set (x2).toNat (⟨(rd_impl_Grant l5 x2).f0, (⟨(rd_impl_Grant l5 x2).f1.f0, (rd_impl_Grant l5 x2).f1.f1⟩ : T_impl_Pattern), (rd_impl_Grant l5 x2).f2, (rd_impl_Grant l5 x2).f3, (w64 ((w64 ((w64 ((w64 ((w64 (x1 + (1 : Int))) + (1 : Int))) + (1 : Int))) + (1 : Int))) + (1 : Int))), (rd_impl_Grant l5 x2).f5⟩ : T_impl_Grant)); (bif decide (0 ≤ x2) then (bif decide (x2 < (l6.length : Int)) then (let l7 : List T_impl_Grant := (l6.set (x2).toNat (⟨(rd_impl_Grant l6 x2).f0, (⟨(rd_impl_Grant l6 x2).f1.f0, (rd_impl_Grant l6 x2).f1.f1⟩ : T_impl_Pattern), (rd_impl_Grant l6 x2).f2, (rd_impl_Grant l6 x2).f3, (rd_impl_Grant l6 x2).f4, (((w64 ((w64 ((w64 ((w64 ((w64 ((w64 (x1 + (1 : Int))) + (1 : Int))) + (1 : Int))) + (1 : Int))) + (1 : Int))) + (1 : Int))).tmod (3 : Int)) == (0 : Int))⟩ : T_impl_Grant)); (rec (w64 ((w64 ((w64 ((w64 ((w64 ((w64 ((w64 (x1 + (1 : Int))) + (1 : Int))) + (1 : Int))) + (1 : Int))) + (1 : Int))) + (1 : Int))) + (1 : Int))) (w64 (x2 + (1 : Int))) l7)) else none) else none)) else none) else none)) else none) else none)) else none) else none)) else none) else none)) else none) else none)) else none) else none) else (X0 x1 xl0))
def laws_markGrantS.l2 {R : Type} (k : Nat) (X0 : Int → List T_impl_Grant → Option R) : Nat → Int → Int → List T_impl_Grant → Option R
  | 0 => fun _ _ _ => none
  | n + 1 => laws_markGrantS.L2 k X0 (laws_markGrantS.l2 k X0 n)
def laws_markGrantS.f (k : Nat) (a0 : List T_impl_Grant) (a1 : Int) : Option (Int × List T_impl_Grant) :=
  (laws_markGrantS.l2 k (fun (y8 : Int) (y9 : List T_impl_Grant) => some (y8, y9)) k a1 (0 : Int) a0)
def laws_markGrantS.h2 (k : Nat) {R : Type} (K : Ex → St κ → Option R) (vs : List AV) (bs : List (Blk κ)) : Option R :=
  match vs, bs with
  | [.v (.sl 0), .v (.int .i64 x1), .v (.int .i64 x2)], [qb0] => (asO 6 true qb0).bind fun xl0 => laws_markGrantS.l2 k (fun (z0 : Int) (zl0 : List T_impl_Grant) => K (.exit 0) (stOf [(1, [])] [.v (.int .i64 z0)] [.rows 6 true zl0])) k x1 x2 xl0
  | _, _ => none
def laws_markGrantS.Γ (k : Nat) : Ct κ := assoc []
def laws_markGrantS.LH (k : Nat) : Nat → Option (LHi κ) := assoc [(2, ⟨1, [(0, [some 6]), (1, []), (5, [])], [(1, [])], @laws_markGrantS.h2 k⟩)]
theorem laws_markGrantS.hΓ (k : Nat) : ∀ f g, laws_markGrantS.Γ k f = some g → CSound Try.prog f g := G_nil
theorem laws_markGrantS.e2 {R : Type} (K : Ex → St κ → Option R) (k : Nat) : ∀ (n : Nat) (x1 : Int) (x2 : Int) (xl0 : List T_impl_Grant), loopN 1 (Code.den ti (laws_markGrantS.Γ k) (laws_markGrantS.LH k) (loopAt Try.f84 0)) [(0, [some 6]), (1, []), (5, [])] [(1, [])] K n [.v (.sl 0), .v (.int .i64 x1), .v (.int .i64 x2)] [.rows 6 true xl0] = laws_markGrantS.l2 k (fun (z0 : Int) (zl0 : List T_impl_Grant) => K (.exit 0) (stOf [(1, [])] [.v (.int .i64 z0)] [.rows 6 true zl0])) n x1 x2 xl0
  | 0, _, _, _ => rfl
  | n + 1, x1, x2, xl0 => (show loopN 1 (Code.den ti (laws_markGrantS.Γ k) (laws_markGrantS.LH k) (loopAt Try.f84 0)) [(0, [some 6]), (1, []), (5, [])] [(1, [])] K (n + 1) [.v (.sl 0), .v (.int .i64 x1), .v (.int .i64 x2)] [.rows 6 true xl0] = laws_markGrantS.L2 k (fun (z0 : Int) (zl0 : List T_impl_Grant) => K (.exit 0) (stOf [(1, [])] [.v (.int .i64 z0)] [.rows 6 true zl0])) (fun (x1' : Int) (x2' : Int) (xl0' : List T_impl_Grant) => loopN 1 (Code.den ti (laws_markGrantS.Γ k) (laws_markGrantS.LH k) (loopAt Try.f84 0)) [(0, [some 6]), (1, []), (5, [])] [(1, [])] K n [.v (.sl 0), .v (.int .i64 x1'), .v (.int .i64 x2')] [.rows 6 true xl0']) x1 x2 xl0 by kernel_rfl).trans (congrArg (fun rec => laws_markGrantS.L2 k (fun (z0 : Int) (zl0 : List T_impl_Grant) => K (.exit 0) (stOf [(1, [])] [.v (.int .i64 z0)] [.rows 6 true zl0])) rec x1 x2 xl0) (funext fun x1' => funext fun x2' => funext fun xl0' => laws_markGrantS.e2 K k n x1' x2' xl0'))
theorem laws_markGrantS.q2 (k : Nat) {R : Type} (K : Ex → St κ → Option R) (vs : List AV) (bs : List (Blk κ)) (r : R) (h : laws_markGrantS.h2 k K vs bs = some r) : ∃ n, loopN 1 (Code.den ti (laws_markGrantS.Γ k) (laws_markGrantS.LH k) (loopAt Try.f84 0)) [(0, [some 6]), (1, []), (5, [])] [(1, [])] K n vs bs = some r := by
  unfold laws_markGrantS.h2 at h
  split at h
  · obtain ⟨_, rfl, h_1⟩ := asO_bind h
    exact ⟨k, (laws_markGrantS.e2 K k k _ _ _).trans h_1⟩
  · cases h
theorem laws_markGrantS.lok (k : Nat) : LOK ti (laws_markGrantS.Γ k) (laws_markGrantS.LH k) 1 (loopsOf (bodyOf Try.f84)) :=
  (show loopsOf (bodyOf Try.f84) = [loopAt Try.f84 0] by kernel_rfl) ▸ (LOK_cons (g := ⟨1, [(0, [some 6]), (1, []), (5, [])], [(1, [])], @laws_markGrantS.h2 k⟩) (by kernel_rfl) rfl (fun K vs xs r h => laws_markGrantS.q2 k K vs xs r h) (LOK_nil))
def laws_markGrantS.sig : List PSh := [.one (.rw 6), .one .sc]
def laws_markGrantS.g (y : Int × List T_impl_Grant) : Ret κ := ⟨.v (.int .i64 y.1), [.rows 6 true y.2], []⟩
def laws_markGrantS.out (r : Ret κ) : Option (Int × List T_impl_Grant) :=
  match r with
  | ⟨.v (.int .i64 z0), [q1], []⟩ => (asO 6 true q1).bind fun z1 => some (z0, z1)
  | _ => none
theorem laws_markGrantS.out_ok (r : Ret κ) (y : Int × List T_impl_Grant) (h : laws_markGrantS.out r = some y) : r = laws_markGrantS.g y := by
  unfold laws_markGrantS.out at h
  split at h
  · obtain ⟨_, rfl, h_1⟩ := asO_bind h
    obtain rfl := Option.some.inj h_1
    rfl
  · cases h
def laws_markGrantS.body (k : Nat) (vs : List AV) (bs : List (Blk κ)) : Option (Lf κ) :=
  match vs, bs with
  | [.v (.sl 0), .v (.int .i64 a1)], [qb0] => (asO 6 true qb0).bind fun a0 => some ⟨Int × List T_impl_Grant, laws_markGrantS.f k a0 a1, laws_markGrantS.g⟩
  | _, _ => none
def laws_markGrantS.C (k : Nat) : Nat → List AV → AP κ AV := contract laws_markGrantS.sig (laws_markGrantS.body k)
theorem laws_markGrantS.den (k : Nat) (a0 : List T_impl_Grant) (a1 : Int) : Code.den ti (laws_markGrantS.Γ k) (laws_markGrantS.LH k) (bodyOf Try.f84) (finK ti Try.f84.results.toList [] (flags laws_markGrantS.sig).length (rwI (flags laws_markGrantS.sig) 0) laws_markGrantS.out) ⟨envOf (([.v (.sl 0), .v (.int .i64 a1)]).zipIdx.map fun q => (q.2, q.1)), hpOf [.rows 6 true a0], (flags laws_markGrantS.sig).length⟩ = laws_markGrantS.f k a0 a1 := by kernel_rfl
theorem laws_markGrantS.ok (k : Nat) : CSound Try.prog 84 (laws_markGrantS.C k) :=
  csound κ_ok mixed tok (laws_markGrantS.hΓ k) (LH := laws_markGrantS.LH k) (fn := Try.f84) (c := bodyOf Try.f84) Try.func84 rfl Try.call84 laws_markGrantS.sig [] (laws_markGrantS.body k) (by kernel_rfl) (laws_markGrantS.lok k) (by decide) fun vs bs lf y hl hb hy => by
    unfold laws_markGrantS.body at hb
    split at hb
    · obtain ⟨_, rfl, hb_1⟩ := asO_bind hb
      obtain rfl := Option.some.inj hb_1
      exact ⟨laws_markGrantS.out, laws_markGrantS.out_ok, (laws_markGrantS.den k _ _).trans hy⟩
    · cases hb
end Go.Proofs.Ytmjflahlhgibnaa.PFnExactRestoreStore
