/- What the functions that the law FnExactTakeSnapshot reaches come to; no conditions. -/
import Derived.Test.YthingkcckjiniaaPFnExactTakeSnapshot2
set_option linter.unusedVariables false
set_option maxRecDepth 100000
namespace Go.Proofs.Ythingkcckjiniaa.PFnExactTakeSnapshot
open Go Go.Eng Go.Proofs
/-! ### laws_eqFlow -/
def laws_eqFlow.f (k : Nat) (a0_0 : Int) (a0_1 : Int) (a0_2 : Int) (a1_0 : Int) (a1_1 : Int) (a1_2 : Int) : Option Bool :=
  (bif (a0_0 != a1_0) then some false else (bif (a0_1 != a1_1) then some false else (bif (a0_2 != a1_2) then some false else some true)))
def laws_eqFlow.Γ (k : Nat) : Ct κ := assoc []
def laws_eqFlow.LH (k : Nat) : Nat → Option (LHi κ) := assoc []
theorem laws_eqFlow.hΓ (k : Nat) : ∀ f g, laws_eqFlow.Γ k f = some g → CSound Try.prog f g := G_nil
theorem laws_eqFlow.lok (k : Nat) : LOK ti (laws_eqFlow.Γ k) (laws_eqFlow.LH k) 0 (loopsOf (bodyOf Try.f122)) :=
  (show loopsOf (bodyOf Try.f122) = [] by kernel_rfl) ▸ LOK_nil
def laws_eqFlow.sig : List PSh := [.agg [.sc, .sc, .sc], .agg [.sc, .sc, .sc]]
def laws_eqFlow.g (y : Bool) : Ret κ := ⟨.v (.bool y), [], []⟩
def laws_eqFlow.out (r : Ret κ) : Option Bool :=
  match r with
  | ⟨.v (.bool z0), [], []⟩ => some (z0)
  | _ => none
theorem laws_eqFlow.out_ok (r : Ret κ) (y : Bool) (h : laws_eqFlow.out r = some y) : r = laws_eqFlow.g y := by
  unfold laws_eqFlow.out at h
  split at h
  · obtain rfl := Option.some.inj h
    rfl
  · cases h
def laws_eqFlow.body (k : Nat) (vs : List AV) (bs : List (Blk κ)) : Option (Lf κ) :=
  match vs, bs with
  | [.agg [.int .i64 a0_0, .int .i64 a0_1, .int .i64 a0_2], .agg [.int .i64 a1_0, .int .i64 a1_1, .int .i64 a1_2]], [] => some ⟨Bool, laws_eqFlow.f k a0_0 a0_1 a0_2 a1_0 a1_1 a1_2, laws_eqFlow.g⟩
  | _, _ => none
def laws_eqFlow.C (k : Nat) : Nat → List AV → AP κ AV := contract laws_eqFlow.sig (laws_eqFlow.body k)
theorem laws_eqFlow.den (k : Nat) (a0_0 : Int) (a0_1 : Int) (a0_2 : Int) (a1_0 : Int) (a1_1 : Int) (a1_2 : Int) : Code.den ti (laws_eqFlow.Γ k) (laws_eqFlow.LH k) (bodyOf Try.f122) (finK ti Try.f122.results.toList [] (flags laws_eqFlow.sig).length (rwI (flags laws_eqFlow.sig) 0) laws_eqFlow.out) ⟨envOf (([.agg [.int .i64 a0_0, .int .i64 a0_1, .int .i64 a0_2], .agg [.int .i64 a1_0, .int .i64 a1_1, .int .i64 a1_2]]).zipIdx.map fun q => (q.2, q.1)), hpOf [], (flags laws_eqFlow.sig).length⟩ = laws_eqFlow.f k a0_0 a0_1 a0_2 a1_0 a1_1 a1_2 := by kernel_rfl
theorem laws_eqFlow.ok (k : Nat) : CSound Try.prog 122 (laws_eqFlow.C k) :=
  csound κ_ok mixed tok (laws_eqFlow.hΓ k) (LH := laws_eqFlow.LH k) (fn := Try.f122) (c := bodyOf Try.f122) Try.func122 rfl Try.call122 laws_eqFlow.sig [] (laws_eqFlow.body k) (by kernel_rfl) (laws_eqFlow.lok k) (by decide) fun vs bs lf y hl hb hy => by
    unfold laws_eqFlow.body at hb
    split at hb
    · obtain rfl := Option.some.inj hb
      exact ⟨laws_eqFlow.out, laws_eqFlow.out_ok, (laws_eqFlow.den k _ _ _ _ _ _).trans hy⟩
    · cases hb
/-! ### laws_eqFlowS -/
def laws_eqFlowS.L4 {R : Type} (k : Nat) (xl0 : List T_impl_Flow) (xl1 : List T_impl_Flow) (X0 : Bool → Option R) (X1 : Unit → Option R) (rec : Int → Option R) (x2 : Int) : Option R :=
  (bif decide (x2 < (xl0.length : Int)) then (bif decide (0 ≤ x2) then (bif decide (x2 < (xl0.length : Int)) then (bif decide (0 ≤ x2) then (bif decide (x2 < (xl1.length : Int)) then (laws_eqFlow.f k ((rd_impl_Flow xl0 x2).f0) ((rd_impl_Flow xl0 x2).f1) ((rd_impl_Flow xl0 x2).f2) ((rd_impl_Flow xl1 x2).f0) ((rd_impl_Flow xl1 x2).f1) ((rd_impl_Flow xl1 x2).f2)).bind fun t1 => (bif !t1 then (X0 false) else (rec (w64 (x2 + (1 : Int))))) else none) else none) else none) else none) else (X1 ()))
def laws_eqFlowS.l4 {R : Type} (k : Nat) (xl0 : List T_impl_Flow) (xl1 : List T_impl_Flow) (X0 : Bool → Option R) (X1 : Unit → Option R) : Nat → Int → Option R
  | 0 => fun _ => none
  | n + 1 => laws_eqFlowS.L4 k xl0 xl1 X0 X1 (laws_eqFlowS.l4 k xl0 xl1 X0 X1 n)
def laws_eqFlowS.f (k : Nat) (a0 : List T_impl_Flow) (a1 : List T_impl_Flow) : Option Bool :=
  (bif ((a0.length : Int) != (a1.length : Int)) then some false else (laws_eqFlowS.l4 k a0 a1 (fun (y2 : Bool) => some y2) (fun (_ : Unit) => some true) k (0 : Int)))
def laws_eqFlowS.h4 (k : Nat) {R : Type} (K : Ex → St κ → Option R) (vs : List AV) (bs : List (Blk κ)) : Option R :=
  match vs, bs with
  | [.v (.sl 0), .v (.sl 1), .v (.int .i64 x2)], [qb0, qb1] => (asO 6 false qb0).bind fun xl0 => (asO 6 false qb1).bind fun xl1 => laws_eqFlowS.l4 k xl0 xl1 (fun (z0 : Bool) => K .ret (stOf [(4, [])] [.v (.bool z0)] [.rows 6 false xl0, .rows 6 false xl1])) (fun (_ : Unit) => K (.exit 0) (stOf [(4, [])] [.v .any] [.rows 6 false xl0, .rows 6 false xl1])) k x2
  | _, _ => none
def laws_eqFlowS.Γ (k : Nat) : Ct κ := assoc [(122, laws_eqFlow.C k)]
def laws_eqFlowS.LH (k : Nat) : Nat → Option (LHi κ) := assoc [(4, ⟨2, [(0, [some 6]), (1, [some 6]), (5, [])], [(4, [])], @laws_eqFlowS.h4 k⟩)]
theorem laws_eqFlowS.hΓ (k : Nat) : ∀ f g, laws_eqFlowS.Γ k f = some g → CSound Try.prog f g := G_cons (laws_eqFlow.ok k) G_nil
theorem laws_eqFlowS.e4 {R : Type} (K : Ex → St κ → Option R) (k : Nat) (xl0 : List T_impl_Flow) (xl1 : List T_impl_Flow) : ∀ (n : Nat) (x2 : Int), loopN 2 (Code.den ti (laws_eqFlowS.Γ k) (laws_eqFlowS.LH k) (loopAt Try.f80 0)) [(0, [some 6]), (1, [some 6]), (5, [])] [(4, [])] K n [.v (.sl 0), .v (.sl 1), .v (.int .i64 x2)] [.rows 6 false xl0, .rows 6 false xl1] = laws_eqFlowS.l4 k xl0 xl1 (fun (z0 : Bool) => K .ret (stOf [(4, [])] [.v (.bool z0)] [.rows 6 false xl0, .rows 6 false xl1])) (fun (_ : Unit) => K (.exit 0) (stOf [(4, [])] [.v .any] [.rows 6 false xl0, .rows 6 false xl1])) n x2
  | 0, _ => rfl
  | n + 1, x2 => (show loopN 2 (Code.den ti (laws_eqFlowS.Γ k) (laws_eqFlowS.LH k) (loopAt Try.f80 0)) [(0, [some 6]), (1, [some 6]), (5, [])] [(4, [])] K (n + 1) [.v (.sl 0), .v (.sl 1), .v (.int .i64 x2)] [.rows 6 false xl0, .rows 6 false xl1] = laws_eqFlowS.L4 k xl0 xl1 (fun (z0 : Bool) => K .ret (stOf [(4, [])] [.v (.bool z0)] [.rows 6 false xl0, .rows 6 false xl1])) (fun (_ : Unit) => K (.exit 0) (stOf [(4, [])] [.v .any] [.rows 6 false xl0, .rows 6 false xl1])) (fun (x2' : Int) => loopN 2 (Code.den ti (laws_eqFlowS.Γ k) (laws_eqFlowS.LH k) (loopAt Try.f80 0)) [(0, [some 6]), (1, [some 6]), (5, [])] [(4, [])] K n [.v (.sl 0), .v (.sl 1), .v (.int .i64 x2')] [.rows 6 false xl0, .rows 6 false xl1]) x2 by kernel_rfl).trans (congrArg (fun rec => laws_eqFlowS.L4 k xl0 xl1 (fun (z0 : Bool) => K .ret (stOf [(4, [])] [.v (.bool z0)] [.rows 6 false xl0, .rows 6 false xl1])) (fun (_ : Unit) => K (.exit 0) (stOf [(4, [])] [.v .any] [.rows 6 false xl0, .rows 6 false xl1])) rec x2) (funext fun x2' => laws_eqFlowS.e4 K k xl0 xl1 n x2'))
theorem laws_eqFlowS.q4 (k : Nat) {R : Type} (K : Ex → St κ → Option R) (vs : List AV) (bs : List (Blk κ)) (r : R) (h : laws_eqFlowS.h4 k K vs bs = some r) : ∃ n, loopN 2 (Code.den ti (laws_eqFlowS.Γ k) (laws_eqFlowS.LH k) (loopAt Try.f80 0)) [(0, [some 6]), (1, [some 6]), (5, [])] [(4, [])] K n vs bs = some r := by
  unfold laws_eqFlowS.h4 at h
  split at h
  · obtain ⟨_, rfl, h_1⟩ := asO_bind h
    obtain ⟨_, rfl, h_2⟩ := asO_bind h_1
    exact ⟨k, (laws_eqFlowS.e4 K k _ _ k _).trans h_2⟩
  · cases h
theorem laws_eqFlowS.lok (k : Nat) : LOK ti (laws_eqFlowS.Γ k) (laws_eqFlowS.LH k) 2 (loopsOf (bodyOf Try.f80)) :=
  (show loopsOf (bodyOf Try.f80) = [loopAt Try.f80 0] by kernel_rfl) ▸ (LOK_cons (g := ⟨2, [(0, [some 6]), (1, [some 6]), (5, [])], [(4, [])], @laws_eqFlowS.h4 k⟩) (by kernel_rfl) rfl (fun K vs xs r h => laws_eqFlowS.q4 k K vs xs r h) (LOK_nil))
def laws_eqFlowS.sig : List PSh := [.one (.ro 6), .one (.ro 6)]
def laws_eqFlowS.g (y : Bool) : Ret κ := ⟨.v (.bool y), [], []⟩
def laws_eqFlowS.out (r : Ret κ) : Option Bool :=
  match r with
  | ⟨.v (.bool z0), [], []⟩ => some (z0)
  | _ => none
theorem laws_eqFlowS.out_ok (r : Ret κ) (y : Bool) (h : laws_eqFlowS.out r = some y) : r = laws_eqFlowS.g y := by
  unfold laws_eqFlowS.out at h
  split at h
  · obtain rfl := Option.some.inj h
    rfl
  · cases h
def laws_eqFlowS.body (k : Nat) (vs : List AV) (bs : List (Blk κ)) : Option (Lf κ) :=
  match vs, bs with
  | [.v (.sl 0), .v (.sl 1)], [qb0, qb1] => (asO 6 false qb0).bind fun a0 => (asO 6 false qb1).bind fun a1 => some ⟨Bool, laws_eqFlowS.f k a0 a1, laws_eqFlowS.g⟩
  | _, _ => none
def laws_eqFlowS.C (k : Nat) : Nat → List AV → AP κ AV := contract laws_eqFlowS.sig (laws_eqFlowS.body k)
theorem laws_eqFlowS.den (k : Nat) (a0 : List T_impl_Flow) (a1 : List T_impl_Flow) : Code.den ti (laws_eqFlowS.Γ k) (laws_eqFlowS.LH k) (bodyOf Try.f80) (finK ti Try.f80.results.toList [] (flags laws_eqFlowS.sig).length (rwI (flags laws_eqFlowS.sig) 0) laws_eqFlowS.out) ⟨envOf (([.v (.sl 0), .v (.sl 1)]).zipIdx.map fun q => (q.2, q.1)), hpOf [.rows 6 false a0, .rows 6 false a1], (flags laws_eqFlowS.sig).length⟩ = laws_eqFlowS.f k a0 a1 := by kernel_rfl
theorem laws_eqFlowS.ok (k : Nat) : CSound Try.prog 80 (laws_eqFlowS.C k) :=
  csound κ_ok mixed tok (laws_eqFlowS.hΓ k) (LH := laws_eqFlowS.LH k) (fn := Try.f80) (c := bodyOf Try.f80) Try.func80 rfl Try.call80 laws_eqFlowS.sig [] (laws_eqFlowS.body k) (by kernel_rfl) (laws_eqFlowS.lok k) (by decide) fun vs bs lf y hl hb hy => by
    unfold laws_eqFlowS.body at hb
    split at hb
    · obtain ⟨_, rfl, hb_1⟩ := asO_bind hb
      obtain ⟨_, rfl, hb_2⟩ := asO_bind hb_1
      obtain rfl := Option.some.inj hb_2
      exact ⟨laws_eqFlowS.out, laws_eqFlowS.out_ok, (laws_eqFlowS.den k _ _).trans hy⟩
    · cases hb
/-! ### laws_eqSite -/
def laws_eqSite.f (k : Nat) (a0_0 : Int) (a0_1 : Int) (a1_0 : Int) (a1_1 : Int) : Option Bool :=
  (bif (a0_0 != a1_0) then some false else (bif (a0_1 != a1_1) then some false else some true))
def laws_eqSite.Γ (k : Nat) : Ct κ := assoc []
def laws_eqSite.LH (k : Nat) : Nat → Option (LHi κ) := assoc []
theorem laws_eqSite.hΓ (k : Nat) : ∀ f g, laws_eqSite.Γ k f = some g → CSound Try.prog f g := G_nil
theorem laws_eqSite.lok (k : Nat) : LOK ti (laws_eqSite.Γ k) (laws_eqSite.LH k) 0 (loopsOf (bodyOf Try.f144)) :=
  (show loopsOf (bodyOf Try.f144) = [] by kernel_rfl) ▸ LOK_nil
def laws_eqSite.sig : List PSh := [.agg [.sc, .sc], .agg [.sc, .sc]]
def laws_eqSite.g (y : Bool) : Ret κ := ⟨.v (.bool y), [], []⟩
def laws_eqSite.out (r : Ret κ) : Option Bool :=
  match r with
  | ⟨.v (.bool z0), [], []⟩ => some (z0)
  | _ => none
theorem laws_eqSite.out_ok (r : Ret κ) (y : Bool) (h : laws_eqSite.out r = some y) : r = laws_eqSite.g y := by
  unfold laws_eqSite.out at h
  split at h
  · obtain rfl := Option.some.inj h
    rfl
  · cases h
def laws_eqSite.body (k : Nat) (vs : List AV) (bs : List (Blk κ)) : Option (Lf κ) :=
  match vs, bs with
  | [.agg [.int .i64 a0_0, .int .i64 a0_1], .agg [.int .i64 a1_0, .int .i64 a1_1]], [] => some ⟨Bool, laws_eqSite.f k a0_0 a0_1 a1_0 a1_1, laws_eqSite.g⟩
  | _, _ => none
def laws_eqSite.C (k : Nat) : Nat → List AV → AP κ AV := contract laws_eqSite.sig (laws_eqSite.body k)
theorem laws_eqSite.den (k : Nat) (a0_0 : Int) (a0_1 : Int) (a1_0 : Int) (a1_1 : Int) : Code.den ti (laws_eqSite.Γ k) (laws_eqSite.LH k) (bodyOf Try.f144) (finK ti Try.f144.results.toList [] (flags laws_eqSite.sig).length (rwI (flags laws_eqSite.sig) 0) laws_eqSite.out) ⟨envOf (([.agg [.int .i64 a0_0, .int .i64 a0_1], .agg [.int .i64 a1_0, .int .i64 a1_1]]).zipIdx.map fun q => (q.2, q.1)), hpOf [], (flags laws_eqSite.sig).length⟩ = laws_eqSite.f k a0_0 a0_1 a1_0 a1_1 := by kernel_rfl
theorem laws_eqSite.ok (k : Nat) : CSound Try.prog 144 (laws_eqSite.C k) :=
  csound κ_ok mixed tok (laws_eqSite.hΓ k) (LH := laws_eqSite.LH k) (fn := Try.f144) (c := bodyOf Try.f144) Try.func144 rfl Try.call144 laws_eqSite.sig [] (laws_eqSite.body k) (by kernel_rfl) (laws_eqSite.lok k) (by decide) fun vs bs lf y hl hb hy => by
    unfold laws_eqSite.body at hb
    split at hb
    · obtain rfl := Option.some.inj hb
      exact ⟨laws_eqSite.out, laws_eqSite.out_ok, (laws_eqSite.den k _ _ _ _).trans hy⟩
    · cases hb
/-! ### laws_eqRule -/
def laws_eqRule.f (k : Nat) (a0_0 : Int) (a0_1 : Int) (a0_2 : Int) (a0_3 : Int) (a0_4 : Int) (a0_5 : Int) (a0_6 : Int) (a0_7 : Int) (a1_0 : Int) (a1_1 : Int) (a1_2 : Int) (a1_3 : Int) (a1_4 : Int) (a1_5 : Int) (a1_6 : Int) (a1_7 : Int) : Option Bool :=
  (bif (a0_0 != a1_0) then some false else (bif (a0_1 != a1_1) then some false else (laws_eqPattern.f k a0_2 a0_3 a1_2 a1_3).bind fun t1 => (bif !t1 then some false else (bif (a0_4 != a1_4) then some false else (bif (a0_5 != a1_5) then some false else (laws_eqSite.f k a0_6 a0_7 a1_6 a1_7).bind fun t2 => (bif !t2 then some false else some true))))))
def laws_eqRule.Γ (k : Nat) : Ct κ := assoc [(121, laws_eqPattern.C k), (144, laws_eqSite.C k)]
def laws_eqRule.LH (k : Nat) : Nat → Option (LHi κ) := assoc []
theorem laws_eqRule.hΓ (k : Nat) : ∀ f g, laws_eqRule.Γ k f = some g → CSound Try.prog f g := G_cons (laws_eqPattern.ok k) (G_cons (laws_eqSite.ok k) G_nil)
theorem laws_eqRule.lok (k : Nat) : LOK ti (laws_eqRule.Γ k) (laws_eqRule.LH k) 0 (loopsOf (bodyOf Try.f123)) :=
  (show loopsOf (bodyOf Try.f123) = [] by kernel_rfl) ▸ LOK_nil
def laws_eqRule.sig : List PSh := [.agg [.sc, .sc, .sc, .sc, .sc, .sc, .sc, .sc], .agg [.sc, .sc, .sc, .sc, .sc, .sc, .sc, .sc]]
def laws_eqRule.g (y : Bool) : Ret κ := ⟨.v (.bool y), [], []⟩
def laws_eqRule.out (r : Ret κ) : Option Bool :=
  match r with
  | ⟨.v (.bool z0), [], []⟩ => some (z0)
  | _ => none
theorem laws_eqRule.out_ok (r : Ret κ) (y : Bool) (h : laws_eqRule.out r = some y) : r = laws_eqRule.g y := by
  unfold laws_eqRule.out at h
  split at h
  · obtain rfl := Option.some.inj h
    rfl
  · cases h
def laws_eqRule.body (k : Nat) (vs : List AV) (bs : List (Blk κ)) : Option (Lf κ) :=
  match vs, bs with
  | [.agg [.int .i64 a0_0, .int .i64 a0_1, .int .i64 a0_2, .int .i64 a0_3, .int .i64 a0_4, .int .i64 a0_5, .int .i64 a0_6, .int .i64 a0_7], .agg [.int .i64 a1_0, .int .i64 a1_1, .int .i64 a1_2, .int .i64 a1_3, .int .i64 a1_4, .int .i64 a1_5, .int .i64 a1_6, .int .i64 a1_7]], [] => some ⟨Bool, laws_eqRule.f k a0_0 a0_1 a0_2 a0_3 a0_4 a0_5 a0_6 a0_7 a1_0 a1_1 a1_2 a1_3 a1_4 a1_5 a1_6 a1_7, laws_eqRule.g⟩
  | _, _ => none
def laws_eqRule.C (k : Nat) : Nat → List AV → AP κ AV := contract laws_eqRule.sig (laws_eqRule.body k)
theorem laws_eqRule.den (k : Nat) (a0_0 : Int) (a0_1 : Int) (a0_2 : Int) (a0_3 : Int) (a0_4 : Int) (a0_5 : Int) (a0_6 : Int) (a0_7 : Int) (a1_0 : Int) (a1_1 : Int) (a1_2 : Int) (a1_3 : Int) (a1_4 : Int) (a1_5 : Int) (a1_6 : Int) (a1_7 : Int) : Code.den ti (laws_eqRule.Γ k) (laws_eqRule.LH k) (bodyOf Try.f123) (finK ti Try.f123.results.toList [] (flags laws_eqRule.sig).length (rwI (flags laws_eqRule.sig) 0) laws_eqRule.out) ⟨envOf (([.agg [.int .i64 a0_0, .int .i64 a0_1, .int .i64 a0_2, .int .i64 a0_3, .int .i64 a0_4, .int .i64 a0_5, .int .i64 a0_6, .int .i64 a0_7], .agg [.int .i64 a1_0, .int .i64 a1_1, .int .i64 a1_2, .int .i64 a1_3, .int .i64 a1_4, .int .i64 a1_5, .int .i64 a1_6, .int .i64 a1_7]]).zipIdx.map fun q => (q.2, q.1)), hpOf [], (flags laws_eqRule.sig).length⟩ = laws_eqRule.f k a0_0 a0_1 a0_2 a0_3 a0_4 a0_5 a0_6 a0_7 a1_0 a1_1 a1_2 a1_3 a1_4 a1_5 a1_6 a1_7 := by kernel_rfl
theorem laws_eqRule.ok (k : Nat) : CSound Try.prog 123 (laws_eqRule.C k) :=
  csound κ_ok mixed tok (laws_eqRule.hΓ k) (LH := laws_eqRule.LH k) (fn := Try.f123) (c := bodyOf Try.f123) Try.func123 rfl Try.call123 laws_eqRule.sig [] (laws_eqRule.body k) (by kernel_rfl) (laws_eqRule.lok k) (by decide) fun vs bs lf y hl hb hy => by
    unfold laws_eqRule.body at hb
    split at hb
    · obtain rfl := Option.some.inj hb
      exact ⟨laws_eqRule.out, laws_eqRule.out_ok, (laws_eqRule.den k _ _ _ _ _ _ _ _ _ _ _ _ _ _ _ _).trans hy⟩
    · cases hb
/-! ### laws_eqRuleS -/
def laws_eqRuleS.L4 {R : Type} (k : Nat) (xl0 : List T_impl_Rule) (xl1 : List T_impl_Rule) (X0 : Bool → Option R) (X1 : Unit → Option R) (rec : Int → Option R) (x2 : Int) : Option R :=
  (bif decide (x2 < (xl0.length : Int)) then (bif decide (0 ≤ x2) then (bif decide (x2 < (xl0.length : Int)) then (bif decide (0 ≤ x2) then (bif decide (x2 < (xl1.length : Int)) then (laws_eqRule.f k ((rd_impl_Rule xl0 x2).f0) ((rd_impl_Rule xl0 x2).f1) ((rd_impl_Rule xl0 x2).f2.f0) ((rd_impl_Rule xl0 x2).f2.f1) ((rd_impl_Rule xl0 x2).f3) ((rd_impl_Rule xl0 x2).f4) ((rd_impl_Rule xl0 x2).f5.f0) ((rd_impl_Rule xl0 x2).f5.f1) ((rd_impl_Rule xl1 x2).f0) ((rd_impl_Rule xl1 x2).f1) ((rd_impl_Rule xl1 x2).f2.f0) ((rd_impl_Rule xl1 x2).f2.f1) ((rd_impl_Rule xl1 x2).f3) ((rd_impl_Rule xl1 x2).f4) ((rd_impl_Rule xl1 x2).f5.f0) ((rd_impl_Rule xl1 x2).f5.f1)).bind fun t1 => (bif !t1 then (X0 false) else (rec (w64 (x2 + (1 : Int))))) else none) else none) else none) else none) else (X1 ()))
def laws_eqRuleS.l4 {R : Type} (k : Nat) (xl0 : List T_impl_Rule) (xl1 : List T_impl_Rule) (X0 : Bool → Option R) (X1 : Unit → Option R) : Nat → Int → Option R
  | 0 => fun _ => none
  | n + 1 => laws_eqRuleS.L4 k xl0 xl1 X0 X1 (laws_eqRuleS.l4 k xl0 xl1 X0 X1 n)
def laws_eqRuleS.f (k : Nat) (a0 : List T_impl_Rule) (a1 : List T_impl_Rule) : Option Bool :=
  (bif ((a0.length : Int) != (a1.length : Int)) then some false else (laws_eqRuleS.l4 k a0 a1 (fun (y2 : Bool) => some y2) (fun (_ : Unit) => some true) k (0 : Int)))
def laws_eqRuleS.h4 (k : Nat) {R : Type} (K : Ex → St κ → Option R) (vs : List AV) (bs : List (Blk κ)) : Option R :=
  match vs, bs with
  | [.v (.sl 0), .v (.sl 1), .v (.int .i64 x2)], [qb0, qb1] => (asO 7 false qb0).bind fun xl0 => (asO 7 false qb1).bind fun xl1 => laws_eqRuleS.l4 k xl0 xl1 (fun (z0 : Bool) => K .ret (stOf [(4, [])] [.v (.bool z0)] [.rows 7 false xl0, .rows 7 false xl1])) (fun (_ : Unit) => K (.exit 0) (stOf [(4, [])] [.v .any] [.rows 7 false xl0, .rows 7 false xl1])) k x2
  | _, _ => none
def laws_eqRuleS.Γ (k : Nat) : Ct κ := assoc [(123, laws_eqRule.C k)]
def laws_eqRuleS.LH (k : Nat) : Nat → Option (LHi κ) := assoc [(4, ⟨2, [(0, [some 7]), (1, [some 7]), (5, [])], [(4, [])], @laws_eqRuleS.h4 k⟩)]
theorem laws_eqRuleS.hΓ (k : Nat) : ∀ f g, laws_eqRuleS.Γ k f = some g → CSound Try.prog f g := G_cons (laws_eqRule.ok k) G_nil
theorem laws_eqRuleS.e4 {R : Type} (K : Ex → St κ → Option R) (k : Nat) (xl0 : List T_impl_Rule) (xl1 : List T_impl_Rule) : ∀ (n : Nat) (x2 : Int), loopN 2 (Code.den ti (laws_eqRuleS.Γ k) (laws_eqRuleS.LH k) (loopAt Try.f81 0)) [(0, [some 7]), (1, [some 7]), (5, [])] [(4, [])] K n [.v (.sl 0), .v (.sl 1), .v (.int .i64 x2)] [.rows 7 false xl0, .rows 7 false xl1] = laws_eqRuleS.l4 k xl0 xl1 (fun (z0 : Bool) => K .ret (stOf [(4, [])] [.v (.bool z0)] [.rows 7 false xl0, .rows 7 false xl1])) (fun (_ : Unit) => K (.exit 0) (stOf [(4, [])] [.v .any] [.rows 7 false xl0, .rows 7 false xl1])) n x2
  | 0, _ => rfl
  | n + 1, x2 => (show loopN 2 (Code.den ti (laws_eqRuleS.Γ k) (laws_eqRuleS.LH k) (loopAt Try.f81 0)) [(0, [some 7]), (1, [some 7]), (5, [])] [(4, [])] K (n + 1) [.v (.sl 0), .v (.sl 1), .v (.int .i64 x2)] [.rows 7 false xl0, .rows 7 false xl1] = laws_eqRuleS.L4 k xl0 xl1 (fun (z0 : Bool) => K .ret (stOf [(4, [])] [.v (.bool z0)] [.rows 7 false xl0, .rows 7 false xl1])) (fun (_ : Unit) => K (.exit 0) (stOf [(4, [])] [.v .any] [.rows 7 false xl0, .rows 7 false xl1])) (fun (x2' : Int) => loopN 2 (Code.den ti (laws_eqRuleS.Γ k) (laws_eqRuleS.LH k) (loopAt Try.f81 0)) [(0, [some 7]), (1, [some 7]), (5, [])] [(4, [])] K n [.v (.sl 0), .v (.sl 1), .v (.int .i64 x2')] [.rows 7 false xl0, .rows 7 false xl1]) x2 by kernel_rfl).trans (congrArg (fun rec => laws_eqRuleS.L4 k xl0 xl1 (fun (z0 : Bool) => K .ret (stOf [(4, [])] [.v (.bool z0)] [.rows 7 false xl0, .rows 7 false xl1])) (fun (_ : Unit) => K (.exit 0) (stOf [(4, [])] [.v .any] [.rows 7 false xl0, .rows 7 false xl1])) rec x2) (funext fun x2' => laws_eqRuleS.e4 K k xl0 xl1 n x2'))
theorem laws_eqRuleS.q4 (k : Nat) {R : Type} (K : Ex → St κ → Option R) (vs : List AV) (bs : List (Blk κ)) (r : R) (h : laws_eqRuleS.h4 k K vs bs = some r) : ∃ n, loopN 2 (Code.den ti (laws_eqRuleS.Γ k) (laws_eqRuleS.LH k) (loopAt Try.f81 0)) [(0, [some 7]), (1, [some 7]), (5, [])] [(4, [])] K n vs bs = some r := by
  unfold laws_eqRuleS.h4 at h
  split at h
  · obtain ⟨_, rfl, h_1⟩ := asO_bind h
    obtain ⟨_, rfl, h_2⟩ := asO_bind h_1
    exact ⟨k, (laws_eqRuleS.e4 K k _ _ k _).trans h_2⟩
  · cases h
theorem laws_eqRuleS.lok (k : Nat) : LOK ti (laws_eqRuleS.Γ k) (laws_eqRuleS.LH k) 2 (loopsOf (bodyOf Try.f81)) :=
  (show loopsOf (bodyOf Try.f81) = [loopAt Try.f81 0] by kernel_rfl) ▸ (LOK_cons (g := ⟨2, [(0, [some 7]), (1, [some 7]), (5, [])], [(4, [])], @laws_eqRuleS.h4 k⟩) (by kernel_rfl) rfl (fun K vs xs r h => laws_eqRuleS.q4 k K vs xs r h) (LOK_nil))
def laws_eqRuleS.sig : List PSh := [.one (.ro 7), .one (.ro 7)]
def laws_eqRuleS.g (y : Bool) : Ret κ := ⟨.v (.bool y), [], []⟩
def laws_eqRuleS.out (r : Ret κ) : Option Bool :=
  match r with
  | ⟨.v (.bool z0), [], []⟩ => some (z0)
  | _ => none
theorem laws_eqRuleS.out_ok (r : Ret κ) (y : Bool) (h : laws_eqRuleS.out r = some y) : r = laws_eqRuleS.g y := by
  unfold laws_eqRuleS.out at h
  split at h
  · obtain rfl := Option.some.inj h
    rfl
  · cases h
def laws_eqRuleS.body (k : Nat) (vs : List AV) (bs : List (Blk κ)) : Option (Lf κ) :=
  match vs, bs with
  | [.v (.sl 0), .v (.sl 1)], [qb0, qb1] => (asO 7 false qb0).bind fun a0 => (asO 7 false qb1).bind fun a1 => some ⟨Bool, laws_eqRuleS.f k a0 a1, laws_eqRuleS.g⟩
  | _, _ => none
def laws_eqRuleS.C (k : Nat) : Nat → List AV → AP κ AV := contract laws_eqRuleS.sig (laws_eqRuleS.body k)
theorem laws_eqRuleS.den (k : Nat) (a0 : List T_impl_Rule) (a1 : List T_impl_Rule) : Code.den ti (laws_eqRuleS.Γ k) (laws_eqRuleS.LH k) (bodyOf Try.f81) (finK ti Try.f81.results.toList [] (flags laws_eqRuleS.sig).length (rwI (flags laws_eqRuleS.sig) 0) laws_eqRuleS.out) ⟨envOf (([.v (.sl 0), .v (.sl 1)]).zipIdx.map fun q => (q.2, q.1)), hpOf [.rows 7 false a0, .rows 7 false a1], (flags laws_eqRuleS.sig).length⟩ = laws_eqRuleS.f k a0 a1 := by kernel_rfl
theorem laws_eqRuleS.ok (k : Nat) : CSound Try.prog 81 (laws_eqRuleS.C k) :=
  csound κ_ok mixed tok (laws_eqRuleS.hΓ k) (LH := laws_eqRuleS.LH k) (fn := Try.f81) (c := bodyOf Try.f81) Try.func81 rfl Try.call81 laws_eqRuleS.sig [] (laws_eqRuleS.body k) (by kernel_rfl) (laws_eqRuleS.lok k) (by decide) fun vs bs lf y hl hb hy => by
    unfold laws_eqRuleS.body at hb
    split at hb
    · obtain ⟨_, rfl, hb_1⟩ := asO_bind hb
      obtain ⟨_, rfl, hb_2⟩ := asO_bind hb_1
      obtain rfl := Option.some.inj hb_2
      exact ⟨laws_eqRuleS.out, laws_eqRuleS.out_ok, (laws_eqRuleS.den k _ _).trans hy⟩
    · cases hb
/-! ### laws_eqOp -/
def laws_eqOp.f (k : Nat) (a0_0 : Int) (a0_1 : Int) (a0_2 : Int) (a0_3 : Int) (a1_0 : Int) (a1_1 : Int) (a1_2 : Int) (a1_3 : Int) : Option Bool :=
  (bif (a0_0 != a1_0) then some false else (bif (a0_1 != a1_1) then some false else (bif (a0_2 != a1_2) then some false else (bif (a0_3 != a1_3) then some false else some true))))
def laws_eqOp.Γ (k : Nat) : Ct κ := assoc []
def laws_eqOp.LH (k : Nat) : Nat → Option (LHi κ) := assoc []
theorem laws_eqOp.hΓ (k : Nat) : ∀ f g, laws_eqOp.Γ k f = some g → CSound Try.prog f g := G_nil
theorem laws_eqOp.lok (k : Nat) : LOK ti (laws_eqOp.Γ k) (laws_eqOp.LH k) 0 (loopsOf (bodyOf Try.f124)) :=
  (show loopsOf (bodyOf Try.f124) = [] by kernel_rfl) ▸ LOK_nil
def laws_eqOp.sig : List PSh := [.agg [.sc, .sc, .sc, .sc], .agg [.sc, .sc, .sc, .sc]]
def laws_eqOp.g (y : Bool) : Ret κ := ⟨.v (.bool y), [], []⟩
def laws_eqOp.out (r : Ret κ) : Option Bool :=
  match r with
  | ⟨.v (.bool z0), [], []⟩ => some (z0)
  | _ => none
theorem laws_eqOp.out_ok (r : Ret κ) (y : Bool) (h : laws_eqOp.out r = some y) : r = laws_eqOp.g y := by
  unfold laws_eqOp.out at h
  split at h
  · obtain rfl := Option.some.inj h
    rfl
  · cases h
def laws_eqOp.body (k : Nat) (vs : List AV) (bs : List (Blk κ)) : Option (Lf κ) :=
  match vs, bs with
  | [.agg [.int .i64 a0_0, .int .i64 a0_1, .int .i64 a0_2, .int .i64 a0_3], .agg [.int .i64 a1_0, .int .i64 a1_1, .int .i64 a1_2, .int .i64 a1_3]], [] => some ⟨Bool, laws_eqOp.f k a0_0 a0_1 a0_2 a0_3 a1_0 a1_1 a1_2 a1_3, laws_eqOp.g⟩
  | _, _ => none
def laws_eqOp.C (k : Nat) : Nat → List AV → AP κ AV := contract laws_eqOp.sig (laws_eqOp.body k)
theorem laws_eqOp.den (k : Nat) (a0_0 : Int) (a0_1 : Int) (a0_2 : Int) (a0_3 : Int) (a1_0 : Int) (a1_1 : Int) (a1_2 : Int) (a1_3 : Int) : Code.den ti (laws_eqOp.Γ k) (laws_eqOp.LH k) (bodyOf Try.f124) (finK ti Try.f124.results.toList [] (flags laws_eqOp.sig).length (rwI (flags laws_eqOp.sig) 0) laws_eqOp.out) ⟨envOf (([.agg [.int .i64 a0_0, .int .i64 a0_1, .int .i64 a0_2, .int .i64 a0_3], .agg [.int .i64 a1_0, .int .i64 a1_1, .int .i64 a1_2, .int .i64 a1_3]]).zipIdx.map fun q => (q.2, q.1)), hpOf [], (flags laws_eqOp.sig).length⟩ = laws_eqOp.f k a0_0 a0_1 a0_2 a0_3 a1_0 a1_1 a1_2 a1_3 := by kernel_rfl
theorem laws_eqOp.ok (k : Nat) : CSound Try.prog 124 (laws_eqOp.C k) :=
  csound κ_ok mixed tok (laws_eqOp.hΓ k) (LH := laws_eqOp.LH k) (fn := Try.f124) (c := bodyOf Try.f124) Try.func124 rfl Try.call124 laws_eqOp.sig [] (laws_eqOp.body k) (by kernel_rfl) (laws_eqOp.lok k) (by decide) fun vs bs lf y hl hb hy => by
    unfold laws_eqOp.body at hb
    split at hb
    · obtain rfl := Option.some.inj hb
      exact ⟨laws_eqOp.out, laws_eqOp.out_ok, (laws_eqOp.den k _ _ _ _ _ _ _ _).trans hy⟩
    · cases hb
/-! ### laws_eqOpS -/
def laws_eqOpS.L4 {R : Type} (k : Nat) (xl0 : List T_impl_Op) (xl1 : List T_impl_Op) (X0 : Bool → Option R) (X1 : Unit → Option R) (rec : Int → Option R) (x2 : Int) : Option R :=
  (bif decide (x2 < (xl0.length : Int)) then (bif decide (0 ≤ x2) then (bif decide (x2 < (xl0.length : Int)) then (bif decide (0 ≤ x2) then (bif decide (x2 < (xl1.length : Int)) then (laws_eqOp.f k ((rd_impl_Op xl0 x2).f0) ((rd_impl_Op xl0 x2).f1) ((rd_impl_Op xl0 x2).f2) ((rd_impl_Op xl0 x2).f3) ((rd_impl_Op xl1 x2).f0) ((rd_impl_Op xl1 x2).f1) ((rd_impl_Op xl1 x2).f2) ((rd_impl_Op xl1 x2).f3)).bind fun t1 => (bif !t1 then (X0 false) else (rec (w64 (x2 + (1 : Int))))) else none) else none) else none) else none) else (X1 ()))
def laws_eqOpS.l4 {R : Type} (k : Nat) (xl0 : List T_impl_Op) (xl1 : List T_impl_Op) (X0 : Bool → Option R) (X1 : Unit → Option R) : Nat → Int → Option R
  | 0 => fun _ => none
  | n + 1 => laws_eqOpS.L4 k xl0 xl1 X0 X1 (laws_eqOpS.l4 k xl0 xl1 X0 X1 n)
def laws_eqOpS.f (k : Nat) (a0 : List T_impl_Op) (a1 : List T_impl_Op) : Option Bool :=
  (bif ((a0.length : Int) != (a1.length : Int)) then some false else (laws_eqOpS.l4 k a0 a1 (fun (y2 : Bool) => some y2) (fun (_ : Unit) => some true) k (0 : Int)))
def laws_eqOpS.h4 (k : Nat) {R : Type} (K : Ex → St κ → Option R) (vs : List AV) (bs : List (Blk κ)) : Option R :=
  match vs, bs with
  | [.v (.sl 0), .v (.sl 1), .v (.int .i64 x2)], [qb0, qb1] => (asO 8 false qb0).bind fun xl0 => (asO 8 false qb1).bind fun xl1 => laws_eqOpS.l4 k xl0 xl1 (fun (z0 : Bool) => K .ret (stOf [(4, [])] [.v (.bool z0)] [.rows 8 false xl0, .rows 8 false xl1])) (fun (_ : Unit) => K (.exit 0) (stOf [(4, [])] [.v .any] [.rows 8 false xl0, .rows 8 false xl1])) k x2
  | _, _ => none
def laws_eqOpS.Γ (k : Nat) : Ct κ := assoc [(124, laws_eqOp.C k)]
def laws_eqOpS.LH (k : Nat) : Nat → Option (LHi κ) := assoc [(4, ⟨2, [(0, [some 8]), (1, [some 8]), (5, [])], [(4, [])], @laws_eqOpS.h4 k⟩)]
theorem laws_eqOpS.hΓ (k : Nat) : ∀ f g, laws_eqOpS.Γ k f = some g → CSound Try.prog f g := G_cons (laws_eqOp.ok k) G_nil
theorem laws_eqOpS.e4 {R : Type} (K : Ex → St κ → Option R) (k : Nat) (xl0 : List T_impl_Op) (xl1 : List T_impl_Op) : ∀ (n : Nat) (x2 : Int), loopN 2 (Code.den ti (laws_eqOpS.Γ k) (laws_eqOpS.LH k) (loopAt Try.f82 0)) [(0, [some 8]), (1, [some 8]), (5, [])] [(4, [])] K n [.v (.sl 0), .v (.sl 1), .v (.int .i64 x2)] [.rows 8 false xl0, .rows 8 false xl1] = laws_eqOpS.l4 k xl0 xl1 (fun (z0 : Bool) => K .ret (stOf [(4, [])] [.v (.bool z0)] [.rows 8 false xl0, .rows 8 false xl1])) (fun (_ : Unit) => K (.exit 0) (stOf [(4, [])] [.v .any] [.rows 8 false xl0, .rows 8 false xl1])) n x2
  | 0, _ => rfl
  | n + 1, x2 => (show loopN 2 (Code.den ti (laws_eqOpS.Γ k) (laws_eqOpS.LH k) (loopAt Try.f82 0)) [(0, [some 8]), (1, [some 8]), (5, [])] [(4, [])] K (n + 1) [.v (.sl 0), .v (.sl 1), .v (.int .i64 x2)] [.rows 8 false xl0, .rows 8 false xl1] = laws_eqOpS.L4 k xl0 xl1 (fun (z0 : Bool) => K .ret (stOf [(4, [])] [.v (.bool z0)] [.rows 8 false xl0, .rows 8 false xl1])) (fun (_ : Unit) => K (.exit 0) (stOf [(4, [])] [.v .any] [.rows 8 false xl0, .rows 8 false xl1])) (fun (x2' : Int) => loopN 2 (Code.den ti (laws_eqOpS.Γ k) (laws_eqOpS.LH k) (loopAt Try.f82 0)) [(0, [some 8]), (1, [some 8]), (5, [])] [(4, [])] K n [.v (.sl 0), .v (.sl 1), .v (.int .i64 x2')] [.rows 8 false xl0, .rows 8 false xl1]) x2 by kernel_rfl).trans (congrArg (fun rec => laws_eqOpS.L4 k xl0 xl1 (fun (z0 : Bool) => K .ret (stOf [(4, [])] [.v (.bool z0)] [.rows 8 false xl0, .rows 8 false xl1])) (fun (_ : Unit) => K (.exit 0) (stOf [(4, [])] [.v .any] [.rows 8 false xl0, .rows 8 false xl1])) rec x2) (funext fun x2' => laws_eqOpS.e4 K k xl0 xl1 n x2'))
theorem laws_eqOpS.q4 (k : Nat) {R : Type} (K : Ex → St κ → Option R) (vs : List AV) (bs : List (Blk κ)) (r : R) (h : laws_eqOpS.h4 k K vs bs = some r) : ∃ n, loopN 2 (Code.den ti (laws_eqOpS.Γ k) (laws_eqOpS.LH k) (loopAt Try.f82 0)) [(0, [some 8]), (1, [some 8]), (5, [])] [(4, [])] K n vs bs = some r := by
  unfold laws_eqOpS.h4 at h
  split at h
  · obtain ⟨_, rfl, h_1⟩ := asO_bind h
    obtain ⟨_, rfl, h_2⟩ := asO_bind h_1
    exact ⟨k, (laws_eqOpS.e4 K k _ _ k _).trans h_2⟩
  · cases h
theorem laws_eqOpS.lok (k : Nat) : LOK ti (laws_eqOpS.Γ k) (laws_eqOpS.LH k) 2 (loopsOf (bodyOf Try.f82)) :=
  (show loopsOf (bodyOf Try.f82) = [loopAt Try.f82 0] by kernel_rfl) ▸ (LOK_cons (g := ⟨2, [(0, [some 8]), (1, [some 8]), (5, [])], [(4, [])], @laws_eqOpS.h4 k⟩) (by kernel_rfl) rfl (fun K vs xs r h => laws_eqOpS.q4 k K vs xs r h) (LOK_nil))
def laws_eqOpS.sig : List PSh := [.one (.ro 8), .one (.ro 8)]
def laws_eqOpS.g (y : Bool) : Ret κ := ⟨.v (.bool y), [], []⟩
def laws_eqOpS.out (r : Ret κ) : Option Bool :=
  match r with
  | ⟨.v (.bool z0), [], []⟩ => some (z0)
  | _ => none
theorem laws_eqOpS.out_ok (r : Ret κ) (y : Bool) (h : laws_eqOpS.out r = some y) : r = laws_eqOpS.g y := by
  unfold laws_eqOpS.out at h
  split at h
  · obtain rfl := Option.some.inj h
    rfl
  · cases h
def laws_eqOpS.body (k : Nat) (vs : List AV) (bs : List (Blk κ)) : Option (Lf κ) :=
  match vs, bs with
  | [.v (.sl 0), .v (.sl 1)], [qb0, qb1] => (asO 8 false qb0).bind fun a0 => (asO 8 false qb1).bind fun a1 => some ⟨Bool, laws_eqOpS.f k a0 a1, laws_eqOpS.g⟩
  | _, _ => none
def laws_eqOpS.C (k : Nat) : Nat → List AV → AP κ AV := contract laws_eqOpS.sig (laws_eqOpS.body k)
theorem laws_eqOpS.den (k : Nat) (a0 : List T_impl_Op) (a1 : List T_impl_Op) : Code.den ti (laws_eqOpS.Γ k) (laws_eqOpS.LH k) (bodyOf Try.f82) (finK ti Try.f82.results.toList [] (flags laws_eqOpS.sig).length (rwI (flags laws_eqOpS.sig) 0) laws_eqOpS.out) ⟨envOf (([.v (.sl 0), .v (.sl 1)]).zipIdx.map fun q => (q.2, q.1)), hpOf [.rows 8 false a0, .rows 8 false a1], (flags laws_eqOpS.sig).length⟩ = laws_eqOpS.f k a0 a1 := by kernel_rfl
theorem laws_eqOpS.ok (k : Nat) : CSound Try.prog 82 (laws_eqOpS.C k) :=
  csound κ_ok mixed tok (laws_eqOpS.hΓ k) (LH := laws_eqOpS.LH k) (fn := Try.f82) (c := bodyOf Try.f82) Try.func82 rfl Try.call82 laws_eqOpS.sig [] (laws_eqOpS.body k) (by kernel_rfl) (laws_eqOpS.lok k) (by decide) fun vs bs lf y hl hb hy => by
    unfold laws_eqOpS.body at hb
    split at hb
    · obtain ⟨_, rfl, hb_1⟩ := asO_bind hb
      obtain ⟨_, rfl, hb_2⟩ := asO_bind hb_1
      obtain rfl := Option.some.inj hb_2
      exact ⟨laws_eqOpS.out, laws_eqOpS.out_ok, (laws_eqOpS.den k _ _).trans hy⟩
    · cases hb
/-! ### laws_eqPackage -/
def laws_eqPackage.f (k : Nat) (a0_0 : Int) (a0_1 : Int) (a0_2 : Int) (a0_3 : List T_impl_Grant) (a0_4 : List T_impl_Flow) (a0_5 : List T_impl_Rule) (a0_6 : List T_impl_Op) (a0_7 : Int) (a1_0 : Int) (a1_1 : Int) (a1_2 : Int) (a1_3 : List T_impl_Grant) (a1_4 : List T_impl_Flow) (a1_5 : List T_impl_Rule) (a1_6 : List T_impl_Op) (a1_7 : Int) : Option Bool :=
  (bif (a0_0 != a1_0) then some false else (bif (a0_1 != a1_1) then some false else (bif (a0_2 != a1_2) then some false else (laws_eqGrantS.f k a0_3 a1_3).bind fun t1 => (bif !t1 then some false else (laws_eqFlowS.f k a0_4 a1_4).bind fun t2 => (bif !t2 then some false else (laws_eqRuleS.f k a0_5 a1_5).bind fun t3 => (bif !t3 then some false else (laws_eqOpS.f k a0_6 a1_6).bind fun t4 => (bif !t4 then some false else (bif (a0_7 != a1_7) then some false else some true))))))))
def laws_eqPackage.Γ (k : Nat) : Ct κ := assoc [(25, laws_eqGrantS.C k), (80, laws_eqFlowS.C k), (81, laws_eqRuleS.C k), (82, laws_eqOpS.C k)]
def laws_eqPackage.LH (k : Nat) : Nat → Option (LHi κ) := assoc []
theorem laws_eqPackage.hΓ (k : Nat) : ∀ f g, laws_eqPackage.Γ k f = some g → CSound Try.prog f g := G_cons (laws_eqGrantS.ok k) (G_cons (laws_eqFlowS.ok k) (G_cons (laws_eqRuleS.ok k) (G_cons (laws_eqOpS.ok k) G_nil)))
theorem laws_eqPackage.lok (k : Nat) : LOK ti (laws_eqPackage.Γ k) (laws_eqPackage.LH k) 8 (loopsOf (bodyOf Try.f26)) :=
  (show loopsOf (bodyOf Try.f26) = [] by kernel_rfl) ▸ LOK_nil
def laws_eqPackage.sig : List PSh := [.agg [.sc, .sc, .sc, .ro 5, .ro 6, .ro 7, .ro 8, .sc], .agg [.sc, .sc, .sc, .ro 5, .ro 6, .ro 7, .ro 8, .sc]]
def laws_eqPackage.g (y : Bool) : Ret κ := ⟨.v (.bool y), [], []⟩
def laws_eqPackage.out (r : Ret κ) : Option Bool :=
  match r with
  | ⟨.v (.bool z0), [], []⟩ => some (z0)
  | _ => none
theorem laws_eqPackage.out_ok (r : Ret κ) (y : Bool) (h : laws_eqPackage.out r = some y) : r = laws_eqPackage.g y := by
  unfold laws_eqPackage.out at h
  split at h
  · obtain rfl := Option.some.inj h
    rfl
  · cases h
def laws_eqPackage.body (k : Nat) (vs : List AV) (bs : List (Blk κ)) : Option (Lf κ) :=
  match vs, bs with
  | [.agg [.int .i64 a0_0, .int .i64 a0_1, .int .i64 a0_2, .sl 0, .sl 1, .sl 2, .sl 3, .int .i64 a0_7], .agg [.int .i64 a1_0, .int .i64 a1_1, .int .i64 a1_2, .sl 4, .sl 5, .sl 6, .sl 7, .int .i64 a1_7]], [qb0, qb1, qb2, qb3, qb4, qb5, qb6, qb7] => (asO 5 false qb0).bind fun a0_3 => (asO 6 false qb1).bind fun a0_4 => (asO 7 false qb2).bind fun a0_5 => (asO 8 false qb3).bind fun a0_6 => (asO 5 false qb4).bind fun a1_3 => (asO 6 false qb5).bind fun a1_4 => (asO 7 false qb6).bind fun a1_5 => (asO 8 false qb7).bind fun a1_6 => some ⟨Bool, laws_eqPackage.f k a0_0 a0_1 a0_2 a0_3 a0_4 a0_5 a0_6 a0_7 a1_0 a1_1 a1_2 a1_3 a1_4 a1_5 a1_6 a1_7, laws_eqPackage.g⟩
  | _, _ => none
def laws_eqPackage.C (k : Nat) : Nat → List AV → AP κ AV := contract laws_eqPackage.sig (laws_eqPackage.body k)
theorem laws_eqPackage.den (k : Nat) (a0_0 : Int) (a0_1 : Int) (a0_2 : Int) (a0_3 : List T_impl_Grant) (a0_4 : List T_impl_Flow) (a0_5 : List T_impl_Rule) (a0_6 : List T_impl_Op) (a0_7 : Int) (a1_0 : Int) (a1_1 : Int) (a1_2 : Int) (a1_3 : List T_impl_Grant) (a1_4 : List T_impl_Flow) (a1_5 : List T_impl_Rule) (a1_6 : List T_impl_Op) (a1_7 : Int) : Code.den ti (laws_eqPackage.Γ k) (laws_eqPackage.LH k) (bodyOf Try.f26) (finK ti Try.f26.results.toList [] (flags laws_eqPackage.sig).length (rwI (flags laws_eqPackage.sig) 0) laws_eqPackage.out) ⟨envOf (([.agg [.int .i64 a0_0, .int .i64 a0_1, .int .i64 a0_2, .sl 0, .sl 1, .sl 2, .sl 3, .int .i64 a0_7], .agg [.int .i64 a1_0, .int .i64 a1_1, .int .i64 a1_2, .sl 4, .sl 5, .sl 6, .sl 7, .int .i64 a1_7]]).zipIdx.map fun q => (q.2, q.1)), hpOf [.rows 5 false a0_3, .rows 6 false a0_4, .rows 7 false a0_5, .rows 8 false a0_6, .rows 5 false a1_3, .rows 6 false a1_4, .rows 7 false a1_5, .rows 8 false a1_6], (flags laws_eqPackage.sig).length⟩ = laws_eqPackage.f k a0_0 a0_1 a0_2 a0_3 a0_4 a0_5 a0_6 a0_7 a1_0 a1_1 a1_2 a1_3 a1_4 a1_5 a1_6 a1_7 := by kernel_rfl
theorem laws_eqPackage.ok (k : Nat) : CSound Try.prog 26 (laws_eqPackage.C k) :=
  csound κ_ok mixed tok (laws_eqPackage.hΓ k) (LH := laws_eqPackage.LH k) (fn := Try.f26) (c := bodyOf Try.f26) Try.func26 rfl Try.call26 laws_eqPackage.sig [] (laws_eqPackage.body k) (by kernel_rfl) (laws_eqPackage.lok k) (by decide) fun vs bs lf y hl hb hy => by
    unfold laws_eqPackage.body at hb
    split at hb
    · obtain ⟨_, rfl, hb_1⟩ := asO_bind hb
      obtain ⟨_, rfl, hb_2⟩ := asO_bind hb_1
      obtain ⟨_, rfl, hb_3⟩ := asO_bind hb_2
      obtain ⟨_, rfl, hb_4⟩ := asO_bind hb_3
      obtain ⟨_, rfl, hb_5⟩ := asO_bind hb_4
      obtain ⟨_, rfl, hb_6⟩ := asO_bind hb_5
      obtain ⟨_, rfl, hb_7⟩ := asO_bind hb_6
      obtain ⟨_, rfl, hb_8⟩ := asO_bind hb_7
      obtain rfl := Option.some.inj hb_8
      exact ⟨laws_eqPackage.out, laws_eqPackage.out_ok, (laws_eqPackage.den k _ _ _ _ _ _ _ _ _ _ _ _ _ _ _ _).trans hy⟩
    · cases hb
/-! ### laws_eqStored -/
def laws_eqStored.f (k : Nat) (a0_0 : Int) (a0_1 : Int) (a0_2 : Int) (a0_3 : Int) (a1_0 : Int) (a1_1 : Int) (a1_2 : Int) (a1_3 : Int) : Option Bool :=
  (bif (a0_0 != a1_0) then some false else (bif (a0_1 != a1_1) then some false else (bif (a0_2 != a1_2) then some false else (bif (a0_3 != a1_3) then some false else some true))))
def laws_eqStored.Γ (k : Nat) : Ct κ := assoc []
def laws_eqStored.LH (k : Nat) : Nat → Option (LHi κ) := assoc []
theorem laws_eqStored.hΓ (k : Nat) : ∀ f g, laws_eqStored.Γ k f = some g → CSound Try.prog f g := G_nil
theorem laws_eqStored.lok (k : Nat) : LOK ti (laws_eqStored.Γ k) (laws_eqStored.LH k) 0 (loopsOf (bodyOf Try.f97)) :=
  (show loopsOf (bodyOf Try.f97) = [] by kernel_rfl) ▸ LOK_nil
def laws_eqStored.sig : List PSh := [.agg [.sc, .sc, .sc, .sc], .agg [.sc, .sc, .sc, .sc]]
def laws_eqStored.g (y : Bool) : Ret κ := ⟨.v (.bool y), [], []⟩
def laws_eqStored.out (r : Ret κ) : Option Bool :=
  match r with
  | ⟨.v (.bool z0), [], []⟩ => some (z0)
  | _ => none
theorem laws_eqStored.out_ok (r : Ret κ) (y : Bool) (h : laws_eqStored.out r = some y) : r = laws_eqStored.g y := by
  unfold laws_eqStored.out at h
  split at h
  · obtain rfl := Option.some.inj h
    rfl
  · cases h
def laws_eqStored.body (k : Nat) (vs : List AV) (bs : List (Blk κ)) : Option (Lf κ) :=
  match vs, bs with
  | [.agg [.int .i64 a0_0, .int .i64 a0_1, .int .i64 a0_2, .int .i64 a0_3], .agg [.int .i64 a1_0, .int .i64 a1_1, .int .i64 a1_2, .int .i64 a1_3]], [] => some ⟨Bool, laws_eqStored.f k a0_0 a0_1 a0_2 a0_3 a1_0 a1_1 a1_2 a1_3, laws_eqStored.g⟩
  | _, _ => none
def laws_eqStored.C (k : Nat) : Nat → List AV → AP κ AV := contract laws_eqStored.sig (laws_eqStored.body k)
theorem laws_eqStored.den (k : Nat) (a0_0 : Int) (a0_1 : Int) (a0_2 : Int) (a0_3 : Int) (a1_0 : Int) (a1_1 : Int) (a1_2 : Int) (a1_3 : Int) : Code.den ti (laws_eqStored.Γ k) (laws_eqStored.LH k) (bodyOf Try.f97) (finK ti Try.f97.results.toList [] (flags laws_eqStored.sig).length (rwI (flags laws_eqStored.sig) 0) laws_eqStored.out) ⟨envOf (([.agg [.int .i64 a0_0, .int .i64 a0_1, .int .i64 a0_2, .int .i64 a0_3], .agg [.int .i64 a1_0, .int .i64 a1_1, .int .i64 a1_2, .int .i64 a1_3]]).zipIdx.map fun q => (q.2, q.1)), hpOf [], (flags laws_eqStored.sig).length⟩ = laws_eqStored.f k a0_0 a0_1 a0_2 a0_3 a1_0 a1_1 a1_2 a1_3 := by kernel_rfl
theorem laws_eqStored.ok (k : Nat) : CSound Try.prog 97 (laws_eqStored.C k) :=
  csound κ_ok mixed tok (laws_eqStored.hΓ k) (LH := laws_eqStored.LH k) (fn := Try.f97) (c := bodyOf Try.f97) Try.func97 rfl Try.call97 laws_eqStored.sig [] (laws_eqStored.body k) (by kernel_rfl) (laws_eqStored.lok k) (by decide) fun vs bs lf y hl hb hy => by
    unfold laws_eqStored.body at hb
    split at hb
    · obtain rfl := Option.some.inj hb
      exact ⟨laws_eqStored.out, laws_eqStored.out_ok, (laws_eqStored.den k _ _ _ _ _ _ _ _).trans hy⟩
    · cases hb
/-! ### laws_eqStoredS -/
def laws_eqStoredS.L4 {R : Type} (k : Nat) (xl0 : List T_impl_Stored) (xl1 : List T_impl_Stored) (X0 : Bool → Option R) (X1 : Unit → Option R) (rec : Int → Option R) (x2 : Int) : Option R :=
  (bif decide (x2 < (xl0.length : Int)) then (bif decide (0 ≤ x2) then (bif decide (x2 < (xl0.length : Int)) then (bif decide (0 ≤ x2) then (bif decide (x2 < (xl1.length : Int)) then (laws_eqStored.f k ((rd_impl_Stored xl0 x2).f0) ((rd_impl_Stored xl0 x2).f1) ((rd_impl_Stored xl0 x2).f2) ((rd_impl_Stored xl0 x2).f3) ((rd_impl_Stored xl1 x2).f0) ((rd_impl_Stored xl1 x2).f1) ((rd_impl_Stored xl1 x2).f2) ((rd_impl_Stored xl1 x2).f3)).bind fun t1 => (bif !t1 then (X0 false) else (rec (w64 (x2 + (1 : Int))))) else none) else none) else none) else none) else (X1 ()))
def laws_eqStoredS.l4 {R : Type} (k : Nat) (xl0 : List T_impl_Stored) (xl1 : List T_impl_Stored) (X0 : Bool → Option R) (X1 : Unit → Option R) : Nat → Int → Option R
  | 0 => fun _ => none
  | n + 1 => laws_eqStoredS.L4 k xl0 xl1 X0 X1 (laws_eqStoredS.l4 k xl0 xl1 X0 X1 n)
def laws_eqStoredS.f (k : Nat) (a0 : List T_impl_Stored) (a1 : List T_impl_Stored) : Option Bool :=
  (bif ((a0.length : Int) != (a1.length : Int)) then some false else (laws_eqStoredS.l4 k a0 a1 (fun (y2 : Bool) => some y2) (fun (_ : Unit) => some true) k (0 : Int)))
def laws_eqStoredS.h4 (k : Nat) {R : Type} (K : Ex → St κ → Option R) (vs : List AV) (bs : List (Blk κ)) : Option R :=
  match vs, bs with
  | [.v (.sl 0), .v (.sl 1), .v (.int .i64 x2)], [qb0, qb1] => (asO 9 false qb0).bind fun xl0 => (asO 9 false qb1).bind fun xl1 => laws_eqStoredS.l4 k xl0 xl1 (fun (z0 : Bool) => K .ret (stOf [(4, [])] [.v (.bool z0)] [.rows 9 false xl0, .rows 9 false xl1])) (fun (_ : Unit) => K (.exit 0) (stOf [(4, [])] [.v .any] [.rows 9 false xl0, .rows 9 false xl1])) k x2
  | _, _ => none
def laws_eqStoredS.Γ (k : Nat) : Ct κ := assoc [(97, laws_eqStored.C k)]
def laws_eqStoredS.LH (k : Nat) : Nat → Option (LHi κ) := assoc [(4, ⟨2, [(0, [some 9]), (1, [some 9]), (5, [])], [(4, [])], @laws_eqStoredS.h4 k⟩)]
theorem laws_eqStoredS.hΓ (k : Nat) : ∀ f g, laws_eqStoredS.Γ k f = some g → CSound Try.prog f g := G_cons (laws_eqStored.ok k) G_nil
theorem laws_eqStoredS.e4 {R : Type} (K : Ex → St κ → Option R) (k : Nat) (xl0 : List T_impl_Stored) (xl1 : List T_impl_Stored) : ∀ (n : Nat) (x2 : Int), loopN 2 (Code.den ti (laws_eqStoredS.Γ k) (laws_eqStoredS.LH k) (loopAt Try.f46 0)) [(0, [some 9]), (1, [some 9]), (5, [])] [(4, [])] K n [.v (.sl 0), .v (.sl 1), .v (.int .i64 x2)] [.rows 9 false xl0, .rows 9 false xl1] = laws_eqStoredS.l4 k xl0 xl1 (fun (z0 : Bool) => K .ret (stOf [(4, [])] [.v (.bool z0)] [.rows 9 false xl0, .rows 9 false xl1])) (fun (_ : Unit) => K (.exit 0) (stOf [(4, [])] [.v .any] [.rows 9 false xl0, .rows 9 false xl1])) n x2
  | 0, _ => rfl
  | n + 1, x2 => (show loopN 2 (Code.den ti (laws_eqStoredS.Γ k) (laws_eqStoredS.LH k) (loopAt Try.f46 0)) [(0, [some 9]), (1, [some 9]), (5, [])] [(4, [])] K (n + 1) [.v (.sl 0), .v (.sl 1), .v (.int .i64 x2)] [.rows 9 false xl0, .rows 9 false xl1] = laws_eqStoredS.L4 k xl0 xl1 (fun (z0 : Bool) => K .ret (stOf [(4, [])] [.v (.bool z0)] [.rows 9 false xl0, .rows 9 false xl1])) (fun (_ : Unit) => K (.exit 0) (stOf [(4, [])] [.v .any] [.rows 9 false xl0, .rows 9 false xl1])) (fun (x2' : Int) => loopN 2 (Code.den ti (laws_eqStoredS.Γ k) (laws_eqStoredS.LH k) (loopAt Try.f46 0)) [(0, [some 9]), (1, [some 9]), (5, [])] [(4, [])] K n [.v (.sl 0), .v (.sl 1), .v (.int .i64 x2')] [.rows 9 false xl0, .rows 9 false xl1]) x2 by kernel_rfl).trans (congrArg (fun rec => laws_eqStoredS.L4 k xl0 xl1 (fun (z0 : Bool) => K .ret (stOf [(4, [])] [.v (.bool z0)] [.rows 9 false xl0, .rows 9 false xl1])) (fun (_ : Unit) => K (.exit 0) (stOf [(4, [])] [.v .any] [.rows 9 false xl0, .rows 9 false xl1])) rec x2) (funext fun x2' => laws_eqStoredS.e4 K k xl0 xl1 n x2'))
theorem laws_eqStoredS.q4 (k : Nat) {R : Type} (K : Ex → St κ → Option R) (vs : List AV) (bs : List (Blk κ)) (r : R) (h : laws_eqStoredS.h4 k K vs bs = some r) : ∃ n, loopN 2 (Code.den ti (laws_eqStoredS.Γ k) (laws_eqStoredS.LH k) (loopAt Try.f46 0)) [(0, [some 9]), (1, [some 9]), (5, [])] [(4, [])] K n vs bs = some r := by
  unfold laws_eqStoredS.h4 at h
  split at h
  · obtain ⟨_, rfl, h_1⟩ := asO_bind h
    obtain ⟨_, rfl, h_2⟩ := asO_bind h_1
    exact ⟨k, (laws_eqStoredS.e4 K k _ _ k _).trans h_2⟩
  · cases h
theorem laws_eqStoredS.lok (k : Nat) : LOK ti (laws_eqStoredS.Γ k) (laws_eqStoredS.LH k) 2 (loopsOf (bodyOf Try.f46)) :=
  (show loopsOf (bodyOf Try.f46) = [loopAt Try.f46 0] by kernel_rfl) ▸ (LOK_cons (g := ⟨2, [(0, [some 9]), (1, [some 9]), (5, [])], [(4, [])], @laws_eqStoredS.h4 k⟩) (by kernel_rfl) rfl (fun K vs xs r h => laws_eqStoredS.q4 k K vs xs r h) (LOK_nil))
def laws_eqStoredS.sig : List PSh := [.one (.ro 9), .one (.ro 9)]
def laws_eqStoredS.g (y : Bool) : Ret κ := ⟨.v (.bool y), [], []⟩
def laws_eqStoredS.out (r : Ret κ) : Option Bool :=
  match r with
  | ⟨.v (.bool z0), [], []⟩ => some (z0)
  | _ => none
theorem laws_eqStoredS.out_ok (r : Ret κ) (y : Bool) (h : laws_eqStoredS.out r = some y) : r = laws_eqStoredS.g y := by
  unfold laws_eqStoredS.out at h
  split at h
  · obtain rfl := Option.some.inj h
    rfl
  · cases h
def laws_eqStoredS.body (k : Nat) (vs : List AV) (bs : List (Blk κ)) : Option (Lf κ) :=
  match vs, bs with
  | [.v (.sl 0), .v (.sl 1)], [qb0, qb1] => (asO 9 false qb0).bind fun a0 => (asO 9 false qb1).bind fun a1 => some ⟨Bool, laws_eqStoredS.f k a0 a1, laws_eqStoredS.g⟩
  | _, _ => none
def laws_eqStoredS.C (k : Nat) : Nat → List AV → AP κ AV := contract laws_eqStoredS.sig (laws_eqStoredS.body k)
theorem laws_eqStoredS.den (k : Nat) (a0 : List T_impl_Stored) (a1 : List T_impl_Stored) : Code.den ti (laws_eqStoredS.Γ k) (laws_eqStoredS.LH k) (bodyOf Try.f46) (finK ti Try.f46.results.toList [] (flags laws_eqStoredS.sig).length (rwI (flags laws_eqStoredS.sig) 0) laws_eqStoredS.out) ⟨envOf (([.v (.sl 0), .v (.sl 1)]).zipIdx.map fun q => (q.2, q.1)), hpOf [.rows 9 false a0, .rows 9 false a1], (flags laws_eqStoredS.sig).length⟩ = laws_eqStoredS.f k a0 a1 := by kernel_rfl
theorem laws_eqStoredS.ok (k : Nat) : CSound Try.prog 46 (laws_eqStoredS.C k) :=
  csound κ_ok mixed tok (laws_eqStoredS.hΓ k) (LH := laws_eqStoredS.LH k) (fn := Try.f46) (c := bodyOf Try.f46) Try.func46 rfl Try.call46 laws_eqStoredS.sig [] (laws_eqStoredS.body k) (by kernel_rfl) (laws_eqStoredS.lok k) (by decide) fun vs bs lf y hl hb hy => by
    unfold laws_eqStoredS.body at hb
    split at hb
    · obtain ⟨_, rfl, hb_1⟩ := asO_bind hb
      obtain ⟨_, rfl, hb_2⟩ := asO_bind hb_1
      obtain rfl := Option.some.inj hb_2
      exact ⟨laws_eqStoredS.out, laws_eqStoredS.out_ok, (laws_eqStoredS.den k _ _).trans hy⟩
    · cases hb
/-! ### laws_eqSnapshot -/
def laws_eqSnapshot.f (k : Nat) (a0_0 : Int) (a0_1 : Int) (a0_2 : Int) (a0_3 : List T_impl_Grant) (a0_4 : List T_impl_Flow) (a0_5 : List T_impl_Rule) (a0_6 : List T_impl_Op) (a0_7 : Int) (a0_8 : List T_impl_Stored) (a1_0 : Int) (a1_1 : Int) (a1_2 : Int) (a1_3 : List T_impl_Grant) (a1_4 : List T_impl_Flow) (a1_5 : List T_impl_Rule) (a1_6 : List T_impl_Op) (a1_7 : Int) (a1_8 : List T_impl_Stored) : Option Bool :=
  (laws_eqPackage.f k a0_0 a0_1 a0_2 a0_3 a0_4 a0_5 a0_6 a0_7 a1_0 a1_1 a1_2 a1_3 a1_4 a1_5 a1_6 a1_7).bind fun t1 => (bif !t1 then some false else (laws_eqStoredS.f k a0_8 a1_8).bind fun t2 => (bif !t2 then some false else some true))
def laws_eqSnapshot.Γ (k : Nat) : Ct κ := assoc [(26, laws_eqPackage.C k), (46, laws_eqStoredS.C k)]
def laws_eqSnapshot.LH (k : Nat) : Nat → Option (LHi κ) := assoc []
theorem laws_eqSnapshot.hΓ (k : Nat) : ∀ f g, laws_eqSnapshot.Γ k f = some g → CSound Try.prog f g := G_cons (laws_eqPackage.ok k) (G_cons (laws_eqStoredS.ok k) G_nil)
theorem laws_eqSnapshot.lok (k : Nat) : LOK ti (laws_eqSnapshot.Γ k) (laws_eqSnapshot.LH k) 10 (loopsOf (bodyOf Try.f45)) :=
  (show loopsOf (bodyOf Try.f45) = [] by kernel_rfl) ▸ LOK_nil
def laws_eqSnapshot.sig : List PSh := [.agg [.sc, .sc, .sc, .ro 5, .ro 6, .ro 7, .ro 8, .sc, .ro 9], .agg [.sc, .sc, .sc, .ro 5, .ro 6, .ro 7, .ro 8, .sc, .ro 9]]
def laws_eqSnapshot.g (y : Bool) : Ret κ := ⟨.v (.bool y), [], []⟩
def laws_eqSnapshot.out (r : Ret κ) : Option Bool :=
  match r with
  | ⟨.v (.bool z0), [], []⟩ => some (z0)
  | _ => none
theorem laws_eqSnapshot.out_ok (r : Ret κ) (y : Bool) (h : laws_eqSnapshot.out r = some y) : r = laws_eqSnapshot.g y := by
  unfold laws_eqSnapshot.out at h
  split at h
  · obtain rfl := Option.some.inj h
    rfl
  · cases h
def laws_eqSnapshot.body (k : Nat) (vs : List AV) (bs : List (Blk κ)) : Option (Lf κ) :=
  match vs, bs with
  | [.agg [.int .i64 a0_0, .int .i64 a0_1, .int .i64 a0_2, .sl 0, .sl 1, .sl 2, .sl 3, .int .i64 a0_7, .sl 4], .agg [.int .i64 a1_0, .int .i64 a1_1, .int .i64 a1_2, .sl 5, .sl 6, .sl 7, .sl 8, .int .i64 a1_7, .sl 9]], [qb0, qb1, qb2, qb3, qb4, qb5, qb6, qb7, qb8, qb9] => (asO 5 false qb0).bind fun a0_3 => (asO 6 false qb1).bind fun a0_4 => (asO 7 false qb2).bind fun a0_5 => (asO 8 false qb3).bind fun a0_6 => (asO 9 false qb4).bind fun a0_8 => (asO 5 false qb5).bind fun a1_3 => (asO 6 false qb6).bind fun a1_4 => (asO 7 false qb7).bind fun a1_5 => (asO 8 false qb8).bind fun a1_6 => (asO 9 false qb9).bind fun a1_8 => some ⟨Bool, laws_eqSnapshot.f k a0_0 a0_1 a0_2 a0_3 a0_4 a0_5 a0_6 a0_7 a0_8 a1_0 a1_1 a1_2 a1_3 a1_4 a1_5 a1_6 a1_7 a1_8, laws_eqSnapshot.g⟩
  | _, _ => none
def laws_eqSnapshot.C (k : Nat) : Nat → List AV → AP κ AV := contract laws_eqSnapshot.sig (laws_eqSnapshot.body k)
theorem laws_eqSnapshot.den (k : Nat) (a0_0 : Int) (a0_1 : Int) (a0_2 : Int) (a0_3 : List T_impl_Grant) (a0_4 : List T_impl_Flow) (a0_5 : List T_impl_Rule) (a0_6 : List T_impl_Op) (a0_7 : Int) (a0_8 : List T_impl_Stored) (a1_0 : Int) (a1_1 : Int) (a1_2 : Int) (a1_3 : List T_impl_Grant) (a1_4 : List T_impl_Flow) (a1_5 : List T_impl_Rule) (a1_6 : List T_impl_Op) (a1_7 : Int) (a1_8 : List T_impl_Stored) : Code.den ti (laws_eqSnapshot.Γ k) (laws_eqSnapshot.LH k) (bodyOf Try.f45) (finK ti Try.f45.results.toList [] (flags laws_eqSnapshot.sig).length (rwI (flags laws_eqSnapshot.sig) 0) laws_eqSnapshot.out) ⟨envOf (([.agg [.int .i64 a0_0, .int .i64 a0_1, .int .i64 a0_2, .sl 0, .sl 1, .sl 2, .sl 3, .int .i64 a0_7, .sl 4], .agg [.int .i64 a1_0, .int .i64 a1_1, .int .i64 a1_2, .sl 5, .sl 6, .sl 7, .sl 8, .int .i64 a1_7, .sl 9]]).zipIdx.map fun q => (q.2, q.1)), hpOf [.rows 5 false a0_3, .rows 6 false a0_4, .rows 7 false a0_5, .rows 8 false a0_6, .rows 9 false a0_8, .rows 5 false a1_3, .rows 6 false a1_4, .rows 7 false a1_5, .rows 8 false a1_6, .rows 9 false a1_8], (flags laws_eqSnapshot.sig).length⟩ = laws_eqSnapshot.f k a0_0 a0_1 a0_2 a0_3 a0_4 a0_5 a0_6 a0_7 a0_8 a1_0 a1_1 a1_2 a1_3 a1_4 a1_5 a1_6 a1_7 a1_8 := by kernel_rfl
theorem laws_eqSnapshot.ok (k : Nat) : CSound Try.prog 45 (laws_eqSnapshot.C k) :=
  csound κ_ok mixed tok (laws_eqSnapshot.hΓ k) (LH := laws_eqSnapshot.LH k) (fn := Try.f45) (c := bodyOf Try.f45) Try.func45 rfl Try.call45 laws_eqSnapshot.sig [] (laws_eqSnapshot.body k) (by kernel_rfl) (laws_eqSnapshot.lok k) (by decide) fun vs bs lf y hl hb hy => by
    unfold laws_eqSnapshot.body at hb
    split at hb
    · obtain ⟨_, rfl, hb_1⟩ := asO_bind hb
      obtain ⟨_, rfl, hb_2⟩ := asO_bind hb_1
      obtain ⟨_, rfl, hb_3⟩ := asO_bind hb_2
      obtain ⟨_, rfl, hb_4⟩ := asO_bind hb_3
      obtain ⟨_, rfl, hb_5⟩ := asO_bind hb_4
      obtain ⟨_, rfl, hb_6⟩ := asO_bind hb_5
      obtain ⟨_, rfl, hb_7⟩ := asO_bind hb_6
      obtain ⟨_, rfl, hb_8⟩ := asO_bind hb_7
      obtain ⟨_, rfl, hb_9⟩ := asO_bind hb_8
      obtain ⟨_, rfl, hb_10⟩ := asO_bind hb_9
      obtain rfl := Option.some.inj hb_10
      exact ⟨laws_eqSnapshot.out, laws_eqSnapshot.out_ok, (laws_eqSnapshot.den k _ _ _ _ _ _ _ _ _ _ _ _ _ _ _ _ _ _).trans hy⟩
    · cases hb
/-! ### laws_markGrantS -/
def laws_markGrantS.L2 {R : Type} (k : Nat) (X0 : Int → List T_impl_Grant → Option R) (rec : Int → Int → List T_impl_Grant → Option R) (x1 : Int) (x2 : Int) (xl0 : List T_impl_Grant) : Option R :=
  (bif decide (x2 < (xl0.length : Int)) then (bif decide (0 ≤ x2) then (bif decide (x2 < (xl0.length : Int)) then (let l1 : List T_impl_Grant := (xl0.set (x2).toNat (⟨x1, (⟨(rd_impl_Grant xl0 x2).f1.f0, (rd_impl_Grant xl0 x2).f1.f1⟩ : T_impl_Pattern), (rd_impl_Grant xl0 x2).f2, (rd_impl_Grant xl0 x2).f3, (rd_impl_Grant xl0 x2).f4, (rd_impl_Grant xl0 x2).f5⟩ : T_impl_Grant)); (bif decide (0 ≤ x2) then (bif decide (x2 < (l1.length : Int)) then (let l2 : List T_impl_Grant := (l1.set (x2).toNat (⟨(rd_impl_Grant l1 x2).f0, (⟨(w64 (x1 + (1 : Int))), (rd_impl_Grant l1 x2).f1.f1⟩ : T_impl_Pattern), (rd_impl_Grant l1 x2).f2, (rd_impl_Grant l1 x2).f3, (rd_impl_Grant l1 x2).f4, (rd_impl_Grant l1 x2).f5⟩ : T_impl_Grant)); (bif decide (0 ≤ x2) then (bif decide (x2 < (l2.length : Int)) then (let l3 : List T_impl_Grant := (l2.set (x2).toNat (⟨(rd_impl_Grant l2 x2).f0, (⟨(rd_impl_Grant l2 x2).f1.f0, (w64 ((w64 (x1 + (1 : Int))) + (1 : Int)))⟩ : T_impl_Pattern), (rd_impl_Grant l2 x2).f2, (rd_impl_Grant l2 x2).f3, (rd_impl_Grant l2 x2).f4, (rd_impl_Grant l2 x2).f5⟩ : T_impl_Grant)); (bif decide (0 ≤ x2) then (bif decide (x2 < (l3.length : Int)) then (let l4 : List T_impl_Grant := (l3.set (x2).toNat (⟨(rd_impl_Grant l3 x2).f0, (⟨(rd_impl_Grant l3 x2).f1.f0, (rd_impl_Grant l3 x2).f1.f1⟩ : T_impl_Pattern), (w64 ((w64 ((w64 (x1 + (1 : Int))) + (1 : Int))) + (1 : Int))), (rd_impl_Grant l3 x2).f3, (rd_impl_Grant l3 x2).f4, (rd_impl_Grant l3 x2).f5⟩ : T_impl_Grant)); (bif decide (0 ≤ x2) then (bif decide (x2 < (l4.length : Int)) then (let l5 : List T_impl_Grant := (l4.set (x2).toNat (⟨(rd_impl_Grant l4 x2).f0, (⟨(rd_impl_Grant l4 x2).f1.f0, (rd_impl_Grant l4 x2).f1.f1⟩ : T_impl_Pattern), (rd_impl_Grant l4 x2).f2, (w64 ((w64 ((w64 ((w64 (x1 + (1 : Int))) + (1 : Int))) + (1 : Int))) + (1 : Int))), (rd_impl_Grant l4 x2).f4, (rd_impl_Grant l4 x2).f5⟩ : T_impl_Grant)); (bif decide (0 ≤ x2) then (bif decide (x2 < (l5.length : Int)) then (let l6 : List T_impl_Grant := (l5.set (x2).toNat (⟨(rd_impl_Grant l5 x2).f0, (⟨(rd_impl_Grant l5 x2).f1.f0, (rd_impl_Grant l5 x2).f1.f1⟩ : T_impl_Pattern), (rd_impl_Grant l5 x2).f2, (rd_impl_Grant l5 x2).f3, (w64 ((w64 ((w64 ((w64 ((w64 (x1 + (1 : Int))) + (1 : Int))) + (1 : Int))) + (1 : Int))) + (1 : Int))), (rd_impl_Grant l5 x2).f5⟩ : T_impl_Grant)); (bif decide (0 ≤ x2) then (bif decide (x2 < (l6.length : Int)) then (let l7 : List T_impl_Grant := (l6.set (x2).toNat (⟨(rd_impl_Grant l6 x2).f0, (⟨(rd_impl_Grant l6 x2).f1.f0, (rd_impl_Grant l6 x2).f1.f1⟩ : T_impl_Pattern), (rd_impl_Grant l6 x2).f2, (rd_impl_Grant l6 x2).f3, (rd_impl_Grant l6 x2).f4, (((w64 ((w64 ((w64 ((w64 ((w64 ((w64 (x1 + (1 : Int))) + (1 : Int))) + (1 : Int))) + (1 : Int))) + (1 : Int))) + (1 : Int))).tmod (3 : Int)) == (0 : Int))⟩ : T_impl_Grant)); (rec (w64 ((w64 ((w64 ((w64 ((w64 ((w64 ((w64 (x1 + (1 : Int))) + (1 : Int))) + (1 : Int))) + (1 : Int))) + (1 : Int))) + (1 : Int))) + (1 : Int))) (w64 (x2 + (1 : Int))) l7)) else none) else none)) else none) else none)) else none) else none)) else none) else none)) else none) else none)) else none) else none)) else none) else none) else (X0 x1 xl0))
def laws_markGrantS.l2 {R : Type} (k : Nat) (X0 : Int → List T_impl_Grant → Option R) : Nat → Int → Int → List T_impl_Grant → Option R
  | 0 => fun _ _ _ => none
  | n + 1 => laws_markGrantS.L2 k X0 (laws_markGrantS.l2 k X0 n)
def laws_markGrantS.f (k : Nat) (a0 : List T_impl_Grant) (a1 : Int) : Option (Int × List T_impl_Grant) :=
  (laws_markGrantS.l2 k (fun (y8 : Int) (y9 : List T_impl_Grant) => some (y8, y9)) k a1 (0 : Int) a0)
def laws_markGrantS.h2 (k : Nat) {R : Type} (K : Ex → St κ → Option R) (vs : List AV) (bs : List (Blk κ)) : Option R :=
  match vs, bs with
  | [.v (.sl 0), .v (.int .i64 x1), .v (.int .i64 x2)], [qb0] => (asO 5 true qb0).bind fun xl0 => laws_markGrantS.l2 k (fun (z0 : Int) (zl0 : List T_impl_Grant) => K (.exit 0) (stOf [(1, [])] [.v (.int .i64 z0)] [.rows 5 true zl0])) k x1 x2 xl0
  | _, _ => none
def laws_markGrantS.Γ (k : Nat) : Ct κ := assoc []
def laws_markGrantS.LH (k : Nat) : Nat → Option (LHi κ) := assoc [(2, ⟨1, [(0, [some 5]), (1, []), (5, [])], [(1, [])], @laws_markGrantS.h2 k⟩)]
theorem laws_markGrantS.hΓ (k : Nat) : ∀ f g, laws_markGrantS.Γ k f = some g → CSound Try.prog f g := G_nil
theorem laws_markGrantS.e2 {R : Type} (K : Ex → St κ → Option R) (k : Nat) : ∀ (n : Nat) (x1 : Int) (x2 : Int) (xl0 : List T_impl_Grant), loopN 1 (Code.den ti (laws_markGrantS.Γ k) (laws_markGrantS.LH k) (loopAt Try.f28 0)) [(0, [some 5]), (1, []), (5, [])] [(1, [])] K n [.v (.sl 0), .v (.int .i64 x1), .v (.int .i64 x2)] [.rows 5 true xl0] = laws_markGrantS.l2 k (fun (z0 : Int) (zl0 : List T_impl_Grant) => K (.exit 0) (stOf [(1, [])] [.v (.int .i64 z0)] [.rows 5 true zl0])) n x1 x2 xl0
  | 0, _, _, _ => rfl
  | n + 1, x1, x2, xl0 => (show loopN 1 (Code.den ti (laws_markGrantS.Γ k) (laws_markGrantS.LH k) (loopAt Try.f28 0)) [(0, [some 5]), (1, []), (5, [])] [(1, [])] K (n + 1) [.v (.sl 0), .v (.int .i64 x1), .v (.int .i64 x2)] [.rows 5 true xl0] = laws_markGrantS.L2 k (fun (z0 : Int) (zl0 : List T_impl_Grant) => K (.exit 0) (stOf [(1, [])] [.v (.int .i64 z0)] [.rows 5 true zl0])) (fun (x1' : Int) (x2' : Int) (xl0' : List T_impl_Grant) => loopN 1 (Code.den ti (laws_markGrantS.Γ k) (laws_markGrantS.LH k) (loopAt Try.f28 0)) [(0, [some 5]), (1, []), (5, [])] [(1, [])] K n [.v (.sl 0), .v (.int .i64 x1'), .v (.int .i64 x2')] [.rows 5 true xl0']) x1 x2 xl0 by kernel_rfl).trans (congrArg (fun rec => laws_markGrantS.L2 k (fun (z0 : Int) (zl0 : List T_impl_Grant) => K (.exit 0) (stOf [(1, [])] [.v (.int .i64 z0)] [.rows 5 true zl0])) rec x1 x2 xl0) (funext fun x1' => funext fun x2' => funext fun xl0' => laws_markGrantS.e2 K k n x1' x2' xl0'))
theorem laws_markGrantS.q2 (k : Nat) {R : Type} (K : Ex → St κ → Option R) (vs : List AV) (bs : List (Blk κ)) (r : R) (h : laws_markGrantS.h2 k K vs bs = some r) : ∃ n, loopN 1 (Code.den ti (laws_markGrantS.Γ k) (laws_markGrantS.LH k) (loopAt Try.f28 0)) [(0, [some 5]), (1, []), (5, [])] [(1, [])] K n vs bs = some r := by
  unfold laws_markGrantS.h2 at h
  split at h
  · obtain ⟨_, rfl, h_1⟩ := asO_bind h
    exact ⟨k, (laws_markGrantS.e2 K k k _ _ _).trans h_1⟩
  · cases h
theorem laws_markGrantS.lok (k : Nat) : LOK ti (laws_markGrantS.Γ k) (laws_markGrantS.LH k) 1 (loopsOf (bodyOf Try.f28)) :=
  (show loopsOf (bodyOf Try.f28) = [loopAt Try.f28 0] by kernel_rfl) ▸ (LOK_cons (g := ⟨1, [(0, [some 5]), (1, []), (5, [])], [(1, [])], @laws_markGrantS.h2 k⟩) (by kernel_rfl) rfl (fun K vs xs r h => laws_markGrantS.q2 k K vs xs r h) (LOK_nil))
def laws_markGrantS.sig : List PSh := [.one (.rw 5), .one .sc]
def laws_markGrantS.g (y : Int × List T_impl_Grant) : Ret κ := ⟨.v (.int .i64 y.1), [.rows 5 true y.2], []⟩
def laws_markGrantS.out (r : Ret κ) : Option (Int × List T_impl_Grant) :=
  match r with
  | ⟨.v (.int .i64 z0), [q1], []⟩ => (asO 5 true q1).bind fun z1 => some (z0, z1)
  | _ => none
theorem laws_markGrantS.out_ok (r : Ret κ) (y : Int × List T_impl_Grant) (h : laws_markGrantS.out r = some y) : r = laws_markGrantS.g y := by
  unfold laws_markGrantS.out at h
  split at h
  · obtain ⟨_, rfl, h_1⟩ := asO_bind h
    obtain rfl := Option.some.inj h_1
    rfl
  · cases h
def laws_markGrantS.body (k : Nat) (vs : List AV) (bs : List (Blk κ)) : Option (Lf κ) :=
  match vs, bs with
  | [.v (.sl 0), .v (.int .i64 a1)], [qb0] => (asO 5 true qb0).bind fun a0 => some ⟨Int × List T_impl_Grant, laws_markGrantS.f k a0 a1, laws_markGrantS.g⟩
  | _, _ => none
def laws_markGrantS.C (k : Nat) : Nat → List AV → AP κ AV := contract laws_markGrantS.sig (laws_markGrantS.body k)
theorem laws_markGrantS.den (k : Nat) (a0 : List T_impl_Grant) (a1 : Int) : Code.den ti (laws_markGrantS.Γ k) (laws_markGrantS.LH k) (bodyOf Try.f28) (finK ti Try.f28.results.toList [] (flags laws_markGrantS.sig).length (rwI (flags laws_markGrantS.sig) 0) laws_markGrantS.out) ⟨envOf (([.v (.sl 0), .v (.int .i64 a1)]).zipIdx.map fun q => (q.2, q.1)), hpOf [.rows 5 true a0], (flags laws_markGrantS.sig).length⟩ = laws_markGrantS.f k a0 a1 := by kernel_rfl
theorem laws_markGrantS.ok (k : Nat) : CSound Try.prog 28 (laws_markGrantS.C k) :=
  csound κ_ok mixed tok (laws_markGrantS.hΓ k) (LH := laws_markGrantS.LH k) (fn := Try.f28) (c := bodyOf Try.f28) Try.func28 rfl Try.call28 laws_markGrantS.sig [] (laws_markGrantS.body k) (by kernel_rfl) (laws_markGrantS.lok k) (by decide) fun vs bs lf y hl hb hy => by
    unfold laws_markGrantS.body at hb
    split at hb
    · obtain ⟨_, rfl, hb_1⟩ := asO_bind hb
      obtain rfl := Option.some.inj hb_1
      exact ⟨laws_markGrantS.out, laws_markGrantS.out_ok, (laws_markGrantS.den k _ _).trans hy⟩
    · cases hb
/-! ### laws_markFlowS -/
def laws_markFlowS.L2 {R : Type} (k : Nat) (X0 : Int → List T_impl_Flow → Option R) (rec : Int → Int → List T_impl_Flow → Option R) (x1 : Int) (x2 : Int) (xl0 : List T_impl_Flow) : Option R :=
  (bif decide (x2 < (xl0.length : Int)) then (bif decide (0 ≤ x2) then (bif decide (x2 < (xl0.length : Int)) then (let l1 : List T_impl_Flow := (xl0.set (x2).toNat (⟨x1, (rd_impl_Flow xl0 x2).f1, (rd_impl_Flow xl0 x2).f2⟩ : T_impl_Flow)); (bif decide (0 ≤ x2) then (bif decide (x2 < (l1.length : Int)) then (let l2 : List T_impl_Flow := (l1.set (x2).toNat (⟨(rd_impl_Flow l1 x2).f0, (w64 (x1 + (1 : Int))), (rd_impl_Flow l1 x2).f2⟩ : T_impl_Flow)); (bif decide (0 ≤ x2) then (bif decide (x2 < (l2.length : Int)) then (let l3 : List T_impl_Flow := (l2.set (x2).toNat (⟨(rd_impl_Flow l2 x2).f0, (rd_impl_Flow l2 x2).f1, (w64 ((w64 (x1 + (1 : Int))) + (1 : Int)))⟩ : T_impl_Flow)); (rec (w64 ((w64 ((w64 (x1 + (1 : Int))) + (1 : Int))) + (1 : Int))) (w64 (x2 + (1 : Int))) l3)) else none) else none)) else none) else none)) else none) else none) else (X0 x1 xl0))
def laws_markFlowS.l2 {R : Type} (k : Nat) (X0 : Int → List T_impl_Flow → Option R) : Nat → Int → Int → List T_impl_Flow → Option R
  | 0 => fun _ _ _ => none
  | n + 1 => laws_markFlowS.L2 k X0 (laws_markFlowS.l2 k X0 n)
def laws_markFlowS.f (k : Nat) (a0 : List T_impl_Flow) (a1 : Int) : Option (Int × List T_impl_Flow) :=
  (laws_markFlowS.l2 k (fun (y4 : Int) (y5 : List T_impl_Flow) => some (y4, y5)) k a1 (0 : Int) a0)
def laws_markFlowS.h2 (k : Nat) {R : Type} (K : Ex → St κ → Option R) (vs : List AV) (bs : List (Blk κ)) : Option R :=
  match vs, bs with
  | [.v (.sl 0), .v (.int .i64 x1), .v (.int .i64 x2)], [qb0] => (asO 6 true qb0).bind fun xl0 => laws_markFlowS.l2 k (fun (z0 : Int) (zl0 : List T_impl_Flow) => K (.exit 0) (stOf [(1, [])] [.v (.int .i64 z0)] [.rows 6 true zl0])) k x1 x2 xl0
  | _, _ => none
def laws_markFlowS.Γ (k : Nat) : Ct κ := assoc []
def laws_markFlowS.LH (k : Nat) : Nat → Option (LHi κ) := assoc [(2, ⟨1, [(0, [some 6]), (1, []), (5, [])], [(1, [])], @laws_markFlowS.h2 k⟩)]
theorem laws_markFlowS.hΓ (k : Nat) : ∀ f g, laws_markFlowS.Γ k f = some g → CSound Try.prog f g := G_nil
theorem laws_markFlowS.e2 {R : Type} (K : Ex → St κ → Option R) (k : Nat) : ∀ (n : Nat) (x1 : Int) (x2 : Int) (xl0 : List T_impl_Flow), loopN 1 (Code.den ti (laws_markFlowS.Γ k) (laws_markFlowS.LH k) (loopAt Try.f83 0)) [(0, [some 6]), (1, []), (5, [])] [(1, [])] K n [.v (.sl 0), .v (.int .i64 x1), .v (.int .i64 x2)] [.rows 6 true xl0] = laws_markFlowS.l2 k (fun (z0 : Int) (zl0 : List T_impl_Flow) => K (.exit 0) (stOf [(1, [])] [.v (.int .i64 z0)] [.rows 6 true zl0])) n x1 x2 xl0
  | 0, _, _, _ => rfl
  | n + 1, x1, x2, xl0 => (show loopN 1 (Code.den ti (laws_markFlowS.Γ k) (laws_markFlowS.LH k) (loopAt Try.f83 0)) [(0, [some 6]), (1, []), (5, [])] [(1, [])] K (n + 1) [.v (.sl 0), .v (.int .i64 x1), .v (.int .i64 x2)] [.rows 6 true xl0] = laws_markFlowS.L2 k (fun (z0 : Int) (zl0 : List T_impl_Flow) => K (.exit 0) (stOf [(1, [])] [.v (.int .i64 z0)] [.rows 6 true zl0])) (fun (x1' : Int) (x2' : Int) (xl0' : List T_impl_Flow) => loopN 1 (Code.den ti (laws_markFlowS.Γ k) (laws_markFlowS.LH k) (loopAt Try.f83 0)) [(0, [some 6]), (1, []), (5, [])] [(1, [])] K n [.v (.sl 0), .v (.int .i64 x1'), .v (.int .i64 x2')] [.rows 6 true xl0']) x1 x2 xl0 by kernel_rfl).trans (congrArg (fun rec => laws_markFlowS.L2 k (fun (z0 : Int) (zl0 : List T_impl_Flow) => K (.exit 0) (stOf [(1, [])] [.v (.int .i64 z0)] [.rows 6 true zl0])) rec x1 x2 xl0) (funext fun x1' => funext fun x2' => funext fun xl0' => laws_markFlowS.e2 K k n x1' x2' xl0'))
theorem laws_markFlowS.q2 (k : Nat) {R : Type} (K : Ex → St κ → Option R) (vs : List AV) (bs : List (Blk κ)) (r : R) (h : laws_markFlowS.h2 k K vs bs = some r) : ∃ n, loopN 1 (Code.den ti (laws_markFlowS.Γ k) (laws_markFlowS.LH k) (loopAt Try.f83 0)) [(0, [some 6]), (1, []), (5, [])] [(1, [])] K n vs bs = some r := by
  unfold laws_markFlowS.h2 at h
  split at h
  · obtain ⟨_, rfl, h_1⟩ := asO_bind h
    exact ⟨k, (laws_markFlowS.e2 K k k _ _ _).trans h_1⟩
  · cases h
theorem laws_markFlowS.lok (k : Nat) : LOK ti (laws_markFlowS.Γ k) (laws_markFlowS.LH k) 1 (loopsOf (bodyOf Try.f83)) :=
  (show loopsOf (bodyOf Try.f83) = [loopAt Try.f83 0] by kernel_rfl) ▸ (LOK_cons (g := ⟨1, [(0, [some 6]), (1, []), (5, [])], [(1, [])], @laws_markFlowS.h2 k⟩) (by kernel_rfl) rfl (fun K vs xs r h => laws_markFlowS.q2 k K vs xs r h) (LOK_nil))
def laws_markFlowS.sig : List PSh := [.one (.rw 6), .one .sc]
def laws_markFlowS.g (y : Int × List T_impl_Flow) : Ret κ := ⟨.v (.int .i64 y.1), [.rows 6 true y.2], []⟩
def laws_markFlowS.out (r : Ret κ) : Option (Int × List T_impl_Flow) :=
  match r with
  | ⟨.v (.int .i64 z0), [q1], []⟩ => (asO 6 true q1).bind fun z1 => some (z0, z1)
  | _ => none
theorem laws_markFlowS.out_ok (r : Ret κ) (y : Int × List T_impl_Flow) (h : laws_markFlowS.out r = some y) : r = laws_markFlowS.g y := by
  unfold laws_markFlowS.out at h
  split at h
  · obtain ⟨_, rfl, h_1⟩ := asO_bind h
    obtain rfl := Option.some.inj h_1
    rfl
  · cases h
def laws_markFlowS.body (k : Nat) (vs : List AV) (bs : List (Blk κ)) : Option (Lf κ) :=
  match vs, bs with
  | [.v (.sl 0), .v (.int .i64 a1)], [qb0] => (asO 6 true qb0).bind fun a0 => some ⟨Int × List T_impl_Flow, laws_markFlowS.f k a0 a1, laws_markFlowS.g⟩
  | _, _ => none
def laws_markFlowS.C (k : Nat) : Nat → List AV → AP κ AV := contract laws_markFlowS.sig (laws_markFlowS.body k)
theorem laws_markFlowS.den (k : Nat) (a0 : List T_impl_Flow) (a1 : Int) : Code.den ti (laws_markFlowS.Γ k) (laws_markFlowS.LH k) (bodyOf Try.f83) (finK ti Try.f83.results.toList [] (flags laws_markFlowS.sig).length (rwI (flags laws_markFlowS.sig) 0) laws_markFlowS.out) ⟨envOf (([.v (.sl 0), .v (.int .i64 a1)]).zipIdx.map fun q => (q.2, q.1)), hpOf [.rows 6 true a0], (flags laws_markFlowS.sig).length⟩ = laws_markFlowS.f k a0 a1 := by kernel_rfl
theorem laws_markFlowS.ok (k : Nat) : CSound Try.prog 83 (laws_markFlowS.C k) :=
  csound κ_ok mixed tok (laws_markFlowS.hΓ k) (LH := laws_markFlowS.LH k) (fn := Try.f83) (c := bodyOf Try.f83) Try.func83 rfl Try.call83 laws_markFlowS.sig [] (laws_markFlowS.body k) (by kernel_rfl) (laws_markFlowS.lok k) (by decide) fun vs bs lf y hl hb hy => by
    unfold laws_markFlowS.body at hb
    split at hb
    · obtain ⟨_, rfl, hb_1⟩ := asO_bind hb
      obtain rfl := Option.some.inj hb_1
      exact ⟨laws_markFlowS.out, laws_markFlowS.out_ok, (laws_markFlowS.den k _ _).trans hy⟩
    · cases hb
end Go.Proofs.Ythingkcckjiniaa.PFnExactTakeSnapshot
