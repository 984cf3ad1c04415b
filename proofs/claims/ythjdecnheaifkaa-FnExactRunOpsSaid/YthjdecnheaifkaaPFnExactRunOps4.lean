/- What the functions that the law FnExactRunOps reaches come to; no conditions. -/
import Derived.Test.YthjdecnheaifkaaPFnExactRunOps3
set_option linter.unusedVariables false
set_option maxRecDepth 100000
namespace Go.Proofs.Ythjdecnheaifkaa.PFnExactRunOps
open Go Go.Eng Go.Proofs
/-! ### laws_eqFlow -/
def laws_eqFlow.f (k : Nat) (a0_0 : Int) (a0_1 : Int) (a0_2 : Int) (a1_0 : Int) (a1_1 : Int) (a1_2 : Int) : Option Bool :=
  (bif (a0_0 != a1_0) then some false else (bif (a0_1 != a1_1) then some false else (bif (a0_2 != a1_2) then some false else some true)))
def laws_eqFlow.Γ (k : Nat) : Ct κ := assoc []
def laws_eqFlow.LH (k : Nat) : Nat → Option (LHi κ) := assoc []
theorem laws_eqFlow.hΓ (k : Nat) : ∀ f g, laws_eqFlow.Γ k f = some g → CSound Try.prog f g := G_nil
theorem laws_eqFlow.lok (k : Nat) : LOK ti (laws_eqFlow.Γ k) (laws_eqFlow.LH k) 0 (loopsOf (bodyOf Try.f73)) :=
  (show loopsOf (bodyOf Try.f73) = [] by kernel_rfl) ▸ LOK_nil
def laws_eqFlow.sig : List PSh := [.agg [.sc, .sc, .sc], .agg [.sc, .sc, .sc]]
def laws_eqFlow.g (y : Bool) : Ret κ := ⟨.v (.bool y), [], []⟩
def laws_eqFlow.out (r : Ret κ) : Option Bool :=
  match r with
  | ⟨.v (.bool z0), [], []⟩ => some (z0)
  | _ => none
theorem laws_eqFlow.out_ok (r : Ret κ) (y : Bool) (h : laws_eqFlow.out r = some y) : r = laws_eqFlow.g y := by
  unfold laws_eqFlow.out at h
  split at h
  · obtain rfl := Option.some.inj h
    rfl
  · cases h
def laws_eqFlow.body (k : Nat) (vs : List AV) (bs : List (Blk κ)) : Option (Lf κ) :=
  match vs, bs with
  | [.agg [.int .i64 a0_0, .int .i64 a0_1, .int .i64 a0_2], .agg [.int .i64 a1_0, .int .i64 a1_1, .int .i64 a1_2]], [] => some ⟨Bool, laws_eqFlow.f k a0_0 a0_1 a0_2 a1_0 a1_1 a1_2, laws_eqFlow.g⟩
  | _, _ => none
def laws_eqFlow.C (k : Nat) : Nat → List AV → AP κ AV := contract laws_eqFlow.sig (laws_eqFlow.body k)
theorem laws_eqFlow.den (k : Nat) (a0_0 : Int) (a0_1 : Int) (a0_2 : Int) (a1_0 : Int) (a1_1 : Int) (a1_2 : Int) : Code.den ti (laws_eqFlow.Γ k) (laws_eqFlow.LH k) (bodyOf Try.f73) (finK ti Try.f73.results.toList [] (flags laws_eqFlow.sig).length (rwI (flags laws_eqFlow.sig) 0) laws_eqFlow.out) ⟨envOf (([.agg [.int .i64 a0_0, .int .i64 a0_1, .int .i64 a0_2], .agg [.int .i64 a1_0, .int .i64 a1_1, .int .i64 a1_2]]).zipIdx.map fun q => (q.2, q.1)), hpOf [], (flags laws_eqFlow.sig).length⟩ = laws_eqFlow.f k a0_0 a0_1 a0_2 a1_0 a1_1 a1_2 := by kernel_rfl
theorem laws_eqFlow.ok (k : Nat) : CSound Try.prog 73 (laws_eqFlow.C k) :=
  csound κ_ok mixed tok (laws_eqFlow.hΓ k) (LH := laws_eqFlow.LH k) (fn := Try.f73) (c := bodyOf Try.f73) Try.func73 rfl Try.call73 laws_eqFlow.sig [] (laws_eqFlow.body k) (by kernel_rfl) (laws_eqFlow.lok k) (by decide) fun vs bs lf y hl hb hy => by
    unfold laws_eqFlow.body at hb
    split at hb
    · obtain rfl := Option.some.inj hb
      exact ⟨laws_eqFlow.out, laws_eqFlow.out_ok, (laws_eqFlow.den k _ _ _ _ _ _).trans hy⟩
    · cases hb
/-! ### laws_eqFlowS -/
def laws_eqFlowS.L4 {R : Type} (k : Nat) (xl0 : List T_impl_Flow) (xl1 : List T_impl_Flow) (X0 : Bool → Option R) (X1 : Unit → Option R) (rec : Int → Option R) (x2 : Int) : Option R :=
  (bif decide (x2 < (xl0.length : Int)) then (bif decide (0 ≤ x2) then (bif decide (x2 < (xl0.length : Int)) then (bif decide (0 ≤ x2) then (bif decide (x2 < (xl1.length : Int)) then (laws_eqFlow.f k ((rd_impl_Flow xl0 x2).f0) ((rd_impl_Flow xl0 x2).f1) ((rd_impl_Flow xl0 x2).f2) ((rd_impl_Flow xl1 x2).f0) ((rd_impl_Flow xl1 x2).f1) ((rd_impl_Flow xl1 x2).f2)).bind fun t1 => (bif !t1 then (X0 false) else (rec (w64 (x2 + (1 : Int))))) else none) else none) else none) else none) else (X1 ()))
def laws_eqFlowS.l4 {R : Type} (k : Nat) (xl0 : List T_impl_Flow) (xl1 : List T_impl_Flow) (X0 : Bool → Option R) (X1 : Unit → Option R) : Nat → Int → Option R
  | 0 => fun _ => none
  | n + 1 => laws_eqFlowS.L4 k xl0 xl1 X0 X1 (laws_eqFlowS.l4 k xl0 xl1 X0 X1 n)
def laws_eqFlowS.f (k : Nat) (a0 : List T_impl_Flow) (a1 : List T_impl_Flow) : Option Bool :=
  (bif ((a0.length : Int) != (a1.length : Int)) then some false else (laws_eqFlowS.l4 k a0 a1 (fun (y2 : Bool) => some y2) (fun (_ : Unit) => some true) k (0 : Int)))
def laws_eqFlowS.h4 (k : Nat) {R : Type} (K : Ex → St κ → Option R) (vs : List AV) (bs : List (Blk κ)) : Option R :=
  match vs, bs with
  | [.v (.sl 0), .v (.sl 1), .v (.int .i64 x2)], [qb0, qb1] => (asO 4 false qb0).bind fun xl0 => (asO 4 false qb1).bind fun xl1 => laws_eqFlowS.l4 k xl0 xl1 (fun (z0 : Bool) => K .ret (stOf [(4, [])] [.v (.bool z0)] [.rows 4 false xl0, .rows 4 false xl1])) (fun (_ : Unit) => K (.exit 0) (stOf [(4, [])] [.v .any] [.rows 4 false xl0, .rows 4 false xl1])) k x2
  | _, _ => none
def laws_eqFlowS.Γ (k : Nat) : Ct κ := assoc [(73, laws_eqFlow.C k)]
def laws_eqFlowS.LH (k : Nat) : Nat → Option (LHi κ) := assoc [(4, ⟨2, [(0, [some 4]), (1, [some 4]), (5, [])], [(4, [])], @laws_eqFlowS.h4 k⟩)]
theorem laws_eqFlowS.hΓ (k : Nat) : ∀ f g, laws_eqFlowS.Γ k f = some g → CSound Try.prog f g := G_cons (laws_eqFlow.ok k) G_nil
theorem laws_eqFlowS.e4 {R : Type} (K : Ex → St κ → Option R) (k : Nat) (xl0 : List T_impl_Flow) (xl1 : List T_impl_Flow) : ∀ (n : Nat) (x2 : Int), loopN 2 (Code.den ti (laws_eqFlowS.Γ k) (laws_eqFlowS.LH k) (loopAt Try.f30 0)) [(0, [some 4]), (1, [some 4]), (5, [])] [(4, [])] K n [.v (.sl 0), .v (.sl 1), .v (.int .i64 x2)] [.rows 4 false xl0, .rows 4 false xl1] = laws_eqFlowS.l4 k xl0 xl1 (fun (z0 : Bool) => K .ret (stOf [(4, [])] [.v (.bool z0)] [.rows 4 false xl0, .rows 4 false xl1])) (fun (_ : Unit) => K (.exit 0) (stOf [(4, [])] [.v .any] [.rows 4 false xl0, .rows 4 false xl1])) n x2
  | 0, _ => rfl
  | n + 1, x2 => (show loopN 2 (Code.den ti (laws_eqFlowS.Γ k) (laws_eqFlowS.LH k) (loopAt Try.f30 0)) [(0, [some 4]), (1, [some 4]), (5, [])] [(4, [])] K (n + 1) [.v (.sl 0), .v (.sl 1), .v (.int .i64 x2)] [.rows 4 false xl0, .rows 4 false xl1] = laws_eqFlowS.L4 k xl0 xl1 (fun (z0 : Bool) => K .ret (stOf [(4, [])] [.v (.bool z0)] [.rows 4 false xl0, .rows 4 false xl1])) (fun (_ : Unit) => K (.exit 0) (stOf [(4, [])] [.v .any] [.rows 4 false xl0, .rows 4 false xl1])) (fun (x2' : Int) => loopN 2 (Code.den ti (laws_eqFlowS.Γ k) (laws_eqFlowS.LH k) (loopAt Try.f30 0)) [(0, [some 4]), (1, [some 4]), (5, [])] [(4, [])] K n [.v (.sl 0), .v (.sl 1), .v (.int .i64 x2')] [.rows 4 false xl0, .rows 4 false xl1]) x2 by kernel_rfl).trans (congrArg (fun rec => laws_eqFlowS.L4 k xl0 xl1 (fun (z0 : Bool) => K .ret (stOf [(4, [])] [.v (.bool z0)] [.rows 4 false xl0, .rows 4 false xl1])) (fun (_ : Unit) => K (.exit 0) (stOf [(4, [])] [.v .any] [.rows 4 false xl0, .rows 4 false xl1])) rec x2) (funext fun x2' => laws_eqFlowS.e4 K k xl0 xl1 n x2'))
theorem laws_eqFlowS.q4 (k : Nat) {R : Type} (K : Ex → St κ → Option R) (vs : List AV) (bs : List (Blk κ)) (r : R) (h : laws_eqFlowS.h4 k K vs bs = some r) : ∃ n, loopN 2 (Code.den ti (laws_eqFlowS.Γ k) (laws_eqFlowS.LH k) (loopAt Try.f30 0)) [(0, [some 4]), (1, [some 4]), (5, [])] [(4, [])] K n vs bs = some r := by
  unfold laws_eqFlowS.h4 at h
  split at h
  · obtain ⟨_, rfl, h_1⟩ := asO_bind h
    obtain ⟨_, rfl, h_2⟩ := asO_bind h_1
    exact ⟨k, (laws_eqFlowS.e4 K k _ _ k _).trans h_2⟩
  · cases h
theorem laws_eqFlowS.lok (k : Nat) : LOK ti (laws_eqFlowS.Γ k) (laws_eqFlowS.LH k) 2 (loopsOf (bodyOf Try.f30)) :=
  (show loopsOf (bodyOf Try.f30) = [loopAt Try.f30 0] by kernel_rfl) ▸ (LOK_cons (g := ⟨2, [(0, [some 4]), (1, [some 4]), (5, [])], [(4, [])], @laws_eqFlowS.h4 k⟩) (by kernel_rfl) rfl (fun K vs xs r h => laws_eqFlowS.q4 k K vs xs r h) (LOK_nil))
def laws_eqFlowS.sig : List PSh := [.one (.ro 4), .one (.ro 4)]
def laws_eqFlowS.g (y : Bool) : Ret κ := ⟨.v (.bool y), [], []⟩
def laws_eqFlowS.out (r : Ret κ) : Option Bool :=
  match r with
  | ⟨.v (.bool z0), [], []⟩ => some (z0)
  | _ => none
theorem laws_eqFlowS.out_ok (r : Ret κ) (y : Bool) (h : laws_eqFlowS.out r = some y) : r = laws_eqFlowS.g y := by
  unfold laws_eqFlowS.out at h
  split at h
  · obtain rfl := Option.some.inj h
    rfl
  · cases h
def laws_eqFlowS.body (k : Nat) (vs : List AV) (bs : List (Blk κ)) : Option (Lf κ) :=
  match vs, bs with
  | [.v (.sl 0), .v (.sl 1)], [qb0, qb1] => (asO 4 false qb0).bind fun a0 => (asO 4 false qb1).bind fun a1 => some ⟨Bool, laws_eqFlowS.f k a0 a1, laws_eqFlowS.g⟩
  | _, _ => none
def laws_eqFlowS.C (k : Nat) : Nat → List AV → AP κ AV := contract laws_eqFlowS.sig (laws_eqFlowS.body k)
theorem laws_eqFlowS.den (k : Nat) (a0 : List T_impl_Flow) (a1 : List T_impl_Flow) : Code.den ti (laws_eqFlowS.Γ k) (laws_eqFlowS.LH k) (bodyOf Try.f30) (finK ti Try.f30.results.toList [] (flags laws_eqFlowS.sig).length (rwI (flags laws_eqFlowS.sig) 0) laws_eqFlowS.out) ⟨envOf (([.v (.sl 0), .v (.sl 1)]).zipIdx.map fun q => (q.2, q.1)), hpOf [.rows 4 false a0, .rows 4 false a1], (flags laws_eqFlowS.sig).length⟩ = laws_eqFlowS.f k a0 a1 := by kernel_rfl
theorem laws_eqFlowS.ok (k : Nat) : CSound Try.prog 30 (laws_eqFlowS.C k) :=
  csound κ_ok mixed tok (laws_eqFlowS.hΓ k) (LH := laws_eqFlowS.LH k) (fn := Try.f30) (c := bodyOf Try.f30) Try.func30 rfl Try.call30 laws_eqFlowS.sig [] (laws_eqFlowS.body k) (by kernel_rfl) (laws_eqFlowS.lok k) (by decide) fun vs bs lf y hl hb hy => by
    unfold laws_eqFlowS.body at hb
    split at hb
    · obtain ⟨_, rfl, hb_1⟩ := asO_bind hb
      obtain ⟨_, rfl, hb_2⟩ := asO_bind hb_1
      obtain rfl := Option.some.inj hb_2
      exact ⟨laws_eqFlowS.out, laws_eqFlowS.out_ok, (laws_eqFlowS.den k _ _).trans hy⟩
    · cases hb
/-! ### laws_markOpS -/
def laws_markOpS.L2 {R : Type} (k : Nat) (X0 : Int → List T_impl_Op → Option R) (rec : Int → Int → List T_impl_Op → Option R) (x1 : Int) (x2 : Int) (xl0 : List T_impl_Op) : Option R :=
  (bif decide (x2 < (xl0.length : Int)) then (bif decide (0 ≤ x2) then (bif decide (x2 < (xl0.length : Int)) then (let l1 : List T_impl_Op := (xl0.set (x2).toNat (⟨x1, (rd_impl_Op xl0 x2).f1, (rd_impl_Op xl0 x2).f2, (rd_impl_Op xl0 x2).f3⟩ : T_impl_Op)); (bif decide (0 ≤ x2) then (bif decide (x2 < (l1.length : Int)) then (let l2 : List T_impl_Op := (l1.set (x2).toNat (⟨(rd_impl_Op l1 x2).f0, (w64 (x1 + (1 : Int))), (rd_impl_Op l1 x2).f2, (rd_impl_Op l1 x2).f3⟩ : T_impl_Op)); (bif decide (0 ≤ x2) then (bif decide (x2 < (l2.length : Int)) then (let l3 : List T_impl_Op := (l2.set (x2).toNat (⟨(rd_impl_Op l2 x2).f0, (rd_impl_Op l2 x2).f1, (w64 ((w64 (x1 + (1 : Int))) + (1 : Int))), (rd_impl_Op l2 x2).f3⟩ : T_impl_Op)); (bif decide (0 ≤ x2) then (bif decide (x2 < (l3.length : Int)) then (let l4 : List T_impl_Op := (l3.set (x2).toNat (⟨(rd_impl_Op l3 x2).f0, (rd_impl_Op l3 x2).f1, (rd_impl_Op l3 x2).f2, (w64 ((w64 ((w64 (x1 + (1 : Int))) + (1 : Int))) + (1 : Int)))⟩ : T_impl_Op)); (rec (w64 ((w64 ((w64 ((w64 (x1 + (1 : Int))) + (1 : Int))) + (1 : Int))) + (1 : Int))) (w64 (x2 + (1 : Int))) l4)) else none) else none)) else none) else none)) else none) else none)) else none) else none) else (X0 x1 xl0))
def laws_markOpS.l2 {R : Type} (k : Nat) (X0 : Int → List T_impl_Op → Option R) : Nat → Int → Int → List T_impl_Op → Option R
  | 0 => fun _ _ _ => none
  | n + 1 => laws_markOpS.L2 k X0 (laws_markOpS.l2 k X0 n)
def laws_markOpS.f (k : Nat) (a0 : List T_impl_Op) (a1 : Int) : Option (Int × List T_impl_Op) :=
  (laws_markOpS.l2 k (fun (y5 : Int) (y6 : List T_impl_Op) => some (y5, y6)) k a1 (0 : Int) a0)
def laws_markOpS.h2 (k : Nat) {R : Type} (K : Ex → St κ → Option R) (vs : List AV) (bs : List (Blk κ)) : Option R :=
  match vs, bs with
  | [.v (.sl 0), .v (.int .i64 x1), .v (.int .i64 x2)], [qb0] => (asO 3 true qb0).bind fun xl0 => laws_markOpS.l2 k (fun (z0 : Int) (zl0 : List T_impl_Op) => K (.exit 0) (stOf [(1, [])] [.v (.int .i64 z0)] [.rows 3 true zl0])) k x1 x2 xl0
  | _, _ => none
def laws_markOpS.Γ (k : Nat) : Ct κ := assoc []
def laws_markOpS.LH (k : Nat) : Nat → Option (LHi κ) := assoc [(2, ⟨1, [(0, [some 3]), (1, []), (5, [])], [(1, [])], @laws_markOpS.h2 k⟩)]
theorem laws_markOpS.hΓ (k : Nat) : ∀ f g, laws_markOpS.Γ k f = some g → CSound Try.prog f g := G_nil
theorem laws_markOpS.e2 {R : Type} (K : Ex → St κ → Option R) (k : Nat) : ∀ (n : Nat) (x1 : Int) (x2 : Int) (xl0 : List T_impl_Op), loopN 1 (Code.den ti (laws_markOpS.Γ k) (laws_markOpS.LH k) (loopAt Try.f17 0)) [(0, [some 3]), (1, []), (5, [])] [(1, [])] K n [.v (.sl 0), .v (.int .i64 x1), .v (.int .i64 x2)] [.rows 3 true xl0] = laws_markOpS.l2 k (fun (z0 : Int) (zl0 : List T_impl_Op) => K (.exit 0) (stOf [(1, [])] [.v (.int .i64 z0)] [.rows 3 true zl0])) n x1 x2 xl0
  | 0, _, _, _ => rfl
  | n + 1, x1, x2, xl0 => (show loopN 1 (Code.den ti (laws_markOpS.Γ k) (laws_markOpS.LH k) (loopAt Try.f17 0)) [(0, [some 3]), (1, []), (5, [])] [(1, [])] K (n + 1) [.v (.sl 0), .v (.int .i64 x1), .v (.int .i64 x2)] [.rows 3 true xl0] = laws_markOpS.L2 k (fun (z0 : Int) (zl0 : List T_impl_Op) => K (.exit 0) (stOf [(1, [])] [.v (.int .i64 z0)] [.rows 3 true zl0])) (fun (x1' : Int) (x2' : Int) (xl0' : List T_impl_Op) => loopN 1 (Code.den ti (laws_markOpS.Γ k) (laws_markOpS.LH k) (loopAt Try.f17 0)) [(0, [some 3]), (1, []), (5, [])] [(1, [])] K n [.v (.sl 0), .v (.int .i64 x1'), .v (.int .i64 x2')] [.rows 3 true xl0']) x1 x2 xl0 by kernel_rfl).trans (congrArg (fun rec => laws_markOpS.L2 k (fun (z0 : Int) (zl0 : List T_impl_Op) => K (.exit 0) (stOf [(1, [])] [.v (.int .i64 z0)] [.rows 3 true zl0])) rec x1 x2 xl0) (funext fun x1' => funext fun x2' => funext fun xl0' => laws_markOpS.e2 K k n x1' x2' xl0'))
theorem laws_markOpS.q2 (k : Nat) {R : Type} (K : Ex → St κ → Option R) (vs : List AV) (bs : List (Blk κ)) (r : R) (h : laws_markOpS.h2 k K vs bs = some r) : ∃ n, loopN 1 (Code.den ti (laws_markOpS.Γ k) (laws_markOpS.LH k) (loopAt Try.f17 0)) [(0, [some 3]), (1, []), (5, [])] [(1, [])] K n vs bs = some r := by
  unfold laws_markOpS.h2 at h
  split at h
  · obtain ⟨_, rfl, h_1⟩ := asO_bind h
    exact ⟨k, (laws_markOpS.e2 K k k _ _ _).trans h_1⟩
  · cases h
theorem laws_markOpS.lok (k : Nat) : LOK ti (laws_markOpS.Γ k) (laws_markOpS.LH k) 1 (loopsOf (bodyOf Try.f17)) :=
  (show loopsOf (bodyOf Try.f17) = [loopAt Try.f17 0] by kernel_rfl) ▸ (LOK_cons (g := ⟨1, [(0, [some 3]), (1, []), (5, [])], [(1, [])], @laws_markOpS.h2 k⟩) (by kernel_rfl) rfl (fun K vs xs r h => laws_markOpS.q2 k K vs xs r h) (LOK_nil))
def laws_markOpS.sig : List PSh := [.one (.rw 3), .one .sc]
def laws_markOpS.g (y : Int × List T_impl_Op) : Ret κ := ⟨.v (.int .i64 y.1), [.rows 3 true y.2], []⟩
def laws_markOpS.out (r : Ret κ) : Option (Int × List T_impl_Op) :=
  match r with
  | ⟨.v (.int .i64 z0), [q1], []⟩ => (asO 3 true q1).bind fun z1 => some (z0, z1)
  | _ => none
theorem laws_markOpS.out_ok (r : Ret κ) (y : Int × List T_impl_Op) (h : laws_markOpS.out r = some y) : r = laws_markOpS.g y := by
  unfold laws_markOpS.out at h
  split at h
  · obtain ⟨_, rfl, h_1⟩ := asO_bind h
    obtain rfl := Option.some.inj h_1
    rfl
  · cases h
def laws_markOpS.body (k : Nat) (vs : List AV) (bs : List (Blk κ)) : Option (Lf κ) :=
  match vs, bs with
  | [.v (.sl 0), .v (.int .i64 a1)], [qb0] => (asO 3 true qb0).bind fun a0 => some ⟨Int × List T_impl_Op, laws_markOpS.f k a0 a1, laws_markOpS.g⟩
  | _, _ => none
def laws_markOpS.C (k : Nat) : Nat → List AV → AP κ AV := contract laws_markOpS.sig (laws_markOpS.body k)
theorem laws_markOpS.den (k : Nat) (a0 : List T_impl_Op) (a1 : Int) : Code.den ti (laws_markOpS.Γ k) (laws_markOpS.LH k) (bodyOf Try.f17) (finK ti Try.f17.results.toList [] (flags laws_markOpS.sig).length (rwI (flags laws_markOpS.sig) 0) laws_markOpS.out) ⟨envOf (([.v (.sl 0), .v (.int .i64 a1)]).zipIdx.map fun q => (q.2, q.1)), hpOf [.rows 3 true a0], (flags laws_markOpS.sig).length⟩ = laws_markOpS.f k a0 a1 := by kernel_rfl
theorem laws_markOpS.ok (k : Nat) : CSound Try.prog 17 (laws_markOpS.C k) :=
  csound κ_ok mixed tok (laws_markOpS.hΓ k) (LH := laws_markOpS.LH k) (fn := Try.f17) (c := bodyOf Try.f17) Try.func17 rfl Try.call17 laws_markOpS.sig [] (laws_markOpS.body k) (by kernel_rfl) (laws_markOpS.lok k) (by decide) fun vs bs lf y hl hb hy => by
    unfold laws_markOpS.body at hb
    split at hb
    · obtain ⟨_, rfl, hb_1⟩ := asO_bind hb
      obtain rfl := Option.some.inj hb_1
      exact ⟨laws_markOpS.out, laws_markOpS.out_ok, (laws_markOpS.den k _ _).trans hy⟩
    · cases hb
/-! ### laws_markIntS -/
def laws_markIntS.L2 {R : Type} (k : Nat) (X0 : Int → List Int → Option R) (rec : Int → Int → List Int → Option R) (x1 : Int) (x2 : Int) (xl0 : List Int) : Option R :=
  (bif decide (x2 < (xl0.length : Int)) then (bif decide (0 ≤ x2) then (bif decide (x2 < (xl0.length : Int)) then (rec (w64 (x1 + (1 : Int))) (w64 (x2 + (1 : Int))) (xl0.set (x2).toNat x1)) else none) else none) else (X0 x1 xl0))
def laws_markIntS.l2 {R : Type} (k : Nat) (X0 : Int → List Int → Option R) : Nat → Int → Int → List Int → Option R
  | 0 => fun _ _ _ => none
  | n + 1 => laws_markIntS.L2 k X0 (laws_markIntS.l2 k X0 n)
def laws_markIntS.f (k : Nat) (a0 : List Int) (a1 : Int) : Option (Int × List Int) :=
  (laws_markIntS.l2 k (fun (y1 : Int) (y2 : List Int) => some (y1, y2)) k a1 (0 : Int) a0)
def laws_markIntS.h2 (k : Nat) {R : Type} (K : Ex → St κ → Option R) (vs : List AV) (bs : List (Blk κ)) : Option R :=
  match vs, bs with
  | [.v (.sl 0), .v (.int .i64 x1), .v (.int .i64 x2)], [qb0] => (asO 1 true qb0).bind fun xl0 => laws_markIntS.l2 k (fun (z0 : Int) (zl0 : List Int) => K (.exit 0) (stOf [(1, [])] [.v (.int .i64 z0)] [.rows 1 true zl0])) k x1 x2 xl0
  | _, _ => none
def laws_markIntS.Γ (k : Nat) : Ct κ := assoc []
def laws_markIntS.LH (k : Nat) : Nat → Option (LHi κ) := assoc [(2, ⟨1, [(0, [some 1]), (1, []), (5, [])], [(1, [])], @laws_markIntS.h2 k⟩)]
theorem laws_markIntS.hΓ (k : Nat) : ∀ f g, laws_markIntS.Γ k f = some g → CSound Try.prog f g := G_nil
theorem laws_markIntS.e2 {R : Type} (K : Ex → St κ → Option R) (k : Nat) : ∀ (n : Nat) (x1 : Int) (x2 : Int) (xl0 : List Int), loopN 1 (Code.den ti (laws_markIntS.Γ k) (laws_markIntS.LH k) (loopAt Try.f18 0)) [(0, [some 1]), (1, []), (5, [])] [(1, [])] K n [.v (.sl 0), .v (.int .i64 x1), .v (.int .i64 x2)] [.rows 1 true xl0] = laws_markIntS.l2 k (fun (z0 : Int) (zl0 : List Int) => K (.exit 0) (stOf [(1, [])] [.v (.int .i64 z0)] [.rows 1 true zl0])) n x1 x2 xl0
  | 0, _, _, _ => rfl
  | n + 1, x1, x2, xl0 => (show loopN 1 (Code.den ti (laws_markIntS.Γ k) (laws_markIntS.LH k) (loopAt Try.f18 0)) [(0, [some 1]), (1, []), (5, [])] [(1, [])] K (n + 1) [.v (.sl 0), .v (.int .i64 x1), .v (.int .i64 x2)] [.rows 1 true xl0] = laws_markIntS.L2 k (fun (z0 : Int) (zl0 : List Int) => K (.exit 0) (stOf [(1, [])] [.v (.int .i64 z0)] [.rows 1 true zl0])) (fun (x1' : Int) (x2' : Int) (xl0' : List Int) => loopN 1 (Code.den ti (laws_markIntS.Γ k) (laws_markIntS.LH k) (loopAt Try.f18 0)) [(0, [some 1]), (1, []), (5, [])] [(1, [])] K n [.v (.sl 0), .v (.int .i64 x1'), .v (.int .i64 x2')] [.rows 1 true xl0']) x1 x2 xl0 by kernel_rfl).trans (congrArg (fun rec => laws_markIntS.L2 k (fun (z0 : Int) (zl0 : List Int) => K (.exit 0) (stOf [(1, [])] [.v (.int .i64 z0)] [.rows 1 true zl0])) rec x1 x2 xl0) (funext fun x1' => funext fun x2' => funext fun xl0' => laws_markIntS.e2 K k n x1' x2' xl0'))
theorem laws_markIntS.q2 (k : Nat) {R : Type} (K : Ex → St κ → Option R) (vs : List AV) (bs : List (Blk κ)) (r : R) (h : laws_markIntS.h2 k K vs bs = some r) : ∃ n, loopN 1 (Code.den ti (laws_markIntS.Γ k) (laws_markIntS.LH k) (loopAt Try.f18 0)) [(0, [some 1]), (1, []), (5, [])] [(1, [])] K n vs bs = some r := by
  unfold laws_markIntS.h2 at h
  split at h
  · obtain ⟨_, rfl, h_1⟩ := asO_bind h
    exact ⟨k, (laws_markIntS.e2 K k k _ _ _).trans h_1⟩
  · cases h
theorem laws_markIntS.lok (k : Nat) : LOK ti (laws_markIntS.Γ k) (laws_markIntS.LH k) 1 (loopsOf (bodyOf Try.f18)) :=
  (show loopsOf (bodyOf Try.f18) = [loopAt Try.f18 0] by kernel_rfl) ▸ (LOK_cons (g := ⟨1, [(0, [some 1]), (1, []), (5, [])], [(1, [])], @laws_markIntS.h2 k⟩) (by kernel_rfl) rfl (fun K vs xs r h => laws_markIntS.q2 k K vs xs r h) (LOK_nil))
def laws_markIntS.sig : List PSh := [.one (.rw 1), .one .sc]
def laws_markIntS.g (y : Int × List Int) : Ret κ := ⟨.v (.int .i64 y.1), [.rows 1 true y.2], []⟩
def laws_markIntS.out (r : Ret κ) : Option (Int × List Int) :=
  match r with
  | ⟨.v (.int .i64 z0), [q1], []⟩ => (asO 1 true q1).bind fun z1 => some (z0, z1)
  | _ => none
theorem laws_markIntS.out_ok (r : Ret κ) (y : Int × List Int) (h : laws_markIntS.out r = some y) : r = laws_markIntS.g y := by
  unfold laws_markIntS.out at h
  split at h
  · obtain ⟨_, rfl, h_1⟩ := asO_bind h
    obtain rfl := Option.some.inj h_1
    rfl
  · cases h
def laws_markIntS.body (k : Nat) (vs : List AV) (bs : List (Blk κ)) : Option (Lf κ) :=
  match vs, bs with
  | [.v (.sl 0), .v (.int .i64 a1)], [qb0] => (asO 1 true qb0).bind fun a0 => some ⟨Int × List Int, laws_markIntS.f k a0 a1, laws_markIntS.g⟩
  | _, _ => none
def laws_markIntS.C (k : Nat) : Nat → List AV → AP κ AV := contract laws_markIntS.sig (laws_markIntS.body k)
theorem laws_markIntS.den (k : Nat) (a0 : List Int) (a1 : Int) : Code.den ti (laws_markIntS.Γ k) (laws_markIntS.LH k) (bodyOf Try.f18) (finK ti Try.f18.results.toList [] (flags laws_markIntS.sig).length (rwI (flags laws_markIntS.sig) 0) laws_markIntS.out) ⟨envOf (([.v (.sl 0), .v (.int .i64 a1)]).zipIdx.map fun q => (q.2, q.1)), hpOf [.rows 1 true a0], (flags laws_markIntS.sig).length⟩ = laws_markIntS.f k a0 a1 := by kernel_rfl
theorem laws_markIntS.ok (k : Nat) : CSound Try.prog 18 (laws_markIntS.C k) :=
  csound κ_ok mixed tok (laws_markIntS.hΓ k) (LH := laws_markIntS.LH k) (fn := Try.f18) (c := bodyOf Try.f18) Try.func18 rfl Try.call18 laws_markIntS.sig [] (laws_markIntS.body k) (by kernel_rfl) (laws_markIntS.lok k) (by decide) fun vs bs lf y hl hb hy => by
    unfold laws_markIntS.body at hb
    split at hb
    · obtain ⟨_, rfl, hb_1⟩ := asO_bind hb
      obtain rfl := Option.some.inj hb_1
      exact ⟨laws_markIntS.out, laws_markIntS.out_ok, (laws_markIntS.den k _ _).trans hy⟩
    · cases hb
/-! ### laws_markFlowS -/
def laws_markFlowS.L2 {R : Type} (k : Nat) (X0 : Int → List T_impl_Flow → Option R) (rec : Int → Int → List T_impl_Flow → Option R) (x1 : Int) (x2 : Int) (xl0 : List T_impl_Flow) : Option R :=
  (bif decide (x2 < (xl0.length : Int)) then (bif decide (0 ≤ x2) then (bif decide (x2 < (xl0.length : Int)) then (let l1 : List T_impl_Flow := (xl0.set (x2).toNat (⟨x1, (rd_impl_Flow xl0 x2).f1, (rd_impl_Flow xl0 x2).f2⟩ : T_impl_Flow)); (bif decide (0 ≤ x2) then (bif decide (x2 < (l1.length : Int)) then (let l2 : List T_impl_Flow := (l1.set (x2).toNat (⟨(rd_impl_Flow l1 x2).f0, (w64 (x1 + (1 : Int))), (rd_impl_Flow l1 x2).f2⟩ : T_impl_Flow)); (bif decide (0 ≤ x2) then (bif decide (x2 < (l2.length : Int)) then (let l3 : List T_impl_Flow := (l2.set (x2).toNat (⟨(rd_impl_Flow l2 x2).f0, (rd_impl_Flow l2 x2).f1, (w64 ((w64 (x1 + (1 : Int))) + (1 : Int)))⟩ : T_impl_Flow)); (rec (w64 ((w64 ((w64 (x1 + (1 : Int))) + (1 : Int))) + (1 : Int))) (w64 (x2 + (1 : Int))) l3)) else none) else none)) else none) else none)) else none) else none) else (X0 x1 xl0))
def laws_markFlowS.l2 {R : Type} (k : Nat) (X0 : Int → List T_impl_Flow → Option R) : Nat → Int → Int → List T_impl_Flow → Option R
  | 0 => fun _ _ _ => none
  | n + 1 => laws_markFlowS.L2 k X0 (laws_markFlowS.l2 k X0 n)
def laws_markFlowS.f (k : Nat) (a0 : List T_impl_Flow) (a1 : Int) : Option (Int × List T_impl_Flow) :=
  (laws_markFlowS.l2 k (fun (y4 : Int) (y5 : List T_impl_Flow) => some (y4, y5)) k a1 (0 : Int) a0)
def laws_markFlowS.h2 (k : Nat) {R : Type} (K : Ex → St κ → Option R) (vs : List AV) (bs : List (Blk κ)) : Option R :=
  match vs, bs with
  | [.v (.sl 0), .v (.int .i64 x1), .v (.int .i64 x2)], [qb0] => (asO 4 true qb0).bind fun xl0 => laws_markFlowS.l2 k (fun (z0 : Int) (zl0 : List T_impl_Flow) => K (.exit 0) (stOf [(1, [])] [.v (.int .i64 z0)] [.rows 4 true zl0])) k x1 x2 xl0
  | _, _ => none
def laws_markFlowS.Γ (k : Nat) : Ct κ := assoc []
def laws_markFlowS.LH (k : Nat) : Nat → Option (LHi κ) := assoc [(2, ⟨1, [(0, [some 4]), (1, []), (5, [])], [(1, [])], @laws_markFlowS.h2 k⟩)]
theorem laws_markFlowS.hΓ (k : Nat) : ∀ f g, laws_markFlowS.Γ k f = some g → CSound Try.prog f g := G_nil
theorem laws_markFlowS.e2 {R : Type} (K : Ex → St κ → Option R) (k : Nat) : ∀ (n : Nat) (x1 : Int) (x2 : Int) (xl0 : List T_impl_Flow), loopN 1 (Code.den ti (laws_markFlowS.Γ k) (laws_markFlowS.LH k) (loopAt Try.f31 0)) [(0, [some 4]), (1, []), (5, [])] [(1, [])] K n [.v (.sl 0), .v (.int .i64 x1), .v (.int .i64 x2)] [.rows 4 true xl0] = laws_markFlowS.l2 k (fun (z0 : Int) (zl0 : List T_impl_Flow) => K (.exit 0) (stOf [(1, [])] [.v (.int .i64 z0)] [.rows 4 true zl0])) n x1 x2 xl0
  | 0, _, _, _ => rfl
  | n + 1, x1, x2, xl0 => (show loopN 1 (Code.den ti (laws_markFlowS.Γ k) (laws_markFlowS.LH k) (loopAt Try.f31 0)) [(0, [some 4]), (1, []), (5, [])] [(1, [])] K (n + 1) [.v (.sl 0), .v (.int .i64 x1), .v (.int .i64 x2)] [.rows 4 true xl0] = laws_markFlowS.L2 k (fun (z0 : Int) (zl0 : List T_impl_Flow) => K (.exit 0) (stOf [(1, [])] [.v (.int .i64 z0)] [.rows 4 true zl0])) (fun (x1' : Int) (x2' : Int) (xl0' : List T_impl_Flow) => loopN 1 (Code.den ti (laws_markFlowS.Γ k) (laws_markFlowS.LH k) (loopAt Try.f31 0)) [(0, [some 4]), (1, []), (5, [])] [(1, [])] K n [.v (.sl 0), .v (.int .i64 x1'), .v (.int .i64 x2')] [.rows 4 true xl0']) x1 x2 xl0 by kernel_rfl).trans (congrArg (fun rec => laws_markFlowS.L2 k (fun (z0 : Int) (zl0 : List T_impl_Flow) => K (.exit 0) (stOf [(1, [])] [.v (.int .i64 z0)] [.rows 4 true zl0])) rec x1 x2 xl0) (funext fun x1' => funext fun x2' => funext fun xl0' => laws_markFlowS.e2 K k n x1' x2' xl0'))
theorem laws_markFlowS.q2 (k : Nat) {R : Type} (K : Ex → St κ → Option R) (vs : List AV) (bs : List (Blk κ)) (r : R) (h : laws_markFlowS.h2 k K vs bs = some r) : ∃ n, loopN 1 (Code.den ti (laws_markFlowS.Γ k) (laws_markFlowS.LH k) (loopAt Try.f31 0)) [(0, [some 4]), (1, []), (5, [])] [(1, [])] K n vs bs = some r := by
  unfold laws_markFlowS.h2 at h
  split at h
  · obtain ⟨_, rfl, h_1⟩ := asO_bind h
    exact ⟨k, (laws_markFlowS.e2 K k k _ _ _).trans h_1⟩
  · cases h
theorem laws_markFlowS.lok (k : Nat) : LOK ti (laws_markFlowS.Γ k) (laws_markFlowS.LH k) 1 (loopsOf (bodyOf Try.f31)) :=
  (show loopsOf (bodyOf Try.f31) = [loopAt Try.f31 0] by kernel_rfl) ▸ (LOK_cons (g := ⟨1, [(0, [some 4]), (1, []), (5, [])], [(1, [])], @laws_markFlowS.h2 k⟩) (by kernel_rfl) rfl (fun K vs xs r h => laws_markFlowS.q2 k K vs xs r h) (LOK_nil))
def laws_markFlowS.sig : List PSh := [.one (.rw 4), .one .sc]
def laws_markFlowS.g (y : Int × List T_impl_Flow) : Ret κ := ⟨.v (.int .i64 y.1), [.rows 4 true y.2], []⟩
def laws_markFlowS.out (r : Ret κ) : Option (Int × List T_impl_Flow) :=
  match r with
  | ⟨.v (.int .i64 z0), [q1], []⟩ => (asO 4 true q1).bind fun z1 => some (z0, z1)
  | _ => none
theorem laws_markFlowS.out_ok (r : Ret κ) (y : Int × List T_impl_Flow) (h : laws_markFlowS.out r = some y) : r = laws_markFlowS.g y := by
  unfold laws_markFlowS.out at h
  split at h
  · obtain ⟨_, rfl, h_1⟩ := asO_bind h
    obtain rfl := Option.some.inj h_1
    rfl
  · cases h
def laws_markFlowS.body (k : Nat) (vs : List AV) (bs : List (Blk κ)) : Option (Lf κ) :=
  match vs, bs with
  | [.v (.sl 0), .v (.int .i64 a1)], [qb0] => (asO 4 true qb0).bind fun a0 => some ⟨Int × List T_impl_Flow, laws_markFlowS.f k a0 a1, laws_markFlowS.g⟩
  | _, _ => none
def laws_markFlowS.C (k : Nat) : Nat → List AV → AP κ AV := contract laws_markFlowS.sig (laws_markFlowS.body k)
theorem laws_markFlowS.den (k : Nat) (a0 : List T_impl_Flow) (a1 : Int) : Code.den ti (laws_markFlowS.Γ k) (laws_markFlowS.LH k) (bodyOf Try.f31) (finK ti Try.f31.results.toList [] (flags laws_markFlowS.sig).length (rwI (flags laws_markFlowS.sig) 0) laws_markFlowS.out) ⟨envOf (([.v (.sl 0), .v (.int .i64 a1)]).zipIdx.map fun q => (q.2, q.1)), hpOf [.rows 4 true a0], (flags laws_markFlowS.sig).length⟩ = laws_markFlowS.f k a0 a1 := by kernel_rfl
theorem laws_markFlowS.ok (k : Nat) : CSound Try.prog 31 (laws_markFlowS.C k) :=
  csound κ_ok mixed tok (laws_markFlowS.hΓ k) (LH := laws_markFlowS.LH k) (fn := Try.f31) (c := bodyOf Try.f31) Try.func31 rfl Try.call31 laws_markFlowS.sig [] (laws_markFlowS.body k) (by kernel_rfl) (laws_markFlowS.lok k) (by decide) fun vs bs lf y hl hb hy => by
    unfold laws_markFlowS.body at hb
    split at hb
    · obtain ⟨_, rfl, hb_1⟩ := asO_bind hb
      obtain rfl := Option.some.inj hb_1
      exact ⟨laws_markFlowS.out, laws_markFlowS.out_ok, (laws_markFlowS.den k _ _).trans hy⟩
    · cases hb
/-! ### laws_markSentS -/
def laws_markSentS.L2 {R : Type} (k : Nat) (X0 : Int → List T_impl_Sent → Option R) (rec : Int → Int → List T_impl_Sent → Option R) (x1 : Int) (x2 : Int) (xl0 : List T_impl_Sent) : Option R :=
  (bif decide (x2 < (xl0.length : Int)) then (bif decide (0 ≤ x2) then (bif decide (x2 < (xl0.length : Int)) then (let l1 : List T_impl_Sent := (xl0.set (x2).toNat (⟨x1, (rd_impl_Sent xl0 x2).f1, (rd_impl_Sent xl0 x2).f2⟩ : T_impl_Sent)); (bif decide (0 ≤ x2) then (bif decide (x2 < (l1.length : Int)) then (let l2 : List T_impl_Sent := (l1.set (x2).toNat (⟨(rd_impl_Sent l1 x2).f0, (w64 (x1 + (1 : Int))), (rd_impl_Sent l1 x2).f2⟩ : T_impl_Sent)); (bif decide (0 ≤ x2) then (bif decide (x2 < (l2.length : Int)) then (let l3 : List T_impl_Sent := (l2.set (x2).toNat (⟨(rd_impl_Sent l2 x2).f0, (rd_impl_Sent l2 x2).f1, (w64 ((w64 (x1 + (1 : Int))) + (1 : Int)))⟩ : T_impl_Sent)); (rec (w64 ((w64 ((w64 (x1 + (1 : Int))) + (1 : Int))) + (1 : Int))) (w64 (x2 + (1 : Int))) l3)) else none) else none)) else none) else none)) else none) else none) else (X0 x1 xl0))
def laws_markSentS.l2 {R : Type} (k : Nat) (X0 : Int → List T_impl_Sent → Option R) : Nat → Int → Int → List T_impl_Sent → Option R
  | 0 => fun _ _ _ => none
  | n + 1 => laws_markSentS.L2 k X0 (laws_markSentS.l2 k X0 n)
def laws_markSentS.f (k : Nat) (a0 : List T_impl_Sent) (a1 : Int) : Option (Int × List T_impl_Sent) :=
  (laws_markSentS.l2 k (fun (y4 : Int) (y5 : List T_impl_Sent) => some (y4, y5)) k a1 (0 : Int) a0)
def laws_markSentS.h2 (k : Nat) {R : Type} (K : Ex → St κ → Option R) (vs : List AV) (bs : List (Blk κ)) : Option R :=
  match vs, bs with
  | [.v (.sl 0), .v (.int .i64 x1), .v (.int .i64 x2)], [qb0] => (asO 5 true qb0).bind fun xl0 => laws_markSentS.l2 k (fun (z0 : Int) (zl0 : List T_impl_Sent) => K (.exit 0) (stOf [(1, [])] [.v (.int .i64 z0)] [.rows 5 true zl0])) k x1 x2 xl0
  | _, _ => none
def laws_markSentS.Γ (k : Nat) : Ct κ := assoc []
def laws_markSentS.LH (k : Nat) : Nat → Option (LHi κ) := assoc [(2, ⟨1, [(0, [some 5]), (1, []), (5, [])], [(1, [])], @laws_markSentS.h2 k⟩)]
theorem laws_markSentS.hΓ (k : Nat) : ∀ f g, laws_markSentS.Γ k f = some g → CSound Try.prog f g := G_nil
theorem laws_markSentS.e2 {R : Type} (K : Ex → St κ → Option R) (k : Nat) : ∀ (n : Nat) (x1 : Int) (x2 : Int) (xl0 : List T_impl_Sent), loopN 1 (Code.den ti (laws_markSentS.Γ k) (laws_markSentS.LH k) (loopAt Try.f40 0)) [(0, [some 5]), (1, []), (5, [])] [(1, [])] K n [.v (.sl 0), .v (.int .i64 x1), .v (.int .i64 x2)] [.rows 5 true xl0] = laws_markSentS.l2 k (fun (z0 : Int) (zl0 : List T_impl_Sent) => K (.exit 0) (stOf [(1, [])] [.v (.int .i64 z0)] [.rows 5 true zl0])) n x1 x2 xl0
  | 0, _, _, _ => rfl
  | n + 1, x1, x2, xl0 => (show loopN 1 (Code.den ti (laws_markSentS.Γ k) (laws_markSentS.LH k) (loopAt Try.f40 0)) [(0, [some 5]), (1, []), (5, [])] [(1, [])] K (n + 1) [.v (.sl 0), .v (.int .i64 x1), .v (.int .i64 x2)] [.rows 5 true xl0] = laws_markSentS.L2 k (fun (z0 : Int) (zl0 : List T_impl_Sent) => K (.exit 0) (stOf [(1, [])] [.v (.int .i64 z0)] [.rows 5 true zl0])) (fun (x1' : Int) (x2' : Int) (xl0' : List T_impl_Sent) => loopN 1 (Code.den ti (laws_markSentS.Γ k) (laws_markSentS.LH k) (loopAt Try.f40 0)) [(0, [some 5]), (1, []), (5, [])] [(1, [])] K n [.v (.sl 0), .v (.int .i64 x1'), .v (.int .i64 x2')] [.rows 5 true xl0']) x1 x2 xl0 by kernel_rfl).trans (congrArg (fun rec => laws_markSentS.L2 k (fun (z0 : Int) (zl0 : List T_impl_Sent) => K (.exit 0) (stOf [(1, [])] [.v (.int .i64 z0)] [.rows 5 true zl0])) rec x1 x2 xl0) (funext fun x1' => funext fun x2' => funext fun xl0' => laws_markSentS.e2 K k n x1' x2' xl0'))
theorem laws_markSentS.q2 (k : Nat) {R : Type} (K : Ex → St κ → Option R) (vs : List AV) (bs : List (Blk κ)) (r : R) (h : laws_markSentS.h2 k K vs bs = some r) : ∃ n, loopN 1 (Code.den ti (laws_markSentS.Γ k) (laws_markSentS.LH k) (loopAt Try.f40 0)) [(0, [some 5]), (1, []), (5, [])] [(1, [])] K n vs bs = some r := by
  unfold laws_markSentS.h2 at h
  split at h
  · obtain ⟨_, rfl, h_1⟩ := asO_bind h
    exact ⟨k, (laws_markSentS.e2 K k k _ _ _).trans h_1⟩
  · cases h
theorem laws_markSentS.lok (k : Nat) : LOK ti (laws_markSentS.Γ k) (laws_markSentS.LH k) 1 (loopsOf (bodyOf Try.f40)) :=
  (show loopsOf (bodyOf Try.f40) = [loopAt Try.f40 0] by kernel_rfl) ▸ (LOK_cons (g := ⟨1, [(0, [some 5]), (1, []), (5, [])], [(1, [])], @laws_markSentS.h2 k⟩) (by kernel_rfl) rfl (fun K vs xs r h => laws_markSentS.q2 k K vs xs r h) (LOK_nil))
def laws_markSentS.sig : List PSh := [.one (.rw 5), .one .sc]
def laws_markSentS.g (y : Int × List T_impl_Sent) : Ret κ := ⟨.v (.int .i64 y.1), [.rows 5 true y.2], []⟩
def laws_markSentS.out (r : Ret κ) : Option (Int × List T_impl_Sent) :=
  match r with
  | ⟨.v (.int .i64 z0), [q1], []⟩ => (asO 5 true q1).bind fun z1 => some (z0, z1)
  | _ => none
theorem laws_markSentS.out_ok (r : Ret κ) (y : Int × List T_impl_Sent) (h : laws_markSentS.out r = some y) : r = laws_markSentS.g y := by
  unfold laws_markSentS.out at h
  split at h
  · obtain ⟨_, rfl, h_1⟩ := asO_bind h
    obtain rfl := Option.some.inj h_1
    rfl
  · cases h
def laws_markSentS.body (k : Nat) (vs : List AV) (bs : List (Blk κ)) : Option (Lf κ) :=
  match vs, bs with
  | [.v (.sl 0), .v (.int .i64 a1)], [qb0] => (asO 5 true qb0).bind fun a0 => some ⟨Int × List T_impl_Sent, laws_markSentS.f k a0 a1, laws_markSentS.g⟩
  | _, _ => none
def laws_markSentS.C (k : Nat) : Nat → List AV → AP κ AV := contract laws_markSentS.sig (laws_markSentS.body k)
theorem laws_markSentS.den (k : Nat) (a0 : List T_impl_Sent) (a1 : Int) : Code.den ti (laws_markSentS.Γ k) (laws_markSentS.LH k) (bodyOf Try.f40) (finK ti Try.f40.results.toList [] (flags laws_markSentS.sig).length (rwI (flags laws_markSentS.sig) 0) laws_markSentS.out) ⟨envOf (([.v (.sl 0), .v (.int .i64 a1)]).zipIdx.map fun q => (q.2, q.1)), hpOf [.rows 5 true a0], (flags laws_markSentS.sig).length⟩ = laws_markSentS.f k a0 a1 := by kernel_rfl
theorem laws_markSentS.ok (k : Nat) : CSound Try.prog 40 (laws_markSentS.C k) :=
  csound κ_ok mixed tok (laws_markSentS.hΓ k) (LH := laws_markSentS.LH k) (fn := Try.f40) (c := bodyOf Try.f40) Try.func40 rfl Try.call40 laws_markSentS.sig [] (laws_markSentS.body k) (by kernel_rfl) (laws_markSentS.lok k) (by decide) fun vs bs lf y hl hb hy => by
    unfold laws_markSentS.body at hb
    split at hb
    · obtain ⟨_, rfl, hb_1⟩ := asO_bind hb
      obtain rfl := Option.some.inj hb_1
      exact ⟨laws_markSentS.out, laws_markSentS.out_ok, (laws_markSentS.den k _ _).trans hy⟩
    · cases hb
/-! ### laws_heldSentS -/
def laws_heldSentS.L2 {R : Type} (k : Nat) (xl0 : List T_impl_Sent) (X0 : Int → Int → Option R) (X1 : Int → Option R) (rec : Int → Int → Option R) (x1 : Int) (x2 : Int) : Option R :=
  (bif decide (x2 < (xl0.length : Int)) then (bif decide (0 ≤ x2) then (bif decide (x2 < (xl0.length : Int)) then (bif ((rd_impl_Sent xl0 x2).f0 != x1) then (X0 x1 (-1 : Int)) else (bif decide (0 ≤ x2) then (bif decide (x2 < (xl0.length : Int)) then (bif ((rd_impl_Sent xl0 x2).f1 != (w64 (x1 + (1 : Int)))) then (X0 (w64 (x1 + (1 : Int))) (-1 : Int)) else (bif decide (0 ≤ x2) then (bif decide (x2 < (xl0.length : Int)) then (bif ((rd_impl_Sent xl0 x2).f2 != (w64 ((w64 (x1 + (1 : Int))) + (1 : Int)))) then (X0 (w64 ((w64 (x1 + (1 : Int))) + (1 : Int))) (-1 : Int)) else (rec (w64 ((w64 ((w64 (x1 + (1 : Int))) + (1 : Int))) + (1 : Int))) (w64 (x2 + (1 : Int))))) else none) else none)) else none) else none)) else none) else none) else (X1 x1))
def laws_heldSentS.l2 {R : Type} (k : Nat) (xl0 : List T_impl_Sent) (X0 : Int → Int → Option R) (X1 : Int → Option R) : Nat → Int → Int → Option R
  | 0 => fun _ _ => none
  | n + 1 => laws_heldSentS.L2 k xl0 X0 X1 (laws_heldSentS.l2 k xl0 X0 X1 n)
def laws_heldSentS.f (k : Nat) (a0 : List T_impl_Sent) (a1 : Int) : Option Int :=
  (laws_heldSentS.l2 k a0 (fun (y1 : Int) (y2 : Int) => some y2) (fun (y3 : Int) => some y3) k a1 (0 : Int))
def laws_heldSentS.h2 (k : Nat) {R : Type} (K : Ex → St κ → Option R) (vs : List AV) (bs : List (Blk κ)) : Option R :=
  match vs, bs with
  | [.v (.sl 0), .v (.int .i64 x1), .v (.int .i64 x2)], [qb0] => (asO 5 false qb0).bind fun xl0 => laws_heldSentS.l2 k xl0 (fun (z0 : Int) (z1 : Int) => K .ret (stOf [(1, []), (4, [])] [.v (.int .i64 z0), .v (.int .i64 z1)] [.rows 5 false xl0])) (fun (z0 : Int) => K (.exit 0) (stOf [(1, []), (4, [])] [.v (.int .i64 z0), .v .any] [.rows 5 false xl0])) k x1 x2
  | _, _ => none
def laws_heldSentS.Γ (k : Nat) : Ct κ := assoc []
def laws_heldSentS.LH (k : Nat) : Nat → Option (LHi κ) := assoc [(2, ⟨1, [(0, [some 5]), (1, []), (5, [])], [(1, []), (4, [])], @laws_heldSentS.h2 k⟩)]
theorem laws_heldSentS.hΓ (k : Nat) : ∀ f g, laws_heldSentS.Γ k f = some g → CSound Try.prog f g := G_nil
theorem laws_heldSentS.e2 {R : Type} (K : Ex → St κ → Option R) (k : Nat) (xl0 : List T_impl_Sent) : ∀ (n : Nat) (x1 : Int) (x2 : Int), loopN 1 (Code.den ti (laws_heldSentS.Γ k) (laws_heldSentS.LH k) (loopAt Try.f41 0)) [(0, [some 5]), (1, []), (5, [])] [(1, []), (4, [])] K n [.v (.sl 0), .v (.int .i64 x1), .v (.int .i64 x2)] [.rows 5 false xl0] = laws_heldSentS.l2 k xl0 (fun (z0 : Int) (z1 : Int) => K .ret (stOf [(1, []), (4, [])] [.v (.int .i64 z0), .v (.int .i64 z1)] [.rows 5 false xl0])) (fun (z0 : Int) => K (.exit 0) (stOf [(1, []), (4, [])] [.v (.int .i64 z0), .v .any] [.rows 5 false xl0])) n x1 x2
  | 0, _, _ => rfl
  | n + 1, x1, x2 => (show loopN 1 (Code.den ti (laws_heldSentS.Γ k) (laws_heldSentS.LH k) (loopAt Try.f41 0)) [(0, [some 5]), (1, []), (5, [])] [(1, []), (4, [])] K (n + 1) [.v (.sl 0), .v (.int .i64 x1), .v (.int .i64 x2)] [.rows 5 false xl0] = laws_heldSentS.L2 k xl0 (fun (z0 : Int) (z1 : Int) => K .ret (stOf [(1, []), (4, [])] [.v (.int .i64 z0), .v (.int .i64 z1)] [.rows 5 false xl0])) (fun (z0 : Int) => K (.exit 0) (stOf [(1, []), (4, [])] [.v (.int .i64 z0), .v .any] [.rows 5 false xl0])) (fun (x1' : Int) (x2' : Int) => loopN 1 (Code.den ti (laws_heldSentS.Γ k) (laws_heldSentS.LH k) (loopAt Try.f41 0)) [(0, [some 5]), (1, []), (5, [])] [(1, []), (4, [])] K n [.v (.sl 0), .v (.int .i64 x1'), .v (.int .i64 x2')] [.rows 5 false xl0]) x1 x2 by kernel_rfl).trans (congrArg (fun rec => laws_heldSentS.L2 k xl0 (fun (z0 : Int) (z1 : Int) => K .ret (stOf [(1, []), (4, [])] [.v (.int .i64 z0), .v (.int .i64 z1)] [.rows 5 false xl0])) (fun (z0 : Int) => K (.exit 0) (stOf [(1, []), (4, [])] [.v (.int .i64 z0), .v .any] [.rows 5 false xl0])) rec x1 x2) (funext fun x1' => funext fun x2' => laws_heldSentS.e2 K k xl0 n x1' x2'))
theorem laws_heldSentS.q2 (k : Nat) {R : Type} (K : Ex → St κ → Option R) (vs : List AV) (bs : List (Blk κ)) (r : R) (h : laws_heldSentS.h2 k K vs bs = some r) : ∃ n, loopN 1 (Code.den ti (laws_heldSentS.Γ k) (laws_heldSentS.LH k) (loopAt Try.f41 0)) [(0, [some 5]), (1, []), (5, [])] [(1, []), (4, [])] K n vs bs = some r := by
  unfold laws_heldSentS.h2 at h
  split at h
  · obtain ⟨_, rfl, h_1⟩ := asO_bind h
    exact ⟨k, (laws_heldSentS.e2 K k _ k _ _).trans h_1⟩
  · cases h
theorem laws_heldSentS.lok (k : Nat) : LOK ti (laws_heldSentS.Γ k) (laws_heldSentS.LH k) 1 (loopsOf (bodyOf Try.f41)) :=
  (show loopsOf (bodyOf Try.f41) = [loopAt Try.f41 0] by kernel_rfl) ▸ (LOK_cons (g := ⟨1, [(0, [some 5]), (1, []), (5, [])], [(1, []), (4, [])], @laws_heldSentS.h2 k⟩) (by kernel_rfl) rfl (fun K vs xs r h => laws_heldSentS.q2 k K vs xs r h) (LOK_nil))
def laws_heldSentS.sig : List PSh := [.one (.ro 5), .one .sc]
def laws_heldSentS.g (y : Int) : Ret κ := ⟨.v (.int .i64 y), [], []⟩
def laws_heldSentS.out (r : Ret κ) : Option Int :=
  match r with
  | ⟨.v (.int .i64 z0), [], []⟩ => some (z0)
  | _ => none
theorem laws_heldSentS.out_ok (r : Ret κ) (y : Int) (h : laws_heldSentS.out r = some y) : r = laws_heldSentS.g y := by
  unfold laws_heldSentS.out at h
  split at h
  · obtain rfl := Option.some.inj h
    rfl
  · cases h
def laws_heldSentS.body (k : Nat) (vs : List AV) (bs : List (Blk κ)) : Option (Lf κ) :=
  match vs, bs with
  | [.v (.sl 0), .v (.int .i64 a1)], [qb0] => (asO 5 false qb0).bind fun a0 => some ⟨Int, laws_heldSentS.f k a0 a1, laws_heldSentS.g⟩
  | _, _ => none
def laws_heldSentS.C (k : Nat) : Nat → List AV → AP κ AV := contract laws_heldSentS.sig (laws_heldSentS.body k)
theorem laws_heldSentS.den (k : Nat) (a0 : List T_impl_Sent) (a1 : Int) : Code.den ti (laws_heldSentS.Γ k) (laws_heldSentS.LH k) (bodyOf Try.f41) (finK ti Try.f41.results.toList [] (flags laws_heldSentS.sig).length (rwI (flags laws_heldSentS.sig) 0) laws_heldSentS.out) ⟨envOf (([.v (.sl 0), .v (.int .i64 a1)]).zipIdx.map fun q => (q.2, q.1)), hpOf [.rows 5 false a0], (flags laws_heldSentS.sig).length⟩ = laws_heldSentS.f k a0 a1 := by kernel_rfl
theorem laws_heldSentS.ok (k : Nat) : CSound Try.prog 41 (laws_heldSentS.C k) :=
  csound κ_ok mixed tok (laws_heldSentS.hΓ k) (LH := laws_heldSentS.LH k) (fn := Try.f41) (c := bodyOf Try.f41) Try.func41 rfl Try.call41 laws_heldSentS.sig [] (laws_heldSentS.body k) (by kernel_rfl) (laws_heldSentS.lok k) (by decide) fun vs bs lf y hl hb hy => by
    unfold laws_heldSentS.body at hb
    split at hb
    · obtain ⟨_, rfl, hb_1⟩ := asO_bind hb
      obtain rfl := Option.some.inj hb_1
      exact ⟨laws_heldSentS.out, laws_heldSentS.out_ok, (laws_heldSentS.den k _ _).trans hy⟩
    · cases hb
/-! ### laws_FnExactRunOps -/
def laws_FnExactRunOps.f (k : Nat) (a0 : List T_laws_Op) (a1 : List Int) (a2 : List T_laws_Flow) (a3 : Int) : Option Bool :=
  (bif decide ((a1.length : Int) > (1048576 : Int)) then some true else (laws_szOpS.f k a0 (1048576 : Int)).bind fun t1 => (bif decide (t1 < (0 : Int)) then some true else (laws_szFlowS.f k a2 t1).bind fun t2 => (bif decide (t2 < (0 : Int)) then some true else (laws_toOpS.f k a0).bind fun t3 => (laws_toIntS.f k a1).bind fun t4 => (laws_toFlowS.f k a2).bind fun t5 => (spec_RunOps.f k t3 t4 t5 a3).bind fun t6 => (laws_toOpS.f k a0).bind fun t7 => (laws_toIntS.f k a1).bind fun t8 => (laws_toFlowS.f k a2).bind fun t9 => (impl_RunOps.f k t7 t8 t9 a3).bind fun t10 => (laws_eqSentS.f k t10 t6).bind fun t11 => (bif !t11 then some false else (laws_toOpS.f k a0).bind fun t12 => (laws_eqOpS.f k t7 t12).bind fun t13 => (bif !t13 then some false else (laws_toIntS.f k a1).bind fun t14 => (laws_eqIntS.f k t8 t14).bind fun t15 => (bif !t15 then some false else (laws_toFlowS.f k a2).bind fun t16 => (laws_eqFlowS.f k t9 t16).bind fun t17 => (bif !t17 then some false else (laws_markOpS.f k t7 (1 : Int)).bind fun t18 => (laws_markIntS.f k t8 t18.1).bind fun t19 => (laws_markFlowS.f k t9 t19.1).bind fun t20 => (bif decide (t20.1 < (0 : Int)) then some false else (laws_eqSentS.f k t10 t6).bind fun t21 => (bif !t21 then some false else (laws_markSentS.f k t10 (1 : Int)).bind fun t22 => (laws_heldSentS.f k t22.2 (1 : Int)).bind fun t23 => (bif decide (t23 < (0 : Int)) then some false else (bif (t23 != t22.1) then some false else (laws_toOpS.f k a0).bind fun t24 => (laws_toIntS.f k a1).bind fun t25 => (laws_toFlowS.f k a2).bind fun t26 => (impl_RunOps.f k t24 t25 t26 a3).bind fun t27 => (laws_eqSentS.f k t27 t6).bind fun t28 => (bif !t28 then some false else (laws_heldSentS.f k t22.2 (1 : Int)).bind fun t29 => (bif decide (t29 < (0 : Int)) then some false else (bif (t29 != t22.1) then some false else some true))))))))))))))
def laws_FnExactRunOps.Γ (k : Nat) : Ct κ := assoc [(11, laws_szOpS.C k), (33, laws_szFlowS.C k), (13, laws_toOpS.C k), (38, laws_toIntS.C k), (35, laws_toFlowS.C k), (37, spec_RunOps.C k), (22, impl_RunOps.C k), (39, laws_eqSentS.C k), (16, laws_eqOpS.C k), (15, laws_eqIntS.C k), (30, laws_eqFlowS.C k), (17, laws_markOpS.C k), (18, laws_markIntS.C k), (31, laws_markFlowS.C k), (40, laws_markSentS.C k), (41, laws_heldSentS.C k)]
def laws_FnExactRunOps.LH (k : Nat) : Nat → Option (LHi κ) := assoc []
theorem laws_FnExactRunOps.hΓ (k : Nat) : ∀ f g, laws_FnExactRunOps.Γ k f = some g → CSound Try.prog f g := G_cons (laws_szOpS.ok k) (G_cons (laws_szFlowS.ok k) (G_cons (laws_toOpS.ok k) (G_cons (laws_toIntS.ok k) (G_cons (laws_toFlowS.ok k) (G_cons (spec_RunOps.ok k) (G_cons (impl_RunOps.ok k) (G_cons (laws_eqSentS.ok k) (G_cons (laws_eqOpS.ok k) (G_cons (laws_eqIntS.ok k) (G_cons (laws_eqFlowS.ok k) (G_cons (laws_markOpS.ok k) (G_cons (laws_markIntS.ok k) (G_cons (laws_markFlowS.ok k) (G_cons (laws_markSentS.ok k) (G_cons (laws_heldSentS.ok k) G_nil)))))))))))))))
theorem laws_FnExactRunOps.lok (k : Nat) : LOK ti (laws_FnExactRunOps.Γ k) (laws_FnExactRunOps.LH k) 3 (loopsOf (bodyOf Try.f7)) :=
  (show loopsOf (bodyOf Try.f7) = [] by kernel_rfl) ▸ LOK_nil
def laws_FnExactRunOps.sig : List PSh := [.one (.ro 0), .one (.ro 1), .one (.ro 2), .one .sc]
def laws_FnExactRunOps.g (y : Bool) : Ret κ := ⟨.v (.bool y), [], []⟩
def laws_FnExactRunOps.out (r : Ret κ) : Option Bool :=
  match r with
  | ⟨.v (.bool z0), [], []⟩ => some (z0)
  | _ => none
theorem laws_FnExactRunOps.out_ok (r : Ret κ) (y : Bool) (h : laws_FnExactRunOps.out r = some y) : r = laws_FnExactRunOps.g y := by
  unfold laws_FnExactRunOps.out at h
  split at h
  · obtain rfl := Option.some.inj h
    rfl
  · cases h
def laws_FnExactRunOps.body (k : Nat) (vs : List AV) (bs : List (Blk κ)) : Option (Lf κ) :=
  match vs, bs with
  | [.v (.sl 0), .v (.sl 1), .v (.sl 2), .v (.int .i64 a3)], [qb0, qb1, qb2] => (asO 0 false qb0).bind fun a0 => (asO 1 false qb1).bind fun a1 => (asO 2 false qb2).bind fun a2 => some ⟨Bool, laws_FnExactRunOps.f k a0 a1 a2 a3, laws_FnExactRunOps.g⟩
  | _, _ => none
def laws_FnExactRunOps.C (k : Nat) : Nat → List AV → AP κ AV := contract laws_FnExactRunOps.sig (laws_FnExactRunOps.body k)
theorem laws_FnExactRunOps.den (k : Nat) (a0 : List T_laws_Op) (a1 : List Int) (a2 : List T_laws_Flow) (a3 : Int) : Code.den ti (laws_FnExactRunOps.Γ k) (laws_FnExactRunOps.LH k) (bodyOf Try.f7) (finK ti Try.f7.results.toList [] (flags laws_FnExactRunOps.sig).length (rwI (flags laws_FnExactRunOps.sig) 0) laws_FnExactRunOps.out) ⟨envOf (([.v (.sl 0), .v (.sl 1), .v (.sl 2), .v (.int .i64 a3)]).zipIdx.map fun q => (q.2, q.1)), hpOf [.rows 0 false a0, .rows 1 false a1, .rows 2 false a2], (flags laws_FnExactRunOps.sig).length⟩ = laws_FnExactRunOps.f k a0 a1 a2 a3 := by kernel_rfl
theorem laws_FnExactRunOps.ok (k : Nat) : CSound Try.prog 7 (laws_FnExactRunOps.C k) :=
  csound κ_ok mixed tok (laws_FnExactRunOps.hΓ k) (LH := laws_FnExactRunOps.LH k) (fn := Try.f7) (c := bodyOf Try.f7) Try.func7 rfl Try.call7 laws_FnExactRunOps.sig [] (laws_FnExactRunOps.body k) (by kernel_rfl) (laws_FnExactRunOps.lok k) (by decide) fun vs bs lf y hl hb hy => by
    unfold laws_FnExactRunOps.body at hb
    split at hb
    · obtain ⟨_, rfl, hb_1⟩ := asO_bind hb
      obtain ⟨_, rfl, hb_2⟩ := asO_bind hb_1
      obtain ⟨_, rfl, hb_3⟩ := asO_bind hb_2
      obtain rfl := Option.some.inj hb_3
      exact ⟨laws_FnExactRunOps.out, laws_FnExactRunOps.out_ok, (laws_FnExactRunOps.den k _ _ _ _).trans hy⟩
    · cases hb
end Go.Proofs.Ythjdecnheaifkaa.PFnExactRunOps
