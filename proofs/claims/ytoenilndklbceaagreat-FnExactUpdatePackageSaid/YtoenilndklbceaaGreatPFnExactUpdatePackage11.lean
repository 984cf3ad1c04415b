/- What the functions that the law FnExactUpdatePackage reaches come to; no conditions. -/
import Derived.Test.YtoenilndklbceaaGreatPFnExactUpdatePackage10
set_option linter.unusedVariables false
set_option maxRecDepth 100000
namespace Go.Proofs.YtoenilndklbceaaGreat.PFnExactUpdatePackage
open Go Go.Eng Go.Proofs
/-! ### laws_heldRuleS -/
def laws_heldRuleS.L2 {R : Type} (k : Nat) (xl0 : List T_impl_Rule) (X0 : Int → Int → Option R) (X1 : Int → Option R) (rec : Int → Int → Option R) (x1 : Int) (x2 : Int) : Option R :=
  (bif decide (x2 < (xl0.length : Int)) then (bif decide (0 ≤ x2) then (bif decide (x2 < (xl0.length : Int)) then (bif ((rd_impl_Rule xl0 x2).f0 != x1) then (X0 x1 (-1 : Int)) else (bif decide (0 ≤ x2) then (bif decide (x2 < (xl0.length : Int)) then (bif ((rd_impl_Rule xl0 x2).f1 != (w64 (x1 + (1 : Int)))) then (X0 (w64 (x1 + (1 : Int))) (-1 : Int)) else (bif decide (0 ≤ x2) then (bif decide (x2 < (xl0.length : Int)) then (bif ((rd_impl_Rule xl0 x2).f2.f0 != (w64 ((w64 (x1 + (1 : Int))) + (1 : Int)))) then (X0 (w64 ((w64 (x1 + (1 : Int))) + (1 : Int))) (-1 : Int)) else (bif decide (0 ≤ x2) then (bif decide (x2 < (xl0.length : Int)) then (bif ((rd_impl_Rule xl0 x2).f2.f1 != (w64 ((w64 ((w64 (x1 + (1 : Int))) + (1 : Int))) + (1 : Int)))) then (X0 (w64 ((w64 ((w64 (x1 + (1 : Int))) + (1 : Int))) + (1 : Int))) (-1 : Int)) else (bif decide (0 ≤ x2) then (bif decide (x2 < (xl0.length : Int)) then (bif ((rd_impl_Rule xl0 x2).f3 != (w64 ((w64 ((w64 ((w64 (x1 + (1 : Int))) + (1 : Int))) + (1 : Int))) + (1 : Int)))) then (X0 (w64 ((w64 ((w64 ((w64 (x1 + (1 : Int))) + (1 : Int))) + (1 : Int))) + (1 : Int))) (-1 : Int)) else (bif decide (0 ≤ x2) then (bif decide (x2 < (xl0.length : Int)) then (bif ((rd_impl_Rule xl0 x2).f4 != (w64 ((w64 ((w64 ((w64 ((w64 (x1 + (1 : Int))) + (1 : Int))) + (1 : Int))) + (1 : Int))) + (1 : Int)))) then (X0 (w64 ((w64 ((w64 ((w64 ((w64 (x1 + (1 : Int))) + (1 : Int))) + (1 : Int))) + (1 : Int))) + (1 : Int))) (-1 : Int)) else (bif decide (0 ≤ x2) then (bif decide (x2 < (xl0.length : Int)) then (bif ((rd_impl_Rule xl0 x2).f5.f0 != (w64 ((w64 ((w64 ((w64 ((w64 ((w64 (x1 + (1 : Int))) + (1 : Int))) + (1 : Int))) + (1 : Int))) + (1 : Int))) + (1 : Int)))) then (X0 (w64 ((w64 ((w64 ((w64 ((w64 ((w64 (x1 + (1 : Int))) + (1 : Int))) + (1 : Int))) + (1 : Int))) + (1 : Int))) + (1 : Int))) (-1 : Int)) else (bif decide (0 ≤ x2) then (bif decide (x2 < (xl0.length : Int)) then (bif ((rd_impl_Rule xl0 x2).f5.f1 != (w64 ((w64 ((w64 ((w64 ((w64 ((w64 ((w64 (x1 + (1 : Int))) + (1 : Int))) + (1 : Int))) + (1 : Int))) + (1 : Int))) + (1 : Int))) + (1 : Int)))) then (X0 (w64 ((w64 ((w64 ((w64 ((w64 ((w64 ((w64 (x1 + (1 : Int))) + (1 : Int))) + (1 : Int))) + (1 : Int))) + (1 : Int))) + (1 : Int))) + (1 : Int))) (-1 : Int)) else (rec (w64 ((w64 ((w64 ((w64 ((w64 ((w64 ((w64 ((w64 (x1 + (1 : Int))) + (1 : Int))) + (1 : Int))) + (1 : Int))) + (1 : Int))) + (1 : Int))) + (1 : Int))) + (1 : Int))) (w64 (x2 + (1 : Int))))) else none) else none)) else none) else none)) else none) else none)) else none) else none)) else none) else none)) else none) else none)) else none) else none)) else none) else none) else (X1 x1))
def laws_heldRuleS.l2 {R : Type} (k : Nat) (xl0 : List T_impl_Rule) (X0 : Int → Int → Option R) (X1 : Int → Option R) : Nat → Int → Int → Option R
  | 0 => fun _ _ => none
  | n + 1 => laws_heldRuleS.L2 k xl0 X0 X1 (laws_heldRuleS.l2 k xl0 X0 X1 n)
def laws_heldRuleS.f (k : Nat) (a0 : List T_impl_Rule) (a1 : Int) : Option Int :=
  (laws_heldRuleS.l2 k a0 (fun (y1 : Int) (y2 : Int) => some y2) (fun (y3 : Int) => some y3) k a1 (0 : Int))
def laws_heldRuleS.h2 (k : Nat) {R : Type} (K : Ex → St κ → Option R) (vs : List AV) (bs : List (Blk κ)) : Option R :=
  match vs, bs with
  | [.v (.sl 0), .v (.int .i64 x1), .v (.int .i64 x2)], [qb0] => (asO 6 false qb0).bind fun xl0 => laws_heldRuleS.l2 k xl0 (fun (z0 : Int) (z1 : Int) => K .ret (stOf [(1, []), (4, [])] [.v (.int .i64 z0), .v (.int .i64 z1)] [.rows 6 false xl0])) (fun (z0 : Int) => K (.exit 0) (stOf [(1, []), (4, [])] [.v (.int .i64 z0), .v .any] [.rows 6 false xl0])) k x1 x2
  | _, _ => none
def laws_heldRuleS.Γ (k : Nat) : Ct κ := assoc []
def laws_heldRuleS.LH (k : Nat) : Nat → Option (LHi κ) := assoc [(2, ⟨1, [(0, [some 6]), (1, []), (5, [])], [(1, []), (4, [])], @laws_heldRuleS.h2 k⟩)]
theorem laws_heldRuleS.hΓ (k : Nat) : ∀ f g, laws_heldRuleS.Γ k f = some g → CSound Tryz.prog f g := G_nil
theorem laws_heldRuleS.e2 {R : Type} (K : Ex → St κ → Option R) (k : Nat) (xl0 : List T_impl_Rule) : ∀ (n : Nat) (x1 : Int) (x2 : Int), loopN 1 (Code.den ti (laws_heldRuleS.Γ k) (laws_heldRuleS.LH k) (loopAt Tryz.f67 0)) [(0, [some 6]), (1, []), (5, [])] [(1, []), (4, [])] K n [.v (.sl 0), .v (.int .i64 x1), .v (.int .i64 x2)] [.rows 6 false xl0] = laws_heldRuleS.l2 k xl0 (fun (z0 : Int) (z1 : Int) => K .ret (stOf [(1, []), (4, [])] [.v (.int .i64 z0), .v (.int .i64 z1)] [.rows 6 false xl0])) (fun (z0 : Int) => K (.exit 0) (stOf [(1, []), (4, [])] [.v (.int .i64 z0), .v .any] [.rows 6 false xl0])) n x1 x2
  | 0, _, _ => rfl
  | n + 1, x1, x2 => (show loopN 1 (Code.den ti (laws_heldRuleS.Γ k) (laws_heldRuleS.LH k) (loopAt Tryz.f67 0)) [(0, [some 6]), (1, []), (5, [])] [(1, []), (4, [])] K (n + 1) [.v (.sl 0), .v (.int .i64 x1), .v (.int .i64 x2)] [.rows 6 false xl0] = laws_heldRuleS.L2 k xl0 (fun (z0 : Int) (z1 : Int) => K .ret (stOf [(1, []), (4, [])] [.v (.int .i64 z0), .v (.int .i64 z1)] [.rows 6 false xl0])) (fun (z0 : Int) => K (.exit 0) (stOf [(1, []), (4, [])] [.v (.int .i64 z0), .v .any] [.rows 6 false xl0])) (fun (x1' : Int) (x2' : Int) => loopN 1 (Code.den ti (laws_heldRuleS.Γ k) (laws_heldRuleS.LH k) (loopAt Tryz.f67 0)) [(0, [some 6]), (1, []), (5, [])] [(1, []), (4, [])] K n [.v (.sl 0), .v (.int .i64 x1'), .v (.int .i64 x2')] [.rows 6 false xl0]) x1 x2 by kernel_rfl).trans (congrArg (fun rec => laws_heldRuleS.L2 k xl0 (fun (z0 : Int) (z1 : Int) => K .ret (stOf [(1, []), (4, [])] [.v (.int .i64 z0), .v (.int .i64 z1)] [.rows 6 false xl0])) (fun (z0 : Int) => K (.exit 0) (stOf [(1, []), (4, [])] [.v (.int .i64 z0), .v .any] [.rows 6 false xl0])) rec x1 x2) (funext fun x1' => funext fun x2' => laws_heldRuleS.e2 K k xl0 n x1' x2'))
theorem laws_heldRuleS.q2 (k : Nat) {R : Type} (K : Ex → St κ → Option R) (vs : List AV) (bs : List (Blk κ)) (r : R) (h : laws_heldRuleS.h2 k K vs bs = some r) : ∃ n, loopN 1 (Code.den ti (laws_heldRuleS.Γ k) (laws_heldRuleS.LH k) (loopAt Tryz.f67 0)) [(0, [some 6]), (1, []), (5, [])] [(1, []), (4, [])] K n vs bs = some r := by
  unfold laws_heldRuleS.h2 at h
  split at h
  · obtain ⟨_, rfl, h_1⟩ := asO_bind h
    exact ⟨k, (laws_heldRuleS.e2 K k _ k _ _).trans h_1⟩
  · cases h
theorem laws_heldRuleS.lok (k : Nat) : LOK ti (laws_heldRuleS.Γ k) (laws_heldRuleS.LH k) 1 (loopsOf (bodyOf Tryz.f67)) :=
  (show loopsOf (bodyOf Tryz.f67) = [loopAt Tryz.f67 0] by kernel_rfl) ▸ (LOK_cons (g := ⟨1, [(0, [some 6]), (1, []), (5, [])], [(1, []), (4, [])], @laws_heldRuleS.h2 k⟩) (by kernel_rfl) rfl (fun K vs xs r h => laws_heldRuleS.q2 k K vs xs r h) (LOK_nil))
def laws_heldRuleS.sig : List PSh := [.one (.ro 6), .one .sc]
def laws_heldRuleS.g (y : Int) : Ret κ := ⟨.v (.int .i64 y), [], []⟩
def laws_heldRuleS.out (r : Ret κ) : Option Int :=
  match r with
  | ⟨.v (.int .i64 z0), [], []⟩ => some (z0)
  | _ => none
theorem laws_heldRuleS.out_ok (r : Ret κ) (y : Int) (h : laws_heldRuleS.out r = some y) : r = laws_heldRuleS.g y := by
  unfold laws_heldRuleS.out at h
  split at h
  · obtain rfl := Option.some.inj h
    rfl
  · cases h
def laws_heldRuleS.body (k : Nat) (vs : List AV) (bs : List (Blk κ)) : Option (Lf κ) :=
  match vs, bs with
  | [.v (.sl 0), .v (.int .i64 a1)], [qb0] => (asO 6 false qb0).bind fun a0 => some ⟨Int, laws_heldRuleS.f k a0 a1, laws_heldRuleS.g⟩
  | _, _ => none
def laws_heldRuleS.C (k : Nat) : Nat → List AV → AP κ AV := contract laws_heldRuleS.sig (laws_heldRuleS.body k)
theorem laws_heldRuleS.den (k : Nat) (a0 : List T_impl_Rule) (a1 : Int) : Code.den ti (laws_heldRuleS.Γ k) (laws_heldRuleS.LH k) (bodyOf Tryz.f67) (finK ti Tryz.f67.results.toList [] (flags laws_heldRuleS.sig).length (rwI (flags laws_heldRuleS.sig) 0) laws_heldRuleS.out) ⟨envOf (([.v (.sl 0), .v (.int .i64 a1)]).zipIdx.map fun q => (q.2, q.1)), hpOf [.rows 6 false a0], (flags laws_heldRuleS.sig).length⟩ = laws_heldRuleS.f k a0 a1 := by kernel_rfl
theorem laws_heldRuleS.ok (k : Nat) : CSound Tryz.prog 67 (laws_heldRuleS.C k) :=
  csound κ_ok mixed tok (laws_heldRuleS.hΓ k) (LH := laws_heldRuleS.LH k) (fn := Tryz.f67) (c := bodyOf Tryz.f67) Tryz.func67 rfl Tryz.call67 laws_heldRuleS.sig [] (laws_heldRuleS.body k) (by kernel_rfl) (laws_heldRuleS.lok k) (by decide) fun vs bs lf y hl hb hy => by
    unfold laws_heldRuleS.body at hb
    split at hb
    · obtain ⟨_, rfl, hb_1⟩ := asO_bind hb
      obtain rfl := Option.some.inj hb_1
      exact ⟨laws_heldRuleS.out, laws_heldRuleS.out_ok, (laws_heldRuleS.den k _ _).trans hy⟩
    · cases hb
/-! ### laws_heldOpS -/
def laws_heldOpS.L2 {R : Type} (k : Nat) (xl0 : List T_impl_Op) (X0 : Int → Int → Option R) (X1 : Int → Option R) (rec : Int → Int → Option R) (x1 : Int) (x2 : Int) : Option R :=
  (bif decide (x2 < (xl0.length : Int)) then (bif decide (0 ≤ x2) then (bif decide (x2 < (xl0.length : Int)) then (bif ((rd_impl_Op xl0 x2).f0 != x1) then (X0 x1 (-1 : Int)) else (bif decide (0 ≤ x2) then (bif decide (x2 < (xl0.length : Int)) then (bif ((rd_impl_Op xl0 x2).f1 != (w64 (x1 + (1 : Int)))) then (X0 (w64 (x1 + (1 : Int))) (-1 : Int)) else (bif decide (0 ≤ x2) then (bif decide (x2 < (xl0.length : Int)) then (bif ((rd_impl_Op xl0 x2).f2 != (w64 ((w64 (x1 + (1 : Int))) + (1 : Int)))) then (X0 (w64 ((w64 (x1 + (1 : Int))) + (1 : Int))) (-1 : Int)) else (bif decide (0 ≤ x2) then (bif decide (x2 < (xl0.length : Int)) then (bif ((rd_impl_Op xl0 x2).f3 != (w64 ((w64 ((w64 (x1 + (1 : Int))) + (1 : Int))) + (1 : Int)))) then (X0 (w64 ((w64 ((w64 (x1 + (1 : Int))) + (1 : Int))) + (1 : Int))) (-1 : Int)) else (rec (w64 ((w64 ((w64 ((w64 (x1 + (1 : Int))) + (1 : Int))) + (1 : Int))) + (1 : Int))) (w64 (x2 + (1 : Int))))) else none) else none)) else none) else none)) else none) else none)) else none) else none) else (X1 x1))
def laws_heldOpS.l2 {R : Type} (k : Nat) (xl0 : List T_impl_Op) (X0 : Int → Int → Option R) (X1 : Int → Option R) : Nat → Int → Int → Option R
  | 0 => fun _ _ => none
  | n + 1 => laws_heldOpS.L2 k xl0 X0 X1 (laws_heldOpS.l2 k xl0 X0 X1 n)
def laws_heldOpS.f (k : Nat) (a0 : List T_impl_Op) (a1 : Int) : Option Int :=
  (laws_heldOpS.l2 k a0 (fun (y1 : Int) (y2 : Int) => some y2) (fun (y3 : Int) => some y3) k a1 (0 : Int))
def laws_heldOpS.h2 (k : Nat) {R : Type} (K : Ex → St κ → Option R) (vs : List AV) (bs : List (Blk κ)) : Option R :=
  match vs, bs with
  | [.v (.sl 0), .v (.int .i64 x1), .v (.int .i64 x2)], [qb0] => (asO 7 false qb0).bind fun xl0 => laws_heldOpS.l2 k xl0 (fun (z0 : Int) (z1 : Int) => K .ret (stOf [(1, []), (4, [])] [.v (.int .i64 z0), .v (.int .i64 z1)] [.rows 7 false xl0])) (fun (z0 : Int) => K (.exit 0) (stOf [(1, []), (4, [])] [.v (.int .i64 z0), .v .any] [.rows 7 false xl0])) k x1 x2
  | _, _ => none
def laws_heldOpS.Γ (k : Nat) : Ct κ := assoc []
def laws_heldOpS.LH (k : Nat) : Nat → Option (LHi κ) := assoc [(2, ⟨1, [(0, [some 7]), (1, []), (5, [])], [(1, []), (4, [])], @laws_heldOpS.h2 k⟩)]
theorem laws_heldOpS.hΓ (k : Nat) : ∀ f g, laws_heldOpS.Γ k f = some g → CSound Tryz.prog f g := G_nil
theorem laws_heldOpS.e2 {R : Type} (K : Ex → St κ → Option R) (k : Nat) (xl0 : List T_impl_Op) : ∀ (n : Nat) (x1 : Int) (x2 : Int), loopN 1 (Code.den ti (laws_heldOpS.Γ k) (laws_heldOpS.LH k) (loopAt Tryz.f68 0)) [(0, [some 7]), (1, []), (5, [])] [(1, []), (4, [])] K n [.v (.sl 0), .v (.int .i64 x1), .v (.int .i64 x2)] [.rows 7 false xl0] = laws_heldOpS.l2 k xl0 (fun (z0 : Int) (z1 : Int) => K .ret (stOf [(1, []), (4, [])] [.v (.int .i64 z0), .v (.int .i64 z1)] [.rows 7 false xl0])) (fun (z0 : Int) => K (.exit 0) (stOf [(1, []), (4, [])] [.v (.int .i64 z0), .v .any] [.rows 7 false xl0])) n x1 x2
  | 0, _, _ => rfl
  | n + 1, x1, x2 => (show loopN 1 (Code.den ti (laws_heldOpS.Γ k) (laws_heldOpS.LH k) (loopAt Tryz.f68 0)) [(0, [some 7]), (1, []), (5, [])] [(1, []), (4, [])] K (n + 1) [.v (.sl 0), .v (.int .i64 x1), .v (.int .i64 x2)] [.rows 7 false xl0] = laws_heldOpS.L2 k xl0 (fun (z0 : Int) (z1 : Int) => K .ret (stOf [(1, []), (4, [])] [.v (.int .i64 z0), .v (.int .i64 z1)] [.rows 7 false xl0])) (fun (z0 : Int) => K (.exit 0) (stOf [(1, []), (4, [])] [.v (.int .i64 z0), .v .any] [.rows 7 false xl0])) (fun (x1' : Int) (x2' : Int) => loopN 1 (Code.den ti (laws_heldOpS.Γ k) (laws_heldOpS.LH k) (loopAt Tryz.f68 0)) [(0, [some 7]), (1, []), (5, [])] [(1, []), (4, [])] K n [.v (.sl 0), .v (.int .i64 x1'), .v (.int .i64 x2')] [.rows 7 false xl0]) x1 x2 by kernel_rfl).trans (congrArg (fun rec => laws_heldOpS.L2 k xl0 (fun (z0 : Int) (z1 : Int) => K .ret (stOf [(1, []), (4, [])] [.v (.int .i64 z0), .v (.int .i64 z1)] [.rows 7 false xl0])) (fun (z0 : Int) => K (.exit 0) (stOf [(1, []), (4, [])] [.v (.int .i64 z0), .v .any] [.rows 7 false xl0])) rec x1 x2) (funext fun x1' => funext fun x2' => laws_heldOpS.e2 K k xl0 n x1' x2'))
theorem laws_heldOpS.q2 (k : Nat) {R : Type} (K : Ex → St κ → Option R) (vs : List AV) (bs : List (Blk κ)) (r : R) (h : laws_heldOpS.h2 k K vs bs = some r) : ∃ n, loopN 1 (Code.den ti (laws_heldOpS.Γ k) (laws_heldOpS.LH k) (loopAt Tryz.f68 0)) [(0, [some 7]), (1, []), (5, [])] [(1, []), (4, [])] K n vs bs = some r := by
  unfold laws_heldOpS.h2 at h
  split at h
  · obtain ⟨_, rfl, h_1⟩ := asO_bind h
    exact ⟨k, (laws_heldOpS.e2 K k _ k _ _).trans h_1⟩
  · cases h
theorem laws_heldOpS.lok (k : Nat) : LOK ti (laws_heldOpS.Γ k) (laws_heldOpS.LH k) 1 (loopsOf (bodyOf Tryz.f68)) :=
  (show loopsOf (bodyOf Tryz.f68) = [loopAt Tryz.f68 0] by kernel_rfl) ▸ (LOK_cons (g := ⟨1, [(0, [some 7]), (1, []), (5, [])], [(1, []), (4, [])], @laws_heldOpS.h2 k⟩) (by kernel_rfl) rfl (fun K vs xs r h => laws_heldOpS.q2 k K vs xs r h) (LOK_nil))
def laws_heldOpS.sig : List PSh := [.one (.ro 7), .one .sc]
def laws_heldOpS.g (y : Int) : Ret κ := ⟨.v (.int .i64 y), [], []⟩
def laws_heldOpS.out (r : Ret κ) : Option Int :=
  match r with
  | ⟨.v (.int .i64 z0), [], []⟩ => some (z0)
  | _ => none
theorem laws_heldOpS.out_ok (r : Ret κ) (y : Int) (h : laws_heldOpS.out r = some y) : r = laws_heldOpS.g y := by
  unfold laws_heldOpS.out at h
  split at h
  · obtain rfl := Option.some.inj h
    rfl
  · cases h
def laws_heldOpS.body (k : Nat) (vs : List AV) (bs : List (Blk κ)) : Option (Lf κ) :=
  match vs, bs with
  | [.v (.sl 0), .v (.int .i64 a1)], [qb0] => (asO 7 false qb0).bind fun a0 => some ⟨Int, laws_heldOpS.f k a0 a1, laws_heldOpS.g⟩
  | _, _ => none
def laws_heldOpS.C (k : Nat) : Nat → List AV → AP κ AV := contract laws_heldOpS.sig (laws_heldOpS.body k)
theorem laws_heldOpS.den (k : Nat) (a0 : List T_impl_Op) (a1 : Int) : Code.den ti (laws_heldOpS.Γ k) (laws_heldOpS.LH k) (bodyOf Tryz.f68) (finK ti Tryz.f68.results.toList [] (flags laws_heldOpS.sig).length (rwI (flags laws_heldOpS.sig) 0) laws_heldOpS.out) ⟨envOf (([.v (.sl 0), .v (.int .i64 a1)]).zipIdx.map fun q => (q.2, q.1)), hpOf [.rows 7 false a0], (flags laws_heldOpS.sig).length⟩ = laws_heldOpS.f k a0 a1 := by kernel_rfl
theorem laws_heldOpS.ok (k : Nat) : CSound Tryz.prog 68 (laws_heldOpS.C k) :=
  csound κ_ok mixed tok (laws_heldOpS.hΓ k) (LH := laws_heldOpS.LH k) (fn := Tryz.f68) (c := bodyOf Tryz.f68) Tryz.func68 rfl Tryz.call68 laws_heldOpS.sig [] (laws_heldOpS.body k) (by kernel_rfl) (laws_heldOpS.lok k) (by decide) fun vs bs lf y hl hb hy => by
    unfold laws_heldOpS.body at hb
    split at hb
    · obtain ⟨_, rfl, hb_1⟩ := asO_bind hb
      obtain rfl := Option.some.inj hb_1
      exact ⟨laws_heldOpS.out, laws_heldOpS.out_ok, (laws_heldOpS.den k _ _).trans hy⟩
    · cases hb
/-! ### laws_heldPackage -/
def laws_heldPackage.f (k : Nat) (a0_0 : Int) (a0_1 : Int) (a0_2 : Int) (a0_3 : List T_impl_Grant) (a0_4 : List T_impl_Flow) (a0_5 : List T_impl_Rule) (a0_6 : List T_impl_Op) (a0_7 : Int) (a1 : Int) : Option Int :=
  (laws_heldGrantS.f k a0_3 a1).bind fun t1 => (bif decide (t1 < (0 : Int)) then some (-1 : Int) else (laws_heldFlowS.f k a0_4 t1).bind fun t2 => (bif decide (t2 < (0 : Int)) then some (-1 : Int) else (laws_heldRuleS.f k a0_5 t2).bind fun t3 => (bif decide (t3 < (0 : Int)) then some (-1 : Int) else (laws_heldOpS.f k a0_6 t3).bind fun t4 => (bif decide (t4 < (0 : Int)) then some (-1 : Int) else some t4))))
def laws_heldPackage.Γ (k : Nat) : Ct κ := assoc [(65, laws_heldGrantS.C k), (66, laws_heldFlowS.C k), (67, laws_heldRuleS.C k), (68, laws_heldOpS.C k)]
def laws_heldPackage.LH (k : Nat) : Nat → Option (LHi κ) := assoc []
theorem laws_heldPackage.hΓ (k : Nat) : ∀ f g, laws_heldPackage.Γ k f = some g → CSound Tryz.prog f g := G_cons (laws_heldGrantS.ok k) (G_cons (laws_heldFlowS.ok k) (G_cons (laws_heldRuleS.ok k) (G_cons (laws_heldOpS.ok k) G_nil)))
theorem laws_heldPackage.lok (k : Nat) : LOK ti (laws_heldPackage.Γ k) (laws_heldPackage.LH k) 4 (loopsOf (bodyOf Tryz.f20)) :=
  (show loopsOf (bodyOf Tryz.f20) = [] by kernel_rfl) ▸ LOK_nil
def laws_heldPackage.sig : List PSh := [.agg [.sc, .sc, .sc, .ro 4, .ro 5, .ro 6, .ro 7, .sc], .one .sc]
def laws_heldPackage.g (y : Int) : Ret κ := ⟨.v (.int .i64 y), [], []⟩
def laws_heldPackage.out (r : Ret κ) : Option Int :=
  match r with
  | ⟨.v (.int .i64 z0), [], []⟩ => some (z0)
  | _ => none
theorem laws_heldPackage.out_ok (r : Ret κ) (y : Int) (h : laws_heldPackage.out r = some y) : r = laws_heldPackage.g y := by
  unfold laws_heldPackage.out at h
  split at h
  · obtain rfl := Option.some.inj h
    rfl
  · cases h
def laws_heldPackage.body (k : Nat) (vs : List AV) (bs : List (Blk κ)) : Option (Lf κ) :=
  match vs, bs with
  | [.agg [.int .i64 a0_0, .int .i64 a0_1, .int .i64 a0_2, .sl 0, .sl 1, .sl 2, .sl 3, .int .i64 a0_7], .v (.int .i64 a1)], [qb0, qb1, qb2, qb3] => (asO 4 false qb0).bind fun a0_3 => (asO 5 false qb1).bind fun a0_4 => (asO 6 false qb2).bind fun a0_5 => (asO 7 false qb3).bind fun a0_6 => some ⟨Int, laws_heldPackage.f k a0_0 a0_1 a0_2 a0_3 a0_4 a0_5 a0_6 a0_7 a1, laws_heldPackage.g⟩
  | _, _ => none
def laws_heldPackage.C (k : Nat) : Nat → List AV → AP κ AV := contract laws_heldPackage.sig (laws_heldPackage.body k)
theorem laws_heldPackage.den (k : Nat) (a0_0 : Int) (a0_1 : Int) (a0_2 : Int) (a0_3 : List T_impl_Grant) (a0_4 : List T_impl_Flow) (a0_5 : List T_impl_Rule) (a0_6 : List T_impl_Op) (a0_7 : Int) (a1 : Int) : Code.den ti (laws_heldPackage.Γ k) (laws_heldPackage.LH k) (bodyOf Tryz.f20) (finK ti Tryz.f20.results.toList [] (flags laws_heldPackage.sig).length (rwI (flags laws_heldPackage.sig) 0) laws_heldPackage.out) ⟨envOf (([.agg [.int .i64 a0_0, .int .i64 a0_1, .int .i64 a0_2, .sl 0, .sl 1, .sl 2, .sl 3, .int .i64 a0_7], .v (.int .i64 a1)]).zipIdx.map fun q => (q.2, q.1)), hpOf [.rows 4 false a0_3, .rows 5 false a0_4, .rows 6 false a0_5, .rows 7 false a0_6], (flags laws_heldPackage.sig).length⟩ = laws_heldPackage.f k a0_0 a0_1 a0_2 a0_3 a0_4 a0_5 a0_6 a0_7 a1 := by kernel_rfl
theorem laws_heldPackage.ok (k : Nat) : CSound Tryz.prog 20 (laws_heldPackage.C k) :=
  csound κ_ok mixed tok (laws_heldPackage.hΓ k) (LH := laws_heldPackage.LH k) (fn := Tryz.f20) (c := bodyOf Tryz.f20) Tryz.func20 rfl Tryz.call20 laws_heldPackage.sig [] (laws_heldPackage.body k) (by kernel_rfl) (laws_heldPackage.lok k) (by decide) fun vs bs lf y hl hb hy => by
    unfold laws_heldPackage.body at hb
    split at hb
    · obtain ⟨_, rfl, hb_1⟩ := asO_bind hb
      obtain ⟨_, rfl, hb_2⟩ := asO_bind hb_1
      obtain ⟨_, rfl, hb_3⟩ := asO_bind hb_2
      obtain ⟨_, rfl, hb_4⟩ := asO_bind hb_3
      obtain rfl := Option.some.inj hb_4
      exact ⟨laws_heldPackage.out, laws_heldPackage.out_ok, (laws_heldPackage.den k _ _ _ _ _ _ _ _ _).trans hy⟩
    · cases hb
/-! ### laws_FnExactUpdatePackage -/
def laws_FnExactUpdatePackage.f (k : Nat) (a0 : Int) (a1_0 : Int) (a1_1 : Int) (a1_2 : Int) (a1_3 : List T_laws_Grant) (a1_4 : List T_laws_Flow) (a1_5 : List T_laws_Rule) (a1_6 : List T_laws_Op) (a1_7 : Int) (a2_0 : Int) (a2_1 : Int) (a2_2 : Int) (a2_3 : List T_laws_Grant) (a2_4 : List T_laws_Flow) (a2_5 : List T_laws_Rule) (a2_6 : List T_laws_Op) (a2_7 : Int) (a3 : Bool) : Option Bool :=
  (laws_szPackage.f k a1_0 a1_1 a1_2 a1_3 a1_4 a1_5 a1_6 a1_7 (1048576 : Int)).bind fun t1 => (bif decide (t1 < (0 : Int)) then some true else (laws_szPackage.f k a2_0 a2_1 a2_2 a2_3 a2_4 a2_5 a2_6 a2_7 t1).bind fun t2 => (bif decide (t2 < (0 : Int)) then some true else (laws_toPackage.f k a1_0 a1_1 a1_2 a1_3 a1_4 a1_5 a1_6 a1_7).bind fun t3 => (laws_toPackage.f k a2_0 a2_1 a2_2 a2_3 a2_4 a2_5 a2_6 a2_7).bind fun t4 => (spec_UpdatePackage.f k a0 t3.1 t3.2.1 t3.2.2.1 t3.2.2.2.2.1 t3.2.2.2.2.2.1 t3.2.2.2.2.2.2.1 t3.2.2.2.2.2.2.2 t3.2.2.2.1 t4.1 t4.2.1 t4.2.2.1 t4.2.2.2.2.1 t4.2.2.2.2.2.1 t4.2.2.2.2.2.2.1 t4.2.2.2.2.2.2.2 t4.2.2.2.1 a3).bind fun t5 => (laws_toPackage.f k a1_0 a1_1 a1_2 a1_3 a1_4 a1_5 a1_6 a1_7).bind fun t6 => (laws_toPackage.f k a2_0 a2_1 a2_2 a2_3 a2_4 a2_5 a2_6 a2_7).bind fun t7 => (impl_UpdatePackage.f k a0 t6.1 t6.2.1 t6.2.2.1 t6.2.2.2.2.1 t6.2.2.2.2.2.1 t6.2.2.2.2.2.2.1 t6.2.2.2.2.2.2.2 t6.2.2.2.1 t7.1 t7.2.1 t7.2.2.1 t7.2.2.2.2.1 t7.2.2.2.2.2.1 t7.2.2.2.2.2.2.1 t7.2.2.2.2.2.2.2 t7.2.2.2.1 a3).bind fun t8 => (laws_eqPackage.f k t8.1 t8.2.1 t8.2.2.1 t8.2.2.2.2.2.1 t8.2.2.2.2.2.2.1 t8.2.2.2.2.2.2.2.1 t8.2.2.2.2.2.2.2.2 t8.2.2.2.1 t5.1 t5.2.1 t5.2.2.1 t5.2.2.2.2.2.1 t5.2.2.2.2.2.2.1 t5.2.2.2.2.2.2.2.1 t5.2.2.2.2.2.2.2.2 t5.2.2.2.1).bind fun t9 => (bif !t9 then some false else (bif !(t8.2.2.2.2.1 == t5.2.2.2.2.1) then some false else (laws_toPackage.f k a1_0 a1_1 a1_2 a1_3 a1_4 a1_5 a1_6 a1_7).bind fun t10 => (laws_eqPackage.f k t6.1 t6.2.1 t6.2.2.1 t6.2.2.2.2.1 t6.2.2.2.2.2.1 t6.2.2.2.2.2.2.1 t6.2.2.2.2.2.2.2 t6.2.2.2.1 t10.1 t10.2.1 t10.2.2.1 t10.2.2.2.2.1 t10.2.2.2.2.2.1 t10.2.2.2.2.2.2.1 t10.2.2.2.2.2.2.2 t10.2.2.2.1).bind fun t11 => (bif !t11 then some false else (laws_toPackage.f k a2_0 a2_1 a2_2 a2_3 a2_4 a2_5 a2_6 a2_7).bind fun t12 => (laws_eqPackage.f k t7.1 t7.2.1 t7.2.2.1 t7.2.2.2.2.1 t7.2.2.2.2.2.1 t7.2.2.2.2.2.2.1 t7.2.2.2.2.2.2.2 t7.2.2.2.1 t12.1 t12.2.1 t12.2.2.1 t12.2.2.2.2.1 t12.2.2.2.2.2.1 t12.2.2.2.2.2.2.1 t12.2.2.2.2.2.2.2 t12.2.2.2.1).bind fun t13 => (bif !t13 then some false else (laws_markPackage.f k t6.1 t6.2.1 t6.2.2.1 t6.2.2.2.2.1 t6.2.2.2.2.2.1 t6.2.2.2.2.2.2.1 t6.2.2.2.2.2.2.2 t6.2.2.2.1 (1 : Int)).bind fun t14 => (laws_markPackage.f k t7.1 t7.2.1 t7.2.2.1 t7.2.2.2.2.1 t7.2.2.2.2.2.1 t7.2.2.2.2.2.2.1 t7.2.2.2.2.2.2.2 t7.2.2.2.1 t14.1).bind fun t15 => (bif decide (t15.1 < (0 : Int)) then some false else (laws_eqPackage.f k t8.1 t8.2.1 t8.2.2.1 t8.2.2.2.2.2.1 t8.2.2.2.2.2.2.1 t8.2.2.2.2.2.2.2.1 t8.2.2.2.2.2.2.2.2 t8.2.2.2.1 t5.1 t5.2.1 t5.2.2.1 t5.2.2.2.2.2.1 t5.2.2.2.2.2.2.1 t5.2.2.2.2.2.2.2.1 t5.2.2.2.2.2.2.2.2 t5.2.2.2.1).bind fun t16 => (bif !t16 then some false else (bif !(t8.2.2.2.2.1 == t5.2.2.2.2.1) then some false else (laws_markPackage.f k t8.1 t8.2.1 t8.2.2.1 t8.2.2.2.2.2.1 t8.2.2.2.2.2.2.1 t8.2.2.2.2.2.2.2.1 t8.2.2.2.2.2.2.2.2 t8.2.2.2.1 (1 : Int)).bind fun t17 => (laws_heldPackage.f k t8.1 t8.2.1 t8.2.2.1 t17.2.1 t17.2.2.1 t17.2.2.2.1 t17.2.2.2.2 t8.2.2.2.1 (1 : Int)).bind fun t18 => (bif decide (t18 < (0 : Int)) then some false else (bif (t18 != t17.1) then some false else (laws_toPackage.f k a1_0 a1_1 a1_2 a1_3 a1_4 a1_5 a1_6 a1_7).bind fun t19 => (laws_toPackage.f k a2_0 a2_1 a2_2 a2_3 a2_4 a2_5 a2_6 a2_7).bind fun t20 => (impl_UpdatePackage.f k a0 t19.1 t19.2.1 t19.2.2.1 t19.2.2.2.2.1 t19.2.2.2.2.2.1 t19.2.2.2.2.2.2.1 t19.2.2.2.2.2.2.2 t19.2.2.2.1 t20.1 t20.2.1 t20.2.2.1 t20.2.2.2.2.1 t20.2.2.2.2.2.1 t20.2.2.2.2.2.2.1 t20.2.2.2.2.2.2.2 t20.2.2.2.1 a3).bind fun t21 => (laws_eqPackage.f k t21.1 t21.2.1 t21.2.2.1 t21.2.2.2.2.2.1 t21.2.2.2.2.2.2.1 t21.2.2.2.2.2.2.2.1 t21.2.2.2.2.2.2.2.2 t21.2.2.2.1 t5.1 t5.2.1 t5.2.2.1 t5.2.2.2.2.2.1 t5.2.2.2.2.2.2.1 t5.2.2.2.2.2.2.2.1 t5.2.2.2.2.2.2.2.2 t5.2.2.2.1).bind fun t22 => (bif !t22 then some false else (bif !(t21.2.2.2.2.1 == t5.2.2.2.2.1) then some false else (laws_heldPackage.f k t8.1 t8.2.1 t8.2.2.1 t17.2.1 t17.2.2.1 t17.2.2.2.1 t17.2.2.2.2 t8.2.2.2.1 (1 : Int)).bind fun t23 => (bif decide (t23 < (0 : Int)) then some false else (bif (t23 != t17.1) then some false else some true)))))))))))))))
def laws_FnExactUpdatePackage.Γ (k : Nat) : Ct κ := assoc [(10, laws_szPackage.C k), (13, laws_toPackage.C k), (17, spec_UpdatePackage.C k), (18, impl_UpdatePackage.C k), (16, laws_eqPackage.C k), (19, laws_markPackage.C k), (20, laws_heldPackage.C k)]
def laws_FnExactUpdatePackage.LH (k : Nat) : Nat → Option (LHi κ) := assoc []
theorem laws_FnExactUpdatePackage.hΓ (k : Nat) : ∀ f g, laws_FnExactUpdatePackage.Γ k f = some g → CSound Tryz.prog f g := G_cons (laws_szPackage.ok k) (G_cons (laws_toPackage.ok k) (G_cons (spec_UpdatePackage.ok k) (G_cons (impl_UpdatePackage.ok k) (G_cons (laws_eqPackage.ok k) (G_cons (laws_markPackage.ok k) (G_cons (laws_heldPackage.ok k) G_nil))))))
theorem laws_FnExactUpdatePackage.lok (k : Nat) : LOK ti (laws_FnExactUpdatePackage.Γ k) (laws_FnExactUpdatePackage.LH k) 8 (loopsOf (bodyOf Tryz.f4)) :=
  (show loopsOf (bodyOf Tryz.f4) = [] by kernel_rfl) ▸ LOK_nil
def laws_FnExactUpdatePackage.sig : List PSh := [.one .sc, .agg [.sc, .sc, .sc, .ro 0, .ro 1, .ro 2, .ro 3, .sc], .agg [.sc, .sc, .sc, .ro 0, .ro 1, .ro 2, .ro 3, .sc], .one .sc]
def laws_FnExactUpdatePackage.g (y : Bool) : Ret κ := ⟨.v (.bool y), [], []⟩
def laws_FnExactUpdatePackage.out (r : Ret κ) : Option Bool :=
  match r with
  | ⟨.v (.bool z0), [], []⟩ => some (z0)
  | _ => none
theorem laws_FnExactUpdatePackage.out_ok (r : Ret κ) (y : Bool) (h : laws_FnExactUpdatePackage.out r = some y) : r = laws_FnExactUpdatePackage.g y := by
  unfold laws_FnExactUpdatePackage.out at h
  split at h
  · obtain rfl := Option.some.inj h
    rfl
  · cases h
def laws_FnExactUpdatePackage.body (k : Nat) (vs : List AV) (bs : List (Blk κ)) : Option (Lf κ) :=
  match vs, bs with
  | [.v (.int .i64 a0), .agg [.int .i64 a1_0, .int .i64 a1_1, .int .i64 a1_2, .sl 0, .sl 1, .sl 2, .sl 3, .int .i64 a1_7], .agg [.int .i64 a2_0, .int .i64 a2_1, .int .i64 a2_2, .sl 4, .sl 5, .sl 6, .sl 7, .int .i64 a2_7], .v (.bool a3)], [qb0, qb1, qb2, qb3, qb4, qb5, qb6, qb7] => (asO 0 false qb0).bind fun a1_3 => (asO 1 false qb1).bind fun a1_4 => (asO 2 false qb2).bind fun a1_5 => (asO 3 false qb3).bind fun a1_6 => (asO 0 false qb4).bind fun a2_3 => (asO 1 false qb5).bind fun a2_4 => (asO 2 false qb6).bind fun a2_5 => (asO 3 false qb7).bind fun a2_6 => some ⟨Bool, laws_FnExactUpdatePackage.f k a0 a1_0 a1_1 a1_2 a1_3 a1_4 a1_5 a1_6 a1_7 a2_0 a2_1 a2_2 a2_3 a2_4 a2_5 a2_6 a2_7 a3, laws_FnExactUpdatePackage.g⟩
  | _, _ => none
def laws_FnExactUpdatePackage.C (k : Nat) : Nat → List AV → AP κ AV := contract laws_FnExactUpdatePackage.sig (laws_FnExactUpdatePackage.body k)
theorem laws_FnExactUpdatePackage.den (k : Nat) (a0 : Int) (a1_0 : Int) (a1_1 : Int) (a1_2 : Int) (a1_3 : List T_laws_Grant) (a1_4 : List T_laws_Flow) (a1_5 : List T_laws_Rule) (a1_6 : List T_laws_Op) (a1_7 : Int) (a2_0 : Int) (a2_1 : Int) (a2_2 : Int) (a2_3 : List T_laws_Grant) (a2_4 : List T_laws_Flow) (a2_5 : List T_laws_Rule) (a2_6 : List T_laws_Op) (a2_7 : Int) (a3 : Bool) : Code.den ti (laws_FnExactUpdatePackage.Γ k) (laws_FnExactUpdatePackage.LH k) (bodyOf Tryz.f4) (finK ti Tryz.f4.results.toList [] (flags laws_FnExactUpdatePackage.sig).length (rwI (flags laws_FnExactUpdatePackage.sig) 0) laws_FnExactUpdatePackage.out) ⟨envOf (([.v (.int .i64 a0), .agg [.int .i64 a1_0, .int .i64 a1_1, .int .i64 a1_2, .sl 0, .sl 1, .sl 2, .sl 3, .int .i64 a1_7], .agg [.int .i64 a2_0, .int .i64 a2_1, .int .i64 a2_2, .sl 4, .sl 5, .sl 6, .sl 7, .int .i64 a2_7], .v (.bool a3)]).zipIdx.map fun q => (q.2, q.1)), hpOf [.rows 0 false a1_3, .rows 1 false a1_4, .rows 2 false a1_5, .rows 3 false a1_6, .rows 0 false a2_3, .rows 1 false a2_4, .rows 2 false a2_5, .rows 3 false a2_6], (flags laws_FnExactUpdatePackage.sig).length⟩ = laws_FnExactUpdatePackage.f k a0 a1_0 a1_1 a1_2 a1_3 a1_4 a1_5 a1_6 a1_7 a2_0 a2_1 a2_2 a2_3 a2_4 a2_5 a2_6 a2_7 a3 := by kernel_rfl
theorem laws_FnExactUpdatePackage.ok (k : Nat) : CSound Tryz.prog 4 (laws_FnExactUpdatePackage.C k) :=
  csound κ_ok mixed tok (laws_FnExactUpdatePackage.hΓ k) (LH := laws_FnExactUpdatePackage.LH k) (fn := Tryz.f4) (c := bodyOf Tryz.f4) Tryz.func4 rfl Tryz.call4 laws_FnExactUpdatePackage.sig [] (laws_FnExactUpdatePackage.body k) (by kernel_rfl) (laws_FnExactUpdatePackage.lok k) (by decide) fun vs bs lf y hl hb hy => by
    unfold laws_FnExactUpdatePackage.body at hb
    split at hb
    · obtain ⟨_, rfl, hb_1⟩ := asO_bind hb
      obtain ⟨_, rfl, hb_2⟩ := asO_bind hb_1
      obtain ⟨_, rfl, hb_3⟩ := asO_bind hb_2
      obtain ⟨_, rfl, hb_4⟩ := asO_bind hb_3
      obtain ⟨_, rfl, hb_5⟩ := asO_bind hb_4
      obtain ⟨_, rfl, hb_6⟩ := asO_bind hb_5
      obtain ⟨_, rfl, hb_7⟩ := asO_bind hb_6
      obtain ⟨_, rfl, hb_8⟩ := asO_bind hb_7
      obtain rfl := Option.some.inj hb_8
      exact ⟨laws_FnExactUpdatePackage.out, laws_FnExactUpdatePackage.out_ok, (laws_FnExactUpdatePackage.den k _ _ _ _ _ _ _ _ _ _ _ _ _ _ _ _ _ _).trans hy⟩
    · cases hb
end Go.Proofs.YtoenilndklbceaaGreat.PFnExactUpdatePackage
