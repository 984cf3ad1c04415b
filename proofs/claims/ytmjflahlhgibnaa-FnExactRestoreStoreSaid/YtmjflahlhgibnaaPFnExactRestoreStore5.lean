/- What the functions that the law FnExactRestoreStore reaches come to; no conditions. -/
import Derived.Test.YtmjflahlhgibnaaPFnExactRestoreStore4
set_option linter.unusedVariables false
set_option maxRecDepth 100000
namespace Go.Proofs.Ytmjflahlhgibnaa.PFnExactRestoreStore
open Go Go.Eng Go.Proofs
/-! ### laws_markFlowS -/
def laws_markFlowS.L2 {R : Type} (k : Nat) (X0 : Int → List T_impl_Flow → Option R) (rec : Int → Int → List T_impl_Flow → Option R) (x1 : Int) (x2 : Int) (xl0 : List T_impl_Flow) : Option R :=
  (bif decide (x2 < (xl0.length : Int)) then (bif decide (0 ≤ x2) then (bif decide (x2 < (xl0.length : Int)) then (let l1 : List T_impl_Flow := (xl0.set (x2).toNat (⟨x1, (rd_impl_Flow xl0 x2).f1, (rd_impl_Flow xl0 x2).f2⟩ : T_impl_Flow)); (bif decide (0 ≤ x2) then (bif decide (x2 < (l1.length : Int)) then (let l2 : List T_impl_Flow := (l1.set (x2).toNat (⟨(rd_impl_Flow l1 x2).f0, (w64 (x1 + (1 : Int))), (rd_impl_Flow l1 x2).f2⟩ : T_impl_Flow)); (bif decide (0 ≤ x2) then (bif decide (x2 < (l2.length : Int)) then (let l3 : List T_impl_Flow := (l2.set (x2).toNat (⟨(rd_impl_Flow l2 x2).f0, (rd_impl_Flow l2 x2).f1, (w64 ((w64 (x1 + (1 : Int))) + (1 : Int)))⟩ : T_impl_Flow)); (rec (w64 ((w64 ((w64 (x1 + (1 : Int))) + (1 : Int))) + (1 : Int))) (w64 (x2 + (1 : Int))) l3)) else none) else none)) else none) else none)) else none) else none) else (X0 x1 xl0))
def laws_markFlowS.l2 {R : Type} (k : Nat) (X0 : Int → List T_impl_Flow → Option R) : Nat → Int → Int → List T_impl_Flow → Option R
  | 0 => fun _ _ _ => none
  | n + 1 => laws_markFlowS.L2 k X0 (laws_markFlowS.l2 k X0 n)
def laws_markFlowS.f (k : Nat) (a0 : List T_impl_Flow) (a1 : Int) : Option (Int × List T_impl_Flow) :=
  (laws_markFlowS.l2 k (fun (y4 : Int) (y5 : List T_impl_Flow) => some (y4, y5)) k a1 (0 : Int) a0)
def laws_markFlowS.h2 (k : Nat) {R : Type} (K : Ex → St κ → Option R) (vs : List AV) (bs : List (Blk κ)) : Option R :=
  match vs, bs with
  | [.v (.sl 0), .v (.int .i64 x1), .v (.int .i64 x2)], [qb0] => (asO 7 true qb0).bind fun xl0 => laws_markFlowS.l2 k (fun (z0 : Int) (zl0 : List T_impl_Flow) => K (.exit 0) (stOf [(1, [])] [.v (.int .i64 z0)] [.rows 7 true zl0])) k x1 x2 xl0
  | _, _ => none
def laws_markFlowS.Γ (k : Nat) : Ct κ := assoc []
def laws_markFlowS.LH (k : Nat) : Nat → Option (LHi κ) := assoc [(2, ⟨1, [(0, [some 7]), (1, []), (5, [])], [(1, [])], @laws_markFlowS.h2 k⟩)]
theorem laws_markFlowS.hΓ (k : Nat) : ∀ f g, laws_markFlowS.Γ k f = some g → CSound Try.prog f g := G_nil
theorem laws_markFlowS.e2 {R : Type} (K : Ex → St κ → Option R) (k : Nat) : ∀ (n : Nat) (x1 : Int) (x2 : Int) (xl0 : List T_impl_Flow), loopN 1 (Code.den ti (laws_markFlowS.Γ k) (laws_markFlowS.LH k) (loopAt Try.f85 0)) [(0, [some 7]), (1, []), (5, [])] [(1, [])] K n [.v (.sl 0), .v (.int .i64 x1), .v (.int .i64 x2)] [.rows 7 true xl0] = laws_markFlowS.l2 k (fun (z0 : Int) (zl0 : List T_impl_Flow) => K (.exit 0) (stOf [(1, [])] [.v (.int .i64 z0)] [.rows 7 true zl0])) n x1 x2 xl0
  | 0, _, _, _ => rfl
  | n + 1, x1, x2, xl0 => (show loopN 1 (Code.den ti (laws_markFlowS.Γ k) (laws_markFlowS.LH k) (loopAt Try.f85 0)) [(0, [some 7]), (1, []), (5, [])] [(1, [])] K (n + 1) [.v (.sl 0), .v (.int .i64 x1), .v (.int .i64 x2)] [.rows 7 true xl0] = laws_markFlowS.L2 k (fun (z0 : Int) (zl0 : List T_impl_Flow) => K (.exit 0) (stOf [(1, [])] [.v (.int .i64 z0)] [.rows 7 true zl0])) (fun (x1' : Int) (x2' : Int) (xl0' : List T_impl_Flow) => loopN 1 (Code.den ti (laws_markFlowS.Γ k) (laws_markFlowS.LH k) (loopAt Try.f85 0)) [(0, [some 7]), (1, []), (5, [])] [(1, [])] K n [.v (.sl 0), .v (.int .i64 x1'), .v (.int .i64 x2')] [.rows 7 true xl0']) x1 x2 xl0 by kernel_rfl).trans (congrArg (fun rec => laws_markFlowS.L2 k (fun (z0 : Int) (zl0 : List T_impl_Flow) => K (.exit 0) (stOf [(1, [])] [.v (.int .i64 z0)] [.rows 7 true zl0])) rec x1 x2 xl0) (funext fun x1' => funext fun x2' => funext fun xl0' => laws_markFlowS.e2 K k n x1' x2' xl0'))
theorem laws_markFlowS.q2 (k : Nat) {R : Type} (K : Ex → St κ → Option R) (vs : List AV) (bs : List (Blk κ)) (r : R) (h : laws_markFlowS.h2 k K vs bs = some r) : ∃ n, loopN 1 (Code.den ti (laws_markFlowS.Γ k) (laws_markFlowS.LH k) (loopAt Try.f85 0)) [(0, [some 7]), (1, []), (5, [])] [(1, [])] K n vs bs = some r := by
  unfold laws_markFlowS.h2 at h
  split at h
  · obtain ⟨_, rfl, h_1⟩ := asO_bind h
    exact ⟨k, (laws_markFlowS.e2 K k k _ _ _).trans h_1⟩
  · cases h
theorem laws_markFlowS.lok (k : Nat) : LOK ti (laws_markFlowS.Γ k) (laws_markFlowS.LH k) 1 (loopsOf (bodyOf Try.f85)) :=
  (show loopsOf (bodyOf Try.f85) = [loopAt Try.f85 0] by kernel_rfl) ▸ (LOK_cons (g := ⟨1, [(0, [some 7]), (1, []), (5, [])], [(1, [])], @laws_markFlowS.h2 k⟩) (by kernel_rfl) rfl (fun K vs xs r h => laws_markFlowS.q2 k K vs xs r h) (LOK_nil))
def laws_markFlowS.sig : List PSh := [.one (.rw 7), .one .sc]
def laws_markFlowS.g (y : Int × List T_impl_Flow) : Ret κ := ⟨.v (.int .i64 y.1), [.rows 7 true y.2], []⟩
def laws_markFlowS.out (r : Ret κ) : Option (Int × List T_impl_Flow) :=
  match r with
  | ⟨.v (.int .i64 z0), [q1], []⟩ => (asO 7 true q1).bind fun z1 => some (z0, z1)
  | _ => none
theorem laws_markFlowS.out_ok (r : Ret κ) (y : Int × List T_impl_Flow) (h : laws_markFlowS.out r = some y) : r = laws_markFlowS.g y := by
  unfold laws_markFlowS.out at h
  split at h
  · obtain ⟨_, rfl, h_1⟩ := asO_bind h
    obtain rfl := Option.some.inj h_1
    rfl
  · cases h
def laws_markFlowS.body (k : Nat) (vs : List AV) (bs : List (Blk κ)) : Option (Lf κ) :=
  match vs, bs with
  | [.v (.sl 0), .v (.int .i64 a1)], [qb0] => (asO 7 true qb0).bind fun a0 => some ⟨Int × List T_impl_Flow, laws_markFlowS.f k a0 a1, laws_markFlowS.g⟩
  | _, _ => none
def laws_markFlowS.C (k : Nat) : Nat → List AV → AP κ AV := contract laws_markFlowS.sig (laws_markFlowS.body k)
theorem laws_markFlowS.den (k : Nat) (a0 : List T_impl_Flow) (a1 : Int) : Code.den ti (laws_markFlowS.Γ k) (laws_markFlowS.LH k) (bodyOf Try.f85) (finK ti Try.f85.results.toList [] (flags laws_markFlowS.sig).length (rwI (flags laws_markFlowS.sig) 0) laws_markFlowS.out) ⟨envOf (([.v (.sl 0), .v (.int .i64 a1)]).zipIdx.map fun q => (q.2, q.1)), hpOf [.rows 7 true a0], (flags laws_markFlowS.sig).length⟩ = laws_markFlowS.f k a0 a1 := by kernel_rfl
theorem laws_markFlowS.ok (k : Nat) : CSound Try.prog 85 (laws_markFlowS.C k) :=
  csound κ_ok mixed tok (laws_markFlowS.hΓ k) (LH := laws_markFlowS.LH k) (fn := Try.f85) (c := bodyOf Try.f85) Try.func85 rfl Try.call85 laws_markFlowS.sig [] (laws_markFlowS.body k) (by kernel_rfl) (laws_markFlowS.lok k) (by decide) fun vs bs lf y hl hb hy => by
    unfold laws_markFlowS.body at hb
    split at hb
    · obtain ⟨_, rfl, hb_1⟩ := asO_bind hb
      obtain rfl := Option.some.inj hb_1
      exact ⟨laws_markFlowS.out, laws_markFlowS.out_ok, (laws_markFlowS.den k _ _).trans hy⟩
    · cases hb
/-! ### laws_markRuleS -/
def laws_markRuleS.L2 {R : Type} (k : Nat) (X0 : Int → List T_impl_Rule → Option R) (rec : Int → Int → List T_impl_Rule → Option R) (x1 : Int) (x2 : Int) (xl0 : List T_impl_Rule) : Option R :=
  (bif decide (x2 < (xl0.length : Int)) then (bif decide (0 ≤ x2) then (bif decide (x2 < (xl0.length : Int)) then (let l1 : List T_impl_Rule := (xl0.set (x2).toNat (⟨x1, (rd_impl_Rule xl0 x2).f1, (⟨(rd_impl_Rule xl0 x2).f2.f0, (rd_impl_Rule xl0 x2).f2.f1⟩ : T_impl_Pattern), (rd_impl_Rule xl0 x2).f3, (rd_impl_Rule xl0 x2).f4, (⟨(rd_impl_Rule xl0 x2).f5.f0, (rd_impl_Rule xl0 x2).f5.f1⟩ : T_impl_Site)⟩ : T_impl_Rule)); (bif decide (0 ≤ x2) then (bif decide (x2 < (l1.length : Int)) then (let l2 : List T_impl_Rule := (l1.set (x2).toNat (⟨(rd_impl_Rule l1 x2).f0, (w64 (x1 + (1 : Int))), (⟨(rd_impl_Rule l1 x2).f2.f0, (rd_impl_Rule l1 x2).f2.f1⟩ : T_impl_Pattern), (rd_impl_Rule l1 x2).f3, (rd_impl_Rule l1 x2).f4, (⟨(rd_impl_Rule l1 x2).f5.f0, (rd_impl_Rule l1 x2).f5.f1⟩ : T_impl_Site)⟩ : T_impl_Rule)); (bif decide (0 ≤ x2) then (bif decide (x2 < (l2.length : Int)) then (let l3 : List T_impl_Rule := (l2.set (x2).toNat (⟨(rd_impl_Rule l2 x2).f0, (rd_impl_Rule l2 x2).f1, (⟨(w64 ((w64 (x1 + (1 : Int))) + (1 : Int))), (rd_impl_Rule l2 x2).f2.f1⟩ : T_impl_Pattern), (rd_impl_Rule l2 x2).f3, (rd_impl_Rule l2 x2).f4, (⟨(rd_impl_Rule l2 x2).f5.f0, (rd_impl_Rule l2 x2).f5.f1⟩ : T_impl_Site)⟩ : T_impl_Rule)); (bif decide (0 ≤ x2) then (bif decide (x2 < (l3.length : Int)) then (let l4 : List T_impl_Rule := (l3.set (x2).toNat (⟨(rd_impl_Rule l3 x2).f0, (rd_impl_Rule l3 x2).f1, (⟨(rd_impl_Rule l3 x2).f2.f0, (w64 ((w64 ((w64 (x1 + (1 : Int))) + (1 : Int))) + (1 : Int)))⟩ : T_impl_Pattern), (rd_impl_Rule l3 x2).f3, (rd_impl_Rule l3 x2).f4, (⟨(rd_impl_Rule l3 x2).f5.f0, (rd_impl_Rule l3 x2).f5.f1⟩ : T_impl_Site)⟩ : T_impl_Rule)); (bif decide (0 ≤ x2) then (bif decide (x2 < (l4.length : Int)) then (let l5 : List T_impl_Rule := (l4.set (x2).toNat (⟨(rd_impl_Rule l4 x2).f0, (rd_impl_Rule l4 x2).f1, (⟨(rd_impl_Rule l4 x2).f2.f0, (rd_impl_Rule l4 x2).f2.f1⟩ : T_impl_Pattern), (w64 ((w64 ((w64 ((w64 (x1 + (1 : Int))) + (1 : Int))) + (1 : Int))) + (1 : Int))), (rd_impl_Rule l4 x2).f4, (⟨(rd_impl_Rule l4 x2).f5.f0, (rd_impl_Rule l4 x2).f5.f1⟩ : T_impl_Site)⟩ : T_impl_Rule)); (bif decide (0 ≤ x2) then (bif decide (x2 < (l5.length : Int)) then (let l6 : List T_impl_Rule := (l5.set (x2).toNat (⟨(rd_impl_Rule l5 x2).f0, (rd_impl_Rule l5 x2).f1, (⟨(rd_impl_Rule l5 x2).f2.f0, (rd_impl_Rule l5 x2).f2.f1⟩ : T_impl_Pattern), (rd_impl_Rule l5 x2).f3, (w64 ((w64 ((w64 ((w64 ((w64 (x1 + (1 : Int))) + (1 : Int))) + (1 : Int))) + (1 : Int))) + (1 : Int))), (⟨(rd_impl_Rule l5 x2).f5.f0, (rd_impl_Rule l5 x2).f5.f1⟩ : T_impl_Site)⟩ : T_impl_Rule)); (bif decide (0 ≤ x2) then (bif decide (x2 < (l6.length : Int)) then (let l7 : List T_impl_Rule := (l6.set (x2).toNat (⟨(rd_impl_Rule l6 x2).f0, (rd_impl_Rule l6 x2).f1, (⟨(rd_impl_Rule l6 x2).f2.f0, (rd_impl_Rule l6 x2).f2.f1⟩ : T_impl_Pattern), (rd_impl_Rule l6 x2).f3, (rd_impl_Rule l6 x2).f4, (⟨(w64 ((w64 ((w64 ((w64 ((w64 ((w64 (x1 + (1 : Int))) + (1 : Int))) + (1 : Int))) + (1 : Int))) + (1 : Int))) + (1 : Int))), (rd_impl_Rule l6 x2).f5.f1⟩ : T_impl_Site)⟩ : T_impl_Rule)); (bif decide (0 ≤ x2) then (bif decide (x2 < (l7.length : Int)) then (let l8 : List T_impl_Rule := (l7.set (x2).toNat (⟨(rd_impl_Rule l7 x2).f0, (rd_impl_Rule l7 x2).f1, (⟨(rd_impl_Rule l7 x2).f2.f0, (rd_impl_Rule l7 x2).f2.f1⟩ : T_impl_Pattern), (rd_impl_Rule l7 x2).f3, (rd_impl_Rule l7 x2).f4, (⟨(rd_impl_Rule l7 x2).f5.f0, (w64 ((w64 ((w64 ((w64 ((w64 ((w64 ((w64 (x1 + (1 : Int))) + (1 : Int))) + (1 : Int))) + (1 : Int))) + (1 : Int))) + (1 : Int))) + (1 : Int)))⟩ : T_impl_Site)⟩ : T_impl_Rule)); (rec (w64 ((w64 ((w64 ((w64 ((w64 ((w64 ((w64 ((w64 (x1 + (1 : Int))) + (1 : Int))) + (1 : Int))) + (1 : Int))) + (1 : Int))) + (1 : Int))) + (1 : Int))) + (1 : Int))) (w64 (x2 + (1 : Int))) l8)) else none) else none)) else none) else none)) else none) else none)) else none) else none)) else none) else none)) else none) else none)) else none) else none)) else none) else none) else (X0 x1 xl0))
def laws_markRuleS.l2 {R : Type} (k : Nat) (X0 : Int → List T_impl_Rule → Option R) : Nat → Int → Int → List T_impl_Rule → Option R
  | 0 => fun _ _ _ => none
  | n + 1 => laws_markRuleS.L2 k X0 (laws_markRuleS.l2 k X0 n)
def laws_markRuleS.f (k : Nat) (a0 : List T_impl_Rule) (a1 : Int) : Option (Int × List T_impl_Rule) :=
  (laws_markRuleS.l2 k (fun (y9 : Int) (y10 : List T_impl_Rule) => some (y9, y10)) k a1 (0 : Int) a0)
def laws_markRuleS.h2 (k : Nat) {R : Type} (K : Ex → St κ → Option R) (vs : List AV) (bs : List (Blk κ)) : Option R :=
  match vs, bs with
  | [.v (.sl 0), .v (.int .i64 x1), .v (.int .i64 x2)], [qb0] => (asO 8 true qb0).bind fun xl0 => laws_markRuleS.l2 k (fun (z0 : Int) (zl0 : List T_impl_Rule) => K (.exit 0) (stOf [(1, [])] [.v (.int .i64 z0)] [.rows 8 true zl0])) k x1 x2 xl0
  | _, _ => none
def laws_markRuleS.Γ (k : Nat) : Ct κ := assoc []
def laws_markRuleS.LH (k : Nat) : Nat → Option (LHi κ) := assoc [(2, ⟨1, [(0, [some 8]), (1, []), (5, [])], [(1, [])], @laws_markRuleS.h2 k⟩)]
theorem laws_markRuleS.hΓ (k : Nat) : ∀ f g, laws_markRuleS.Γ k f = some g → CSound Try.prog f g := G_nil
theorem laws_markRuleS.e2 {R : Type} (K : Ex → St κ → Option R) (k : Nat) : ∀ (n : Nat) (x1 : Int) (x2 : Int) (xl0 : List T_impl_Rule), loopN 1 (Code.den ti (laws_markRuleS.Γ k) (laws_markRuleS.LH k) (loopAt Try.f86 0)) [(0, [some 8]), (1, []), (5, [])] [(1, [])] K n [.v (.sl 0), .v (.int .i64 x1), .v (.int .i64 x2)] [.rows 8 true xl0] = laws_markRuleS.l2 k (fun (z0 : Int) (zl0 : List T_impl_Rule) => K (.exit 0) (stOf [(1, [])] [.v (.int .i64 z0)] [.rows 8 true zl0])) n x1 x2 xl0
  | 0, _, _, _ => rfl
  | n + 1, x1, x2, xl0 => (show loopN 1 (Code.den ti (laws_markRuleS.Γ k) (laws_markRuleS.LH k) (loopAt Try.f86 0)) [(0, [some 8]), (1, []), (5, [])] [(1, [])] K (n + 1) [.v (.sl 0), .v (.int .i64 x1), .v (.int .i64 x2)] [.rows 8 true xl0] = laws_markRuleS.L2 k (fun (z0 : Int) (zl0 : List T_impl_Rule) => K (.exit 0) (stOf [(1, [])] [.v (.int .i64 z0)] [.rows 8 true zl0])) (fun (x1' : Int) (x2' : Int) (xl0' : List T_impl_Rule) => loopN 1 (Code.den ti (laws_markRuleS.Γ k) (laws_markRuleS.LH k) (loopAt Try.f86 0)) [(0, [some 8]), (1, []), (5, [])] [(1, [])] K n [.v (.sl 0), .v (.int .i64 x1'), .v (.int .i64 x2')] [.rows 8 true xl0']) x1 x2 xl0 by kernel_rfl).trans (congrArg (fun rec => laws_markRuleS.L2 k (fun (z0 : Int) (zl0 : List T_impl_Rule) => K (.exit 0) (stOf [(1, [])] [.v (.int .i64 z0)] [.rows 8 true zl0])) rec x1 x2 xl0) (funext fun x1' => funext fun x2' => funext fun xl0' => laws_markRuleS.e2 K k n x1' x2' xl0'))
theorem laws_markRuleS.q2 (k : Nat) {R : Type} (K : Ex → St κ → Option R) (vs : List AV) (bs : List (Blk κ)) (r : R) (h : laws_markRuleS.h2 k K vs bs = some r) : ∃ n, loopN 1 (Code.den ti (laws_markRuleS.Γ k) (laws_markRuleS.LH k) (loopAt Try.f86 0)) [(0, [some 8]), (1, []), (5, [])] [(1, [])] K n vs bs = some r := by
  unfold laws_markRuleS.h2 at h
  split at h
  · obtain ⟨_, rfl, h_1⟩ := asO_bind h
    exact ⟨k, (laws_markRuleS.e2 K k k _ _ _).trans h_1⟩
  · cases h
theorem laws_markRuleS.lok (k : Nat) : LOK ti (laws_markRuleS.Γ k) (laws_markRuleS.LH k) 1 (loopsOf (bodyOf Try.f86)) :=
  (show loopsOf (bodyOf Try.f86) = [loopAt Try.f86 0] by kernel_rfl) ▸ (LOK_cons (g := ⟨1, [(0, [some 8]), (1, []), (5, [])], [(1, [])], @laws_markRuleS.h2 k⟩) (by kernel_rfl) rfl (fun K vs xs r h => laws_markRuleS.q2 k K vs xs r h) (LOK_nil))
def laws_markRuleS.sig : List PSh := [.one (.rw 8), .one .sc]
def laws_markRuleS.g (y : Int × List T_impl_Rule) : Ret κ := ⟨.v (.int .i64 y.1), [.rows 8 true y.2], []⟩
def laws_markRuleS.out (r : Ret κ) : Option (Int × List T_impl_Rule) :=
  match r with
  | ⟨.v (.int .i64 z0), [q1], []⟩ => (asO 8 true q1).bind fun z1 => some (z0, z1)
  | _ => none
theorem laws_markRuleS.out_ok (r : Ret κ) (y : Int × List T_impl_Rule) (h : laws_markRuleS.out r = some y) : r = laws_markRuleS.g y := by
  unfold laws_markRuleS.out at h
  split at h
  · obtain ⟨_, rfl, h_1⟩ := asO_bind h
    obtain rfl := Option.some.inj h_1
    rfl
  · cases h
def laws_markRuleS.body (k : Nat) (vs : List AV) (bs : List (Blk κ)) : Option (Lf κ) :=
  match vs, bs with
  | [.v (.sl 0), .v (.int .i64 a1)], [qb0] => (asO 8 true qb0).bind fun a0 => some ⟨Int × List T_impl_Rule, laws_markRuleS.f k a0 a1, laws_markRuleS.g⟩
  | _, _ => none
def laws_markRuleS.C (k : Nat) : Nat → List AV → AP κ AV := contract laws_markRuleS.sig (laws_markRuleS.body k)
theorem laws_markRuleS.den (k : Nat) (a0 : List T_impl_Rule) (a1 : Int) : Code.den ti (laws_markRuleS.Γ k) (laws_markRuleS.LH k) (bodyOf Try.f86) (finK ti Try.f86.results.toList [] (flags laws_markRuleS.sig).length (rwI (flags laws_markRuleS.sig) 0) laws_markRuleS.out) ⟨envOf (([.v (.sl 0), .v (.int .i64 a1)]).zipIdx.map fun q => (q.2, q.1)), hpOf [.rows 8 true a0], (flags laws_markRuleS.sig).length⟩ = laws_markRuleS.f k a0 a1 := by kernel_rfl
theorem laws_markRuleS.ok (k : Nat) : CSound Try.prog 86 (laws_markRuleS.C k) :=
  csound κ_ok mixed tok (laws_markRuleS.hΓ k) (LH := laws_markRuleS.LH k) (fn := Try.f86) (c := bodyOf Try.f86) Try.func86 rfl Try.call86 laws_markRuleS.sig [] (laws_markRuleS.body k) (by kernel_rfl) (laws_markRuleS.lok k) (by decide) fun vs bs lf y hl hb hy => by
    unfold laws_markRuleS.body at hb
    split at hb
    · obtain ⟨_, rfl, hb_1⟩ := asO_bind hb
      obtain rfl := Option.some.inj hb_1
      exact ⟨laws_markRuleS.out, laws_markRuleS.out_ok, (laws_markRuleS.den k _ _).trans hy⟩
    · cases hb
/-! ### laws_markOpS -/
def laws_markOpS.L2 {R : Type} (k : Nat) (X0 : Int → List T_impl_Op → Option R) (rec : Int → Int → List T_impl_Op → Option R) (x1 : Int) (x2 : Int) (xl0 : List T_impl_Op) : Option R :=
  (bif decide (x2 < (xl0.length : Int)) then (bif decide (0 ≤ x2) then (bif decide (x2 < (xl0.length : Int)) then (let l1 : List T_impl_Op := (xl0.set (x2).toNat (⟨x1, (rd_impl_Op xl0 x2).f1, (rd_impl_Op xl0 x2).f2, (rd_impl_Op xl0 x2).f3⟩ : T_impl_Op)); (bif decide (0 ≤ x2) then (bif decide (x2 < (l1.length : Int)) then (let l2 : List T_impl_Op := (l1.set (x2).toNat (⟨(rd_impl_Op l1 x2).f0, (w64 (x1 + (1 : Int))), (rd_impl_Op l1 x2).f2, (rd_impl_Op l1 x2).f3⟩ : T_impl_Op)); (bif decide (0 ≤ x2) then (bif decide (x2 < (l2.length : Int)) then (let l3 : List T_impl_Op := (l2.set (x2).toNat (⟨(rd_impl_Op l2 x2).f0, (rd_impl_Op l2 x2).f1, (w64 ((w64 (x1 + (1 : Int))) + (1 : Int))), (rd_impl_Op l2 x2).f3⟩ : T_impl_Op)); (bif decide (0 ≤ x2) then (bif decide (x2 < (l3.length : Int)) then (let l4 : List T_impl_Op := (l3.set (x2).toNat (⟨(rd_impl_Op l3 x2).f0, (rd_impl_Op l3 x2).f1, (rd_impl_Op l3 x2).f2, (w64 ((w64 ((w64 (x1 + (1 : Int))) + (1 : Int))) + (1 : Int)))⟩ : T_impl_Op)); (rec (w64 ((w64 ((w64 ((w64 (x1 + (1 : Int))) + (1 : Int))) + (1 : Int))) + (1 : Int))) (w64 (x2 + (1 : Int))) l4)) else none) else none)) else none) else none)) else none) else none)) else none) else none) else (X0 x1 xl0))
def laws_markOpS.l2 {R : Type} (k : Nat) (X0 : Int → List T_impl_Op → Option R) : Nat → Int → Int → List T_impl_Op → Option R
  | 0 => fun _ _ _ => none
  | n + 1 => laws_markOpS.L2 k X0 (laws_markOpS.l2 k X0 n)
def laws_markOpS.f (k : Nat) (a0 : List T_impl_Op) (a1 : Int) : Option (Int × List T_impl_Op) :=
  (laws_markOpS.l2 k (fun (y5 : Int) (y6 : List T_impl_Op) => some (y5, y6)) k a1 (0 : Int) a0)
def laws_markOpS.h2 (k : Nat) {R : Type} (K : Ex → St κ → Option R) (vs : List AV) (bs : List (Blk κ)) : Option R :=
  match vs, bs with
  | [.v (.sl 0), .v (.int .i64 x1), .v (.int .i64 x2)], [qb0] => (asO 9 true qb0).bind fun xl0 => laws_markOpS.l2 k (fun (z0 : Int) (zl0 : List T_impl_Op) => K (.exit 0) (stOf [(1, [])] [.v (.int .i64 z0)] [.rows 9 true zl0])) k x1 x2 xl0
  | _, _ => none
def laws_markOpS.Γ (k : Nat) : Ct κ := assoc []
def laws_markOpS.LH (k : Nat) : Nat → Option (LHi κ) := assoc [(2, ⟨1, [(0, [some 9]), (1, []), (5, [])], [(1, [])], @laws_markOpS.h2 k⟩)]
theorem laws_markOpS.hΓ (k : Nat) : ∀ f g, laws_markOpS.Γ k f = some g → CSound Try.prog f g := G_nil
theorem laws_markOpS.e2 {R : Type} (K : Ex → St κ → Option R) (k : Nat) : ∀ (n : Nat) (x1 : Int) (x2 : Int) (xl0 : List T_impl_Op), loopN 1 (Code.den ti (laws_markOpS.Γ k) (laws_markOpS.LH k) (loopAt Try.f87 0)) [(0, [some 9]), (1, []), (5, [])] [(1, [])] K n [.v (.sl 0), .v (.int .i64 x1), .v (.int .i64 x2)] [.rows 9 true xl0] = laws_markOpS.l2 k (fun (z0 : Int) (zl0 : List T_impl_Op) => K (.exit 0) (stOf [(1, [])] [.v (.int .i64 z0)] [.rows 9 true zl0])) n x1 x2 xl0
  | 0, _, _, _ => rfl
  | n + 1, x1, x2, xl0 => (show loopN 1 (Code.den ti (laws_markOpS.Γ k) (laws_markOpS.LH k) (loopAt Try.f87 0)) [(0, [some 9]), (1, []), (5, [])] [(1, [])] K (n + 1) [.v (.sl 0), .v (.int .i64 x1), .v (.int .i64 x2)] [.rows 9 true xl0] = laws_markOpS.L2 k (fun (z0 : Int) (zl0 : List T_impl_Op) => K (.exit 0) (stOf [(1, [])] [.v (.int .i64 z0)] [.rows 9 true zl0])) (fun (x1' : Int) (x2' : Int) (xl0' : List T_impl_Op) => loopN 1 (Code.den ti (laws_markOpS.Γ k) (laws_markOpS.LH k) (loopAt Try.f87 0)) [(0, [some 9]), (1, []), (5, [])] [(1, [])] K n [.v (.sl 0), .v (.int .i64 x1'), .v (.int .i64 x2')] [.rows 9 true xl0']) x1 x2 xl0 by kernel_rfl).trans (congrArg (fun rec => laws_markOpS.L2 k (fun (z0 : Int) (zl0 : List T_impl_Op) => K (.exit 0) (stOf [(1, [])] [.v (.int .i64 z0)] [.rows 9 true zl0])) rec x1 x2 xl0) (funext fun x1' => funext fun x2' => funext fun xl0' => laws_markOpS.e2 K k n x1' x2' xl0'))
theorem laws_markOpS.q2 (k : Nat) {R : Type} (K : Ex → St κ → Option R) (vs : List AV) (bs : List (Blk κ)) (r : R) (h : laws_markOpS.h2 k K vs bs = some r) : ∃ n, loopN 1 (Code.den ti (laws_markOpS.Γ k) (laws_markOpS.LH k) (loopAt Try.f87 0)) [(0, [some 9]), (1, []), (5, [])] [(1, [])] K n vs bs = some r := by
  unfold laws_markOpS.h2 at h
  split at h
  · obtain ⟨_, rfl, h_1⟩ := asO_bind h
    exact ⟨k, (laws_markOpS.e2 K k k _ _ _).trans h_1⟩
  · cases h
theorem laws_markOpS.lok (k : Nat) : LOK ti (laws_markOpS.Γ k) (laws_markOpS.LH k) 1 (loopsOf (bodyOf Try.f87)) :=
  (show loopsOf (bodyOf Try.f87) = [loopAt Try.f87 0] by kernel_rfl) ▸ (LOK_cons (g := ⟨1, [(0, [some 9]), (1, []), (5, [])], [(1, [])], @laws_markOpS.h2 k⟩) (by kernel_rfl) rfl (fun K vs xs r h => laws_markOpS.q2 k K vs xs r h) (LOK_nil))
def laws_markOpS.sig : List PSh := [.one (.rw 9), .one .sc]
def laws_markOpS.g (y : Int × List T_impl_Op) : Ret κ := ⟨.v (.int .i64 y.1), [.rows 9 true y.2], []⟩
def laws_markOpS.out (r : Ret κ) : Option (Int × List T_impl_Op) :=
  match r with
  | ⟨.v (.int .i64 z0), [q1], []⟩ => (asO 9 true q1).bind fun z1 => some (z0, z1)
  | _ => none
theorem laws_markOpS.out_ok (r : Ret κ) (y : Int × List T_impl_Op) (h : laws_markOpS.out r = some y) : r = laws_markOpS.g y := by
  unfold laws_markOpS.out at h
  split at h
  · obtain ⟨_, rfl, h_1⟩ := asO_bind h
    obtain rfl := Option.some.inj h_1
    rfl
  · cases h
def laws_markOpS.body (k : Nat) (vs : List AV) (bs : List (Blk κ)) : Option (Lf κ) :=
  match vs, bs with
  | [.v (.sl 0), .v (.int .i64 a1)], [qb0] => (asO 9 true qb0).bind fun a0 => some ⟨Int × List T_impl_Op, laws_markOpS.f k a0 a1, laws_markOpS.g⟩
  | _, _ => none
def laws_markOpS.C (k : Nat) : Nat → List AV → AP κ AV := contract laws_markOpS.sig (laws_markOpS.body k)
theorem laws_markOpS.den (k : Nat) (a0 : List T_impl_Op) (a1 : Int) : Code.den ti (laws_markOpS.Γ k) (laws_markOpS.LH k) (bodyOf Try.f87) (finK ti Try.f87.results.toList [] (flags laws_markOpS.sig).length (rwI (flags laws_markOpS.sig) 0) laws_markOpS.out) ⟨envOf (([.v (.sl 0), .v (.int .i64 a1)]).zipIdx.map fun q => (q.2, q.1)), hpOf [.rows 9 true a0], (flags laws_markOpS.sig).length⟩ = laws_markOpS.f k a0 a1 := by kernel_rfl
theorem laws_markOpS.ok (k : Nat) : CSound Try.prog 87 (laws_markOpS.C k) :=
  csound κ_ok mixed tok (laws_markOpS.hΓ k) (LH := laws_markOpS.LH k) (fn := Try.f87) (c := bodyOf Try.f87) Try.func87 rfl Try.call87 laws_markOpS.sig [] (laws_markOpS.body k) (by kernel_rfl) (laws_markOpS.lok k) (by decide) fun vs bs lf y hl hb hy => by
    unfold laws_markOpS.body at hb
    split at hb
    · obtain ⟨_, rfl, hb_1⟩ := asO_bind hb
      obtain rfl := Option.some.inj hb_1
      exact ⟨laws_markOpS.out, laws_markOpS.out_ok, (laws_markOpS.den k _ _).trans hy⟩
    · cases hb
/-! ### laws_markPackage -/
def laws_markPackage.f (k : Nat) (a0_0 : Int) (a0_1 : Int) (a0_2 : Int) (a0_3 : List T_impl_Grant) (a0_4 : List T_impl_Flow) (a0_5 : List T_impl_Rule) (a0_6 : List T_impl_Op) (a0_7 : Int) (a1 : Int) : Option (Int × List T_impl_Grant × List T_impl_Flow × List T_impl_Rule × List T_impl_Op) :=
  (laws_markGrantS.f k a0_3 a1).bind fun t1 => (laws_markFlowS.f k a0_4 t1.1).bind fun t2 => (laws_markRuleS.f k a0_5 t2.1).bind fun t3 => (laws_markOpS.f k a0_6 t3.1).bind fun t4 => some (t4.1, t1.2, t2.2, t3.2, t4.2)
def laws_markPackage.Γ (k : Nat) : Ct κ := assoc [(84, laws_markGrantS.C k), (85, laws_markFlowS.C k), (86, laws_markRuleS.C k), (87, laws_markOpS.C k)]
def laws_markPackage.LH (k : Nat) : Nat → Option (LHi κ) := assoc []
theorem laws_markPackage.hΓ (k : Nat) : ∀ f g, laws_markPackage.Γ k f = some g → CSound Try.prog f g := G_cons (laws_markGrantS.ok k) (G_cons (laws_markFlowS.ok k) (G_cons (laws_markRuleS.ok k) (G_cons (laws_markOpS.ok k) G_nil)))
theorem laws_markPackage.lok (k : Nat) : LOK ti (laws_markPackage.Γ k) (laws_markPackage.LH k) 4 (loopsOf (bodyOf Try.f60)) :=
  (show loopsOf (bodyOf Try.f60) = [] by kernel_rfl) ▸ LOK_nil
def laws_markPackage.sig : List PSh := [.agg [.sc, .sc, .sc, .rw 6, .rw 7, .rw 8, .rw 9, .sc], .one .sc]
def laws_markPackage.g (y : Int × List T_impl_Grant × List T_impl_Flow × List T_impl_Rule × List T_impl_Op) : Ret κ := ⟨.v (.int .i64 y.1), [.rows 6 true y.2.1, .rows 7 true y.2.2.1, .rows 8 true y.2.2.2.1, .rows 9 true y.2.2.2.2], []⟩
def laws_markPackage.out (r : Ret κ) : Option (Int × List T_impl_Grant × List T_impl_Flow × List T_impl_Rule × List T_impl_Op) :=
  match r with
  | ⟨.v (.int .i64 z0), [q1, q2, q3, q4], []⟩ => (asO 6 true q1).bind fun z1 => (asO 7 true q2).bind fun z2 => (asO 8 true q3).bind fun z3 => (asO 9 true q4).bind fun z4 => some (z0, z1, z2, z3, z4)
  | _ => none
theorem laws_markPackage.out_ok (r : Ret κ) (y : Int × List T_impl_Grant × List T_impl_Flow × List T_impl_Rule × List T_impl_Op) (h : laws_markPackage.out r = some y) : r = laws_markPackage.g y := by
  unfold laws_markPackage.out at h
  split at h
  · obtain ⟨_, rfl, h_1⟩ := asO_bind h
    obtain ⟨_, rfl, h_2⟩ := asO_bind h_1
    obtain ⟨_, rfl, h_3⟩ := asO_bind h_2
    obtain ⟨_, rfl, h_4⟩ := asO_bind h_3
    obtain rfl := Option.some.inj h_4
    rfl
  · cases h
def laws_markPackage.body (k : Nat) (vs : List AV) (bs : List (Blk κ)) : Option (Lf κ) :=
  match vs, bs with
  | [.agg [.int .i64 a0_0, .int .i64 a0_1, .int .i64 a0_2, .sl 0, .sl 1, .sl 2, .sl 3, .int .i64 a0_7], .v (.int .i64 a1)], [qb0, qb1, qb2, qb3] => (asO 6 true qb0).bind fun a0_3 => (asO 7 true qb1).bind fun a0_4 => (asO 8 true qb2).bind fun a0_5 => (asO 9 true qb3).bind fun a0_6 => some ⟨Int × List T_impl_Grant × List T_impl_Flow × List T_impl_Rule × List T_impl_Op, laws_markPackage.f k a0_0 a0_1 a0_2 a0_3 a0_4 a0_5 a0_6 a0_7 a1, laws_markPackage.g⟩
  | _, _ => none
def laws_markPackage.C (k : Nat) : Nat → List AV → AP κ AV := contract laws_markPackage.sig (laws_markPackage.body k)
theorem laws_markPackage.den (k : Nat) (a0_0 : Int) (a0_1 : Int) (a0_2 : Int) (a0_3 : List T_impl_Grant) (a0_4 : List T_impl_Flow) (a0_5 : List T_impl_Rule) (a0_6 : List T_impl_Op) (a0_7 : Int) (a1 : Int) : Code.den ti (laws_markPackage.Γ k) (laws_markPackage.LH k) (bodyOf Try.f60) (finK ti Try.f60.results.toList [] (flags laws_markPackage.sig).length (rwI (flags laws_markPackage.sig) 0) laws_markPackage.out) ⟨envOf (([.agg [.int .i64 a0_0, .int .i64 a0_1, .int .i64 a0_2, .sl 0, .sl 1, .sl 2, .sl 3, .int .i64 a0_7], .v (.int .i64 a1)]).zipIdx.map fun q => (q.2, q.1)), hpOf [.rows 6 true a0_3, .rows 7 true a0_4, .rows 8 true a0_5, .rows 9 true a0_6], (flags laws_markPackage.sig).length⟩ = laws_markPackage.f k a0_0 a0_1 a0_2 a0_3 a0_4 a0_5 a0_6 a0_7 a1 := by kernel_rfl
theorem laws_markPackage.ok (k : Nat) : CSound Try.prog 60 (laws_markPackage.C k) :=
  csound κ_ok mixed tok (laws_markPackage.hΓ k) (LH := laws_markPackage.LH k) (fn := Try.f60) (c := bodyOf Try.f60) Try.func60 rfl Try.call60 laws_markPackage.sig [] (laws_markPackage.body k) (by kernel_rfl) (laws_markPackage.lok k) (by decide) fun vs bs lf y hl hb hy => by
    unfold laws_markPackage.body at hb
    split at hb
    · obtain ⟨_, rfl, hb_1⟩ := asO_bind hb
      obtain ⟨_, rfl, hb_2⟩ := asO_bind hb_1
      obtain ⟨_, rfl, hb_3⟩ := asO_bind hb_2
      obtain ⟨_, rfl, hb_4⟩ := asO_bind hb_3
      obtain rfl := Option.some.inj hb_4
      exact ⟨laws_markPackage.out, laws_markPackage.out_ok, (laws_markPackage.den k _ _ _ _ _ _ _ _ _).trans hy⟩
    · cases hb
/-! ### laws_markSnapshot -/
def laws_markSnapshot.f (k : Nat) (a0_0 : Int) (a0_1 : Int) (a0_2 : Int) (a0_3 : List T_impl_Grant) (a0_4 : List T_impl_Flow) (a0_5 : List T_impl_Rule) (a0_6 : List T_impl_Op) (a0_7 : Int) (a0_8 : List T_impl_Stored) (a1 : Int) : Option (Int × List T_impl_Grant × List T_impl_Flow × List T_impl_Rule × List T_impl_Op × List T_impl_Stored) :=
  (laws_markPackage.f k a0_0 a0_1 a0_2 a0_3 a0_4 a0_5 a0_6 a0_7 a1).bind fun t1 => (laws_markStoredS.f k a0_8 t1.1).bind fun t2 => some (t2.1, t1.2.1, t1.2.2.1, t1.2.2.2.1, t1.2.2.2.2, t2.2)
def laws_markSnapshot.Γ (k : Nat) : Ct κ := assoc [(60, laws_markPackage.C k), (21, laws_markStoredS.C k)]
def laws_markSnapshot.LH (k : Nat) : Nat → Option (LHi κ) := assoc []
theorem laws_markSnapshot.hΓ (k : Nat) : ∀ f g, laws_markSnapshot.Γ k f = some g → CSound Try.prog f g := G_cons (laws_markPackage.ok k) (G_cons (laws_markStoredS.ok k) G_nil)
theorem laws_markSnapshot.lok (k : Nat) : LOK ti (laws_markSnapshot.Γ k) (laws_markSnapshot.LH k) 5 (loopsOf (bodyOf Try.f35)) :=
  (show loopsOf (bodyOf Try.f35) = [] by kernel_rfl) ▸ LOK_nil
def laws_markSnapshot.sig : List PSh := [.agg [.sc, .sc, .sc, .rw 6, .rw 7, .rw 8, .rw 9, .sc, .rw 5], .one .sc]
def laws_markSnapshot.g (y : Int × List T_impl_Grant × List T_impl_Flow × List T_impl_Rule × List T_impl_Op × List T_impl_Stored) : Ret κ := ⟨.v (.int .i64 y.1), [.rows 6 true y.2.1, .rows 7 true y.2.2.1, .rows 8 true y.2.2.2.1, .rows 9 true y.2.2.2.2.1, .rows 5 true y.2.2.2.2.2], []⟩
def laws_markSnapshot.out (r : Ret κ) : Option (Int × List T_impl_Grant × List T_impl_Flow × List T_impl_Rule × List T_impl_Op × List T_impl_Stored) :=
  match r with
  | ⟨.v (.int .i64 z0), [q1, q2, q3, q4, q5], []⟩ => (asO 6 true q1).bind fun z1 => (asO 7 true q2).bind fun z2 => (asO 8 true q3).bind fun z3 => (asO 9 true q4).bind fun z4 => (asO 5 true q5).bind fun z5 => some (z0, z1, z2, z3, z4, z5)
  | _ => none
theorem laws_markSnapshot.out_ok (r : Ret κ) (y : Int × List T_impl_Grant × List T_impl_Flow × List T_impl_Rule × List T_impl_Op × List T_impl_Stored) (h : laws_markSnapshot.out r = some y) : r = laws_markSnapshot.g y := by
  unfold laws_markSnapshot.out at h
  split at h
  · obtain ⟨_, rfl, h_1⟩ := asO_bind h
    obtain ⟨_, rfl, h_2⟩ := asO_bind h_1
    obtain ⟨_, rfl, h_3⟩ := asO_bind h_2
    obtain ⟨_, rfl, h_4⟩ := asO_bind h_3
    obtain ⟨_, rfl, h_5⟩ := asO_bind h_4
    obtain rfl := Option.some.inj h_5
    rfl
  · cases h
def laws_markSnapshot.body (k : Nat) (vs : List AV) (bs : List (Blk κ)) : Option (Lf κ) :=
  match vs, bs with
  | [.agg [.int .i64 a0_0, .int .i64 a0_1, .int .i64 a0_2, .sl 0, .sl 1, .sl 2, .sl 3, .int .i64 a0_7, .sl 4], .v (.int .i64 a1)], [qb0, qb1, qb2, qb3, qb4] => (asO 6 true qb0).bind fun a0_3 => (asO 7 true qb1).bind fun a0_4 => (asO 8 true qb2).bind fun a0_5 => (asO 9 true qb3).bind fun a0_6 => (asO 5 true qb4).bind fun a0_8 => some ⟨Int × List T_impl_Grant × List T_impl_Flow × List T_impl_Rule × List T_impl_Op × List T_impl_Stored, laws_markSnapshot.f k a0_0 a0_1 a0_2 a0_3 a0_4 a0_5 a0_6 a0_7 a0_8 a1, laws_markSnapshot.g⟩
  | _, _ => none
def laws_markSnapshot.C (k : Nat) : Nat → List AV → AP κ AV := contract laws_markSnapshot.sig (laws_markSnapshot.body k)
theorem laws_markSnapshot.den (k : Nat) (a0_0 : Int) (a0_1 : Int) (a0_2 : Int) (a0_3 : List T_impl_Grant) (a0_4 : List T_impl_Flow) (a0_5 : List T_impl_Rule) (a0_6 : List T_impl_Op) (a0_7 : Int) (a0_8 : List T_impl_Stored) (a1 : Int) : Code.den ti (laws_markSnapshot.Γ k) (laws_markSnapshot.LH k) (bodyOf Try.f35) (finK ti Try.f35.results.toList [] (flags laws_markSnapshot.sig).length (rwI (flags laws_markSnapshot.sig) 0) laws_markSnapshot.out) ⟨envOf (([.agg [.int .i64 a0_0, .int .i64 a0_1, .int .i64 a0_2, .sl 0, .sl 1, .sl 2, .sl 3, .int .i64 a0_7, .sl 4], .v (.int .i64 a1)]).zipIdx.map fun q => (q.2, q.1)), hpOf [.rows 6 true a0_3, .rows 7 true a0_4, .rows 8 true a0_5, .rows 9 true a0_6, .rows 5 true a0_8], (flags laws_markSnapshot.sig).length⟩ = laws_markSnapshot.f k a0_0 a0_1 a0_2 a0_3 a0_4 a0_5 a0_6 a0_7 a0_8 a1 := by kernel_rfl
theorem laws_markSnapshot.ok (k : Nat) : CSound Try.prog 35 (laws_markSnapshot.C k) :=
  csound κ_ok mixed tok (laws_markSnapshot.hΓ k) (LH := laws_markSnapshot.LH k) (fn := Try.f35) (c := bodyOf Try.f35) Try.func35 rfl Try.call35 laws_markSnapshot.sig [] (laws_markSnapshot.body k) (by kernel_rfl) (laws_markSnapshot.lok k) (by decide) fun vs bs lf y hl hb hy => by
    unfold laws_markSnapshot.body at hb
    split at hb
    · obtain ⟨_, rfl, hb_1⟩ := asO_bind hb
      obtain ⟨_, rfl, hb_2⟩ := asO_bind hb_1
      obtain ⟨_, rfl, hb_3⟩ := asO_bind hb_2
      obtain ⟨_, rfl, hb_4⟩ := asO_bind hb_3
      obtain ⟨_, rfl, hb_5⟩ := asO_bind hb_4
      obtain rfl := Option.some.inj hb_5
      exact ⟨laws_markSnapshot.out, laws_markSnapshot.out_ok, (laws_markSnapshot.den k _ _ _ _ _ _ _ _ _ _).trans hy⟩
    · cases hb
/-! ### laws_heldStoredS -/
def laws_heldStoredS.L2 {R : Type} (k : Nat) (xl0 : List T_impl_Stored) (X0 : Int → Int → Option R) (X1 : Int → Option R) (rec : Int → Int → Option R) (x1 : Int) (x2 : Int) : Option R :=
  (bif decide (x2 < (xl0.length : Int)) then (bif decide (0 ≤ x2) then (bif decide (x2 < (xl0.length : Int)) then (bif ((rd_impl_Stored xl0 x2).f0 != x1) then (X0 x1 (-1 : Int)) else (bif decide (0 ≤ x2) then (bif decide (x2 < (xl0.length : Int)) then (bif ((rd_impl_Stored xl0 x2).f1 != (w64 (x1 + (1 : Int)))) then (X0 (w64 (x1 + (1 : Int))) (-1 : Int)) else (bif decide (0 ≤ x2) then (bif decide (x2 < (xl0.length : Int)) then (bif ((rd_impl_Stored xl0 x2).f2 != (w64 ((w64 (x1 + (1 : Int))) + (1 : Int)))) then (X0 (w64 ((w64 (x1 + (1 : Int))) + (1 : Int))) (-1 : Int)) else (bif decide (0 ≤ x2) then (bif decide (x2 < (xl0.length : Int)) then (bif ((rd_impl_Stored xl0 x2).f3 != (w64 ((w64 ((w64 (x1 + (1 : Int))) + (1 : Int))) + (1 : Int)))) then (X0 (w64 ((w64 ((w64 (x1 + (1 : Int))) + (1 : Int))) + (1 : Int))) (-1 : Int)) else (rec (w64 ((w64 ((w64 ((w64 (x1 + (1 : Int))) + (1 : Int))) + (1 : Int))) + (1 : Int))) (w64 (x2 + (1 : Int))))) else none) else none)) else none) else none)) else none) else none)) else none) else none) else (X1 x1))
def laws_heldStoredS.l2 {R : Type} (k : Nat) (xl0 : List T_impl_Stored) (X0 : Int → Int → Option R) (X1 : Int → Option R) : Nat → Int → Int → Option R
  | 0 => fun _ _ => none
  | n + 1 => laws_heldStoredS.L2 k xl0 X0 X1 (laws_heldStoredS.l2 k xl0 X0 X1 n)
def laws_heldStoredS.f (k : Nat) (a0 : List T_impl_Stored) (a1 : Int) : Option Int :=
  (laws_heldStoredS.l2 k a0 (fun (y1 : Int) (y2 : Int) => some y2) (fun (y3 : Int) => some y3) k a1 (0 : Int))
def laws_heldStoredS.h2 (k : Nat) {R : Type} (K : Ex → St κ → Option R) (vs : List AV) (bs : List (Blk κ)) : Option R :=
  match vs, bs with
  | [.v (.sl 0), .v (.int .i64 x1), .v (.int .i64 x2)], [qb0] => (asO 5 false qb0).bind fun xl0 => laws_heldStoredS.l2 k xl0 (fun (z0 : Int) (z1 : Int) => K .ret (stOf [(1, []), (4, [])] [.v (.int .i64 z0), .v (.int .i64 z1)] [.rows 5 false xl0])) (fun (z0 : Int) => K (.exit 0) (stOf [(1, []), (4, [])] [.v (.int .i64 z0), .v .any] [.rows 5 false xl0])) k x1 x2
  | _, _ => none
def laws_heldStoredS.Γ (k : Nat) : Ct κ := assoc []
def laws_heldStoredS.LH (k : Nat) : Nat → Option (LHi κ) := assoc [(2, ⟨1, [(0, [some 5]), (1, []), (5, [])], [(1, []), (4, [])], @laws_heldStoredS.h2 k⟩)]
theorem laws_heldStoredS.hΓ (k : Nat) : ∀ f g, laws_heldStoredS.Γ k f = some g → CSound Try.prog f g := G_nil
theorem laws_heldStoredS.e2 {R : Type} (K : Ex → St κ → Option R) (k : Nat) (xl0 : List T_impl_Stored) : ∀ (n : Nat) (x1 : Int) (x2 : Int), loopN 1 (Code.den ti (laws_heldStoredS.Γ k) (laws_heldStoredS.LH k) (loopAt Try.f22 0)) [(0, [some 5]), (1, []), (5, [])] [(1, []), (4, [])] K n [.v (.sl 0), .v (.int .i64 x1), .v (.int .i64 x2)] [.rows 5 false xl0] = laws_heldStoredS.l2 k xl0 (fun (z0 : Int) (z1 : Int) => K .ret (stOf [(1, []), (4, [])] [.v (.int .i64 z0), .v (.int .i64 z1)] [.rows 5 false xl0])) (fun (z0 : Int) => K (.exit 0) (stOf [(1, []), (4, [])] [.v (.int .i64 z0), .v .any] [.rows 5 false xl0])) n x1 x2
  | 0, _, _ => rfl
  | n + 1, x1, x2 => (show loopN 1 (Code.den ti (laws_heldStoredS.Γ k) (laws_heldStoredS.LH k) (loopAt Try.f22 0)) [(0, [some 5]), (1, []), (5, [])] [(1, []), (4, [])] K (n + 1) [.v (.sl 0), .v (.int .i64 x1), .v (.int .i64 x2)] [.rows 5 false xl0] = laws_heldStoredS.L2 k xl0 (fun (z0 : Int) (z1 : Int) => K .ret (stOf [(1, []), (4, [])] [.v (.int .i64 z0), .v (.int .i64 z1)] [.rows 5 false xl0])) (fun (z0 : Int) => K (.exit 0) (stOf [(1, []), (4, [])] [.v (.int .i64 z0), .v .any] [.rows 5 false xl0])) (fun (x1' : Int) (x2' : Int) => loopN 1 (Code.den ti (laws_heldStoredS.Γ k) (laws_heldStoredS.LH k) (loopAt Try.f22 0)) [(0, [some 5]), (1, []), (5, [])] [(1, []), (4, [])] K n [.v (.sl 0), .v (.int .i64 x1'), .v (.int .i64 x2')] [.rows 5 false xl0]) x1 x2 by kernel_rfl).trans (congrArg (fun rec => laws_heldStoredS.L2 k xl0 (fun (z0 : Int) (z1 : Int) => K .ret (stOf [(1, []), (4, [])] [.v (.int .i64 z0), .v (.int .i64 z1)] [.rows 5 false xl0])) (fun (z0 : Int) => K (.exit 0) (stOf [(1, []), (4, [])] [.v (.int .i64 z0), .v .any] [.rows 5 false xl0])) rec x1 x2) (funext fun x1' => funext fun x2' => laws_heldStoredS.e2 K k xl0 n x1' x2'))
theorem laws_heldStoredS.q2 (k : Nat) {R : Type} (K : Ex → St κ → Option R) (vs : List AV) (bs : List (Blk κ)) (r : R) (h : laws_heldStoredS.h2 k K vs bs = some r) : ∃ n, loopN 1 (Code.den ti (laws_heldStoredS.Γ k) (laws_heldStoredS.LH k) (loopAt Try.f22 0)) [(0, [some 5]), (1, []), (5, [])] [(1, []), (4, [])] K n vs bs = some r := by
  unfold laws_heldStoredS.h2 at h
  split at h
  · obtain ⟨_, rfl, h_1⟩ := asO_bind h
    exact ⟨k, (laws_heldStoredS.e2 K k _ k _ _).trans h_1⟩
  · cases h
theorem laws_heldStoredS.lok (k : Nat) : LOK ti (laws_heldStoredS.Γ k) (laws_heldStoredS.LH k) 1 (loopsOf (bodyOf Try.f22)) :=
  (show loopsOf (bodyOf Try.f22) = [loopAt Try.f22 0] by kernel_rfl) ▸ (LOK_cons (g := ⟨1, [(0, [some 5]), (1, []), (5, [])], [(1, []), (4, [])], @laws_heldStoredS.h2 k⟩) (by kernel_rfl) rfl (fun K vs xs r h => laws_heldStoredS.q2 k K vs xs r h) (LOK_nil))
def laws_heldStoredS.sig : List PSh := [.one (.ro 5), .one .sc]
def laws_heldStoredS.g (y : Int) : Ret κ := ⟨.v (.int .i64 y), [], []⟩
def laws_heldStoredS.out (r : Ret κ) : Option Int :=
  match r with
  | ⟨.v (.int .i64 z0), [], []⟩ => some (z0)
  | _ => none
theorem laws_heldStoredS.out_ok (r : Ret κ) (y : Int) (h : laws_heldStoredS.out r = some y) : r = laws_heldStoredS.g y := by
  unfold laws_heldStoredS.out at h
  split at h
  · obtain rfl := Option.some.inj h
    rfl
  · cases h
def laws_heldStoredS.body (k : Nat) (vs : List AV) (bs : List (Blk κ)) : Option (Lf κ) :=
  match vs, bs with
  | [.v (.sl 0), .v (.int .i64 a1)], [qb0] => (asO 5 false qb0).bind fun a0 => some ⟨Int, laws_heldStoredS.f k a0 a1, laws_heldStoredS.g⟩
  | _, _ => none
def laws_heldStoredS.C (k : Nat) : Nat → List AV → AP κ AV := contract laws_heldStoredS.sig (laws_heldStoredS.body k)
theorem laws_heldStoredS.den (k : Nat) (a0 : List T_impl_Stored) (a1 : Int) : Code.den ti (laws_heldStoredS.Γ k) (laws_heldStoredS.LH k) (bodyOf Try.f22) (finK ti Try.f22.results.toList [] (flags laws_heldStoredS.sig).length (rwI (flags laws_heldStoredS.sig) 0) laws_heldStoredS.out) ⟨envOf (([.v (.sl 0), .v (.int .i64 a1)]).zipIdx.map fun q => (q.2, q.1)), hpOf [.rows 5 false a0], (flags laws_heldStoredS.sig).length⟩ = laws_heldStoredS.f k a0 a1 := by kernel_rfl
theorem laws_heldStoredS.ok (k : Nat) : CSound Try.prog 22 (laws_heldStoredS.C k) :=
  csound κ_ok mixed tok (laws_heldStoredS.hΓ k) (LH := laws_heldStoredS.LH k) (fn := Try.f22) (c := bodyOf Try.f22) Try.func22 rfl Try.call22 laws_heldStoredS.sig [] (laws_heldStoredS.body k) (by kernel_rfl) (laws_heldStoredS.lok k) (by decide) fun vs bs lf y hl hb hy => by
    unfold laws_heldStoredS.body at hb
    split at hb
    · obtain ⟨_, rfl, hb_1⟩ := asO_bind hb
      obtain rfl := Option.some.inj hb_1
      exact ⟨laws_heldStoredS.out, laws_heldStoredS.out_ok, (laws_heldStoredS.den k _ _).trans hy⟩
    · cases hb
/-! ### laws_FnExactRestoreStore -/
def laws_FnExactRestoreStore.f (k : Nat) (a0 : List T_laws_Stored) (a1_0 : Int) (a1_1 : Int) (a1_2 : Int) (a1_3 : List T_laws_Grant) (a1_4 : List T_laws_Flow) (a1_5 : List T_laws_Rule) (a1_6 : List T_laws_Op) (a1_7 : Int) (a1_8 : List T_laws_Stored) : Option Bool :=
  (laws_szStoredS.f k a0 (1048576 : Int)).bind fun t1 => (bif decide (t1 < (0 : Int)) then some true else (laws_szSnapshot.f k a1_0 a1_1 a1_2 a1_3 a1_4 a1_5 a1_6 a1_7 a1_8 t1).bind fun t2 => (bif decide (t2 < (0 : Int)) then some true else (laws_toStoredS.f k a0).bind fun t3 => (laws_toSnapshot.f k a1_0 a1_1 a1_2 a1_3 a1_4 a1_5 a1_6 a1_7 a1_8).bind fun t4 => (spec_RestoreStore.f k t3 t4.1 t4.2.1 t4.2.2.1 t4.2.2.2.2.1 t4.2.2.2.2.2.1 t4.2.2.2.2.2.2.1 t4.2.2.2.2.2.2.2.1 t4.2.2.2.1 t4.2.2.2.2.2.2.2.2).bind fun t5 => (laws_toStoredS.f k a0).bind fun t6 => (laws_toSnapshot.f k a1_0 a1_1 a1_2 a1_3 a1_4 a1_5 a1_6 a1_7 a1_8).bind fun t7 => (impl_RestoreStore.f k t6 t7.1 t7.2.1 t7.2.2.1 t7.2.2.2.2.1 t7.2.2.2.2.2.1 t7.2.2.2.2.2.2.1 t7.2.2.2.2.2.2.2.1 t7.2.2.2.1 t7.2.2.2.2.2.2.2.2).bind fun t8 => (laws_eqStoredS.f k t8.2 t5.2).bind fun t9 => (bif !t9 then some false else (bif !(t8.1 == t5.1) then some false else (laws_toStoredS.f k a0).bind fun t10 => (laws_eqStoredS.f k t6 t10).bind fun t11 => (bif !t11 then some false else (laws_toSnapshot.f k a1_0 a1_1 a1_2 a1_3 a1_4 a1_5 a1_6 a1_7 a1_8).bind fun t12 => (laws_eqSnapshot.f k t7.1 t7.2.1 t7.2.2.1 t7.2.2.2.2.1 t7.2.2.2.2.2.1 t7.2.2.2.2.2.2.1 t7.2.2.2.2.2.2.2.1 t7.2.2.2.1 t7.2.2.2.2.2.2.2.2 t12.1 t12.2.1 t12.2.2.1 t12.2.2.2.2.1 t12.2.2.2.2.2.1 t12.2.2.2.2.2.2.1 t12.2.2.2.2.2.2.2.1 t12.2.2.2.1 t12.2.2.2.2.2.2.2.2).bind fun t13 => (bif !t13 then some false else (laws_markStoredS.f k t6 (1 : Int)).bind fun t14 => (laws_markSnapshot.f k t7.1 t7.2.1 t7.2.2.1 t7.2.2.2.2.1 t7.2.2.2.2.2.1 t7.2.2.2.2.2.2.1 t7.2.2.2.2.2.2.2.1 t7.2.2.2.1 t7.2.2.2.2.2.2.2.2 t14.1).bind fun t15 => (bif decide (t15.1 < (0 : Int)) then some false else (laws_eqStoredS.f k t8.2 t5.2).bind fun t16 => (bif !t16 then some false else (bif !(t8.1 == t5.1) then some false else (laws_markStoredS.f k t8.2 (1 : Int)).bind fun t17 => (laws_heldStoredS.f k t17.2 (1 : Int)).bind fun t18 => (bif decide (t18 < (0 : Int)) then some false else (bif (t18 != t17.1) then some false else (laws_toStoredS.f k a0).bind fun t19 => (laws_toSnapshot.f k a1_0 a1_1 a1_2 a1_3 a1_4 a1_5 a1_6 a1_7 a1_8).bind fun t20 => (impl_RestoreStore.f k t19 t20.1 t20.2.1 t20.2.2.1 t20.2.2.2.2.1 t20.2.2.2.2.2.1 t20.2.2.2.2.2.2.1 t20.2.2.2.2.2.2.2.1 t20.2.2.2.1 t20.2.2.2.2.2.2.2.2).bind fun t21 => (laws_eqStoredS.f k t21.2 t5.2).bind fun t22 => (bif !t22 then some false else (bif !(t21.1 == t5.1) then some false else (laws_heldStoredS.f k t17.2 (1 : Int)).bind fun t23 => (bif decide (t23 < (0 : Int)) then some false else (bif (t23 != t17.1) then some false else some true)))))))))))))))
def laws_FnExactRestoreStore.Γ (k : Nat) : Ct κ := assoc [(16, laws_szStoredS.C k), (30, laws_szSnapshot.C k), (18, laws_toStoredS.C k), (32, laws_toSnapshot.C k), (31, spec_RestoreStore.C k), (33, impl_RestoreStore.C k), (20, laws_eqStoredS.C k), (34, laws_eqSnapshot.C k), (21, laws_markStoredS.C k), (35, laws_markSnapshot.C k), (22, laws_heldStoredS.C k)]
def laws_FnExactRestoreStore.LH (k : Nat) : Nat → Option (LHi κ) := assoc []
theorem laws_FnExactRestoreStore.hΓ (k : Nat) : ∀ f g, laws_FnExactRestoreStore.Γ k f = some g → CSound Try.prog f g := G_cons (laws_szStoredS.ok k) (G_cons (laws_szSnapshot.ok k) (G_cons (laws_toStoredS.ok k) (G_cons (laws_toSnapshot.ok k) (G_cons (spec_RestoreStore.ok k) (G_cons (impl_RestoreStore.ok k) (G_cons (laws_eqStoredS.ok k) (G_cons (laws_eqSnapshot.ok k) (G_cons (laws_markStoredS.ok k) (G_cons (laws_markSnapshot.ok k) (G_cons (laws_heldStoredS.ok k) G_nil))))))))))
theorem laws_FnExactRestoreStore.lok (k : Nat) : LOK ti (laws_FnExactRestoreStore.Γ k) (laws_FnExactRestoreStore.LH k) 6 (loopsOf (bodyOf Try.f6)) :=
  (show loopsOf (bodyOf Try.f6) = [] by kernel_rfl) ▸ LOK_nil
def laws_FnExactRestoreStore.sig : List PSh := [.one (.ro 0), .agg [.sc, .sc, .sc, .ro 1, .ro 2, .ro 3, .ro 4, .sc, .ro 0]]
def laws_FnExactRestoreStore.g (y : Bool) : Ret κ := ⟨.v (.bool y), [], []⟩
def laws_FnExactRestoreStore.out (r : Ret κ) : Option Bool :=
  match r with
  | ⟨.v (.bool z0), [], []⟩ => some (z0)
  | _ => none
theorem laws_FnExactRestoreStore.out_ok (r : Ret κ) (y : Bool) (h : laws_FnExactRestoreStore.out r = some y) : r = laws_FnExactRestoreStore.g y := by
  unfold laws_FnExactRestoreStore.out at h
  split at h
  · obtain rfl := Option.some.inj h
    rfl
  · cases h
def laws_FnExactRestoreStore.body (k : Nat) (vs : List AV) (bs : List (Blk κ)) : Option (Lf κ) :=
  match vs, bs with
  | [.v (.sl 0), .agg [.int .i64 a1_0, .int .i64 a1_1, .int .i64 a1_2, .sl 1, .sl 2, .sl 3, .sl 4, .int .i64 a1_7, .sl 5]], [qb0, qb1, qb2, qb3, qb4, qb5] => (asO 0 false qb0).bind fun a0 => (asO 1 false qb1).bind fun a1_3 => (asO 2 false qb2).bind fun a1_4 => (asO 3 false qb3).bind fun a1_5 => (asO 4 false qb4).bind fun a1_6 => (asO 0 false qb5).bind fun a1_8 => some ⟨Bool, laws_FnExactRestoreStore.f k a0 a1_0 a1_1 a1_2 a1_3 a1_4 a1_5 a1_6 a1_7 a1_8, laws_FnExactRestoreStore.g⟩
  | _, _ => none
def laws_FnExactRestoreStore.C (k : Nat) : Nat → List AV → AP κ AV := contract laws_FnExactRestoreStore.sig (laws_FnExactRestoreStore.body k)
theorem laws_FnExactRestoreStore.den (k : Nat) (a0 : List T_laws_Stored) (a1_0 : Int) (a1_1 : Int) (a1_2 : Int) (a1_3 : List T_laws_Grant) (a1_4 : List T_laws_Flow) (a1_5 : List T_laws_Rule) (a1_6 : List T_laws_Op) (a1_7 : Int) (a1_8 : List T_laws_Stored) : Code.den ti (laws_FnExactRestoreStore.Γ k) (laws_FnExactRestoreStore.LH k) (bodyOf Try.f6) (finK ti Try.f6.results.toList [] (flags laws_FnExactRestoreStore.sig).length (rwI (flags laws_FnExactRestoreStore.sig) 0) laws_FnExactRestoreStore.out) ⟨envOf (([.v (.sl 0), .agg [.int .i64 a1_0, .int .i64 a1_1, .int .i64 a1_2, .sl 1, .sl 2, .sl 3, .sl 4, .int .i64 a1_7, .sl 5]]).zipIdx.map fun q => (q.2, q.1)), hpOf [.rows 0 false a0, .rows 1 false a1_3, .rows 2 false a1_4, .rows 3 false a1_5, .rows 4 false a1_6, .rows 0 false a1_8], (flags laws_FnExactRestoreStore.sig).length⟩ = laws_FnExactRestoreStore.f k a0 a1_0 a1_1 a1_2 a1_3 a1_4 a1_5 a1_6 a1_7 a1_8 := by kernel_rfl
theorem laws_FnExactRestoreStore.ok (k : Nat) : CSound Try.prog 6 (laws_FnExactRestoreStore.C k) :=
  csound κ_ok mixed tok (laws_FnExactRestoreStore.hΓ k) (LH := laws_FnExactRestoreStore.LH k) (fn := Try.f6) (c := bodyOf Try.f6) Try.func6 rfl Try.call6 laws_FnExactRestoreStore.sig [] (laws_FnExactRestoreStore.body k) (by kernel_rfl) (laws_FnExactRestoreStore.lok k) (by decide) fun vs bs lf y hl hb hy => by
    unfold laws_FnExactRestoreStore.body at hb
    split at hb
    · obtain ⟨_, rfl, hb_1⟩ := asO_bind hb
      obtain ⟨_, rfl, hb_2⟩ := asO_bind hb_1
      obtain ⟨_, rfl, hb_3⟩ := asO_bind hb_2
      obtain ⟨_, rfl, hb_4⟩ := asO_bind hb_3
      obtain ⟨_, rfl, hb_5⟩ := asO_bind hb_4
      obtain ⟨_, rfl, hb_6⟩ := asO_bind hb_5
      obtain rfl := Option.some.inj hb_6
      exact ⟨laws_FnExactRestoreStore.out, laws_FnExactRestoreStore.out_ok, (laws_FnExactRestoreStore.den k _ _ _ _ _ _ _ _ _ _).trans hy⟩
    · cases hb
end Go.Proofs.Ytmjflahlhgibnaa.PFnExactRestoreStore
