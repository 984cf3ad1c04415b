/- What the functions that the law FnExactTakeSnapshot reaches come to; no conditions. -/
import Derived.Test.YthingkcckjiniaaPFnExactTakeSnapshot3
set_option linter.unusedVariables false
set_option maxRecDepth 100000
namespace Go.Proofs.Ythingkcckjiniaa.PFnExactTakeSnapshot
open Go Go.Eng Go.Proofs
/-! ### laws_markRuleS -/
def laws_markRuleS.L2 {R : Type} (k : Nat) (X0 : Int → List T_impl_Rule → Option R) (rec : Int → Int → List T_impl_Rule → Option R) (x1 : Int) (x2 : Int) (xl0 : List T_impl_Rule) : Option R :=
  (bif decide (x2 < (xl0.length : Int)) then (bif decide (0 ≤ x2) then (bif decide (x2 < (xl0.length : Int)) then (let l1 : List T_impl_Rule := (xl0.set (x2).toNat (⟨x1, (rd_impl_Rule xl0 x2).f1, (⟨(rd_impl_Rule xl0 x2).f2.f0, (rd_impl_Rule xl0 x2).f2.f1⟩ : T_impl_Pattern), (rd_impl_Rule xl0 x2).f3, (rd_impl_Rule xl0 x2).f4, (⟨(rd_impl_Rule xl0 x2).f5.f0, (rd_impl_Rule xl0 x2).f5.f1⟩ : T_impl_Site)⟩ : T_impl_Rule)); (bif decide (0 ≤ x2) then (bif decide (x2 < (l1.length : Int)) then (let l2 : List T_impl_Rule := (l1.set (x2).toNat (⟨(rd_impl_Rule l1 x2).f0, (w64 (x1 + (1 : Int))), (⟨(rd_impl_Rule l1 x2).f2.f0, (rd_impl_Rule l1 x2).f2.f1⟩ : T_impl_Pattern), (rd_impl_Rule l1 x2).f3, (rd_impl_Rule l1 x2).f4, (⟨(rd_impl_Rule l1 x2).f5.f0, (rd_impl_Rule l1 x2).f5.f1⟩ : T_impl_Site)⟩ : T_impl_Rule)); (bif decide (0 ≤ x2) then (bif decide (x2 < (l2.length : Int)) then (let l3 : List T_impl_Rule := (l2.set (x2).toNat (⟨(rd_impl_Rule l2 x2).f0, (rd_impl_Rule l2 x2).f1, (⟨(w64 ((w64 (x1 + (1 : Int))) + (1 : Int))), (rd_impl_Rule l2 x2).f2.f1⟩ : T_impl_Pattern), (rd_impl_Rule l2 x2).f3, (rd_impl_Rule l2 x2).f4, (⟨(rd_impl_Rule l2 x2).f5.f0, (rd_impl_Rule l2 x2).f5.f1⟩ : T_impl_Site)⟩ : T_impl_Rule)); (bif decide (0 ≤ x2) then (bif decide (x2 < (l3.length : Int)) then (let l4 : List T_impl_Rule := (l3.set (x2).toNat (⟨(rd_impl_Rule l3 x2).f0, (rd_impl_Rule l3 x2).f1, (⟨(rd_impl_Rule l3 x2).f2.f0, (w64 ((w64 ((w64 (x1 + (1 : Int))) + (1 : Int))) + (1 : Int)))⟩ : T_impl_Pattern), (rd_impl_Rule l3 x2).f3, (rd_impl_Rule l3 x2).f4, (⟨(rd_impl_Rule l3 x2).f5.f0, (rd_impl_Rule l3 x2).f5.f1⟩ : T_impl_Site)⟩ : T_impl_Rule)); (bif decide (0 ≤ x2) then (bif decide (x2 < (l4.length : Int)) then (let l5 : List T_impl_Rule := (l4.set (x2).toNat (⟨(rd_impl_Rule l4 x2).f0, (rd_impl_Rule l4 x2).f1, (⟨(rd_impl_Rule l4 x2).f2.f0, (rd_impl_Rule l4 x2).f2.f1⟩ : T_impl_Pattern), (w64 ((w64 ((w64 ((w64 (x1 + (1 : Int))) + (1 : Int))) + (1 : Int))) + (1 : Int))), (rd_impl_Rule l4 x2).f4, (⟨(rd_impl_Rule l4 x2).f5.f0, (rd_impl_Rule l4 x2).f5.f1⟩ : T_impl_Site)⟩ : T_impl_Rule)); (bif decide (0 ≤ x2) then (bif decide (x2 < (l5.length : Int)) then (let l6 : List T_impl_Rule := (l5.set (x2).toNat (⟨(rd_impl_Rule l5 x2).f0, (rd_impl_Rule l5 x2).f1, (⟨(rd_impl_Rule l5 x2).f2.f0, (rd_impl_Rule l5 x2).f2.f1⟩ : T_impl_Pattern), (rd_impl_Rule l5 x2).f3, (w64 ((w64 ((w64 ((w64 ((w64 (x1 + (1 : Int))) + (1 : Int))) + (1 : Int))) + (1 : Int))) + (1 : Int))), (⟨(rd_impl_Rule l5 x2).f5.f0, (rd_impl_Rule l5 x2).f5.f1⟩ : T_impl_Site)⟩ : T_impl_Rule)); (bif decide (0 ≤ x2) then (bif decide (x2 < (l6.length : Int)) then (let l7 : List T_impl_Rule := (l6.set (x2).toNat (⟨(rd_impl_Rule l6 x2).f0, (rd_impl_Rule l6 x2).f1, (⟨(rd_impl_Rule l6 x2).f2.f0, (rd_impl_Rule l6 x2).f2.f1⟩ : T_impl_Pattern), (rd_impl_Rule l6 x2).f3, (rd_impl_Rule l6 x2).f4, (⟨(w64 ((w64 ((w64 ((w64 ((w64 ((w64 (x1 + (1 : Int))) + (1 : Int))) + (1 : Int))) + (1 : Int))) + (1 : Int))) + (1 : Int))), (rd_impl_Rule l6 x2).f5.f1⟩ : T_impl_Site)⟩ : T_impl_Rule)); (bif decide (0 ≤ x2) then (bif decide (x2 < (l7.length : Int)) then (let l8 : List T_impl_Rule := (l7.set (x2).toNat (⟨(rd_impl_Rule l7 x2).f0, (rd_impl_Rule l7 x2).f1, (⟨(rd_impl_Rule l7 x2).f2.f0, (rd_impl_Rule l7 x2).f2.f1⟩ : T_impl_Pattern), (rd_impl_Rule l7 x2).f3, (rd_impl_Rule l7 x2).f4, (⟨(rd_impl_Rule l7 x2).f5.f0, (w64 ((w64 ((w64 ((w64 ((w64 ((w64 ((w64 (x1 + (1 : Int))) + (1 : Int))) + (1 : Int))) + (1 : Int))) + (1 : Int))) + (1 : Int))) + (1 : Int)))⟩ : T_impl_Site)⟩ : T_impl_Rule)); (rec (w64 ((w64 ((w64 ((w64 ((w64 ((w64 ((w64 ((w64 (x1 + (1 : Int))) + (1 : Int))) + (1 : Int))) + (1 : Int))) + (1 : Int))) + (1 : Int))) + (1 : Int))) + (1 : Int))) (w64 (x2 + (1 : Int))) l8)) else none) else none)) else none) else none)) else none) else none)) else none) else none)) else none) else none)) else none) else none)) else none) else none)) else none) else none) else (X0 x1 xl0))
def laws_markRuleS.l2 {R : Type} (k : Nat) (X0 : Int → List T_impl_Rule → Option R) : Nat → Int → Int → List T_impl_Rule → Option R
  | 0 => fun _ _ _ => none
  | n + 1 => laws_markRuleS.L2 k X0 (laws_markRuleS.l2 k X0 n)
def laws_markRuleS.f (k : Nat) (a0 : List T_impl_Rule) (a1 : Int) : Option (Int × List T_impl_Rule) :=
  (laws_markRuleS.l2 k (fun (y9 : Int) (y10 : List T_impl_Rule) => some (y9, y10)) k a1 (0 : Int) a0)
def laws_markRuleS.h2 (k : Nat) {R : Type} (K : Ex → St κ → Option R) (vs : List AV) (bs : List (Blk κ)) : Option R :=
  match vs, bs with
  | [.v (.sl 0), .v (.int .i64 x1), .v (.int .i64 x2)], [qb0] => (asO 7 true qb0).bind fun xl0 => laws_markRuleS.l2 k (fun (z0 : Int) (zl0 : List T_impl_Rule) => K (.exit 0) (stOf [(1, [])] [.v (.int .i64 z0)] [.rows 7 true zl0])) k x1 x2 xl0
  | _, _ => none
def laws_markRuleS.Γ (k : Nat) : Ct κ := assoc []
def laws_markRuleS.LH (k : Nat) : Nat → Option (LHi κ) := assoc [(2, ⟨1, [(0, [some 7]), (1, []), (5, [])], [(1, [])], @laws_markRuleS.h2 k⟩)]
theorem laws_markRuleS.hΓ (k : Nat) : ∀ f g, laws_markRuleS.Γ k f = some g → CSound Try.prog f g := G_nil
theorem laws_markRuleS.e2 {R : Type} (K : Ex → St κ → Option R) (k : Nat) : ∀ (n : Nat) (x1 : Int) (x2 : Int) (xl0 : List T_impl_Rule), loopN 1 (Code.den ti (laws_markRuleS.Γ k) (laws_markRuleS.LH k) (loopAt Try.f84 0)) [(0, [some 7]), (1, []), (5, [])] [(1, [])] K n [.v (.sl 0), .v (.int .i64 x1), .v (.int .i64 x2)] [.rows 7 true xl0] = laws_markRuleS.l2 k (fun (z0 : Int) (zl0 : List T_impl_Rule) => K (.exit 0) (stOf [(1, [])] [.v (.int .i64 z0)] [.rows 7 true zl0])) n x1 x2 xl0
  | 0, _, _, _ => rfl
  | n + 1, x1, x2, xl0 => (show loopN 1 (Code.den ti (laws_markRuleS.Γ k) (laws_markRuleS.LH k) (loopAt Try.f84 0)) [(0, [some 7]), (1, []), (5, [])] [(1, [])] K (n + 1) [.v (.sl 0), .v (.int .i64 x1), .v (.int .i64 x2)] [.rows 7 true xl0] = laws_markRuleS.L2 k (fun (z0 : Int) (zl0 : List T_impl_Rule) => K (.exit 0) (stOf [(1, [])] [.v (.int .i64 z0)] [.rows 7 true zl0])) (fun (x1' : Int) (x2' : Int) (xl0' : List T_impl_Rule) => loopN 1 (Code.den ti (laws_markRuleS.Γ k) (laws_markRuleS.LH k) (loopAt Try.f84 0)) [(0, [some 7]), (1, []), (5, [])] [(1, [])] K n [.v (.sl 0), .v (.int .i64 x1'), .v (.int .i64 x2')] [.rows 7 true xl0']) x1 x2 xl0 by kernel_rfl).trans (congrArg (fun rec => laws_markRuleS.L2 k (fun (z0 : Int) (zl0 : List T_impl_Rule) => K (.exit 0) (stOf [(1, [])] [.v (.int .i64 z0)] [.rows 7 true zl0])) rec x1 x2 xl0) (funext fun x1' => funext fun x2' => funext fun xl0' => laws_markRuleS.e2 K k n x1' x2' xl0'))
theorem laws_markRuleS.q2 (k : Nat) {R : Type} (K : Ex → St κ → Option R) (vs : List AV) (bs : List (Blk κ)) (r : R) (h : laws_markRuleS.h2 k K vs bs = some r) : ∃ n, loopN 1 (Code.den ti (laws_markRuleS.Γ k) (laws_markRuleS.LH k) (loopAt Try.f84 0)) [(0, [some 7]), (1, []), (5, [])] [(1, [])] K n vs bs = some r := by
  unfold laws_markRuleS.h2 at h
  split at h
  · obtain ⟨_, rfl, h_1⟩ := asO_bind h
    exact ⟨k, (laws_markRuleS.e2 K k k _ _ _).trans h_1⟩
  · cases h
theorem laws_markRuleS.lok (k : Nat) : LOK ti (laws_markRuleS.Γ k) (laws_markRuleS.LH k) 1 (loopsOf (bodyOf Try.f84)) :=
  (show loopsOf (bodyOf Try.f84) = [loopAt Try.f84 0] by kernel_rfl) ▸ (LOK_cons (g := ⟨1, [(0, [some 7]), (1, []), (5, [])], [(1, [])], @laws_markRuleS.h2 k⟩) (by kernel_rfl) rfl (fun K vs xs r h => laws_markRuleS.q2 k K vs xs r h) (LOK_nil))
def laws_markRuleS.sig : List PSh := [.one (.rw 7), .one .sc]
def laws_markRuleS.g (y : Int × List T_impl_Rule) : Ret κ := ⟨.v (.int .i64 y.1), [.rows 7 true y.2], []⟩
def laws_markRuleS.out (r : Ret κ) : Option (Int × List T_impl_Rule) :=
  match r with
  | ⟨.v (.int .i64 z0), [q1], []⟩ => (asO 7 true q1).bind fun z1 => some (z0, z1)
  | _ => none
theorem laws_markRuleS.out_ok (r : Ret κ) (y : Int × List T_impl_Rule) (h : laws_markRuleS.out r = some y) : r = laws_markRuleS.g y := by
  unfold laws_markRuleS.out at h
  split at h
  · obtain ⟨_, rfl, h_1⟩ := asO_bind h
    obtain rfl := Option.some.inj h_1
    rfl
  · cases h
def laws_markRuleS.body (k : Nat) (vs : List AV) (bs : List (Blk κ)) : Option (Lf κ) :=
  match vs, bs with
  | [.v (.sl 0), .v (.int .i64 a1)], [qb0] => (asO 7 true qb0).bind fun a0 => some ⟨Int × List T_impl_Rule, laws_markRuleS.f k a0 a1, laws_markRuleS.g⟩
  | _, _ => none
def laws_markRuleS.C (k : Nat) : Nat → List AV → AP κ AV := contract laws_markRuleS.sig (laws_markRuleS.body k)
theorem laws_markRuleS.den (k : Nat) (a0 : List T_impl_Rule) (a1 : Int) : Code.den ti (laws_markRuleS.Γ k) (laws_markRuleS.LH k) (bodyOf Try.f84) (finK ti Try.f84.results.toList [] (flags laws_markRuleS.sig).length (rwI (flags laws_markRuleS.sig) 0) laws_markRuleS.out) ⟨envOf (([.v (.sl 0), .v (.int .i64 a1)]).zipIdx.map fun q => (q.2, q.1)), hpOf [.rows 7 true a0], (flags laws_markRuleS.sig).length⟩ = laws_markRuleS.f k a0 a1 := by kernel_rfl
theorem laws_markRuleS.ok (k : Nat) : CSound Try.prog 84 (laws_markRuleS.C k) :=
  csound κ_ok mixed tok (laws_markRuleS.hΓ k) (LH := laws_markRuleS.LH k) (fn := Try.f84) (c := bodyOf Try.f84) Try.func84 rfl Try.call84 laws_markRuleS.sig [] (laws_markRuleS.body k) (by kernel_rfl) (laws_markRuleS.lok k) (by decide) fun vs bs lf y hl hb hy => by
    unfold laws_markRuleS.body at hb
    split at hb
    · obtain ⟨_, rfl, hb_1⟩ := asO_bind hb
      obtain rfl := Option.some.inj hb_1
      exact ⟨laws_markRuleS.out, laws_markRuleS.out_ok, (laws_markRuleS.den k _ _).trans hy⟩
    · cases hb
/-! ### laws_markOpS -/
def laws_markOpS.L2 {R : Type} (k : Nat) (X0 : Int → List T_impl_Op → Option R) (rec : Int → Int → List T_impl_Op → Option R) (x1 : Int) (x2 : Int) (xl0 : List T_impl_Op) : Option R :=
  (bif decide (x2 < (xl0.length : Int)) then (bif decide (0 ≤ x2) then (bif decide (x2 < (xl0.length : Int)) then (let l1 : List T_impl_Op := (xl0.set (x2).toNat (⟨x1, (rd_impl_Op xl0 x2).f1, (rd_impl_Op xl0 x2).f2, (rd_impl_Op xl0 x2).f3⟩ : T_impl_Op)); (bif decide (0 ≤ x2) then (bif decide (x2 < (l1.length : Int)) then (let l2 : List T_impl_Op := (l1.set (x2).toNat (⟨(rd_impl_Op l1 x2).f0, (w64 (x1 + (1 : Int))), (rd_impl_Op l1 x2).f2, (rd_impl_Op l1 x2).f3⟩ : T_impl_Op)); (bif decide (0 ≤ x2) then (bif decide (x2 < (l2.length : Int)) then (let l3 : List T_impl_Op := (l2.set (x2).toNat (⟨(rd_impl_Op l2 x2).f0, (rd_impl_Op l2 x2).f1, (w64 ((w64 (x1 + (1 : Int))) + (1 : Int))), (rd_impl_Op l2 x2).f3⟩ : T_impl_Op)); (bif decide (0 ≤ x2) then (bif decide (x2 < (l3.length : Int)) then (let l4 : List T_impl_Op := (l3.set (x2).toNat (⟨(rd_impl_Op l3 x2).f0, (rd_impl_Op l3 x2).f1, (rd_impl_Op l3 x2).f2, (w64 ((w64 ((w64 (x1 + (1 : Int))) + (1 : Int))) + (1 : Int)))⟩ : T_impl_Op)); (rec (w64 ((w64 ((w64 ((w64 (x1 + (1 : Int))) + (1 : Int))) + (1 : Int))) + (1 : Int))) (w64 (x2 + (1 : Int))) l4)) else none) else none)) else none) else none)) else none) else none)) else none) else none) else (X0 x1 xl0))
def laws_markOpS.l2 {R : Type} (k : Nat) (X0 : Int → List T_impl_Op → Option R) : Nat → Int → Int → List T_impl_Op → Option R
  | 0 => fun _ _ _ => none
  | n + 1 => laws_markOpS.L2 k X0 (laws_markOpS.l2 k X0 n)
def laws_markOpS.f (k : Nat) (a0 : List T_impl_Op) (a1 : Int) : Option (Int × List T_impl_Op) :=
  (laws_markOpS.l2 k (fun (y5 : Int) (y6 : List T_impl_Op) => some (y5, y6)) k a1 (0 : Int) a0)
def laws_markOpS.h2 (k : Nat) {R : Type} (K : Ex → St κ → Option R) (vs : List AV) (bs : List (Blk κ)) : Option R :=
  match vs, bs with
  | [.v (.sl 0), .v (.int .i64 x1), .v (.int .i64 x2)], [qb0] => (asO 8 true qb0).bind fun xl0 => laws_markOpS.l2 k (fun (z0 : Int) (zl0 : List T_impl_Op) => K (.exit 0) (stOf [(1, [])] [.v (.int .i64 z0)] [.rows 8 true zl0])) k x1 x2 xl0
  | _, _ => none
def laws_markOpS.Γ (k : Nat) : Ct κ := assoc []
def laws_markOpS.LH (k : Nat) : Nat → Option (LHi κ) := assoc [(2, ⟨1, [(0, [some 8]), (1, []), (5, [])], [(1, [])], @laws_markOpS.h2 k⟩)]
theorem laws_markOpS.hΓ (k : Nat) : ∀ f g, laws_markOpS.Γ k f = some g → CSound Try.prog f g := G_nil
theorem laws_markOpS.e2 {R : Type} (K : Ex → St κ → Option R) (k : Nat) : ∀ (n : Nat) (x1 : Int) (x2 : Int) (xl0 : List T_impl_Op), loopN 1 (Code.den ti (laws_markOpS.Γ k) (laws_markOpS.LH k) (loopAt Try.f85 0)) [(0, [some 8]), (1, []), (5, [])] [(1, [])] K n [.v (.sl 0), .v (.int .i64 x1), .v (.int .i64 x2)] [.rows 8 true xl0] = laws_markOpS.l2 k (fun (z0 : Int) (zl0 : List T_impl_Op) => K (.exit 0) (stOf [(1, [])] [.v (.int .i64 z0)] [.rows 8 true zl0])) n x1 x2 xl0
  | 0, _, _, _ => rfl
  | n + 1, x1, x2, xl0 => (show loopN 1 (Code.den ti (laws_markOpS.Γ k) (laws_markOpS.LH k) (loopAt Try.f85 0)) [(0, [some 8]), (1, []), (5, [])] [(1, [])] K (n + 1) [.v (.sl 0), .v (.int .i64 x1), .v (.int .i64 x2)] [.rows 8 true xl0] = laws_markOpS.L2 k (fun (z0 : Int) (zl0 : List T_impl_Op) => K (.exit 0) (stOf [(1, [])] [.v (.int .i64 z0)] [.rows 8 true zl0])) (fun (x1' : Int) (x2' : Int) (xl0' : List T_impl_Op) => loopN 1 (Code.den ti (laws_markOpS.Γ k) (laws_markOpS.LH k) (loopAt Try.f85 0)) [(0, [some 8]), (1, []), (5, [])] [(1, [])] K n [.v (.sl 0), .v (.int .i64 x1'), .v (.int .i64 x2')] [.rows 8 true xl0']) x1 x2 xl0 by kernel_rfl).trans (congrArg (fun rec => laws_markOpS.L2 k (fun (z0 : Int) (zl0 : List T_impl_Op) => K (.exit 0) (stOf [(1, [])] [.v (.int .i64 z0)] [.rows 8 true zl0])) rec x1 x2 xl0) (funext fun x1' => funext fun x2' => funext fun xl0' => laws_markOpS.e2 K k n x1' x2' xl0'))
theorem laws_markOpS.q2 (k : Nat) {R : Type} (K : Ex → St κ → Option R) (vs : List AV) (bs : List (Blk κ)) (r : R) (h : laws_markOpS.h2 k K vs bs = some r) : ∃ n, loopN 1 (Code.den ti (laws_markOpS.Γ k) (laws_markOpS.LH k) (loopAt Try.f85 0)) [(0, [some 8]), (1, []), (5, [])] [(1, [])] K n vs bs = some r := by
  unfold laws_markOpS.h2 at h
  split at h
  · obtain ⟨_, rfl, h_1⟩ := asO_bind h
    exact ⟨k, (laws_markOpS.e2 K k k _ _ _).trans h_1⟩
  · cases h
theorem laws_markOpS.lok (k : Nat) : LOK ti (laws_markOpS.Γ k) (laws_markOpS.LH k) 1 (loopsOf (bodyOf Try.f85)) :=
  (show loopsOf (bodyOf Try.f85) = [loopAt Try.f85 0] by kernel_rfl) ▸ (LOK_cons (g := ⟨1, [(0, [some 8]), (1, []), (5, [])], [(1, [])], @laws_markOpS.h2 k⟩) (by kernel_rfl) rfl (fun K vs xs r h => laws_markOpS.q2 k K vs xs r h) (LOK_nil))
def laws_markOpS.sig : List PSh := [.one (.rw 8), .one .sc]
def laws_markOpS.g (y : Int × List T_impl_Op) : Ret κ := ⟨.v (.int .i64 y.1), [.rows 8 true y.2], []⟩
def laws_markOpS.out (r : Ret κ) : Option (Int × List T_impl_Op) :=
  match r with
  | ⟨.v (.int .i64 z0), [q1], []⟩ => (asO 8 true q1).bind fun z1 => some (z0, z1)
  | _ => none
theorem laws_markOpS.out_ok (r : Ret κ) (y : Int × List T_impl_Op) (h : laws_markOpS.out r = some y) : r = laws_markOpS.g y := by
  unfold laws_markOpS.out at h
  split at h
  · obtain ⟨_, rfl, h_1⟩ := asO_bind h
    obtain rfl := Option.some.inj h_1
    rfl
  · cases h
def laws_markOpS.body (k : Nat) (vs : List AV) (bs : List (Blk κ)) : Option (Lf κ) :=
  match vs, bs with
  | [.v (.sl 0), .v (.int .i64 a1)], [qb0] => (asO 8 true qb0).bind fun a0 => some ⟨Int × List T_impl_Op, laws_markOpS.f k a0 a1, laws_markOpS.g⟩
  | _, _ => none
def laws_markOpS.C (k : Nat) : Nat → List AV → AP κ AV := contract laws_markOpS.sig (laws_markOpS.body k)
theorem laws_markOpS.den (k : Nat) (a0 : List T_impl_Op) (a1 : Int) : Code.den ti (laws_markOpS.Γ k) (laws_markOpS.LH k) (bodyOf Try.f85) (finK ti Try.f85.results.toList [] (flags laws_markOpS.sig).length (rwI (flags laws_markOpS.sig) 0) laws_markOpS.out) ⟨envOf (([.v (.sl 0), .v (.int .i64 a1)]).zipIdx.map fun q => (q.2, q.1)), hpOf [.rows 8 true a0], (flags laws_markOpS.sig).length⟩ = laws_markOpS.f k a0 a1 := by kernel_rfl
theorem laws_markOpS.ok (k : Nat) : CSound Try.prog 85 (laws_markOpS.C k) :=
  csound κ_ok mixed tok (laws_markOpS.hΓ k) (LH := laws_markOpS.LH k) (fn := Try.f85) (c := bodyOf Try.f85) Try.func85 rfl Try.call85 laws_markOpS.sig [] (laws_markOpS.body k) (by kernel_rfl) (laws_markOpS.lok k) (by decide) fun vs bs lf y hl hb hy => by
    unfold laws_markOpS.body at hb
    split at hb
    · obtain ⟨_, rfl, hb_1⟩ := asO_bind hb
      obtain rfl := Option.some.inj hb_1
      exact ⟨laws_markOpS.out, laws_markOpS.out_ok, (laws_markOpS.den k _ _).trans hy⟩
    · cases hb
/-! ### laws_markPackage -/
def laws_markPackage.f (k : Nat) (a0_0 : Int) (a0_1 : Int) (a0_2 : Int) (a0_3 : List T_impl_Grant) (a0_4 : List T_impl_Flow) (a0_5 : List T_impl_Rule) (a0_6 : List T_impl_Op) (a0_7 : Int) (a1 : Int) : Option (Int × List T_impl_Grant × List T_impl_Flow × List T_impl_Rule × List T_impl_Op) :=
  (laws_markGrantS.f k a0_3 a1).bind fun t1 => (laws_markFlowS.f k a0_4 t1.1).bind fun t2 => (laws_markRuleS.f k a0_5 t2.1).bind fun t3 => (laws_markOpS.f k a0_6 t3.1).bind fun t4 => some (t4.1, t1.2, t2.2, t3.2, t4.2)
def laws_markPackage.Γ (k : Nat) : Ct κ := assoc [(28, laws_markGrantS.C k), (83, laws_markFlowS.C k), (84, laws_markRuleS.C k), (85, laws_markOpS.C k)]
def laws_markPackage.LH (k : Nat) : Nat → Option (LHi κ) := assoc []
theorem laws_markPackage.hΓ (k : Nat) : ∀ f g, laws_markPackage.Γ k f = some g → CSound Try.prog f g := G_cons (laws_markGrantS.ok k) (G_cons (laws_markFlowS.ok k) (G_cons (laws_markRuleS.ok k) (G_cons (laws_markOpS.ok k) G_nil)))
theorem laws_markPackage.lok (k : Nat) : LOK ti (laws_markPackage.Γ k) (laws_markPackage.LH k) 4 (loopsOf (bodyOf Try.f27)) :=
  (show loopsOf (bodyOf Try.f27) = [] by kernel_rfl) ▸ LOK_nil
def laws_markPackage.sig : List PSh := [.agg [.sc, .sc, .sc, .rw 5, .rw 6, .rw 7, .rw 8, .sc], .one .sc]
def laws_markPackage.g (y : Int × List T_impl_Grant × List T_impl_Flow × List T_impl_Rule × List T_impl_Op) : Ret κ := ⟨.v (.int .i64 y.1), [.rows 5 true y.2.1, .rows 6 true y.2.2.1, .rows 7 true y.2.2.2.1, .rows 8 true y.2.2.2.2], []⟩
def laws_markPackage.out (r : Ret κ) : Option (Int × List T_impl_Grant × List T_impl_Flow × List T_impl_Rule × List T_impl_Op) :=
  match r with
  | ⟨.v (.int .i64 z0), [q1, q2, q3, q4], []⟩ => (asO 5 true q1).bind fun z1 => (asO 6 true q2).bind fun z2 => (asO 7 true q3).bind fun z3 => (asO 8 true q4).bind fun z4 => some (z0, z1, z2, z3, z4)
  | _ => none
theorem laws_markPackage.out_ok (r : Ret κ) (y : Int × List T_impl_Grant × List T_impl_Flow × List T_impl_Rule × List T_impl_Op) (h : laws_markPackage.out r = some y) : r = laws_markPackage.g y := by
  unfold laws_markPackage.out at h
  split at h
  · obtain ⟨_, rfl, h_1⟩ := asO_bind h
    obtain ⟨_, rfl, h_2⟩ := asO_bind h_1
    obtain ⟨_, rfl, h_3⟩ := asO_bind h_2
    obtain ⟨_, rfl, h_4⟩ := asO_bind h_3
    obtain rfl := Option.some.inj h_4
    rfl
  · cases h
def laws_markPackage.body (k : Nat) (vs : List AV) (bs : List (Blk κ)) : Option (Lf κ) :=
  match vs, bs with
  | [.agg [.int .i64 a0_0, .int .i64 a0_1, .int .i64 a0_2, .sl 0, .sl 1, .sl 2, .sl 3, .int .i64 a0_7], .v (.int .i64 a1)], [qb0, qb1, qb2, qb3] => (asO 5 true qb0).bind fun a0_3 => (asO 6 true qb1).bind fun a0_4 => (asO 7 true qb2).bind fun a0_5 => (asO 8 true qb3).bind fun a0_6 => some ⟨Int × List T_impl_Grant × List T_impl_Flow × List T_impl_Rule × List T_impl_Op, laws_markPackage.f k a0_0 a0_1 a0_2 a0_3 a0_4 a0_5 a0_6 a0_7 a1, laws_markPackage.g⟩
  | _, _ => none
def laws_markPackage.C (k : Nat) : Nat → List AV → AP κ AV := contract laws_markPackage.sig (laws_markPackage.body k)
theorem laws_markPackage.den (k : Nat) (a0_0 : Int) (a0_1 : Int) (a0_2 : Int) (a0_3 : List T_impl_Grant) (a0_4 : List T_impl_Flow) (a0_5 : List T_impl_Rule) (a0_6 : List T_impl_Op) (a0_7 : Int) (a1 : Int) : Code.den ti (laws_markPackage.Γ k) (laws_markPackage.LH k) (bodyOf Try.f27) (finK ti Try.f27.results.toList [] (flags laws_markPackage.sig).length (rwI (flags laws_markPackage.sig) 0) laws_markPackage.out) ⟨envOf (([.agg [.int .i64 a0_0, .int .i64 a0_1, .int .i64 a0_2, .sl 0, .sl 1, .sl 2, .sl 3, .int .i64 a0_7], .v (.int .i64 a1)]).zipIdx.map fun q => (q.2, q.1)), hpOf [.rows 5 true a0_3, .rows 6 true a0_4, .rows 7 true a0_5, .rows 8 true a0_6], (flags laws_markPackage.sig).length⟩ = laws_markPackage.f k a0_0 a0_1 a0_2 a0_3 a0_4 a0_5 a0_6 a0_7 a1 := by kernel_rfl
theorem laws_markPackage.ok (k : Nat) : CSound Try.prog 27 (laws_markPackage.C k) :=
  csound κ_ok mixed tok (laws_markPackage.hΓ k) (LH := laws_markPackage.LH k) (fn := Try.f27) (c := bodyOf Try.f27) Try.func27 rfl Try.call27 laws_markPackage.sig [] (laws_markPackage.body k) (by kernel_rfl) (laws_markPackage.lok k) (by decide) fun vs bs lf y hl hb hy => by
    unfold laws_markPackage.body at hb
    split at hb
    · obtain ⟨_, rfl, hb_1⟩ := asO_bind hb
      obtain ⟨_, rfl, hb_2⟩ := asO_bind hb_1
      obtain ⟨_, rfl, hb_3⟩ := asO_bind hb_2
      obtain ⟨_, rfl, hb_4⟩ := asO_bind hb_3
      obtain rfl := Option.some.inj hb_4
      exact ⟨laws_markPackage.out, laws_markPackage.out_ok, (laws_markPackage.den k _ _ _ _ _ _ _ _ _).trans hy⟩
    · cases hb
/-! ### laws_markStoredS -/
def laws_markStoredS.L2 {R : Type} (k : Nat) (X0 : Int → List T_impl_Stored → Option R) (rec : Int → Int → List T_impl_Stored → Option R) (x1 : Int) (x2 : Int) (xl0 : List T_impl_Stored) : Option R :=
  (bif decide (x2 < (xl0.length : Int)) then (bif decide (0 ≤ x2) then (bif decide (x2 < (xl0.length : Int)) then (let l1 : List T_impl_Stored := (xl0.set (x2).toNat (⟨x1, (rd_impl_Stored xl0 x2).f1, (rd_impl_Stored xl0 x2).f2, (rd_impl_Stored xl0 x2).f3⟩ : T_impl_Stored)); (bif decide (0 ≤ x2) then (bif decide (x2 < (l1.length : Int)) then (let l2 : List T_impl_Stored := (l1.set (x2).toNat (⟨(rd_impl_Stored l1 x2).f0, (w64 (x1 + (1 : Int))), (rd_impl_Stored l1 x2).f2, (rd_impl_Stored l1 x2).f3⟩ : T_impl_Stored)); (bif decide (0 ≤ x2) then (bif decide (x2 < (l2.length : Int)) then (let l3 : List T_impl_Stored := (l2.set (x2).toNat (⟨(rd_impl_Stored l2 x2).f0, (rd_impl_Stored l2 x2).f1, (w64 ((w64 (x1 + (1 : Int))) + (1 : Int))), (rd_impl_Stored l2 x2).f3⟩ : T_impl_Stored)); (bif decide (0 ≤ x2) then (bif decide (x2 < (l3.length : Int)) then (let l4 : List T_impl_Stored := (l3.set (x2).toNat (⟨(rd_impl_Stored l3 x2).f0, (rd_impl_Stored l3 x2).f1, (rd_impl_Stored l3 x2).f2, (w64 ((w64 ((w64 (x1 + (1 : Int))) + (1 : Int))) + (1 : Int)))⟩ : T_impl_Stored)); (rec (w64 ((w64 ((w64 ((w64 (x1 + (1 : Int))) + (1 : Int))) + (1 : Int))) + (1 : Int))) (w64 (x2 + (1 : Int))) l4)) else none) else none)) else none) else none)) else none) else none)) else none) else none) else (X0 x1 xl0))
def laws_markStoredS.l2 {R : Type} (k : Nat) (X0 : Int → List T_impl_Stored → Option R) : Nat → Int → Int → List T_impl_Stored → Option R
  | 0 => fun _ _ _ => none
  | n + 1 => laws_markStoredS.L2 k X0 (laws_markStoredS.l2 k X0 n)
def laws_markStoredS.f (k : Nat) (a0 : List T_impl_Stored) (a1 : Int) : Option (Int × List T_impl_Stored) :=
  (laws_markStoredS.l2 k (fun (y5 : Int) (y6 : List T_impl_Stored) => some (y5, y6)) k a1 (0 : Int) a0)
def laws_markStoredS.h2 (k : Nat) {R : Type} (K : Ex → St κ → Option R) (vs : List AV) (bs : List (Blk κ)) : Option R :=
  match vs, bs with
  | [.v (.sl 0), .v (.int .i64 x1), .v (.int .i64 x2)], [qb0] => (asO 9 true qb0).bind fun xl0 => laws_markStoredS.l2 k (fun (z0 : Int) (zl0 : List T_impl_Stored) => K (.exit 0) (stOf [(1, [])] [.v (.int .i64 z0)] [.rows 9 true zl0])) k x1 x2 xl0
  | _, _ => none
def laws_markStoredS.Γ (k : Nat) : Ct κ := assoc []
def laws_markStoredS.LH (k : Nat) : Nat → Option (LHi κ) := assoc [(2, ⟨1, [(0, [some 9]), (1, []), (5, [])], [(1, [])], @laws_markStoredS.h2 k⟩)]
theorem laws_markStoredS.hΓ (k : Nat) : ∀ f g, laws_markStoredS.Γ k f = some g → CSound Try.prog f g := G_nil
theorem laws_markStoredS.e2 {R : Type} (K : Ex → St κ → Option R) (k : Nat) : ∀ (n : Nat) (x1 : Int) (x2 : Int) (xl0 : List T_impl_Stored), loopN 1 (Code.den ti (laws_markStoredS.Γ k) (laws_markStoredS.LH k) (loopAt Try.f47 0)) [(0, [some 9]), (1, []), (5, [])] [(1, [])] K n [.v (.sl 0), .v (.int .i64 x1), .v (.int .i64 x2)] [.rows 9 true xl0] = laws_markStoredS.l2 k (fun (z0 : Int) (zl0 : List T_impl_Stored) => K (.exit 0) (stOf [(1, [])] [.v (.int .i64 z0)] [.rows 9 true zl0])) n x1 x2 xl0
  | 0, _, _, _ => rfl
  | n + 1, x1, x2, xl0 => (show loopN 1 (Code.den ti (laws_markStoredS.Γ k) (laws_markStoredS.LH k) (loopAt Try.f47 0)) [(0, [some 9]), (1, []), (5, [])] [(1, [])] K (n + 1) [.v (.sl 0), .v (.int .i64 x1), .v (.int .i64 x2)] [.rows 9 true xl0] = laws_markStoredS.L2 k (fun (z0 : Int) (zl0 : List T_impl_Stored) => K (.exit 0) (stOf [(1, [])] [.v (.int .i64 z0)] [.rows 9 true zl0])) (fun (x1' : Int) (x2' : Int) (xl0' : List T_impl_Stored) => loopN 1 (Code.den ti (laws_markStoredS.Γ k) (laws_markStoredS.LH k) (loopAt Try.f47 0)) [(0, [some 9]), (1, []), (5, [])] [(1, [])] K n [.v (.sl 0), .v (.int .i64 x1'), .v (.int .i64 x2')] [.rows 9 true xl0']) x1 x2 xl0 by kernel_rfl).trans (congrArg (fun rec => laws_markStoredS.L2 k (fun (z0 : Int) (zl0 : List T_impl_Stored) => K (.exit 0) (stOf [(1, [])] [.v (.int .i64 z0)] [.rows 9 true zl0])) rec x1 x2 xl0) (funext fun x1' => funext fun x2' => funext fun xl0' => laws_markStoredS.e2 K k n x1' x2' xl0'))
theorem laws_markStoredS.q2 (k : Nat) {R : Type} (K : Ex → St κ → Option R) (vs : List AV) (bs : List (Blk κ)) (r : R) (h : laws_markStoredS.h2 k K vs bs = some r) : ∃ n, loopN 1 (Code.den ti (laws_markStoredS.Γ k) (laws_markStoredS.LH k) (loopAt Try.f47 0)) [(0, [some 9]), (1, []), (5, [])] [(1, [])] K n vs bs = some r := by
  unfold laws_markStoredS.h2 at h
  split at h
  · obtain ⟨_, rfl, h_1⟩ := asO_bind h
    exact ⟨k, (laws_markStoredS.e2 K k k _ _ _).trans h_1⟩
  · cases h
theorem laws_markStoredS.lok (k : Nat) : LOK ti (laws_markStoredS.Γ k) (laws_markStoredS.LH k) 1 (loopsOf (bodyOf Try.f47)) :=
  (show loopsOf (bodyOf Try.f47) = [loopAt Try.f47 0] by kernel_rfl) ▸ (LOK_cons (g := ⟨1, [(0, [some 9]), (1, []), (5, [])], [(1, [])], @laws_markStoredS.h2 k⟩) (by kernel_rfl) rfl (fun K vs xs r h => laws_markStoredS.q2 k K vs xs r h) (LOK_nil))
def laws_markStoredS.sig : List PSh := [.one (.rw 9), .one .sc]
def laws_markStoredS.g (y : Int × List T_impl_Stored) : Ret κ := ⟨.v (.int .i64 y.1), [.rows 9 true y.2], []⟩
def laws_markStoredS.out (r : Ret κ) : Option (Int × List T_impl_Stored) :=
  match r with
  | ⟨.v (.int .i64 z0), [q1], []⟩ => (asO 9 true q1).bind fun z1 => some (z0, z1)
  | _ => none
theorem laws_markStoredS.out_ok (r : Ret κ) (y : Int × List T_impl_Stored) (h : laws_markStoredS.out r = some y) : r = laws_markStoredS.g y := by
  unfold laws_markStoredS.out at h
  split at h
  · obtain ⟨_, rfl, h_1⟩ := asO_bind h
    obtain rfl := Option.some.inj h_1
    rfl
  · cases h
def laws_markStoredS.body (k : Nat) (vs : List AV) (bs : List (Blk κ)) : Option (Lf κ) :=
  match vs, bs with
  | [.v (.sl 0), .v (.int .i64 a1)], [qb0] => (asO 9 true qb0).bind fun a0 => some ⟨Int × List T_impl_Stored, laws_markStoredS.f k a0 a1, laws_markStoredS.g⟩
  | _, _ => none
def laws_markStoredS.C (k : Nat) : Nat → List AV → AP κ AV := contract laws_markStoredS.sig (laws_markStoredS.body k)
theorem laws_markStoredS.den (k : Nat) (a0 : List T_impl_Stored) (a1 : Int) : Code.den ti (laws_markStoredS.Γ k) (laws_markStoredS.LH k) (bodyOf Try.f47) (finK ti Try.f47.results.toList [] (flags laws_markStoredS.sig).length (rwI (flags laws_markStoredS.sig) 0) laws_markStoredS.out) ⟨envOf (([.v (.sl 0), .v (.int .i64 a1)]).zipIdx.map fun q => (q.2, q.1)), hpOf [.rows 9 true a0], (flags laws_markStoredS.sig).length⟩ = laws_markStoredS.f k a0 a1 := by kernel_rfl
theorem laws_markStoredS.ok (k : Nat) : CSound Try.prog 47 (laws_markStoredS.C k) :=
  csound κ_ok mixed tok (laws_markStoredS.hΓ k) (LH := laws_markStoredS.LH k) (fn := Try.f47) (c := bodyOf Try.f47) Try.func47 rfl Try.call47 laws_markStoredS.sig [] (laws_markStoredS.body k) (by kernel_rfl) (laws_markStoredS.lok k) (by decide) fun vs bs lf y hl hb hy => by
    unfold laws_markStoredS.body at hb
    split at hb
    · obtain ⟨_, rfl, hb_1⟩ := asO_bind hb
      obtain rfl := Option.some.inj hb_1
      exact ⟨laws_markStoredS.out, laws_markStoredS.out_ok, (laws_markStoredS.den k _ _).trans hy⟩
    · cases hb
/-! ### laws_markSnapshot -/
def laws_markSnapshot.f (k : Nat) (a0_0 : Int) (a0_1 : Int) (a0_2 : Int) (a0_3 : List T_impl_Grant) (a0_4 : List T_impl_Flow) (a0_5 : List T_impl_Rule) (a0_6 : List T_impl_Op) (a0_7 : Int) (a0_8 : List T_impl_Stored) (a1 : Int) : Option (Int × List T_impl_Grant × List T_impl_Flow × List T_impl_Rule × List T_impl_Op × List T_impl_Stored) :=
  (laws_markPackage.f k a0_0 a0_1 a0_2 a0_3 a0_4 a0_5 a0_6 a0_7 a1).bind fun t1 => (laws_markStoredS.f k a0_8 t1.1).bind fun t2 => some (t2.1, t1.2.1, t1.2.2.1, t1.2.2.2.1, t1.2.2.2.2, t2.2)
def laws_markSnapshot.Γ (k : Nat) : Ct κ := assoc [(27, laws_markPackage.C k), (47, laws_markStoredS.C k)]
def laws_markSnapshot.LH (k : Nat) : Nat → Option (LHi κ) := assoc []
theorem laws_markSnapshot.hΓ (k : Nat) : ∀ f g, laws_markSnapshot.Γ k f = some g → CSound Try.prog f g := G_cons (laws_markPackage.ok k) (G_cons (laws_markStoredS.ok k) G_nil)
theorem laws_markSnapshot.lok (k : Nat) : LOK ti (laws_markSnapshot.Γ k) (laws_markSnapshot.LH k) 5 (loopsOf (bodyOf Try.f48)) :=
  (show loopsOf (bodyOf Try.f48) = [] by kernel_rfl) ▸ LOK_nil
def laws_markSnapshot.sig : List PSh := [.agg [.sc, .sc, .sc, .rw 5, .rw 6, .rw 7, .rw 8, .sc, .rw 9], .one .sc]
def laws_markSnapshot.g (y : Int × List T_impl_Grant × List T_impl_Flow × List T_impl_Rule × List T_impl_Op × List T_impl_Stored) : Ret κ := ⟨.v (.int .i64 y.1), [.rows 5 true y.2.1, .rows 6 true y.2.2.1, .rows 7 true y.2.2.2.1, .rows 8 true y.2.2.2.2.1, .rows 9 true y.2.2.2.2.2], []⟩
def laws_markSnapshot.out (r : Ret κ) : Option (Int × List T_impl_Grant × List T_impl_Flow × List T_impl_Rule × List T_impl_Op × List T_impl_Stored) :=
  match r with
  | ⟨.v (.int .i64 z0), [q1, q2, q3, q4, q5], []⟩ => (asO 5 true q1).bind fun z1 => (asO 6 true q2).bind fun z2 => (asO 7 true q3).bind fun z3 => (asO 8 true q4).bind fun z4 => (asO 9 true q5).bind fun z5 => some (z0, z1, z2, z3, z4, z5)
  | _ => none
theorem laws_markSnapshot.out_ok (r : Ret κ) (y : Int × List T_impl_Grant × List T_impl_Flow × List T_impl_Rule × List T_impl_Op × List T_impl_Stored) (h : laws_markSnapshot.out r = some y) : r = laws_markSnapshot.g y := by
  unfold laws_markSnapshot.out at h
  split at h
  · obtain ⟨_, rfl, h_1⟩ := asO_bind h
    obtain ⟨_, rfl, h_2⟩ := asO_bind h_1
    obtain ⟨_, rfl, h_3⟩ := asO_bind h_2
    obtain ⟨_, rfl, h_4⟩ := asO_bind h_3
    obtain ⟨_, rfl, h_5⟩ := asO_bind h_4
    obtain rfl := Option.some.inj h_5
    rfl
  · cases h
def laws_markSnapshot.body (k : Nat) (vs : List AV) (bs : List (Blk κ)) : Option (Lf κ) :=
  match vs, bs with
  | [.agg [.int .i64 a0_0, .int .i64 a0_1, .int .i64 a0_2, .sl 0, .sl 1, .sl 2, .sl 3, .int .i64 a0_7, .sl 4], .v (.int .i64 a1)], [qb0, qb1, qb2, qb3, qb4] => (asO 5 true qb0).bind fun a0_3 => (asO 6 true qb1).bind fun a0_4 => (asO 7 true qb2).bind fun a0_5 => (asO 8 true qb3).bind fun a0_6 => (asO 9 true qb4).bind fun a0_8 => some ⟨Int × List T_impl_Grant × List T_impl_Flow × List T_impl_Rule × List T_impl_Op × List T_impl_Stored, laws_markSnapshot.f k a0_0 a0_1 a0_2 a0_3 a0_4 a0_5 a0_6 a0_7 a0_8 a1, laws_markSnapshot.g⟩
  | _, _ => none
def laws_markSnapshot.C (k : Nat) : Nat → List AV → AP κ AV := contract laws_markSnapshot.sig (laws_markSnapshot.body k)
theorem laws_markSnapshot.den (k : Nat) (a0_0 : Int) (a0_1 : Int) (a0_2 : Int) (a0_3 : List T_impl_Grant) (a0_4 : List T_impl_Flow) (a0_5 : List T_impl_Rule) (a0_6 : List T_impl_Op) (a0_7 : Int) (a0_8 : List T_impl_Stored) (a1 : Int) : Code.den ti (laws_markSnapshot.Γ k) (laws_markSnapshot.LH k) (bodyOf Try.f48) (finK ti Try.f48.results.toList [] (flags laws_markSnapshot.sig).length (rwI (flags laws_markSnapshot.sig) 0) laws_markSnapshot.out) ⟨envOf (([.agg [.int .i64 a0_0, .int .i64 a0_1, .int .i64 a0_2, .sl 0, .sl 1, .sl 2, .sl 3, .int .i64 a0_7, .sl 4], .v (.int .i64 a1)]).zipIdx.map fun q => (q.2, q.1)), hpOf [.rows 5 true a0_3, .rows 6 true a0_4, .rows 7 true a0_5, .rows 8 true a0_6, .rows 9 true a0_8], (flags laws_markSnapshot.sig).length⟩ = laws_markSnapshot.f k a0_0 a0_1 a0_2 a0_3 a0_4 a0_5 a0_6 a0_7 a0_8 a1 := by kernel_rfl
theorem laws_markSnapshot.ok (k : Nat) : CSound Try.prog 48 (laws_markSnapshot.C k) :=
  csound κ_ok mixed tok (laws_markSnapshot.hΓ k) (LH := laws_markSnapshot.LH k) (fn := Try.f48) (c := bodyOf Try.f48) Try.func48 rfl Try.call48 laws_markSnapshot.sig [] (laws_markSnapshot.body k) (by kernel_rfl) (laws_markSnapshot.lok k) (by decide) fun vs bs lf y hl hb hy => by
    unfold laws_markSnapshot.body at hb
    split at hb
    · obtain ⟨_, rfl, hb_1⟩ := asO_bind hb
      obtain ⟨_, rfl, hb_2⟩ := asO_bind hb_1
      obtain ⟨_, rfl, hb_3⟩ := asO_bind hb_2
      obtain ⟨_, rfl, hb_4⟩ := asO_bind hb_3
      obtain ⟨_, rfl, hb_5⟩ := asO_bind hb_4
      obtain rfl := Option.some.inj hb_5
      exact ⟨laws_markSnapshot.out, laws_markSnapshot.out_ok, (laws_markSnapshot.den k _ _ _ _ _ _ _ _ _ _).trans hy⟩
    · cases hb
/-! ### laws_heldGrantS -/
def laws_heldGrantS.L2 {R : Type} (k : Nat) (xl0 : List T_impl_Grant) (X0 : Int → Int → Option R) (X1 : Int → Option R) (rec : Int → Int → Option R) (x1 : Int) (x2 : Int) : Option R :=
  (bif decide (x2 < (xl0.length : Int)) then (bif decide (0 ≤ x2) then (bif decide (x2 < (xl0.length : Int)) then (bif ((rd_impl_Grant xl0 x2).f0 != x1) then (X0 x1 (-1 : Int)) else (bif decide (0 ≤ x2) then (bif decide (x2 < (xl0.length : Int)) then (bif ((rd_impl_Grant xl0 x2).f1.f0 != (w64 (x1 + (1 : Int)))) then (X0 (w64 (x1 + (1 : Int))) (-1 : Int)) else (bif decide (0 ≤ x2) then (bif decide (x2 < (xl0.length : Int)) then (bif ((rd_impl_Grant xl0 x2).f1.f1 != (w64 ((w64 (x1 + (1 : Int))) + (1 : Int)))) then (X0 (w64 ((w64 (x1 + (1 : Int))) + (1 : Int))) (-1 : Int)) else (bif decide (0 ≤ x2) then (bif decide (x2 < (xl0.length : Int)) then (bif ((rd_impl_Grant xl0 x2).f2 != (w64 ((w64 ((w64 (x1 + (1 : Int))) + (1 : Int))) + (1 : Int)))) then (X0 (w64 ((w64 ((w64 (x1 + (1 : Int))) + (1 : Int))) + (1 : Int))) (-1 : Int)) else (bif decide (0 ≤ x2) then (bif decide (x2 < (xl0.length : Int)) then (bif ((rd_impl_Grant xl0 x2).f3 != (w64 ((w64 ((w64 ((w64 (x1 + (1 : Int))) + (1 : Int))) + (1 : Int))) + (1 : Int)))) then (X0 (w64 ((w64 ((w64 ((w64 (x1 + (1 : Int))) + (1 : Int))) + (1 : Int))) + (1 : Int))) (-1 : Int)) else (bif decide (0 ≤ x2) then (bif decide (x2 < (xl0.length : Int)) then (bif ((rd_impl_Grant xl0 x2).f4 != (w64 ((w64 ((w64 ((w64 ((w64 (x1 + (1 : Int))) + (1 : Int))) + (1 : Int))) + (1 : Int))) + (1 : Int)))) then (X0 (w64 ((w64 ((w64 ((w64 ((w64 (x1 + (1 : Int))) + (1 : Int))) + (1 : Int))) + (1 : Int))) + (1 : Int))) (-1 : Int)) else (bif decide (0 ≤ x2) then (bif decide (x2 < (xl0.length : Int)) then (bif !(((rd_impl_Grant xl0 x2).f5) == (((w64 ((w64 ((w64 ((w64 ((w64 ((w64 (x1 + (1 : Int))) + (1 : Int))) + (1 : Int))) + (1 : Int))) + (1 : Int))) + (1 : Int))).tmod (3 : Int)) == (0 : Int))) then (X0 (w64 ((w64 ((w64 ((w64 ((w64 ((w64 (x1 + (1 : Int))) + (1 : Int))) + (1 : Int))) + (1 : Int))) + (1 : Int))) + (1 : Int))) (-1 : Int)) else (rec (w64 ((w64 ((w64 ((w64 ((w64 ((w64 ((w64 (x1 + (1 : Int))) + (1 : Int))) + (1 : Int))) + (1 : Int))) + (1 : Int))) + (1 : Int))) + (1 : Int))) (w64 (x2 + (1 : Int))))) else none) else none)) else none) else none)) else none) else none)) else none) else none)) else none) else none)) else none) else none)) else none) else none) else (X1 x1))
def laws_heldGrantS.l2 {R : Type} (k : Nat) (xl0 : List T_impl_Grant) (X0 : Int → Int → Option R) (X1 : Int → Option R) : Nat → Int → Int → Option R
  | 0 => fun _ _ => none
  | n + 1 => laws_heldGrantS.L2 k xl0 X0 X1 (laws_heldGrantS.l2 k xl0 X0 X1 n)
def laws_heldGrantS.f (k : Nat) (a0 : List T_impl_Grant) (a1 : Int) : Option Int :=
  (laws_heldGrantS.l2 k a0 (fun (y1 : Int) (y2 : Int) => some y2) (fun (y3 : Int) => some y3) k a1 (0 : Int))
def laws_heldGrantS.h2 (k : Nat) {R : Type} (K : Ex → St κ → Option R) (vs : List AV) (bs : List (Blk κ)) : Option R :=
  match vs, bs with
  | [.v (.sl 0), .v (.int .i64 x1), .v (.int .i64 x2)], [qb0] => (asO 5 false qb0).bind fun xl0 => laws_heldGrantS.l2 k xl0 (fun (z0 : Int) (z1 : Int) => K .ret (stOf [(1, []), (4, [])] [.v (.int .i64 z0), .v (.int .i64 z1)] [.rows 5 false xl0])) (fun (z0 : Int) => K (.exit 0) (stOf [(1, []), (4, [])] [.v (.int .i64 z0), .v .any] [.rows 5 false xl0])) k x1 x2
  | _, _ => none
def laws_heldGrantS.Γ (k : Nat) : Ct κ := assoc []
def laws_heldGrantS.LH (k : Nat) : Nat → Option (LHi κ) := assoc [(2, ⟨1, [(0, [some 5]), (1, []), (5, [])], [(1, []), (4, [])], @laws_heldGrantS.h2 k⟩)]
theorem laws_heldGrantS.hΓ (k : Nat) : ∀ f g, laws_heldGrantS.Γ k f = some g → CSound Try.prog f g := G_nil
theorem laws_heldGrantS.e2 {R : Type} (K : Ex → St κ → Option R) (k : Nat) (xl0 : List T_impl_Grant) : ∀ (n : Nat) (x1 : Int) (x2 : Int), loopN 1 (Code.den ti (laws_heldGrantS.Γ k) (laws_heldGrantS.LH k) (loopAt Try.f29 0)) [(0, [some 5]), (1, []), (5, [])] [(1, []), (4, [])] K n [.v (.sl 0), .v (.int .i64 x1), .v (.int .i64 x2)] [.rows 5 false xl0] = laws_heldGrantS.l2 k xl0 (fun (z0 : Int) (z1 : Int) => K .ret (stOf [(1, []), (4, [])] [.v (.int .i64 z0), .v (.int .i64 z1)] [.rows 5 false xl0])) (fun (z0 : Int) => K (.exit 0) (stOf [(1, []), (4, [])] [.v (.int .i64 z0), .v .any] [.rows 5 false xl0])) n x1 x2
  | 0, _, _ => rfl
  | n + 1, x1, x2 => (show loopN 1 (Code.den ti (laws_heldGrantS.Γ k) (laws_heldGrantS.LH k) (loopAt Try.f29 0)) [(0, [some 5]), (1, []), (5, [])] [(1, []), (4, [])] K (n + 1) [.v (.sl 0), .v (.int .i64 x1), .v (.int .i64 x2)] [.rows 5 false xl0] = laws_heldGrantS.L2 k xl0 (fun (z0 : Int) (z1 : Int) => K .ret (stOf [(1, []), (4, [])] [.v (.int .i64 z0), .v (.int .i64 z1)] [.rows 5 false xl0])) (fun (z0 : Int) => K (.exit 0) (stOf [(1, []), (4, [])] [.v (.int .i64 z0), .v .any] [.rows 5 false xl0])) (fun (x1' : Int) (x2' : Int) => loopN 1 (Code.den ti (laws_heldGrantS.Γ k) (laws_heldGrantS.LH k) (loopAt Try.f29 0)) [(0, [some 5]), (1, []), (5, [])] [(1, []), (4, [])] K n [.v (.sl 0), .v (.int .i64 x1'), .v (.int .i64 x2')] [.rows 5 false xl0]) x1 x2 by kernel_rfl).trans (congrArg (fun rec => laws_heldGrantS.L2 k xl0 (fun (z0 : Int) (z1 : Int) => K .ret (stOf [(1, []), (4, [])] [.v (.int .i64 z0), .v (.int .i64 z1)] [.rows 5 false xl0])) (fun (z0 : Int) => K (.exit 0) (stOf [(1, []), (4, [])] [.v (.int .i64 z0), .v .any] [.rows 5 false xl0])) rec x1 x2) (funext fun x1' => funext fun x2' => laws_heldGrantS.e2 K k xl0 n x1' x2'))
theorem laws_heldGrantS.q2 (k : Nat) {R : Type} (K : Ex → St κ → Option R) (vs : List AV) (bs : List (Blk κ)) (r : R) (h : laws_heldGrantS.h2 k K vs bs = some r) : ∃ n, loopN 1 (Code.den ti (laws_heldGrantS.Γ k) (laws_heldGrantS.LH k) (loopAt Try.f29 0)) [(0, [some 5]), (1, []), (5, [])] [(1, []), (4, [])] K n vs bs = some r := by
  unfold laws_heldGrantS.h2 at h
  split at h
  · obtain ⟨_, rfl, h_1⟩ := asO_bind h
    exact ⟨k, (laws_heldGrantS.e2 K k _ k _ _).trans h_1⟩
  · cases h
theorem laws_heldGrantS.lok (k : Nat) : LOK ti (laws_heldGrantS.Γ k) (laws_heldGrantS.LH k) 1 (loopsOf (bodyOf Try.f29)) :=
  (show loopsOf (bodyOf Try.f29) = [loopAt Try.f29 0] by kernel_rfl) ▸ (LOK_cons (g := ⟨1, [(0, [some 5]), (1, []), (5, [])], [(1, []), (4, [])], @laws_heldGrantS.h2 k⟩) (by kernel_rfl) rfl (fun K vs xs r h => laws_heldGrantS.q2 k K vs xs r h) (LOK_nil))
def laws_heldGrantS.sig : List PSh := [.one (.ro 5), .one .sc]
def laws_heldGrantS.g (y : Int) : Ret κ := ⟨.v (.int .i64 y), [], []⟩
def laws_heldGrantS.out (r : Ret κ) : Option Int :=
  match r with
  | ⟨.v (.int .i64 z0), [], []⟩ => some (z0)
  | _ => none
theorem laws_heldGrantS.out_ok (r : Ret κ) (y : Int) (h : laws_heldGrantS.out r = some y) : r = laws_heldGrantS.g y := by
  unfold laws_heldGrantS.out at h
  split at h
  · obtain rfl := Option.some.inj h
    rfl
  · cases h
def laws_heldGrantS.body (k : Nat) (vs : List AV) (bs : List (Blk κ)) : Option (Lf κ) :=
  match vs, bs with
  | [.v (.sl 0), .v (.int .i64 a1)], [qb0] => (asO 5 false qb0).bind fun a0 => some ⟨Int, laws_heldGrantS.f k a0 a1, laws_heldGrantS.g⟩
  | _, _ => none
def laws_heldGrantS.C (k : Nat) : Nat → List AV → AP κ AV := contract laws_heldGrantS.sig (laws_heldGrantS.body k)
theorem laws_heldGrantS.den (k : Nat) (a0 : List T_impl_Grant) (a1 : Int) : Code.den ti (laws_heldGrantS.Γ k) (laws_heldGrantS.LH k) (bodyOf Try.f29) (finK ti Try.f29.results.toList [] (flags laws_heldGrantS.sig).length (rwI (flags laws_heldGrantS.sig) 0) laws_heldGrantS.out) ⟨envOf (([.v (.sl 0), .v (.int .i64 a1)]).zipIdx.map fun q => (q.2, q.1)), hpOf [.rows 5 false a0], (flags laws_heldGrantS.sig).length⟩ = laws_heldGrantS.f k a0 a1 := by kernel_rfl
theorem laws_heldGrantS.ok (k : Nat) : CSound Try.prog 29 (laws_heldGrantS.C k) :=
  csound κ_ok mixed tok (laws_heldGrantS.hΓ k) (LH := laws_heldGrantS.LH k) (fn := Try.f29) (c := bodyOf Try.f29) Try.func29 rfl Try.call29 laws_heldGrantS.sig [] (laws_heldGrantS.body k) (by kernel_rfl) (laws_heldGrantS.lok k) (by decide) fun vs bs lf y hl hb hy => by
    unfold laws_heldGrantS.body at hb
    split at hb
    · obtain ⟨_, rfl, hb_1⟩ := asO_bind hb
      obtain rfl := Option.some.inj hb_1
      exact ⟨laws_heldGrantS.out, laws_heldGrantS.out_ok, (laws_heldGrantS.den k _ _).trans hy⟩
    · cases hb
/-! ### laws_heldFlowS -/
def laws_heldFlowS.L2 {R : Type} (k : Nat) (xl0 : List T_impl_Flow) (X0 : Int → Int → Option R) (X1 : Int → Option R) (rec : Int → Int → Option R) (x1 : Int) (x2 : Int) : Option R :=
  (bif decide (x2 < (xl0.length : Int)) then (bif decide (0 ≤ x2) then (bif decide (x2 < (xl0.length : Int)) then (bif ((rd_impl_Flow xl0 x2).f0 != x1) then (X0 x1 (-1 : Int)) else (bif decide (0 ≤ x2) then (bif decide (x2 < (xl0.length : Int)) then (bif ((rd_impl_Flow xl0 x2).f1 != (w64 (x1 + (1 : Int)))) then (X0 (w64 (x1 + (1 : Int))) (-1 : Int)) else (bif decide (0 ≤ x2) then (bif decide (x2 < (xl0.length : Int)) then (bif ((rd_impl_Flow xl0 x2).f2 != (w64 ((w64 (x1 + (1 : Int))) + (1 : Int)))) then (X0 (w64 ((w64 (x1 + (1 : Int))) + (1 : Int))) (-1 : Int)) else (rec (w64 ((w64 ((w64 (x1 + (1 : Int))) + (1 : Int))) + (1 : Int))) (w64 (x2 + (1 : Int))))) else none) else none)) else none) else none)) else none) else none) else (X1 x1))
def laws_heldFlowS.l2 {R : Type} (k : Nat) (xl0 : List T_impl_Flow) (X0 : Int → Int → Option R) (X1 : Int → Option R) : Nat → Int → Int → Option R
  | 0 => fun _ _ => none
  | n + 1 => laws_heldFlowS.L2 k xl0 X0 X1 (laws_heldFlowS.l2 k xl0 X0 X1 n)
def laws_heldFlowS.f (k : Nat) (a0 : List T_impl_Flow) (a1 : Int) : Option Int :=
  (laws_heldFlowS.l2 k a0 (fun (y1 : Int) (y2 : Int) => some y2) (fun (y3 : Int) => some y3) k a1 (0 : Int))
def laws_heldFlowS.h2 (k : Nat) {R : Type} (K : Ex → St κ → Option R) (vs : List AV) (bs : List (Blk κ)) : Option R :=
  match vs, bs with
  | [.v (.sl 0), .v (.int .i64 x1), .v (.int .i64 x2)], [qb0] => (asO 6 false qb0).bind fun xl0 => laws_heldFlowS.l2 k xl0 (fun (z0 : Int) (z1 : Int) => K .ret (stOf [(1, []), (4, [])] [.v (.int .i64 z0), .v (.int .i64 z1)] [.rows 6 false xl0])) (fun (z0 : Int) => K (.exit 0) (stOf [(1, []), (4, [])] [.v (.int .i64 z0), .v .any] [.rows 6 false xl0])) k x1 x2
  | _, _ => none
def laws_heldFlowS.Γ (k : Nat) : Ct κ := assoc []
def laws_heldFlowS.LH (k : Nat) : Nat → Option (LHi κ) := assoc [(2, ⟨1, [(0, [some 6]), (1, []), (5, [])], [(1, []), (4, [])], @laws_heldFlowS.h2 k⟩)]
theorem laws_heldFlowS.hΓ (k : Nat) : ∀ f g, laws_heldFlowS.Γ k f = some g → CSound Try.prog f g := G_nil
theorem laws_heldFlowS.e2 {R : Type} (K : Ex → St κ → Option R) (k : Nat) (xl0 : List T_impl_Flow) : ∀ (n : Nat) (x1 : Int) (x2 : Int), loopN 1 (Code.den ti (laws_heldFlowS.Γ k) (laws_heldFlowS.LH k) (loopAt Try.f100 0)) [(0, [some 6]), (1, []), (5, [])] [(1, []), (4, [])] K n [.v (.sl 0), .v (.int .i64 x1), .v (.int .i64 x2)] [.rows 6 false xl0] = laws_heldFlowS.l2 k xl0 (fun (z0 : Int) (z1 : Int) => K .ret (stOf [(1, []), (4, [])] [.v (.int .i64 z0), .v (.int .i64 z1)] [.rows 6 false xl0])) (fun (z0 : Int) => K (.exit 0) (stOf [(1, []), (4, [])] [.v (.int .i64 z0), .v .any] [.rows 6 false xl0])) n x1 x2
  | 0, _, _ => rfl
  | n + 1, x1, x2 => (show loopN 1 (Code.den ti (laws_heldFlowS.Γ k) (laws_heldFlowS.LH k) (loopAt Try.f100 0)) [(0, [some 6]), (1, []), (5, [])] [(1, []), (4, [])] K (n + 1) [.v (.sl 0), .v (.int .i64 x1), .v (.int .i64 x2)] [.rows 6 false xl0] = laws_heldFlowS.L2 k xl0 (fun (z0 : Int) (z1 : Int) => K .ret (stOf [(1, []), (4, [])] [.v (.int .i64 z0), .v (.int .i64 z1)] [.rows 6 false xl0])) (fun (z0 : Int) => K (.exit 0) (stOf [(1, []), (4, [])] [.v (.int .i64 z0), .v .any] [.rows 6 false xl0])) (fun (x1' : Int) (x2' : Int) => loopN 1 (Code.den ti (laws_heldFlowS.Γ k) (laws_heldFlowS.LH k) (loopAt Try.f100 0)) [(0, [some 6]), (1, []), (5, [])] [(1, []), (4, [])] K n [.v (.sl 0), .v (.int .i64 x1'), .v (.int .i64 x2')] [.rows 6 false xl0]) x1 x2 by kernel_rfl).trans (congrArg (fun rec => laws_heldFlowS.L2 k xl0 (fun (z0 : Int) (z1 : Int) => K .ret (stOf [(1, []), (4, [])] [.v (.int .i64 z0), .v (.int .i64 z1)] [.rows 6 false xl0])) (fun (z0 : Int) => K (.exit 0) (stOf [(1, []), (4, [])] [.v (.int .i64 z0), .v .any] [.rows 6 false xl0])) rec x1 x2) (funext fun x1' => funext fun x2' => laws_heldFlowS.e2 K k xl0 n x1' x2'))
theorem laws_heldFlowS.q2 (k : Nat) {R : Type} (K : Ex → St κ → Option R) (vs : List AV) (bs : List (Blk κ)) (r : R) (h : laws_heldFlowS.h2 k K vs bs = some r) : ∃ n, loopN 1 (Code.den ti (laws_heldFlowS.Γ k) (laws_heldFlowS.LH k) (loopAt Try.f100 0)) [(0, [some 6]), (1, []), (5, [])] [(1, []), (4, [])] K n vs bs = some r := by
  unfold laws_heldFlowS.h2 at h
  split at h
  · obtain ⟨_, rfl, h_1⟩ := asO_bind h
    exact ⟨k, (laws_heldFlowS.e2 K k _ k _ _).trans h_1⟩
  · cases h
theorem laws_heldFlowS.lok (k : Nat) : LOK ti (laws_heldFlowS.Γ k) (laws_heldFlowS.LH k) 1 (loopsOf (bodyOf Try.f100)) :=
  (show loopsOf (bodyOf Try.f100) = [loopAt Try.f100 0] by kernel_rfl) ▸ (LOK_cons (g := ⟨1, [(0, [some 6]), (1, []), (5, [])], [(1, []), (4, [])], @laws_heldFlowS.h2 k⟩) (by kernel_rfl) rfl (fun K vs xs r h => laws_heldFlowS.q2 k K vs xs r h) (LOK_nil))
def laws_heldFlowS.sig : List PSh := [.one (.ro 6), .one .sc]
def laws_heldFlowS.g (y : Int) : Ret κ := ⟨.v (.int .i64 y), [], []⟩
def laws_heldFlowS.out (r : Ret κ) : Option Int :=
  match r with
  | ⟨.v (.int .i64 z0), [], []⟩ => some (z0)
  | _ => none
theorem laws_heldFlowS.out_ok (r : Ret κ) (y : Int) (h : laws_heldFlowS.out r = some y) : r = laws_heldFlowS.g y := by
  unfold laws_heldFlowS.out at h
  split at h
  · obtain rfl := Option.some.inj h
    rfl
  · cases h
def laws_heldFlowS.body (k : Nat) (vs : List AV) (bs : List (Blk κ)) : Option (Lf κ) :=
  match vs, bs with
  | [.v (.sl 0), .v (.int .i64 a1)], [qb0] => (asO 6 false qb0).bind fun a0 => some ⟨Int, laws_heldFlowS.f k a0 a1, laws_heldFlowS.g⟩
  | _, _ => none
def laws_heldFlowS.C (k : Nat) : Nat → List AV → AP κ AV := contract laws_heldFlowS.sig (laws_heldFlowS.body k)
theorem laws_heldFlowS.den (k : Nat) (a0 : List T_impl_Flow) (a1 : Int) : Code.den ti (laws_heldFlowS.Γ k) (laws_heldFlowS.LH k) (bodyOf Try.f100) (finK ti Try.f100.results.toList [] (flags laws_heldFlowS.sig).length (rwI (flags laws_heldFlowS.sig) 0) laws_heldFlowS.out) ⟨envOf (([.v (.sl 0), .v (.int .i64 a1)]).zipIdx.map fun q => (q.2, q.1)), hpOf [.rows 6 false a0], (flags laws_heldFlowS.sig).length⟩ = laws_heldFlowS.f k a0 a1 := by kernel_rfl
theorem laws_heldFlowS.ok (k : Nat) : CSound Try.prog 100 (laws_heldFlowS.C k) :=
  csound κ_ok mixed tok (laws_heldFlowS.hΓ k) (LH := laws_heldFlowS.LH k) (fn := Try.f100) (c := bodyOf Try.f100) Try.func100 rfl Try.call100 laws_heldFlowS.sig [] (laws_heldFlowS.body k) (by kernel_rfl) (laws_heldFlowS.lok k) (by decide) fun vs bs lf y hl hb hy => by
    unfold laws_heldFlowS.body at hb
    split at hb
    · obtain ⟨_, rfl, hb_1⟩ := asO_bind hb
      obtain rfl := Option.some.inj hb_1
      exact ⟨laws_heldFlowS.out, laws_heldFlowS.out_ok, (laws_heldFlowS.den k _ _).trans hy⟩
    · cases hb
/-! ### laws_heldRuleS -/
def laws_heldRuleS.L2 {R : Type} (k : Nat) (xl0 : List T_impl_Rule) (X0 : Int → Int → Option R) (X1 : Int → Option R) (rec : Int → Int → Option R) (x1 : Int) (x2 : Int) : Option R :=
  (bif decide (x2 < (xl0.length : Int)) then (bif decide (0 ≤ x2) then (bif decide (x2 < (xl0.length : Int)) then (bif ((rd_impl_Rule xl0 x2).f0 != x1) then (X0 x1 (-1 : Int)) else (bif decide (0 ≤ x2) then (bif decide (x2 < (xl0.length : Int)) then (bif ((rd_impl_Rule xl0 x2).f1 != (w64 (x1 + (1 : Int)))) then (X0 (w64 (x1 + (1 : Int))) (-1 : Int)) else (bif decide (0 ≤ x2) then (bif decide (x2 < (xl0.length : Int)) then (bif ((rd_impl_Rule xl0 x2).f2.f0 != (w64 ((w64 (x1 + (1 : Int))) + (1 : Int)))) then (X0 (w64 ((w64 (x1 + (1 : Int))) + (1 : Int))) (-1 : Int)) else (bif decide (0 ≤ x2) then (bif decide (x2 < (xl0.length : Int)) then (bif ((rd_impl_Rule xl0 x2).f2.f1 != (w64 ((w64 ((w64 (x1 + (1 : Int))) + (1 : Int))) + (1 : Int)))) then (X0 (w64 ((w64 ((w64 (x1 + (1 : Int))) + (1 : Int))) + (1 : Int))) (-1 : Int)) else (bif decide (0 ≤ x2) then (bif decide (x2 < (xl0.length : Int)) then (bif ((rd_impl_Rule xl0 x2).f3 != (w64 ((w64 ((w64 ((w64 (x1 + (1 : Int))) + (1 : Int))) + (1 : Int))) + (1 : Int)))) then (X0 (w64 ((w64 ((w64 ((w64 (x1 + (1 : Int))) + (1 : Int))) + (1 : Int))) + (1 : Int))) (-1 : Int)) else (bif decide (0 ≤ x2) then (bif decide (x2 < (xl0.length : Int)) then (bif ((rd_impl_Rule xl0 x2).f4 != (w64 ((w64 ((w64 ((w64 ((w64 (x1 + (1 : Int))) + (1 : Int))) + (1 : Int))) + (1 : Int))) + (1 : Int)))) then (X0 (w64 ((w64 ((w64 ((w64 ((w64 (x1 + (1 : Int))) + (1 : Int))) + (1 : Int))) + (1 : Int))) + (1 : Int))) (-1 : Int)) else (bif decide (0 ≤ x2) then (bif decide (x2 < (xl0.length : Int)) then (bif ((rd_impl_Rule xl0 x2).f5.f0 != (w64 ((w64 ((w64 ((w64 ((w64 ((w64 (x1 + (1 : Int))) + (1 : Int))) + (1 : Int))) + (1 : Int))) + (1 : Int))) + (1 : Int)))) then (X0 (w64 ((w64 ((w64 ((w64 ((w64 ((w64 (x1 + (1 : Int))) + (1 : Int))) + (1 : Int))) + (1 : Int))) + (1 : Int))) + (1 : Int))) (-1 : Int)) else (bif decide (0 ≤ x2) then (bif decide (x2 < (xl0.length : Int)) then (bif ((rd_impl_Rule xl0 x2).f5.f1 != (w64 ((w64 ((w64 ((w64 ((w64 ((w64 ((w64 (x1 + (1 : Int))) + (1 : Int))) + (1 : Int))) + (1 : Int))) + (1 : Int))) + (1 : Int))) + (1 : Int)))) then (X0 (w64 ((w64 ((w64 ((w64 ((w64 ((w64 ((w64 (x1 + (1 : Int))) + (1 : Int))) + (1 : Int))) + (1 : Int))) + (1 : Int))) + (1 : Int))) + (1 : Int))) (-1 : Int)) else (rec (w64 ((w64 ((w64 ((w64 ((w64 ((w64 ((w64 ((w64 (x1 + (1 : Int))) + (1 : Int))) + (1 : Int))) + (1 : Int))) + (1 : Int))) + (1 : Int))) + (1 : Int))) + (1 : Int))) (w64 (x2 + (1 : Int))))) else none) else none)) else none) else none)) else none) else none)) else none) else none)) else none) else none)) else none) else none)) else none) else none)) else none) else none) else (X1 x1))
def laws_heldRuleS.l2 {R : Type} (k : Nat) (xl0 : List T_impl_Rule) (X0 : Int → Int → Option R) (X1 : Int → Option R) : Nat → Int → Int → Option R
  | 0 => fun _ _ => none
  | n + 1 => laws_heldRuleS.L2 k xl0 X0 X1 (laws_heldRuleS.l2 k xl0 X0 X1 n)
def laws_heldRuleS.f (k : Nat) (a0 : List T_impl_Rule) (a1 : Int) : Option Int :=
  (laws_heldRuleS.l2 k a0 (fun (y1 : Int) (y2 : Int) => some y2) (fun (y3 : Int) => some y3) k a1 (0 : Int))
def laws_heldRuleS.h2 (k : Nat) {R : Type} (K : Ex → St κ → Option R) (vs : List AV) (bs : List (Blk κ)) : Option R :=
  match vs, bs with
  | [.v (.sl 0), .v (.int .i64 x1), .v (.int .i64 x2)], [qb0] => (asO 7 false qb0).bind fun xl0 => laws_heldRuleS.l2 k xl0 (fun (z0 : Int) (z1 : Int) => K .ret (stOf [(1, []), (4, [])] [.v (.int .i64 z0), .v (.int .i64 z1)] [.rows 7 false xl0])) (fun (z0 : Int) => K (.exit 0) (stOf [(1, []), (4, [])] [.v (.int .i64 z0), .v .any] [.rows 7 false xl0])) k x1 x2
  | _, _ => none
def laws_heldRuleS.Γ (k : Nat) : Ct κ := assoc []
def laws_heldRuleS.LH (k : Nat) : Nat → Option (LHi κ) := assoc [(2, ⟨1, [(0, [some 7]), (1, []), (5, [])], [(1, []), (4, [])], @laws_heldRuleS.h2 k⟩)]
theorem laws_heldRuleS.hΓ (k : Nat) : ∀ f g, laws_heldRuleS.Γ k f = some g → CSound Try.prog f g := G_nil
theorem laws_heldRuleS.e2 {R : Type} (K : Ex → St κ → Option R) (k : Nat) (xl0 : List T_impl_Rule) : ∀ (n : Nat) (x1 : Int) (x2 : Int), loopN 1 (Code.den ti (laws_heldRuleS.Γ k) (laws_heldRuleS.LH k) (loopAt Try.f101 0)) [(0, [some 7]), (1, []), (5, [])] [(1, []), (4, [])] K n [.v (.sl 0), .v (.int .i64 x1), .v (.int .i64 x2)] [.rows 7 false xl0] = laws_heldRuleS.l2 k xl0 (fun (z0 : Int) (z1 : Int) => K .ret (stOf [(1, []), (4, [])] [.v (.int .i64 z0), .v (.int .i64 z1)] [.rows 7 false xl0])) (fun (z0 : Int) => K (.exit 0) (stOf [(1, []), (4, [])] [.v (.int .i64 z0), .v .any] [.rows 7 false xl0])) n x1 x2
  | 0, _, _ => rfl
  | n + 1, x1, x2 => (show loopN 1 (Code.den ti (laws_heldRuleS.Γ k) (laws_heldRuleS.LH k) (loopAt Try.f101 0)) [(0, [some 7]), (1, []), (5, [])] [(1, []), (4, [])] K (n + 1) [.v (.sl 0), .v (.int .i64 x1), .v (.int .i64 x2)] [.rows 7 false xl0] = laws_heldRuleS.L2 k xl0 (fun (z0 : Int) (z1 : Int) => K .ret (stOf [(1, []), (4, [])] [.v (.int .i64 z0), .v (.int .i64 z1)] [.rows 7 false xl0])) (fun (z0 : Int) => K (.exit 0) (stOf [(1, []), (4, [])] [.v (.int .i64 z0), .v .any] [.rows 7 false xl0])) (fun (x1' : Int) (x2' : Int) => loopN 1 (Code.den ti (laws_heldRuleS.Γ k) (laws_heldRuleS.LH k) (loopAt Try.f101 0)) [(0, [some 7]), (1, []), (5, [])] [(1, []), (4, [])] K n [.v (.sl 0), .v (.int .i64 x1'), .v (.int .i64 x2')] [.rows 7 false xl0]) x1 x2 by kernel_rfl).trans (congrArg (fun rec => laws_heldRuleS.L2 k xl0 (fun (z0 : Int) (z1 : Int) => K .ret (stOf [(1, []), (4, [])] [.v (.int .i64 z0), .v (.int .i64 z1)] [.rows 7 false xl0])) (fun (z0 : Int) => K (.exit 0) (stOf [(1, []), (4, [])] [.v (.int .i64 z0), .v .any] [.rows 7 false xl0])) rec x1 x2) (funext fun x1' => funext fun x2' => laws_heldRuleS.e2 K k xl0 n x1' x2'))
theorem laws_heldRuleS.q2 (k : Nat) {R : Type} (K : Ex → St κ → Option R) (vs : List AV) (bs : List (Blk κ)) (r : R) (h : laws_heldRuleS.h2 k K vs bs = some r) : ∃ n, loopN 1 (Code.den ti (laws_heldRuleS.Γ k) (laws_heldRuleS.LH k) (loopAt Try.f101 0)) [(0, [some 7]), (1, []), (5, [])] [(1, []), (4, [])] K n vs bs = some r := by
  unfold laws_heldRuleS.h2 at h
  split at h
  · obtain ⟨_, rfl, h_1⟩ := asO_bind h
    exact ⟨k, (laws_heldRuleS.e2 K k _ k _ _).trans h_1⟩
  · cases h
theorem laws_heldRuleS.lok (k : Nat) : LOK ti (laws_heldRuleS.Γ k) (laws_heldRuleS.LH k) 1 (loopsOf (bodyOf Try.f101)) :=
  (show loopsOf (bodyOf Try.f101) = [loopAt Try.f101 0] by kernel_rfl) ▸ (LOK_cons (g := ⟨1, [(0, [some 7]), (1, []), (5, [])], [(1, []), (4, [])], @laws_heldRuleS.h2 k⟩) (by kernel_rfl) rfl (fun K vs xs r h => laws_heldRuleS.q2 k K vs xs r h) (LOK_nil))
def laws_heldRuleS.sig : List PSh := [.one (.ro 7), .one .sc]
def laws_heldRuleS.g (y : Int) : Ret κ := ⟨.v (.int .i64 y), [], []⟩
def laws_heldRuleS.out (r : Ret κ) : Option Int :=
  match r with
  | ⟨.v (.int .i64 z0), [], []⟩ => some (z0)
  | _ => none
theorem laws_heldRuleS.out_ok (r : Ret κ) (y : Int) (h : laws_heldRuleS.out r = some y) : r = laws_heldRuleS.g y := by
  unfold laws_heldRuleS.out at h
  split at h
  · obtain rfl := Option.some.inj h
    rfl
  · cases h
def laws_heldRuleS.body (k : Nat) (vs : List AV) (bs : List (Blk κ)) : Option (Lf κ) :=
  match vs, bs with
  | [.v (.sl 0), .v (.int .i64 a1)], [qb0] => (asO 7 false qb0).bind fun a0 => some ⟨Int, laws_heldRuleS.f k a0 a1, laws_heldRuleS.g⟩
  | _, _ => none
def laws_heldRuleS.C (k : Nat) : Nat → List AV → AP κ AV := contract laws_heldRuleS.sig (laws_heldRuleS.body k)
theorem laws_heldRuleS.den (k : Nat) (a0 : List T_impl_Rule) (a1 : Int) : Code.den ti (laws_heldRuleS.Γ k) (laws_heldRuleS.LH k) (bodyOf Try.f101) (finK ti Try.f101.results.toList [] (flags laws_heldRuleS.sig).length (rwI (flags laws_heldRuleS.sig) 0) laws_heldRuleS.out) ⟨envOf (([.v (.sl 0), .v (.int .i64 a1)]).zipIdx.map fun q => (q.2, q.1)), hpOf [.rows 7 false a0], (flags laws_heldRuleS.sig).length⟩ = laws_heldRuleS.f k a0 a1 := by kernel_rfl
theorem laws_heldRuleS.ok (k : Nat) : CSound Try.prog 101 (laws_heldRuleS.C k) :=
  csound κ_ok mixed tok (laws_heldRuleS.hΓ k) (LH := laws_heldRuleS.LH k) (fn := Try.f101) (c := bodyOf Try.f101) Try.func101 rfl Try.call101 laws_heldRuleS.sig [] (laws_heldRuleS.body k) (by kernel_rfl) (laws_heldRuleS.lok k) (by decide) fun vs bs lf y hl hb hy => by
    unfold laws_heldRuleS.body at hb
    split at hb
    · obtain ⟨_, rfl, hb_1⟩ := asO_bind hb
      obtain rfl := Option.some.inj hb_1
      exact ⟨laws_heldRuleS.out, laws_heldRuleS.out_ok, (laws_heldRuleS.den k _ _).trans hy⟩
    · cases hb
/-! ### laws_heldOpS -/
def laws_heldOpS.L2 {R : Type} (k : Nat) (xl0 : List T_impl_Op) (X0 : Int → Int → Option R) (X1 : Int → Option R) (rec : Int → Int → Option R) (x1 : Int) (x2 : Int) : Option R :=
  (bif decide (x2 < (xl0.length : Int)) then (bif decide (0 ≤ x2) then (bif decide (x2 < (xl0.length : Int)) then (bif ((rd_impl_Op xl0 x2).f0 != x1) then (X0 x1 (-1 : Int)) else (bif decide (0 ≤ x2) then (bif decide (x2 < (xl0.length : Int)) then (bif ((rd_impl_Op xl0 x2).f1 != (w64 (x1 + (1 : Int)))) then (X0 (w64 (x1 + (1 : Int))) (-1 : Int)) else (bif decide (0 ≤ x2) then (bif decide (x2 < (xl0.length : Int)) then (bif ((rd_impl_Op xl0 x2).f2 != (w64 ((w64 (x1 + (1 : Int))) + (1 : Int)))) then (X0 (w64 ((w64 (x1 + (1 : Int))) + (1 : Int))) (-1 : Int)) else (bif decide (0 ≤ x2) then (bif decide (x2 < (xl0.length : Int)) then (bif ((rd_impl_Op xl0 x2).f3 != (w64 ((w64 ((w64 (x1 + (1 : Int))) + (1 : Int))) + (1 : Int)))) then (X0 (w64 ((w64 ((w64 (x1 + (1 : Int))) + (1 : Int))) + (1 : Int))) (-1 : Int)) else (rec (w64 ((w64 ((w64 ((w64 (x1 + (1 : Int))) + (1 : Int))) + (1 : Int))) + (1 : Int))) (w64 (x2 + (1 : Int))))) else none) else none)) else none) else none)) else none) else none)) else none) else none) else (X1 x1))
def laws_heldOpS.l2 {R : Type} (k : Nat) (xl0 : List T_impl_Op) (X0 : Int → Int → Option R) (X1 : Int → Option R) : Nat → Int → Int → Option R
  | 0 => fun _ _ => none
  | n + 1 => laws_heldOpS.L2 k xl0 X0 X1 (laws_heldOpS.l2 k xl0 X0 X1 n)
def laws_heldOpS.f (k : Nat) (a0 : List T_impl_Op) (a1 : Int) : Option Int :=
  (laws_heldOpS.l2 k a0 (fun (y1 : Int) (y2 : Int) => some y2) (fun (y3 : Int) => some y3) k a1 (0 : Int))
def laws_heldOpS.h2 (k : Nat) {R : Type} (K : Ex → St κ → Option R) (vs : List AV) (bs : List (Blk κ)) : Option R :=
  match vs, bs with
  | [.v (.sl 0), .v (.int .i64 x1), .v (.int .i64 x2)], [qb0] => (asO 8 false qb0).bind fun xl0 => laws_heldOpS.l2 k xl0 (fun (z0 : Int) (z1 : Int) => K .ret (stOf [(1, []), (4, [])] [.v (.int .i64 z0), .v (.int .i64 z1)] [.rows 8 false xl0])) (fun (z0 : Int) => K (.exit 0) (stOf [(1, []), (4, [])] [.v (.int .i64 z0), .v .any] [.rows 8 false xl0])) k x1 x2
  | _, _ => none
def laws_heldOpS.Γ (k : Nat) : Ct κ := assoc []
def laws_heldOpS.LH (k : Nat) : Nat → Option (LHi κ) := assoc [(2, ⟨1, [(0, [some 8]), (1, []), (5, [])], [(1, []), (4, [])], @laws_heldOpS.h2 k⟩)]
theorem laws_heldOpS.hΓ (k : Nat) : ∀ f g, laws_heldOpS.Γ k f = some g → CSound Try.prog f g := G_nil
theorem laws_heldOpS.e2 {R : Type} (K : Ex → St κ → Option R) (k : Nat) (xl0 : List T_impl_Op) : ∀ (n : Nat) (x1 : Int) (x2 : Int), loopN 1 (Code.den ti (laws_heldOpS.Γ k) (laws_heldOpS.LH k) (loopAt Try.f102 0)) [(0, [some 8]), (1, []), (5, [])] [(1, []), (4, [])] K n [.v (.sl 0), .v (.int .i64 x1), .v (.int .i64 x2)] [.rows 8 false xl0] = laws_heldOpS.l2 k xl0 (fun (z0 : Int) (z1 : Int) => K .ret (stOf [(1, []), (4, [])] [.v (.int .i64 z0), .v (.int .i64 z1)] [.rows 8 false xl0])) (fun (z0 : Int) => K (.exit 0) (stOf [(1, []), (4, [])] [.v (.int .i64 z0), .v .any] [.rows 8 false xl0])) n x1 x2
  | 0, _, _ => rfl
  | n + 1, x1, x2 => (show loopN 1 (Code.den ti (laws_heldOpS.Γ k) (laws_heldOpS.LH k) (loopAt Try.f102 0)) [(0, [some 8]), (1, []), (5, [])] [(1, []), (4, [])] K (n + 1) [.v (.sl 0), .v (.int .i64 x1), .v (.int .i64 x2)] [.rows 8 false xl0] = laws_heldOpS.L2 k xl0 (fun (z0 : Int) (z1 : Int) => K .ret (stOf [(1, []), (4, [])] [.v (.int .i64 z0), .v (.int .i64 z1)] [.rows 8 false xl0])) (fun (z0 : Int) => K (.exit 0) (stOf [(1, []), (4, [])] [.v (.int .i64 z0), .v .any] [.rows 8 false xl0])) (fun (x1' : Int) (x2' : Int) => loopN 1 (Code.den ti (laws_heldOpS.Γ k) (laws_heldOpS.LH k) (loopAt Try.f102 0)) [(0, [some 8]), (1, []), (5, [])] [(1, []), (4, [])] K n [.v (.sl 0), .v (.int .i64 x1'), .v (.int .i64 x2')] [.rows 8 false xl0]) x1 x2 by kernel_rfl).trans (congrArg (fun rec => laws_heldOpS.L2 k xl0 (fun (z0 : Int) (z1 : Int) => K .ret (stOf [(1, []), (4, [])] [.v (.int .i64 z0), .v (.int .i64 z1)] [.rows 8 false xl0])) (fun (z0 : Int) => K (.exit 0) (stOf [(1, []), (4, [])] [.v (.int .i64 z0), .v .any] [.rows 8 false xl0])) rec x1 x2) (funext fun x1' => funext fun x2' => laws_heldOpS.e2 K k xl0 n x1' x2'))
theorem laws_heldOpS.q2 (k : Nat) {R : Type} (K : Ex → St κ → Option R) (vs : List AV) (bs : List (Blk κ)) (r : R) (h : laws_heldOpS.h2 k K vs bs = some r) : ∃ n, loopN 1 (Code.den ti (laws_heldOpS.Γ k) (laws_heldOpS.LH k) (loopAt Try.f102 0)) [(0, [some 8]), (1, []), (5, [])] [(1, []), (4, [])] K n vs bs = some r := by
  unfold laws_heldOpS.h2 at h
  split at h
  · obtain ⟨_, rfl, h_1⟩ := asO_bind h
    exact ⟨k, (laws_heldOpS.e2 K k _ k _ _).trans h_1⟩
  · cases h
theorem laws_heldOpS.lok (k : Nat) : LOK ti (laws_heldOpS.Γ k) (laws_heldOpS.LH k) 1 (loopsOf (bodyOf Try.f102)) :=
  (show loopsOf (bodyOf Try.f102) = [loopAt Try.f102 0] by kernel_rfl) ▸ (LOK_cons (g := ⟨1, [(0, [some 8]), (1, []), (5, [])], [(1, []), (4, [])], @laws_heldOpS.h2 k⟩) (by kernel_rfl) rfl (fun K vs xs r h => laws_heldOpS.q2 k K vs xs r h) (LOK_nil))
def laws_heldOpS.sig : List PSh := [.one (.ro 8), .one .sc]
def laws_heldOpS.g (y : Int) : Ret κ := ⟨.v (.int .i64 y), [], []⟩
def laws_heldOpS.out (r : Ret κ) : Option Int :=
  match r with
  | ⟨.v (.int .i64 z0), [], []⟩ => some (z0)
  | _ => none
theorem laws_heldOpS.out_ok (r : Ret κ) (y : Int) (h : laws_heldOpS.out r = some y) : r = laws_heldOpS.g y := by
  unfold laws_heldOpS.out at h
  split at h
  · obtain rfl := Option.some.inj h
    rfl
  · cases h
def laws_heldOpS.body (k : Nat) (vs : List AV) (bs : List (Blk κ)) : Option (Lf κ) :=
  match vs, bs with
  | [.v (.sl 0), .v (.int .i64 a1)], [qb0] => (asO 8 false qb0).bind fun a0 => some ⟨Int, laws_heldOpS.f k a0 a1, laws_heldOpS.g⟩
  | _, _ => none
def laws_heldOpS.C (k : Nat) : Nat → List AV → AP κ AV := contract laws_heldOpS.sig (laws_heldOpS.body k)
theorem laws_heldOpS.den (k : Nat) (a0 : List T_impl_Op) (a1 : Int) : Code.den ti (laws_heldOpS.Γ k) (laws_heldOpS.LH k) (bodyOf Try.f102) (finK ti Try.f102.results.toList [] (flags laws_heldOpS.sig).length (rwI (flags laws_heldOpS.sig) 0) laws_heldOpS.out) ⟨envOf (([.v (.sl 0), .v (.int .i64 a1)]).zipIdx.map fun q => (q.2, q.1)), hpOf [.rows 8 false a0], (flags laws_heldOpS.sig).length⟩ = laws_heldOpS.f k a0 a1 := by kernel_rfl
theorem laws_heldOpS.ok (k : Nat) : CSound Try.prog 102 (laws_heldOpS.C k) :=
  csound κ_ok mixed tok (laws_heldOpS.hΓ k) (LH := laws_heldOpS.LH k) (fn := Try.f102) (c := bodyOf Try.f102) Try.func102 rfl Try.call102 laws_heldOpS.sig [] (laws_heldOpS.body k) (by kernel_rfl) (laws_heldOpS.lok k) (by decide) fun vs bs lf y hl hb hy => by
    unfold laws_heldOpS.body at hb
    split at hb
    · obtain ⟨_, rfl, hb_1⟩ := asO_bind hb
      obtain rfl := Option.some.inj hb_1
      exact ⟨laws_heldOpS.out, laws_heldOpS.out_ok, (laws_heldOpS.den k _ _).trans hy⟩
    · cases hb
end Go.Proofs.Ythingkcckjiniaa.PFnExactTakeSnapshot
