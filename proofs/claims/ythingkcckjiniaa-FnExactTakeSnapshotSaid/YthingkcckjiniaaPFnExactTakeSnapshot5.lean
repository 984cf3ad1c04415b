/- What the functions that the law FnExactTakeSnapshot reaches come to; no conditions. -/
import Derived.Test.YthingkcckjiniaaPFnExactTakeSnapshot4
set_option linter.unusedVariables false
set_option maxRecDepth 100000
namespace Go.Proofs.Ythingkcckjiniaa.PFnExactTakeSnapshot
open Go Go.Eng Go.Proofs
/-! ### laws_heldPackage -/
def laws_heldPackage.f (k : Nat) (a0_0 : Int) (a0_1 : Int) (a0_2 : Int) (a0_3 : List T_impl_Grant) (a0_4 : List T_impl_Flow) (a0_5 : List T_impl_Rule) (a0_6 : List T_impl_Op) (a0_7 : Int) (a1 : Int) : Option Int :=
  (laws_heldGrantS.f k a0_3 a1).bind fun t1 => (bif decide (t1 < (0 : Int)) then some (-1 : Int) else (laws_heldFlowS.f k a0_4 t1).bind fun t2 => (bif decide (t2 < (0 : Int)) then some (-1 : Int) else (laws_heldRuleS.f k a0_5 t2).bind fun t3 => (bif decide (t3 < (0 : Int)) then some (-1 : Int) else (laws_heldOpS.f k a0_6 t3).bind fun t4 => (bif decide (t4 < (0 : Int)) then some (-1 : Int) else some t4))))
def laws_heldPackage.Γ (k : Nat) : Ct κ := assoc [(29, laws_heldGrantS.C k), (100, laws_heldFlowS.C k), (101, laws_heldRuleS.C k), (102, laws_heldOpS.C k)]
def laws_heldPackage.LH (k : Nat) : Nat → Option (LHi κ) := assoc []
theorem laws_heldPackage.hΓ (k : Nat) : ∀ f g, laws_heldPackage.Γ k f = some g → CSound Try.prog f g := G_cons (laws_heldGrantS.ok k) (G_cons (laws_heldFlowS.ok k) (G_cons (laws_heldRuleS.ok k) (G_cons (laws_heldOpS.ok k) G_nil)))
theorem laws_heldPackage.lok (k : Nat) : LOK ti (laws_heldPackage.Γ k) (laws_heldPackage.LH k) 4 (loopsOf (bodyOf Try.f51)) :=
  (show loopsOf (bodyOf Try.f51) = [] by kernel_rfl) ▸ LOK_nil
def laws_heldPackage.sig : List PSh := [.agg [.sc, .sc, .sc, .ro 5, .ro 6, .ro 7, .ro 8, .sc], .one .sc]
def laws_heldPackage.g (y : Int) : Ret κ := ⟨.v (.int .i64 y), [], []⟩
def laws_heldPackage.out (r : Ret κ) : Option Int :=
  match r with
  | ⟨.v (.int .i64 z0), [], []⟩ => some (z0)
  | _ => none
theorem laws_heldPackage.out_ok (r : Ret κ) (y : Int) (h : laws_heldPackage.out r = some y) : r = laws_heldPackage.g y := by
  unfold laws_heldPackage.out at h
  split at h
  · obtain rfl := Option.some.inj h
    rfl
  · cases h
def laws_heldPackage.body (k : Nat) (vs : List AV) (bs : List (Blk κ)) : Option (Lf κ) :=
  match vs, bs with
  | [.agg [.int .i64 a0_0, .int .i64 a0_1, .int .i64 a0_2, .sl 0, .sl 1, .sl 2, .sl 3, .int .i64 a0_7], .v (.int .i64 a1)], [qb0, qb1, qb2, qb3] => (asO 5 false qb0).bind fun a0_3 => (asO 6 false qb1).bind fun a0_4 => (asO 7 false qb2).bind fun a0_5 => (asO 8 false qb3).bind fun a0_6 => some ⟨Int, laws_heldPackage.f k a0_0 a0_1 a0_2 a0_3 a0_4 a0_5 a0_6 a0_7 a1, laws_heldPackage.g⟩
  | _, _ => none
def laws_heldPackage.C (k : Nat) : Nat → List AV → AP κ AV := contract laws_heldPackage.sig (laws_heldPackage.body k)
theorem laws_heldPackage.den (k : Nat) (a0_0 : Int) (a0_1 : Int) (a0_2 : Int) (a0_3 : List T_impl_Grant) (a0_4 : List T_impl_Flow) (a0_5 : List T_impl_Rule) (a0_6 : List T_impl_Op) (a0_7 : Int) (a1 : Int) : Code.den ti (laws_heldPackage.Γ k) (laws_heldPackage.LH k) (bodyOf Try.f51) (finK ti Try.f51.results.toList [] (flags laws_heldPackage.sig).length (rwI (flags laws_heldPackage.sig) 0) laws_heldPackage.out) ⟨envOf (([.agg [.int .i64 a0_0, .int .i64 a0_1, .int .i64 a0_2, .sl 0, .sl 1, .sl 2, .sl 3, .int .i64 a0_7], .v (.int .i64 a1)]).zipIdx.map fun q => (q.2, q.1)), hpOf [.rows 5 false a0_3, .rows 6 false a0_4, .rows 7 false a0_5, .rows 8 false a0_6], (flags laws_heldPackage.sig).length⟩ = laws_heldPackage.f k a0_0 a0_1 a0_2 a0_3 a0_4 a0_5 a0_6 a0_7 a1 := by kernel_rfl
theorem laws_heldPackage.ok (k : Nat) : CSound Try.prog 51 (laws_heldPackage.C k) :=
  csound κ_ok mixed tok (laws_heldPackage.hΓ k) (LH := laws_heldPackage.LH k) (fn := Try.f51) (c := bodyOf Try.f51) Try.func51 rfl Try.call51 laws_heldPackage.sig [] (laws_heldPackage.body k) (by kernel_rfl) (laws_heldPackage.lok k) (by decide) fun vs bs lf y hl hb hy => by
    unfold laws_heldPackage.body at hb
    split at hb
    · obtain ⟨_, rfl, hb_1⟩ := asO_bind hb
      obtain ⟨_, rfl, hb_2⟩ := asO_bind hb_1
      obtain ⟨_, rfl, hb_3⟩ := asO_bind hb_2
      obtain ⟨_, rfl, hb_4⟩ := asO_bind hb_3
      obtain rfl := Option.some.inj hb_4
      exact ⟨laws_heldPackage.out, laws_heldPackage.out_ok, (laws_heldPackage.den k _ _ _ _ _ _ _ _ _).trans hy⟩
    · cases hb
/-! ### laws_heldStoredS -/
def laws_heldStoredS.L2 {R : Type} (k : Nat) (xl0 : List T_impl_Stored) (X0 : Int → Int → Option R) (X1 : Int → Option R) (rec : Int → Int → Option R) (x1 : Int) (x2 : Int) : Option R :=
  (bif decide (x2 < (xl0.length : Int)) then (bif decide (0 ≤ x2) then (bif decide (x2 < (xl0.length : Int)) then (bif ((rd_impl_Stored xl0 x2).f0 != x1) then (X0 x1 (-1 : Int)) else (bif decide (0 ≤ x2) then (bif decide (x2 < (xl0.length : Int)) then (bif ((rd_impl_Stored xl0 x2).f1 != (w64 (x1 + (1 : Int)))) then (X0 (w64 (x1 + (1 : Int))) (-1 : Int)) else (bif decide (0 ≤ x2) then (bif decide (x2 < (xl0.length : Int)) then (bif ((rd_impl_Stored xl0 x2).f2 != (w64 ((w64 (x1 + (1 : Int))) + (1 : Int)))) then (X0 (w64 ((w64 (x1 + (1 : Int))) + (1 : Int))) (-1 : Int)) else (bif decide (0 ≤ x2) then (bif decide (x2 < (xl0.length : Int)) then (bif ((rd_impl_Stored xl0 x2).f3 != (w64 ((w64 ((w64 (x1 + (1 : Int))) + (1 : Int))) + (1 : Int)))) then (X0 (w64 ((w64 ((w64 (x1 + (1 : Int))) + (1 : Int))) + (1 : Int))) (-1 : Int)) else (rec (w64 ((w64 ((w64 ((w64 (x1 + (1 : Int))) + (1 : Int))) + (1 : Int))) + (1 : Int))) (w64 (x2 + (1 : Int))))) else none) else none)) else none) else none)) else none) else none)) else none) else none) else (X1 x1))
def laws_heldStoredS.l2 {R : Type} (k : Nat) (xl0 : List T_impl_Stored) (X0 : Int → Int → Option R) (X1 : Int → Option R) : Nat → Int → Int → Option R
  | 0 => fun _ _ => none
  | n + 1 => laws_heldStoredS.L2 k xl0 X0 X1 (laws_heldStoredS.l2 k xl0 X0 X1 n)
def laws_heldStoredS.f (k : Nat) (a0 : List T_impl_Stored) (a1 : Int) : Option Int :=
  (laws_heldStoredS.l2 k a0 (fun (y1 : Int) (y2 : Int) => some y2) (fun (y3 : Int) => some y3) k a1 (0 : Int))
def laws_heldStoredS.h2 (k : Nat) {R : Type} (K : Ex → St κ → Option R) (vs : List AV) (bs : List (Blk κ)) : Option R :=
  match vs, bs with
  | [.v (.sl 0), .v (.int .i64 x1), .v (.int .i64 x2)], [qb0] => (asO 9 false qb0).bind fun xl0 => laws_heldStoredS.l2 k xl0 (fun (z0 : Int) (z1 : Int) => K .ret (stOf [(1, []), (4, [])] [.v (.int .i64 z0), .v (.int .i64 z1)] [.rows 9 false xl0])) (fun (z0 : Int) => K (.exit 0) (stOf [(1, []), (4, [])] [.v (.int .i64 z0), .v .any] [.rows 9 false xl0])) k x1 x2
  | _, _ => none
def laws_heldStoredS.Γ (k : Nat) : Ct κ := assoc []
def laws_heldStoredS.LH (k : Nat) : Nat → Option (LHi κ) := assoc [(2, ⟨1, [(0, [some 9]), (1, []), (5, [])], [(1, []), (4, [])], @laws_heldStoredS.h2 k⟩)]
theorem laws_heldStoredS.hΓ (k : Nat) : ∀ f g, laws_heldStoredS.Γ k f = some g → CSound Try.prog f g := G_nil
theorem laws_heldStoredS.e2 {R : Type} (K : Ex → St κ → Option R) (k : Nat) (xl0 : List T_impl_Stored) : ∀ (n : Nat) (x1 : Int) (x2 : Int), loopN 1 (Code.den ti (laws_heldStoredS.Γ k) (laws_heldStoredS.LH k) (loopAt Try.f98 0)) [(0, [some 9]), (1, []), (5, [])] [(1, []), (4, [])] K n [.v (.sl 0), .v (.int .i64 x1), .v (.int .i64 x2)] [.rows 9 false xl0] = laws_heldStoredS.l2 k xl0 (fun (z0 : Int) (z1 : Int) => K .ret (stOf [(1, []), (4, [])] [.v (.int .i64 z0), .v (.int .i64 z1)] [.rows 9 false xl0])) (fun (z0 : Int) => K (.exit 0) (stOf [(1, []), (4, [])] [.v (.int .i64 z0), .v .any] [.rows 9 false xl0])) n x1 x2
  | 0, _, _ => rfl
  | n + 1, x1, x2 => (show loopN 1 (Code.den ti (laws_heldStoredS.Γ k) (laws_heldStoredS.LH k) (loopAt Try.f98 0)) [(0, [some 9]), (1, []), (5, [])] [(1, []), (4, [])] K (n + 1) [.v (.sl 0), .v (.int .i64 x1), .v (.int .i64 x2)] [.rows 9 false xl0] = laws_heldStoredS.L2 k xl0 (fun (z0 : Int) (z1 : Int) => K .ret (stOf [(1, []), (4, [])] [.v (.int .i64 z0), .v (.int .i64 z1)] [.rows 9 false xl0])) (fun (z0 : Int) => K (.exit 0) (stOf [(1, []), (4, [])] [.v (.int .i64 z0), .v .any] [.rows 9 false xl0])) (fun (x1' : Int) (x2' : Int) => loopN 1 (Code.den ti (laws_heldStoredS.Γ k) (laws_heldStoredS.LH k) (loopAt Try.f98 0)) [(0, [some 9]), (1, []), (5, [])] [(1, []), (4, [])] K n [.v (.sl 0), .v (.int .i64 x1'), .v (.int .i64 x2')] [.rows 9 false xl0]) x1 x2 by kernel_rfl).trans (congrArg (fun rec => laws_heldStoredS.L2 k xl0 (fun (z0 : Int) (z1 : Int) => K .ret (stOf [(1, []), (4, [])] [.v (.int .i64 z0), .v (.int .i64 z1)] [.rows 9 false xl0])) (fun (z0 : Int) => K (.exit 0) (stOf [(1, []), (4, [])] [.v (.int .i64 z0), .v .any] [.rows 9 false xl0])) rec x1 x2) (funext fun x1' => funext fun x2' => laws_heldStoredS.e2 K k xl0 n x1' x2'))
theorem laws_heldStoredS.q2 (k : Nat) {R : Type} (K : Ex → St κ → Option R) (vs : List AV) (bs : List (Blk κ)) (r : R) (h : laws_heldStoredS.h2 k K vs bs = some r) : ∃ n, loopN 1 (Code.den ti (laws_heldStoredS.Γ k) (laws_heldStoredS.LH k) (loopAt Try.f98 0)) [(0, [some 9]), (1, []), (5, [])] [(1, []), (4, [])] K n vs bs = some r := by
  unfold laws_heldStoredS.h2 at h
  split at h
  · obtain ⟨_, rfl, h_1⟩ := asO_bind h
    exact ⟨k, (laws_heldStoredS.e2 K k _ k _ _).trans h_1⟩
  · cases h
theorem laws_heldStoredS.lok (k : Nat) : LOK ti (laws_heldStoredS.Γ k) (laws_heldStoredS.LH k) 1 (loopsOf (bodyOf Try.f98)) :=
  (show loopsOf (bodyOf Try.f98) = [loopAt Try.f98 0] by kernel_rfl) ▸ (LOK_cons (g := ⟨1, [(0, [some 9]), (1, []), (5, [])], [(1, []), (4, [])], @laws_heldStoredS.h2 k⟩) (by kernel_rfl) rfl (fun K vs xs r h => laws_heldStoredS.q2 k K vs xs r h) (LOK_nil))
def laws_heldStoredS.sig : List PSh := [.one (.ro 9), .one .sc]
def laws_heldStoredS.g (y : Int) : Ret κ := ⟨.v (.int .i64 y), [], []⟩
def laws_heldStoredS.out (r : Ret κ) : Option Int :=
  match r with
  | ⟨.v (.int .i64 z0), [], []⟩ => some (z0)
  | _ => none
theorem laws_heldStoredS.out_ok (r : Ret κ) (y : Int) (h : laws_heldStoredS.out r = some y) : r = laws_heldStoredS.g y := by
  unfold laws_heldStoredS.out at h
  split at h
  · obtain rfl := Option.some.inj h
    rfl
  · cases h
def laws_heldStoredS.body (k : Nat) (vs : List AV) (bs : List (Blk κ)) : Option (Lf κ) :=
  match vs, bs with
  | [.v (.sl 0), .v (.int .i64 a1)], [qb0] => (asO 9 false qb0).bind fun a0 => some ⟨Int, laws_heldStoredS.f k a0 a1, laws_heldStoredS.g⟩
  | _, _ => none
def laws_heldStoredS.C (k : Nat) : Nat → List AV → AP κ AV := contract laws_heldStoredS.sig (laws_heldStoredS.body k)
theorem laws_heldStoredS.den (k : Nat) (a0 : List T_impl_Stored) (a1 : Int) : Code.den ti (laws_heldStoredS.Γ k) (laws_heldStoredS.LH k) (bodyOf Try.f98) (finK ti Try.f98.results.toList [] (flags laws_heldStoredS.sig).length (rwI (flags laws_heldStoredS.sig) 0) laws_heldStoredS.out) ⟨envOf (([.v (.sl 0), .v (.int .i64 a1)]).zipIdx.map fun q => (q.2, q.1)), hpOf [.rows 9 false a0], (flags laws_heldStoredS.sig).length⟩ = laws_heldStoredS.f k a0 a1 := by kernel_rfl
theorem laws_heldStoredS.ok (k : Nat) : CSound Try.prog 98 (laws_heldStoredS.C k) :=
  csound κ_ok mixed tok (laws_heldStoredS.hΓ k) (LH := laws_heldStoredS.LH k) (fn := Try.f98) (c := bodyOf Try.f98) Try.func98 rfl Try.call98 laws_heldStoredS.sig [] (laws_heldStoredS.body k) (by kernel_rfl) (laws_heldStoredS.lok k) (by decide) fun vs bs lf y hl hb hy => by
    unfold laws_heldStoredS.body at hb
    split at hb
    · obtain ⟨_, rfl, hb_1⟩ := asO_bind hb
      obtain rfl := Option.some.inj hb_1
      exact ⟨laws_heldStoredS.out, laws_heldStoredS.out_ok, (laws_heldStoredS.den k _ _).trans hy⟩
    · cases hb
/-! ### laws_heldSnapshot -/
def laws_heldSnapshot.f (k : Nat) (a0_0 : Int) (a0_1 : Int) (a0_2 : Int) (a0_3 : List T_impl_Grant) (a0_4 : List T_impl_Flow) (a0_5 : List T_impl_Rule) (a0_6 : List T_impl_Op) (a0_7 : Int) (a0_8 : List T_impl_Stored) (a1 : Int) : Option Int :=
  (laws_heldPackage.f k a0_0 a0_1 a0_2 a0_3 a0_4 a0_5 a0_6 a0_7 a1).bind fun t1 => (bif decide (t1 < (0 : Int)) then some (-1 : Int) else (laws_heldStoredS.f k a0_8 t1).bind fun t2 => (bif decide (t2 < (0 : Int)) then some (-1 : Int) else some t2))
def laws_heldSnapshot.Γ (k : Nat) : Ct κ := assoc [(51, laws_heldPackage.C k), (98, laws_heldStoredS.C k)]
def laws_heldSnapshot.LH (k : Nat) : Nat → Option (LHi κ) := assoc []
theorem laws_heldSnapshot.hΓ (k : Nat) : ∀ f g, laws_heldSnapshot.Γ k f = some g → CSound Try.prog f g := G_cons (laws_heldPackage.ok k) (G_cons (laws_heldStoredS.ok k) G_nil)
theorem laws_heldSnapshot.lok (k : Nat) : LOK ti (laws_heldSnapshot.Γ k) (laws_heldSnapshot.LH k) 5 (loopsOf (bodyOf Try.f49)) :=
  (show loopsOf (bodyOf Try.f49) = [] by kernel_rfl) ▸ LOK_nil
def laws_heldSnapshot.sig : List PSh := [.agg [.sc, .sc, .sc, .ro 5, .ro 6, .ro 7, .ro 8, .sc, .ro 9], .one .sc]
def laws_heldSnapshot.g (y : Int) : Ret κ := ⟨.v (.int .i64 y), [], []⟩
def laws_heldSnapshot.out (r : Ret κ) : Option Int :=
  match r with
  | ⟨.v (.int .i64 z0), [], []⟩ => some (z0)
  | _ => none
theorem laws_heldSnapshot.out_ok (r : Ret κ) (y : Int) (h : laws_heldSnapshot.out r = some y) : r = laws_heldSnapshot.g y := by
  unfold laws_heldSnapshot.out at h
  split at h
  · obtain rfl := Option.some.inj h
    rfl
  · cases h
def laws_heldSnapshot.body (k : Nat) (vs : List AV) (bs : List (Blk κ)) : Option (Lf κ) :=
  match vs, bs with
  | [.agg [.int .i64 a0_0, .int .i64 a0_1, .int .i64 a0_2, .sl 0, .sl 1, .sl 2, .sl 3, .int .i64 a0_7, .sl 4], .v (.int .i64 a1)], [qb0, qb1, qb2, qb3, qb4] => (asO 5 false qb0).bind fun a0_3 => (asO 6 false qb1).bind fun a0_4 => (asO 7 false qb2).bind fun a0_5 => (asO 8 false qb3).bind fun a0_6 => (asO 9 false qb4).bind fun a0_8 => some ⟨Int, laws_heldSnapshot.f k a0_0 a0_1 a0_2 a0_3 a0_4 a0_5 a0_6 a0_7 a0_8 a1, laws_heldSnapshot.g⟩
  | _, _ => none
def laws_heldSnapshot.C (k : Nat) : Nat → List AV → AP κ AV := contract laws_heldSnapshot.sig (laws_heldSnapshot.body k)
theorem laws_heldSnapshot.den (k : Nat) (a0_0 : Int) (a0_1 : Int) (a0_2 : Int) (a0_3 : List T_impl_Grant) (a0_4 : List T_impl_Flow) (a0_5 : List T_impl_Rule) (a0_6 : List T_impl_Op) (a0_7 : Int) (a0_8 : List T_impl_Stored) (a1 : Int) : Code.den ti (laws_heldSnapshot.Γ k) (laws_heldSnapshot.LH k) (bodyOf Try.f49) (finK ti Try.f49.results.toList [] (flags laws_heldSnapshot.sig).length (rwI (flags laws_heldSnapshot.sig) 0) laws_heldSnapshot.out) ⟨envOf (([.agg [.int .i64 a0_0, .int .i64 a0_1, .int .i64 a0_2, .sl 0, .sl 1, .sl 2, .sl 3, .int .i64 a0_7, .sl 4], .v (.int .i64 a1)]).zipIdx.map fun q => (q.2, q.1)), hpOf [.rows 5 false a0_3, .rows 6 false a0_4, .rows 7 false a0_5, .rows 8 false a0_6, .rows 9 false a0_8], (flags laws_heldSnapshot.sig).length⟩ = laws_heldSnapshot.f k a0_0 a0_1 a0_2 a0_3 a0_4 a0_5 a0_6 a0_7 a0_8 a1 := by kernel_rfl
theorem laws_heldSnapshot.ok (k : Nat) : CSound Try.prog 49 (laws_heldSnapshot.C k) :=
  csound κ_ok mixed tok (laws_heldSnapshot.hΓ k) (LH := laws_heldSnapshot.LH k) (fn := Try.f49) (c := bodyOf Try.f49) Try.func49 rfl Try.call49 laws_heldSnapshot.sig [] (laws_heldSnapshot.body k) (by kernel_rfl) (laws_heldSnapshot.lok k) (by decide) fun vs bs lf y hl hb hy => by
    unfold laws_heldSnapshot.body at hb
    split at hb
    · obtain ⟨_, rfl, hb_1⟩ := asO_bind hb
      obtain ⟨_, rfl, hb_2⟩ := asO_bind hb_1
      obtain ⟨_, rfl, hb_3⟩ := asO_bind hb_2
      obtain ⟨_, rfl, hb_4⟩ := asO_bind hb_3
      obtain ⟨_, rfl, hb_5⟩ := asO_bind hb_4
      obtain rfl := Option.some.inj hb_5
      exact ⟨laws_heldSnapshot.out, laws_heldSnapshot.out_ok, (laws_heldSnapshot.den k _ _ _ _ _ _ _ _ _ _).trans hy⟩
    · cases hb
/-! ### laws_FnExactTakeSnapshot -/
def laws_FnExactTakeSnapshot.f (k : Nat) (a0_0 : Int) (a0_1 : Int) (a0_2 : Int) (a0_3 : List T_laws_Grant) (a0_4 : List T_laws_Flow) (a0_5 : List T_laws_Rule) (a0_6 : List T_laws_Op) (a0_7 : Int) (a1 : List T_laws_Stored) : Option Bool :=
  (laws_szPackage.f k a0_0 a0_1 a0_2 a0_3 a0_4 a0_5 a0_6 a0_7 (1048576 : Int)).bind fun t1 => (bif decide (t1 < (0 : Int)) then some true else (laws_szStoredS.f k a1 t1).bind fun t2 => (bif decide (t2 < (0 : Int)) then some true else (laws_toPackage.f k a0_0 a0_1 a0_2 a0_3 a0_4 a0_5 a0_6 a0_7).bind fun t3 => (laws_toStoredS.f k a1).bind fun t4 => (spec_TakeSnapshot.f k t3.1 t3.2.1 t3.2.2.1 t3.2.2.2.2.1 t3.2.2.2.2.2.1 t3.2.2.2.2.2.2.1 t3.2.2.2.2.2.2.2 t3.2.2.2.1 t4).bind fun t5 => (laws_toPackage.f k a0_0 a0_1 a0_2 a0_3 a0_4 a0_5 a0_6 a0_7).bind fun t6 => (laws_toStoredS.f k a1).bind fun t7 => (impl_TakeSnapshot.f k t6.1 t6.2.1 t6.2.2.1 t6.2.2.2.2.1 t6.2.2.2.2.2.1 t6.2.2.2.2.2.2.1 t6.2.2.2.2.2.2.2 t6.2.2.2.1 t7).bind fun t8 => (laws_eqSnapshot.f k t8.1 t8.2.1 t8.2.2.1 t8.2.2.2.2.1 t8.2.2.2.2.2.1 t8.2.2.2.2.2.2.1 t8.2.2.2.2.2.2.2.1 t8.2.2.2.1 t8.2.2.2.2.2.2.2.2 t5.1 t5.2.1 t5.2.2.1 t5.2.2.2.2.1 t5.2.2.2.2.2.1 t5.2.2.2.2.2.2.1 t5.2.2.2.2.2.2.2.1 t5.2.2.2.1 t5.2.2.2.2.2.2.2.2).bind fun t9 => (bif !t9 then some false else (laws_toPackage.f k a0_0 a0_1 a0_2 a0_3 a0_4 a0_5 a0_6 a0_7).bind fun t10 => (laws_eqPackage.f k t6.1 t6.2.1 t6.2.2.1 t6.2.2.2.2.1 t6.2.2.2.2.2.1 t6.2.2.2.2.2.2.1 t6.2.2.2.2.2.2.2 t6.2.2.2.1 t10.1 t10.2.1 t10.2.2.1 t10.2.2.2.2.1 t10.2.2.2.2.2.1 t10.2.2.2.2.2.2.1 t10.2.2.2.2.2.2.2 t10.2.2.2.1).bind fun t11 => (bif !t11 then some false else (laws_toStoredS.f k a1).bind fun t12 => (laws_eqStoredS.f k t7 t12).bind fun t13 => (bif !t13 then some false else (laws_markPackage.f k t6.1 t6.2.1 t6.2.2.1 t6.2.2.2.2.1 t6.2.2.2.2.2.1 t6.2.2.2.2.2.2.1 t6.2.2.2.2.2.2.2 t6.2.2.2.1 (1 : Int)).bind fun t14 => (laws_markStoredS.f k t7 t14.1).bind fun t15 => (bif decide (t15.1 < (0 : Int)) then some false else (laws_eqSnapshot.f k t8.1 t8.2.1 t8.2.2.1 t8.2.2.2.2.1 t8.2.2.2.2.2.1 t8.2.2.2.2.2.2.1 t8.2.2.2.2.2.2.2.1 t8.2.2.2.1 t8.2.2.2.2.2.2.2.2 t5.1 t5.2.1 t5.2.2.1 t5.2.2.2.2.1 t5.2.2.2.2.2.1 t5.2.2.2.2.2.2.1 t5.2.2.2.2.2.2.2.1 t5.2.2.2.1 t5.2.2.2.2.2.2.2.2).bind fun t16 => (bif !t16 then some false else (laws_markSnapshot.f k t8.1 t8.2.1 t8.2.2.1 t8.2.2.2.2.1 t8.2.2.2.2.2.1 t8.2.2.2.2.2.2.1 t8.2.2.2.2.2.2.2.1 t8.2.2.2.1 t8.2.2.2.2.2.2.2.2 (1 : Int)).bind fun t17 => (laws_heldSnapshot.f k t8.1 t8.2.1 t8.2.2.1 t17.2.1 t17.2.2.1 t17.2.2.2.1 t17.2.2.2.2.1 t8.2.2.2.1 t17.2.2.2.2.2 (1 : Int)).bind fun t18 => (bif decide (t18 < (0 : Int)) then some false else (bif (t18 != t17.1) then some false else (laws_toPackage.f k a0_0 a0_1 a0_2 a0_3 a0_4 a0_5 a0_6 a0_7).bind fun t19 => (laws_toStoredS.f k a1).bind fun t20 => (impl_TakeSnapshot.f k t19.1 t19.2.1 t19.2.2.1 t19.2.2.2.2.1 t19.2.2.2.2.2.1 t19.2.2.2.2.2.2.1 t19.2.2.2.2.2.2.2 t19.2.2.2.1 t20).bind fun t21 => (laws_eqSnapshot.f k t21.1 t21.2.1 t21.2.2.1 t21.2.2.2.2.1 t21.2.2.2.2.2.1 t21.2.2.2.2.2.2.1 t21.2.2.2.2.2.2.2.1 t21.2.2.2.1 t21.2.2.2.2.2.2.2.2 t5.1 t5.2.1 t5.2.2.1 t5.2.2.2.2.1 t5.2.2.2.2.2.1 t5.2.2.2.2.2.2.1 t5.2.2.2.2.2.2.2.1 t5.2.2.2.1 t5.2.2.2.2.2.2.2.2).bind fun t22 => (bif !t22 then some false else (laws_heldSnapshot.f k t8.1 t8.2.1 t8.2.2.1 t17.2.1 t17.2.2.1 t17.2.2.2.1 t17.2.2.2.2.1 t8.2.2.2.1 t17.2.2.2.2.2 (1 : Int)).bind fun t23 => (bif decide (t23 < (0 : Int)) then some false else (bif (t23 != t17.1) then some false else some true))))))))))))
def laws_FnExactTakeSnapshot.Γ (k : Nat) : Ct κ := assoc [(21, laws_szPackage.C k), (41, laws_szStoredS.C k), (23, laws_toPackage.C k), (43, laws_toStoredS.C k), (42, spec_TakeSnapshot.C k), (44, impl_TakeSnapshot.C k), (45, laws_eqSnapshot.C k), (26, laws_eqPackage.C k), (46, laws_eqStoredS.C k), (27, laws_markPackage.C k), (47, laws_markStoredS.C k), (48, laws_markSnapshot.C k), (49, laws_heldSnapshot.C k)]
def laws_FnExactTakeSnapshot.LH (k : Nat) : Nat → Option (LHi κ) := assoc []
theorem laws_FnExactTakeSnapshot.hΓ (k : Nat) : ∀ f g, laws_FnExactTakeSnapshot.Γ k f = some g → CSound Try.prog f g := G_cons (laws_szPackage.ok k) (G_cons (laws_szStoredS.ok k) (G_cons (laws_toPackage.ok k) (G_cons (laws_toStoredS.ok k) (G_cons (spec_TakeSnapshot.ok k) (G_cons (impl_TakeSnapshot.ok k) (G_cons (laws_eqSnapshot.ok k) (G_cons (laws_eqPackage.ok k) (G_cons (laws_eqStoredS.ok k) (G_cons (laws_markPackage.ok k) (G_cons (laws_markStoredS.ok k) (G_cons (laws_markSnapshot.ok k) (G_cons (laws_heldSnapshot.ok k) G_nil))))))))))))
theorem laws_FnExactTakeSnapshot.lok (k : Nat) : LOK ti (laws_FnExactTakeSnapshot.Γ k) (laws_FnExactTakeSnapshot.LH k) 5 (loopsOf (bodyOf Try.f8)) :=
  (show loopsOf (bodyOf Try.f8) = [] by kernel_rfl) ▸ LOK_nil
def laws_FnExactTakeSnapshot.sig : List PSh := [.agg [.sc, .sc, .sc, .ro 0, .ro 1, .ro 2, .ro 3, .sc], .one (.ro 4)]
def laws_FnExactTakeSnapshot.g (y : Bool) : Ret κ := ⟨.v (.bool y), [], []⟩
def laws_FnExactTakeSnapshot.out (r : Ret κ) : Option Bool :=
  match r with
  | ⟨.v (.bool z0), [], []⟩ => some (z0)
  | _ => none
theorem laws_FnExactTakeSnapshot.out_ok (r : Ret κ) (y : Bool) (h : laws_FnExactTakeSnapshot.out r = some y) : r = laws_FnExactTakeSnapshot.g y := by
  unfold laws_FnExactTakeSnapshot.out at h
  split at h
  · obtain rfl := Option.some.inj h
    rfl
  · cases h
def laws_FnExactTakeSnapshot.body (k : Nat) (vs : List AV) (bs : List (Blk κ)) : Option (Lf κ) :=
  match vs, bs with
  | [.agg [.int .i64 a0_0, .int .i64 a0_1, .int .i64 a0_2, .sl 0, .sl 1, .sl 2, .sl 3, .int .i64 a0_7], .v (.sl 4)], [qb0, qb1, qb2, qb3, qb4] => (asO 0 false qb0).bind fun a0_3 => (asO 1 false qb1).bind fun a0_4 => (asO 2 false qb2).bind fun a0_5 => (asO 3 false qb3).bind fun a0_6 => (asO 4 false qb4).bind fun a1 => some ⟨Bool, laws_FnExactTakeSnapshot.f k a0_0 a0_1 a0_2 a0_3 a0_4 a0_5 a0_6 a0_7 a1, laws_FnExactTakeSnapshot.g⟩
  | _, _ => none
def laws_FnExactTakeSnapshot.C (k : Nat) : Nat → List AV → AP κ AV := contract laws_FnExactTakeSnapshot.sig (laws_FnExactTakeSnapshot.body k)
theorem laws_FnExactTakeSnapshot.den (k : Nat) (a0_0 : Int) (a0_1 : Int) (a0_2 : Int) (a0_3 : List T_laws_Grant) (a0_4 : List T_laws_Flow) (a0_5 : List T_laws_Rule) (a0_6 : List T_laws_Op) (a0_7 : Int) (a1 : List T_laws_Stored) : Code.den ti (laws_FnExactTakeSnapshot.Γ k) (laws_FnExactTakeSnapshot.LH k) (bodyOf Try.f8) (finK ti Try.f8.results.toList [] (flags laws_FnExactTakeSnapshot.sig).length (rwI (flags laws_FnExactTakeSnapshot.sig) 0) laws_FnExactTakeSnapshot.out) ⟨envOf (([.agg [.int .i64 a0_0, .int .i64 a0_1, .int .i64 a0_2, .sl 0, .sl 1, .sl 2, .sl 3, .int .i64 a0_7], .v (.sl 4)]).zipIdx.map fun q => (q.2, q.1)), hpOf [.rows 0 false a0_3, .rows 1 false a0_4, .rows 2 false a0_5, .rows 3 false a0_6, .rows 4 false a1], (flags laws_FnExactTakeSnapshot.sig).length⟩ = laws_FnExactTakeSnapshot.f k a0_0 a0_1 a0_2 a0_3 a0_4 a0_5 a0_6 a0_7 a1 := by kernel_rfl
theorem laws_FnExactTakeSnapshot.ok (k : Nat) : CSound Try.prog 8 (laws_FnExactTakeSnapshot.C k) :=
  csound κ_ok mixed tok (laws_FnExactTakeSnapshot.hΓ k) (LH := laws_FnExactTakeSnapshot.LH k) (fn := Try.f8) (c := bodyOf Try.f8) Try.func8 rfl Try.call8 laws_FnExactTakeSnapshot.sig [] (laws_FnExactTakeSnapshot.body k) (by kernel_rfl) (laws_FnExactTakeSnapshot.lok k) (by decide) fun vs bs lf y hl hb hy => by
    unfold laws_FnExactTakeSnapshot.body at hb
    split at hb
    · obtain ⟨_, rfl, hb_1⟩ := asO_bind hb
      obtain ⟨_, rfl, hb_2⟩ := asO_bind hb_1
      obtain ⟨_, rfl, hb_3⟩ := asO_bind hb_2
      obtain ⟨_, rfl, hb_4⟩ := asO_bind hb_3
      obtain ⟨_, rfl, hb_5⟩ := asO_bind hb_4
      obtain rfl := Option.some.inj hb_5
      exact ⟨laws_FnExactTakeSnapshot.out, laws_FnExactTakeSnapshot.out_ok, (laws_FnExactTakeSnapshot.den k _ _ _ _ _ _ _ _ _).trans hy⟩
    · cases hb
end Go.Proofs.Ythingkcckjiniaa.PFnExactTakeSnapshot
