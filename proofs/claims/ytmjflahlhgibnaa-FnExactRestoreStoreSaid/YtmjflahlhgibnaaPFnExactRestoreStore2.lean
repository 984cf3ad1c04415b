/- What the functions that the law FnExactRestoreStore reaches come to; no conditions. -/
import Derived.Test.YtmjflahlhgibnaaPFnExactRestoreStore1
set_option linter.unusedVariables false
set_option maxRecDepth 100000
namespace Go.Proofs.Ytmjflahlhgibnaa.PFnExactRestoreStore
open Go Go.Eng Go.Proofs
/-! ### laws_toOp -/
def laws_toOp.f (k : Nat) (a0_0 : Int) (a0_1 : Int) (a0_2 : Int) (a0_3 : Int) : Option (Int × Int × Int × Int) :=
  some (a0_0, a0_1, a0_2, a0_3)
def laws_toOp.Γ (k : Nat) : Ct κ := assoc []
def laws_toOp.LH (k : Nat) : Nat → Option (LHi κ) := assoc []
theorem laws_toOp.hΓ (k : Nat) : ∀ f g, laws_toOp.Γ k f = some g → CSound Try.prog f g := G_nil
theorem laws_toOp.lok (k : Nat) : LOK ti (laws_toOp.Γ k) (laws_toOp.LH k) 0 (loopsOf (bodyOf Try.f107)) :=
  (show loopsOf (bodyOf Try.f107) = [] by kernel_rfl) ▸ LOK_nil
def laws_toOp.sig : List PSh := [.agg [.sc, .sc, .sc, .sc]]
def laws_toOp.g (y : Int × Int × Int × Int) : Ret κ := ⟨.agg [.int .i64 y.1, .int .i64 y.2.1, .int .i64 y.2.2.1, .int .i64 y.2.2.2], [], []⟩
def laws_toOp.out (r : Ret κ) : Option (Int × Int × Int × Int) :=
  match r with
  | ⟨.agg [.int .i64 z0, .int .i64 z1, .int .i64 z2, .int .i64 z3], [], []⟩ => some (z0, z1, z2, z3)
  | _ => none
theorem laws_toOp.out_ok (r : Ret κ) (y : Int × Int × Int × Int) (h : laws_toOp.out r = some y) : r = laws_toOp.g y := by
  unfold laws_toOp.out at h
  split at h
  · obtain rfl := Option.some.inj h
    rfl
  · cases h
def laws_toOp.body (k : Nat) (vs : List AV) (bs : List (Blk κ)) : Option (Lf κ) :=
  match vs, bs with
  | [.agg [.int .i64 a0_0, .int .i64 a0_1, .int .i64 a0_2, .int .i64 a0_3]], [] => some ⟨Int × Int × Int × Int, laws_toOp.f k a0_0 a0_1 a0_2 a0_3, laws_toOp.g⟩
  | _, _ => none
def laws_toOp.C (k : Nat) : Nat → List AV → AP κ AV := contract laws_toOp.sig (laws_toOp.body k)
theorem laws_toOp.den (k : Nat) (a0_0 : Int) (a0_1 : Int) (a0_2 : Int) (a0_3 : Int) : Code.den ti (laws_toOp.Γ k) (laws_toOp.LH k) (bodyOf Try.f107) (finK ti Try.f107.results.toList [] (flags laws_toOp.sig).length (rwI (flags laws_toOp.sig) 0) laws_toOp.out) ⟨envOf (([.agg [.int .i64 a0_0, .int .i64 a0_1, .int .i64 a0_2, .int .i64 a0_3]]).zipIdx.map fun q => (q.2, q.1)), hpOf [], (flags laws_toOp.sig).length⟩ = laws_toOp.f k a0_0 a0_1 a0_2 a0_3 := by kernel_rfl
theorem laws_toOp.ok (k : Nat) : CSound Try.prog 107 (laws_toOp.C k) :=
  csound κ_ok mixed tok (laws_toOp.hΓ k) (LH := laws_toOp.LH k) (fn := Try.f107) (c := bodyOf Try.f107) Try.func107 rfl Try.call107 laws_toOp.sig [] (laws_toOp.body k) (by kernel_rfl) (laws_toOp.lok k) (by decide) fun vs bs lf y hl hb hy => by
    unfold laws_toOp.body at hb
    split at hb
    · obtain rfl := Option.some.inj hb
      exact ⟨laws_toOp.out, laws_toOp.out_ok, (laws_toOp.den k _ _ _ _).trans hy⟩
    · cases hb
/-! ### laws_toOpS -/
def laws_toOpS.L3 {R : Type} (k : Nat) (xl0 : List T_laws_Op) (X0 : List T_impl_Op → Option R) (rec : Int → List T_impl_Op → Option R) (x2 : Int) (xl1 : List T_impl_Op) : Option R :=
  (bif decide (x2 < (xl0.length : Int)) then (bif decide (0 ≤ x2) then (bif decide (x2 < (xl0.length : Int)) then (laws_toOp.f k ((rd_laws_Op xl0 x2).f0) ((rd_laws_Op xl0 x2).f1) ((rd_laws_Op xl0 x2).f2) ((rd_laws_Op xl0 x2).f3)).bind fun t1 => (bif decide (0 ≤ x2) then (bif decide (x2 < (xl1.length : Int)) then (let l2 : List T_impl_Op := (xl1.set (x2).toNat (⟨t1.1, t1.2.1, t1.2.2.1, t1.2.2.2⟩ : T_impl_Op)); (rec (w64 (x2 + (1 : Int))) l2)) else none) else none) else none) else none) else (X0 xl1))
def laws_toOpS.l3 {R : Type} (k : Nat) (xl0 : List T_laws_Op) (X0 : List T_impl_Op → Option R) : Nat → Int → List T_impl_Op → Option R
  | 0 => fun _ _ => none
  | n + 1 => laws_toOpS.L3 k xl0 X0 (laws_toOpS.l3 k xl0 X0 n)
def laws_toOpS.f (k : Nat) (a0 : List T_laws_Op) : Option (List T_impl_Op) :=
  (bif decide (0 ≤ (a0.length : Int)) then (bif decide (((a0.length : Int)).toNat * 32 ≤ cap48) then (laws_toOpS.l3 k a0 (fun (y3 : List T_impl_Op) => some y3) k (0 : Int) (List.replicate ((a0.length : Int)).toNat z_impl_Op)) else none) else none)
def laws_toOpS.h3 (k : Nat) {R : Type} (K : Ex → St κ → Option R) (vs : List AV) (bs : List (Blk κ)) : Option R :=
  match vs, bs with
  | [.v (.sl 0), .v (.sl 1), .v (.int .i64 x2)], [qb0, qb1] => (asO 4 false qb0).bind fun xl0 => (asO 9 true qb1).bind fun xl1 => laws_toOpS.l3 k xl0 (fun (zl1 : List T_impl_Op) => K (.exit 0) (stOf [(3, [some 9])] [.v (.sl 1)] [.rows 4 false xl0, .rows 9 true zl1])) k x2 xl1
  | _, _ => none
def laws_toOpS.Γ (k : Nat) : Ct κ := assoc [(107, laws_toOp.C k)]
def laws_toOpS.LH (k : Nat) : Nat → Option (LHi κ) := assoc [(3, ⟨1, [(0, [some 4]), (3, [some 9]), (4, [])], [(3, [some 9])], @laws_toOpS.h3 k⟩)]
theorem laws_toOpS.hΓ (k : Nat) : ∀ f g, laws_toOpS.Γ k f = some g → CSound Try.prog f g := G_cons (laws_toOp.ok k) G_nil
theorem laws_toOpS.e3 {R : Type} (K : Ex → St κ → Option R) (k : Nat) (xl0 : List T_laws_Op) : ∀ (n : Nat) (x2 : Int) (xl1 : List T_impl_Op), loopN 1 (Code.den ti (laws_toOpS.Γ k) (laws_toOpS.LH k) (loopAt Try.f79 0)) [(0, [some 4]), (3, [some 9]), (4, [])] [(3, [some 9])] K n [.v (.sl 0), .v (.sl 1), .v (.int .i64 x2)] [.rows 4 false xl0, .rows 9 true xl1] = laws_toOpS.l3 k xl0 (fun (zl1 : List T_impl_Op) => K (.exit 0) (stOf [(3, [some 9])] [.v (.sl 1)] [.rows 4 false xl0, .rows 9 true zl1])) n x2 xl1
  | 0, _, _ => rfl
  | n + 1, x2, xl1 => (show loopN 1 (Code.den ti (laws_toOpS.Γ k) (laws_toOpS.LH k) (loopAt Try.f79 0)) [(0, [some 4]), (3, [some 9]), (4, [])] [(3, [some 9])] K (n + 1) [.v (.sl 0), .v (.sl 1), .v (.int .i64 x2)] [.rows 4 false xl0, .rows 9 true xl1] = laws_toOpS.L3 k xl0 (fun (zl1 : List T_impl_Op) => K (.exit 0) (stOf [(3, [some 9])] [.v (.sl 1)] [.rows 4 false xl0, .rows 9 true zl1])) (fun (x2' : Int) (xl1' : List T_impl_Op) => loopN 1 (Code.den ti (laws_toOpS.Γ k) (laws_toOpS.LH k) (loopAt Try.f79 0)) [(0, [some 4]), (3, [some 9]), (4, [])] [(3, [some 9])] K n [.v (.sl 0), .v (.sl 1), .v (.int .i64 x2')] [.rows 4 false xl0, .rows 9 true xl1']) x2 xl1 by kernel_rfl).trans (congrArg (fun rec => laws_toOpS.L3 k xl0 (fun (zl1 : List T_impl_Op) => K (.exit 0) (stOf [(3, [some 9])] [.v (.sl 1)] [.rows 4 false xl0, .rows 9 true zl1])) rec x2 xl1) (funext fun x2' => funext fun xl1' => laws_toOpS.e3 K k xl0 n x2' xl1'))
theorem laws_toOpS.q3 (k : Nat) {R : Type} (K : Ex → St κ → Option R) (vs : List AV) (bs : List (Blk κ)) (r : R) (h : laws_toOpS.h3 k K vs bs = some r) : ∃ n, loopN 1 (Code.den ti (laws_toOpS.Γ k) (laws_toOpS.LH k) (loopAt Try.f79 0)) [(0, [some 4]), (3, [some 9]), (4, [])] [(3, [some 9])] K n vs bs = some r := by
  unfold laws_toOpS.h3 at h
  split at h
  · obtain ⟨_, rfl, h_1⟩ := asO_bind h
    obtain ⟨_, rfl, h_2⟩ := asO_bind h_1
    exact ⟨k, (laws_toOpS.e3 K k _ k _ _).trans h_2⟩
  · cases h
theorem laws_toOpS.lok (k : Nat) : LOK ti (laws_toOpS.Γ k) (laws_toOpS.LH k) 1 (loopsOf (bodyOf Try.f79)) :=
  (show loopsOf (bodyOf Try.f79) = [loopAt Try.f79 0] by kernel_rfl) ▸ (LOK_cons (g := ⟨1, [(0, [some 4]), (3, [some 9]), (4, [])], [(3, [some 9])], @laws_toOpS.h3 k⟩) (by kernel_rfl) rfl (fun K vs xs r h => laws_toOpS.q3 k K vs xs r h) (LOK_nil))
def laws_toOpS.sig : List PSh := [.one (.ro 4)]
def laws_toOpS.g (y : List T_impl_Op) : Ret κ := ⟨.v (.sl 1), [], [.rows 9 true y]⟩
def laws_toOpS.out (r : Ret κ) : Option (List T_impl_Op) :=
  match r with
  | ⟨.v (.sl 1), [], [q0]⟩ => (asO 9 true q0).bind fun z0 => some (z0)
  | _ => none
theorem laws_toOpS.out_ok (r : Ret κ) (y : List T_impl_Op) (h : laws_toOpS.out r = some y) : r = laws_toOpS.g y := by
  unfold laws_toOpS.out at h
  split at h
  · obtain ⟨_, rfl, h_1⟩ := asO_bind h
    obtain rfl := Option.some.inj h_1
    rfl
  · cases h
def laws_toOpS.body (k : Nat) (vs : List AV) (bs : List (Blk κ)) : Option (Lf κ) :=
  match vs, bs with
  | [.v (.sl 0)], [qb0] => (asO 4 false qb0).bind fun a0 => some ⟨List T_impl_Op, laws_toOpS.f k a0, laws_toOpS.g⟩
  | _, _ => none
def laws_toOpS.C (k : Nat) : Nat → List AV → AP κ AV := contract laws_toOpS.sig (laws_toOpS.body k)
theorem laws_toOpS.den (k : Nat) (a0 : List T_laws_Op) : Code.den ti (laws_toOpS.Γ k) (laws_toOpS.LH k) (bodyOf Try.f79) (finK ti Try.f79.results.toList [(2, [some 9])] (flags laws_toOpS.sig).length (rwI (flags laws_toOpS.sig) 0) laws_toOpS.out) ⟨envOf (([.v (.sl 0)]).zipIdx.map fun q => (q.2, q.1)), hpOf [.rows 4 false a0], (flags laws_toOpS.sig).length⟩ = laws_toOpS.f k a0 := by kernel_rfl
theorem laws_toOpS.ok (k : Nat) : CSound Try.prog 79 (laws_toOpS.C k) :=
  csound κ_ok mixed tok (laws_toOpS.hΓ k) (LH := laws_toOpS.LH k) (fn := Try.f79) (c := bodyOf Try.f79) Try.func79 rfl Try.call79 laws_toOpS.sig [(2, [some 9])] (laws_toOpS.body k) (by kernel_rfl) (laws_toOpS.lok k) (by decide) fun vs bs lf y hl hb hy => by
    unfold laws_toOpS.body at hb
    split at hb
    · obtain ⟨_, rfl, hb_1⟩ := asO_bind hb
      obtain rfl := Option.some.inj hb_1
      exact ⟨laws_toOpS.out, laws_toOpS.out_ok, (laws_toOpS.den k _).trans hy⟩
    · cases hb
/-! ### laws_toPackage -/
def laws_toPackage.f (k : Nat) (a0_0 : Int) (a0_1 : Int) (a0_2 : Int) (a0_3 : List T_laws_Grant) (a0_4 : List T_laws_Flow) (a0_5 : List T_laws_Rule) (a0_6 : List T_laws_Op) (a0_7 : Int) : Option (Int × Int × Int × Int × List T_impl_Grant × List T_impl_Flow × List T_impl_Rule × List T_impl_Op) :=
  (laws_toGrantS.f k a0_3).bind fun t1 => (laws_toFlowS.f k a0_4).bind fun t2 => (laws_toRuleS.f k a0_5).bind fun t3 => (laws_toOpS.f k a0_6).bind fun t4 => some (a0_0, a0_1, a0_2, a0_7, t1, t2, t3, t4)
def laws_toPackage.Γ (k : Nat) : Ct κ := assoc [(76, laws_toGrantS.C k), (77, laws_toFlowS.C k), (78, laws_toRuleS.C k), (79, laws_toOpS.C k)]
def laws_toPackage.LH (k : Nat) : Nat → Option (LHi κ) := assoc []
theorem laws_toPackage.hΓ (k : Nat) : ∀ f g, laws_toPackage.Γ k f = some g → CSound Try.prog f g := G_cons (laws_toGrantS.ok k) (G_cons (laws_toFlowS.ok k) (G_cons (laws_toRuleS.ok k) (G_cons (laws_toOpS.ok k) G_nil)))
theorem laws_toPackage.lok (k : Nat) : LOK ti (laws_toPackage.Γ k) (laws_toPackage.LH k) 4 (loopsOf (bodyOf Try.f58)) :=
  (show loopsOf (bodyOf Try.f58) = [] by kernel_rfl) ▸ LOK_nil
def laws_toPackage.sig : List PSh := [.agg [.sc, .sc, .sc, .ro 1, .ro 2, .ro 3, .ro 4, .sc]]
def laws_toPackage.g (y : Int × Int × Int × Int × List T_impl_Grant × List T_impl_Flow × List T_impl_Rule × List T_impl_Op) : Ret κ := ⟨.agg [.int .i64 y.1, .int .i64 y.2.1, .int .i64 y.2.2.1, .sl 4, .sl 5, .sl 6, .sl 7, .int .i64 y.2.2.2.1], [], [.rows 6 true y.2.2.2.2.1, .rows 7 true y.2.2.2.2.2.1, .rows 8 true y.2.2.2.2.2.2.1, .rows 9 true y.2.2.2.2.2.2.2]⟩
def laws_toPackage.out (r : Ret κ) : Option (Int × Int × Int × Int × List T_impl_Grant × List T_impl_Flow × List T_impl_Rule × List T_impl_Op) :=
  match r with
  | ⟨.agg [.int .i64 z0, .int .i64 z1, .int .i64 z2, .sl 4, .sl 5, .sl 6, .sl 7, .int .i64 z3], [], [q4, q5, q6, q7]⟩ => (asO 6 true q4).bind fun z4 => (asO 7 true q5).bind fun z5 => (asO 8 true q6).bind fun z6 => (asO 9 true q7).bind fun z7 => some (z0, z1, z2, z3, z4, z5, z6, z7)
  | _ => none
theorem laws_toPackage.out_ok (r : Ret κ) (y : Int × Int × Int × Int × List T_impl_Grant × List T_impl_Flow × List T_impl_Rule × List T_impl_Op) (h : laws_toPackage.out r = some y) : r = laws_toPackage.g y := by
  unfold laws_toPackage.out at h
  split at h
  · obtain ⟨_, rfl, h_1⟩ := asO_bind h
    obtain ⟨_, rfl, h_2⟩ := asO_bind h_1
    obtain ⟨_, rfl, h_3⟩ := asO_bind h_2
    obtain ⟨_, rfl, h_4⟩ := asO_bind h_3
    obtain rfl := Option.some.inj h_4
    rfl
  · cases h
def laws_toPackage.body (k : Nat) (vs : List AV) (bs : List (Blk κ)) : Option (Lf κ) :=
  match vs, bs with
  | [.agg [.int .i64 a0_0, .int .i64 a0_1, .int .i64 a0_2, .sl 0, .sl 1, .sl 2, .sl 3, .int .i64 a0_7]], [qb0, qb1, qb2, qb3] => (asO 1 false qb0).bind fun a0_3 => (asO 2 false qb1).bind fun a0_4 => (asO 3 false qb2).bind fun a0_5 => (asO 4 false qb3).bind fun a0_6 => some ⟨Int × Int × Int × Int × List T_impl_Grant × List T_impl_Flow × List T_impl_Rule × List T_impl_Op, laws_toPackage.f k a0_0 a0_1 a0_2 a0_3 a0_4 a0_5 a0_6 a0_7, laws_toPackage.g⟩
  | _, _ => none
def laws_toPackage.C (k : Nat) : Nat → List AV → AP κ AV := contract laws_toPackage.sig (laws_toPackage.body k)
theorem laws_toPackage.den (k : Nat) (a0_0 : Int) (a0_1 : Int) (a0_2 : Int) (a0_3 : List T_laws_Grant) (a0_4 : List T_laws_Flow) (a0_5 : List T_laws_Rule) (a0_6 : List T_laws_Op) (a0_7 : Int) : Code.den ti (laws_toPackage.Γ k) (laws_toPackage.LH k) (bodyOf Try.f58) (finK ti Try.f58.results.toList [(2, [none, none, none, some 6, some 7, some 8, some 9, none])] (flags laws_toPackage.sig).length (rwI (flags laws_toPackage.sig) 0) laws_toPackage.out) ⟨envOf (([.agg [.int .i64 a0_0, .int .i64 a0_1, .int .i64 a0_2, .sl 0, .sl 1, .sl 2, .sl 3, .int .i64 a0_7]]).zipIdx.map fun q => (q.2, q.1)), hpOf [.rows 1 false a0_3, .rows 2 false a0_4, .rows 3 false a0_5, .rows 4 false a0_6], (flags laws_toPackage.sig).length⟩ = laws_toPackage.f k a0_0 a0_1 a0_2 a0_3 a0_4 a0_5 a0_6 a0_7 := by kernel_rfl
theorem laws_toPackage.ok (k : Nat) : CSound Try.prog 58 (laws_toPackage.C k) :=
  csound κ_ok mixed tok (laws_toPackage.hΓ k) (LH := laws_toPackage.LH k) (fn := Try.f58) (c := bodyOf Try.f58) Try.func58 rfl Try.call58 laws_toPackage.sig [(2, [none, none, none, some 6, some 7, some 8, some 9, none])] (laws_toPackage.body k) (by kernel_rfl) (laws_toPackage.lok k) (by decide) fun vs bs lf y hl hb hy => by
    unfold laws_toPackage.body at hb
    split at hb
    · obtain ⟨_, rfl, hb_1⟩ := asO_bind hb
      obtain ⟨_, rfl, hb_2⟩ := asO_bind hb_1
      obtain ⟨_, rfl, hb_3⟩ := asO_bind hb_2
      obtain ⟨_, rfl, hb_4⟩ := asO_bind hb_3
      obtain rfl := Option.some.inj hb_4
      exact ⟨laws_toPackage.out, laws_toPackage.out_ok, (laws_toPackage.den k _ _ _ _ _ _ _ _).trans hy⟩
    · cases hb
/-! ### laws_toSnapshot -/
def laws_toSnapshot.f (k : Nat) (a0_0 : Int) (a0_1 : Int) (a0_2 : Int) (a0_3 : List T_laws_Grant) (a0_4 : List T_laws_Flow) (a0_5 : List T_laws_Rule) (a0_6 : List T_laws_Op) (a0_7 : Int) (a0_8 : List T_laws_Stored) : Option (Int × Int × Int × Int × List T_impl_Grant × List T_impl_Flow × List T_impl_Rule × List T_impl_Op × List T_impl_Stored) :=
  (laws_toPackage.f k a0_0 a0_1 a0_2 a0_3 a0_4 a0_5 a0_6 a0_7).bind fun t1 => (laws_toStoredS.f k a0_8).bind fun t2 => some (t1.1, t1.2.1, t1.2.2.1, t1.2.2.2.1, t1.2.2.2.2.1, t1.2.2.2.2.2.1, t1.2.2.2.2.2.2.1, t1.2.2.2.2.2.2.2, t2)
def laws_toSnapshot.Γ (k : Nat) : Ct κ := assoc [(58, laws_toPackage.C k), (18, laws_toStoredS.C k)]
def laws_toSnapshot.LH (k : Nat) : Nat → Option (LHi κ) := assoc []
theorem laws_toSnapshot.hΓ (k : Nat) : ∀ f g, laws_toSnapshot.Γ k f = some g → CSound Try.prog f g := G_cons (laws_toPackage.ok k) (G_cons (laws_toStoredS.ok k) G_nil)
theorem laws_toSnapshot.lok (k : Nat) : LOK ti (laws_toSnapshot.Γ k) (laws_toSnapshot.LH k) 5 (loopsOf (bodyOf Try.f32)) :=
  (show loopsOf (bodyOf Try.f32) = [] by kernel_rfl) ▸ LOK_nil
def laws_toSnapshot.sig : List PSh := [.agg [.sc, .sc, .sc, .ro 1, .ro 2, .ro 3, .ro 4, .sc, .ro 0]]
def laws_toSnapshot.g (y : Int × Int × Int × Int × List T_impl_Grant × List T_impl_Flow × List T_impl_Rule × List T_impl_Op × List T_impl_Stored) : Ret κ := ⟨.agg [.int .i64 y.1, .int .i64 y.2.1, .int .i64 y.2.2.1, .sl 5, .sl 6, .sl 7, .sl 8, .int .i64 y.2.2.2.1, .sl 9], [], [.rows 6 true y.2.2.2.2.1, .rows 7 true y.2.2.2.2.2.1, .rows 8 true y.2.2.2.2.2.2.1, .rows 9 true y.2.2.2.2.2.2.2.1, .rows 5 true y.2.2.2.2.2.2.2.2]⟩
def laws_toSnapshot.out (r : Ret κ) : Option (Int × Int × Int × Int × List T_impl_Grant × List T_impl_Flow × List T_impl_Rule × List T_impl_Op × List T_impl_Stored) :=
  match r with
  | ⟨.agg [.int .i64 z0, .int .i64 z1, .int .i64 z2, .sl 5, .sl 6, .sl 7, .sl 8, .int .i64 z3, .sl 9], [], [q4, q5, q6, q7, q8]⟩ => (asO 6 true q4).bind fun z4 => (asO 7 true q5).bind fun z5 => (asO 8 true q6).bind fun z6 => (asO 9 true q7).bind fun z7 => (asO 5 true q8).bind fun z8 => some (z0, z1, z2, z3, z4, z5, z6, z7, z8)
  | _ => none
theorem laws_toSnapshot.out_ok (r : Ret κ) (y : Int × Int × Int × Int × List T_impl_Grant × List T_impl_Flow × List T_impl_Rule × List T_impl_Op × List T_impl_Stored) (h : laws_toSnapshot.out r = some y) : r = laws_toSnapshot.g y := by
  unfold laws_toSnapshot.out at h
  split at h
  · obtain ⟨_, rfl, h_1⟩ := asO_bind h
    obtain ⟨_, rfl, h_2⟩ := asO_bind h_1
    obtain ⟨_, rfl, h_3⟩ := asO_bind h_2
    obtain ⟨_, rfl, h_4⟩ := asO_bind h_3
    obtain ⟨_, rfl, h_5⟩ := asO_bind h_4
    obtain rfl := Option.some.inj h_5
    rfl
  · cases h
def laws_toSnapshot.body (k : Nat) (vs : List AV) (bs : List (Blk κ)) : Option (Lf κ) :=
  match vs, bs with
  | [.agg [.int .i64 a0_0, .int .i64 a0_1, .int .i64 a0_2, .sl 0, .sl 1, .sl 2, .sl 3, .int .i64 a0_7, .sl 4]], [qb0, qb1, qb2, qb3, qb4] => (asO 1 false qb0).bind fun a0_3 => (asO 2 false qb1).bind fun a0_4 => (asO 3 false qb2).bind fun a0_5 => (asO 4 false qb3).bind fun a0_6 => (asO 0 false qb4).bind fun a0_8 => some ⟨Int × Int × Int × Int × List T_impl_Grant × List T_impl_Flow × List T_impl_Rule × List T_impl_Op × List T_impl_Stored, laws_toSnapshot.f k a0_0 a0_1 a0_2 a0_3 a0_4 a0_5 a0_6 a0_7 a0_8, laws_toSnapshot.g⟩
  | _, _ => none
def laws_toSnapshot.C (k : Nat) : Nat → List AV → AP κ AV := contract laws_toSnapshot.sig (laws_toSnapshot.body k)
theorem laws_toSnapshot.den (k : Nat) (a0_0 : Int) (a0_1 : Int) (a0_2 : Int) (a0_3 : List T_laws_Grant) (a0_4 : List T_laws_Flow) (a0_5 : List T_laws_Rule) (a0_6 : List T_laws_Op) (a0_7 : Int) (a0_8 : List T_laws_Stored) : Code.den ti (laws_toSnapshot.Γ k) (laws_toSnapshot.LH k) (bodyOf Try.f32) (finK ti Try.f32.results.toList [(2, [none, none, none, some 6, some 7, some 8, some 9, none, some 5])] (flags laws_toSnapshot.sig).length (rwI (flags laws_toSnapshot.sig) 0) laws_toSnapshot.out) ⟨envOf (([.agg [.int .i64 a0_0, .int .i64 a0_1, .int .i64 a0_2, .sl 0, .sl 1, .sl 2, .sl 3, .int .i64 a0_7, .sl 4]]).zipIdx.map fun q => (q.2, q.1)), hpOf [.rows 1 false a0_3, .rows 2 false a0_4, .rows 3 false a0_5, .rows 4 false a0_6, .rows 0 false a0_8], (flags laws_toSnapshot.sig).length⟩ = laws_toSnapshot.f k a0_0 a0_1 a0_2 a0_3 a0_4 a0_5 a0_6 a0_7 a0_8 := by kernel_rfl
theorem laws_toSnapshot.ok (k : Nat) : CSound Try.prog 32 (laws_toSnapshot.C k) :=
  csound κ_ok mixed tok (laws_toSnapshot.hΓ k) (LH := laws_toSnapshot.LH k) (fn := Try.f32) (c := bodyOf Try.f32) Try.func32 rfl Try.call32 laws_toSnapshot.sig [(2, [none, none, none, some 6, some 7, some 8, some 9, none, some 5])] (laws_toSnapshot.body k) (by kernel_rfl) (laws_toSnapshot.lok k) (by decide) fun vs bs lf y hl hb hy => by
    unfold laws_toSnapshot.body at hb
    split at hb
    · obtain ⟨_, rfl, hb_1⟩ := asO_bind hb
      obtain ⟨_, rfl, hb_2⟩ := asO_bind hb_1
      obtain ⟨_, rfl, hb_3⟩ := asO_bind hb_2
      obtain ⟨_, rfl, hb_4⟩ := asO_bind hb_3
      obtain ⟨_, rfl, hb_5⟩ := asO_bind hb_4
      obtain rfl := Option.some.inj hb_5
      exact ⟨laws_toSnapshot.out, laws_toSnapshot.out_ok, (laws_toSnapshot.den k _ _ _ _ _ _ _ _ _).trans hy⟩
    · cases hb
/-! ### spec_DropStored -/
def spec_DropStored.L3 {R : Type} (k : Nat) (x1 : Int) (xl0 : List T_impl_Stored) (X0 : List T_impl_Stored → Option R) (rec : Int → List T_impl_Stored → Option R) (x3 : Int) (xl1 : List T_impl_Stored) : Option R :=
  (bif decide (x3 < (xl0.length : Int)) then (bif decide (0 ≤ x3) then (bif decide (x3 < (xl0.length : Int)) then (bif ((rd_impl_Stored xl0 x3).f0 != x1) then (bif decide (0 ≤ x3) then (bif decide (x3 < (xl0.length : Int)) then (bif decide ((xl1.length + ([(⟨(rd_impl_Stored xl0 x3).f0, (rd_impl_Stored xl0 x3).f1, (rd_impl_Stored xl0 x3).f2, (rd_impl_Stored xl0 x3).f3⟩ : T_impl_Stored)] : List T_impl_Stored).length) * 32 ≤ cap48) then (let l1 : List T_impl_Stored := (xl1 ++ ([(⟨(rd_impl_Stored xl0 x3).f0, (rd_impl_Stored xl0 x3).f1, (rd_impl_Stored xl0 x3).f2, (rd_impl_Stored xl0 x3).f3⟩ : T_impl_Stored)] : List T_impl_Stored)); (rec (w64 (x3 + (1 : Int))) l1)) else none) else none) else none) else (rec (w64 (x3 + (1 : Int))) xl1)) else none) else none) else (X0 xl1))
def spec_DropStored.l3 {R : Type} (k : Nat) (x1 : Int) (xl0 : List T_impl_Stored) (X0 : List T_impl_Stored → Option R) : Nat → Int → List T_impl_Stored → Option R
  | 0 => fun _ _ => none
  | n + 1 => spec_DropStored.L3 k x1 xl0 X0 (spec_DropStored.l3 k x1 xl0 X0 n)
def spec_DropStored.f (k : Nat) (a0 : List T_impl_Stored) (a1 : Int) : Option (List T_impl_Stored) :=
  (spec_DropStored.l3 k a1 a0 (fun (y2 : List T_impl_Stored) => some y2) k (0 : Int) ([] : List T_impl_Stored))
def spec_DropStored.h3 (k : Nat) {R : Type} (K : Ex → St κ → Option R) (vs : List AV) (bs : List (Blk κ)) : Option R :=
  match vs, bs with
  | [.v (.sl 0), .v (.int .i64 x1), .v (.sl 1), .v (.int .i64 x3)], [qb0, qb1] => (asO 5 false qb0).bind fun xl0 => (asO 5 true qb1).bind fun xl1 => spec_DropStored.l3 k x1 xl0 (fun (zl1 : List T_impl_Stored) => K (.exit 0) (stOf [(5, [some 5])] [.v (.sl 1)] [.rows 5 false xl0, .rows 5 true zl1])) k x3 xl1
  | _, _ => none
def spec_DropStored.Γ (k : Nat) : Ct κ := assoc []
def spec_DropStored.LH (k : Nat) : Nat → Option (LHi κ) := assoc [(3, ⟨1, [(0, [some 5]), (1, []), (5, [some 5]), (6, [])], [(5, [some 5])], @spec_DropStored.h3 k⟩)]
theorem spec_DropStored.hΓ (k : Nat) : ∀ f g, spec_DropStored.Γ k f = some g → CSound Try.prog f g := G_nil
theorem spec_DropStored.e3 {R : Type} (K : Ex → St κ → Option R) (k : Nat) (x1 : Int) (xl0 : List T_impl_Stored) : ∀ (n : Nat) (x3 : Int) (xl1 : List T_impl_Stored), loopN 1 (Code.den ti (spec_DropStored.Γ k) (spec_DropStored.LH k) (loopAt Try.f56 0)) [(0, [some 5]), (1, []), (5, [some 5]), (6, [])] [(5, [some 5])] K n [.v (.sl 0), .v (.int .i64 x1), .v (.sl 1), .v (.int .i64 x3)] [.rows 5 false xl0, .rows 5 true xl1] = spec_DropStored.l3 k x1 xl0 (fun (zl1 : List T_impl_Stored) => K (.exit 0) (stOf [(5, [some 5])] [.v (.sl 1)] [.rows 5 false xl0, .rows 5 true zl1])) n x3 xl1
  | 0, _, _ => rfl
  | n + 1, x3, xl1 => (show loopN 1 (Code.den ti (spec_DropStored.Γ k) (spec_DropStored.LH k) (loopAt Try.f56 0)) [(0, [some 5]), (1, []), (5, [some 5]), (6, [])] [(5, [some 5])] K (n + 1) [.v (.sl 0), .v (.int .i64 x1), .v (.sl 1), .v (.int .i64 x3)] [.rows 5 false xl0, .rows 5 true xl1] = spec_DropStored.L3 k x1 xl0 (fun (zl1 : List T_impl_Stored) => K (.exit 0) (stOf [(5, [some 5])] [.v (.sl 1)] [.rows 5 false xl0, .rows 5 true zl1])) (fun (x3' : Int) (xl1' : List T_impl_Stored) => loopN 1 (Code.den ti (spec_DropStored.Γ k) (spec_DropStored.LH k) (loopAt Try.f56 0)) [(0, [some 5]), (1, []), (5, [some 5]), (6, [])] [(5, [some 5])] K n [.v (.sl 0), .v (.int .i64 x1), .v (.sl 1), .v (.int .i64 x3')] [.rows 5 false xl0, .rows 5 true xl1']) x3 xl1 by kernel_rfl).trans (congrArg (fun rec => spec_DropStored.L3 k x1 xl0 (fun (zl1 : List T_impl_Stored) => K (.exit 0) (stOf [(5, [some 5])] [.v (.sl 1)] [.rows 5 false xl0, .rows 5 true zl1])) rec x3 xl1) (funext fun x3' => funext fun xl1' => spec_DropStored.e3 K k x1 xl0 n x3' xl1'))
theorem spec_DropStored.q3 (k : Nat) {R : Type} (K : Ex → St κ → Option R) (vs : List AV) (bs : List (Blk κ)) (r : R) (h : spec_DropStored.h3 k K vs bs = some r) : ∃ n, loopN 1 (Code.den ti (spec_DropStored.Γ k) (spec_DropStored.LH k) (loopAt Try.f56 0)) [(0, [some 5]), (1, []), (5, [some 5]), (6, [])] [(5, [some 5])] K n vs bs = some r := by
  unfold spec_DropStored.h3 at h
  split at h
  · obtain ⟨_, rfl, h_1⟩ := asO_bind h
    obtain ⟨_, rfl, h_2⟩ := asO_bind h_1
    exact ⟨k, (spec_DropStored.e3 K k _ _ k _ _).trans h_2⟩
  · cases h
theorem spec_DropStored.lok (k : Nat) : LOK ti (spec_DropStored.Γ k) (spec_DropStored.LH k) 1 (loopsOf (bodyOf Try.f56)) :=
  (show loopsOf (bodyOf Try.f56) = [loopAt Try.f56 0] by kernel_rfl) ▸ (LOK_cons (g := ⟨1, [(0, [some 5]), (1, []), (5, [some 5]), (6, [])], [(5, [some 5])], @spec_DropStored.h3 k⟩) (by kernel_rfl) rfl (fun K vs xs r h => spec_DropStored.q3 k K vs xs r h) (LOK_nil))
def spec_DropStored.sig : List PSh := [.one (.ro 5), .one .sc]
def spec_DropStored.g (y : List T_impl_Stored) : Ret κ := ⟨.v (.sl 1), [], [.rows 5 true y]⟩
def spec_DropStored.out (r : Ret κ) : Option (List T_impl_Stored) :=
  match r with
  | ⟨.v (.sl 1), [], [q0]⟩ => (asO 5 true q0).bind fun z0 => some (z0)
  | _ => none
theorem spec_DropStored.out_ok (r : Ret κ) (y : List T_impl_Stored) (h : spec_DropStored.out r = some y) : r = spec_DropStored.g y := by
  unfold spec_DropStored.out at h
  split at h
  · obtain ⟨_, rfl, h_1⟩ := asO_bind h
    obtain rfl := Option.some.inj h_1
    rfl
  · cases h
def spec_DropStored.body (k : Nat) (vs : List AV) (bs : List (Blk κ)) : Option (Lf κ) :=
  match vs, bs with
  | [.v (.sl 0), .v (.int .i64 a1)], [qb0] => (asO 5 false qb0).bind fun a0 => some ⟨List T_impl_Stored, spec_DropStored.f k a0 a1, spec_DropStored.g⟩
  | _, _ => none
def spec_DropStored.C (k : Nat) : Nat → List AV → AP κ AV := contract spec_DropStored.sig (spec_DropStored.body k)
theorem spec_DropStored.den (k : Nat) (a0 : List T_impl_Stored) (a1 : Int) : Code.den ti (spec_DropStored.Γ k) (spec_DropStored.LH k) (bodyOf Try.f56) (finK ti Try.f56.results.toList [(4, [some 5])] (flags spec_DropStored.sig).length (rwI (flags spec_DropStored.sig) 0) spec_DropStored.out) ⟨envOf (([.v (.sl 0), .v (.int .i64 a1)]).zipIdx.map fun q => (q.2, q.1)), hpOf [.rows 5 false a0], (flags spec_DropStored.sig).length⟩ = spec_DropStored.f k a0 a1 := by kernel_rfl
theorem spec_DropStored.ok (k : Nat) : CSound Try.prog 56 (spec_DropStored.C k) :=
  csound κ_ok mixed tok (spec_DropStored.hΓ k) (LH := spec_DropStored.LH k) (fn := Try.f56) (c := bodyOf Try.f56) Try.func56 rfl Try.call56 spec_DropStored.sig [(4, [some 5])] (spec_DropStored.body k) (by kernel_rfl) (spec_DropStored.lok k) (by decide) fun vs bs lf y hl hb hy => by
    unfold spec_DropStored.body at hb
    split at hb
    · obtain ⟨_, rfl, hb_1⟩ := asO_bind hb
      obtain rfl := Option.some.inj hb_1
      exact ⟨spec_DropStored.out, spec_DropStored.out_ok, (spec_DropStored.den k _ _).trans hy⟩
    · cases hb
/-! ### spec_l24Less -/
def spec_l24Less.f (k : Nat) (a0_0 : Int) (a0_1 : Int) (a0_2 : Int) (a0_3 : Int) (a1_0 : Int) (a1_1 : Int) (a1_2 : Int) (a1_3 : Int) : Option Bool :=
  (bif decide (a0_0 < a1_0) then some true else (bif (a0_0 == a1_0) then some (decide (a0_1 < a1_1)) else some false))
def spec_l24Less.Γ (k : Nat) : Ct κ := assoc []
def spec_l24Less.LH (k : Nat) : Nat → Option (LHi κ) := assoc []
theorem spec_l24Less.hΓ (k : Nat) : ∀ f g, spec_l24Less.Γ k f = some g → CSound Try.prog f g := G_nil
theorem spec_l24Less.lok (k : Nat) : LOK ti (spec_l24Less.Γ k) (spec_l24Less.LH k) 0 (loopsOf (bodyOf Try.f67)) :=
  (show loopsOf (bodyOf Try.f67) = [] by kernel_rfl) ▸ LOK_nil
def spec_l24Less.sig : List PSh := [.agg [.sc, .sc, .sc, .sc], .agg [.sc, .sc, .sc, .sc]]
def spec_l24Less.g (y : Bool) : Ret κ := ⟨.v (.bool y), [], []⟩
def spec_l24Less.out (r : Ret κ) : Option Bool :=
  match r with
  | ⟨.v (.bool z0), [], []⟩ => some (z0)
  | _ => none
theorem spec_l24Less.out_ok (r : Ret κ) (y : Bool) (h : spec_l24Less.out r = some y) : r = spec_l24Less.g y := by
  unfold spec_l24Less.out at h
  split at h
  · obtain rfl := Option.some.inj h
    rfl
  · cases h
def spec_l24Less.body (k : Nat) (vs : List AV) (bs : List (Blk κ)) : Option (Lf κ) :=
  match vs, bs with
  | [.agg [.int .i64 a0_0, .int .i64 a0_1, .int .i64 a0_2, .int .i64 a0_3], .agg [.int .i64 a1_0, .int .i64 a1_1, .int .i64 a1_2, .int .i64 a1_3]], [] => some ⟨Bool, spec_l24Less.f k a0_0 a0_1 a0_2 a0_3 a1_0 a1_1 a1_2 a1_3, spec_l24Less.g⟩
  | _, _ => none
def spec_l24Less.C (k : Nat) : Nat → List AV → AP κ AV := contract spec_l24Less.sig (spec_l24Less.body k)
theorem spec_l24Less.den (k : Nat) (a0_0 : Int) (a0_1 : Int) (a0_2 : Int) (a0_3 : Int) (a1_0 : Int) (a1_1 : Int) (a1_2 : Int) (a1_3 : Int) : Code.den ti (spec_l24Less.Γ k) (spec_l24Less.LH k) (bodyOf Try.f67) (finK ti Try.f67.results.toList [] (flags spec_l24Less.sig).length (rwI (flags spec_l24Less.sig) 0) spec_l24Less.out) ⟨envOf (([.agg [.int .i64 a0_0, .int .i64 a0_1, .int .i64 a0_2, .int .i64 a0_3], .agg [.int .i64 a1_0, .int .i64 a1_1, .int .i64 a1_2, .int .i64 a1_3]]).zipIdx.map fun q => (q.2, q.1)), hpOf [], (flags spec_l24Less.sig).length⟩ = spec_l24Less.f k a0_0 a0_1 a0_2 a0_3 a1_0 a1_1 a1_2 a1_3 := by kernel_rfl
theorem spec_l24Less.ok (k : Nat) : CSound Try.prog 67 (spec_l24Less.C k) :=
  csound κ_ok mixed tok (spec_l24Less.hΓ k) (LH := spec_l24Less.LH k) (fn := Try.f67) (c := bodyOf Try.f67) Try.func67 rfl Try.call67 spec_l24Less.sig [] (spec_l24Less.body k) (by kernel_rfl) (spec_l24Less.lok k) (by decide) fun vs bs lf y hl hb hy => by
    unfold spec_l24Less.body at hb
    split at hb
    · obtain rfl := Option.some.inj hb
      exact ⟨spec_l24Less.out, spec_l24Less.out_ok, (spec_l24Less.den k _ _ _ _ _ _ _ _).trans hy⟩
    · cases hb
/-! ### spec_l24Set -/
def spec_l24Set.L3 {R : Type} (k : Nat) (xl0 : List T_impl_Stored) (xc1_0 : Int) (xc1_1 : Int) (xc1_2 : Int) (xc1_3 : Int) (X0 : Int → List T_impl_Stored → Option R) (rec : Int → List T_impl_Stored → Option R) (x3 : Int) (xl2 : List T_impl_Stored) : Option R :=
  (bif decide (x3 < (xl0.length : Int)) then (bif decide (0 ≤ x3) then (bif decide (x3 < (xl0.length : Int)) then (spec_l24Less.f k ((rd_impl_Stored xl0 x3).f0) ((rd_impl_Stored xl0 x3).f1) ((rd_impl_Stored xl0 x3).f2) ((rd_impl_Stored xl0 x3).f3) xc1_0 xc1_1 xc1_2 xc1_3).bind fun t1 => (bif t1 then (bif decide (0 ≤ x3) then (bif decide (x3 < (xl0.length : Int)) then (bif decide ((xl2.length + ([(⟨(rd_impl_Stored xl0 x3).f0, (rd_impl_Stored xl0 x3).f1, (rd_impl_Stored xl0 x3).f2, (rd_impl_Stored xl0 x3).f3⟩ : T_impl_Stored)] : List T_impl_Stored).length) * 32 ≤ cap48) then (let l2 : List T_impl_Stored := (xl2 ++ ([(⟨(rd_impl_Stored xl0 x3).f0, (rd_impl_Stored xl0 x3).f1, (rd_impl_Stored xl0 x3).f2, (rd_impl_Stored xl0 x3).f3⟩ : T_impl_Stored)] : List T_impl_Stored)); (rec (w64 (x3 + (1 : Int))) l2)) else none) else none) else none) else (X0 x3 xl2)) else none) else none) else (X0 x3 xl2))
def spec_l24Set.l3 {R : Type} (k : Nat) (xl0 : List T_impl_Stored) (xc1_0 : Int) (xc1_1 : Int) (xc1_2 : Int) (xc1_3 : Int) (X0 : Int → List T_impl_Stored → Option R) : Nat → Int → List T_impl_Stored → Option R
  | 0 => fun _ _ => none
  | n + 1 => spec_l24Set.L3 k xl0 xc1_0 xc1_1 xc1_2 xc1_3 X0 (spec_l24Set.l3 k xl0 xc1_0 xc1_1 xc1_2 xc1_3 X0 n)
def spec_l24Set.f (k : Nat) (a0 : List T_impl_Stored) (a1_0 : Int) (a1_1 : Int) (a1_2 : Int) (a1_3 : Int) : Option (List T_impl_Stored) :=
  (spec_l24Set.l3 k a0 a1_0 a1_1 a1_2 a1_3 (fun (y3 : Int) (y4 : List T_impl_Stored) => (bif decide ((y4.length + ([(⟨a1_0, a1_1, a1_2, a1_3⟩ : T_impl_Stored)] : List T_impl_Stored).length) * 32 ≤ cap48) then (let l5 : List T_impl_Stored := (y4 ++ ([(⟨a1_0, a1_1, a1_2, a1_3⟩ : T_impl_Stored)] : List T_impl_Stored)); (bif decide (y3 < (a0.length : Int)) then (bif decide (0 ≤ y3) then (bif decide (y3 < (a0.length : Int)) then (spec_l24Less.f k a1_0 a1_1 a1_2 a1_3 ((rd_impl_Stored a0 y3).f0) ((rd_impl_Stored a0 y3).f1) ((rd_impl_Stored a0 y3).f2) ((rd_impl_Stored a0 y3).f3)).bind fun t6 => (bif !t6 then (bif decide (0 ≤ (a0.length : Int)) then (bif decide ((a0.length : Int) ≤ (a0.length : Int)) then (bif decide (0 ≤ (w64 (y3 + (1 : Int)))) then (bif decide ((w64 (y3 + (1 : Int))) ≤ (a0.length : Int)) then (bif decide ((l5.length + ((a0.take ((a0.length : Int)).toNat).drop ((w64 (y3 + (1 : Int)))).toNat).length) * 32 ≤ cap48) then (let l7 : List T_impl_Stored := (l5 ++ ((a0.take ((a0.length : Int)).toNat).drop ((w64 (y3 + (1 : Int)))).toNat)); some l7) else none) else none) else none) else none) else none) else (bif decide (0 ≤ (a0.length : Int)) then (bif decide ((a0.length : Int) ≤ (a0.length : Int)) then (bif decide (0 ≤ y3) then (bif decide (y3 ≤ (a0.length : Int)) then (bif decide ((l5.length + ((a0.take ((a0.length : Int)).toNat).drop (y3).toNat).length) * 32 ≤ cap48) then (let l8 : List T_impl_Stored := (l5 ++ ((a0.take ((a0.length : Int)).toNat).drop (y3).toNat)); some l8) else none) else none) else none) else none) else none)) else none) else none) else (bif decide (0 ≤ (a0.length : Int)) then (bif decide ((a0.length : Int) ≤ (a0.length : Int)) then (bif decide (0 ≤ y3) then (bif decide (y3 ≤ (a0.length : Int)) then (bif decide ((l5.length + ((a0.take ((a0.length : Int)).toNat).drop (y3).toNat).length) * 32 ≤ cap48) then (let l9 : List T_impl_Stored := (l5 ++ ((a0.take ((a0.length : Int)).toNat).drop (y3).toNat)); some l9) else none) else none) else none) else none) else none))) else none)) k (0 : Int) ([] : List T_impl_Stored))
def spec_l24Set.h3 (k : Nat) {R : Type} (K : Ex → St κ → Option R) (vs : List AV) (bs : List (Blk κ)) : Option R :=
  match vs, bs with
  | [.v (.sl 0), .v (.ptr 1 0 0), .v (.sl 2), .v (.int .i64 x3)], [qb0, .cells 48 [.int .i64 xc1_0, .int .i64 xc1_1, .int .i64 xc1_2, .int .i64 xc1_3], qb2] => (asO 5 false qb0).bind fun xl0 => (asO 5 true qb2).bind fun xl2 => spec_l24Set.l3 k xl0 xc1_0 xc1_1 xc1_2 xc1_3 (fun (z3 : Int) (zl2 : List T_impl_Stored) => K (.exit 0) (stOf [(0, [some 5]), (3, []), (5, [some 5]), (6, [])] [.v (.sl 0), .v (.ptr 1 0 0), .v (.sl 2), .v (.int .i64 z3)] [.rows 5 false xl0, .cells 48 [.int .i64 xc1_0, .int .i64 xc1_1, .int .i64 xc1_2, .int .i64 xc1_3], .rows 5 true zl2])) k x3 xl2
  | _, _ => none
def spec_l24Set.Γ (k : Nat) : Ct κ := assoc [(67, spec_l24Less.C k)]
def spec_l24Set.LH (k : Nat) : Nat → Option (LHi κ) := assoc [(3, ⟨1, [(0, [some 5]), (3, []), (5, [some 5]), (6, [])], [(0, [some 5]), (3, []), (5, [some 5]), (6, [])], @spec_l24Set.h3 k⟩)]
theorem spec_l24Set.hΓ (k : Nat) : ∀ f g, spec_l24Set.Γ k f = some g → CSound Try.prog f g := G_cons (spec_l24Less.ok k) G_nil
theorem spec_l24Set.e3 {R : Type} (K : Ex → St κ → Option R) (k : Nat) (xl0 : List T_impl_Stored) (xc1_0 : Int) (xc1_1 : Int) (xc1_2 : Int) (xc1_3 : Int) : ∀ (n : Nat) (x3 : Int) (xl2 : List T_impl_Stored), loopN 1 (Code.den ti (spec_l24Set.Γ k) (spec_l24Set.LH k) (loopAt Try.f47 0)) [(0, [some 5]), (3, []), (5, [some 5]), (6, [])] [(0, [some 5]), (3, []), (5, [some 5]), (6, [])] K n [.v (.sl 0), .v (.ptr 1 0 0), .v (.sl 2), .v (.int .i64 x3)] [.rows 5 false xl0, .cells 48 [.int .i64 xc1_0, .int .i64 xc1_1, .int .i64 xc1_2, .int .i64 xc1_3], .rows 5 true xl2] = spec_l24Set.l3 k xl0 xc1_0 xc1_1 xc1_2 xc1_3 (fun (z3 : Int) (zl2 : List T_impl_Stored) => K (.exit 0) (stOf [(0, [some 5]), (3, []), (5, [some 5]), (6, [])] [.v (.sl 0), .v (.ptr 1 0 0), .v (.sl 2), .v (.int .i64 z3)] [.rows 5 false xl0, .cells 48 [.int .i64 xc1_0, .int .i64 xc1_1, .int .i64 xc1_2, .int .i64 xc1_3], .rows 5 true zl2])) n x3 xl2
  | 0, _, _ => rfl
  | n + 1, x3, xl2 => (show loopN 1 (Code.den ti (spec_l24Set.Γ k) (spec_l24Set.LH k) (loopAt Try.f47 0)) [(0, [some 5]), (3, []), (5, [some 5]), (6, [])] [(0, [some 5]), (3, []), (5, [some 5]), (6, [])] K (n + 1) [.v (.sl 0), .v (.ptr 1 0 0), .v (.sl 2), .v (.int .i64 x3)] [.rows 5 false xl0, .cells 48 [.int .i64 xc1_0, .int .i64 xc1_1, .int .i64 xc1_2, .int .i64 xc1_3], .rows 5 true xl2] = spec_l24Set.L3 k xl0 xc1_0 xc1_1 xc1_2 xc1_3 (fun (z3 : Int) (zl2 : List T_impl_Stored) => K (.exit 0) (stOf [(0, [some 5]), (3, []), (5, [some 5]), (6, [])] [.v (.sl 0), .v (.ptr 1 0 0), .v (.sl 2), .v (.int .i64 z3)] [.rows 5 false xl0, .cells 48 [.int .i64 xc1_0, .int .i64 xc1_1, .int .i64 xc1_2, .int .i64 xc1_3], .rows 5 true zl2])) (fun (x3' : Int) (xl2' : List T_impl_Stored) => loopN 1 (Code.den ti (spec_l24Set.Γ k) (spec_l24Set.LH k) (loopAt Try.f47 0)) [(0, [some 5]), (3, []), (5, [some 5]), (6, [])] [(0, [some 5]), (3, []), (5, [some 5]), (6, [])] K n [.v (.sl 0), .v (.ptr 1 0 0), .v (.sl 2), .v (.int .i64 x3')] [.rows 5 false xl0, .cells 48 [.int .i64 xc1_0, .int .i64 xc1_1, .int .i64 xc1_2, .int .i64 xc1_3], .rows 5 true xl2']) x3 xl2 by kernel_rfl).trans (congrArg (fun rec => spec_l24Set.L3 k xl0 xc1_0 xc1_1 xc1_2 xc1_3 (fun (z3 : Int) (zl2 : List T_impl_Stored) => K (.exit 0) (stOf [(0, [some 5]), (3, []), (5, [some 5]), (6, [])] [.v (.sl 0), .v (.ptr 1 0 0), .v (.sl 2), .v (.int .i64 z3)] [.rows 5 false xl0, .cells 48 [.int .i64 xc1_0, .int .i64 xc1_1, .int .i64 xc1_2, .int .i64 xc1_3], .rows 5 true zl2])) rec x3 xl2) (funext fun x3' => funext fun xl2' => spec_l24Set.e3 K k xl0 xc1_0 xc1_1 xc1_2 xc1_3 n x3' xl2'))
theorem spec_l24Set.q3 (k : Nat) {R : Type} (K : Ex → St κ → Option R) (vs : List AV) (bs : List (Blk κ)) (r : R) (h : spec_l24Set.h3 k K vs bs = some r) : ∃ n, loopN 1 (Code.den ti (spec_l24Set.Γ k) (spec_l24Set.LH k) (loopAt Try.f47 0)) [(0, [some 5]), (3, []), (5, [some 5]), (6, [])] [(0, [some 5]), (3, []), (5, [some 5]), (6, [])] K n vs bs = some r := by
  unfold spec_l24Set.h3 at h
  split at h
  · obtain ⟨_, rfl, h_1⟩ := asO_bind h
    obtain ⟨_, rfl, h_2⟩ := asO_bind h_1
    exact ⟨k, (spec_l24Set.e3 K k _ _ _ _ _ k _ _).trans h_2⟩
  · cases h
theorem spec_l24Set.lok (k : Nat) : LOK ti (spec_l24Set.Γ k) (spec_l24Set.LH k) 1 (loopsOf (bodyOf Try.f47)) :=
  (show loopsOf (bodyOf Try.f47) = [loopAt Try.f47 0] by kernel_rfl) ▸ (LOK_cons (g := ⟨1, [(0, [some 5]), (3, []), (5, [some 5]), (6, [])], [(0, [some 5]), (3, []), (5, [some 5]), (6, [])], @spec_l24Set.h3 k⟩) (by kernel_rfl) rfl (fun K vs xs r h => spec_l24Set.q3 k K vs xs r h) (LOK_nil))
def spec_l24Set.sig : List PSh := [.one (.ro 5), .agg [.sc, .sc, .sc, .sc]]
def spec_l24Set.g (y : List T_impl_Stored) : Ret κ := ⟨.v (.sl 1), [], [.rows 5 true y]⟩
def spec_l24Set.out (r : Ret κ) : Option (List T_impl_Stored) :=
  match r with
  | ⟨.v (.sl 1), [], [q0]⟩ => (asO 5 true q0).bind fun z0 => some (z0)
  | _ => none
theorem spec_l24Set.out_ok (r : Ret κ) (y : List T_impl_Stored) (h : spec_l24Set.out r = some y) : r = spec_l24Set.g y := by
  unfold spec_l24Set.out at h
  split at h
  · obtain ⟨_, rfl, h_1⟩ := asO_bind h
    obtain rfl := Option.some.inj h_1
    rfl
  · cases h
def spec_l24Set.body (k : Nat) (vs : List AV) (bs : List (Blk κ)) : Option (Lf κ) :=
  match vs, bs with
  | [.v (.sl 0), .agg [.int .i64 a1_0, .int .i64 a1_1, .int .i64 a1_2, .int .i64 a1_3]], [qb0] => (asO 5 false qb0).bind fun a0 => some ⟨List T_impl_Stored, spec_l24Set.f k a0 a1_0 a1_1 a1_2 a1_3, spec_l24Set.g⟩
  | _, _ => none
def spec_l24Set.C (k : Nat) : Nat → List AV → AP κ AV := contract spec_l24Set.sig (spec_l24Set.body k)
theorem spec_l24Set.den (k : Nat) (a0 : List T_impl_Stored) (a1_0 : Int) (a1_1 : Int) (a1_2 : Int) (a1_3 : Int) : Code.den ti (spec_l24Set.Γ k) (spec_l24Set.LH k) (bodyOf Try.f47) (finK ti Try.f47.results.toList [(4, [some 5])] (flags spec_l24Set.sig).length (rwI (flags spec_l24Set.sig) 0) spec_l24Set.out) ⟨envOf (([.v (.sl 0), .agg [.int .i64 a1_0, .int .i64 a1_1, .int .i64 a1_2, .int .i64 a1_3]]).zipIdx.map fun q => (q.2, q.1)), hpOf [.rows 5 false a0], (flags spec_l24Set.sig).length⟩ = spec_l24Set.f k a0 a1_0 a1_1 a1_2 a1_3 := by kernel_rfl
theorem spec_l24Set.ok (k : Nat) : CSound Try.prog 47 (spec_l24Set.C k) :=
  csound κ_ok mixed tok (spec_l24Set.hΓ k) (LH := spec_l24Set.LH k) (fn := Try.f47) (c := bodyOf Try.f47) Try.func47 rfl Try.call47 spec_l24Set.sig [(4, [some 5])] (spec_l24Set.body k) (by kernel_rfl) (spec_l24Set.lok k) (by decide) fun vs bs lf y hl hb hy => by
    unfold spec_l24Set.body at hb
    split at hb
    · obtain ⟨_, rfl, hb_1⟩ := asO_bind hb
      obtain rfl := Option.some.inj hb_1
      exact ⟨spec_l24Set.out, spec_l24Set.out_ok, (spec_l24Set.den k _ _ _ _ _).trans hy⟩
    · cases hb
/-! ### spec_l1In -/
def spec_l1In.f (k : Nat) (a0 : Int) (a1 : Int) (a2 : Int) : Option Bool :=
  (bif decide (a0 ≥ a1) then some (decide (a0 ≤ a2)) else some false)
def spec_l1In.Γ (k : Nat) : Ct κ := assoc []
def spec_l1In.LH (k : Nat) : Nat → Option (LHi κ) := assoc []
theorem spec_l1In.hΓ (k : Nat) : ∀ f g, spec_l1In.Γ k f = some g → CSound Try.prog f g := G_nil
theorem spec_l1In.lok (k : Nat) : LOK ti (spec_l1In.Γ k) (spec_l1In.LH k) 0 (loopsOf (bodyOf Try.f66)) :=
  (show loopsOf (bodyOf Try.f66) = [] by kernel_rfl) ▸ LOK_nil
def spec_l1In.sig : List PSh := [.one .sc, .one .sc, .one .sc]
def spec_l1In.g (y : Bool) : Ret κ := ⟨.v (.bool y), [], []⟩
def spec_l1In.out (r : Ret κ) : Option Bool :=
  match r with
  | ⟨.v (.bool z0), [], []⟩ => some (z0)
  | _ => none
theorem spec_l1In.out_ok (r : Ret κ) (y : Bool) (h : spec_l1In.out r = some y) : r = spec_l1In.g y := by
  unfold spec_l1In.out at h
  split at h
  · obtain rfl := Option.some.inj h
    rfl
  · cases h
def spec_l1In.body (k : Nat) (vs : List AV) (bs : List (Blk κ)) : Option (Lf κ) :=
  match vs, bs with
  | [.v (.int .i64 a0), .v (.int .i64 a1), .v (.int .i64 a2)], [] => some ⟨Bool, spec_l1In.f k a0 a1 a2, spec_l1In.g⟩
  | _, _ => none
def spec_l1In.C (k : Nat) : Nat → List AV → AP κ AV := contract spec_l1In.sig (spec_l1In.body k)
theorem spec_l1In.den (k : Nat) (a0 : Int) (a1 : Int) (a2 : Int) : Code.den ti (spec_l1In.Γ k) (spec_l1In.LH k) (bodyOf Try.f66) (finK ti Try.f66.results.toList [] (flags spec_l1In.sig).length (rwI (flags spec_l1In.sig) 0) spec_l1In.out) ⟨envOf (([.v (.int .i64 a0), .v (.int .i64 a1), .v (.int .i64 a2)]).zipIdx.map fun q => (q.2, q.1)), hpOf [], (flags spec_l1In.sig).length⟩ = spec_l1In.f k a0 a1 a2 := by kernel_rfl
theorem spec_l1In.ok (k : Nat) : CSound Try.prog 66 (spec_l1In.C k) :=
  csound κ_ok mixed tok (spec_l1In.hΓ k) (LH := spec_l1In.LH k) (fn := Try.f66) (c := bodyOf Try.f66) Try.func66 rfl Try.call66 spec_l1In.sig [] (spec_l1In.body k) (by kernel_rfl) (spec_l1In.lok k) (by decide) fun vs bs lf y hl hb hy => by
    unfold spec_l1In.body at hb
    split at hb
    · obtain rfl := Option.some.inj hb
      exact ⟨spec_l1In.out, spec_l1In.out_ok, (spec_l1In.den k _ _ _).trans hy⟩
    · cases hb
/-! ### spec_IsStore -/
def spec_IsStore.L2 {R : Type} (k : Nat) (xl0 : List T_impl_Stored) (X0 : Bool → Option R) (X1 : Unit → Option R) (rec : Int → Option R) (x1 : Int) : Option R :=
  (bif decide (x1 < (xl0.length : Int)) then (bif decide (0 ≤ x1) then (bif decide (x1 < (xl0.length : Int)) then (spec_l1In.f k ((rd_impl_Stored xl0 x1).f0) (1 : Int) (5 : Int)).bind fun t1 => (bif !t1 then (X0 false) else (spec_l1In.f k ((rd_impl_Stored xl0 x1).f1) (0 : Int) (9 : Int)).bind fun t2 => (bif !t2 then (X0 false) else (spec_l1In.f k ((rd_impl_Stored xl0 x1).f2) (0 : Int) (999 : Int)).bind fun t3 => (bif !t3 then (X0 false) else (spec_l1In.f k ((rd_impl_Stored xl0 x1).f3) (1 : Int) (999 : Int)).bind fun t4 => (bif !t4 then (X0 false) else (bif decide (x1 > (0 : Int)) then (bif decide (0 ≤ (w64 (x1 - (1 : Int)))) then (bif decide ((w64 (x1 - (1 : Int))) < (xl0.length : Int)) then (spec_l24Less.f k ((rd_impl_Stored xl0 (w64 (x1 - (1 : Int)))).f0) ((rd_impl_Stored xl0 (w64 (x1 - (1 : Int)))).f1) ((rd_impl_Stored xl0 (w64 (x1 - (1 : Int)))).f2) ((rd_impl_Stored xl0 (w64 (x1 - (1 : Int)))).f3) ((rd_impl_Stored xl0 x1).f0) ((rd_impl_Stored xl0 x1).f1) ((rd_impl_Stored xl0 x1).f2) ((rd_impl_Stored xl0 x1).f3)).bind fun t5 => (bif !t5 then (X0 false) else (rec (w64 (x1 + (1 : Int))))) else none) else none) else (rec (w64 (x1 + (1 : Int))))))))) else none) else none) else (X1 ()))
def spec_IsStore.l2 {R : Type} (k : Nat) (xl0 : List T_impl_Stored) (X0 : Bool → Option R) (X1 : Unit → Option R) : Nat → Int → Option R
  | 0 => fun _ => none
  | n + 1 => spec_IsStore.L2 k xl0 X0 X1 (spec_IsStore.l2 k xl0 X0 X1 n)
def spec_IsStore.f (k : Nat) (a0 : List T_impl_Stored) : Option Bool :=
  (spec_IsStore.l2 k a0 (fun (y6 : Bool) => some y6) (fun (_ : Unit) => some (decide ((a0.length : Int) ≤ (24 : Int)))) k (0 : Int))
def spec_IsStore.h2 (k : Nat) {R : Type} (K : Ex → St κ → Option R) (vs : List AV) (bs : List (Blk κ)) : Option R :=
  match vs, bs with
  | [.v (.sl 0), .v (.int .i64 x1)], [qb0] => (asO 5 false qb0).bind fun xl0 => spec_IsStore.l2 k xl0 (fun (z1 : Bool) => K .ret (stOf [(0, [some 5]), (2, [])] [.v (.sl 0), .v (.bool z1)] [.rows 5 false xl0])) (fun (_ : Unit) => K (.exit 0) (stOf [(0, [some 5]), (2, [])] [.v (.sl 0), .v .any] [.rows 5 false xl0])) k x1
  | _, _ => none
def spec_IsStore.Γ (k : Nat) : Ct κ := assoc [(66, spec_l1In.C k), (67, spec_l24Less.C k)]
def spec_IsStore.LH (k : Nat) : Nat → Option (LHi κ) := assoc [(2, ⟨1, [(0, [some 5]), (3, [])], [(0, [some 5]), (2, [])], @spec_IsStore.h2 k⟩)]
theorem spec_IsStore.hΓ (k : Nat) : ∀ f g, spec_IsStore.Γ k f = some g → CSound Try.prog f g := G_cons (spec_l1In.ok k) (G_cons (spec_l24Less.ok k) G_nil)
theorem spec_IsStore.e2 {R : Type} (K : Ex → St κ → Option R) (k : Nat) (xl0 : List T_impl_Stored) : ∀ (n : Nat) (x1 : Int), loopN 1 (Code.den ti (spec_IsStore.Γ k) (spec_IsStore.LH k) (loopAt Try.f45 0)) [(0, [some 5]), (3, [])] [(0, [some 5]), (2, [])] K n [.v (.sl 0), .v (.int .i64 x1)] [.rows 5 false xl0] = spec_IsStore.l2 k xl0 (fun (z1 : Bool) => K .ret (stOf [(0, [some 5]), (2, [])] [.v (.sl 0), .v (.bool z1)] [.rows 5 false xl0])) (fun (_ : Unit) => K (.exit 0) (stOf [(0, [some 5]), (2, [])] [.v (.sl 0), .v .any] [.rows 5 false xl0])) n x1
  | 0, _ => rfl
  | n + 1, x1 => (show loopN 1 (Code.den ti (spec_IsStore.Γ k) (spec_IsStore.LH k) (loopAt Try.f45 0)) [(0, [some 5]), (3, [])] [(0, [some 5]), (2, [])] K (n + 1) [.v (.sl 0), .v (.int .i64 x1)] [.rows 5 false xl0] = spec_IsStore.L2 k xl0 (fun (z1 : Bool) => K .ret (stOf [(0, [some 5]), (2, [])] [.v (.sl 0), .v (.bool z1)] [.rows 5 false xl0])) (fun (_ : Unit) => K (.exit 0) (stOf [(0, [some 5]), (2, [])] [.v (.sl 0), .v .any] [.rows 5 false xl0])) (fun (x1' : Int) => loopN 1 (Code.den ti (spec_IsStore.Γ k) (spec_IsStore.LH k) (loopAt Try.f45 0)) [(0, [some 5]), (3, [])] [(0, [some 5]), (2, [])] K n [.v (.sl 0), .v (.int .i64 x1')] [.rows 5 false xl0]) x1 by kernel_rfl).trans (congrArg (fun rec => spec_IsStore.L2 k xl0 (fun (z1 : Bool) => K .ret (stOf [(0, [some 5]), (2, [])] [.v (.sl 0), .v (.bool z1)] [.rows 5 false xl0])) (fun (_ : Unit) => K (.exit 0) (stOf [(0, [some 5]), (2, [])] [.v (.sl 0), .v .any] [.rows 5 false xl0])) rec x1) (funext fun x1' => spec_IsStore.e2 K k xl0 n x1'))
theorem spec_IsStore.q2 (k : Nat) {R : Type} (K : Ex → St κ → Option R) (vs : List AV) (bs : List (Blk κ)) (r : R) (h : spec_IsStore.h2 k K vs bs = some r) : ∃ n, loopN 1 (Code.den ti (spec_IsStore.Γ k) (spec_IsStore.LH k) (loopAt Try.f45 0)) [(0, [some 5]), (3, [])] [(0, [some 5]), (2, [])] K n vs bs = some r := by
  unfold spec_IsStore.h2 at h
  split at h
  · obtain ⟨_, rfl, h_1⟩ := asO_bind h
    exact ⟨k, (spec_IsStore.e2 K k _ k _).trans h_1⟩
  · cases h
theorem spec_IsStore.lok (k : Nat) : LOK ti (spec_IsStore.Γ k) (spec_IsStore.LH k) 1 (loopsOf (bodyOf Try.f45)) :=
  (show loopsOf (bodyOf Try.f45) = [loopAt Try.f45 0] by kernel_rfl) ▸ (LOK_cons (g := ⟨1, [(0, [some 5]), (3, [])], [(0, [some 5]), (2, [])], @spec_IsStore.h2 k⟩) (by kernel_rfl) rfl (fun K vs xs r h => spec_IsStore.q2 k K vs xs r h) (LOK_nil))
def spec_IsStore.sig : List PSh := [.one (.ro 5)]
def spec_IsStore.g (y : Bool) : Ret κ := ⟨.v (.bool y), [], []⟩
def spec_IsStore.out (r : Ret κ) : Option Bool :=
  match r with
  | ⟨.v (.bool z0), [], []⟩ => some (z0)
  | _ => none
theorem spec_IsStore.out_ok (r : Ret κ) (y : Bool) (h : spec_IsStore.out r = some y) : r = spec_IsStore.g y := by
  unfold spec_IsStore.out at h
  split at h
  · obtain rfl := Option.some.inj h
    rfl
  · cases h
def spec_IsStore.body (k : Nat) (vs : List AV) (bs : List (Blk κ)) : Option (Lf κ) :=
  match vs, bs with
  | [.v (.sl 0)], [qb0] => (asO 5 false qb0).bind fun a0 => some ⟨Bool, spec_IsStore.f k a0, spec_IsStore.g⟩
  | _, _ => none
def spec_IsStore.C (k : Nat) : Nat → List AV → AP κ AV := contract spec_IsStore.sig (spec_IsStore.body k)
theorem spec_IsStore.den (k : Nat) (a0 : List T_impl_Stored) : Code.den ti (spec_IsStore.Γ k) (spec_IsStore.LH k) (bodyOf Try.f45) (finK ti Try.f45.results.toList [] (flags spec_IsStore.sig).length (rwI (flags spec_IsStore.sig) 0) spec_IsStore.out) ⟨envOf (([.v (.sl 0)]).zipIdx.map fun q => (q.2, q.1)), hpOf [.rows 5 false a0], (flags spec_IsStore.sig).length⟩ = spec_IsStore.f k a0 := by kernel_rfl
theorem spec_IsStore.ok (k : Nat) : CSound Try.prog 45 (spec_IsStore.C k) :=
  csound κ_ok mixed tok (spec_IsStore.hΓ k) (LH := spec_IsStore.LH k) (fn := Try.f45) (c := bodyOf Try.f45) Try.func45 rfl Try.call45 spec_IsStore.sig [] (spec_IsStore.body k) (by kernel_rfl) (spec_IsStore.lok k) (by decide) fun vs bs lf y hl hb hy => by
    unfold spec_IsStore.body at hb
    split at hb
    · obtain ⟨_, rfl, hb_1⟩ := asO_bind hb
      obtain rfl := Option.some.inj hb_1
      exact ⟨spec_IsStore.out, spec_IsStore.out_ok, (spec_IsStore.den k _).trans hy⟩
    · cases hb
/-! ### spec_l30Entries -/
def spec_l30Entries.L3 {R : Type} (k : Nat) (x1 : Int) (xl0 : List T_impl_Stored) (X0 : List T_impl_Stored → Option R) (rec : Int → List T_impl_Stored → Option R) (x3 : Int) (xl1 : List T_impl_Stored) : Option R :=
  (bif decide (x3 < (xl0.length : Int)) then (bif decide (0 ≤ x3) then (bif decide (x3 < (xl0.length : Int)) then (bif ((rd_impl_Stored xl0 x3).f0 == x1) then (bif decide (0 ≤ x3) then (bif decide (x3 < (xl0.length : Int)) then (bif decide ((xl1.length + ([(⟨(rd_impl_Stored xl0 x3).f0, (rd_impl_Stored xl0 x3).f1, (rd_impl_Stored xl0 x3).f2, (rd_impl_Stored xl0 x3).f3⟩ : T_impl_Stored)] : List T_impl_Stored).length) * 32 ≤ cap48) then (let l1 : List T_impl_Stored := (xl1 ++ ([(⟨(rd_impl_Stored xl0 x3).f0, (rd_impl_Stored xl0 x3).f1, (rd_impl_Stored xl0 x3).f2, (rd_impl_Stored xl0 x3).f3⟩ : T_impl_Stored)] : List T_impl_Stored)); (rec (w64 (x3 + (1 : Int))) l1)) else none) else none) else none) else (rec (w64 (x3 + (1 : Int))) xl1)) else none) else none) else (X0 xl1))
def spec_l30Entries.l3 {R : Type} (k : Nat) (x1 : Int) (xl0 : List T_impl_Stored) (X0 : List T_impl_Stored → Option R) : Nat → Int → List T_impl_Stored → Option R
  | 0 => fun _ _ => none
  | n + 1 => spec_l30Entries.L3 k x1 xl0 X0 (spec_l30Entries.l3 k x1 xl0 X0 n)
def spec_l30Entries.f (k : Nat) (a0 : List T_impl_Stored) (a1 : Int) : Option (List T_impl_Stored) :=
  (spec_l30Entries.l3 k a1 a0 (fun (y2 : List T_impl_Stored) => some y2) k (0 : Int) ([] : List T_impl_Stored))
def spec_l30Entries.h3 (k : Nat) {R : Type} (K : Ex → St κ → Option R) (vs : List AV) (bs : List (Blk κ)) : Option R :=
  match vs, bs with
  | [.v (.sl 0), .v (.int .i64 x1), .v (.sl 1), .v (.int .i64 x3)], [qb0, qb1] => (asO 5 false qb0).bind fun xl0 => (asO 5 true qb1).bind fun xl1 => spec_l30Entries.l3 k x1 xl0 (fun (zl1 : List T_impl_Stored) => K (.exit 0) (stOf [(5, [some 5])] [.v (.sl 1)] [.rows 5 false xl0, .rows 5 true zl1])) k x3 xl1
  | _, _ => none
def spec_l30Entries.Γ (k : Nat) : Ct κ := assoc []
def spec_l30Entries.LH (k : Nat) : Nat → Option (LHi κ) := assoc [(3, ⟨1, [(0, [some 5]), (1, []), (5, [some 5]), (6, [])], [(5, [some 5])], @spec_l30Entries.h3 k⟩)]
theorem spec_l30Entries.hΓ (k : Nat) : ∀ f g, spec_l30Entries.Γ k f = some g → CSound Try.prog f g := G_nil
theorem spec_l30Entries.e3 {R : Type} (K : Ex → St κ → Option R) (k : Nat) (x1 : Int) (xl0 : List T_impl_Stored) : ∀ (n : Nat) (x3 : Int) (xl1 : List T_impl_Stored), loopN 1 (Code.den ti (spec_l30Entries.Γ k) (spec_l30Entries.LH k) (loopAt Try.f57 0)) [(0, [some 5]), (1, []), (5, [some 5]), (6, [])] [(5, [some 5])] K n [.v (.sl 0), .v (.int .i64 x1), .v (.sl 1), .v (.int .i64 x3)] [.rows 5 false xl0, .rows 5 true xl1] = spec_l30Entries.l3 k x1 xl0 (fun (zl1 : List T_impl_Stored) => K (.exit 0) (stOf [(5, [some 5])] [.v (.sl 1)] [.rows 5 false xl0, .rows 5 true zl1])) n x3 xl1
  | 0, _, _ => rfl
  | n + 1, x3, xl1 => (show loopN 1 (Code.den ti (spec_l30Entries.Γ k) (spec_l30Entries.LH k) (loopAt Try.f57 0)) [(0, [some 5]), (1, []), (5, [some 5]), (6, [])] [(5, [some 5])] K (n + 1) [.v (.sl 0), .v (.int .i64 x1), .v (.sl 1), .v (.int .i64 x3)] [.rows 5 false xl0, .rows 5 true xl1] = spec_l30Entries.L3 k x1 xl0 (fun (zl1 : List T_impl_Stored) => K (.exit 0) (stOf [(5, [some 5])] [.v (.sl 1)] [.rows 5 false xl0, .rows 5 true zl1])) (fun (x3' : Int) (xl1' : List T_impl_Stored) => loopN 1 (Code.den ti (spec_l30Entries.Γ k) (spec_l30Entries.LH k) (loopAt Try.f57 0)) [(0, [some 5]), (1, []), (5, [some 5]), (6, [])] [(5, [some 5])] K n [.v (.sl 0), .v (.int .i64 x1), .v (.sl 1), .v (.int .i64 x3')] [.rows 5 false xl0, .rows 5 true xl1']) x3 xl1 by kernel_rfl).trans (congrArg (fun rec => spec_l30Entries.L3 k x1 xl0 (fun (zl1 : List T_impl_Stored) => K (.exit 0) (stOf [(5, [some 5])] [.v (.sl 1)] [.rows 5 false xl0, .rows 5 true zl1])) rec x3 xl1) (funext fun x3' => funext fun xl1' => spec_l30Entries.e3 K k x1 xl0 n x3' xl1'))
theorem spec_l30Entries.q3 (k : Nat) {R : Type} (K : Ex → St κ → Option R) (vs : List AV) (bs : List (Blk κ)) (r : R) (h : spec_l30Entries.h3 k K vs bs = some r) : ∃ n, loopN 1 (Code.den ti (spec_l30Entries.Γ k) (spec_l30Entries.LH k) (loopAt Try.f57 0)) [(0, [some 5]), (1, []), (5, [some 5]), (6, [])] [(5, [some 5])] K n vs bs = some r := by
  unfold spec_l30Entries.h3 at h
  split at h
  · obtain ⟨_, rfl, h_1⟩ := asO_bind h
    obtain ⟨_, rfl, h_2⟩ := asO_bind h_1
    exact ⟨k, (spec_l30Entries.e3 K k _ _ k _ _).trans h_2⟩
  · cases h
theorem spec_l30Entries.lok (k : Nat) : LOK ti (spec_l30Entries.Γ k) (spec_l30Entries.LH k) 1 (loopsOf (bodyOf Try.f57)) :=
  (show loopsOf (bodyOf Try.f57) = [loopAt Try.f57 0] by kernel_rfl) ▸ (LOK_cons (g := ⟨1, [(0, [some 5]), (1, []), (5, [some 5]), (6, [])], [(5, [some 5])], @spec_l30Entries.h3 k⟩) (by kernel_rfl) rfl (fun K vs xs r h => spec_l30Entries.q3 k K vs xs r h) (LOK_nil))
def spec_l30Entries.sig : List PSh := [.one (.ro 5), .one .sc]
def spec_l30Entries.g (y : List T_impl_Stored) : Ret κ := ⟨.v (.sl 1), [], [.rows 5 true y]⟩
def spec_l30Entries.out (r : Ret κ) : Option (List T_impl_Stored) :=
  match r with
  | ⟨.v (.sl 1), [], [q0]⟩ => (asO 5 true q0).bind fun z0 => some (z0)
  | _ => none
theorem spec_l30Entries.out_ok (r : Ret κ) (y : List T_impl_Stored) (h : spec_l30Entries.out r = some y) : r = spec_l30Entries.g y := by
  unfold spec_l30Entries.out at h
  split at h
  · obtain ⟨_, rfl, h_1⟩ := asO_bind h
    obtain rfl := Option.some.inj h_1
    rfl
  · cases h
def spec_l30Entries.body (k : Nat) (vs : List AV) (bs : List (Blk κ)) : Option (Lf κ) :=
  match vs, bs with
  | [.v (.sl 0), .v (.int .i64 a1)], [qb0] => (asO 5 false qb0).bind fun a0 => some ⟨List T_impl_Stored, spec_l30Entries.f k a0 a1, spec_l30Entries.g⟩
  | _, _ => none
def spec_l30Entries.C (k : Nat) : Nat → List AV → AP κ AV := contract spec_l30Entries.sig (spec_l30Entries.body k)
theorem spec_l30Entries.den (k : Nat) (a0 : List T_impl_Stored) (a1 : Int) : Code.den ti (spec_l30Entries.Γ k) (spec_l30Entries.LH k) (bodyOf Try.f57) (finK ti Try.f57.results.toList [(4, [some 5])] (flags spec_l30Entries.sig).length (rwI (flags spec_l30Entries.sig) 0) spec_l30Entries.out) ⟨envOf (([.v (.sl 0), .v (.int .i64 a1)]).zipIdx.map fun q => (q.2, q.1)), hpOf [.rows 5 false a0], (flags spec_l30Entries.sig).length⟩ = spec_l30Entries.f k a0 a1 := by kernel_rfl
theorem spec_l30Entries.ok (k : Nat) : CSound Try.prog 57 (spec_l30Entries.C k) :=
  csound κ_ok mixed tok (spec_l30Entries.hΓ k) (LH := spec_l30Entries.LH k) (fn := Try.f57) (c := bodyOf Try.f57) Try.func57 rfl Try.call57 spec_l30Entries.sig [(4, [some 5])] (spec_l30Entries.body k) (by kernel_rfl) (spec_l30Entries.lok k) (by decide) fun vs bs lf y hl hb hy => by
    unfold spec_l30Entries.body at hb
    split at hb
    · obtain ⟨_, rfl, hb_1⟩ := asO_bind hb
      obtain rfl := Option.some.inj hb_1
      exact ⟨spec_l30Entries.out, spec_l30Entries.out_ok, (spec_l30Entries.den k _ _).trans hy⟩
    · cases hb
/-! ### spec_RestoreStore -/
def spec_RestoreStore.L3 {R : Type} (k : Nat) (xl0 : List T_impl_Stored) (xl1 : List T_impl_Grant) (xl2 : List T_impl_Flow) (xl3 : List T_impl_Rule) (xl4 : List T_impl_Op) (xl5 : List T_impl_Stored) (xc6_0 : Int) (xc6_1 : Int) (xc6_2 : Int) (xc6_7 : Int) (X0 : List T_impl_Stored → Option R) (rec : Int → List T_impl_Stored → Option R) (x3 : Int) (xl7 : List T_impl_Stored) : Option R :=
  (bif decide (x3 < (xl5.length : Int)) then (bif decide (0 ≤ x3) then (bif decide (x3 < (xl5.length : Int)) then (spec_l24Set.f k xl7 ((rd_impl_Stored xl5 x3).f0) ((rd_impl_Stored xl5 x3).f1) ((rd_impl_Stored xl5 x3).f2) ((rd_impl_Stored xl5 x3).f3)).bind fun t2 => (rec (w64 (x3 + (1 : Int))) t2) else none) else none) else (X0 xl7))
def spec_RestoreStore.l3 {R : Type} (k : Nat) (xl0 : List T_impl_Stored) (xl1 : List T_impl_Grant) (xl2 : List T_impl_Flow) (xl3 : List T_impl_Rule) (xl4 : List T_impl_Op) (xl5 : List T_impl_Stored) (xc6_0 : Int) (xc6_1 : Int) (xc6_2 : Int) (xc6_7 : Int) (X0 : List T_impl_Stored → Option R) : Nat → Int → List T_impl_Stored → Option R
  | 0 => fun _ _ => none
  | n + 1 => spec_RestoreStore.L3 k xl0 xl1 xl2 xl3 xl4 xl5 xc6_0 xc6_1 xc6_2 xc6_7 X0 (spec_RestoreStore.l3 k xl0 xl1 xl2 xl3 xl4 xl5 xc6_0 xc6_1 xc6_2 xc6_7 X0 n)
def spec_RestoreStore.f (k : Nat) (a0 : List T_impl_Stored) (a1_0 : Int) (a1_1 : Int) (a1_2 : Int) (a1_3 : List T_impl_Grant) (a1_4 : List T_impl_Flow) (a1_5 : List T_impl_Rule) (a1_6 : List T_impl_Op) (a1_7 : Int) (a1_8 : List T_impl_Stored) : Option (Bool × List T_impl_Stored) :=
  (spec_DropStored.f k a0 a1_0).bind fun t1 => (spec_RestoreStore.l3 k a0 a1_3 a1_4 a1_5 a1_6 a1_8 a1_0 a1_1 a1_2 a1_7 (fun (y3 : List T_impl_Stored) => (spec_IsStore.f k a0).bind fun t4 => (bif !t4 then (bif decide ((([] : List T_impl_Stored).length + a0.length) * 32 ≤ cap48) then some (false, (([] : List T_impl_Stored) ++ a0)) else none) else (spec_IsStore.f k a1_8).bind fun t5 => (bif !t5 then (bif decide ((([] : List T_impl_Stored).length + a0.length) * 32 ≤ cap48) then some (false, (([] : List T_impl_Stored) ++ a0)) else none) else (spec_IsStore.f k y3).bind fun t6 => (bif !t6 then (bif decide ((([] : List T_impl_Stored).length + a0.length) * 32 ≤ cap48) then some (false, (([] : List T_impl_Stored) ++ a0)) else none) else (spec_l30Entries.f k a1_8 a1_0).bind fun t7 => (bif ((t7.length : Int) != (a1_8.length : Int)) then (bif decide ((([] : List T_impl_Stored).length + a0.length) * 32 ≤ cap48) then some (false, (([] : List T_impl_Stored) ++ a0)) else none) else some (true, y3)))))) k (0 : Int) t1)
def spec_RestoreStore.h3 (k : Nat) {R : Type} (K : Ex → St κ → Option R) (vs : List AV) (bs : List (Blk κ)) : Option R :=
  match vs, bs with
  | [.v (.sl 0), .v (.ptr 6 0 0), .v (.sl 7), .v (.int .i64 x3)], [qb0, qb1, qb2, qb3, qb4, qb5, .cells 73 [.int .i64 xc6_0, .int .i64 xc6_1, .int .i64 xc6_2, .sl 1, .sl 2, .sl 3, .sl 4, .int .i64 xc6_7, .sl 5], qb7] => (asO 5 false qb0).bind fun xl0 => (asO 6 false qb1).bind fun xl1 => (asO 7 false qb2).bind fun xl2 => (asO 8 false qb3).bind fun xl3 => (asO 9 false qb4).bind fun xl4 => (asO 5 false qb5).bind fun xl5 => (asO 5 true qb7).bind fun xl7 => spec_RestoreStore.l3 k xl0 xl1 xl2 xl3 xl4 xl5 xc6_0 xc6_1 xc6_2 xc6_7 (fun (zl7 : List T_impl_Stored) => K (.exit 0) (stOf [(0, [some 5]), (3, [none, none, none, some 6, some 7, some 8, some 9, none, some 5]), (6, [some 5])] [.v (.sl 0), .v (.ptr 6 0 0), .v (.sl 7)] [.rows 5 false xl0, .rows 6 false xl1, .rows 7 false xl2, .rows 8 false xl3, .rows 9 false xl4, .rows 5 false xl5, .cells 73 [.int .i64 xc6_0, .int .i64 xc6_1, .int .i64 xc6_2, .sl 1, .sl 2, .sl 3, .sl 4, .int .i64 xc6_7, .sl 5], .rows 5 true zl7])) k x3 xl7
  | _, _ => none
def spec_RestoreStore.Γ (k : Nat) : Ct κ := assoc [(56, spec_DropStored.C k), (47, spec_l24Set.C k), (45, spec_IsStore.C k), (57, spec_l30Entries.C k)]
def spec_RestoreStore.LH (k : Nat) : Nat → Option (LHi κ) := assoc [(3, ⟨6, [(0, [some 5]), (3, [none, none, none, some 6, some 7, some 8, some 9, none, some 5]), (6, [some 5]), (7, [])], [(0, [some 5]), (3, [none, none, none, some 6, some 7, some 8, some 9, none, some 5]), (6, [some 5])], @spec_RestoreStore.h3 k⟩)]
theorem spec_RestoreStore.hΓ (k : Nat) : ∀ f g, spec_RestoreStore.Γ k f = some g → CSound Try.prog f g := G_cons (spec_DropStored.ok k) (G_cons (spec_l24Set.ok k) (G_cons (spec_IsStore.ok k) (G_cons (spec_l30Entries.ok k) G_nil)))
theorem spec_RestoreStore.e3 {R : Type} (K : Ex → St κ → Option R) (k : Nat) (xl0 : List T_impl_Stored) (xl1 : List T_impl_Grant) (xl2 : List T_impl_Flow) (xl3 : List T_impl_Rule) (xl4 : List T_impl_Op) (xl5 : List T_impl_Stored) (xc6_0 : Int) (xc6_1 : Int) (xc6_2 : Int) (xc6_7 : Int) : ∀ (n : Nat) (x3 : Int) (xl7 : List T_impl_Stored), loopN 6 (Code.den ti (spec_RestoreStore.Γ k) (spec_RestoreStore.LH k) (loopAt Try.f31 0)) [(0, [some 5]), (3, [none, none, none, some 6, some 7, some 8, some 9, none, some 5]), (6, [some 5]), (7, [])] [(0, [some 5]), (3, [none, none, none, some 6, some 7, some 8, some 9, none, some 5]), (6, [some 5])] K n [.v (.sl 0), .v (.ptr 6 0 0), .v (.sl 7), .v (.int .i64 x3)] [.rows 5 false xl0, .rows 6 false xl1, .rows 7 false xl2, .rows 8 false xl3, .rows 9 false xl4, .rows 5 false xl5, .cells 73 [.int .i64 xc6_0, .int .i64 xc6_1, .int .i64 xc6_2, .sl 1, .sl 2, .sl 3, .sl 4, .int .i64 xc6_7, .sl 5], .rows 5 true xl7] = spec_RestoreStore.l3 k xl0 xl1 xl2 xl3 xl4 xl5 xc6_0 xc6_1 xc6_2 xc6_7 (fun (zl7 : List T_impl_Stored) => K (.exit 0) (stOf [(0, [some 5]), (3, [none, none, none, some 6, some 7, some 8, some 9, none, some 5]), (6, [some 5])] [.v (.sl 0), .v (.ptr 6 0 0), .v (.sl 7)] [.rows 5 false xl0, .rows 6 false xl1, .rows 7 false xl2, .rows 8 false xl3, .rows 9 false xl4, .rows 5 false xl5, .cells 73 [.int .i64 xc6_0, .int .i64 xc6_1, .int .i64 xc6_2, .sl 1, .sl 2, .sl 3, .sl 4, .int .i64 xc6_7, .sl 5], .rows 5 true zl7])) n x3 xl7
  | 0, _, _ => rfl
  | n + 1, x3, xl7 => (show loopN 6 (Code.den ti (spec_RestoreStore.Γ k) (spec_RestoreStore.LH k) (loopAt Try.f31 0)) [(0, [some 5]), (3, [none, none, none, some 6, some 7, some 8, some 9, none, some 5]), (6, [some 5]), (7, [])] [(0, [some 5]), (3, [none, none, none, some 6, some 7, some 8, some 9, none, some 5]), (6, [some 5])] K (n + 1) [.v (.sl 0), .v (.ptr 6 0 0), .v (.sl 7), .v (.int .i64 x3)] [.rows 5 false xl0, .rows 6 false xl1, .rows 7 false xl2, .rows 8 false xl3, .rows 9 false xl4, .rows 5 false xl5, .cells 73 [.int .i64 xc6_0, .int .i64 xc6_1, .int .i64 xc6_2, .sl 1, .sl 2, .sl 3, .sl 4, .int .i64 xc6_7, .sl 5], .rows 5 true xl7] = spec_RestoreStore.L3 k xl0 xl1 xl2 xl3 xl4 xl5 xc6_0 xc6_1 xc6_2 xc6_7 (fun (zl7 : List T_impl_Stored) => K (.exit 0) (stOf [(0, [some 5]), (3, [none, none, none, some 6, some 7, some 8, some 9, none, some 5]), (6, [some 5])] [.v (.sl 0), .v (.ptr 6 0 0), .v (.sl 7)] [.rows 5 false xl0, .rows 6 false xl1, .rows 7 false xl2, .rows 8 false xl3, .rows 9 false xl4, .rows 5 false xl5, .cells 73 [.int .i64 xc6_0, .int .i64 xc6_1, .int .i64 xc6_2, .sl 1, .sl 2, .sl 3, .sl 4, .int .i64 xc6_7, .sl 5], .rows 5 true zl7])) (fun (x3' : Int) (xl7' : List T_impl_Stored) => loopN 6 (Code.den ti (spec_RestoreStore.Γ k) (spec_RestoreStore.LH k) (loopAt Try.f31 0)) [(0, [some 5]), (3, [none, none, none, some 6, some 7, some 8, some 9, none, some 5]), (6, [some 5]), (7, [])] [(0, [some 5]), (3, [none, none, none, some 6, some 7, some 8, some 9, none, some 5]), (6, [some 5])] K n [.v (.sl 0), .v (.ptr 6 0 0), .v (.sl 7), .v (.int .i64 x3')] [.rows 5 false xl0, .rows 6 false xl1, .rows 7 false xl2, .rows 8 false xl3, .rows 9 false xl4, .rows 5 false xl5, .cells 73 [.int .i64 xc6_0, .int .i64 xc6_1, .int .i64 xc6_2, .sl 1, .sl 2, .sl 3, .sl 4, .int .i64 xc6_7, .sl 5], .rows 5 true xl7']) x3 xl7 by kernel_rfl).trans (congrArg (fun rec => spec_RestoreStore.L3 k xl0 xl1 xl2 xl3 xl4 xl5 xc6_0 xc6_1 xc6_2 xc6_7 (fun (zl7 : List T_impl_Stored) => K (.exit 0) (stOf [(0, [some 5]), (3, [none, none, none, some 6, some 7, some 8, some 9, none, some 5]), (6, [some 5])] [.v (.sl 0), .v (.ptr 6 0 0), .v (.sl 7)] [.rows 5 false xl0, .rows 6 false xl1, .rows 7 false xl2, .rows 8 false xl3, .rows 9 false xl4, .rows 5 false xl5, .cells 73 [.int .i64 xc6_0, .int .i64 xc6_1, .int .i64 xc6_2, .sl 1, .sl 2, .sl 3, .sl 4, .int .i64 xc6_7, .sl 5], .rows 5 true zl7])) rec x3 xl7) (funext fun x3' => funext fun xl7' => spec_RestoreStore.e3 K k xl0 xl1 xl2 xl3 xl4 xl5 xc6_0 xc6_1 xc6_2 xc6_7 n x3' xl7'))
theorem spec_RestoreStore.q3 (k : Nat) {R : Type} (K : Ex → St κ → Option R) (vs : List AV) (bs : List (Blk κ)) (r : R) (h : spec_RestoreStore.h3 k K vs bs = some r) : ∃ n, loopN 6 (Code.den ti (spec_RestoreStore.Γ k) (spec_RestoreStore.LH k) (loopAt Try.f31 0)) [(0, [some 5]), (3, [none, none, none, some 6, some 7, some 8, some 9, none, some 5]), (6, [some 5]), (7, [])] [(0, [some 5]), (3, [none, none, none, some 6, some 7, some 8, some 9, none, some 5]), (6, [some 5])] K n vs bs = some r := by
  unfold spec_RestoreStore.h3 at h
  split at h
  · obtain ⟨_, rfl, h_1⟩ := asO_bind h
    obtain ⟨_, rfl, h_2⟩ := asO_bind h_1
    obtain ⟨_, rfl, h_3⟩ := asO_bind h_2
    obtain ⟨_, rfl, h_4⟩ := asO_bind h_3
    obtain ⟨_, rfl, h_5⟩ := asO_bind h_4
    obtain ⟨_, rfl, h_6⟩ := asO_bind h_5
    obtain ⟨_, rfl, h_7⟩ := asO_bind h_6
    exact ⟨k, (spec_RestoreStore.e3 K k _ _ _ _ _ _ _ _ _ _ k _ _).trans h_7⟩
  · cases h
theorem spec_RestoreStore.lok (k : Nat) : LOK ti (spec_RestoreStore.Γ k) (spec_RestoreStore.LH k) 6 (loopsOf (bodyOf Try.f31)) :=
  (show loopsOf (bodyOf Try.f31) = [loopAt Try.f31 0] by kernel_rfl) ▸ (LOK_cons (g := ⟨6, [(0, [some 5]), (3, [none, none, none, some 6, some 7, some 8, some 9, none, some 5]), (6, [some 5]), (7, [])], [(0, [some 5]), (3, [none, none, none, some 6, some 7, some 8, some 9, none, some 5]), (6, [some 5])], @spec_RestoreStore.h3 k⟩) (by kernel_rfl) rfl (fun K vs xs r h => spec_RestoreStore.q3 k K vs xs r h) (LOK_nil))
def spec_RestoreStore.sig : List PSh := [.one (.ro 5), .agg [.sc, .sc, .sc, .ro 6, .ro 7, .ro 8, .ro 9, .sc, .ro 5]]
def spec_RestoreStore.g (y : Bool × List T_impl_Stored) : Ret κ := ⟨.tup [(false, [.sl 6]), (false, [.bool y.1])], [], [.rows 5 true y.2]⟩
def spec_RestoreStore.out (r : Ret κ) : Option (Bool × List T_impl_Stored) :=
  match r with
  | ⟨.tup [(false, [.sl 6]), (false, [.bool z0])], [], [q1]⟩ => (asO 5 true q1).bind fun z1 => some (z0, z1)
  | _ => none
theorem spec_RestoreStore.out_ok (r : Ret κ) (y : Bool × List T_impl_Stored) (h : spec_RestoreStore.out r = some y) : r = spec_RestoreStore.g y := by
  unfold spec_RestoreStore.out at h
  split at h
  · obtain ⟨_, rfl, h_1⟩ := asO_bind h
    obtain rfl := Option.some.inj h_1
    rfl
  · cases h
def spec_RestoreStore.body (k : Nat) (vs : List AV) (bs : List (Blk κ)) : Option (Lf κ) :=
  match vs, bs with
  | [.v (.sl 0), .agg [.int .i64 a1_0, .int .i64 a1_1, .int .i64 a1_2, .sl 1, .sl 2, .sl 3, .sl 4, .int .i64 a1_7, .sl 5]], [qb0, qb1, qb2, qb3, qb4, qb5] => (asO 5 false qb0).bind fun a0 => (asO 6 false qb1).bind fun a1_3 => (asO 7 false qb2).bind fun a1_4 => (asO 8 false qb3).bind fun a1_5 => (asO 9 false qb4).bind fun a1_6 => (asO 5 false qb5).bind fun a1_8 => some ⟨Bool × List T_impl_Stored, spec_RestoreStore.f k a0 a1_0 a1_1 a1_2 a1_3 a1_4 a1_5 a1_6 a1_7 a1_8, spec_RestoreStore.g⟩
  | _, _ => none
def spec_RestoreStore.C (k : Nat) : Nat → List AV → AP κ AV := contract spec_RestoreStore.sig (spec_RestoreStore.body k)
theorem spec_RestoreStore.den (k : Nat) (a0 : List T_impl_Stored) (a1_0 : Int) (a1_1 : Int) (a1_2 : Int) (a1_3 : List T_impl_Grant) (a1_4 : List T_impl_Flow) (a1_5 : List T_impl_Rule) (a1_6 : List T_impl_Op) (a1_7 : Int) (a1_8 : List T_impl_Stored) : Code.den ti (spec_RestoreStore.Γ k) (spec_RestoreStore.LH k) (bodyOf Try.f31) (finK ti Try.f31.results.toList [(4, [some 5])] (flags spec_RestoreStore.sig).length (rwI (flags spec_RestoreStore.sig) 0) spec_RestoreStore.out) ⟨envOf (([.v (.sl 0), .agg [.int .i64 a1_0, .int .i64 a1_1, .int .i64 a1_2, .sl 1, .sl 2, .sl 3, .sl 4, .int .i64 a1_7, .sl 5]]).zipIdx.map fun q => (q.2, q.1)), hpOf [.rows 5 false a0, .rows 6 false a1_3, .rows 7 false a1_4, .rows 8 false a1_5, .rows 9 false a1_6, .rows 5 false a1_8], (flags spec_RestoreStore.sig).length⟩ = spec_RestoreStore.f k a0 a1_0 a1_1 a1_2 a1_3 a1_4 a1_5 a1_6 a1_7 a1_8 := by kernel_rfl
theorem spec_RestoreStore.ok (k : Nat) : CSound Try.prog 31 (spec_RestoreStore.C k) :=
  csound κ_ok mixed tok (spec_RestoreStore.hΓ k) (LH := spec_RestoreStore.LH k) (fn := Try.f31) (c := bodyOf Try.f31) Try.func31 rfl Try.call31 spec_RestoreStore.sig [(4, [some 5])] (spec_RestoreStore.body k) (by kernel_rfl) (spec_RestoreStore.lok k) (by decide) fun vs bs lf y hl hb hy => by
    unfold spec_RestoreStore.body at hb
    split at hb
    · obtain ⟨_, rfl, hb_1⟩ := asO_bind hb
      obtain ⟨_, rfl, hb_2⟩ := asO_bind hb_1
      obtain ⟨_, rfl, hb_3⟩ := asO_bind hb_2
      obtain ⟨_, rfl, hb_4⟩ := asO_bind hb_3
      obtain ⟨_, rfl, hb_5⟩ := asO_bind hb_4
      obtain ⟨_, rfl, hb_6⟩ := asO_bind hb_5
      obtain rfl := Option.some.inj hb_6
      exact ⟨spec_RestoreStore.out, spec_RestoreStore.out_ok, (spec_RestoreStore.den k _ _ _ _ _ _ _ _ _ _).trans hy⟩
    · cases hb
end Go.Proofs.Ytmjflahlhgibnaa.PFnExactRestoreStore
