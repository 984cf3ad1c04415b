/- What the functions that the law FnExactRunOps reaches come to; no conditions. -/
import Derived.Test.YthjdecnheaifkaaPFnExactRunOpsT
set_option linter.unusedVariables false
set_option maxRecDepth 100000
namespace Go.Proofs.Ythjdecnheaifkaa.PFnExactRunOps
open Go Go.Eng Go.Proofs
/-! ### laws_szOpS -/
def laws_szOpS.f (k : Nat) (a0 : List T_laws_Op) (a1 : Int) : Option Int :=
  (bif decide ((w64 (a1 - (a0.length : Int))) < (0 : Int)) then some (-1 : Int) else some (w64 (a1 - (a0.length : Int))))
def laws_szOpS.Γ (k : Nat) : Ct κ := assoc []
def laws_szOpS.LH (k : Nat) : Nat → Option (LHi κ) := assoc []
theorem laws_szOpS.hΓ (k : Nat) : ∀ f g, laws_szOpS.Γ k f = some g → CSound Try.prog f g := G_nil
theorem laws_szOpS.lok (k : Nat) : LOK ti (laws_szOpS.Γ k) (laws_szOpS.LH k) 1 (loopsOf (bodyOf Try.f11)) :=
  (show loopsOf (bodyOf Try.f11) = [] by kernel_rfl) ▸ LOK_nil
def laws_szOpS.sig : List PSh := [.one (.ro 0), .one .sc]
def laws_szOpS.g (y : Int) : Ret κ := ⟨.v (.int .i64 y), [], []⟩
def laws_szOpS.out (r : Ret κ) : Option Int :=
  match r with
  | ⟨.v (.int .i64 z0), [], []⟩ => some (z0)
  | _ => none
theorem laws_szOpS.out_ok (r : Ret κ) (y : Int) (h : laws_szOpS.out r = some y) : r = laws_szOpS.g y := by
  unfold laws_szOpS.out at h
  split at h
  · obtain rfl := Option.some.inj h
    rfl
  · cases h
def laws_szOpS.body (k : Nat) (vs : List AV) (bs : List (Blk κ)) : Option (Lf κ) :=
  match vs, bs with
  | [.v (.sl 0), .v (.int .i64 a1)], [qb0] => (asO 0 false qb0).bind fun a0 => some ⟨Int, laws_szOpS.f k a0 a1, laws_szOpS.g⟩
  | _, _ => none
def laws_szOpS.C (k : Nat) : Nat → List AV → AP κ AV := contract laws_szOpS.sig (laws_szOpS.body k)
theorem laws_szOpS.den (k : Nat) (a0 : List T_laws_Op) (a1 : Int) : Code.den ti (laws_szOpS.Γ k) (laws_szOpS.LH k) (bodyOf Try.f11) (finK ti Try.f11.results.toList [] (flags laws_szOpS.sig).length (rwI (flags laws_szOpS.sig) 0) laws_szOpS.out) ⟨envOf (([.v (.sl 0), .v (.int .i64 a1)]).zipIdx.map fun q => (q.2, q.1)), hpOf [.rows 0 false a0], (flags laws_szOpS.sig).length⟩ = laws_szOpS.f k a0 a1 := by kernel_rfl
theorem laws_szOpS.ok (k : Nat) : CSound Try.prog 11 (laws_szOpS.C k) :=
  csound κ_ok mixed tok (laws_szOpS.hΓ k) (LH := laws_szOpS.LH k) (fn := Try.f11) (c := bodyOf Try.f11) Try.func11 rfl Try.call11 laws_szOpS.sig [] (laws_szOpS.body k) (by kernel_rfl) (laws_szOpS.lok k) (by decide) fun vs bs lf y hl hb hy => by
    unfold laws_szOpS.body at hb
    split at hb
    · obtain ⟨_, rfl, hb_1⟩ := asO_bind hb
      obtain rfl := Option.some.inj hb_1
      exact ⟨laws_szOpS.out, laws_szOpS.out_ok, (laws_szOpS.den k _ _).trans hy⟩
    · cases hb
/-! ### laws_szFlowS -/
def laws_szFlowS.f (k : Nat) (a0 : List T_laws_Flow) (a1 : Int) : Option Int :=
  (bif decide ((w64 (a1 - (a0.length : Int))) < (0 : Int)) then some (-1 : Int) else some (w64 (a1 - (a0.length : Int))))
def laws_szFlowS.Γ (k : Nat) : Ct κ := assoc []
def laws_szFlowS.LH (k : Nat) : Nat → Option (LHi κ) := assoc []
theorem laws_szFlowS.hΓ (k : Nat) : ∀ f g, laws_szFlowS.Γ k f = some g → CSound Try.prog f g := G_nil
theorem laws_szFlowS.lok (k : Nat) : LOK ti (laws_szFlowS.Γ k) (laws_szFlowS.LH k) 1 (loopsOf (bodyOf Try.f33)) :=
  (show loopsOf (bodyOf Try.f33) = [] by kernel_rfl) ▸ LOK_nil
def laws_szFlowS.sig : List PSh := [.one (.ro 2), .one .sc]
def laws_szFlowS.g (y : Int) : Ret κ := ⟨.v (.int .i64 y), [], []⟩
def laws_szFlowS.out (r : Ret κ) : Option Int :=
  match r with
  | ⟨.v (.int .i64 z0), [], []⟩ => some (z0)
  | _ => none
theorem laws_szFlowS.out_ok (r : Ret κ) (y : Int) (h : laws_szFlowS.out r = some y) : r = laws_szFlowS.g y := by
  unfold laws_szFlowS.out at h
  split at h
  · obtain rfl := Option.some.inj h
    rfl
  · cases h
def laws_szFlowS.body (k : Nat) (vs : List AV) (bs : List (Blk κ)) : Option (Lf κ) :=
  match vs, bs with
  | [.v (.sl 0), .v (.int .i64 a1)], [qb0] => (asO 2 false qb0).bind fun a0 => some ⟨Int, laws_szFlowS.f k a0 a1, laws_szFlowS.g⟩
  | _, _ => none
def laws_szFlowS.C (k : Nat) : Nat → List AV → AP κ AV := contract laws_szFlowS.sig (laws_szFlowS.body k)
theorem laws_szFlowS.den (k : Nat) (a0 : List T_laws_Flow) (a1 : Int) : Code.den ti (laws_szFlowS.Γ k) (laws_szFlowS.LH k) (bodyOf Try.f33) (finK ti Try.f33.results.toList [] (flags laws_szFlowS.sig).length (rwI (flags laws_szFlowS.sig) 0) laws_szFlowS.out) ⟨envOf (([.v (.sl 0), .v (.int .i64 a1)]).zipIdx.map fun q => (q.2, q.1)), hpOf [.rows 2 false a0], (flags laws_szFlowS.sig).length⟩ = laws_szFlowS.f k a0 a1 := by kernel_rfl
theorem laws_szFlowS.ok (k : Nat) : CSound Try.prog 33 (laws_szFlowS.C k) :=
  csound κ_ok mixed tok (laws_szFlowS.hΓ k) (LH := laws_szFlowS.LH k) (fn := Try.f33) (c := bodyOf Try.f33) Try.func33 rfl Try.call33 laws_szFlowS.sig [] (laws_szFlowS.body k) (by kernel_rfl) (laws_szFlowS.lok k) (by decide) fun vs bs lf y hl hb hy => by
    unfold laws_szFlowS.body at hb
    split at hb
    · obtain ⟨_, rfl, hb_1⟩ := asO_bind hb
      obtain rfl := Option.some.inj hb_1
      exact ⟨laws_szFlowS.out, laws_szFlowS.out_ok, (laws_szFlowS.den k _ _).trans hy⟩
    · cases hb
/-! ### laws_toOp -/
def laws_toOp.f (k : Nat) (a0_0 : Int) (a0_1 : Int) (a0_2 : Int) (a0_3 : Int) : Option (Int × Int × Int × Int) :=
  some (a0_0, a0_1, a0_2, a0_3)
def laws_toOp.Γ (k : Nat) : Ct κ := assoc []
def laws_toOp.LH (k : Nat) : Nat → Option (LHi κ) := assoc []
theorem laws_toOp.hΓ (k : Nat) : ∀ f g, laws_toOp.Γ k f = some g → CSound Try.prog f g := G_nil
theorem laws_toOp.lok (k : Nat) : LOK ti (laws_toOp.Γ k) (laws_toOp.LH k) 0 (loopsOf (bodyOf Try.f56)) :=
  (show loopsOf (bodyOf Try.f56) = [] by kernel_rfl) ▸ LOK_nil
def laws_toOp.sig : List PSh := [.agg [.sc, .sc, .sc, .sc]]
def laws_toOp.g (y : Int × Int × Int × Int) : Ret κ := ⟨.agg [.int .i64 y.1, .int .i64 y.2.1, .int .i64 y.2.2.1, .int .i64 y.2.2.2], [], []⟩
def laws_toOp.out (r : Ret κ) : Option (Int × Int × Int × Int) :=
  match r with
  | ⟨.agg [.int .i64 z0, .int .i64 z1, .int .i64 z2, .int .i64 z3], [], []⟩ => some (z0, z1, z2, z3)
  | _ => none
theorem laws_toOp.out_ok (r : Ret κ) (y : Int × Int × Int × Int) (h : laws_toOp.out r = some y) : r = laws_toOp.g y := by
  unfold laws_toOp.out at h
  split at h
  · obtain rfl := Option.some.inj h
    rfl
  · cases h
def laws_toOp.body (k : Nat) (vs : List AV) (bs : List (Blk κ)) : Option (Lf κ) :=
  match vs, bs with
  | [.agg [.int .i64 a0_0, .int .i64 a0_1, .int .i64 a0_2, .int .i64 a0_3]], [] => some ⟨Int × Int × Int × Int, laws_toOp.f k a0_0 a0_1 a0_2 a0_3, laws_toOp.g⟩
  | _, _ => none
def laws_toOp.C (k : Nat) : Nat → List AV → AP κ AV := contract laws_toOp.sig (laws_toOp.body k)
theorem laws_toOp.den (k : Nat) (a0_0 : Int) (a0_1 : Int) (a0_2 : Int) (a0_3 : Int) : Code.den ti (laws_toOp.Γ k) (laws_toOp.LH k) (bodyOf Try.f56) (finK ti Try.f56.results.toList [] (flags laws_toOp.sig).length (rwI (flags laws_toOp.sig) 0) laws_toOp.out) ⟨envOf (([.agg [.int .i64 a0_0, .int .i64 a0_1, .int .i64 a0_2, .int .i64 a0_3]]).zipIdx.map fun q => (q.2, q.1)), hpOf [], (flags laws_toOp.sig).length⟩ = laws_toOp.f k a0_0 a0_1 a0_2 a0_3 := by kernel_rfl
theorem laws_toOp.ok (k : Nat) : CSound Try.prog 56 (laws_toOp.C k) :=
  csound κ_ok mixed tok (laws_toOp.hΓ k) (LH := laws_toOp.LH k) (fn := Try.f56) (c := bodyOf Try.f56) Try.func56 rfl Try.call56 laws_toOp.sig [] (laws_toOp.body k) (by kernel_rfl) (laws_toOp.lok k) (by decide) fun vs bs lf y hl hb hy => by
    unfold laws_toOp.body at hb
    split at hb
    · obtain rfl := Option.some.inj hb
      exact ⟨laws_toOp.out, laws_toOp.out_ok, (laws_toOp.den k _ _ _ _).trans hy⟩
    · cases hb
/-! ### laws_toOpS -/
def laws_toOpS.L3 {R : Type} (k : Nat) (xl0 : List T_laws_Op) (X0 : List T_impl_Op → Option R) (rec : Int → List T_impl_Op → Option R) (x2 : Int) (xl1 : List T_impl_Op) : Option R :=
  (bif decide (x2 < (xl0.length : Int)) then (bif decide (0 ≤ x2) then (bif decide (x2 < (xl0.length : Int)) then (laws_toOp.f k ((rd_laws_Op xl0 x2).f0) ((rd_laws_Op xl0 x2).f1) ((rd_laws_Op xl0 x2).f2) ((rd_laws_Op xl0 x2).f3)).bind fun t1 => (bif decide (0 ≤ x2) then (bif decide (x2 < (xl1.length : Int)) then (let l2 : List T_impl_Op := (xl1.set (x2).toNat (⟨t1.1, t1.2.1, t1.2.2.1, t1.2.2.2⟩ : T_impl_Op)); (rec (w64 (x2 + (1 : Int))) l2)) else none) else none) else none) else none) else (X0 xl1))
def laws_toOpS.l3 {R : Type} (k : Nat) (xl0 : List T_laws_Op) (X0 : List T_impl_Op → Option R) : Nat → Int → List T_impl_Op → Option R
  | 0 => fun _ _ => none
  | n + 1 => laws_toOpS.L3 k xl0 X0 (laws_toOpS.l3 k xl0 X0 n)
def laws_toOpS.f (k : Nat) (a0 : List T_laws_Op) : Option (List T_impl_Op) :=
  (bif decide (0 ≤ (a0.length : Int)) then (bif decide (((a0.length : Int)).toNat * 32 ≤ cap48) then (laws_toOpS.l3 k a0 (fun (y3 : List T_impl_Op) => some y3) k (0 : Int) (List.replicate ((a0.length : Int)).toNat z_impl_Op)) else none) else none)
def laws_toOpS.h3 (k : Nat) {R : Type} (K : Ex → St κ → Option R) (vs : List AV) (bs : List (Blk κ)) : Option R :=
  match vs, bs with
  | [.v (.sl 0), .v (.sl 1), .v (.int .i64 x2)], [qb0, qb1] => (asO 0 false qb0).bind fun xl0 => (asO 3 true qb1).bind fun xl1 => laws_toOpS.l3 k xl0 (fun (zl1 : List T_impl_Op) => K (.exit 0) (stOf [(3, [some 3])] [.v (.sl 1)] [.rows 0 false xl0, .rows 3 true zl1])) k x2 xl1
  | _, _ => none
def laws_toOpS.Γ (k : Nat) : Ct κ := assoc [(56, laws_toOp.C k)]
def laws_toOpS.LH (k : Nat) : Nat → Option (LHi κ) := assoc [(3, ⟨1, [(0, [some 0]), (3, [some 3]), (4, [])], [(3, [some 3])], @laws_toOpS.h3 k⟩)]
theorem laws_toOpS.hΓ (k : Nat) : ∀ f g, laws_toOpS.Γ k f = some g → CSound Try.prog f g := G_cons (laws_toOp.ok k) G_nil
theorem laws_toOpS.e3 {R : Type} (K : Ex → St κ → Option R) (k : Nat) (xl0 : List T_laws_Op) : ∀ (n : Nat) (x2 : Int) (xl1 : List T_impl_Op), loopN 1 (Code.den ti (laws_toOpS.Γ k) (laws_toOpS.LH k) (loopAt Try.f13 0)) [(0, [some 0]), (3, [some 3]), (4, [])] [(3, [some 3])] K n [.v (.sl 0), .v (.sl 1), .v (.int .i64 x2)] [.rows 0 false xl0, .rows 3 true xl1] = laws_toOpS.l3 k xl0 (fun (zl1 : List T_impl_Op) => K (.exit 0) (stOf [(3, [some 3])] [.v (.sl 1)] [.rows 0 false xl0, .rows 3 true zl1])) n x2 xl1
  | 0, _, _ => rfl
  | n + 1, x2, xl1 => (show loopN 1 (Code.den ti (laws_toOpS.Γ k) (laws_toOpS.LH k) (loopAt Try.f13 0)) [(0, [some 0]), (3, [some 3]), (4, [])] [(3, [some 3])] K (n + 1) [.v (.sl 0), .v (.sl 1), .v (.int .i64 x2)] [.rows 0 false xl0, .rows 3 true xl1] = laws_toOpS.L3 k xl0 (fun (zl1 : List T_impl_Op) => K (.exit 0) (stOf [(3, [some 3])] [.v (.sl 1)] [.rows 0 false xl0, .rows 3 true zl1])) (fun (x2' : Int) (xl1' : List T_impl_Op) => loopN 1 (Code.den ti (laws_toOpS.Γ k) (laws_toOpS.LH k) (loopAt Try.f13 0)) [(0, [some 0]), (3, [some 3]), (4, [])] [(3, [some 3])] K n [.v (.sl 0), .v (.sl 1), .v (.int .i64 x2')] [.rows 0 false xl0, .rows 3 true xl1']) x2 xl1 by kernel_rfl).trans (congrArg (fun rec => laws_toOpS.L3 k xl0 (fun (zl1 : List T_impl_Op) => K (.exit 0) (stOf [(3, [some 3])] [.v (.sl 1)] [.rows 0 false xl0, .rows 3 true zl1])) rec x2 xl1) (funext fun x2' => funext fun xl1' => laws_toOpS.e3 K k xl0 n x2' xl1'))
theorem laws_toOpS.q3 (k : Nat) {R : Type} (K : Ex → St κ → Option R) (vs : List AV) (bs : List (Blk κ)) (r : R) (h : laws_toOpS.h3 k K vs bs = some r) : ∃ n, loopN 1 (Code.den ti (laws_toOpS.Γ k) (laws_toOpS.LH k) (loopAt Try.f13 0)) [(0, [some 0]), (3, [some 3]), (4, [])] [(3, [some 3])] K n vs bs = some r := by
  unfold laws_toOpS.h3 at h
  split at h
  · obtain ⟨_, rfl, h_1⟩ := asO_bind h
    obtain ⟨_, rfl, h_2⟩ := asO_bind h_1
    exact ⟨k, (laws_toOpS.e3 K k _ k _ _).trans h_2⟩
  · cases h
theorem laws_toOpS.lok (k : Nat) : LOK ti (laws_toOpS.Γ k) (laws_toOpS.LH k) 1 (loopsOf (bodyOf Try.f13)) :=
  (show loopsOf (bodyOf Try.f13) = [loopAt Try.f13 0] by kernel_rfl) ▸ (LOK_cons (g := ⟨1, [(0, [some 0]), (3, [some 3]), (4, [])], [(3, [some 3])], @laws_toOpS.h3 k⟩) (by kernel_rfl) rfl (fun K vs xs r h => laws_toOpS.q3 k K vs xs r h) (LOK_nil))
def laws_toOpS.sig : List PSh := [.one (.ro 0)]
def laws_toOpS.g (y : List T_impl_Op) : Ret κ := ⟨.v (.sl 1), [], [.rows 3 true y]⟩
def laws_toOpS.out (r : Ret κ) : Option (List T_impl_Op) :=
  match r with
  | ⟨.v (.sl 1), [], [q0]⟩ => (asO 3 true q0).bind fun z0 => some (z0)
  | _ => none
theorem laws_toOpS.out_ok (r : Ret κ) (y : List T_impl_Op) (h : laws_toOpS.out r = some y) : r = laws_toOpS.g y := by
  unfold laws_toOpS.out at h
  split at h
  · obtain ⟨_, rfl, h_1⟩ := asO_bind h
    obtain rfl := Option.some.inj h_1
    rfl
  · cases h
def laws_toOpS.body (k : Nat) (vs : List AV) (bs : List (Blk κ)) : Option (Lf κ) :=
  match vs, bs with
  | [.v (.sl 0)], [qb0] => (asO 0 false qb0).bind fun a0 => some ⟨List T_impl_Op, laws_toOpS.f k a0, laws_toOpS.g⟩
  | _, _ => none
def laws_toOpS.C (k : Nat) : Nat → List AV → AP κ AV := contract laws_toOpS.sig (laws_toOpS.body k)
theorem laws_toOpS.den (k : Nat) (a0 : List T_laws_Op) : Code.den ti (laws_toOpS.Γ k) (laws_toOpS.LH k) (bodyOf Try.f13) (finK ti Try.f13.results.toList [(2, [some 3])] (flags laws_toOpS.sig).length (rwI (flags laws_toOpS.sig) 0) laws_toOpS.out) ⟨envOf (([.v (.sl 0)]).zipIdx.map fun q => (q.2, q.1)), hpOf [.rows 0 false a0], (flags laws_toOpS.sig).length⟩ = laws_toOpS.f k a0 := by kernel_rfl
theorem laws_toOpS.ok (k : Nat) : CSound Try.prog 13 (laws_toOpS.C k) :=
  csound κ_ok mixed tok (laws_toOpS.hΓ k) (LH := laws_toOpS.LH k) (fn := Try.f13) (c := bodyOf Try.f13) Try.func13 rfl Try.call13 laws_toOpS.sig [(2, [some 3])] (laws_toOpS.body k) (by kernel_rfl) (laws_toOpS.lok k) (by decide) fun vs bs lf y hl hb hy => by
    unfold laws_toOpS.body at hb
    split at hb
    · obtain ⟨_, rfl, hb_1⟩ := asO_bind hb
      obtain rfl := Option.some.inj hb_1
      exact ⟨laws_toOpS.out, laws_toOpS.out_ok, (laws_toOpS.den k _).trans hy⟩
    · cases hb
/-! ### laws_toIntS -/
def laws_toIntS.L3 {R : Type} (k : Nat) (xl0 : List Int) (X0 : List Int → Option R) (rec : Int → List Int → Option R) (x2 : Int) (xl1 : List Int) : Option R :=
  (bif decide (x2 < (xl0.length : Int)) then (bif decide (0 ≤ x2) then (bif decide (x2 < (xl0.length : Int)) then (bif decide (0 ≤ x2) then (bif decide (x2 < (xl1.length : Int)) then (rec (w64 (x2 + (1 : Int))) (xl1.set (x2).toNat (rd_i64 xl0 x2))) else none) else none) else none) else none) else (X0 xl1))
def laws_toIntS.l3 {R : Type} (k : Nat) (xl0 : List Int) (X0 : List Int → Option R) : Nat → Int → List Int → Option R
  | 0 => fun _ _ => none
  | n + 1 => laws_toIntS.L3 k xl0 X0 (laws_toIntS.l3 k xl0 X0 n)
def laws_toIntS.f (k : Nat) (a0 : List Int) : Option (List Int) :=
  (bif decide (0 ≤ (a0.length : Int)) then (bif decide (((a0.length : Int)).toNat * 8 ≤ cap48) then (laws_toIntS.l3 k a0 (fun (y1 : List Int) => some y1) k (0 : Int) (List.replicate ((a0.length : Int)).toNat z_i64)) else none) else none)
def laws_toIntS.h3 (k : Nat) {R : Type} (K : Ex → St κ → Option R) (vs : List AV) (bs : List (Blk κ)) : Option R :=
  match vs, bs with
  | [.v (.sl 0), .v (.sl 1), .v (.int .i64 x2)], [qb0, qb1] => (asO 1 false qb0).bind fun xl0 => (asO 1 true qb1).bind fun xl1 => laws_toIntS.l3 k xl0 (fun (zl1 : List Int) => K (.exit 0) (stOf [(3, [some 1])] [.v (.sl 1)] [.rows 1 false xl0, .rows 1 true zl1])) k x2 xl1
  | _, _ => none
def laws_toIntS.Γ (k : Nat) : Ct κ := assoc []
def laws_toIntS.LH (k : Nat) : Nat → Option (LHi κ) := assoc [(3, ⟨1, [(0, [some 1]), (3, [some 1]), (4, [])], [(3, [some 1])], @laws_toIntS.h3 k⟩)]
theorem laws_toIntS.hΓ (k : Nat) : ∀ f g, laws_toIntS.Γ k f = some g → CSound Try.prog f g := G_nil
theorem laws_toIntS.e3 {R : Type} (K : Ex → St κ → Option R) (k : Nat) (xl0 : List Int) : ∀ (n : Nat) (x2 : Int) (xl1 : List Int), loopN 1 (Code.den ti (laws_toIntS.Γ k) (laws_toIntS.LH k) (loopAt Try.f38 0)) [(0, [some 1]), (3, [some 1]), (4, [])] [(3, [some 1])] K n [.v (.sl 0), .v (.sl 1), .v (.int .i64 x2)] [.rows 1 false xl0, .rows 1 true xl1] = laws_toIntS.l3 k xl0 (fun (zl1 : List Int) => K (.exit 0) (stOf [(3, [some 1])] [.v (.sl 1)] [.rows 1 false xl0, .rows 1 true zl1])) n x2 xl1
  | 0, _, _ => rfl
  | n + 1, x2, xl1 => (show loopN 1 (Code.den ti (laws_toIntS.Γ k) (laws_toIntS.LH k) (loopAt Try.f38 0)) [(0, [some 1]), (3, [some 1]), (4, [])] [(3, [some 1])] K (n + 1) [.v (.sl 0), .v (.sl 1), .v (.int .i64 x2)] [.rows 1 false xl0, .rows 1 true xl1] = laws_toIntS.L3 k xl0 (fun (zl1 : List Int) => K (.exit 0) (stOf [(3, [some 1])] [.v (.sl 1)] [.rows 1 false xl0, .rows 1 true zl1])) (fun (x2' : Int) (xl1' : List Int) => loopN 1 (Code.den ti (laws_toIntS.Γ k) (laws_toIntS.LH k) (loopAt Try.f38 0)) [(0, [some 1]), (3, [some 1]), (4, [])] [(3, [some 1])] K n [.v (.sl 0), .v (.sl 1), .v (.int .i64 x2')] [.rows 1 false xl0, .rows 1 true xl1']) x2 xl1 by kernel_rfl).trans (congrArg (fun rec => laws_toIntS.L3 k xl0 (fun (zl1 : List Int) => K (.exit 0) (stOf [(3, [some 1])] [.v (.sl 1)] [.rows 1 false xl0, .rows 1 true zl1])) rec x2 xl1) (funext fun x2' => funext fun xl1' => laws_toIntS.e3 K k xl0 n x2' xl1'))
theorem laws_toIntS.q3 (k : Nat) {R : Type} (K : Ex → St κ → Option R) (vs : List AV) (bs : List (Blk κ)) (r : R) (h : laws_toIntS.h3 k K vs bs = some r) : ∃ n, loopN 1 (Code.den ti (laws_toIntS.Γ k) (laws_toIntS.LH k) (loopAt Try.f38 0)) [(0, [some 1]), (3, [some 1]), (4, [])] [(3, [some 1])] K n vs bs = some r := by
  unfold laws_toIntS.h3 at h
  split at h
  · obtain ⟨_, rfl, h_1⟩ := asO_bind h
    obtain ⟨_, rfl, h_2⟩ := asO_bind h_1
    exact ⟨k, (laws_toIntS.e3 K k _ k _ _).trans h_2⟩
  · cases h
theorem laws_toIntS.lok (k : Nat) : LOK ti (laws_toIntS.Γ k) (laws_toIntS.LH k) 1 (loopsOf (bodyOf Try.f38)) :=
  (show loopsOf (bodyOf Try.f38) = [loopAt Try.f38 0] by kernel_rfl) ▸ (LOK_cons (g := ⟨1, [(0, [some 1]), (3, [some 1]), (4, [])], [(3, [some 1])], @laws_toIntS.h3 k⟩) (by kernel_rfl) rfl (fun K vs xs r h => laws_toIntS.q3 k K vs xs r h) (LOK_nil))
def laws_toIntS.sig : List PSh := [.one (.ro 1)]
def laws_toIntS.g (y : List Int) : Ret κ := ⟨.v (.sl 1), [], [.rows 1 true y]⟩
def laws_toIntS.out (r : Ret κ) : Option (List Int) :=
  match r with
  | ⟨.v (.sl 1), [], [q0]⟩ => (asO 1 true q0).bind fun z0 => some (z0)
  | _ => none
theorem laws_toIntS.out_ok (r : Ret κ) (y : List Int) (h : laws_toIntS.out r = some y) : r = laws_toIntS.g y := by
  unfold laws_toIntS.out at h
  split at h
  · obtain ⟨_, rfl, h_1⟩ := asO_bind h
    obtain rfl := Option.some.inj h_1
    rfl
  · cases h
def laws_toIntS.body (k : Nat) (vs : List AV) (bs : List (Blk κ)) : Option (Lf κ) :=
  match vs, bs with
  | [.v (.sl 0)], [qb0] => (asO 1 false qb0).bind fun a0 => some ⟨List Int, laws_toIntS.f k a0, laws_toIntS.g⟩
  | _, _ => none
def laws_toIntS.C (k : Nat) : Nat → List AV → AP κ AV := contract laws_toIntS.sig (laws_toIntS.body k)
theorem laws_toIntS.den (k : Nat) (a0 : List Int) : Code.den ti (laws_toIntS.Γ k) (laws_toIntS.LH k) (bodyOf Try.f38) (finK ti Try.f38.results.toList [(2, [some 1])] (flags laws_toIntS.sig).length (rwI (flags laws_toIntS.sig) 0) laws_toIntS.out) ⟨envOf (([.v (.sl 0)]).zipIdx.map fun q => (q.2, q.1)), hpOf [.rows 1 false a0], (flags laws_toIntS.sig).length⟩ = laws_toIntS.f k a0 := by kernel_rfl
theorem laws_toIntS.ok (k : Nat) : CSound Try.prog 38 (laws_toIntS.C k) :=
  csound κ_ok mixed tok (laws_toIntS.hΓ k) (LH := laws_toIntS.LH k) (fn := Try.f38) (c := bodyOf Try.f38) Try.func38 rfl Try.call38 laws_toIntS.sig [(2, [some 1])] (laws_toIntS.body k) (by kernel_rfl) (laws_toIntS.lok k) (by decide) fun vs bs lf y hl hb hy => by
    unfold laws_toIntS.body at hb
    split at hb
    · obtain ⟨_, rfl, hb_1⟩ := asO_bind hb
      obtain rfl := Option.some.inj hb_1
      exact ⟨laws_toIntS.out, laws_toIntS.out_ok, (laws_toIntS.den k _).trans hy⟩
    · cases hb
/-! ### laws_toFlow -/
def laws_toFlow.f (k : Nat) (a0_0 : Int) (a0_1 : Int) (a0_2 : Int) : Option (Int × Int × Int) :=
  some (a0_0, a0_1, a0_2)
def laws_toFlow.Γ (k : Nat) : Ct κ := assoc []
def laws_toFlow.LH (k : Nat) : Nat → Option (LHi κ) := assoc []
theorem laws_toFlow.hΓ (k : Nat) : ∀ f g, laws_toFlow.Γ k f = some g → CSound Try.prog f g := G_nil
theorem laws_toFlow.lok (k : Nat) : LOK ti (laws_toFlow.Γ k) (laws_toFlow.LH k) 0 (loopsOf (bodyOf Try.f75)) :=
  (show loopsOf (bodyOf Try.f75) = [] by kernel_rfl) ▸ LOK_nil
def laws_toFlow.sig : List PSh := [.agg [.sc, .sc, .sc]]
def laws_toFlow.g (y : Int × Int × Int) : Ret κ := ⟨.agg [.int .i64 y.1, .int .i64 y.2.1, .int .i64 y.2.2], [], []⟩
def laws_toFlow.out (r : Ret κ) : Option (Int × Int × Int) :=
  match r with
  | ⟨.agg [.int .i64 z0, .int .i64 z1, .int .i64 z2], [], []⟩ => some (z0, z1, z2)
  | _ => none
theorem laws_toFlow.out_ok (r : Ret κ) (y : Int × Int × Int) (h : laws_toFlow.out r = some y) : r = laws_toFlow.g y := by
  unfold laws_toFlow.out at h
  split at h
  · obtain rfl := Option.some.inj h
    rfl
  · cases h
def laws_toFlow.body (k : Nat) (vs : List AV) (bs : List (Blk κ)) : Option (Lf κ) :=
  match vs, bs with
  | [.agg [.int .i64 a0_0, .int .i64 a0_1, .int .i64 a0_2]], [] => some ⟨Int × Int × Int, laws_toFlow.f k a0_0 a0_1 a0_2, laws_toFlow.g⟩
  | _, _ => none
def laws_toFlow.C (k : Nat) : Nat → List AV → AP κ AV := contract laws_toFlow.sig (laws_toFlow.body k)
theorem laws_toFlow.den (k : Nat) (a0_0 : Int) (a0_1 : Int) (a0_2 : Int) : Code.den ti (laws_toFlow.Γ k) (laws_toFlow.LH k) (bodyOf Try.f75) (finK ti Try.f75.results.toList [] (flags laws_toFlow.sig).length (rwI (flags laws_toFlow.sig) 0) laws_toFlow.out) ⟨envOf (([.agg [.int .i64 a0_0, .int .i64 a0_1, .int .i64 a0_2]]).zipIdx.map fun q => (q.2, q.1)), hpOf [], (flags laws_toFlow.sig).length⟩ = laws_toFlow.f k a0_0 a0_1 a0_2 := by kernel_rfl
theorem laws_toFlow.ok (k : Nat) : CSound Try.prog 75 (laws_toFlow.C k) :=
  csound κ_ok mixed tok (laws_toFlow.hΓ k) (LH := laws_toFlow.LH k) (fn := Try.f75) (c := bodyOf Try.f75) Try.func75 rfl Try.call75 laws_toFlow.sig [] (laws_toFlow.body k) (by kernel_rfl) (laws_toFlow.lok k) (by decide) fun vs bs lf y hl hb hy => by
    unfold laws_toFlow.body at hb
    split at hb
    · obtain rfl := Option.some.inj hb
      exact ⟨laws_toFlow.out, laws_toFlow.out_ok, (laws_toFlow.den k _ _ _).trans hy⟩
    · cases hb
/-! ### laws_toFlowS -/
def laws_toFlowS.L3 {R : Type} (k : Nat) (xl0 : List T_laws_Flow) (X0 : List T_impl_Flow → Option R) (rec : Int → List T_impl_Flow → Option R) (x2 : Int) (xl1 : List T_impl_Flow) : Option R :=
  (bif decide (x2 < (xl0.length : Int)) then (bif decide (0 ≤ x2) then (bif decide (x2 < (xl0.length : Int)) then (laws_toFlow.f k ((rd_laws_Flow xl0 x2).f0) ((rd_laws_Flow xl0 x2).f1) ((rd_laws_Flow xl0 x2).f2)).bind fun t1 => (bif decide (0 ≤ x2) then (bif decide (x2 < (xl1.length : Int)) then (rec (w64 (x2 + (1 : Int))) (xl1.set (x2).toNat (⟨t1.1, t1.2.1, t1.2.2⟩ : T_impl_Flow))) else none) else none) else none) else none) else (X0 xl1))
def laws_toFlowS.l3 {R : Type} (k : Nat) (xl0 : List T_laws_Flow) (X0 : List T_impl_Flow → Option R) : Nat → Int → List T_impl_Flow → Option R
  | 0 => fun _ _ => none
  | n + 1 => laws_toFlowS.L3 k xl0 X0 (laws_toFlowS.l3 k xl0 X0 n)
def laws_toFlowS.f (k : Nat) (a0 : List T_laws_Flow) : Option (List T_impl_Flow) :=
  (bif decide (0 ≤ (a0.length : Int)) then (bif decide (((a0.length : Int)).toNat * 24 ≤ cap48) then (laws_toFlowS.l3 k a0 (fun (y2 : List T_impl_Flow) => some y2) k (0 : Int) (List.replicate ((a0.length : Int)).toNat z_impl_Flow)) else none) else none)
def laws_toFlowS.h3 (k : Nat) {R : Type} (K : Ex → St κ → Option R) (vs : List AV) (bs : List (Blk κ)) : Option R :=
  match vs, bs with
  | [.v (.sl 0), .v (.sl 1), .v (.int .i64 x2)], [qb0, qb1] => (asO 2 false qb0).bind fun xl0 => (asO 4 true qb1).bind fun xl1 => laws_toFlowS.l3 k xl0 (fun (zl1 : List T_impl_Flow) => K (.exit 0) (stOf [(3, [some 4])] [.v (.sl 1)] [.rows 2 false xl0, .rows 4 true zl1])) k x2 xl1
  | _, _ => none
def laws_toFlowS.Γ (k : Nat) : Ct κ := assoc [(75, laws_toFlow.C k)]
def laws_toFlowS.LH (k : Nat) : Nat → Option (LHi κ) := assoc [(3, ⟨1, [(0, [some 2]), (3, [some 4]), (4, [])], [(3, [some 4])], @laws_toFlowS.h3 k⟩)]
theorem laws_toFlowS.hΓ (k : Nat) : ∀ f g, laws_toFlowS.Γ k f = some g → CSound Try.prog f g := G_cons (laws_toFlow.ok k) G_nil
theorem laws_toFlowS.e3 {R : Type} (K : Ex → St κ → Option R) (k : Nat) (xl0 : List T_laws_Flow) : ∀ (n : Nat) (x2 : Int) (xl1 : List T_impl_Flow), loopN 1 (Code.den ti (laws_toFlowS.Γ k) (laws_toFlowS.LH k) (loopAt Try.f35 0)) [(0, [some 2]), (3, [some 4]), (4, [])] [(3, [some 4])] K n [.v (.sl 0), .v (.sl 1), .v (.int .i64 x2)] [.rows 2 false xl0, .rows 4 true xl1] = laws_toFlowS.l3 k xl0 (fun (zl1 : List T_impl_Flow) => K (.exit 0) (stOf [(3, [some 4])] [.v (.sl 1)] [.rows 2 false xl0, .rows 4 true zl1])) n x2 xl1
  | 0, _, _ => rfl
  | n + 1, x2, xl1 => (show loopN 1 (Code.den ti (laws_toFlowS.Γ k) (laws_toFlowS.LH k) (loopAt Try.f35 0)) [(0, [some 2]), (3, [some 4]), (4, [])] [(3, [some 4])] K (n + 1) [.v (.sl 0), .v (.sl 1), .v (.int .i64 x2)] [.rows 2 false xl0, .rows 4 true xl1] = laws_toFlowS.L3 k xl0 (fun (zl1 : List T_impl_Flow) => K (.exit 0) (stOf [(3, [some 4])] [.v (.sl 1)] [.rows 2 false xl0, .rows 4 true zl1])) (fun (x2' : Int) (xl1' : List T_impl_Flow) => loopN 1 (Code.den ti (laws_toFlowS.Γ k) (laws_toFlowS.LH k) (loopAt Try.f35 0)) [(0, [some 2]), (3, [some 4]), (4, [])] [(3, [some 4])] K n [.v (.sl 0), .v (.sl 1), .v (.int .i64 x2')] [.rows 2 false xl0, .rows 4 true xl1']) x2 xl1 by kernel_rfl).trans (congrArg (fun rec => laws_toFlowS.L3 k xl0 (fun (zl1 : List T_impl_Flow) => K (.exit 0) (stOf [(3, [some 4])] [.v (.sl 1)] [.rows 2 false xl0, .rows 4 true zl1])) rec x2 xl1) (funext fun x2' => funext fun xl1' => laws_toFlowS.e3 K k xl0 n x2' xl1'))
theorem laws_toFlowS.q3 (k : Nat) {R : Type} (K : Ex → St κ → Option R) (vs : List AV) (bs : List (Blk κ)) (r : R) (h : laws_toFlowS.h3 k K vs bs = some r) : ∃ n, loopN 1 (Code.den ti (laws_toFlowS.Γ k) (laws_toFlowS.LH k) (loopAt Try.f35 0)) [(0, [some 2]), (3, [some 4]), (4, [])] [(3, [some 4])] K n vs bs = some r := by
  unfold laws_toFlowS.h3 at h
  split at h
  · obtain ⟨_, rfl, h_1⟩ := asO_bind h
    obtain ⟨_, rfl, h_2⟩ := asO_bind h_1
    exact ⟨k, (laws_toFlowS.e3 K k _ k _ _).trans h_2⟩
  · cases h
theorem laws_toFlowS.lok (k : Nat) : LOK ti (laws_toFlowS.Γ k) (laws_toFlowS.LH k) 1 (loopsOf (bodyOf Try.f35)) :=
  (show loopsOf (bodyOf Try.f35) = [loopAt Try.f35 0] by kernel_rfl) ▸ (LOK_cons (g := ⟨1, [(0, [some 2]), (3, [some 4]), (4, [])], [(3, [some 4])], @laws_toFlowS.h3 k⟩) (by kernel_rfl) rfl (fun K vs xs r h => laws_toFlowS.q3 k K vs xs r h) (LOK_nil))
def laws_toFlowS.sig : List PSh := [.one (.ro 2)]
def laws_toFlowS.g (y : List T_impl_Flow) : Ret κ := ⟨.v (.sl 1), [], [.rows 4 true y]⟩
def laws_toFlowS.out (r : Ret κ) : Option (List T_impl_Flow) :=
  match r with
  | ⟨.v (.sl 1), [], [q0]⟩ => (asO 4 true q0).bind fun z0 => some (z0)
  | _ => none
theorem laws_toFlowS.out_ok (r : Ret κ) (y : List T_impl_Flow) (h : laws_toFlowS.out r = some y) : r = laws_toFlowS.g y := by
  unfold laws_toFlowS.out at h
  split at h
  · obtain ⟨_, rfl, h_1⟩ := asO_bind h
    obtain rfl := Option.some.inj h_1
    rfl
  · cases h
def laws_toFlowS.body (k : Nat) (vs : List AV) (bs : List (Blk κ)) : Option (Lf κ) :=
  match vs, bs with
  | [.v (.sl 0)], [qb0] => (asO 2 false qb0).bind fun a0 => some ⟨List T_impl_Flow, laws_toFlowS.f k a0, laws_toFlowS.g⟩
  | _, _ => none
def laws_toFlowS.C (k : Nat) : Nat → List AV → AP κ AV := contract laws_toFlowS.sig (laws_toFlowS.body k)
theorem laws_toFlowS.den (k : Nat) (a0 : List T_laws_Flow) : Code.den ti (laws_toFlowS.Γ k) (laws_toFlowS.LH k) (bodyOf Try.f35) (finK ti Try.f35.results.toList [(2, [some 4])] (flags laws_toFlowS.sig).length (rwI (flags laws_toFlowS.sig) 0) laws_toFlowS.out) ⟨envOf (([.v (.sl 0)]).zipIdx.map fun q => (q.2, q.1)), hpOf [.rows 2 false a0], (flags laws_toFlowS.sig).length⟩ = laws_toFlowS.f k a0 := by kernel_rfl
theorem laws_toFlowS.ok (k : Nat) : CSound Try.prog 35 (laws_toFlowS.C k) :=
  csound κ_ok mixed tok (laws_toFlowS.hΓ k) (LH := laws_toFlowS.LH k) (fn := Try.f35) (c := bodyOf Try.f35) Try.func35 rfl Try.call35 laws_toFlowS.sig [(2, [some 4])] (laws_toFlowS.body k) (by kernel_rfl) (laws_toFlowS.lok k) (by decide) fun vs bs lf y hl hb hy => by
    unfold laws_toFlowS.body at hb
    split at hb
    · obtain ⟨_, rfl, hb_1⟩ := asO_bind hb
      obtain rfl := Option.some.inj hb_1
      exact ⟨laws_toFlowS.out, laws_toFlowS.out_ok, (laws_toFlowS.den k _).trans hy⟩
    · cases hb
/-! ### spec_l21Zeros -/
def spec_l21Zeros.L3 {R : Type} (k : Nat) (X0 : List Int → Option R) (rec : Int → List Int → Option R) (x1 : Int) (xl0 : List Int) : Option R :=
  (bif decide (x1 < (6 : Int)) then (bif decide ((xl0.length + ([(0 : Int)] : List Int).length) * 8 ≤ cap48) then (rec (w64 (x1 + (1 : Int))) (xl0 ++ ([(0 : Int)] : List Int))) else none) else (X0 xl0))
def spec_l21Zeros.l3 {R : Type} (k : Nat) (X0 : List Int → Option R) : Nat → Int → List Int → Option R
  | 0 => fun _ _ => none
  | n + 1 => spec_l21Zeros.L3 k X0 (spec_l21Zeros.l3 k X0 n)
def spec_l21Zeros.f (k : Nat) : Option (List Int) :=
  (spec_l21Zeros.l3 k (fun (y1 : List Int) => some y1) k (0 : Int) ([] : List Int))
def spec_l21Zeros.h3 (k : Nat) {R : Type} (K : Ex → St κ → Option R) (vs : List AV) (bs : List (Blk κ)) : Option R :=
  match vs, bs with
  | [.v (.sl 0), .v (.int .i64 x1)], [qb0] => (asO 1 true qb0).bind fun xl0 => spec_l21Zeros.l3 k (fun (zl0 : List Int) => K (.exit 0) (stOf [(1, [some 1])] [.v (.sl 0)] [.rows 1 true zl0])) k x1 xl0
  | _, _ => none
def spec_l21Zeros.Γ (k : Nat) : Ct κ := assoc []
def spec_l21Zeros.LH (k : Nat) : Nat → Option (LHi κ) := assoc [(3, ⟨0, [(1, [some 1]), (2, [])], [(1, [some 1])], @spec_l21Zeros.h3 k⟩)]
theorem spec_l21Zeros.hΓ (k : Nat) : ∀ f g, spec_l21Zeros.Γ k f = some g → CSound Try.prog f g := G_nil
theorem spec_l21Zeros.e3 {R : Type} (K : Ex → St κ → Option R) (k : Nat) : ∀ (n : Nat) (x1 : Int) (xl0 : List Int), loopN 0 (Code.den ti (spec_l21Zeros.Γ k) (spec_l21Zeros.LH k) (loopAt Try.f54 0)) [(1, [some 1]), (2, [])] [(1, [some 1])] K n [.v (.sl 0), .v (.int .i64 x1)] [.rows 1 true xl0] = spec_l21Zeros.l3 k (fun (zl0 : List Int) => K (.exit 0) (stOf [(1, [some 1])] [.v (.sl 0)] [.rows 1 true zl0])) n x1 xl0
  | 0, _, _ => rfl
  | n + 1, x1, xl0 => (show loopN 0 (Code.den ti (spec_l21Zeros.Γ k) (spec_l21Zeros.LH k) (loopAt Try.f54 0)) [(1, [some 1]), (2, [])] [(1, [some 1])] K (n + 1) [.v (.sl 0), .v (.int .i64 x1)] [.rows 1 true xl0] = spec_l21Zeros.L3 k (fun (zl0 : List Int) => K (.exit 0) (stOf [(1, [some 1])] [.v (.sl 0)] [.rows 1 true zl0])) (fun (x1' : Int) (xl0' : List Int) => loopN 0 (Code.den ti (spec_l21Zeros.Γ k) (spec_l21Zeros.LH k) (loopAt Try.f54 0)) [(1, [some 1]), (2, [])] [(1, [some 1])] K n [.v (.sl 0), .v (.int .i64 x1')] [.rows 1 true xl0']) x1 xl0 by kernel_rfl).trans (congrArg (fun rec => spec_l21Zeros.L3 k (fun (zl0 : List Int) => K (.exit 0) (stOf [(1, [some 1])] [.v (.sl 0)] [.rows 1 true zl0])) rec x1 xl0) (funext fun x1' => funext fun xl0' => spec_l21Zeros.e3 K k n x1' xl0'))
theorem spec_l21Zeros.q3 (k : Nat) {R : Type} (K : Ex → St κ → Option R) (vs : List AV) (bs : List (Blk κ)) (r : R) (h : spec_l21Zeros.h3 k K vs bs = some r) : ∃ n, loopN 0 (Code.den ti (spec_l21Zeros.Γ k) (spec_l21Zeros.LH k) (loopAt Try.f54 0)) [(1, [some 1]), (2, [])] [(1, [some 1])] K n vs bs = some r := by
  unfold spec_l21Zeros.h3 at h
  split at h
  · obtain ⟨_, rfl, h_1⟩ := asO_bind h
    exact ⟨k, (spec_l21Zeros.e3 K k k _ _).trans h_1⟩
  · cases h
theorem spec_l21Zeros.lok (k : Nat) : LOK ti (spec_l21Zeros.Γ k) (spec_l21Zeros.LH k) 0 (loopsOf (bodyOf Try.f54)) :=
  (show loopsOf (bodyOf Try.f54) = [loopAt Try.f54 0] by kernel_rfl) ▸ (LOK_cons (g := ⟨0, [(1, [some 1]), (2, [])], [(1, [some 1])], @spec_l21Zeros.h3 k⟩) (by kernel_rfl) rfl (fun K vs xs r h => spec_l21Zeros.q3 k K vs xs r h) (LOK_nil))
def spec_l21Zeros.sig : List PSh := []
def spec_l21Zeros.g (y : List Int) : Ret κ := ⟨.v (.sl 0), [], [.rows 1 true y]⟩
def spec_l21Zeros.out (r : Ret κ) : Option (List Int) :=
  match r with
  | ⟨.v (.sl 0), [], [q0]⟩ => (asO 1 true q0).bind fun z0 => some (z0)
  | _ => none
theorem spec_l21Zeros.out_ok (r : Ret κ) (y : List Int) (h : spec_l21Zeros.out r = some y) : r = spec_l21Zeros.g y := by
  unfold spec_l21Zeros.out at h
  split at h
  · obtain ⟨_, rfl, h_1⟩ := asO_bind h
    obtain rfl := Option.some.inj h_1
    rfl
  · cases h
def spec_l21Zeros.body (k : Nat) (vs : List AV) (bs : List (Blk κ)) : Option (Lf κ) :=
  match vs, bs with
  | [], [] => some ⟨List Int, spec_l21Zeros.f k, spec_l21Zeros.g⟩
  | _, _ => none
def spec_l21Zeros.C (k : Nat) : Nat → List AV → AP κ AV := contract spec_l21Zeros.sig (spec_l21Zeros.body k)
theorem spec_l21Zeros.den (k : Nat) : Code.den ti (spec_l21Zeros.Γ k) (spec_l21Zeros.LH k) (bodyOf Try.f54) (finK ti Try.f54.results.toList [(0, [some 1])] (flags spec_l21Zeros.sig).length (rwI (flags spec_l21Zeros.sig) 0) spec_l21Zeros.out) ⟨envOf (([]).zipIdx.map fun q => (q.2, q.1)), hpOf [], (flags spec_l21Zeros.sig).length⟩ = spec_l21Zeros.f k := by kernel_rfl
theorem spec_l21Zeros.ok (k : Nat) : CSound Try.prog 54 (spec_l21Zeros.C k) :=
  csound κ_ok mixed tok (spec_l21Zeros.hΓ k) (LH := spec_l21Zeros.LH k) (fn := Try.f54) (c := bodyOf Try.f54) Try.func54 rfl Try.call54 spec_l21Zeros.sig [(0, [some 1])] (spec_l21Zeros.body k) (by kernel_rfl) (spec_l21Zeros.lok k) (by decide) fun vs bs lf y hl hb hy => by
    unfold spec_l21Zeros.body at hb
    split at hb
    · obtain rfl := Option.some.inj hb
      exact ⟨spec_l21Zeros.out, spec_l21Zeros.out_ok, (spec_l21Zeros.den k).trans hy⟩
    · cases hb
/-! ### spec_l1In -/
def spec_l1In.f (k : Nat) (a0 : Int) (a1 : Int) (a2 : Int) : Option Bool :=
  (bif decide (a0 ≥ a1) then some (decide (a0 ≤ a2)) else some false)
def spec_l1In.Γ (k : Nat) : Ct κ := assoc []
def spec_l1In.LH (k : Nat) : Nat → Option (LHi κ) := assoc []
theorem spec_l1In.hΓ (k : Nat) : ∀ f g, spec_l1In.Γ k f = some g → CSound Try.prog f g := G_nil
theorem spec_l1In.lok (k : Nat) : LOK ti (spec_l1In.Γ k) (spec_l1In.LH k) 0 (loopsOf (bodyOf Try.f93)) :=
  (show loopsOf (bodyOf Try.f93) = [] by kernel_rfl) ▸ LOK_nil
def spec_l1In.sig : List PSh := [.one .sc, .one .sc, .one .sc]
def spec_l1In.g (y : Bool) : Ret κ := ⟨.v (.bool y), [], []⟩
def spec_l1In.out (r : Ret κ) : Option Bool :=
  match r with
  | ⟨.v (.bool z0), [], []⟩ => some (z0)
  | _ => none
theorem spec_l1In.out_ok (r : Ret κ) (y : Bool) (h : spec_l1In.out r = some y) : r = spec_l1In.g y := by
  unfold spec_l1In.out at h
  split at h
  · obtain rfl := Option.some.inj h
    rfl
  · cases h
def spec_l1In.body (k : Nat) (vs : List AV) (bs : List (Blk κ)) : Option (Lf κ) :=
  match vs, bs with
  | [.v (.int .i64 a0), .v (.int .i64 a1), .v (.int .i64 a2)], [] => some ⟨Bool, spec_l1In.f k a0 a1 a2, spec_l1In.g⟩
  | _, _ => none
def spec_l1In.C (k : Nat) : Nat → List AV → AP κ AV := contract spec_l1In.sig (spec_l1In.body k)
theorem spec_l1In.den (k : Nat) (a0 : Int) (a1 : Int) (a2 : Int) : Code.den ti (spec_l1In.Γ k) (spec_l1In.LH k) (bodyOf Try.f93) (finK ti Try.f93.results.toList [] (flags spec_l1In.sig).length (rwI (flags spec_l1In.sig) 0) spec_l1In.out) ⟨envOf (([.v (.int .i64 a0), .v (.int .i64 a1), .v (.int .i64 a2)]).zipIdx.map fun q => (q.2, q.1)), hpOf [], (flags spec_l1In.sig).length⟩ = spec_l1In.f k a0 a1 a2 := by kernel_rfl
theorem spec_l1In.ok (k : Nat) : CSound Try.prog 93 (spec_l1In.C k) :=
  csound κ_ok mixed tok (spec_l1In.hΓ k) (LH := spec_l1In.LH k) (fn := Try.f93) (c := bodyOf Try.f93) Try.func93 rfl Try.call93 spec_l1In.sig [] (spec_l1In.body k) (by kernel_rfl) (spec_l1In.lok k) (by decide) fun vs bs lf y hl hb hy => by
    unfold spec_l1In.body at hb
    split at hb
    · obtain rfl := Option.some.inj hb
      exact ⟨spec_l1In.out, spec_l1In.out_ok, (spec_l1In.den k _ _ _).trans hy⟩
    · cases hb
/-! ### spec_l21Ok -/
def spec_l21Ok.f (k : Nat) (a0_0 : Int) (a0_1 : Int) (a0_2 : Int) (a0_3 : Int) : Option Bool :=
  (spec_l1In.f k a0_1 (0 : Int) (5 : Int)).bind fun t1 => (spec_l1In.f k a0_2 (0 : Int) (5 : Int)).bind fun t2 => (bif (a0_0 == (1 : Int)) then (bif t1 then (spec_l1In.f k a0_2 (1 : Int) (9 : Int)).bind fun t3 => (bif t3 then some (a0_3 == (0 : Int)) else some false) else some false) else (bif (a0_0 == (5 : Int)) then (bif t1 then (spec_l1In.f k a0_2 (1 : Int) (9 : Int)).bind fun t4 => (bif t4 then some (a0_3 == (0 : Int)) else some false) else some false) else (bif (a0_0 == (2 : Int)) then (bif t1 then (spec_l1In.f k a0_2 (0 : Int) (999 : Int)).bind fun t5 => (bif t5 then some (a0_3 == (0 : Int)) else some false) else some false) else (bif (a0_0 == (3 : Int)) then (bif t1 then (bif t2 then (spec_l1In.f k a0_3 (0 : Int) (5 : Int)).bind fun t6 => some t6 else some false) else some false) else (bif (a0_0 == (4 : Int)) then (bif t1 then (bif t2 then (spec_l1In.f k a0_3 (0 : Int) (5 : Int)).bind fun t7 => some t7 else some false) else some false) else some false)))))
def spec_l21Ok.Γ (k : Nat) : Ct κ := assoc [(93, spec_l1In.C k)]
def spec_l21Ok.LH (k : Nat) : Nat → Option (LHi κ) := assoc []
theorem spec_l21Ok.hΓ (k : Nat) : ∀ f g, spec_l21Ok.Γ k f = some g → CSound Try.prog f g := G_cons (spec_l1In.ok k) G_nil
theorem spec_l21Ok.lok (k : Nat) : LOK ti (spec_l21Ok.Γ k) (spec_l21Ok.LH k) 0 (loopsOf (bodyOf Try.f65)) :=
  (show loopsOf (bodyOf Try.f65) = [] by kernel_rfl) ▸ LOK_nil
def spec_l21Ok.sig : List PSh := [.agg [.sc, .sc, .sc, .sc]]
def spec_l21Ok.g (y : Bool) : Ret κ := ⟨.v (.bool y), [], []⟩
def spec_l21Ok.out (r : Ret κ) : Option Bool :=
  match r with
  | ⟨.v (.bool z0), [], []⟩ => some (z0)
  | _ => none
theorem spec_l21Ok.out_ok (r : Ret κ) (y : Bool) (h : spec_l21Ok.out r = some y) : r = spec_l21Ok.g y := by
  unfold spec_l21Ok.out at h
  split at h
  · obtain rfl := Option.some.inj h
    rfl
  · cases h
def spec_l21Ok.body (k : Nat) (vs : List AV) (bs : List (Blk κ)) : Option (Lf κ) :=
  match vs, bs with
  | [.agg [.int .i64 a0_0, .int .i64 a0_1, .int .i64 a0_2, .int .i64 a0_3]], [] => some ⟨Bool, spec_l21Ok.f k a0_0 a0_1 a0_2 a0_3, spec_l21Ok.g⟩
  | _, _ => none
def spec_l21Ok.C (k : Nat) : Nat → List AV → AP κ AV := contract spec_l21Ok.sig (spec_l21Ok.body k)
theorem spec_l21Ok.den (k : Nat) (a0_0 : Int) (a0_1 : Int) (a0_2 : Int) (a0_3 : Int) : Code.den ti (spec_l21Ok.Γ k) (spec_l21Ok.LH k) (bodyOf Try.f65) (finK ti Try.f65.results.toList [] (flags spec_l21Ok.sig).length (rwI (flags spec_l21Ok.sig) 0) spec_l21Ok.out) ⟨envOf (([.agg [.int .i64 a0_0, .int .i64 a0_1, .int .i64 a0_2, .int .i64 a0_3]]).zipIdx.map fun q => (q.2, q.1)), hpOf [], (flags spec_l21Ok.sig).length⟩ = spec_l21Ok.f k a0_0 a0_1 a0_2 a0_3 := by kernel_rfl
theorem spec_l21Ok.ok (k : Nat) : CSound Try.prog 65 (spec_l21Ok.C k) :=
  csound κ_ok mixed tok (spec_l21Ok.hΓ k) (LH := spec_l21Ok.LH k) (fn := Try.f65) (c := bodyOf Try.f65) Try.func65 rfl Try.call65 spec_l21Ok.sig [] (spec_l21Ok.body k) (by kernel_rfl) (spec_l21Ok.lok k) (by decide) fun vs bs lf y hl hb hy => by
    unfold spec_l21Ok.body at hb
    split at hb
    · obtain rfl := Option.some.inj hb
      exact ⟨spec_l21Ok.out, spec_l21Ok.out_ok, (spec_l21Ok.den k _ _ _ _).trans hy⟩
    · cases hb
/-! ### spec_AreOps -/
def spec_AreOps.L2 {R : Type} (k : Nat) (xl0 : List T_impl_Op) (X0 : Bool → Option R) (X1 : Unit → Option R) (rec : Int → Option R) (x1 : Int) : Option R :=
  (bif decide (x1 < (xl0.length : Int)) then (bif decide (0 ≤ x1) then (bif decide (x1 < (xl0.length : Int)) then (spec_l21Ok.f k ((rd_impl_Op xl0 x1).f0) ((rd_impl_Op xl0 x1).f1) ((rd_impl_Op xl0 x1).f2) ((rd_impl_Op xl0 x1).f3)).bind fun t1 => (bif !t1 then (X0 false) else (rec (w64 (x1 + (1 : Int))))) else none) else none) else (X1 ()))
def spec_AreOps.l2 {R : Type} (k : Nat) (xl0 : List T_impl_Op) (X0 : Bool → Option R) (X1 : Unit → Option R) : Nat → Int → Option R
  | 0 => fun _ => none
  | n + 1 => spec_AreOps.L2 k xl0 X0 X1 (spec_AreOps.l2 k xl0 X0 X1 n)
def spec_AreOps.f (k : Nat) (a0 : List T_impl_Op) : Option Bool :=
  (spec_AreOps.l2 k a0 (fun (y2 : Bool) => some y2) (fun (_ : Unit) => some (decide ((a0.length : Int) ≤ (16 : Int)))) k (0 : Int))
def spec_AreOps.h2 (k : Nat) {R : Type} (K : Ex → St κ → Option R) (vs : List AV) (bs : List (Blk κ)) : Option R :=
  match vs, bs with
  | [.v (.sl 0), .v (.int .i64 x1)], [qb0] => (asO 3 false qb0).bind fun xl0 => spec_AreOps.l2 k xl0 (fun (z1 : Bool) => K .ret (stOf [(0, [some 3]), (2, [])] [.v (.sl 0), .v (.bool z1)] [.rows 3 false xl0])) (fun (_ : Unit) => K (.exit 0) (stOf [(0, [some 3]), (2, [])] [.v (.sl 0), .v .any] [.rows 3 false xl0])) k x1
  | _, _ => none
def spec_AreOps.Γ (k : Nat) : Ct κ := assoc [(65, spec_l21Ok.C k)]
def spec_AreOps.LH (k : Nat) : Nat → Option (LHi κ) := assoc [(2, ⟨1, [(0, [some 3]), (3, [])], [(0, [some 3]), (2, [])], @spec_AreOps.h2 k⟩)]
theorem spec_AreOps.hΓ (k : Nat) : ∀ f g, spec_AreOps.Γ k f = some g → CSound Try.prog f g := G_cons (spec_l21Ok.ok k) G_nil
theorem spec_AreOps.e2 {R : Type} (K : Ex → St κ → Option R) (k : Nat) (xl0 : List T_impl_Op) : ∀ (n : Nat) (x1 : Int), loopN 1 (Code.den ti (spec_AreOps.Γ k) (spec_AreOps.LH k) (loopAt Try.f24 0)) [(0, [some 3]), (3, [])] [(0, [some 3]), (2, [])] K n [.v (.sl 0), .v (.int .i64 x1)] [.rows 3 false xl0] = spec_AreOps.l2 k xl0 (fun (z1 : Bool) => K .ret (stOf [(0, [some 3]), (2, [])] [.v (.sl 0), .v (.bool z1)] [.rows 3 false xl0])) (fun (_ : Unit) => K (.exit 0) (stOf [(0, [some 3]), (2, [])] [.v (.sl 0), .v .any] [.rows 3 false xl0])) n x1
  | 0, _ => rfl
  | n + 1, x1 => (show loopN 1 (Code.den ti (spec_AreOps.Γ k) (spec_AreOps.LH k) (loopAt Try.f24 0)) [(0, [some 3]), (3, [])] [(0, [some 3]), (2, [])] K (n + 1) [.v (.sl 0), .v (.int .i64 x1)] [.rows 3 false xl0] = spec_AreOps.L2 k xl0 (fun (z1 : Bool) => K .ret (stOf [(0, [some 3]), (2, [])] [.v (.sl 0), .v (.bool z1)] [.rows 3 false xl0])) (fun (_ : Unit) => K (.exit 0) (stOf [(0, [some 3]), (2, [])] [.v (.sl 0), .v .any] [.rows 3 false xl0])) (fun (x1' : Int) => loopN 1 (Code.den ti (spec_AreOps.Γ k) (spec_AreOps.LH k) (loopAt Try.f24 0)) [(0, [some 3]), (3, [])] [(0, [some 3]), (2, [])] K n [.v (.sl 0), .v (.int .i64 x1')] [.rows 3 false xl0]) x1 by kernel_rfl).trans (congrArg (fun rec => spec_AreOps.L2 k xl0 (fun (z1 : Bool) => K .ret (stOf [(0, [some 3]), (2, [])] [.v (.sl 0), .v (.bool z1)] [.rows 3 false xl0])) (fun (_ : Unit) => K (.exit 0) (stOf [(0, [some 3]), (2, [])] [.v (.sl 0), .v .any] [.rows 3 false xl0])) rec x1) (funext fun x1' => spec_AreOps.e2 K k xl0 n x1'))
theorem spec_AreOps.q2 (k : Nat) {R : Type} (K : Ex → St κ → Option R) (vs : List AV) (bs : List (Blk κ)) (r : R) (h : spec_AreOps.h2 k K vs bs = some r) : ∃ n, loopN 1 (Code.den ti (spec_AreOps.Γ k) (spec_AreOps.LH k) (loopAt Try.f24 0)) [(0, [some 3]), (3, [])] [(0, [some 3]), (2, [])] K n vs bs = some r := by
  unfold spec_AreOps.h2 at h
  split at h
  · obtain ⟨_, rfl, h_1⟩ := asO_bind h
    exact ⟨k, (spec_AreOps.e2 K k _ k _).trans h_1⟩
  · cases h
theorem spec_AreOps.lok (k : Nat) : LOK ti (spec_AreOps.Γ k) (spec_AreOps.LH k) 1 (loopsOf (bodyOf Try.f24)) :=
  (show loopsOf (bodyOf Try.f24) = [loopAt Try.f24 0] by kernel_rfl) ▸ (LOK_cons (g := ⟨1, [(0, [some 3]), (3, [])], [(0, [some 3]), (2, [])], @spec_AreOps.h2 k⟩) (by kernel_rfl) rfl (fun K vs xs r h => spec_AreOps.q2 k K vs xs r h) (LOK_nil))
def spec_AreOps.sig : List PSh := [.one (.ro 3)]
def spec_AreOps.g (y : Bool) : Ret κ := ⟨.v (.bool y), [], []⟩
def spec_AreOps.out (r : Ret κ) : Option Bool :=
  match r with
  | ⟨.v (.bool z0), [], []⟩ => some (z0)
  | _ => none
theorem spec_AreOps.out_ok (r : Ret κ) (y : Bool) (h : spec_AreOps.out r = some y) : r = spec_AreOps.g y := by
  unfold spec_AreOps.out at h
  split at h
  · obtain rfl := Option.some.inj h
    rfl
  · cases h
def spec_AreOps.body (k : Nat) (vs : List AV) (bs : List (Blk κ)) : Option (Lf κ) :=
  match vs, bs with
  | [.v (.sl 0)], [qb0] => (asO 3 false qb0).bind fun a0 => some ⟨Bool, spec_AreOps.f k a0, spec_AreOps.g⟩
  | _, _ => none
def spec_AreOps.C (k : Nat) : Nat → List AV → AP κ AV := contract spec_AreOps.sig (spec_AreOps.body k)
theorem spec_AreOps.den (k : Nat) (a0 : List T_impl_Op) : Code.den ti (spec_AreOps.Γ k) (spec_AreOps.LH k) (bodyOf Try.f24) (finK ti Try.f24.results.toList [] (flags spec_AreOps.sig).length (rwI (flags spec_AreOps.sig) 0) spec_AreOps.out) ⟨envOf (([.v (.sl 0)]).zipIdx.map fun q => (q.2, q.1)), hpOf [.rows 3 false a0], (flags spec_AreOps.sig).length⟩ = spec_AreOps.f k a0 := by kernel_rfl
theorem spec_AreOps.ok (k : Nat) : CSound Try.prog 24 (spec_AreOps.C k) :=
  csound κ_ok mixed tok (spec_AreOps.hΓ k) (LH := spec_AreOps.LH k) (fn := Try.f24) (c := bodyOf Try.f24) Try.func24 rfl Try.call24 spec_AreOps.sig [] (spec_AreOps.body k) (by kernel_rfl) (spec_AreOps.lok k) (by decide) fun vs bs lf y hl hb hy => by
    unfold spec_AreOps.body at hb
    split at hb
    · obtain ⟨_, rfl, hb_1⟩ := asO_bind hb
      obtain rfl := Option.some.inj hb_1
      exact ⟨spec_AreOps.out, spec_AreOps.out_ok, (spec_AreOps.den k _).trans hy⟩
    · cases hb
/-! ### spec_l21Value -/
def spec_l21Value.f (k : Nat) (a0 : List Int) (a1 : Int) : Option Int :=
  (bif decide (a1 > (a0.length : Int)) then some (0 : Int) else (bif decide (0 ≤ (w64 (a1 - (1 : Int)))) then (bif decide ((w64 (a1 - (1 : Int))) < (a0.length : Int)) then (spec_l1In.f k (rd_i64 a0 (w64 (a1 - (1 : Int)))) (0 : Int) (999 : Int)).bind fun t1 => (bif !t1 then some (0 : Int) else (bif decide (0 ≤ (w64 (a1 - (1 : Int)))) then (bif decide ((w64 (a1 - (1 : Int))) < (a0.length : Int)) then some (rd_i64 a0 (w64 (a1 - (1 : Int)))) else none) else none)) else none) else none))
def spec_l21Value.Γ (k : Nat) : Ct κ := assoc [(93, spec_l1In.C k)]
def spec_l21Value.LH (k : Nat) : Nat → Option (LHi κ) := assoc []
theorem spec_l21Value.hΓ (k : Nat) : ∀ f g, spec_l21Value.Γ k f = some g → CSound Try.prog f g := G_cons (spec_l1In.ok k) G_nil
theorem spec_l21Value.lok (k : Nat) : LOK ti (spec_l21Value.Γ k) (spec_l21Value.LH k) 1 (loopsOf (bodyOf Try.f84)) :=
  (show loopsOf (bodyOf Try.f84) = [] by kernel_rfl) ▸ LOK_nil
def spec_l21Value.sig : List PSh := [.one (.ro 1), .one .sc]
def spec_l21Value.g (y : Int) : Ret κ := ⟨.v (.int .i64 y), [], []⟩
def spec_l21Value.out (r : Ret κ) : Option Int :=
  match r with
  | ⟨.v (.int .i64 z0), [], []⟩ => some (z0)
  | _ => none
theorem spec_l21Value.out_ok (r : Ret κ) (y : Int) (h : spec_l21Value.out r = some y) : r = spec_l21Value.g y := by
  unfold spec_l21Value.out at h
  split at h
  · obtain rfl := Option.some.inj h
    rfl
  · cases h
def spec_l21Value.body (k : Nat) (vs : List AV) (bs : List (Blk κ)) : Option (Lf κ) :=
  match vs, bs with
  | [.v (.sl 0), .v (.int .i64 a1)], [qb0] => (asO 1 false qb0).bind fun a0 => some ⟨Int, spec_l21Value.f k a0 a1, spec_l21Value.g⟩
  | _, _ => none
def spec_l21Value.C (k : Nat) : Nat → List AV → AP κ AV := contract spec_l21Value.sig (spec_l21Value.body k)
theorem spec_l21Value.den (k : Nat) (a0 : List Int) (a1 : Int) : Code.den ti (spec_l21Value.Γ k) (spec_l21Value.LH k) (bodyOf Try.f84) (finK ti Try.f84.results.toList [] (flags spec_l21Value.sig).length (rwI (flags spec_l21Value.sig) 0) spec_l21Value.out) ⟨envOf (([.v (.sl 0), .v (.int .i64 a1)]).zipIdx.map fun q => (q.2, q.1)), hpOf [.rows 1 false a0], (flags spec_l21Value.sig).length⟩ = spec_l21Value.f k a0 a1 := by kernel_rfl
theorem spec_l21Value.ok (k : Nat) : CSound Try.prog 84 (spec_l21Value.C k) :=
  csound κ_ok mixed tok (spec_l21Value.hΓ k) (LH := spec_l21Value.LH k) (fn := Try.f84) (c := bodyOf Try.f84) Try.func84 rfl Try.call84 spec_l21Value.sig [] (spec_l21Value.body k) (by kernel_rfl) (spec_l21Value.lok k) (by decide) fun vs bs lf y hl hb hy => by
    unfold spec_l21Value.body at hb
    split at hb
    · obtain ⟨_, rfl, hb_1⟩ := asO_bind hb
      obtain rfl := Option.some.inj hb_1
      exact ⟨spec_l21Value.out, spec_l21Value.out_ok, (spec_l21Value.den k _ _).trans hy⟩
    · cases hb
/-! ### spec_l7Has -/
def spec_l7Has.L2 {R : Type} (k : Nat) (x1 : Int) (xl0 : List Int) (X0 : Bool → Option R) (X1 : Unit → Option R) (rec : Int → Option R) (x2 : Int) : Option R :=
  (bif decide (x2 < (xl0.length : Int)) then (bif decide (0 ≤ x2) then (bif decide (x2 < (xl0.length : Int)) then (bif ((rd_i64 xl0 x2) == x1) then (X0 true) else (rec (w64 (x2 + (1 : Int))))) else none) else none) else (X1 ()))
def spec_l7Has.l2 {R : Type} (k : Nat) (x1 : Int) (xl0 : List Int) (X0 : Bool → Option R) (X1 : Unit → Option R) : Nat → Int → Option R
  | 0 => fun _ => none
  | n + 1 => spec_l7Has.L2 k x1 xl0 X0 X1 (spec_l7Has.l2 k x1 xl0 X0 X1 n)
def spec_l7Has.f (k : Nat) (a0 : List Int) (a1 : Int) : Option Bool :=
  (spec_l7Has.l2 k a1 a0 (fun (y1 : Bool) => some y1) (fun (_ : Unit) => some false) k (0 : Int))
def spec_l7Has.h2 (k : Nat) {R : Type} (K : Ex → St κ → Option R) (vs : List AV) (bs : List (Blk κ)) : Option R :=
  match vs, bs with
  | [.v (.sl 0), .v (.int .i64 x1), .v (.int .i64 x2)], [qb0] => (asO 1 false qb0).bind fun xl0 => spec_l7Has.l2 k x1 xl0 (fun (z0 : Bool) => K .ret (stOf [(4, [])] [.v (.bool z0)] [.rows 1 false xl0])) (fun (_ : Unit) => K (.exit 0) (stOf [(4, [])] [.v .any] [.rows 1 false xl0])) k x2
  | _, _ => none
def spec_l7Has.Γ (k : Nat) : Ct κ := assoc []
def spec_l7Has.LH (k : Nat) : Nat → Option (LHi κ) := assoc [(2, ⟨1, [(0, [some 1]), (1, []), (5, [])], [(4, [])], @spec_l7Has.h2 k⟩)]
theorem spec_l7Has.hΓ (k : Nat) : ∀ f g, spec_l7Has.Γ k f = some g → CSound Try.prog f g := G_nil
theorem spec_l7Has.e2 {R : Type} (K : Ex → St κ → Option R) (k : Nat) (x1 : Int) (xl0 : List Int) : ∀ (n : Nat) (x2 : Int), loopN 1 (Code.den ti (spec_l7Has.Γ k) (spec_l7Has.LH k) (loopAt Try.f102 0)) [(0, [some 1]), (1, []), (5, [])] [(4, [])] K n [.v (.sl 0), .v (.int .i64 x1), .v (.int .i64 x2)] [.rows 1 false xl0] = spec_l7Has.l2 k x1 xl0 (fun (z0 : Bool) => K .ret (stOf [(4, [])] [.v (.bool z0)] [.rows 1 false xl0])) (fun (_ : Unit) => K (.exit 0) (stOf [(4, [])] [.v .any] [.rows 1 false xl0])) n x2
  | 0, _ => rfl
  | n + 1, x2 => (show loopN 1 (Code.den ti (spec_l7Has.Γ k) (spec_l7Has.LH k) (loopAt Try.f102 0)) [(0, [some 1]), (1, []), (5, [])] [(4, [])] K (n + 1) [.v (.sl 0), .v (.int .i64 x1), .v (.int .i64 x2)] [.rows 1 false xl0] = spec_l7Has.L2 k x1 xl0 (fun (z0 : Bool) => K .ret (stOf [(4, [])] [.v (.bool z0)] [.rows 1 false xl0])) (fun (_ : Unit) => K (.exit 0) (stOf [(4, [])] [.v .any] [.rows 1 false xl0])) (fun (x2' : Int) => loopN 1 (Code.den ti (spec_l7Has.Γ k) (spec_l7Has.LH k) (loopAt Try.f102 0)) [(0, [some 1]), (1, []), (5, [])] [(4, [])] K n [.v (.sl 0), .v (.int .i64 x1), .v (.int .i64 x2')] [.rows 1 false xl0]) x2 by kernel_rfl).trans (congrArg (fun rec => spec_l7Has.L2 k x1 xl0 (fun (z0 : Bool) => K .ret (stOf [(4, [])] [.v (.bool z0)] [.rows 1 false xl0])) (fun (_ : Unit) => K (.exit 0) (stOf [(4, [])] [.v .any] [.rows 1 false xl0])) rec x2) (funext fun x2' => spec_l7Has.e2 K k x1 xl0 n x2'))
theorem spec_l7Has.q2 (k : Nat) {R : Type} (K : Ex → St κ → Option R) (vs : List AV) (bs : List (Blk κ)) (r : R) (h : spec_l7Has.h2 k K vs bs = some r) : ∃ n, loopN 1 (Code.den ti (spec_l7Has.Γ k) (spec_l7Has.LH k) (loopAt Try.f102 0)) [(0, [some 1]), (1, []), (5, [])] [(4, [])] K n vs bs = some r := by
  unfold spec_l7Has.h2 at h
  split at h
  · obtain ⟨_, rfl, h_1⟩ := asO_bind h
    exact ⟨k, (spec_l7Has.e2 K k _ _ k _).trans h_1⟩
  · cases h
theorem spec_l7Has.lok (k : Nat) : LOK ti (spec_l7Has.Γ k) (spec_l7Has.LH k) 1 (loopsOf (bodyOf Try.f102)) :=
  (show loopsOf (bodyOf Try.f102) = [loopAt Try.f102 0] by kernel_rfl) ▸ (LOK_cons (g := ⟨1, [(0, [some 1]), (1, []), (5, [])], [(4, [])], @spec_l7Has.h2 k⟩) (by kernel_rfl) rfl (fun K vs xs r h => spec_l7Has.q2 k K vs xs r h) (LOK_nil))
def spec_l7Has.sig : List PSh := [.one (.ro 1), .one .sc]
def spec_l7Has.g (y : Bool) : Ret κ := ⟨.v (.bool y), [], []⟩
def spec_l7Has.out (r : Ret κ) : Option Bool :=
  match r with
  | ⟨.v (.bool z0), [], []⟩ => some (z0)
  | _ => none
theorem spec_l7Has.out_ok (r : Ret κ) (y : Bool) (h : spec_l7Has.out r = some y) : r = spec_l7Has.g y := by
  unfold spec_l7Has.out at h
  split at h
  · obtain rfl := Option.some.inj h
    rfl
  · cases h
def spec_l7Has.body (k : Nat) (vs : List AV) (bs : List (Blk κ)) : Option (Lf κ) :=
  match vs, bs with
  | [.v (.sl 0), .v (.int .i64 a1)], [qb0] => (asO 1 false qb0).bind fun a0 => some ⟨Bool, spec_l7Has.f k a0 a1, spec_l7Has.g⟩
  | _, _ => none
def spec_l7Has.C (k : Nat) : Nat → List AV → AP κ AV := contract spec_l7Has.sig (spec_l7Has.body k)
theorem spec_l7Has.den (k : Nat) (a0 : List Int) (a1 : Int) : Code.den ti (spec_l7Has.Γ k) (spec_l7Has.LH k) (bodyOf Try.f102) (finK ti Try.f102.results.toList [] (flags spec_l7Has.sig).length (rwI (flags spec_l7Has.sig) 0) spec_l7Has.out) ⟨envOf (([.v (.sl 0), .v (.int .i64 a1)]).zipIdx.map fun q => (q.2, q.1)), hpOf [.rows 1 false a0], (flags spec_l7Has.sig).length⟩ = spec_l7Has.f k a0 a1 := by kernel_rfl
theorem spec_l7Has.ok (k : Nat) : CSound Try.prog 102 (spec_l7Has.C k) :=
  csound κ_ok mixed tok (spec_l7Has.hΓ k) (LH := spec_l7Has.LH k) (fn := Try.f102) (c := bodyOf Try.f102) Try.func102 rfl Try.call102 spec_l7Has.sig [] (spec_l7Has.body k) (by kernel_rfl) (spec_l7Has.lok k) (by decide) fun vs bs lf y hl hb hy => by
    unfold spec_l7Has.body at hb
    split at hb
    · obtain ⟨_, rfl, hb_1⟩ := asO_bind hb
      obtain rfl := Option.some.inj hb_1
      exact ⟨spec_l7Has.out, spec_l7Has.out_ok, (spec_l7Has.den k _ _).trans hy⟩
    · cases hb
/-! ### spec_l19Bit -/
def spec_l19Bit.L3 {R : Type} (k : Nat) (x0 : Int) (X0 : Int → Option R) (rec : Int → Int → Option R) (x1 : Int) (x2 : Int) : Option R :=
  (bif decide (x2 < x0) then (rec (w64 ((2 : Int) * x1)) (w64 (x2 + (1 : Int)))) else (X0 x1))
def spec_l19Bit.l3 {R : Type} (k : Nat) (x0 : Int) (X0 : Int → Option R) : Nat → Int → Int → Option R
  | 0 => fun _ _ => none
  | n + 1 => spec_l19Bit.L3 k x0 X0 (spec_l19Bit.l3 k x0 X0 n)
def spec_l19Bit.f (k : Nat) (a0 : Int) : Option Int :=
  (spec_l19Bit.l3 k a0 (fun (y1 : Int) => some y1) k (1 : Int) (0 : Int))
def spec_l19Bit.h3 (k : Nat) {R : Type} (K : Ex → St κ → Option R) (vs : List AV) (bs : List (Blk κ)) : Option R :=
  match vs, bs with
  | [.v (.int .i64 x0), .v (.int .i64 x1), .v (.int .i64 x2)], [] => spec_l19Bit.l3 k x0 (fun (z0 : Int) => K (.exit 0) (stOf [(3, [])] [.v (.int .i64 z0)] [])) k x1 x2
  | _, _ => none
def spec_l19Bit.Γ (k : Nat) : Ct κ := assoc []
def spec_l19Bit.LH (k : Nat) : Nat → Option (LHi κ) := assoc [(3, ⟨0, [(0, []), (3, []), (4, [])], [(3, [])], @spec_l19Bit.h3 k⟩)]
theorem spec_l19Bit.hΓ (k : Nat) : ∀ f g, spec_l19Bit.Γ k f = some g → CSound Try.prog f g := G_nil
theorem spec_l19Bit.e3 {R : Type} (K : Ex → St κ → Option R) (k : Nat) (x0 : Int) : ∀ (n : Nat) (x1 : Int) (x2 : Int), loopN 0 (Code.den ti (spec_l19Bit.Γ k) (spec_l19Bit.LH k) (loopAt Try.f96 0)) [(0, []), (3, []), (4, [])] [(3, [])] K n [.v (.int .i64 x0), .v (.int .i64 x1), .v (.int .i64 x2)] [] = spec_l19Bit.l3 k x0 (fun (z0 : Int) => K (.exit 0) (stOf [(3, [])] [.v (.int .i64 z0)] [])) n x1 x2
  | 0, _, _ => rfl
  | n + 1, x1, x2 => (show loopN 0 (Code.den ti (spec_l19Bit.Γ k) (spec_l19Bit.LH k) (loopAt Try.f96 0)) [(0, []), (3, []), (4, [])] [(3, [])] K (n + 1) [.v (.int .i64 x0), .v (.int .i64 x1), .v (.int .i64 x2)] [] = spec_l19Bit.L3 k x0 (fun (z0 : Int) => K (.exit 0) (stOf [(3, [])] [.v (.int .i64 z0)] [])) (fun (x1' : Int) (x2' : Int) => loopN 0 (Code.den ti (spec_l19Bit.Γ k) (spec_l19Bit.LH k) (loopAt Try.f96 0)) [(0, []), (3, []), (4, [])] [(3, [])] K n [.v (.int .i64 x0), .v (.int .i64 x1'), .v (.int .i64 x2')] []) x1 x2 by kernel_rfl).trans (congrArg (fun rec => spec_l19Bit.L3 k x0 (fun (z0 : Int) => K (.exit 0) (stOf [(3, [])] [.v (.int .i64 z0)] [])) rec x1 x2) (funext fun x1' => funext fun x2' => spec_l19Bit.e3 K k x0 n x1' x2'))
theorem spec_l19Bit.q3 (k : Nat) {R : Type} (K : Ex → St κ → Option R) (vs : List AV) (bs : List (Blk κ)) (r : R) (h : spec_l19Bit.h3 k K vs bs = some r) : ∃ n, loopN 0 (Code.den ti (spec_l19Bit.Γ k) (spec_l19Bit.LH k) (loopAt Try.f96 0)) [(0, []), (3, []), (4, [])] [(3, [])] K n vs bs = some r := by
  unfold spec_l19Bit.h3 at h
  split at h
  · exact ⟨k, (spec_l19Bit.e3 K k _ k _ _).trans h⟩
  · cases h
theorem spec_l19Bit.lok (k : Nat) : LOK ti (spec_l19Bit.Γ k) (spec_l19Bit.LH k) 0 (loopsOf (bodyOf Try.f96)) :=
  (show loopsOf (bodyOf Try.f96) = [loopAt Try.f96 0] by kernel_rfl) ▸ (LOK_cons (g := ⟨0, [(0, []), (3, []), (4, [])], [(3, [])], @spec_l19Bit.h3 k⟩) (by kernel_rfl) rfl (fun K vs xs r h => spec_l19Bit.q3 k K vs xs r h) (LOK_nil))
def spec_l19Bit.sig : List PSh := [.one .sc]
def spec_l19Bit.g (y : Int) : Ret κ := ⟨.v (.int .i64 y), [], []⟩
def spec_l19Bit.out (r : Ret κ) : Option Int :=
  match r with
  | ⟨.v (.int .i64 z0), [], []⟩ => some (z0)
  | _ => none
theorem spec_l19Bit.out_ok (r : Ret κ) (y : Int) (h : spec_l19Bit.out r = some y) : r = spec_l19Bit.g y := by
  unfold spec_l19Bit.out at h
  split at h
  · obtain rfl := Option.some.inj h
    rfl
  · cases h
def spec_l19Bit.body (k : Nat) (vs : List AV) (bs : List (Blk κ)) : Option (Lf κ) :=
  match vs, bs with
  | [.v (.int .i64 a0)], [] => some ⟨Int, spec_l19Bit.f k a0, spec_l19Bit.g⟩
  | _, _ => none
def spec_l19Bit.C (k : Nat) : Nat → List AV → AP κ AV := contract spec_l19Bit.sig (spec_l19Bit.body k)
theorem spec_l19Bit.den (k : Nat) (a0 : Int) : Code.den ti (spec_l19Bit.Γ k) (spec_l19Bit.LH k) (bodyOf Try.f96) (finK ti Try.f96.results.toList [] (flags spec_l19Bit.sig).length (rwI (flags spec_l19Bit.sig) 0) spec_l19Bit.out) ⟨envOf (([.v (.int .i64 a0)]).zipIdx.map fun q => (q.2, q.1)), hpOf [], (flags spec_l19Bit.sig).length⟩ = spec_l19Bit.f k a0 := by kernel_rfl
theorem spec_l19Bit.ok (k : Nat) : CSound Try.prog 96 (spec_l19Bit.C k) :=
  csound κ_ok mixed tok (spec_l19Bit.hΓ k) (LH := spec_l19Bit.LH k) (fn := Try.f96) (c := bodyOf Try.f96) Try.func96 rfl Try.call96 spec_l19Bit.sig [] (spec_l19Bit.body k) (by kernel_rfl) (spec_l19Bit.lok k) (by decide) fun vs bs lf y hl hb hy => by
    unfold spec_l19Bit.body at hb
    split at hb
    · obtain rfl := Option.some.inj hb
      exact ⟨spec_l19Bit.out, spec_l19Bit.out_ok, (spec_l19Bit.den k _).trans hy⟩
    · cases hb
/-! ### spec_LabelOf -/
def spec_LabelOf.L3 {R : Type} (k : Nat) (xl0 : List Int) (X0 : Int → Option R) (rec : Int → Int → Option R) (x1 : Int) (x2 : Int) : Option R :=
  (bif decide (x2 ≤ (9 : Int)) then (spec_l7Has.f k xl0 x2).bind fun t1 => (bif t1 then (spec_l19Bit.f k x2).bind fun t2 => (rec (w64 (x1 + t2)) (w64 (x2 + (1 : Int)))) else (rec x1 (w64 (x2 + (1 : Int))))) else (X0 x1))
def spec_LabelOf.l3 {R : Type} (k : Nat) (xl0 : List Int) (X0 : Int → Option R) : Nat → Int → Int → Option R
  | 0 => fun _ _ => none
  | n + 1 => spec_LabelOf.L3 k xl0 X0 (spec_LabelOf.l3 k xl0 X0 n)
def spec_LabelOf.f (k : Nat) (a0 : List Int) : Option Int :=
  (spec_LabelOf.l3 k a0 (fun (y3 : Int) => some y3) k (0 : Int) (1 : Int))
def spec_LabelOf.h3 (k : Nat) {R : Type} (K : Ex → St κ → Option R) (vs : List AV) (bs : List (Blk κ)) : Option R :=
  match vs, bs with
  | [.v (.sl 0), .v (.int .i64 x1), .v (.int .i64 x2)], [qb0] => (asO 1 false qb0).bind fun xl0 => spec_LabelOf.l3 k xl0 (fun (z0 : Int) => K (.exit 0) (stOf [(3, [])] [.v (.int .i64 z0)] [.rows 1 false xl0])) k x1 x2
  | _, _ => none
def spec_LabelOf.Γ (k : Nat) : Ct κ := assoc [(102, spec_l7Has.C k), (96, spec_l19Bit.C k)]
def spec_LabelOf.LH (k : Nat) : Nat → Option (LHi κ) := assoc [(3, ⟨1, [(0, [some 1]), (3, []), (4, [])], [(3, [])], @spec_LabelOf.h3 k⟩)]
theorem spec_LabelOf.hΓ (k : Nat) : ∀ f g, spec_LabelOf.Γ k f = some g → CSound Try.prog f g := G_cons (spec_l7Has.ok k) (G_cons (spec_l19Bit.ok k) G_nil)
theorem spec_LabelOf.e3 {R : Type} (K : Ex → St κ → Option R) (k : Nat) (xl0 : List Int) : ∀ (n : Nat) (x1 : Int) (x2 : Int), loopN 1 (Code.den ti (spec_LabelOf.Γ k) (spec_LabelOf.LH k) (loopAt Try.f85 0)) [(0, [some 1]), (3, []), (4, [])] [(3, [])] K n [.v (.sl 0), .v (.int .i64 x1), .v (.int .i64 x2)] [.rows 1 false xl0] = spec_LabelOf.l3 k xl0 (fun (z0 : Int) => K (.exit 0) (stOf [(3, [])] [.v (.int .i64 z0)] [.rows 1 false xl0])) n x1 x2
  | 0, _, _ => rfl
  | n + 1, x1, x2 => (show loopN 1 (Code.den ti (spec_LabelOf.Γ k) (spec_LabelOf.LH k) (loopAt Try.f85 0)) [(0, [some 1]), (3, []), (4, [])] [(3, [])] K (n + 1) [.v (.sl 0), .v (.int .i64 x1), .v (.int .i64 x2)] [.rows 1 false xl0] = spec_LabelOf.L3 k xl0 (fun (z0 : Int) => K (.exit 0) (stOf [(3, [])] [.v (.int .i64 z0)] [.rows 1 false xl0])) (fun (x1' : Int) (x2' : Int) => loopN 1 (Code.den ti (spec_LabelOf.Γ k) (spec_LabelOf.LH k) (loopAt Try.f85 0)) [(0, [some 1]), (3, []), (4, [])] [(3, [])] K n [.v (.sl 0), .v (.int .i64 x1'), .v (.int .i64 x2')] [.rows 1 false xl0]) x1 x2 by kernel_rfl).trans (congrArg (fun rec => spec_LabelOf.L3 k xl0 (fun (z0 : Int) => K (.exit 0) (stOf [(3, [])] [.v (.int .i64 z0)] [.rows 1 false xl0])) rec x1 x2) (funext fun x1' => funext fun x2' => spec_LabelOf.e3 K k xl0 n x1' x2'))
theorem spec_LabelOf.q3 (k : Nat) {R : Type} (K : Ex → St κ → Option R) (vs : List AV) (bs : List (Blk κ)) (r : R) (h : spec_LabelOf.h3 k K vs bs = some r) : ∃ n, loopN 1 (Code.den ti (spec_LabelOf.Γ k) (spec_LabelOf.LH k) (loopAt Try.f85 0)) [(0, [some 1]), (3, []), (4, [])] [(3, [])] K n vs bs = some r := by
  unfold spec_LabelOf.h3 at h
  split at h
  · obtain ⟨_, rfl, h_1⟩ := asO_bind h
    exact ⟨k, (spec_LabelOf.e3 K k _ k _ _).trans h_1⟩
  · cases h
theorem spec_LabelOf.lok (k : Nat) : LOK ti (spec_LabelOf.Γ k) (spec_LabelOf.LH k) 1 (loopsOf (bodyOf Try.f85)) :=
  (show loopsOf (bodyOf Try.f85) = [loopAt Try.f85 0] by kernel_rfl) ▸ (LOK_cons (g := ⟨1, [(0, [some 1]), (3, []), (4, [])], [(3, [])], @spec_LabelOf.h3 k⟩) (by kernel_rfl) rfl (fun K vs xs r h => spec_LabelOf.q3 k K vs xs r h) (LOK_nil))
def spec_LabelOf.sig : List PSh := [.one (.ro 1)]
def spec_LabelOf.g (y : Int) : Ret κ := ⟨.v (.int .i64 y), [], []⟩
def spec_LabelOf.out (r : Ret κ) : Option Int :=
  match r with
  | ⟨.v (.int .i64 z0), [], []⟩ => some (z0)
  | _ => none
theorem spec_LabelOf.out_ok (r : Ret κ) (y : Int) (h : spec_LabelOf.out r = some y) : r = spec_LabelOf.g y := by
  unfold spec_LabelOf.out at h
  split at h
  · obtain rfl := Option.some.inj h
    rfl
  · cases h
def spec_LabelOf.body (k : Nat) (vs : List AV) (bs : List (Blk κ)) : Option (Lf κ) :=
  match vs, bs with
  | [.v (.sl 0)], [qb0] => (asO 1 false qb0).bind fun a0 => some ⟨Int, spec_LabelOf.f k a0, spec_LabelOf.g⟩
  | _, _ => none
def spec_LabelOf.C (k : Nat) : Nat → List AV → AP κ AV := contract spec_LabelOf.sig (spec_LabelOf.body k)
theorem spec_LabelOf.den (k : Nat) (a0 : List Int) : Code.den ti (spec_LabelOf.Γ k) (spec_LabelOf.LH k) (bodyOf Try.f85) (finK ti Try.f85.results.toList [] (flags spec_LabelOf.sig).length (rwI (flags spec_LabelOf.sig) 0) spec_LabelOf.out) ⟨envOf (([.v (.sl 0)]).zipIdx.map fun q => (q.2, q.1)), hpOf [.rows 1 false a0], (flags spec_LabelOf.sig).length⟩ = spec_LabelOf.f k a0 := by kernel_rfl
theorem spec_LabelOf.ok (k : Nat) : CSound Try.prog 85 (spec_LabelOf.C k) :=
  csound κ_ok mixed tok (spec_LabelOf.hΓ k) (LH := spec_LabelOf.LH k) (fn := Try.f85) (c := bodyOf Try.f85) Try.func85 rfl Try.call85 spec_LabelOf.sig [] (spec_LabelOf.body k) (by kernel_rfl) (spec_LabelOf.lok k) (by decide) fun vs bs lf y hl hb hy => by
    unfold spec_LabelOf.body at hb
    split at hb
    · obtain ⟨_, rfl, hb_1⟩ := asO_bind hb
      obtain rfl := Option.some.inj hb_1
      exact ⟨spec_LabelOf.out, spec_LabelOf.out_ok, (spec_LabelOf.den k _).trans hy⟩
    · cases hb
end Go.Proofs.Ythjdecnheaifkaa.PFnExactRunOps
