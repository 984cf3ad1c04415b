/- What the functions that the law FnExactCanRollBack reaches come to; no conditions. -/
import Derived.Test.YtoenilndklbceaaGreatPFnExactCanRollBack1
set_option linter.unusedVariables false
set_option maxRecDepth 100000
namespace Go.Proofs.YtoenilndklbceaaGreat.PFnExactCanRollBack
open Go Go.Eng Go.Proofs
/-! ### laws_toPackage -/
def laws_toPackage.f (k : Nat) (a0_0 : Int) (a0_1 : Int) (a0_2 : Int) (a0_3 : List T_laws_Grant) (a0_4 : List T_laws_Flow) (a0_5 : List T_laws_Rule) (a0_6 : List T_laws_Op) (a0_7 : Int) : Option (Int × Int × Int × Int × List T_impl_Grant × List T_impl_Flow × List T_impl_Rule × List T_impl_Op) :=
  (laws_toGrantS.f k a0_3).bind fun t1 => (laws_toFlowS.f k a0_4).bind fun t2 => (laws_toRuleS.f k a0_5).bind fun t3 => (laws_toOpS.f k a0_6).bind fun t4 => some (a0_0, a0_1, a0_2, a0_7, t1, t2, t3, t4)
def laws_toPackage.Γ (k : Nat) : Ct κ := assoc [(49, laws_toGrantS.C k), (50, laws_toFlowS.C k), (51, laws_toRuleS.C k), (52, laws_toOpS.C k)]
def laws_toPackage.LH (k : Nat) : Nat → Option (LHi κ) := assoc []
theorem laws_toPackage.hΓ (k : Nat) : ∀ f g, laws_toPackage.Γ k f = some g → CSound Tryz.prog f g := G_cons (laws_toGrantS.ok k) (G_cons (laws_toFlowS.ok k) (G_cons (laws_toRuleS.ok k) (G_cons (laws_toOpS.ok k) G_nil)))
theorem laws_toPackage.lok (k : Nat) : LOK ti (laws_toPackage.Γ k) (laws_toPackage.LH k) 4 (loopsOf (bodyOf Tryz.f13)) :=
  (show loopsOf (bodyOf Tryz.f13) = [] by kernel_rfl) ▸ LOK_nil
def laws_toPackage.sig : List PSh := [.agg [.sc, .sc, .sc, .ro 0, .ro 1, .ro 2, .ro 3, .sc]]
def laws_toPackage.g (y : Int × Int × Int × Int × List T_impl_Grant × List T_impl_Flow × List T_impl_Rule × List T_impl_Op) : Ret κ := ⟨.agg [.int .i64 y.1, .int .i64 y.2.1, .int .i64 y.2.2.1, .sl 4, .sl 5, .sl 6, .sl 7, .int .i64 y.2.2.2.1], [], [.rows 5 true y.2.2.2.2.1, .rows 6 true y.2.2.2.2.2.1, .rows 7 true y.2.2.2.2.2.2.1, .rows 8 true y.2.2.2.2.2.2.2]⟩
def laws_toPackage.out (r : Ret κ) : Option (Int × Int × Int × Int × List T_impl_Grant × List T_impl_Flow × List T_impl_Rule × List T_impl_Op) :=
  match r with
  | ⟨.agg [.int .i64 z0, .int .i64 z1, .int .i64 z2, .sl 4, .sl 5, .sl 6, .sl 7, .int .i64 z3], [], [q4, q5, q6, q7]⟩ => (asO 5 true q4).bind fun z4 => (asO 6 true q5).bind fun z5 => (asO 7 true q6).bind fun z6 => (asO 8 true q7).bind fun z7 => some (z0, z1, z2, z3, z4, z5, z6, z7)
  | _ => none
theorem laws_toPackage.out_ok (r : Ret κ) (y : Int × Int × Int × Int × List T_impl_Grant × List T_impl_Flow × List T_impl_Rule × List T_impl_Op) (h : laws_toPackage.out r = some y) : r = laws_toPackage.g y := by
  unfold laws_toPackage.out at h
  split at h
  · obtain ⟨_, rfl, h_1⟩ := asO_bind h
    obtain ⟨_, rfl, h_2⟩ := asO_bind h_1
    obtain ⟨_, rfl, h_3⟩ := asO_bind h_2
    obtain ⟨_, rfl, h_4⟩ := asO_bind h_3
    obtain rfl := Option.some.inj h_4
    rfl
  · cases h
def laws_toPackage.body (k : Nat) (vs : List AV) (bs : List (Blk κ)) : Option (Lf κ) :=
  match vs, bs with
  | [.agg [.int .i64 a0_0, .int .i64 a0_1, .int .i64 a0_2, .sl 0, .sl 1, .sl 2, .sl 3, .int .i64 a0_7]], [qb0, qb1, qb2, qb3] => (asO 0 false qb0).bind fun a0_3 => (asO 1 false qb1).bind fun a0_4 => (asO 2 false qb2).bind fun a0_5 => (asO 3 false qb3).bind fun a0_6 => some ⟨Int × Int × Int × Int × List T_impl_Grant × List T_impl_Flow × List T_impl_Rule × List T_impl_Op, laws_toPackage.f k a0_0 a0_1 a0_2 a0_3 a0_4 a0_5 a0_6 a0_7, laws_toPackage.g⟩
  | _, _ => none
def laws_toPackage.C (k : Nat) : Nat → List AV → AP κ AV := contract laws_toPackage.sig (laws_toPackage.body k)
theorem laws_toPackage.den (k : Nat) (a0_0 : Int) (a0_1 : Int) (a0_2 : Int) (a0_3 : List T_laws_Grant) (a0_4 : List T_laws_Flow) (a0_5 : List T_laws_Rule) (a0_6 : List T_laws_Op) (a0_7 : Int) : Code.den ti (laws_toPackage.Γ k) (laws_toPackage.LH k) (bodyOf Tryz.f13) (finK ti Tryz.f13.results.toList [(2, [none, none, none, some 5, some 6, some 7, some 8, none])] (flags laws_toPackage.sig).length (rwI (flags laws_toPackage.sig) 0) laws_toPackage.out) ⟨envOf (([.agg [.int .i64 a0_0, .int .i64 a0_1, .int .i64 a0_2, .sl 0, .sl 1, .sl 2, .sl 3, .int .i64 a0_7]]).zipIdx.map fun q => (q.2, q.1)), hpOf [.rows 0 false a0_3, .rows 1 false a0_4, .rows 2 false a0_5, .rows 3 false a0_6], (flags laws_toPackage.sig).length⟩ = laws_toPackage.f k a0_0 a0_1 a0_2 a0_3 a0_4 a0_5 a0_6 a0_7 := by kernel_rfl
theorem laws_toPackage.ok (k : Nat) : CSound Tryz.prog 13 (laws_toPackage.C k) :=
  csound κ_ok mixed tok (laws_toPackage.hΓ k) (LH := laws_toPackage.LH k) (fn := Tryz.f13) (c := bodyOf Tryz.f13) Tryz.func13 rfl Tryz.call13 laws_toPackage.sig [(2, [none, none, none, some 5, some 6, some 7, some 8, none])] (laws_toPackage.body k) (by kernel_rfl) (laws_toPackage.lok k) (by decide) fun vs bs lf y hl hb hy => by
    unfold laws_toPackage.body at hb
    split at hb
    · obtain ⟨_, rfl, hb_1⟩ := asO_bind hb
      obtain ⟨_, rfl, hb_2⟩ := asO_bind hb_1
      obtain ⟨_, rfl, hb_3⟩ := asO_bind hb_2
      obtain ⟨_, rfl, hb_4⟩ := asO_bind hb_3
      obtain rfl := Option.some.inj hb_4
      exact ⟨laws_toPackage.out, laws_toPackage.out_ok, (laws_toPackage.den k _ _ _ _ _ _ _ _).trans hy⟩
    · cases hb
/-! ### laws_toStored -/
def laws_toStored.f (k : Nat) (a0_0 : Int) (a0_1 : Int) (a0_2 : Int) (a0_3 : Int) : Option (Int × Int × Int × Int) :=
  some (a0_0, a0_1, a0_2, a0_3)
def laws_toStored.Γ (k : Nat) : Ct κ := assoc []
def laws_toStored.LH (k : Nat) : Nat → Option (LHi κ) := assoc []
theorem laws_toStored.hΓ (k : Nat) : ∀ f g, laws_toStored.Γ k f = some g → CSound Tryz.prog f g := G_nil
theorem laws_toStored.lok (k : Nat) : LOK ti (laws_toStored.Γ k) (laws_toStored.LH k) 0 (loopsOf (bodyOf Tryz.f106)) :=
  (show loopsOf (bodyOf Tryz.f106) = [] by kernel_rfl) ▸ LOK_nil
def laws_toStored.sig : List PSh := [.agg [.sc, .sc, .sc, .sc]]
def laws_toStored.g (y : Int × Int × Int × Int) : Ret κ := ⟨.agg [.int .i64 y.1, .int .i64 y.2.1, .int .i64 y.2.2.1, .int .i64 y.2.2.2], [], []⟩
def laws_toStored.out (r : Ret κ) : Option (Int × Int × Int × Int) :=
  match r with
  | ⟨.agg [.int .i64 z0, .int .i64 z1, .int .i64 z2, .int .i64 z3], [], []⟩ => some (z0, z1, z2, z3)
  | _ => none
theorem laws_toStored.out_ok (r : Ret κ) (y : Int × Int × Int × Int) (h : laws_toStored.out r = some y) : r = laws_toStored.g y := by
  unfold laws_toStored.out at h
  split at h
  · obtain rfl := Option.some.inj h
    rfl
  · cases h
def laws_toStored.body (k : Nat) (vs : List AV) (bs : List (Blk κ)) : Option (Lf κ) :=
  match vs, bs with
  | [.agg [.int .i64 a0_0, .int .i64 a0_1, .int .i64 a0_2, .int .i64 a0_3]], [] => some ⟨Int × Int × Int × Int, laws_toStored.f k a0_0 a0_1 a0_2 a0_3, laws_toStored.g⟩
  | _, _ => none
def laws_toStored.C (k : Nat) : Nat → List AV → AP κ AV := contract laws_toStored.sig (laws_toStored.body k)
theorem laws_toStored.den (k : Nat) (a0_0 : Int) (a0_1 : Int) (a0_2 : Int) (a0_3 : Int) : Code.den ti (laws_toStored.Γ k) (laws_toStored.LH k) (bodyOf Tryz.f106) (finK ti Tryz.f106.results.toList [] (flags laws_toStored.sig).length (rwI (flags laws_toStored.sig) 0) laws_toStored.out) ⟨envOf (([.agg [.int .i64 a0_0, .int .i64 a0_1, .int .i64 a0_2, .int .i64 a0_3]]).zipIdx.map fun q => (q.2, q.1)), hpOf [], (flags laws_toStored.sig).length⟩ = laws_toStored.f k a0_0 a0_1 a0_2 a0_3 := by kernel_rfl
theorem laws_toStored.ok (k : Nat) : CSound Tryz.prog 106 (laws_toStored.C k) :=
  csound κ_ok mixed tok (laws_toStored.hΓ k) (LH := laws_toStored.LH k) (fn := Tryz.f106) (c := bodyOf Tryz.f106) Tryz.func106 rfl Tryz.call106 laws_toStored.sig [] (laws_toStored.body k) (by kernel_rfl) (laws_toStored.lok k) (by decide) fun vs bs lf y hl hb hy => by
    unfold laws_toStored.body at hb
    split at hb
    · obtain rfl := Option.some.inj hb
      exact ⟨laws_toStored.out, laws_toStored.out_ok, (laws_toStored.den k _ _ _ _).trans hy⟩
    · cases hb
/-! ### laws_toStoredS -/
def laws_toStoredS.L3 {R : Type} (k : Nat) (xl0 : List T_laws_Stored) (X0 : List T_impl_Stored → Option R) (rec : Int → List T_impl_Stored → Option R) (x2 : Int) (xl1 : List T_impl_Stored) : Option R :=
  (bif decide (x2 < (xl0.length : Int)) then (bif decide (0 ≤ x2) then (bif decide (x2 < (xl0.length : Int)) then (laws_toStored.f k ((rd_laws_Stored xl0 x2).f0) ((rd_laws_Stored xl0 x2).f1) ((rd_laws_Stored xl0 x2).f2) ((rd_laws_Stored xl0 x2).f3)).bind fun t1 => (bif decide (0 ≤ x2) then (bif decide (x2 < (xl1.length : Int)) then (let l2 : List T_impl_Stored := (xl1.set (x2).toNat (⟨t1.1, t1.2.1, t1.2.2.1, t1.2.2.2⟩ : T_impl_Stored)); (rec (w64 (x2 + (1 : Int))) l2)) else none) else none) else none) else none) else (X0 xl1))
def laws_toStoredS.l3 {R : Type} (k : Nat) (xl0 : List T_laws_Stored) (X0 : List T_impl_Stored → Option R) : Nat → Int → List T_impl_Stored → Option R
  | 0 => fun _ _ => none
  | n + 1 => laws_toStoredS.L3 k xl0 X0 (laws_toStoredS.l3 k xl0 X0 n)
def laws_toStoredS.f (k : Nat) (a0 : List T_laws_Stored) : Option (List T_impl_Stored) :=
  (bif decide (0 ≤ (a0.length : Int)) then (bif decide (((a0.length : Int)).toNat * 32 ≤ cap48) then (laws_toStoredS.l3 k a0 (fun (y3 : List T_impl_Stored) => some y3) k (0 : Int) (List.replicate ((a0.length : Int)).toNat z_impl_Stored)) else none) else none)
def laws_toStoredS.h3 (k : Nat) {R : Type} (K : Ex → St κ → Option R) (vs : List AV) (bs : List (Blk κ)) : Option R :=
  match vs, bs with
  | [.v (.sl 0), .v (.sl 1), .v (.int .i64 x2)], [qb0, qb1] => (asO 4 false qb0).bind fun xl0 => (asO 9 true qb1).bind fun xl1 => laws_toStoredS.l3 k xl0 (fun (zl1 : List T_impl_Stored) => K (.exit 0) (stOf [(3, [some 9])] [.v (.sl 1)] [.rows 4 false xl0, .rows 9 true zl1])) k x2 xl1
  | _, _ => none
def laws_toStoredS.Γ (k : Nat) : Ct κ := assoc [(106, laws_toStored.C k)]
def laws_toStoredS.LH (k : Nat) : Nat → Option (LHi κ) := assoc [(3, ⟨1, [(0, [some 4]), (3, [some 9]), (4, [])], [(3, [some 9])], @laws_toStoredS.h3 k⟩)]
theorem laws_toStoredS.hΓ (k : Nat) : ∀ f g, laws_toStoredS.Γ k f = some g → CSound Tryz.prog f g := G_cons (laws_toStored.ok k) G_nil
theorem laws_toStoredS.e3 {R : Type} (K : Ex → St κ → Option R) (k : Nat) (xl0 : List T_laws_Stored) : ∀ (n : Nat) (x2 : Int) (xl1 : List T_impl_Stored), loopN 1 (Code.den ti (laws_toStoredS.Γ k) (laws_toStoredS.LH k) (loopAt Tryz.f48 0)) [(0, [some 4]), (3, [some 9]), (4, [])] [(3, [some 9])] K n [.v (.sl 0), .v (.sl 1), .v (.int .i64 x2)] [.rows 4 false xl0, .rows 9 true xl1] = laws_toStoredS.l3 k xl0 (fun (zl1 : List T_impl_Stored) => K (.exit 0) (stOf [(3, [some 9])] [.v (.sl 1)] [.rows 4 false xl0, .rows 9 true zl1])) n x2 xl1
  | 0, _, _ => rfl
  | n + 1, x2, xl1 => (show loopN 1 (Code.den ti (laws_toStoredS.Γ k) (laws_toStoredS.LH k) (loopAt Tryz.f48 0)) [(0, [some 4]), (3, [some 9]), (4, [])] [(3, [some 9])] K (n + 1) [.v (.sl 0), .v (.sl 1), .v (.int .i64 x2)] [.rows 4 false xl0, .rows 9 true xl1] = laws_toStoredS.L3 k xl0 (fun (zl1 : List T_impl_Stored) => K (.exit 0) (stOf [(3, [some 9])] [.v (.sl 1)] [.rows 4 false xl0, .rows 9 true zl1])) (fun (x2' : Int) (xl1' : List T_impl_Stored) => loopN 1 (Code.den ti (laws_toStoredS.Γ k) (laws_toStoredS.LH k) (loopAt Tryz.f48 0)) [(0, [some 4]), (3, [some 9]), (4, [])] [(3, [some 9])] K n [.v (.sl 0), .v (.sl 1), .v (.int .i64 x2')] [.rows 4 false xl0, .rows 9 true xl1']) x2 xl1 by kernel_rfl).trans (congrArg (fun rec => laws_toStoredS.L3 k xl0 (fun (zl1 : List T_impl_Stored) => K (.exit 0) (stOf [(3, [some 9])] [.v (.sl 1)] [.rows 4 false xl0, .rows 9 true zl1])) rec x2 xl1) (funext fun x2' => funext fun xl1' => laws_toStoredS.e3 K k xl0 n x2' xl1'))
theorem laws_toStoredS.q3 (k : Nat) {R : Type} (K : Ex → St κ → Option R) (vs : List AV) (bs : List (Blk κ)) (r : R) (h : laws_toStoredS.h3 k K vs bs = some r) : ∃ n, loopN 1 (Code.den ti (laws_toStoredS.Γ k) (laws_toStoredS.LH k) (loopAt Tryz.f48 0)) [(0, [some 4]), (3, [some 9]), (4, [])] [(3, [some 9])] K n vs bs = some r := by
  unfold laws_toStoredS.h3 at h
  split at h
  · obtain ⟨_, rfl, h_1⟩ := asO_bind h
    obtain ⟨_, rfl, h_2⟩ := asO_bind h_1
    exact ⟨k, (laws_toStoredS.e3 K k _ k _ _).trans h_2⟩
  · cases h
theorem laws_toStoredS.lok (k : Nat) : LOK ti (laws_toStoredS.Γ k) (laws_toStoredS.LH k) 1 (loopsOf (bodyOf Tryz.f48)) :=
  (show loopsOf (bodyOf Tryz.f48) = [loopAt Tryz.f48 0] by kernel_rfl) ▸ (LOK_cons (g := ⟨1, [(0, [some 4]), (3, [some 9]), (4, [])], [(3, [some 9])], @laws_toStoredS.h3 k⟩) (by kernel_rfl) rfl (fun K vs xs r h => laws_toStoredS.q3 k K vs xs r h) (LOK_nil))
def laws_toStoredS.sig : List PSh := [.one (.ro 4)]
def laws_toStoredS.g (y : List T_impl_Stored) : Ret κ := ⟨.v (.sl 1), [], [.rows 9 true y]⟩
def laws_toStoredS.out (r : Ret κ) : Option (List T_impl_Stored) :=
  match r with
  | ⟨.v (.sl 1), [], [q0]⟩ => (asO 9 true q0).bind fun z0 => some (z0)
  | _ => none
theorem laws_toStoredS.out_ok (r : Ret κ) (y : List T_impl_Stored) (h : laws_toStoredS.out r = some y) : r = laws_toStoredS.g y := by
  unfold laws_toStoredS.out at h
  split at h
  · obtain ⟨_, rfl, h_1⟩ := asO_bind h
    obtain rfl := Option.some.inj h_1
    rfl
  · cases h
def laws_toStoredS.body (k : Nat) (vs : List AV) (bs : List (Blk κ)) : Option (Lf κ) :=
  match vs, bs with
  | [.v (.sl 0)], [qb0] => (asO 4 false qb0).bind fun a0 => some ⟨List T_impl_Stored, laws_toStoredS.f k a0, laws_toStoredS.g⟩
  | _, _ => none
def laws_toStoredS.C (k : Nat) : Nat → List AV → AP κ AV := contract laws_toStoredS.sig (laws_toStoredS.body k)
theorem laws_toStoredS.den (k : Nat) (a0 : List T_laws_Stored) : Code.den ti (laws_toStoredS.Γ k) (laws_toStoredS.LH k) (bodyOf Tryz.f48) (finK ti Tryz.f48.results.toList [(2, [some 9])] (flags laws_toStoredS.sig).length (rwI (flags laws_toStoredS.sig) 0) laws_toStoredS.out) ⟨envOf (([.v (.sl 0)]).zipIdx.map fun q => (q.2, q.1)), hpOf [.rows 4 false a0], (flags laws_toStoredS.sig).length⟩ = laws_toStoredS.f k a0 := by kernel_rfl
theorem laws_toStoredS.ok (k : Nat) : CSound Tryz.prog 48 (laws_toStoredS.C k) :=
  csound κ_ok mixed tok (laws_toStoredS.hΓ k) (LH := laws_toStoredS.LH k) (fn := Tryz.f48) (c := bodyOf Tryz.f48) Tryz.func48 rfl Tryz.call48 laws_toStoredS.sig [(2, [some 9])] (laws_toStoredS.body k) (by kernel_rfl) (laws_toStoredS.lok k) (by decide) fun vs bs lf y hl hb hy => by
    unfold laws_toStoredS.body at hb
    split at hb
    · obtain ⟨_, rfl, hb_1⟩ := asO_bind hb
      obtain rfl := Option.some.inj hb_1
      exact ⟨laws_toStoredS.out, laws_toStoredS.out_ok, (laws_toStoredS.den k _).trans hy⟩
    · cases hb
/-! ### laws_toSnapshot -/
def laws_toSnapshot.f (k : Nat) (a0_0 : Int) (a0_1 : Int) (a0_2 : Int) (a0_3 : List T_laws_Grant) (a0_4 : List T_laws_Flow) (a0_5 : List T_laws_Rule) (a0_6 : List T_laws_Op) (a0_7 : Int) (a0_8 : List T_laws_Stored) : Option (Int × Int × Int × Int × List T_impl_Grant × List T_impl_Flow × List T_impl_Rule × List T_impl_Op × List T_impl_Stored) :=
  (laws_toPackage.f k a0_0 a0_1 a0_2 a0_3 a0_4 a0_5 a0_6 a0_7).bind fun t1 => (laws_toStoredS.f k a0_8).bind fun t2 => some (t1.1, t1.2.1, t1.2.2.1, t1.2.2.2.1, t1.2.2.2.2.1, t1.2.2.2.2.2.1, t1.2.2.2.2.2.2.1, t1.2.2.2.2.2.2.2, t2)
def laws_toSnapshot.Γ (k : Nat) : Ct κ := assoc [(13, laws_toPackage.C k), (48, laws_toStoredS.C k)]
def laws_toSnapshot.LH (k : Nat) : Nat → Option (LHi κ) := assoc []
theorem laws_toSnapshot.hΓ (k : Nat) : ∀ f g, laws_toSnapshot.Γ k f = some g → CSound Tryz.prog f g := G_cons (laws_toPackage.ok k) (G_cons (laws_toStoredS.ok k) G_nil)
theorem laws_toSnapshot.lok (k : Nat) : LOK ti (laws_toSnapshot.Γ k) (laws_toSnapshot.LH k) 5 (loopsOf (bodyOf Tryz.f12)) :=
  (show loopsOf (bodyOf Tryz.f12) = [] by kernel_rfl) ▸ LOK_nil
def laws_toSnapshot.sig : List PSh := [.agg [.sc, .sc, .sc, .ro 0, .ro 1, .ro 2, .ro 3, .sc, .ro 4]]
def laws_toSnapshot.g (y : Int × Int × Int × Int × List T_impl_Grant × List T_impl_Flow × List T_impl_Rule × List T_impl_Op × List T_impl_Stored) : Ret κ := ⟨.agg [.int .i64 y.1, .int .i64 y.2.1, .int .i64 y.2.2.1, .sl 5, .sl 6, .sl 7, .sl 8, .int .i64 y.2.2.2.1, .sl 9], [], [.rows 5 true y.2.2.2.2.1, .rows 6 true y.2.2.2.2.2.1, .rows 7 true y.2.2.2.2.2.2.1, .rows 8 true y.2.2.2.2.2.2.2.1, .rows 9 true y.2.2.2.2.2.2.2.2]⟩
def laws_toSnapshot.out (r : Ret κ) : Option (Int × Int × Int × Int × List T_impl_Grant × List T_impl_Flow × List T_impl_Rule × List T_impl_Op × List T_impl_Stored) :=
  match r with
  | ⟨.agg [.int .i64 z0, .int .i64 z1, .int .i64 z2, .sl 5, .sl 6, .sl 7, .sl 8, .int .i64 z3, .sl 9], [], [q4, q5, q6, q7, q8]⟩ => (asO 5 true q4).bind fun z4 => (asO 6 true q5).bind fun z5 => (asO 7 true q6).bind fun z6 => (asO 8 true q7).bind fun z7 => (asO 9 true q8).bind fun z8 => some (z0, z1, z2, z3, z4, z5, z6, z7, z8)
  | _ => none
theorem laws_toSnapshot.out_ok (r : Ret κ) (y : Int × Int × Int × Int × List T_impl_Grant × List T_impl_Flow × List T_impl_Rule × List T_impl_Op × List T_impl_Stored) (h : laws_toSnapshot.out r = some y) : r = laws_toSnapshot.g y := by
  unfold laws_toSnapshot.out at h
  split at h
  · obtain ⟨_, rfl, h_1⟩ := asO_bind h
    obtain ⟨_, rfl, h_2⟩ := asO_bind h_1
    obtain ⟨_, rfl, h_3⟩ := asO_bind h_2
    obtain ⟨_, rfl, h_4⟩ := asO_bind h_3
    obtain ⟨_, rfl, h_5⟩ := asO_bind h_4
    obtain rfl := Option.some.inj h_5
    rfl
  · cases h
def laws_toSnapshot.body (k : Nat) (vs : List AV) (bs : List (Blk κ)) : Option (Lf κ) :=
  match vs, bs with
  | [.agg [.int .i64 a0_0, .int .i64 a0_1, .int .i64 a0_2, .sl 0, .sl 1, .sl 2, .sl 3, .int .i64 a0_7, .sl 4]], [qb0, qb1, qb2, qb3, qb4] => (asO 0 false qb0).bind fun a0_3 => (asO 1 false qb1).bind fun a0_4 => (asO 2 false qb2).bind fun a0_5 => (asO 3 false qb3).bind fun a0_6 => (asO 4 false qb4).bind fun a0_8 => some ⟨Int × Int × Int × Int × List T_impl_Grant × List T_impl_Flow × List T_impl_Rule × List T_impl_Op × List T_impl_Stored, laws_toSnapshot.f k a0_0 a0_1 a0_2 a0_3 a0_4 a0_5 a0_6 a0_7 a0_8, laws_toSnapshot.g⟩
  | _, _ => none
def laws_toSnapshot.C (k : Nat) : Nat → List AV → AP κ AV := contract laws_toSnapshot.sig (laws_toSnapshot.body k)
theorem laws_toSnapshot.den (k : Nat) (a0_0 : Int) (a0_1 : Int) (a0_2 : Int) (a0_3 : List T_laws_Grant) (a0_4 : List T_laws_Flow) (a0_5 : List T_laws_Rule) (a0_6 : List T_laws_Op) (a0_7 : Int) (a0_8 : List T_laws_Stored) : Code.den ti (laws_toSnapshot.Γ k) (laws_toSnapshot.LH k) (bodyOf Tryz.f12) (finK ti Tryz.f12.results.toList [(2, [none, none, none, some 5, some 6, some 7, some 8, none, some 9])] (flags laws_toSnapshot.sig).length (rwI (flags laws_toSnapshot.sig) 0) laws_toSnapshot.out) ⟨envOf (([.agg [.int .i64 a0_0, .int .i64 a0_1, .int .i64 a0_2, .sl 0, .sl 1, .sl 2, .sl 3, .int .i64 a0_7, .sl 4]]).zipIdx.map fun q => (q.2, q.1)), hpOf [.rows 0 false a0_3, .rows 1 false a0_4, .rows 2 false a0_5, .rows 3 false a0_6, .rows 4 false a0_8], (flags laws_toSnapshot.sig).length⟩ = laws_toSnapshot.f k a0_0 a0_1 a0_2 a0_3 a0_4 a0_5 a0_6 a0_7 a0_8 := by kernel_rfl
theorem laws_toSnapshot.ok (k : Nat) : CSound Tryz.prog 12 (laws_toSnapshot.C k) :=
  csound κ_ok mixed tok (laws_toSnapshot.hΓ k) (LH := laws_toSnapshot.LH k) (fn := Tryz.f12) (c := bodyOf Tryz.f12) Tryz.func12 rfl Tryz.call12 laws_toSnapshot.sig [(2, [none, none, none, some 5, some 6, some 7, some 8, none, some 9])] (laws_toSnapshot.body k) (by kernel_rfl) (laws_toSnapshot.lok k) (by decide) fun vs bs lf y hl hb hy => by
    unfold laws_toSnapshot.body at hb
    split at hb
    · obtain ⟨_, rfl, hb_1⟩ := asO_bind hb
      obtain ⟨_, rfl, hb_2⟩ := asO_bind hb_1
      obtain ⟨_, rfl, hb_3⟩ := asO_bind hb_2
      obtain ⟨_, rfl, hb_4⟩ := asO_bind hb_3
      obtain ⟨_, rfl, hb_5⟩ := asO_bind hb_4
      obtain rfl := Option.some.inj hb_5
      exact ⟨laws_toSnapshot.out, laws_toSnapshot.out_ok, (laws_toSnapshot.den k _ _ _ _ _ _ _ _ _).trans hy⟩
    · cases hb
/-! ### spec_l1In -/
def spec_l1In.f (k : Nat) (a0 : Int) (a1 : Int) (a2 : Int) : Option Bool :=
  (bif decide (a0 ≥ a1) then some (decide (a0 ≤ a2)) else some false)
def spec_l1In.Γ (k : Nat) : Ct κ := assoc []
def spec_l1In.LH (k : Nat) : Nat → Option (LHi κ) := assoc []
theorem spec_l1In.hΓ (k : Nat) : ∀ f g, spec_l1In.Γ k f = some g → CSound Tryz.prog f g := G_nil
theorem spec_l1In.lok (k : Nat) : LOK ti (spec_l1In.Γ k) (spec_l1In.LH k) 0 (loopsOf (bodyOf Tryz.f101)) :=
  (show loopsOf (bodyOf Tryz.f101) = [] by kernel_rfl) ▸ LOK_nil
def spec_l1In.sig : List PSh := [.one .sc, .one .sc, .one .sc]
def spec_l1In.g (y : Bool) : Ret κ := ⟨.v (.bool y), [], []⟩
def spec_l1In.out (r : Ret κ) : Option Bool :=
  match r with
  | ⟨.v (.bool z0), [], []⟩ => some (z0)
  | _ => none
theorem spec_l1In.out_ok (r : Ret κ) (y : Bool) (h : spec_l1In.out r = some y) : r = spec_l1In.g y := by
  unfold spec_l1In.out at h
  split at h
  · obtain rfl := Option.some.inj h
    rfl
  · cases h
def spec_l1In.body (k : Nat) (vs : List AV) (bs : List (Blk κ)) : Option (Lf κ) :=
  match vs, bs with
  | [.v (.int .i64 a0), .v (.int .i64 a1), .v (.int .i64 a2)], [] => some ⟨Bool, spec_l1In.f k a0 a1 a2, spec_l1In.g⟩
  | _, _ => none
def spec_l1In.C (k : Nat) : Nat → List AV → AP κ AV := contract spec_l1In.sig (spec_l1In.body k)
theorem spec_l1In.den (k : Nat) (a0 : Int) (a1 : Int) (a2 : Int) : Code.den ti (spec_l1In.Γ k) (spec_l1In.LH k) (bodyOf Tryz.f101) (finK ti Tryz.f101.results.toList [] (flags spec_l1In.sig).length (rwI (flags spec_l1In.sig) 0) spec_l1In.out) ⟨envOf (([.v (.int .i64 a0), .v (.int .i64 a1), .v (.int .i64 a2)]).zipIdx.map fun q => (q.2, q.1)), hpOf [], (flags spec_l1In.sig).length⟩ = spec_l1In.f k a0 a1 a2 := by kernel_rfl
theorem spec_l1In.ok (k : Nat) : CSound Tryz.prog 101 (spec_l1In.C k) :=
  csound κ_ok mixed tok (spec_l1In.hΓ k) (LH := spec_l1In.LH k) (fn := Tryz.f101) (c := bodyOf Tryz.f101) Tryz.func101 rfl Tryz.call101 spec_l1In.sig [] (spec_l1In.body k) (by kernel_rfl) (spec_l1In.lok k) (by decide) fun vs bs lf y hl hb hy => by
    unfold spec_l1In.body at hb
    split at hb
    · obtain rfl := Option.some.inj hb
      exact ⟨spec_l1In.out, spec_l1In.out_ok, (spec_l1In.den k _ _ _).trans hy⟩
    · cases hb
/-! ### spec_l21Ok -/
def spec_l21Ok.f (k : Nat) (a0_0 : Int) (a0_1 : Int) (a0_2 : Int) (a0_3 : Int) : Option Bool :=
  (spec_l1In.f k a0_1 (0 : Int) (5 : Int)).bind fun t1 => (spec_l1In.f k a0_2 (0 : Int) (5 : Int)).bind fun t2 => (bif (a0_0 == (1 : Int)) then (bif t1 then (spec_l1In.f k a0_2 (1 : Int) (9 : Int)).bind fun t3 => (bif t3 then some (a0_3 == (0 : Int)) else some false) else some false) else (bif (a0_0 == (5 : Int)) then (bif t1 then (spec_l1In.f k a0_2 (1 : Int) (9 : Int)).bind fun t4 => (bif t4 then some (a0_3 == (0 : Int)) else some false) else some false) else (bif (a0_0 == (2 : Int)) then (bif t1 then (spec_l1In.f k a0_2 (0 : Int) (999 : Int)).bind fun t5 => (bif t5 then some (a0_3 == (0 : Int)) else some false) else some false) else (bif (a0_0 == (3 : Int)) then (bif t1 then (bif t2 then (spec_l1In.f k a0_3 (0 : Int) (5 : Int)).bind fun t6 => some t6 else some false) else some false) else (bif (a0_0 == (4 : Int)) then (bif t1 then (bif t2 then (spec_l1In.f k a0_3 (0 : Int) (5 : Int)).bind fun t7 => some t7 else some false) else some false) else some false)))))
def spec_l21Ok.Γ (k : Nat) : Ct κ := assoc [(101, spec_l1In.C k)]
def spec_l21Ok.LH (k : Nat) : Nat → Option (LHi κ) := assoc []
theorem spec_l21Ok.hΓ (k : Nat) : ∀ f g, spec_l21Ok.Γ k f = some g → CSound Tryz.prog f g := G_cons (spec_l1In.ok k) G_nil
theorem spec_l21Ok.lok (k : Nat) : LOK ti (spec_l21Ok.Γ k) (spec_l21Ok.LH k) 0 (loopsOf (bodyOf Tryz.f148)) :=
  (show loopsOf (bodyOf Tryz.f148) = [] by kernel_rfl) ▸ LOK_nil
def spec_l21Ok.sig : List PSh := [.agg [.sc, .sc, .sc, .sc]]
def spec_l21Ok.g (y : Bool) : Ret κ := ⟨.v (.bool y), [], []⟩
def spec_l21Ok.out (r : Ret κ) : Option Bool :=
  match r with
  | ⟨.v (.bool z0), [], []⟩ => some (z0)
  | _ => none
theorem spec_l21Ok.out_ok (r : Ret κ) (y : Bool) (h : spec_l21Ok.out r = some y) : r = spec_l21Ok.g y := by
  unfold spec_l21Ok.out at h
  split at h
  · obtain rfl := Option.some.inj h
    rfl
  · cases h
def spec_l21Ok.body (k : Nat) (vs : List AV) (bs : List (Blk κ)) : Option (Lf κ) :=
  match vs, bs with
  | [.agg [.int .i64 a0_0, .int .i64 a0_1, .int .i64 a0_2, .int .i64 a0_3]], [] => some ⟨Bool, spec_l21Ok.f k a0_0 a0_1 a0_2 a0_3, spec_l21Ok.g⟩
  | _, _ => none
def spec_l21Ok.C (k : Nat) : Nat → List AV → AP κ AV := contract spec_l21Ok.sig (spec_l21Ok.body k)
theorem spec_l21Ok.den (k : Nat) (a0_0 : Int) (a0_1 : Int) (a0_2 : Int) (a0_3 : Int) : Code.den ti (spec_l21Ok.Γ k) (spec_l21Ok.LH k) (bodyOf Tryz.f148) (finK ti Tryz.f148.results.toList [] (flags spec_l21Ok.sig).length (rwI (flags spec_l21Ok.sig) 0) spec_l21Ok.out) ⟨envOf (([.agg [.int .i64 a0_0, .int .i64 a0_1, .int .i64 a0_2, .int .i64 a0_3]]).zipIdx.map fun q => (q.2, q.1)), hpOf [], (flags spec_l21Ok.sig).length⟩ = spec_l21Ok.f k a0_0 a0_1 a0_2 a0_3 := by kernel_rfl
theorem spec_l21Ok.ok (k : Nat) : CSound Tryz.prog 148 (spec_l21Ok.C k) :=
  csound κ_ok mixed tok (spec_l21Ok.hΓ k) (LH := spec_l21Ok.LH k) (fn := Tryz.f148) (c := bodyOf Tryz.f148) Tryz.func148 rfl Tryz.call148 spec_l21Ok.sig [] (spec_l21Ok.body k) (by kernel_rfl) (spec_l21Ok.lok k) (by decide) fun vs bs lf y hl hb hy => by
    unfold spec_l21Ok.body at hb
    split at hb
    · obtain rfl := Option.some.inj hb
      exact ⟨spec_l21Ok.out, spec_l21Ok.out_ok, (spec_l21Ok.den k _ _ _ _).trans hy⟩
    · cases hb
/-! ### spec_AreOps -/
def spec_AreOps.L2 {R : Type} (k : Nat) (xl0 : List T_impl_Op) (X0 : Bool → Option R) (X1 : Unit → Option R) (rec : Int → Option R) (x1 : Int) : Option R :=
  (bif decide (x1 < (xl0.length : Int)) then (bif decide (0 ≤ x1) then (bif decide (x1 < (xl0.length : Int)) then (spec_l21Ok.f k ((rd_impl_Op xl0 x1).f0) ((rd_impl_Op xl0 x1).f1) ((rd_impl_Op xl0 x1).f2) ((rd_impl_Op xl0 x1).f3)).bind fun t1 => (bif !t1 then (X0 false) else (rec (w64 (x1 + (1 : Int))))) else none) else none) else (X1 ()))
def spec_AreOps.l2 {R : Type} (k : Nat) (xl0 : List T_impl_Op) (X0 : Bool → Option R) (X1 : Unit → Option R) : Nat → Int → Option R
  | 0 => fun _ => none
  | n + 1 => spec_AreOps.L2 k xl0 X0 X1 (spec_AreOps.l2 k xl0 X0 X1 n)
def spec_AreOps.f (k : Nat) (a0 : List T_impl_Op) : Option Bool :=
  (spec_AreOps.l2 k a0 (fun (y2 : Bool) => some y2) (fun (_ : Unit) => some (decide ((a0.length : Int) ≤ (16 : Int)))) k (0 : Int))
def spec_AreOps.h2 (k : Nat) {R : Type} (K : Ex → St κ → Option R) (vs : List AV) (bs : List (Blk κ)) : Option R :=
  match vs, bs with
  | [.v (.sl 0), .v (.int .i64 x1)], [qb0] => (asO 8 false qb0).bind fun xl0 => spec_AreOps.l2 k xl0 (fun (z1 : Bool) => K .ret (stOf [(0, [some 8]), (2, [])] [.v (.sl 0), .v (.bool z1)] [.rows 8 false xl0])) (fun (_ : Unit) => K (.exit 0) (stOf [(0, [some 8]), (2, [])] [.v (.sl 0), .v .any] [.rows 8 false xl0])) k x1
  | _, _ => none
def spec_AreOps.Γ (k : Nat) : Ct κ := assoc [(148, spec_l21Ok.C k)]
def spec_AreOps.LH (k : Nat) : Nat → Option (LHi κ) := assoc [(2, ⟨1, [(0, [some 8]), (3, [])], [(0, [some 8]), (2, [])], @spec_AreOps.h2 k⟩)]
theorem spec_AreOps.hΓ (k : Nat) : ∀ f g, spec_AreOps.Γ k f = some g → CSound Tryz.prog f g := G_cons (spec_l21Ok.ok k) G_nil
theorem spec_AreOps.e2 {R : Type} (K : Ex → St κ → Option R) (k : Nat) (xl0 : List T_impl_Op) : ∀ (n : Nat) (x1 : Int), loopN 1 (Code.den ti (spec_AreOps.Γ k) (spec_AreOps.LH k) (loopAt Tryz.f102 0)) [(0, [some 8]), (3, [])] [(0, [some 8]), (2, [])] K n [.v (.sl 0), .v (.int .i64 x1)] [.rows 8 false xl0] = spec_AreOps.l2 k xl0 (fun (z1 : Bool) => K .ret (stOf [(0, [some 8]), (2, [])] [.v (.sl 0), .v (.bool z1)] [.rows 8 false xl0])) (fun (_ : Unit) => K (.exit 0) (stOf [(0, [some 8]), (2, [])] [.v (.sl 0), .v .any] [.rows 8 false xl0])) n x1
  | 0, _ => rfl
  | n + 1, x1 => (show loopN 1 (Code.den ti (spec_AreOps.Γ k) (spec_AreOps.LH k) (loopAt Tryz.f102 0)) [(0, [some 8]), (3, [])] [(0, [some 8]), (2, [])] K (n + 1) [.v (.sl 0), .v (.int .i64 x1)] [.rows 8 false xl0] = spec_AreOps.L2 k xl0 (fun (z1 : Bool) => K .ret (stOf [(0, [some 8]), (2, [])] [.v (.sl 0), .v (.bool z1)] [.rows 8 false xl0])) (fun (_ : Unit) => K (.exit 0) (stOf [(0, [some 8]), (2, [])] [.v (.sl 0), .v .any] [.rows 8 false xl0])) (fun (x1' : Int) => loopN 1 (Code.den ti (spec_AreOps.Γ k) (spec_AreOps.LH k) (loopAt Tryz.f102 0)) [(0, [some 8]), (3, [])] [(0, [some 8]), (2, [])] K n [.v (.sl 0), .v (.int .i64 x1')] [.rows 8 false xl0]) x1 by kernel_rfl).trans (congrArg (fun rec => spec_AreOps.L2 k xl0 (fun (z1 : Bool) => K .ret (stOf [(0, [some 8]), (2, [])] [.v (.sl 0), .v (.bool z1)] [.rows 8 false xl0])) (fun (_ : Unit) => K (.exit 0) (stOf [(0, [some 8]), (2, [])] [.v (.sl 0), .v .any] [.rows 8 false xl0])) rec x1) (funext fun x1' => spec_AreOps.e2 K k xl0 n x1'))
theorem spec_AreOps.q2 (k : Nat) {R : Type} (K : Ex → St κ → Option R) (vs : List AV) (bs : List (Blk κ)) (r : R) (h : spec_AreOps.h2 k K vs bs = some r) : ∃ n, loopN 1 (Code.den ti (spec_AreOps.Γ k) (spec_AreOps.LH k) (loopAt Tryz.f102 0)) [(0, [some 8]), (3, [])] [(0, [some 8]), (2, [])] K n vs bs = some r := by
  unfold spec_AreOps.h2 at h
  split at h
  · obtain ⟨_, rfl, h_1⟩ := asO_bind h
    exact ⟨k, (spec_AreOps.e2 K k _ k _).trans h_1⟩
  · cases h
theorem spec_AreOps.lok (k : Nat) : LOK ti (spec_AreOps.Γ k) (spec_AreOps.LH k) 1 (loopsOf (bodyOf Tryz.f102)) :=
  (show loopsOf (bodyOf Tryz.f102) = [loopAt Tryz.f102 0] by kernel_rfl) ▸ (LOK_cons (g := ⟨1, [(0, [some 8]), (3, [])], [(0, [some 8]), (2, [])], @spec_AreOps.h2 k⟩) (by kernel_rfl) rfl (fun K vs xs r h => spec_AreOps.q2 k K vs xs r h) (LOK_nil))
def spec_AreOps.sig : List PSh := [.one (.ro 8)]
def spec_AreOps.g (y : Bool) : Ret κ := ⟨.v (.bool y), [], []⟩
def spec_AreOps.out (r : Ret κ) : Option Bool :=
  match r with
  | ⟨.v (.bool z0), [], []⟩ => some (z0)
  | _ => none
theorem spec_AreOps.out_ok (r : Ret κ) (y : Bool) (h : spec_AreOps.out r = some y) : r = spec_AreOps.g y := by
  unfold spec_AreOps.out at h
  split at h
  · obtain rfl := Option.some.inj h
    rfl
  · cases h
def spec_AreOps.body (k : Nat) (vs : List AV) (bs : List (Blk κ)) : Option (Lf κ) :=
  match vs, bs with
  | [.v (.sl 0)], [qb0] => (asO 8 false qb0).bind fun a0 => some ⟨Bool, spec_AreOps.f k a0, spec_AreOps.g⟩
  | _, _ => none
def spec_AreOps.C (k : Nat) : Nat → List AV → AP κ AV := contract spec_AreOps.sig (spec_AreOps.body k)
theorem spec_AreOps.den (k : Nat) (a0 : List T_impl_Op) : Code.den ti (spec_AreOps.Γ k) (spec_AreOps.LH k) (bodyOf Tryz.f102) (finK ti Tryz.f102.results.toList [] (flags spec_AreOps.sig).length (rwI (flags spec_AreOps.sig) 0) spec_AreOps.out) ⟨envOf (([.v (.sl 0)]).zipIdx.map fun q => (q.2, q.1)), hpOf [.rows 8 false a0], (flags spec_AreOps.sig).length⟩ = spec_AreOps.f k a0 := by kernel_rfl
theorem spec_AreOps.ok (k : Nat) : CSound Tryz.prog 102 (spec_AreOps.C k) :=
  csound κ_ok mixed tok (spec_AreOps.hΓ k) (LH := spec_AreOps.LH k) (fn := Tryz.f102) (c := bodyOf Tryz.f102) Tryz.func102 rfl Tryz.call102 spec_AreOps.sig [] (spec_AreOps.body k) (by kernel_rfl) (spec_AreOps.lok k) (by decide) fun vs bs lf y hl hb hy => by
    unfold spec_AreOps.body at hb
    split at hb
    · obtain ⟨_, rfl, hb_1⟩ := asO_bind hb
      obtain rfl := Option.some.inj hb_1
      exact ⟨spec_AreOps.out, spec_AreOps.out_ok, (spec_AreOps.den k _).trans hy⟩
    · cases hb
/-! ### spec_IsPattern -/
def spec_IsPattern.f (k : Nat) (a0_0 : Int) (a0_1 : Int) : Option Bool :=
  (spec_l1In.f k a0_0 (0 : Int) (9 : Int)).bind fun t1 => (bif t1 then (spec_l1In.f k a0_1 (-1 : Int) (9 : Int)).bind fun t2 => some t2 else some false)
def spec_IsPattern.Γ (k : Nat) : Ct κ := assoc [(101, spec_l1In.C k)]
def spec_IsPattern.LH (k : Nat) : Nat → Option (LHi κ) := assoc []
theorem spec_IsPattern.hΓ (k : Nat) : ∀ f g, spec_IsPattern.Γ k f = some g → CSound Tryz.prog f g := G_cons (spec_l1In.ok k) G_nil
theorem spec_IsPattern.lok (k : Nat) : LOK ti (spec_IsPattern.Γ k) (spec_IsPattern.LH k) 0 (loopsOf (bodyOf Tryz.f149)) :=
  (show loopsOf (bodyOf Tryz.f149) = [] by kernel_rfl) ▸ LOK_nil
def spec_IsPattern.sig : List PSh := [.agg [.sc, .sc]]
def spec_IsPattern.g (y : Bool) : Ret κ := ⟨.v (.bool y), [], []⟩
def spec_IsPattern.out (r : Ret κ) : Option Bool :=
  match r with
  | ⟨.v (.bool z0), [], []⟩ => some (z0)
  | _ => none
theorem spec_IsPattern.out_ok (r : Ret κ) (y : Bool) (h : spec_IsPattern.out r = some y) : r = spec_IsPattern.g y := by
  unfold spec_IsPattern.out at h
  split at h
  · obtain rfl := Option.some.inj h
    rfl
  · cases h
def spec_IsPattern.body (k : Nat) (vs : List AV) (bs : List (Blk κ)) : Option (Lf κ) :=
  match vs, bs with
  | [.agg [.int .i64 a0_0, .int .i64 a0_1]], [] => some ⟨Bool, spec_IsPattern.f k a0_0 a0_1, spec_IsPattern.g⟩
  | _, _ => none
def spec_IsPattern.C (k : Nat) : Nat → List AV → AP κ AV := contract spec_IsPattern.sig (spec_IsPattern.body k)
theorem spec_IsPattern.den (k : Nat) (a0_0 : Int) (a0_1 : Int) : Code.den ti (spec_IsPattern.Γ k) (spec_IsPattern.LH k) (bodyOf Tryz.f149) (finK ti Tryz.f149.results.toList [] (flags spec_IsPattern.sig).length (rwI (flags spec_IsPattern.sig) 0) spec_IsPattern.out) ⟨envOf (([.agg [.int .i64 a0_0, .int .i64 a0_1]]).zipIdx.map fun q => (q.2, q.1)), hpOf [], (flags spec_IsPattern.sig).length⟩ = spec_IsPattern.f k a0_0 a0_1 := by kernel_rfl
theorem spec_IsPattern.ok (k : Nat) : CSound Tryz.prog 149 (spec_IsPattern.C k) :=
  csound κ_ok mixed tok (spec_IsPattern.hΓ k) (LH := spec_IsPattern.LH k) (fn := Tryz.f149) (c := bodyOf Tryz.f149) Tryz.func149 rfl Tryz.call149 spec_IsPattern.sig [] (spec_IsPattern.body k) (by kernel_rfl) (spec_IsPattern.lok k) (by decide) fun vs bs lf y hl hb hy => by
    unfold spec_IsPattern.body at hb
    split at hb
    · obtain rfl := Option.some.inj hb
      exact ⟨spec_IsPattern.out, spec_IsPattern.out_ok, (spec_IsPattern.den k _ _).trans hy⟩
    · cases hb
/-! ### spec_IsGrant -/
def spec_IsGrant.f (k : Nat) (a0_0 : Int) (a0_1 : Int) (a0_2 : Int) (a0_3 : Int) (a0_4 : Int) (a0_5 : Int) (a0_6 : Bool) : Option Bool :=
  (spec_l1In.f k a0_0 (1 : Int) (5 : Int)).bind fun t1 => (bif t1 then (spec_IsPattern.f k a0_1 a0_2).bind fun t2 => (bif t2 then (spec_l1In.f k a0_3 (1 : Int) (4 : Int)).bind fun t3 => (bif t3 then (bif decide (a0_4 ≥ (0 : Int)) then (bif decide (a0_4 ≤ a0_5) then some (decide (a0_5 ≤ (10000 : Int))) else some false) else some false) else some false) else some false) else some false)
def spec_IsGrant.Γ (k : Nat) : Ct κ := assoc [(101, spec_l1In.C k), (149, spec_IsPattern.C k)]
def spec_IsGrant.LH (k : Nat) : Nat → Option (LHi κ) := assoc []
theorem spec_IsGrant.hΓ (k : Nat) : ∀ f g, spec_IsGrant.Γ k f = some g → CSound Tryz.prog f g := G_cons (spec_l1In.ok k) (G_cons (spec_IsPattern.ok k) G_nil)
theorem spec_IsGrant.lok (k : Nat) : LOK ti (spec_IsGrant.Γ k) (spec_IsGrant.LH k) 0 (loopsOf (bodyOf Tryz.f103)) :=
  (show loopsOf (bodyOf Tryz.f103) = [] by kernel_rfl) ▸ LOK_nil
def spec_IsGrant.sig : List PSh := [.agg [.sc, .sc, .sc, .sc, .sc, .sc, .sc]]
def spec_IsGrant.g (y : Bool) : Ret κ := ⟨.v (.bool y), [], []⟩
def spec_IsGrant.out (r : Ret κ) : Option Bool :=
  match r with
  | ⟨.v (.bool z0), [], []⟩ => some (z0)
  | _ => none
theorem spec_IsGrant.out_ok (r : Ret κ) (y : Bool) (h : spec_IsGrant.out r = some y) : r = spec_IsGrant.g y := by
  unfold spec_IsGrant.out at h
  split at h
  · obtain rfl := Option.some.inj h
    rfl
  · cases h
def spec_IsGrant.body (k : Nat) (vs : List AV) (bs : List (Blk κ)) : Option (Lf κ) :=
  match vs, bs with
  | [.agg [.int .i64 a0_0, .int .i64 a0_1, .int .i64 a0_2, .int .i64 a0_3, .int .i64 a0_4, .int .i64 a0_5, .bool a0_6]], [] => some ⟨Bool, spec_IsGrant.f k a0_0 a0_1 a0_2 a0_3 a0_4 a0_5 a0_6, spec_IsGrant.g⟩
  | _, _ => none
def spec_IsGrant.C (k : Nat) : Nat → List AV → AP κ AV := contract spec_IsGrant.sig (spec_IsGrant.body k)
theorem spec_IsGrant.den (k : Nat) (a0_0 : Int) (a0_1 : Int) (a0_2 : Int) (a0_3 : Int) (a0_4 : Int) (a0_5 : Int) (a0_6 : Bool) : Code.den ti (spec_IsGrant.Γ k) (spec_IsGrant.LH k) (bodyOf Tryz.f103) (finK ti Tryz.f103.results.toList [] (flags spec_IsGrant.sig).length (rwI (flags spec_IsGrant.sig) 0) spec_IsGrant.out) ⟨envOf (([.agg [.int .i64 a0_0, .int .i64 a0_1, .int .i64 a0_2, .int .i64 a0_3, .int .i64 a0_4, .int .i64 a0_5, .bool a0_6]]).zipIdx.map fun q => (q.2, q.1)), hpOf [], (flags spec_IsGrant.sig).length⟩ = spec_IsGrant.f k a0_0 a0_1 a0_2 a0_3 a0_4 a0_5 a0_6 := by kernel_rfl
theorem spec_IsGrant.ok (k : Nat) : CSound Tryz.prog 103 (spec_IsGrant.C k) :=
  csound κ_ok mixed tok (spec_IsGrant.hΓ k) (LH := spec_IsGrant.LH k) (fn := Tryz.f103) (c := bodyOf Tryz.f103) Tryz.func103 rfl Tryz.call103 spec_IsGrant.sig [] (spec_IsGrant.body k) (by kernel_rfl) (spec_IsGrant.lok k) (by decide) fun vs bs lf y hl hb hy => by
    unfold spec_IsGrant.body at hb
    split at hb
    · obtain rfl := Option.some.inj hb
      exact ⟨spec_IsGrant.out, spec_IsGrant.out_ok, (spec_IsGrant.den k _ _ _ _ _ _ _).trans hy⟩
    · cases hb
/-! ### spec_IsFlow -/
def spec_IsFlow.f (k : Nat) (a0_0 : Int) (a0_1 : Int) (a0_2 : Int) : Option Bool :=
  (spec_l1In.f k a0_0 (1 : Int) (5 : Int)).bind fun t1 => (bif t1 then (spec_l1In.f k a0_1 (1 : Int) (9 : Int)).bind fun t2 => (bif t2 then (spec_l1In.f k a0_2 (1 : Int) (9 : Int)).bind fun t3 => some t3 else some false) else some false)
def spec_IsFlow.Γ (k : Nat) : Ct κ := assoc [(101, spec_l1In.C k)]
def spec_IsFlow.LH (k : Nat) : Nat → Option (LHi κ) := assoc []
theorem spec_IsFlow.hΓ (k : Nat) : ∀ f g, spec_IsFlow.Γ k f = some g → CSound Tryz.prog f g := G_cons (spec_l1In.ok k) G_nil
theorem spec_IsFlow.lok (k : Nat) : LOK ti (spec_IsFlow.Γ k) (spec_IsFlow.LH k) 0 (loopsOf (bodyOf Tryz.f104)) :=
  (show loopsOf (bodyOf Tryz.f104) = [] by kernel_rfl) ▸ LOK_nil
def spec_IsFlow.sig : List PSh := [.agg [.sc, .sc, .sc]]
def spec_IsFlow.g (y : Bool) : Ret κ := ⟨.v (.bool y), [], []⟩
def spec_IsFlow.out (r : Ret κ) : Option Bool :=
  match r with
  | ⟨.v (.bool z0), [], []⟩ => some (z0)
  | _ => none
theorem spec_IsFlow.out_ok (r : Ret κ) (y : Bool) (h : spec_IsFlow.out r = some y) : r = spec_IsFlow.g y := by
  unfold spec_IsFlow.out at h
  split at h
  · obtain rfl := Option.some.inj h
    rfl
  · cases h
def spec_IsFlow.body (k : Nat) (vs : List AV) (bs : List (Blk κ)) : Option (Lf κ) :=
  match vs, bs with
  | [.agg [.int .i64 a0_0, .int .i64 a0_1, .int .i64 a0_2]], [] => some ⟨Bool, spec_IsFlow.f k a0_0 a0_1 a0_2, spec_IsFlow.g⟩
  | _, _ => none
def spec_IsFlow.C (k : Nat) : Nat → List AV → AP κ AV := contract spec_IsFlow.sig (spec_IsFlow.body k)
theorem spec_IsFlow.den (k : Nat) (a0_0 : Int) (a0_1 : Int) (a0_2 : Int) : Code.den ti (spec_IsFlow.Γ k) (spec_IsFlow.LH k) (bodyOf Tryz.f104) (finK ti Tryz.f104.results.toList [] (flags spec_IsFlow.sig).length (rwI (flags spec_IsFlow.sig) 0) spec_IsFlow.out) ⟨envOf (([.agg [.int .i64 a0_0, .int .i64 a0_1, .int .i64 a0_2]]).zipIdx.map fun q => (q.2, q.1)), hpOf [], (flags spec_IsFlow.sig).length⟩ = spec_IsFlow.f k a0_0 a0_1 a0_2 := by kernel_rfl
theorem spec_IsFlow.ok (k : Nat) : CSound Tryz.prog 104 (spec_IsFlow.C k) :=
  csound κ_ok mixed tok (spec_IsFlow.hΓ k) (LH := spec_IsFlow.LH k) (fn := Tryz.f104) (c := bodyOf Tryz.f104) Tryz.func104 rfl Tryz.call104 spec_IsFlow.sig [] (spec_IsFlow.body k) (by kernel_rfl) (spec_IsFlow.lok k) (by decide) fun vs bs lf y hl hb hy => by
    unfold spec_IsFlow.body at hb
    split at hb
    · obtain rfl := Option.some.inj hb
      exact ⟨spec_IsFlow.out, spec_IsFlow.out_ok, (spec_IsFlow.den k _ _ _).trans hy⟩
    · cases hb
/-! ### spec_IsSite -/
def spec_IsSite.f (k : Nat) (a0_0 : Int) (a0_1 : Int) : Option Bool :=
  (spec_l1In.f k a0_0 (1 : Int) (9 : Int)).bind fun t1 => (bif t1 then (spec_l1In.f k a0_1 (0 : Int) (9 : Int)).bind fun t2 => some t2 else some false)
def spec_IsSite.Γ (k : Nat) : Ct κ := assoc [(101, spec_l1In.C k)]
def spec_IsSite.LH (k : Nat) : Nat → Option (LHi κ) := assoc []
theorem spec_IsSite.hΓ (k : Nat) : ∀ f g, spec_IsSite.Γ k f = some g → CSound Tryz.prog f g := G_cons (spec_l1In.ok k) G_nil
theorem spec_IsSite.lok (k : Nat) : LOK ti (spec_IsSite.Γ k) (spec_IsSite.LH k) 0 (loopsOf (bodyOf Tryz.f150)) :=
  (show loopsOf (bodyOf Tryz.f150) = [] by kernel_rfl) ▸ LOK_nil
def spec_IsSite.sig : List PSh := [.agg [.sc, .sc]]
def spec_IsSite.g (y : Bool) : Ret κ := ⟨.v (.bool y), [], []⟩
def spec_IsSite.out (r : Ret κ) : Option Bool :=
  match r with
  | ⟨.v (.bool z0), [], []⟩ => some (z0)
  | _ => none
theorem spec_IsSite.out_ok (r : Ret κ) (y : Bool) (h : spec_IsSite.out r = some y) : r = spec_IsSite.g y := by
  unfold spec_IsSite.out at h
  split at h
  · obtain rfl := Option.some.inj h
    rfl
  · cases h
def spec_IsSite.body (k : Nat) (vs : List AV) (bs : List (Blk κ)) : Option (Lf κ) :=
  match vs, bs with
  | [.agg [.int .i64 a0_0, .int .i64 a0_1]], [] => some ⟨Bool, spec_IsSite.f k a0_0 a0_1, spec_IsSite.g⟩
  | _, _ => none
def spec_IsSite.C (k : Nat) : Nat → List AV → AP κ AV := contract spec_IsSite.sig (spec_IsSite.body k)
theorem spec_IsSite.den (k : Nat) (a0_0 : Int) (a0_1 : Int) : Code.den ti (spec_IsSite.Γ k) (spec_IsSite.LH k) (bodyOf Tryz.f150) (finK ti Tryz.f150.results.toList [] (flags spec_IsSite.sig).length (rwI (flags spec_IsSite.sig) 0) spec_IsSite.out) ⟨envOf (([.agg [.int .i64 a0_0, .int .i64 a0_1]]).zipIdx.map fun q => (q.2, q.1)), hpOf [], (flags spec_IsSite.sig).length⟩ = spec_IsSite.f k a0_0 a0_1 := by kernel_rfl
theorem spec_IsSite.ok (k : Nat) : CSound Tryz.prog 150 (spec_IsSite.C k) :=
  csound κ_ok mixed tok (spec_IsSite.hΓ k) (LH := spec_IsSite.LH k) (fn := Tryz.f150) (c := bodyOf Tryz.f150) Tryz.func150 rfl Tryz.call150 spec_IsSite.sig [] (spec_IsSite.body k) (by kernel_rfl) (spec_IsSite.lok k) (by decide) fun vs bs lf y hl hb hy => by
    unfold spec_IsSite.body at hb
    split at hb
    · obtain rfl := Option.some.inj hb
      exact ⟨spec_IsSite.out, spec_IsSite.out_ok, (spec_IsSite.den k _ _).trans hy⟩
    · cases hb
/-! ### spec_IsRule -/
def spec_IsRule.f (k : Nat) (a0_0 : Int) (a0_1 : Int) (a0_2 : Int) (a0_3 : Int) (a0_4 : Int) (a0_5 : Int) (a0_6 : Int) (a0_7 : Int) : Option Bool :=
  (spec_l1In.f k a0_0 (1 : Int) (5 : Int)).bind fun t1 => (bif !t1 then some false else (spec_l1In.f k a0_1 (1 : Int) (9 : Int)).bind fun t2 => (bif !t2 then some false else (spec_IsPattern.f k a0_2 a0_3).bind fun t3 => (bif !t3 then some false else (spec_l1In.f k a0_4 (0 : Int) (4 : Int)).bind fun t4 => (bif !t4 then some false else (spec_l1In.f k a0_5 (1 : Int) (3 : Int)).bind fun t5 => (bif !t5 then some false else (bif (a0_5 == (3 : Int)) then (spec_IsSite.f k a0_6 a0_7).bind fun t6 => (bif t6 then some true else (bif (a0_5 != (3 : Int)) then some ((a0_6 == (0 : Int)) && (a0_7 == (0 : Int))) else some false)) else (bif (a0_5 != (3 : Int)) then some ((a0_6 == (0 : Int)) && (a0_7 == (0 : Int))) else some false)))))))
def spec_IsRule.Γ (k : Nat) : Ct κ := assoc [(101, spec_l1In.C k), (149, spec_IsPattern.C k), (150, spec_IsSite.C k)]
def spec_IsRule.LH (k : Nat) : Nat → Option (LHi κ) := assoc []
theorem spec_IsRule.hΓ (k : Nat) : ∀ f g, spec_IsRule.Γ k f = some g → CSound Tryz.prog f g := G_cons (spec_l1In.ok k) (G_cons (spec_IsPattern.ok k) (G_cons (spec_IsSite.ok k) G_nil))
theorem spec_IsRule.lok (k : Nat) : LOK ti (spec_IsRule.Γ k) (spec_IsRule.LH k) 0 (loopsOf (bodyOf Tryz.f105)) :=
  (show loopsOf (bodyOf Tryz.f105) = [] by kernel_rfl) ▸ LOK_nil
def spec_IsRule.sig : List PSh := [.agg [.sc, .sc, .sc, .sc, .sc, .sc, .sc, .sc]]
def spec_IsRule.g (y : Bool) : Ret κ := ⟨.v (.bool y), [], []⟩
def spec_IsRule.out (r : Ret κ) : Option Bool :=
  match r with
  | ⟨.v (.bool z0), [], []⟩ => some (z0)
  | _ => none
theorem spec_IsRule.out_ok (r : Ret κ) (y : Bool) (h : spec_IsRule.out r = some y) : r = spec_IsRule.g y := by
  unfold spec_IsRule.out at h
  split at h
  · obtain rfl := Option.some.inj h
    rfl
  · cases h
def spec_IsRule.body (k : Nat) (vs : List AV) (bs : List (Blk κ)) : Option (Lf κ) :=
  match vs, bs with
  | [.agg [.int .i64 a0_0, .int .i64 a0_1, .int .i64 a0_2, .int .i64 a0_3, .int .i64 a0_4, .int .i64 a0_5, .int .i64 a0_6, .int .i64 a0_7]], [] => some ⟨Bool, spec_IsRule.f k a0_0 a0_1 a0_2 a0_3 a0_4 a0_5 a0_6 a0_7, spec_IsRule.g⟩
  | _, _ => none
def spec_IsRule.C (k : Nat) : Nat → List AV → AP κ AV := contract spec_IsRule.sig (spec_IsRule.body k)
theorem spec_IsRule.den (k : Nat) (a0_0 : Int) (a0_1 : Int) (a0_2 : Int) (a0_3 : Int) (a0_4 : Int) (a0_5 : Int) (a0_6 : Int) (a0_7 : Int) : Code.den ti (spec_IsRule.Γ k) (spec_IsRule.LH k) (bodyOf Tryz.f105) (finK ti Tryz.f105.results.toList [] (flags spec_IsRule.sig).length (rwI (flags spec_IsRule.sig) 0) spec_IsRule.out) ⟨envOf (([.agg [.int .i64 a0_0, .int .i64 a0_1, .int .i64 a0_2, .int .i64 a0_3, .int .i64 a0_4, .int .i64 a0_5, .int .i64 a0_6, .int .i64 a0_7]]).zipIdx.map fun q => (q.2, q.1)), hpOf [], (flags spec_IsRule.sig).length⟩ = spec_IsRule.f k a0_0 a0_1 a0_2 a0_3 a0_4 a0_5 a0_6 a0_7 := by kernel_rfl
theorem spec_IsRule.ok (k : Nat) : CSound Tryz.prog 105 (spec_IsRule.C k) :=
  csound κ_ok mixed tok (spec_IsRule.hΓ k) (LH := spec_IsRule.LH k) (fn := Tryz.f105) (c := bodyOf Tryz.f105) Tryz.func105 rfl Tryz.call105 spec_IsRule.sig [] (spec_IsRule.body k) (by kernel_rfl) (spec_IsRule.lok k) (by decide) fun vs bs lf y hl hb hy => by
    unfold spec_IsRule.body at hb
    split at hb
    · obtain rfl := Option.some.inj hb
      exact ⟨spec_IsRule.out, spec_IsRule.out_ok, (spec_IsRule.den k _ _ _ _ _ _ _ _).trans hy⟩
    · cases hb
/-! ### spec_IsPackage -/
def spec_IsPackage.L4 {R : Type} (k : Nat) (xl0 : List T_impl_Grant) (xl1 : List T_impl_Flow) (xl2 : List T_impl_Rule) (xl3 : List T_impl_Op) (xc4_0 : Int) (xc4_1 : Int) (xc4_2 : Int) (xc4_7 : Int) (X0 : Bool → Option R) (X1 : Unit → Option R) (rec : Int → Option R) (x1 : Int) : Option R :=
  (bif decide (x1 < (xl0.length : Int)) then (bif decide (0 ≤ x1) then (bif decide (x1 < (xl0.length : Int)) then (spec_IsGrant.f k ((rd_impl_Grant xl0 x1).f0) ((rd_impl_Grant xl0 x1).f1.f0) ((rd_impl_Grant xl0 x1).f1.f1) ((rd_impl_Grant xl0 x1).f2) ((rd_impl_Grant xl0 x1).f3) ((rd_impl_Grant xl0 x1).f4) ((rd_impl_Grant xl0 x1).f5)).bind fun t5 => (bif !t5 then (X0 false) else (bif decide (0 ≤ x1) then (bif decide (x1 < (xl0.length : Int)) then (bif ((rd_impl_Grant xl0 x1).f0 != xc4_0) then (X0 false) else (rec (w64 (x1 + (1 : Int))))) else none) else none)) else none) else none) else (X1 ()))
def spec_IsPackage.l4 {R : Type} (k : Nat) (xl0 : List T_impl_Grant) (xl1 : List T_impl_Flow) (xl2 : List T_impl_Rule) (xl3 : List T_impl_Op) (xc4_0 : Int) (xc4_1 : Int) (xc4_2 : Int) (xc4_7 : Int) (X0 : Bool → Option R) (X1 : Unit → Option R) : Nat → Int → Option R
  | 0 => fun _ => none
  | n + 1 => spec_IsPackage.L4 k xl0 xl1 xl2 xl3 xc4_0 xc4_1 xc4_2 xc4_7 X0 X1 (spec_IsPackage.l4 k xl0 xl1 xl2 xl3 xc4_0 xc4_1 xc4_2 xc4_7 X0 X1 n)
def spec_IsPackage.L9 {R : Type} (k : Nat) (xl0 : List T_impl_Grant) (xl1 : List T_impl_Flow) (xl2 : List T_impl_Rule) (xl3 : List T_impl_Op) (xc4_0 : Int) (xc4_1 : Int) (xc4_2 : Int) (xc4_7 : Int) (X0 : Bool → Option R) (X1 : Unit → Option R) (rec : Int → Option R) (x1 : Int) : Option R :=
  (bif decide (x1 < (xl1.length : Int)) then (bif decide (0 ≤ x1) then (bif decide (x1 < (xl1.length : Int)) then (spec_IsFlow.f k ((rd_impl_Flow xl1 x1).f0) ((rd_impl_Flow xl1 x1).f1) ((rd_impl_Flow xl1 x1).f2)).bind fun t7 => (bif !t7 then (X0 false) else (bif decide (0 ≤ x1) then (bif decide (x1 < (xl1.length : Int)) then (bif ((rd_impl_Flow xl1 x1).f0 != xc4_0) then (X0 false) else (rec (w64 (x1 + (1 : Int))))) else none) else none)) else none) else none) else (X1 ()))
def spec_IsPackage.l9 {R : Type} (k : Nat) (xl0 : List T_impl_Grant) (xl1 : List T_impl_Flow) (xl2 : List T_impl_Rule) (xl3 : List T_impl_Op) (xc4_0 : Int) (xc4_1 : Int) (xc4_2 : Int) (xc4_7 : Int) (X0 : Bool → Option R) (X1 : Unit → Option R) : Nat → Int → Option R
  | 0 => fun _ => none
  | n + 1 => spec_IsPackage.L9 k xl0 xl1 xl2 xl3 xc4_0 xc4_1 xc4_2 xc4_7 X0 X1 (spec_IsPackage.l9 k xl0 xl1 xl2 xl3 xc4_0 xc4_1 xc4_2 xc4_7 X0 X1 n)
def spec_IsPackage.L14 {R : Type} (k : Nat) (xl0 : List T_impl_Grant) (xl1 : List T_impl_Flow) (xl2 : List T_impl_Rule) (xl3 : List T_impl_Op) (xc4_0 : Int) (xc4_1 : Int) (xc4_2 : Int) (xc4_7 : Int) (X0 : Bool → Option R) (X1 : Unit → Option R) (rec : Int → Option R) (x1 : Int) : Option R :=
  (bif decide (x1 < (xl2.length : Int)) then (bif decide (0 ≤ x1) then (bif decide (x1 < (xl2.length : Int)) then (spec_IsRule.f k ((rd_impl_Rule xl2 x1).f0) ((rd_impl_Rule xl2 x1).f1) ((rd_impl_Rule xl2 x1).f2.f0) ((rd_impl_Rule xl2 x1).f2.f1) ((rd_impl_Rule xl2 x1).f3) ((rd_impl_Rule xl2 x1).f4) ((rd_impl_Rule xl2 x1).f5.f0) ((rd_impl_Rule xl2 x1).f5.f1)).bind fun t9 => (bif !t9 then (X0 false) else (bif decide (0 ≤ x1) then (bif decide (x1 < (xl2.length : Int)) then (bif ((rd_impl_Rule xl2 x1).f0 != xc4_0) then (X0 false) else (rec (w64 (x1 + (1 : Int))))) else none) else none)) else none) else none) else (X1 ()))
def spec_IsPackage.l14 {R : Type} (k : Nat) (xl0 : List T_impl_Grant) (xl1 : List T_impl_Flow) (xl2 : List T_impl_Rule) (xl3 : List T_impl_Op) (xc4_0 : Int) (xc4_1 : Int) (xc4_2 : Int) (xc4_7 : Int) (X0 : Bool → Option R) (X1 : Unit → Option R) : Nat → Int → Option R
  | 0 => fun _ => none
  | n + 1 => spec_IsPackage.L14 k xl0 xl1 xl2 xl3 xc4_0 xc4_1 xc4_2 xc4_7 X0 X1 (spec_IsPackage.l14 k xl0 xl1 xl2 xl3 xc4_0 xc4_1 xc4_2 xc4_7 X0 X1 n)
def spec_IsPackage.f (k : Nat) (a0_0 : Int) (a0_1 : Int) (a0_2 : Int) (a0_3 : List T_impl_Grant) (a0_4 : List T_impl_Flow) (a0_5 : List T_impl_Rule) (a0_6 : List T_impl_Op) (a0_7 : Int) : Option Bool :=
  (spec_l1In.f k a0_0 (1 : Int) (5 : Int)).bind fun t1 => (bif !t1 then some false else (spec_l1In.f k a0_1 (1 : Int) (9 : Int)).bind fun t2 => (bif !t2 then some false else (spec_l1In.f k a0_2 (1 : Int) (999 : Int)).bind fun t3 => (bif !t3 then some false else (bif decide ((a0_3.length : Int) > (6 : Int)) then some false else (bif decide ((a0_4.length : Int) > (6 : Int)) then some false else (bif decide ((a0_5.length : Int) > (6 : Int)) then some false else (spec_AreOps.f k a0_6).bind fun t4 => (bif !t4 then some false else (spec_IsPackage.l4 k a0_3 a0_4 a0_5 a0_6 a0_0 a0_1 a0_2 a0_7 (fun (y6 : Bool) => some y6) (fun (_ : Unit) => (spec_IsPackage.l9 k a0_3 a0_4 a0_5 a0_6 a0_0 a0_1 a0_2 a0_7 (fun (y8 : Bool) => some y8) (fun (_ : Unit) => (spec_IsPackage.l14 k a0_3 a0_4 a0_5 a0_6 a0_0 a0_1 a0_2 a0_7 (fun (y10 : Bool) => some y10) (fun (_ : Unit) => some true) k (0 : Int))) k (0 : Int))) k (0 : Int)))))))))
def spec_IsPackage.h4 (k : Nat) {R : Type} (K : Ex → St κ → Option R) (vs : List AV) (bs : List (Blk κ)) : Option R :=
  match vs, bs with
  | [.v (.ptr 4 0 0), .v (.int .i64 x1)], [qb0, qb1, qb2, qb3, .cells 39 [.int .i64 xc4_0, .int .i64 xc4_1, .int .i64 xc4_2, .sl 0, .sl 1, .sl 2, .sl 3, .int .i64 xc4_7]] => (asO 5 false qb0).bind fun xl0 => (asO 6 false qb1).bind fun xl1 => (asO 7 false qb2).bind fun xl2 => (asO 8 false qb3).bind fun xl3 => spec_IsPackage.l4 k xl0 xl1 xl2 xl3 xc4_0 xc4_1 xc4_2 xc4_7 (fun (z1 : Bool) => K .ret (stOf [(1, [none, none, none, some 5, some 6, some 7, some 8, none]), (2, [])] [.v (.ptr 4 0 0), .v (.bool z1)] [.rows 5 false xl0, .rows 6 false xl1, .rows 7 false xl2, .rows 8 false xl3, .cells 39 [.int .i64 xc4_0, .int .i64 xc4_1, .int .i64 xc4_2, .sl 0, .sl 1, .sl 2, .sl 3, .int .i64 xc4_7]])) (fun (_ : Unit) => K (.exit 0) (stOf [(1, [none, none, none, some 5, some 6, some 7, some 8, none]), (2, [])] [.v (.ptr 4 0 0), .v .any] [.rows 5 false xl0, .rows 6 false xl1, .rows 7 false xl2, .rows 8 false xl3, .cells 39 [.int .i64 xc4_0, .int .i64 xc4_1, .int .i64 xc4_2, .sl 0, .sl 1, .sl 2, .sl 3, .int .i64 xc4_7]])) k x1
  | _, _ => none
def spec_IsPackage.h9 (k : Nat) {R : Type} (K : Ex → St κ → Option R) (vs : List AV) (bs : List (Blk κ)) : Option R :=
  match vs, bs with
  | [.v (.ptr 4 0 0), .v (.int .i64 x1)], [qb0, qb1, qb2, qb3, .cells 39 [.int .i64 xc4_0, .int .i64 xc4_1, .int .i64 xc4_2, .sl 0, .sl 1, .sl 2, .sl 3, .int .i64 xc4_7]] => (asO 5 false qb0).bind fun xl0 => (asO 6 false qb1).bind fun xl1 => (asO 7 false qb2).bind fun xl2 => (asO 8 false qb3).bind fun xl3 => spec_IsPackage.l9 k xl0 xl1 xl2 xl3 xc4_0 xc4_1 xc4_2 xc4_7 (fun (z1 : Bool) => K .ret (stOf [(1, [none, none, none, some 5, some 6, some 7, some 8, none]), (2, [])] [.v (.ptr 4 0 0), .v (.bool z1)] [.rows 5 false xl0, .rows 6 false xl1, .rows 7 false xl2, .rows 8 false xl3, .cells 39 [.int .i64 xc4_0, .int .i64 xc4_1, .int .i64 xc4_2, .sl 0, .sl 1, .sl 2, .sl 3, .int .i64 xc4_7]])) (fun (_ : Unit) => K (.exit 2) (stOf [(1, [none, none, none, some 5, some 6, some 7, some 8, none]), (2, [])] [.v (.ptr 4 0 0), .v .any] [.rows 5 false xl0, .rows 6 false xl1, .rows 7 false xl2, .rows 8 false xl3, .cells 39 [.int .i64 xc4_0, .int .i64 xc4_1, .int .i64 xc4_2, .sl 0, .sl 1, .sl 2, .sl 3, .int .i64 xc4_7]])) k x1
  | _, _ => none
def spec_IsPackage.h14 (k : Nat) {R : Type} (K : Ex → St κ → Option R) (vs : List AV) (bs : List (Blk κ)) : Option R :=
  match vs, bs with
  | [.v (.ptr 4 0 0), .v (.int .i64 x1)], [qb0, qb1, qb2, qb3, .cells 39 [.int .i64 xc4_0, .int .i64 xc4_1, .int .i64 xc4_2, .sl 0, .sl 1, .sl 2, .sl 3, .int .i64 xc4_7]] => (asO 5 false qb0).bind fun xl0 => (asO 6 false qb1).bind fun xl1 => (asO 7 false qb2).bind fun xl2 => (asO 8 false qb3).bind fun xl3 => spec_IsPackage.l14 k xl0 xl1 xl2 xl3 xc4_0 xc4_1 xc4_2 xc4_7 (fun (z0 : Bool) => K .ret (stOf [(2, [])] [.v (.bool z0)] [.rows 5 false xl0, .rows 6 false xl1, .rows 7 false xl2, .rows 8 false xl3])) (fun (_ : Unit) => K (.exit 4) (stOf [(2, [])] [.v .any] [.rows 5 false xl0, .rows 6 false xl1, .rows 7 false xl2, .rows 8 false xl3])) k x1
  | _, _ => none
def spec_IsPackage.Γ (k : Nat) : Ct κ := assoc [(101, spec_l1In.C k), (102, spec_AreOps.C k), (103, spec_IsGrant.C k), (104, spec_IsFlow.C k), (105, spec_IsRule.C k)]
def spec_IsPackage.LH (k : Nat) : Nat → Option (LHi κ) := assoc [(4, ⟨4, [(1, [none, none, none, some 5, some 6, some 7, some 8, none]), (3, [])], [(1, [none, none, none, some 5, some 6, some 7, some 8, none]), (2, [])], @spec_IsPackage.h4 k⟩), (9, ⟨4, [(1, [none, none, none, some 5, some 6, some 7, some 8, none]), (4, [])], [(1, [none, none, none, some 5, some 6, some 7, some 8, none]), (2, [])], @spec_IsPackage.h9 k⟩), (14, ⟨4, [(1, [none, none, none, some 5, some 6, some 7, some 8, none]), (5, [])], [(2, [])], @spec_IsPackage.h14 k⟩)]
theorem spec_IsPackage.hΓ (k : Nat) : ∀ f g, spec_IsPackage.Γ k f = some g → CSound Tryz.prog f g := G_cons (spec_l1In.ok k) (G_cons (spec_AreOps.ok k) (G_cons (spec_IsGrant.ok k) (G_cons (spec_IsFlow.ok k) (G_cons (spec_IsRule.ok k) G_nil))))
theorem spec_IsPackage.e4 {R : Type} (K : Ex → St κ → Option R) (k : Nat) (xl0 : List T_impl_Grant) (xl1 : List T_impl_Flow) (xl2 : List T_impl_Rule) (xl3 : List T_impl_Op) (xc4_0 : Int) (xc4_1 : Int) (xc4_2 : Int) (xc4_7 : Int) : ∀ (n : Nat) (x1 : Int), loopN 4 (Code.den ti (spec_IsPackage.Γ k) (spec_IsPackage.LH k) (loopAt Tryz.f47 0)) [(1, [none, none, none, some 5, some 6, some 7, some 8, none]), (3, [])] [(1, [none, none, none, some 5, some 6, some 7, some 8, none]), (2, [])] K n [.v (.ptr 4 0 0), .v (.int .i64 x1)] [.rows 5 false xl0, .rows 6 false xl1, .rows 7 false xl2, .rows 8 false xl3, .cells 39 [.int .i64 xc4_0, .int .i64 xc4_1, .int .i64 xc4_2, .sl 0, .sl 1, .sl 2, .sl 3, .int .i64 xc4_7]] = spec_IsPackage.l4 k xl0 xl1 xl2 xl3 xc4_0 xc4_1 xc4_2 xc4_7 (fun (z1 : Bool) => K .ret (stOf [(1, [none, none, none, some 5, some 6, some 7, some 8, none]), (2, [])] [.v (.ptr 4 0 0), .v (.bool z1)] [.rows 5 false xl0, .rows 6 false xl1, .rows 7 false xl2, .rows 8 false xl3, .cells 39 [.int .i64 xc4_0, .int .i64 xc4_1, .int .i64 xc4_2, .sl 0, .sl 1, .sl 2, .sl 3, .int .i64 xc4_7]])) (fun (_ : Unit) => K (.exit 0) (stOf [(1, [none, none, none, some 5, some 6, some 7, some 8, none]), (2, [])] [.v (.ptr 4 0 0), .v .any] [.rows 5 false xl0, .rows 6 false xl1, .rows 7 false xl2, .rows 8 false xl3, .cells 39 [.int .i64 xc4_0, .int .i64 xc4_1, .int .i64 xc4_2, .sl 0, .sl 1, .sl 2, .sl 3, .int .i64 xc4_7]])) n x1
  | 0, _ => rfl
  | n + 1, x1 => (show loopN 4 (Code.den ti (spec_IsPackage.Γ k) (spec_IsPackage.LH k) (loopAt Tryz.f47 0)) [(1, [none, none, none, some 5, some 6, some 7, some 8, none]), (3, [])] [(1, [none, none, none, some 5, some 6, some 7, some 8, none]), (2, [])] K (n + 1) [.v (.ptr 4 0 0), .v (.int .i64 x1)] [.rows 5 false xl0, .rows 6 false xl1, .rows 7 false xl2, .rows 8 false xl3, .cells 39 [.int .i64 xc4_0, .int .i64 xc4_1, .int .i64 xc4_2, .sl 0, .sl 1, .sl 2, .sl 3, .int .i64 xc4_7]] = spec_IsPackage.L4 k xl0 xl1 xl2 xl3 xc4_0 xc4_1 xc4_2 xc4_7 (fun (z1 : Bool) => K .ret (stOf [(1, [none, none, none, some 5, some 6, some 7, some 8, none]), (2, [])] [.v (.ptr 4 0 0), .v (.bool z1)] [.rows 5 false xl0, .rows 6 false xl1, .rows 7 false xl2, .rows 8 false xl3, .cells 39 [.int .i64 xc4_0, .int .i64 xc4_1, .int .i64 xc4_2, .sl 0, .sl 1, .sl 2, .sl 3, .int .i64 xc4_7]])) (fun (_ : Unit) => K (.exit 0) (stOf [(1, [none, none, none, some 5, some 6, some 7, some 8, none]), (2, [])] [.v (.ptr 4 0 0), .v .any] [.rows 5 false xl0, .rows 6 false xl1, .rows 7 false xl2, .rows 8 false xl3, .cells 39 [.int .i64 xc4_0, .int .i64 xc4_1, .int .i64 xc4_2, .sl 0, .sl 1, .sl 2, .sl 3, .int .i64 xc4_7]])) (fun (x1' : Int) => loopN 4 (Code.den ti (spec_IsPackage.Γ k) (spec_IsPackage.LH k) (loopAt Tryz.f47 0)) [(1, [none, none, none, some 5, some 6, some 7, some 8, none]), (3, [])] [(1, [none, none, none, some 5, some 6, some 7, some 8, none]), (2, [])] K n [.v (.ptr 4 0 0), .v (.int .i64 x1')] [.rows 5 false xl0, .rows 6 false xl1, .rows 7 false xl2, .rows 8 false xl3, .cells 39 [.int .i64 xc4_0, .int .i64 xc4_1, .int .i64 xc4_2, .sl 0, .sl 1, .sl 2, .sl 3, .int .i64 xc4_7]]) x1 by kernel_rfl).trans (congrArg (fun rec => spec_IsPackage.L4 k xl0 xl1 xl2 xl3 xc4_0 xc4_1 xc4_2 xc4_7 (fun (z1 : Bool) => K .ret (stOf [(1, [none, none, none, some 5, some 6, some 7, some 8, none]), (2, [])] [.v (.ptr 4 0 0), .v (.bool z1)] [.rows 5 false xl0, .rows 6 false xl1, .rows 7 false xl2, .rows 8 false xl3, .cells 39 [.int .i64 xc4_0, .int .i64 xc4_1, .int .i64 xc4_2, .sl 0, .sl 1, .sl 2, .sl 3, .int .i64 xc4_7]])) (fun (_ : Unit) => K (.exit 0) (stOf [(1, [none, none, none, some 5, some 6, some 7, some 8, none]), (2, [])] [.v (.ptr 4 0 0), .v .any] [.rows 5 false xl0, .rows 6 false xl1, .rows 7 false xl2, .rows 8 false xl3, .cells 39 [.int .i64 xc4_0, .int .i64 xc4_1, .int .i64 xc4_2, .sl 0, .sl 1, .sl 2, .sl 3, .int .i64 xc4_7]])) rec x1) (funext fun x1' => spec_IsPackage.e4 K k xl0 xl1 xl2 xl3 xc4_0 xc4_1 xc4_2 xc4_7 n x1'))
theorem spec_IsPackage.q4 (k : Nat) {R : Type} (K : Ex → St κ → Option R) (vs : List AV) (bs : List (Blk κ)) (r : R) (h : spec_IsPackage.h4 k K vs bs = some r) : ∃ n, loopN 4 (Code.den ti (spec_IsPackage.Γ k) (spec_IsPackage.LH k) (loopAt Tryz.f47 0)) [(1, [none, none, none, some 5, some 6, some 7, some 8, none]), (3, [])] [(1, [none, none, none, some 5, some 6, some 7, some 8, none]), (2, [])] K n vs bs = some r := by
  unfold spec_IsPackage.h4 at h
  split at h
  · obtain ⟨_, rfl, h_1⟩ := asO_bind h
    obtain ⟨_, rfl, h_2⟩ := asO_bind h_1
    obtain ⟨_, rfl, h_3⟩ := asO_bind h_2
    obtain ⟨_, rfl, h_4⟩ := asO_bind h_3
    exact ⟨k, (spec_IsPackage.e4 K k _ _ _ _ _ _ _ _ k _).trans h_4⟩
  · cases h
theorem spec_IsPackage.e9 {R : Type} (K : Ex → St κ → Option R) (k : Nat) (xl0 : List T_impl_Grant) (xl1 : List T_impl_Flow) (xl2 : List T_impl_Rule) (xl3 : List T_impl_Op) (xc4_0 : Int) (xc4_1 : Int) (xc4_2 : Int) (xc4_7 : Int) : ∀ (n : Nat) (x1 : Int), loopN 4 (Code.den ti (spec_IsPackage.Γ k) (spec_IsPackage.LH k) (loopAt Tryz.f47 1)) [(1, [none, none, none, some 5, some 6, some 7, some 8, none]), (4, [])] [(1, [none, none, none, some 5, some 6, some 7, some 8, none]), (2, [])] K n [.v (.ptr 4 0 0), .v (.int .i64 x1)] [.rows 5 false xl0, .rows 6 false xl1, .rows 7 false xl2, .rows 8 false xl3, .cells 39 [.int .i64 xc4_0, .int .i64 xc4_1, .int .i64 xc4_2, .sl 0, .sl 1, .sl 2, .sl 3, .int .i64 xc4_7]] = spec_IsPackage.l9 k xl0 xl1 xl2 xl3 xc4_0 xc4_1 xc4_2 xc4_7 (fun (z1 : Bool) => K .ret (stOf [(1, [none, none, none, some 5, some 6, some 7, some 8, none]), (2, [])] [.v (.ptr 4 0 0), .v (.bool z1)] [.rows 5 false xl0, .rows 6 false xl1, .rows 7 false xl2, .rows 8 false xl3, .cells 39 [.int .i64 xc4_0, .int .i64 xc4_1, .int .i64 xc4_2, .sl 0, .sl 1, .sl 2, .sl 3, .int .i64 xc4_7]])) (fun (_ : Unit) => K (.exit 2) (stOf [(1, [none, none, none, some 5, some 6, some 7, some 8, none]), (2, [])] [.v (.ptr 4 0 0), .v .any] [.rows 5 false xl0, .rows 6 false xl1, .rows 7 false xl2, .rows 8 false xl3, .cells 39 [.int .i64 xc4_0, .int .i64 xc4_1, .int .i64 xc4_2, .sl 0, .sl 1, .sl 2, .sl 3, .int .i64 xc4_7]])) n x1
  | 0, _ => rfl
  | n + 1, x1 => (show loopN 4 (Code.den ti (spec_IsPackage.Γ k) (spec_IsPackage.LH k) (loopAt Tryz.f47 1)) [(1, [none, none, none, some 5, some 6, some 7, some 8, none]), (4, [])] [(1, [none, none, none, some 5, some 6, some 7, some 8, none]), (2, [])] K (n + 1) [.v (.ptr 4 0 0), .v (.int .i64 x1)] [.rows 5 false xl0, .rows 6 false xl1, .rows 7 false xl2, .rows 8 false xl3, .cells 39 [.int .i64 xc4_0, .int .i64 xc4_1, .int .i64 xc4_2, .sl 0, .sl 1, .sl 2, .sl 3, .int .i64 xc4_7]] = spec_IsPackage.L9 k xl0 xl1 xl2 xl3 xc4_0 xc4_1 xc4_2 xc4_7 (fun (z1 : Bool) => K .ret (stOf [(1, [none, none, none, some 5, some 6, some 7, some 8, none]), (2, [])] [.v (.ptr 4 0 0), .v (.bool z1)] [.rows 5 false xl0, .rows 6 false xl1, .rows 7 false xl2, .rows 8 false xl3, .cells 39 [.int .i64 xc4_0, .int .i64 xc4_1, .int .i64 xc4_2, .sl 0, .sl 1, .sl 2, .sl 3, .int .i64 xc4_7]])) (fun (_ : Unit) => K (.exit 2) (stOf [(1, [none, none, none, some 5, some 6, some 7, some 8, none]), (2, [])] [.v (.ptr 4 0 0), .v .any] [.rows 5 false xl0, .rows 6 false xl1, .rows 7 false xl2, .rows 8 false xl3, .cells 39 [.int .i64 xc4_0, .int .i64 xc4_1, .int .i64 xc4_2, .sl 0, .sl 1, .sl 2, .sl 3, .int .i64 xc4_7]])) (fun (x1' : Int) => loopN 4 (Code.den ti (spec_IsPackage.Γ k) (spec_IsPackage.LH k) (loopAt Tryz.f47 1)) [(1, [none, none, none, some 5, some 6, some 7, some 8, none]), (4, [])] [(1, [none, none, none, some 5, some 6, some 7, some 8, none]), (2, [])] K n [.v (.ptr 4 0 0), .v (.int .i64 x1')] [.rows 5 false xl0, .rows 6 false xl1, .rows 7 false xl2, .rows 8 false xl3, .cells 39 [.int .i64 xc4_0, .int .i64 xc4_1, .int .i64 xc4_2, .sl 0, .sl 1, .sl 2, .sl 3, .int .i64 xc4_7]]) x1 by kernel_rfl).trans (congrArg (fun rec => spec_IsPackage.L9 k xl0 xl1 xl2 xl3 xc4_0 xc4_1 xc4_2 xc4_7 (fun (z1 : Bool) => K .ret (stOf [(1, [none, none, none, some 5, some 6, some 7, some 8, none]), (2, [])] [.v (.ptr 4 0 0), .v (.bool z1)] [.rows 5 false xl0, .rows 6 false xl1, .rows 7 false xl2, .rows 8 false xl3, .cells 39 [.int .i64 xc4_0, .int .i64 xc4_1, .int .i64 xc4_2, .sl 0, .sl 1, .sl 2, .sl 3, .int .i64 xc4_7]])) (fun (_ : Unit) => K (.exit 2) (stOf [(1, [none, none, none, some 5, some 6, some 7, some 8, none]), (2, [])] [.v (.ptr 4 0 0), .v .any] [.rows 5 false xl0, .rows 6 false xl1, .rows 7 false xl2, .rows 8 false xl3, .cells 39 [.int .i64 xc4_0, .int .i64 xc4_1, .int .i64 xc4_2, .sl 0, .sl 1, .sl 2, .sl 3, .int .i64 xc4_7]])) rec x1) (funext fun x1' => spec_IsPackage.e9 K k xl0 xl1 xl2 xl3 xc4_0 xc4_1 xc4_2 xc4_7 n x1'))
theorem spec_IsPackage.q9 (k : Nat) {R : Type} (K : Ex → St κ → Option R) (vs : List AV) (bs : List (Blk κ)) (r : R) (h : spec_IsPackage.h9 k K vs bs = some r) : ∃ n, loopN 4 (Code.den ti (spec_IsPackage.Γ k) (spec_IsPackage.LH k) (loopAt Tryz.f47 1)) [(1, [none, none, none, some 5, some 6, some 7, some 8, none]), (4, [])] [(1, [none, none, none, some 5, some 6, some 7, some 8, none]), (2, [])] K n vs bs = some r := by
  unfold spec_IsPackage.h9 at h
  split at h
  · obtain ⟨_, rfl, h_1⟩ := asO_bind h
    obtain ⟨_, rfl, h_2⟩ := asO_bind h_1
    obtain ⟨_, rfl, h_3⟩ := asO_bind h_2
    obtain ⟨_, rfl, h_4⟩ := asO_bind h_3
    exact ⟨k, (spec_IsPackage.e9 K k _ _ _ _ _ _ _ _ k _).trans h_4⟩
  · cases h
theorem spec_IsPackage.e14 {R : Type} (K : Ex → St κ → Option R) (k : Nat) (xl0 : List T_impl_Grant) (xl1 : List T_impl_Flow) (xl2 : List T_impl_Rule) (xl3 : List T_impl_Op) (xc4_0 : Int) (xc4_1 : Int) (xc4_2 : Int) (xc4_7 : Int) : ∀ (n : Nat) (x1 : Int), loopN 4 (Code.den ti (spec_IsPackage.Γ k) (spec_IsPackage.LH k) (loopAt Tryz.f47 2)) [(1, [none, none, none, some 5, some 6, some 7, some 8, none]), (5, [])] [(2, [])] K n [.v (.ptr 4 0 0), .v (.int .i64 x1)] [.rows 5 false xl0, .rows 6 false xl1, .rows 7 false xl2, .rows 8 false xl3, .cells 39 [.int .i64 xc4_0, .int .i64 xc4_1, .int .i64 xc4_2, .sl 0, .sl 1, .sl 2, .sl 3, .int .i64 xc4_7]] = spec_IsPackage.l14 k xl0 xl1 xl2 xl3 xc4_0 xc4_1 xc4_2 xc4_7 (fun (z0 : Bool) => K .ret (stOf [(2, [])] [.v (.bool z0)] [.rows 5 false xl0, .rows 6 false xl1, .rows 7 false xl2, .rows 8 false xl3])) (fun (_ : Unit) => K (.exit 4) (stOf [(2, [])] [.v .any] [.rows 5 false xl0, .rows 6 false xl1, .rows 7 false xl2, .rows 8 false xl3])) n x1
  | 0, _ => rfl
  | n + 1, x1 => (show loopN 4 (Code.den ti (spec_IsPackage.Γ k) (spec_IsPackage.LH k) (loopAt Tryz.f47 2)) [(1, [none, none, none, some 5, some 6, some 7, some 8, none]), (5, [])] [(2, [])] K (n + 1) [.v (.ptr 4 0 0), .v (.int .i64 x1)] [.rows 5 false xl0, .rows 6 false xl1, .rows 7 false xl2, .rows 8 false xl3, .cells 39 [.int .i64 xc4_0, .int .i64 xc4_1, .int .i64 xc4_2, .sl 0, .sl 1, .sl 2, .sl 3, .int .i64 xc4_7]] = spec_IsPackage.L14 k xl0 xl1 xl2 xl3 xc4_0 xc4_1 xc4_2 xc4_7 (fun (z0 : Bool) => K .ret (stOf [(2, [])] [.v (.bool z0)] [.rows 5 false xl0, .rows 6 false xl1, .rows 7 false xl2, .rows 8 false xl3])) (fun (_ : Unit) => K (.exit 4) (stOf [(2, [])] [.v .any] [.rows 5 false xl0, .rows 6 false xl1, .rows 7 false xl2, .rows 8 false xl3])) (fun (x1' : Int) => loopN 4 (Code.den ti (spec_IsPackage.Γ k) (spec_IsPackage.LH k) (loopAt Tryz.f47 2)) [(1, [none, none, none, some 5, some 6, some 7, some 8, none]), (5, [])] [(2, [])] K n [.v (.ptr 4 0 0), .v (.int .i64 x1')] [.rows 5 false xl0, .rows 6 false xl1, .rows 7 false xl2, .rows 8 false xl3, .cells 39 [.int .i64 xc4_0, .int .i64 xc4_1, .int .i64 xc4_2, .sl 0, .sl 1, .sl 2, .sl 3, .int .i64 xc4_7]]) x1 by kernel_rfl).trans (congrArg (fun rec => spec_IsPackage.L14 k xl0 xl1 xl2 xl3 xc4_0 xc4_1 xc4_2 xc4_7 (fun (z0 : Bool) => K .ret (stOf [(2, [])] [.v (.bool z0)] [.rows 5 false xl0, .rows 6 false xl1, .rows 7 false xl2, .rows 8 false xl3])) (fun (_ : Unit) => K (.exit 4) (stOf [(2, [])] [.v .any] [.rows 5 false xl0, .rows 6 false xl1, .rows 7 false xl2, .rows 8 false xl3])) rec x1) (funext fun x1' => spec_IsPackage.e14 K k xl0 xl1 xl2 xl3 xc4_0 xc4_1 xc4_2 xc4_7 n x1'))
theorem spec_IsPackage.q14 (k : Nat) {R : Type} (K : Ex → St κ → Option R) (vs : List AV) (bs : List (Blk κ)) (r : R) (h : spec_IsPackage.h14 k K vs bs = some r) : ∃ n, loopN 4 (Code.den ti (spec_IsPackage.Γ k) (spec_IsPackage.LH k) (loopAt Tryz.f47 2)) [(1, [none, none, none, some 5, some 6, some 7, some 8, none]), (5, [])] [(2, [])] K n vs bs = some r := by
  unfold spec_IsPackage.h14 at h
  split at h
  · obtain ⟨_, rfl, h_1⟩ := asO_bind h
    obtain ⟨_, rfl, h_2⟩ := asO_bind h_1
    obtain ⟨_, rfl, h_3⟩ := asO_bind h_2
    obtain ⟨_, rfl, h_4⟩ := asO_bind h_3
    exact ⟨k, (spec_IsPackage.e14 K k _ _ _ _ _ _ _ _ k _).trans h_4⟩
  · cases h
theorem spec_IsPackage.lok (k : Nat) : LOK ti (spec_IsPackage.Γ k) (spec_IsPackage.LH k) 4 (loopsOf (bodyOf Tryz.f47)) :=
  (show loopsOf (bodyOf Tryz.f47) = [loopAt Tryz.f47 0, loopAt Tryz.f47 1, loopAt Tryz.f47 2] by kernel_rfl) ▸ (LOK_cons (g := ⟨4, [(1, [none, none, none, some 5, some 6, some 7, some 8, none]), (3, [])], [(1, [none, none, none, some 5, some 6, some 7, some 8, none]), (2, [])], @spec_IsPackage.h4 k⟩) (by kernel_rfl) rfl (fun K vs xs r h => spec_IsPackage.q4 k K vs xs r h) (LOK_cons (g := ⟨4, [(1, [none, none, none, some 5, some 6, some 7, some 8, none]), (4, [])], [(1, [none, none, none, some 5, some 6, some 7, some 8, none]), (2, [])], @spec_IsPackage.h9 k⟩) (by kernel_rfl) rfl (fun K vs xs r h => spec_IsPackage.q9 k K vs xs r h) (LOK_cons (g := ⟨4, [(1, [none, none, none, some 5, some 6, some 7, some 8, none]), (5, [])], [(2, [])], @spec_IsPackage.h14 k⟩) (by kernel_rfl) rfl (fun K vs xs r h => spec_IsPackage.q14 k K vs xs r h) (LOK_nil))))
def spec_IsPackage.sig : List PSh := [.agg [.sc, .sc, .sc, .ro 5, .ro 6, .ro 7, .ro 8, .sc]]
def spec_IsPackage.g (y : Bool) : Ret κ := ⟨.v (.bool y), [], []⟩
def spec_IsPackage.out (r : Ret κ) : Option Bool :=
  match r with
  | ⟨.v (.bool z0), [], []⟩ => some (z0)
  | _ => none
theorem spec_IsPackage.out_ok (r : Ret κ) (y : Bool) (h : spec_IsPackage.out r = some y) : r = spec_IsPackage.g y := by
  unfold spec_IsPackage.out at h
  split at h
  · obtain rfl := Option.some.inj h
    rfl
  · cases h
def spec_IsPackage.body (k : Nat) (vs : List AV) (bs : List (Blk κ)) : Option (Lf κ) :=
  match vs, bs with
  | [.agg [.int .i64 a0_0, .int .i64 a0_1, .int .i64 a0_2, .sl 0, .sl 1, .sl 2, .sl 3, .int .i64 a0_7]], [qb0, qb1, qb2, qb3] => (asO 5 false qb0).bind fun a0_3 => (asO 6 false qb1).bind fun a0_4 => (asO 7 false qb2).bind fun a0_5 => (asO 8 false qb3).bind fun a0_6 => some ⟨Bool, spec_IsPackage.f k a0_0 a0_1 a0_2 a0_3 a0_4 a0_5 a0_6 a0_7, spec_IsPackage.g⟩
  | _, _ => none
def spec_IsPackage.C (k : Nat) : Nat → List AV → AP κ AV := contract spec_IsPackage.sig (spec_IsPackage.body k)
theorem spec_IsPackage.den (k : Nat) (a0_0 : Int) (a0_1 : Int) (a0_2 : Int) (a0_3 : List T_impl_Grant) (a0_4 : List T_impl_Flow) (a0_5 : List T_impl_Rule) (a0_6 : List T_impl_Op) (a0_7 : Int) : Code.den ti (spec_IsPackage.Γ k) (spec_IsPackage.LH k) (bodyOf Tryz.f47) (finK ti Tryz.f47.results.toList [] (flags spec_IsPackage.sig).length (rwI (flags spec_IsPackage.sig) 0) spec_IsPackage.out) ⟨envOf (([.agg [.int .i64 a0_0, .int .i64 a0_1, .int .i64 a0_2, .sl 0, .sl 1, .sl 2, .sl 3, .int .i64 a0_7]]).zipIdx.map fun q => (q.2, q.1)), hpOf [.rows 5 false a0_3, .rows 6 false a0_4, .rows 7 false a0_5, .rows 8 false a0_6], (flags spec_IsPackage.sig).length⟩ = spec_IsPackage.f k a0_0 a0_1 a0_2 a0_3 a0_4 a0_5 a0_6 a0_7 := by kernel_rfl
theorem spec_IsPackage.ok (k : Nat) : CSound Tryz.prog 47 (spec_IsPackage.C k) :=
  csound κ_ok mixed tok (spec_IsPackage.hΓ k) (LH := spec_IsPackage.LH k) (fn := Tryz.f47) (c := bodyOf Tryz.f47) Tryz.func47 rfl Tryz.call47 spec_IsPackage.sig [] (spec_IsPackage.body k) (by kernel_rfl) (spec_IsPackage.lok k) (by decide) fun vs bs lf y hl hb hy => by
    unfold spec_IsPackage.body at hb
    split at hb
    · obtain ⟨_, rfl, hb_1⟩ := asO_bind hb
      obtain ⟨_, rfl, hb_2⟩ := asO_bind hb_1
      obtain ⟨_, rfl, hb_3⟩ := asO_bind hb_2
      obtain ⟨_, rfl, hb_4⟩ := asO_bind hb_3
      obtain rfl := Option.some.inj hb_4
      exact ⟨spec_IsPackage.out, spec_IsPackage.out_ok, (spec_IsPackage.den k _ _ _ _ _ _ _ _).trans hy⟩
    · cases hb
end Go.Proofs.YtoenilndklbceaaGreat.PFnExactCanRollBack
