/- What the functions that the law FnExactSnapshotText reaches come to; no conditions. -/
import Derived.Test.YthingkcckjiniaaDoorPFnExactSnapshotText1
set_option linter.unusedVariables false
set_option maxRecDepth 100000
namespace Go.Proofs.YthingkcckjiniaaDoor.PFnExactSnapshotText
open Go Go.Eng Go.Proofs
/-! ### laws_toPackage -/
def laws_toPackage.f (k : Nat) (a0_0 : Int) (a0_1 : Int) (a0_2 : Int) (a0_3 : List T_laws_Grant) (a0_4 : List T_laws_Flow) (a0_5 : List T_laws_Rule) (a0_6 : List T_laws_Op) (a0_7 : Int) : Option (Int × Int × Int × Int × List T_impl_Grant × List T_impl_Flow × List T_impl_Rule × List T_impl_Op) :=
  (laws_toGrantS.f k a0_3).bind fun t1 => (laws_toFlowS.f k a0_4).bind fun t2 => (laws_toRuleS.f k a0_5).bind fun t3 => (laws_toOpS.f k a0_6).bind fun t4 => some (a0_0, a0_1, a0_2, a0_7, t1, t2, t3, t4)
def laws_toPackage.Γ (k : Nat) : Ct κ := assoc [(21, laws_toGrantS.C k), (22, laws_toFlowS.C k), (23, laws_toRuleS.C k), (24, laws_toOpS.C k)]
def laws_toPackage.LH (k : Nat) : Nat → Option (LHi κ) := assoc []
theorem laws_toPackage.hΓ (k : Nat) : ∀ f g, laws_toPackage.Γ k f = some g → CSound Tryd.prog f g := G_cons (laws_toGrantS.ok k) (G_cons (laws_toFlowS.ok k) (G_cons (laws_toRuleS.ok k) (G_cons (laws_toOpS.ok k) G_nil)))
theorem laws_toPackage.lok (k : Nat) : LOK ti (laws_toPackage.Γ k) (laws_toPackage.LH k) 4 (loopsOf (bodyOf Tryd.f12)) :=
  (show loopsOf (bodyOf Tryd.f12) = [] by kernel_rfl) ▸ LOK_nil
def laws_toPackage.sig : List PSh := [.agg [.sc, .sc, .sc, .ro 0, .ro 1, .ro 2, .ro 3, .sc]]
def laws_toPackage.g (y : Int × Int × Int × Int × List T_impl_Grant × List T_impl_Flow × List T_impl_Rule × List T_impl_Op) : Ret κ := ⟨.agg [.int .i64 y.1, .int .i64 y.2.1, .int .i64 y.2.2.1, .sl 4, .sl 5, .sl 6, .sl 7, .int .i64 y.2.2.2.1], [], [.rows 5 true y.2.2.2.2.1, .rows 6 true y.2.2.2.2.2.1, .rows 7 true y.2.2.2.2.2.2.1, .rows 8 true y.2.2.2.2.2.2.2]⟩
def laws_toPackage.out (r : Ret κ) : Option (Int × Int × Int × Int × List T_impl_Grant × List T_impl_Flow × List T_impl_Rule × List T_impl_Op) :=
  match r with
  | ⟨.agg [.int .i64 z0, .int .i64 z1, .int .i64 z2, .sl 4, .sl 5, .sl 6, .sl 7, .int .i64 z3], [], [q4, q5, q6, q7]⟩ => (asO 5 true q4).bind fun z4 => (asO 6 true q5).bind fun z5 => (asO 7 true q6).bind fun z6 => (asO 8 true q7).bind fun z7 => some (z0, z1, z2, z3, z4, z5, z6, z7)
  | _ => none
theorem laws_toPackage.out_ok (r : Ret κ) (y : Int × Int × Int × Int × List T_impl_Grant × List T_impl_Flow × List T_impl_Rule × List T_impl_Op) (h : laws_toPackage.out r = some y) : r = laws_toPackage.g y := by
  unfold laws_toPackage.out at h
  split at h
  · obtain ⟨_, rfl, h_1⟩ := asO_bind h
    obtain ⟨_, rfl, h_2⟩ := asO_bind h_1
    obtain ⟨_, rfl, h_3⟩ := asO_bind h_2
    obtain ⟨_, rfl, h_4⟩ := asO_bind h_3
    obtain rfl := Option.some.inj h_4
    rfl
  · cases h
def laws_toPackage.body (k : Nat) (vs : List AV) (bs : List (Blk κ)) : Option (Lf κ) :=
  match vs, bs with
  | [.agg [.int .i64 a0_0, .int .i64 a0_1, .int .i64 a0_2, .sl 0, .sl 1, .sl 2, .sl 3, .int .i64 a0_7]], [qb0, qb1, qb2, qb3] => (asO 0 false qb0).bind fun a0_3 => (asO 1 false qb1).bind fun a0_4 => (asO 2 false qb2).bind fun a0_5 => (asO 3 false qb3).bind fun a0_6 => some ⟨Int × Int × Int × Int × List T_impl_Grant × List T_impl_Flow × List T_impl_Rule × List T_impl_Op, laws_toPackage.f k a0_0 a0_1 a0_2 a0_3 a0_4 a0_5 a0_6 a0_7, laws_toPackage.g⟩
  | _, _ => none
def laws_toPackage.C (k : Nat) : Nat → List AV → AP κ AV := contract laws_toPackage.sig (laws_toPackage.body k)
theorem laws_toPackage.den (k : Nat) (a0_0 : Int) (a0_1 : Int) (a0_2 : Int) (a0_3 : List T_laws_Grant) (a0_4 : List T_laws_Flow) (a0_5 : List T_laws_Rule) (a0_6 : List T_laws_Op) (a0_7 : Int) : Code.den ti (laws_toPackage.Γ k) (laws_toPackage.LH k) (bodyOf Tryd.f12) (finK ti Tryd.f12.results.toList [(2, [none, none, none, some 5, some 6, some 7, some 8, none])] (flags laws_toPackage.sig).length (rwI (flags laws_toPackage.sig) 0) laws_toPackage.out) ⟨envOf (([.agg [.int .i64 a0_0, .int .i64 a0_1, .int .i64 a0_2, .sl 0, .sl 1, .sl 2, .sl 3, .int .i64 a0_7]]).zipIdx.map fun q => (q.2, q.1)), hpOf [.rows 0 false a0_3, .rows 1 false a0_4, .rows 2 false a0_5, .rows 3 false a0_6], (flags laws_toPackage.sig).length⟩ = laws_toPackage.f k a0_0 a0_1 a0_2 a0_3 a0_4 a0_5 a0_6 a0_7 := by kernel_rfl
theorem laws_toPackage.ok (k : Nat) : CSound Tryd.prog 12 (laws_toPackage.C k) :=
  csound κ_ok mixed tok (laws_toPackage.hΓ k) (LH := laws_toPackage.LH k) (fn := Tryd.f12) (c := bodyOf Tryd.f12) Tryd.func12 rfl Tryd.call12 laws_toPackage.sig [(2, [none, none, none, some 5, some 6, some 7, some 8, none])] (laws_toPackage.body k) (by kernel_rfl) (laws_toPackage.lok k) (by decide) fun vs bs lf y hl hb hy => by
    unfold laws_toPackage.body at hb
    split at hb
    · obtain ⟨_, rfl, hb_1⟩ := asO_bind hb
      obtain ⟨_, rfl, hb_2⟩ := asO_bind hb_1
      obtain ⟨_, rfl, hb_3⟩ := asO_bind hb_2
      obtain ⟨_, rfl, hb_4⟩ := asO_bind hb_3
      obtain rfl := Option.some.inj hb_4
      exact ⟨laws_toPackage.out, laws_toPackage.out_ok, (laws_toPackage.den k _ _ _ _ _ _ _ _).trans hy⟩
    · cases hb
/-! ### laws_toStored -/
def laws_toStored.f (k : Nat) (a0_0 : Int) (a0_1 : Int) (a0_2 : Int) (a0_3 : Int) : Option (Int × Int × Int × Int) :=
  some (a0_0, a0_1, a0_2, a0_3)
def laws_toStored.Γ (k : Nat) : Ct κ := assoc []
def laws_toStored.LH (k : Nat) : Nat → Option (LHi κ) := assoc []
theorem laws_toStored.hΓ (k : Nat) : ∀ f g, laws_toStored.Γ k f = some g → CSound Tryd.prog f g := G_nil
theorem laws_toStored.lok (k : Nat) : LOK ti (laws_toStored.Γ k) (laws_toStored.LH k) 0 (loopsOf (bodyOf Tryd.f25)) :=
  (show loopsOf (bodyOf Tryd.f25) = [] by kernel_rfl) ▸ LOK_nil
def laws_toStored.sig : List PSh := [.agg [.sc, .sc, .sc, .sc]]
def laws_toStored.g (y : Int × Int × Int × Int) : Ret κ := ⟨.agg [.int .i64 y.1, .int .i64 y.2.1, .int .i64 y.2.2.1, .int .i64 y.2.2.2], [], []⟩
def laws_toStored.out (r : Ret κ) : Option (Int × Int × Int × Int) :=
  match r with
  | ⟨.agg [.int .i64 z0, .int .i64 z1, .int .i64 z2, .int .i64 z3], [], []⟩ => some (z0, z1, z2, z3)
  | _ => none
theorem laws_toStored.out_ok (r : Ret κ) (y : Int × Int × Int × Int) (h : laws_toStored.out r = some y) : r = laws_toStored.g y := by
  unfold laws_toStored.out at h
  split at h
  · obtain rfl := Option.some.inj h
    rfl
  · cases h
def laws_toStored.body (k : Nat) (vs : List AV) (bs : List (Blk κ)) : Option (Lf κ) :=
  match vs, bs with
  | [.agg [.int .i64 a0_0, .int .i64 a0_1, .int .i64 a0_2, .int .i64 a0_3]], [] => some ⟨Int × Int × Int × Int, laws_toStored.f k a0_0 a0_1 a0_2 a0_3, laws_toStored.g⟩
  | _, _ => none
def laws_toStored.C (k : Nat) : Nat → List AV → AP κ AV := contract laws_toStored.sig (laws_toStored.body k)
theorem laws_toStored.den (k : Nat) (a0_0 : Int) (a0_1 : Int) (a0_2 : Int) (a0_3 : Int) : Code.den ti (laws_toStored.Γ k) (laws_toStored.LH k) (bodyOf Tryd.f25) (finK ti Tryd.f25.results.toList [] (flags laws_toStored.sig).length (rwI (flags laws_toStored.sig) 0) laws_toStored.out) ⟨envOf (([.agg [.int .i64 a0_0, .int .i64 a0_1, .int .i64 a0_2, .int .i64 a0_3]]).zipIdx.map fun q => (q.2, q.1)), hpOf [], (flags laws_toStored.sig).length⟩ = laws_toStored.f k a0_0 a0_1 a0_2 a0_3 := by kernel_rfl
theorem laws_toStored.ok (k : Nat) : CSound Tryd.prog 25 (laws_toStored.C k) :=
  csound κ_ok mixed tok (laws_toStored.hΓ k) (LH := laws_toStored.LH k) (fn := Tryd.f25) (c := bodyOf Tryd.f25) Tryd.func25 rfl Tryd.call25 laws_toStored.sig [] (laws_toStored.body k) (by kernel_rfl) (laws_toStored.lok k) (by decide) fun vs bs lf y hl hb hy => by
    unfold laws_toStored.body at hb
    split at hb
    · obtain rfl := Option.some.inj hb
      exact ⟨laws_toStored.out, laws_toStored.out_ok, (laws_toStored.den k _ _ _ _).trans hy⟩
    · cases hb
/-! ### laws_toStoredS -/
def laws_toStoredS.L3 {R : Type} (k : Nat) (xl0 : List T_laws_Stored) (X0 : List T_impl_Stored → Option R) (rec : Int → List T_impl_Stored → Option R) (x2 : Int) (xl1 : List T_impl_Stored) : Option R :=
  (bif decide (x2 < (xl0.length : Int)) then (bif decide (0 ≤ x2) then (bif decide (x2 < (xl0.length : Int)) then (laws_toStored.f k ((rd_laws_Stored xl0 x2).f0) ((rd_laws_Stored xl0 x2).f1) ((rd_laws_Stored xl0 x2).f2) ((rd_laws_Stored xl0 x2).f3)).bind fun t1 => (bif decide (0 ≤ x2) then (bif decide (x2 < (xl1.length : Int)) then (let l2 : List T_impl_Stored := (xl1.set (x2).toNat (⟨t1.1, t1.2.1, t1.2.2.1, t1.2.2.2⟩ : T_impl_Stored)); (rec (w64 (x2 + (1 : Int))) l2)) else none) else none) else none) else none) else (X0 xl1))
def laws_toStoredS.l3 {R : Type} (k : Nat) (xl0 : List T_laws_Stored) (X0 : List T_impl_Stored → Option R) : Nat → Int → List T_impl_Stored → Option R
  | 0 => fun _ _ => none
  | n + 1 => laws_toStoredS.L3 k xl0 X0 (laws_toStoredS.l3 k xl0 X0 n)
def laws_toStoredS.f (k : Nat) (a0 : List T_laws_Stored) : Option (List T_impl_Stored) :=
  (bif decide (0 ≤ (a0.length : Int)) then (bif decide (((a0.length : Int)).toNat * 32 ≤ cap48) then (laws_toStoredS.l3 k a0 (fun (y3 : List T_impl_Stored) => some y3) k (0 : Int) (List.replicate ((a0.length : Int)).toNat z_impl_Stored)) else none) else none)
def laws_toStoredS.h3 (k : Nat) {R : Type} (K : Ex → St κ → Option R) (vs : List AV) (bs : List (Blk κ)) : Option R :=
  match vs, bs with
  | [.v (.sl 0), .v (.sl 1), .v (.int .i64 x2)], [qb0, qb1] => (asO 4 false qb0).bind fun xl0 => (asO 9 true qb1).bind fun xl1 => laws_toStoredS.l3 k xl0 (fun (zl1 : List T_impl_Stored) => K (.exit 0) (stOf [(3, [some 9])] [.v (.sl 1)] [.rows 4 false xl0, .rows 9 true zl1])) k x2 xl1
  | _, _ => none
def laws_toStoredS.Γ (k : Nat) : Ct κ := assoc [(25, laws_toStored.C k)]
def laws_toStoredS.LH (k : Nat) : Nat → Option (LHi κ) := assoc [(3, ⟨1, [(0, [some 4]), (3, [some 9]), (4, [])], [(3, [some 9])], @laws_toStoredS.h3 k⟩)]
theorem laws_toStoredS.hΓ (k : Nat) : ∀ f g, laws_toStoredS.Γ k f = some g → CSound Tryd.prog f g := G_cons (laws_toStored.ok k) G_nil
theorem laws_toStoredS.e3 {R : Type} (K : Ex → St κ → Option R) (k : Nat) (xl0 : List T_laws_Stored) : ∀ (n : Nat) (x2 : Int) (xl1 : List T_impl_Stored), loopN 1 (Code.den ti (laws_toStoredS.Γ k) (laws_toStoredS.LH k) (loopAt Tryd.f13 0)) [(0, [some 4]), (3, [some 9]), (4, [])] [(3, [some 9])] K n [.v (.sl 0), .v (.sl 1), .v (.int .i64 x2)] [.rows 4 false xl0, .rows 9 true xl1] = laws_toStoredS.l3 k xl0 (fun (zl1 : List T_impl_Stored) => K (.exit 0) (stOf [(3, [some 9])] [.v (.sl 1)] [.rows 4 false xl0, .rows 9 true zl1])) n x2 xl1
  | 0, _, _ => rfl
  | n + 1, x2, xl1 => (show loopN 1 (Code.den ti (laws_toStoredS.Γ k) (laws_toStoredS.LH k) (loopAt Tryd.f13 0)) [(0, [some 4]), (3, [some 9]), (4, [])] [(3, [some 9])] K (n + 1) [.v (.sl 0), .v (.sl 1), .v (.int .i64 x2)] [.rows 4 false xl0, .rows 9 true xl1] = laws_toStoredS.L3 k xl0 (fun (zl1 : List T_impl_Stored) => K (.exit 0) (stOf [(3, [some 9])] [.v (.sl 1)] [.rows 4 false xl0, .rows 9 true zl1])) (fun (x2' : Int) (xl1' : List T_impl_Stored) => loopN 1 (Code.den ti (laws_toStoredS.Γ k) (laws_toStoredS.LH k) (loopAt Tryd.f13 0)) [(0, [some 4]), (3, [some 9]), (4, [])] [(3, [some 9])] K n [.v (.sl 0), .v (.sl 1), .v (.int .i64 x2')] [.rows 4 false xl0, .rows 9 true xl1']) x2 xl1 by kernel_rfl).trans (congrArg (fun rec => laws_toStoredS.L3 k xl0 (fun (zl1 : List T_impl_Stored) => K (.exit 0) (stOf [(3, [some 9])] [.v (.sl 1)] [.rows 4 false xl0, .rows 9 true zl1])) rec x2 xl1) (funext fun x2' => funext fun xl1' => laws_toStoredS.e3 K k xl0 n x2' xl1'))
theorem laws_toStoredS.q3 (k : Nat) {R : Type} (K : Ex → St κ → Option R) (vs : List AV) (bs : List (Blk κ)) (r : R) (h : laws_toStoredS.h3 k K vs bs = some r) : ∃ n, loopN 1 (Code.den ti (laws_toStoredS.Γ k) (laws_toStoredS.LH k) (loopAt Tryd.f13 0)) [(0, [some 4]), (3, [some 9]), (4, [])] [(3, [some 9])] K n vs bs = some r := by
  unfold laws_toStoredS.h3 at h
  split at h
  · obtain ⟨_, rfl, h_1⟩ := asO_bind h
    obtain ⟨_, rfl, h_2⟩ := asO_bind h_1
    exact ⟨k, (laws_toStoredS.e3 K k _ k _ _).trans h_2⟩
  · cases h
theorem laws_toStoredS.lok (k : Nat) : LOK ti (laws_toStoredS.Γ k) (laws_toStoredS.LH k) 1 (loopsOf (bodyOf Tryd.f13)) :=
  (show loopsOf (bodyOf Tryd.f13) = [loopAt Tryd.f13 0] by kernel_rfl) ▸ (LOK_cons (g := ⟨1, [(0, [some 4]), (3, [some 9]), (4, [])], [(3, [some 9])], @laws_toStoredS.h3 k⟩) (by kernel_rfl) rfl (fun K vs xs r h => laws_toStoredS.q3 k K vs xs r h) (LOK_nil))
def laws_toStoredS.sig : List PSh := [.one (.ro 4)]
def laws_toStoredS.g (y : List T_impl_Stored) : Ret κ := ⟨.v (.sl 1), [], [.rows 9 true y]⟩
def laws_toStoredS.out (r : Ret κ) : Option (List T_impl_Stored) :=
  match r with
  | ⟨.v (.sl 1), [], [q0]⟩ => (asO 9 true q0).bind fun z0 => some (z0)
  | _ => none
theorem laws_toStoredS.out_ok (r : Ret κ) (y : List T_impl_Stored) (h : laws_toStoredS.out r = some y) : r = laws_toStoredS.g y := by
  unfold laws_toStoredS.out at h
  split at h
  · obtain ⟨_, rfl, h_1⟩ := asO_bind h
    obtain rfl := Option.some.inj h_1
    rfl
  · cases h
def laws_toStoredS.body (k : Nat) (vs : List AV) (bs : List (Blk κ)) : Option (Lf κ) :=
  match vs, bs with
  | [.v (.sl 0)], [qb0] => (asO 4 false qb0).bind fun a0 => some ⟨List T_impl_Stored, laws_toStoredS.f k a0, laws_toStoredS.g⟩
  | _, _ => none
def laws_toStoredS.C (k : Nat) : Nat → List AV → AP κ AV := contract laws_toStoredS.sig (laws_toStoredS.body k)
theorem laws_toStoredS.den (k : Nat) (a0 : List T_laws_Stored) : Code.den ti (laws_toStoredS.Γ k) (laws_toStoredS.LH k) (bodyOf Tryd.f13) (finK ti Tryd.f13.results.toList [(2, [some 9])] (flags laws_toStoredS.sig).length (rwI (flags laws_toStoredS.sig) 0) laws_toStoredS.out) ⟨envOf (([.v (.sl 0)]).zipIdx.map fun q => (q.2, q.1)), hpOf [.rows 4 false a0], (flags laws_toStoredS.sig).length⟩ = laws_toStoredS.f k a0 := by kernel_rfl
theorem laws_toStoredS.ok (k : Nat) : CSound Tryd.prog 13 (laws_toStoredS.C k) :=
  csound κ_ok mixed tok (laws_toStoredS.hΓ k) (LH := laws_toStoredS.LH k) (fn := Tryd.f13) (c := bodyOf Tryd.f13) Tryd.func13 rfl Tryd.call13 laws_toStoredS.sig [(2, [some 9])] (laws_toStoredS.body k) (by kernel_rfl) (laws_toStoredS.lok k) (by decide) fun vs bs lf y hl hb hy => by
    unfold laws_toStoredS.body at hb
    split at hb
    · obtain ⟨_, rfl, hb_1⟩ := asO_bind hb
      obtain rfl := Option.some.inj hb_1
      exact ⟨laws_toStoredS.out, laws_toStoredS.out_ok, (laws_toStoredS.den k _).trans hy⟩
    · cases hb
/-! ### laws_toSnapshot -/
def laws_toSnapshot.f (k : Nat) (a0_0 : Int) (a0_1 : Int) (a0_2 : Int) (a0_3 : List T_laws_Grant) (a0_4 : List T_laws_Flow) (a0_5 : List T_laws_Rule) (a0_6 : List T_laws_Op) (a0_7 : Int) (a0_8 : List T_laws_Stored) : Option (Int × Int × Int × Int × List T_impl_Grant × List T_impl_Flow × List T_impl_Rule × List T_impl_Op × List T_impl_Stored) :=
  (laws_toPackage.f k a0_0 a0_1 a0_2 a0_3 a0_4 a0_5 a0_6 a0_7).bind fun t1 => (laws_toStoredS.f k a0_8).bind fun t2 => some (t1.1, t1.2.1, t1.2.2.1, t1.2.2.2.1, t1.2.2.2.2.1, t1.2.2.2.2.2.1, t1.2.2.2.2.2.2.1, t1.2.2.2.2.2.2.2, t2)
def laws_toSnapshot.Γ (k : Nat) : Ct κ := assoc [(12, laws_toPackage.C k), (13, laws_toStoredS.C k)]
def laws_toSnapshot.LH (k : Nat) : Nat → Option (LHi κ) := assoc []
theorem laws_toSnapshot.hΓ (k : Nat) : ∀ f g, laws_toSnapshot.Γ k f = some g → CSound Tryd.prog f g := G_cons (laws_toPackage.ok k) (G_cons (laws_toStoredS.ok k) G_nil)
theorem laws_toSnapshot.lok (k : Nat) : LOK ti (laws_toSnapshot.Γ k) (laws_toSnapshot.LH k) 5 (loopsOf (bodyOf Tryd.f6)) :=
  (show loopsOf (bodyOf Tryd.f6) = [] by kernel_rfl) ▸ LOK_nil
def laws_toSnapshot.sig : List PSh := [.agg [.sc, .sc, .sc, .ro 0, .ro 1, .ro 2, .ro 3, .sc, .ro 4]]
def laws_toSnapshot.g (y : Int × Int × Int × Int × List T_impl_Grant × List T_impl_Flow × List T_impl_Rule × List T_impl_Op × List T_impl_Stored) : Ret κ := ⟨.agg [.int .i64 y.1, .int .i64 y.2.1, .int .i64 y.2.2.1, .sl 5, .sl 6, .sl 7, .sl 8, .int .i64 y.2.2.2.1, .sl 9], [], [.rows 5 true y.2.2.2.2.1, .rows 6 true y.2.2.2.2.2.1, .rows 7 true y.2.2.2.2.2.2.1, .rows 8 true y.2.2.2.2.2.2.2.1, .rows 9 true y.2.2.2.2.2.2.2.2]⟩
def laws_toSnapshot.out (r : Ret κ) : Option (Int × Int × Int × Int × List T_impl_Grant × List T_impl_Flow × List T_impl_Rule × List T_impl_Op × List T_impl_Stored) :=
  match r with
  | ⟨.agg [.int .i64 z0, .int .i64 z1, .int .i64 z2, .sl 5, .sl 6, .sl 7, .sl 8, .int .i64 z3, .sl 9], [], [q4, q5, q6, q7, q8]⟩ => (asO 5 true q4).bind fun z4 => (asO 6 true q5).bind fun z5 => (asO 7 true q6).bind fun z6 => (asO 8 true q7).bind fun z7 => (asO 9 true q8).bind fun z8 => some (z0, z1, z2, z3, z4, z5, z6, z7, z8)
  | _ => none
theorem laws_toSnapshot.out_ok (r : Ret κ) (y : Int × Int × Int × Int × List T_impl_Grant × List T_impl_Flow × List T_impl_Rule × List T_impl_Op × List T_impl_Stored) (h : laws_toSnapshot.out r = some y) : r = laws_toSnapshot.g y := by
  unfold laws_toSnapshot.out at h
  split at h
  · obtain ⟨_, rfl, h_1⟩ := asO_bind h
    obtain ⟨_, rfl, h_2⟩ := asO_bind h_1
    obtain ⟨_, rfl, h_3⟩ := asO_bind h_2
    obtain ⟨_, rfl, h_4⟩ := asO_bind h_3
    obtain ⟨_, rfl, h_5⟩ := asO_bind h_4
    obtain rfl := Option.some.inj h_5
    rfl
  · cases h
def laws_toSnapshot.body (k : Nat) (vs : List AV) (bs : List (Blk κ)) : Option (Lf κ) :=
  match vs, bs with
  | [.agg [.int .i64 a0_0, .int .i64 a0_1, .int .i64 a0_2, .sl 0, .sl 1, .sl 2, .sl 3, .int .i64 a0_7, .sl 4]], [qb0, qb1, qb2, qb3, qb4] => (asO 0 false qb0).bind fun a0_3 => (asO 1 false qb1).bind fun a0_4 => (asO 2 false qb2).bind fun a0_5 => (asO 3 false qb3).bind fun a0_6 => (asO 4 false qb4).bind fun a0_8 => some ⟨Int × Int × Int × Int × List T_impl_Grant × List T_impl_Flow × List T_impl_Rule × List T_impl_Op × List T_impl_Stored, laws_toSnapshot.f k a0_0 a0_1 a0_2 a0_3 a0_4 a0_5 a0_6 a0_7 a0_8, laws_toSnapshot.g⟩
  | _, _ => none
def laws_toSnapshot.C (k : Nat) : Nat → List AV → AP κ AV := contract laws_toSnapshot.sig (laws_toSnapshot.body k)
theorem laws_toSnapshot.den (k : Nat) (a0_0 : Int) (a0_1 : Int) (a0_2 : Int) (a0_3 : List T_laws_Grant) (a0_4 : List T_laws_Flow) (a0_5 : List T_laws_Rule) (a0_6 : List T_laws_Op) (a0_7 : Int) (a0_8 : List T_laws_Stored) : Code.den ti (laws_toSnapshot.Γ k) (laws_toSnapshot.LH k) (bodyOf Tryd.f6) (finK ti Tryd.f6.results.toList [(2, [none, none, none, some 5, some 6, some 7, some 8, none, some 9])] (flags laws_toSnapshot.sig).length (rwI (flags laws_toSnapshot.sig) 0) laws_toSnapshot.out) ⟨envOf (([.agg [.int .i64 a0_0, .int .i64 a0_1, .int .i64 a0_2, .sl 0, .sl 1, .sl 2, .sl 3, .int .i64 a0_7, .sl 4]]).zipIdx.map fun q => (q.2, q.1)), hpOf [.rows 0 false a0_3, .rows 1 false a0_4, .rows 2 false a0_5, .rows 3 false a0_6, .rows 4 false a0_8], (flags laws_toSnapshot.sig).length⟩ = laws_toSnapshot.f k a0_0 a0_1 a0_2 a0_3 a0_4 a0_5 a0_6 a0_7 a0_8 := by kernel_rfl
theorem laws_toSnapshot.ok (k : Nat) : CSound Tryd.prog 6 (laws_toSnapshot.C k) :=
  csound κ_ok mixed tok (laws_toSnapshot.hΓ k) (LH := laws_toSnapshot.LH k) (fn := Tryd.f6) (c := bodyOf Tryd.f6) Tryd.func6 rfl Tryd.call6 laws_toSnapshot.sig [(2, [none, none, none, some 5, some 6, some 7, some 8, none, some 9])] (laws_toSnapshot.body k) (by kernel_rfl) (laws_toSnapshot.lok k) (by decide) fun vs bs lf y hl hb hy => by
    unfold laws_toSnapshot.body at hb
    split at hb
    · obtain ⟨_, rfl, hb_1⟩ := asO_bind hb
      obtain ⟨_, rfl, hb_2⟩ := asO_bind hb_1
      obtain ⟨_, rfl, hb_3⟩ := asO_bind hb_2
      obtain ⟨_, rfl, hb_4⟩ := asO_bind hb_3
      obtain ⟨_, rfl, hb_5⟩ := asO_bind hb_4
      obtain rfl := Option.some.inj hb_5
      exact ⟨laws_toSnapshot.out, laws_toSnapshot.out_ok, (laws_toSnapshot.den k _ _ _ _ _ _ _ _ _).trans hy⟩
    · cases hb
/-! ### spec_FormatInt -/
def spec_FormatInt.L5 {R : Type} (k : Nat) (x0 : Int) (X0 : ByteArray → Option R) (rec : ByteArray → Int → Option R) (x1 : ByteArray) (x2 : Int) : Option R :=
  (bif (x2 != (0 : Int)) then (bif decide ((x2.tmod (10 : Int)) < (0 : Int)) then (bif decide ((((strB ([(IntKind.wrap .u8 ((w64 ((48 : Int) + (w64 (0 - (x2.tmod (10 : Int))))))))] : List Int)).size + x1.size : Nat) : Int) > IntKind.i64.max) then none else (rec ((strB ([(IntKind.wrap .u8 ((w64 ((48 : Int) + (w64 (0 - (x2.tmod (10 : Int))))))))] : List Int)) ++ x1) (w64 (x2.tdiv (10 : Int))))) else (bif decide ((((strB ([(IntKind.wrap .u8 ((w64 ((48 : Int) + (x2.tmod (10 : Int))))))] : List Int)).size + x1.size : Nat) : Int) > IntKind.i64.max) then none else (rec ((strB ([(IntKind.wrap .u8 ((w64 ((48 : Int) + (x2.tmod (10 : Int))))))] : List Int)) ++ x1) (w64 (x2.tdiv (10 : Int)))))) else (X0 x1))
def spec_FormatInt.l5 {R : Type} (k : Nat) (x0 : Int) (X0 : ByteArray → Option R) : Nat → ByteArray → Int → Option R
  | 0 => fun _ _ => none
  | n + 1 => spec_FormatInt.L5 k x0 X0 (spec_FormatInt.l5 k x0 X0 n)
def spec_FormatInt.f (k : Nat) (a0 : Int) : Option ByteArray :=
  (bif (a0 == (0 : Int)) then some (ByteArray.mk #[48]) else (spec_FormatInt.l5 k a0 (fun (y1 : ByteArray) => (bif decide (a0 < (0 : Int)) then (bif decide ((((ByteArray.mk #[45]).size + y1.size : Nat) : Int) > IntKind.i64.max) then none else some ((ByteArray.mk #[45]) ++ y1)) else some y1)) k (ByteArray.mk #[]) a0))
def spec_FormatInt.h5 (k : Nat) {R : Type} (K : Ex → St κ → Option R) (vs : List AV) (bs : List (Blk κ)) : Option R :=
  match vs, bs with
  | [.v (.int .i64 x0), .v (.str x1), .v (.int .i64 x2)], [] => spec_FormatInt.l5 k x0 (fun (z1 : ByteArray) => K (.exit 0) (stOf [(0, []), (3, [])] [.v (.int .i64 x0), .v (.str z1)] [])) k x1 x2
  | _, _ => none
def spec_FormatInt.Γ (k : Nat) : Ct κ := assoc []
def spec_FormatInt.LH (k : Nat) : Nat → Option (LHi κ) := assoc [(5, ⟨0, [(0, []), (3, []), (4, [])], [(0, []), (3, [])], @spec_FormatInt.h5 k⟩)]
theorem spec_FormatInt.hΓ (k : Nat) : ∀ f g, spec_FormatInt.Γ k f = some g → CSound Tryd.prog f g := G_nil
theorem spec_FormatInt.e5 {R : Type} (K : Ex → St κ → Option R) (k : Nat) (x0 : Int) : ∀ (n : Nat) (x1 : ByteArray) (x2 : Int), loopN 0 (Code.den ti (spec_FormatInt.Γ k) (spec_FormatInt.LH k) (loopAt Tryd.f11 0)) [(0, []), (3, []), (4, [])] [(0, []), (3, [])] K n [.v (.int .i64 x0), .v (.str x1), .v (.int .i64 x2)] [] = spec_FormatInt.l5 k x0 (fun (z1 : ByteArray) => K (.exit 0) (stOf [(0, []), (3, [])] [.v (.int .i64 x0), .v (.str z1)] [])) n x1 x2
  | 0, _, _ => rfl
  | n + 1, x1, x2 => (show loopN 0 (Code.den ti (spec_FormatInt.Γ k) (spec_FormatInt.LH k) (loopAt Tryd.f11 0)) [(0, []), (3, []), (4, [])] [(0, []), (3, [])] K (n + 1) [.v (.int .i64 x0), .v (.str x1), .v (.int .i64 x2)] [] = spec_FormatInt.L5 k x0 (fun (z1 : ByteArray) => K (.exit 0) (stOf [(0, []), (3, [])] [.v (.int .i64 x0), .v (.str z1)] [])) (fun (x1' : ByteArray) (x2' : Int) => loopN 0 (Code.den ti (spec_FormatInt.Γ k) (spec_FormatInt.LH k) (loopAt Tryd.f11 0)) [(0, []), (3, []), (4, [])] [(0, []), (3, [])] K n [.v (.int .i64 x0), .v (.str x1'), .v (.int .i64 x2')] []) x1 x2 by kernel_rfl).trans (congrArg (fun rec => spec_FormatInt.L5 k x0 (fun (z1 : ByteArray) => K (.exit 0) (stOf [(0, []), (3, [])] [.v (.int .i64 x0), .v (.str z1)] [])) rec x1 x2) (funext fun x1' => funext fun x2' => spec_FormatInt.e5 K k x0 n x1' x2'))
theorem spec_FormatInt.q5 (k : Nat) {R : Type} (K : Ex → St κ → Option R) (vs : List AV) (bs : List (Blk κ)) (r : R) (h : spec_FormatInt.h5 k K vs bs = some r) : ∃ n, loopN 0 (Code.den ti (spec_FormatInt.Γ k) (spec_FormatInt.LH k) (loopAt Tryd.f11 0)) [(0, []), (3, []), (4, [])] [(0, []), (3, [])] K n vs bs = some r := by
  unfold spec_FormatInt.h5 at h
  split at h
  · exact ⟨k, (spec_FormatInt.e5 K k _ k _ _).trans h⟩
  · cases h
theorem spec_FormatInt.lok (k : Nat) : LOK ti (spec_FormatInt.Γ k) (spec_FormatInt.LH k) 0 (loopsOf (bodyOf Tryd.f11)) :=
  (show loopsOf (bodyOf Tryd.f11) = [loopAt Tryd.f11 0] by kernel_rfl) ▸ (LOK_cons (g := ⟨0, [(0, []), (3, []), (4, [])], [(0, []), (3, [])], @spec_FormatInt.h5 k⟩) (by kernel_rfl) rfl (fun K vs xs r h => spec_FormatInt.q5 k K vs xs r h) (LOK_nil))
def spec_FormatInt.sig : List PSh := [.one .sc]
def spec_FormatInt.g (y : ByteArray) : Ret κ := ⟨.v (.str y), [], []⟩
def spec_FormatInt.out (r : Ret κ) : Option ByteArray :=
  match r with
  | ⟨.v (.str z0), [], []⟩ => some (z0)
  | _ => none
theorem spec_FormatInt.out_ok (r : Ret κ) (y : ByteArray) (h : spec_FormatInt.out r = some y) : r = spec_FormatInt.g y := by
  unfold spec_FormatInt.out at h
  split at h
  · obtain rfl := Option.some.inj h
    rfl
  · cases h
def spec_FormatInt.body (k : Nat) (vs : List AV) (bs : List (Blk κ)) : Option (Lf κ) :=
  match vs, bs with
  | [.v (.int .i64 a0)], [] => some ⟨ByteArray, spec_FormatInt.f k a0, spec_FormatInt.g⟩
  | _, _ => none
def spec_FormatInt.C (k : Nat) : Nat → List AV → AP κ AV := contract spec_FormatInt.sig (spec_FormatInt.body k)
theorem spec_FormatInt.den (k : Nat) (a0 : Int) : Code.den ti (spec_FormatInt.Γ k) (spec_FormatInt.LH k) (bodyOf Tryd.f11) (finK ti Tryd.f11.results.toList [] (flags spec_FormatInt.sig).length (rwI (flags spec_FormatInt.sig) 0) spec_FormatInt.out) ⟨envOf (([.v (.int .i64 a0)]).zipIdx.map fun q => (q.2, q.1)), hpOf [], (flags spec_FormatInt.sig).length⟩ = spec_FormatInt.f k a0 := by kernel_rfl
theorem spec_FormatInt.ok (k : Nat) : CSound Tryd.prog 11 (spec_FormatInt.C k) :=
  csound κ_ok mixed tok (spec_FormatInt.hΓ k) (LH := spec_FormatInt.LH k) (fn := Tryd.f11) (c := bodyOf Tryd.f11) Tryd.func11 rfl Tryd.call11 spec_FormatInt.sig [] (spec_FormatInt.body k) (by kernel_rfl) (spec_FormatInt.lok k) (by decide) fun vs bs lf y hl hb hy => by
    unfold spec_FormatInt.body at hb
    split at hb
    · obtain rfl := Option.some.inj hb
      exact ⟨spec_FormatInt.out, spec_FormatInt.out_ok, (spec_FormatInt.den k _).trans hy⟩
    · cases hb
/-! ### spec_SnapshotText -/
def spec_SnapshotText.f (k : Nat) (a0_0 : Int) (a0_1 : Int) (a0_2 : Int) (a0_3 : List T_impl_Grant) (a0_4 : List T_impl_Flow) (a0_5 : List T_impl_Rule) (a0_6 : List T_impl_Op) (a0_7 : Int) (a0_8 : List T_impl_Stored) : Option ByteArray :=
  (spec_FormatInt.f k a0_0).bind fun t1 => (bif decide (((t1.size + (ByteArray.mk #[32]).size : Nat) : Int) > IntKind.i64.max) then none else (spec_FormatInt.f k a0_2).bind fun t2 => (bif decide ((((t1 ++ (ByteArray.mk #[32])).size + t2.size : Nat) : Int) > IntKind.i64.max) then none else (bif decide (((((t1 ++ (ByteArray.mk #[32])) ++ t2).size + (ByteArray.mk #[32]).size : Nat) : Int) > IntKind.i64.max) then none else (spec_FormatInt.f k (a0_8.length : Int)).bind fun t3 => (bif decide ((((((t1 ++ (ByteArray.mk #[32])) ++ t2) ++ (ByteArray.mk #[32])).size + t3.size : Nat) : Int) > IntKind.i64.max) then none else some ((((t1 ++ (ByteArray.mk #[32])) ++ t2) ++ (ByteArray.mk #[32])) ++ t3)))))
def spec_SnapshotText.Γ (k : Nat) : Ct κ := assoc [(11, spec_FormatInt.C k)]
def spec_SnapshotText.LH (k : Nat) : Nat → Option (LHi κ) := assoc []
theorem spec_SnapshotText.hΓ (k : Nat) : ∀ f g, spec_SnapshotText.Γ k f = some g → CSound Tryd.prog f g := G_cons (spec_FormatInt.ok k) G_nil
theorem spec_SnapshotText.lok (k : Nat) : LOK ti (spec_SnapshotText.Γ k) (spec_SnapshotText.LH k) 5 (loopsOf (bodyOf Tryd.f5)) :=
  (show loopsOf (bodyOf Tryd.f5) = [] by kernel_rfl) ▸ LOK_nil
def spec_SnapshotText.sig : List PSh := [.agg [.sc, .sc, .sc, .ro 5, .ro 6, .ro 7, .ro 8, .sc, .ro 9]]
def spec_SnapshotText.g (y : ByteArray) : Ret κ := ⟨.v (.str y), [], []⟩
def spec_SnapshotText.out (r : Ret κ) : Option ByteArray :=
  match r with
  | ⟨.v (.str z0), [], []⟩ => some (z0)
  | _ => none
theorem spec_SnapshotText.out_ok (r : Ret κ) (y : ByteArray) (h : spec_SnapshotText.out r = some y) : r = spec_SnapshotText.g y := by
  unfold spec_SnapshotText.out at h
  split at h
  · obtain rfl := Option.some.inj h
    rfl
  · cases h
def spec_SnapshotText.body (k : Nat) (vs : List AV) (bs : List (Blk κ)) : Option (Lf κ) :=
  match vs, bs with
  | [.agg [.int .i64 a0_0, .int .i64 a0_1, .int .i64 a0_2, .sl 0, .sl 1, .sl 2, .sl 3, .int .i64 a0_7, .sl 4]], [qb0, qb1, qb2, qb3, qb4] => (asO 5 false qb0).bind fun a0_3 => (asO 6 false qb1).bind fun a0_4 => (asO 7 false qb2).bind fun a0_5 => (asO 8 false qb3).bind fun a0_6 => (asO 9 false qb4).bind fun a0_8 => some ⟨ByteArray, spec_SnapshotText.f k a0_0 a0_1 a0_2 a0_3 a0_4 a0_5 a0_6 a0_7 a0_8, spec_SnapshotText.g⟩
  | _, _ => none
def spec_SnapshotText.C (k : Nat) : Nat → List AV → AP κ AV := contract spec_SnapshotText.sig (spec_SnapshotText.body k)
theorem spec_SnapshotText.den (k : Nat) (a0_0 : Int) (a0_1 : Int) (a0_2 : Int) (a0_3 : List T_impl_Grant) (a0_4 : List T_impl_Flow) (a0_5 : List T_impl_Rule) (a0_6 : List T_impl_Op) (a0_7 : Int) (a0_8 : List T_impl_Stored) : Code.den ti (spec_SnapshotText.Γ k) (spec_SnapshotText.LH k) (bodyOf Tryd.f5) (finK ti Tryd.f5.results.toList [] (flags spec_SnapshotText.sig).length (rwI (flags spec_SnapshotText.sig) 0) spec_SnapshotText.out) ⟨envOf (([.agg [.int .i64 a0_0, .int .i64 a0_1, .int .i64 a0_2, .sl 0, .sl 1, .sl 2, .sl 3, .int .i64 a0_7, .sl 4]]).zipIdx.map fun q => (q.2, q.1)), hpOf [.rows 5 false a0_3, .rows 6 false a0_4, .rows 7 false a0_5, .rows 8 false a0_6, .rows 9 false a0_8], (flags spec_SnapshotText.sig).length⟩ = spec_SnapshotText.f k a0_0 a0_1 a0_2 a0_3 a0_4 a0_5 a0_6 a0_7 a0_8 := by kernel_rfl
theorem spec_SnapshotText.ok (k : Nat) : CSound Tryd.prog 5 (spec_SnapshotText.C k) :=
  csound κ_ok mixed tok (spec_SnapshotText.hΓ k) (LH := spec_SnapshotText.LH k) (fn := Tryd.f5) (c := bodyOf Tryd.f5) Tryd.func5 rfl Tryd.call5 spec_SnapshotText.sig [] (spec_SnapshotText.body k) (by kernel_rfl) (spec_SnapshotText.lok k) (by decide) fun vs bs lf y hl hb hy => by
    unfold spec_SnapshotText.body at hb
    split at hb
    · obtain ⟨_, rfl, hb_1⟩ := asO_bind hb
      obtain ⟨_, rfl, hb_2⟩ := asO_bind hb_1
      obtain ⟨_, rfl, hb_3⟩ := asO_bind hb_2
      obtain ⟨_, rfl, hb_4⟩ := asO_bind hb_3
      obtain ⟨_, rfl, hb_5⟩ := asO_bind hb_4
      obtain rfl := Option.some.inj hb_5
      exact ⟨spec_SnapshotText.out, spec_SnapshotText.out_ok, (spec_SnapshotText.den k _ _ _ _ _ _ _ _ _).trans hy⟩
    · cases hb
/-! ### strconv_Itoa -/
def strconv_Itoa.f (k : Nat) (x : Int) : Option ByteArray := itoaV x
def strconv_Itoa.C (k : Nat) : Nat → List AV → AP κ AV := contract [.one .sc] (itoaB κ itoaV)
theorem strconv_Itoa.ok (k : Nat) : CSound Tryd.prog 26 (strconv_Itoa.C k) :=
  itoa_sound κ_ok Tryd.call26 itoaV fun n y w h hp => itoaV_calls Tryd.laysItoa (by kernel_rfl) rfl n y w h hp
/-! ### impl_FormatInt -/
def impl_FormatInt.f (k : Nat) (a0 : Int) : Option ByteArray :=
  (strconv_Itoa.f k a0).bind fun t1 => some t1
def impl_FormatInt.Γ (k : Nat) : Ct κ := assoc [(26, strconv_Itoa.C k)]
def impl_FormatInt.LH (k : Nat) : Nat → Option (LHi κ) := assoc []
theorem impl_FormatInt.hΓ (k : Nat) : ∀ f g, impl_FormatInt.Γ k f = some g → CSound Tryd.prog f g := G_cons (strconv_Itoa.ok k) G_nil
theorem impl_FormatInt.lok (k : Nat) : LOK ti (impl_FormatInt.Γ k) (impl_FormatInt.LH k) 0 (loopsOf (bodyOf Tryd.f14)) :=
  (show loopsOf (bodyOf Tryd.f14) = [] by kernel_rfl) ▸ LOK_nil
def impl_FormatInt.sig : List PSh := [.one .sc]
def impl_FormatInt.g (y : ByteArray) : Ret κ := ⟨.v (.str y), [], []⟩
def impl_FormatInt.out (r : Ret κ) : Option ByteArray :=
  match r with
  | ⟨.v (.str z0), [], []⟩ => some (z0)
  | _ => none
theorem impl_FormatInt.out_ok (r : Ret κ) (y : ByteArray) (h : impl_FormatInt.out r = some y) : r = impl_FormatInt.g y := by
  unfold impl_FormatInt.out at h
  split at h
  · obtain rfl := Option.some.inj h
    rfl
  · cases h
def impl_FormatInt.body (k : Nat) (vs : List AV) (bs : List (Blk κ)) : Option (Lf κ) :=
  match vs, bs with
  | [.v (.int .i64 a0)], [] => some ⟨ByteArray, impl_FormatInt.f k a0, impl_FormatInt.g⟩
  | _, _ => none
def impl_FormatInt.C (k : Nat) : Nat → List AV → AP κ AV := contract impl_FormatInt.sig (impl_FormatInt.body k)
theorem impl_FormatInt.den (k : Nat) (a0 : Int) : Code.den ti (impl_FormatInt.Γ k) (impl_FormatInt.LH k) (bodyOf Tryd.f14) (finK ti Tryd.f14.results.toList [] (flags impl_FormatInt.sig).length (rwI (flags impl_FormatInt.sig) 0) impl_FormatInt.out) ⟨envOf (([.v (.int .i64 a0)]).zipIdx.map fun q => (q.2, q.1)), hpOf [], (flags impl_FormatInt.sig).length⟩ = impl_FormatInt.f k a0 := by kernel_rfl
theorem impl_FormatInt.ok (k : Nat) : CSound Tryd.prog 14 (impl_FormatInt.C k) :=
  csound κ_ok mixed tok (impl_FormatInt.hΓ k) (LH := impl_FormatInt.LH k) (fn := Tryd.f14) (c := bodyOf Tryd.f14) Tryd.func14 rfl Tryd.call14 impl_FormatInt.sig [] (impl_FormatInt.body k) (by kernel_rfl) (impl_FormatInt.lok k) (by decide) fun vs bs lf y hl hb hy => by
    unfold impl_FormatInt.body at hb
    split at hb
    · obtain rfl := Option.some.inj hb
      exact ⟨impl_FormatInt.out, impl_FormatInt.out_ok, (impl_FormatInt.den k _).trans hy⟩
    · cases hb
/-! ### impl_SnapshotText -/
def impl_SnapshotText.f (k : Nat) (a0_0 : Int) (a0_1 : Int) (a0_2 : Int) (a0_3 : List T_impl_Grant) (a0_4 : List T_impl_Flow) (a0_5 : List T_impl_Rule) (a0_6 : List T_impl_Op) (a0_7 : Int) (a0_8 : List T_impl_Stored) : Option ByteArray :=
  (impl_FormatInt.f k a0_0).bind fun t1 => (bif decide (((t1.size + (ByteArray.mk #[32]).size : Nat) : Int) > IntKind.i64.max) then none else (impl_FormatInt.f k a0_2).bind fun t2 => (bif decide ((((t1 ++ (ByteArray.mk #[32])).size + t2.size : Nat) : Int) > IntKind.i64.max) then none else (bif decide (((((t1 ++ (ByteArray.mk #[32])) ++ t2).size + (ByteArray.mk #[32]).size : Nat) : Int) > IntKind.i64.max) then none else (impl_FormatInt.f k (a0_8.length : Int)).bind fun t3 => (bif decide ((((((t1 ++ (ByteArray.mk #[32])) ++ t2) ++ (ByteArray.mk #[32])).size + t3.size : Nat) : Int) > IntKind.i64.max) then none else some ((((t1 ++ (ByteArray.mk #[32])) ++ t2) ++ (ByteArray.mk #[32])) ++ t3)))))
def impl_SnapshotText.Γ (k : Nat) : Ct κ := assoc [(14, impl_FormatInt.C k)]
def impl_SnapshotText.LH (k : Nat) : Nat → Option (LHi κ) := assoc []
theorem impl_SnapshotText.hΓ (k : Nat) : ∀ f g, impl_SnapshotText.Γ k f = some g → CSound Tryd.prog f g := G_cons (impl_FormatInt.ok k) G_nil
theorem impl_SnapshotText.lok (k : Nat) : LOK ti (impl_SnapshotText.Γ k) (impl_SnapshotText.LH k) 5 (loopsOf (bodyOf Tryd.f7)) :=
  (show loopsOf (bodyOf Tryd.f7) = [] by kernel_rfl) ▸ LOK_nil
def impl_SnapshotText.sig : List PSh := [.agg [.sc, .sc, .sc, .ro 5, .ro 6, .ro 7, .ro 8, .sc, .ro 9]]
def impl_SnapshotText.g (y : ByteArray) : Ret κ := ⟨.v (.str y), [], []⟩
def impl_SnapshotText.out (r : Ret κ) : Option ByteArray :=
  match r with
  | ⟨.v (.str z0), [], []⟩ => some (z0)
  | _ => none
theorem impl_SnapshotText.out_ok (r : Ret κ) (y : ByteArray) (h : impl_SnapshotText.out r = some y) : r = impl_SnapshotText.g y := by
  unfold impl_SnapshotText.out at h
  split at h
  · obtain rfl := Option.some.inj h
    rfl
  · cases h
def impl_SnapshotText.body (k : Nat) (vs : List AV) (bs : List (Blk κ)) : Option (Lf κ) :=
  match vs, bs with
  | [.agg [.int .i64 a0_0, .int .i64 a0_1, .int .i64 a0_2, .sl 0, .sl 1, .sl 2, .sl 3, .int .i64 a0_7, .sl 4]], [qb0, qb1, qb2, qb3, qb4] => (asO 5 false qb0).bind fun a0_3 => (asO 6 false qb1).bind fun a0_4 => (asO 7 false qb2).bind fun a0_5 => (asO 8 false qb3).bind fun a0_6 => (asO 9 false qb4).bind fun a0_8 => some ⟨ByteArray, impl_SnapshotText.f k a0_0 a0_1 a0_2 a0_3 a0_4 a0_5 a0_6 a0_7 a0_8, impl_SnapshotText.g⟩
  | _, _ => none
def impl_SnapshotText.C (k : Nat) : Nat → List AV → AP κ AV := contract impl_SnapshotText.sig (impl_SnapshotText.body k)
theorem impl_SnapshotText.den (k : Nat) (a0_0 : Int) (a0_1 : Int) (a0_2 : Int) (a0_3 : List T_impl_Grant) (a0_4 : List T_impl_Flow) (a0_5 : List T_impl_Rule) (a0_6 : List T_impl_Op) (a0_7 : Int) (a0_8 : List T_impl_Stored) : Code.den ti (impl_SnapshotText.Γ k) (impl_SnapshotText.LH k) (bodyOf Tryd.f7) (finK ti Tryd.f7.results.toList [] (flags impl_SnapshotText.sig).length (rwI (flags impl_SnapshotText.sig) 0) impl_SnapshotText.out) ⟨envOf (([.agg [.int .i64 a0_0, .int .i64 a0_1, .int .i64 a0_2, .sl 0, .sl 1, .sl 2, .sl 3, .int .i64 a0_7, .sl 4]]).zipIdx.map fun q => (q.2, q.1)), hpOf [.rows 5 false a0_3, .rows 6 false a0_4, .rows 7 false a0_5, .rows 8 false a0_6, .rows 9 false a0_8], (flags impl_SnapshotText.sig).length⟩ = impl_SnapshotText.f k a0_0 a0_1 a0_2 a0_3 a0_4 a0_5 a0_6 a0_7 a0_8 := by kernel_rfl
theorem impl_SnapshotText.ok (k : Nat) : CSound Tryd.prog 7 (impl_SnapshotText.C k) :=
  csound κ_ok mixed tok (impl_SnapshotText.hΓ k) (LH := impl_SnapshotText.LH k) (fn := Tryd.f7) (c := bodyOf Tryd.f7) Tryd.func7 rfl Tryd.call7 impl_SnapshotText.sig [] (impl_SnapshotText.body k) (by kernel_rfl) (impl_SnapshotText.lok k) (by decide) fun vs bs lf y hl hb hy => by
    unfold impl_SnapshotText.body at hb
    split at hb
    · obtain ⟨_, rfl, hb_1⟩ := asO_bind hb
      obtain ⟨_, rfl, hb_2⟩ := asO_bind hb_1
      obtain ⟨_, rfl, hb_3⟩ := asO_bind hb_2
      obtain ⟨_, rfl, hb_4⟩ := asO_bind hb_3
      obtain ⟨_, rfl, hb_5⟩ := asO_bind hb_4
      obtain rfl := Option.some.inj hb_5
      exact ⟨impl_SnapshotText.out, impl_SnapshotText.out_ok, (impl_SnapshotText.den k _ _ _ _ _ _ _ _ _).trans hy⟩
    · cases hb
/-! ### laws_eqPattern -/
def laws_eqPattern.f (k : Nat) (a0_0 : Int) (a0_1 : Int) (a1_0 : Int) (a1_1 : Int) : Option Bool :=
  (bif (a0_0 != a1_0) then some false else (bif (a0_1 != a1_1) then some false else some true))
def laws_eqPattern.Γ (k : Nat) : Ct κ := assoc []
def laws_eqPattern.LH (k : Nat) : Nat → Option (LHi κ) := assoc []
theorem laws_eqPattern.hΓ (k : Nat) : ∀ f g, laws_eqPattern.Γ k f = some g → CSound Tryd.prog f g := G_nil
theorem laws_eqPattern.lok (k : Nat) : LOK ti (laws_eqPattern.Γ k) (laws_eqPattern.LH k) 0 (loopsOf (bodyOf Tryd.f44)) :=
  (show loopsOf (bodyOf Tryd.f44) = [] by kernel_rfl) ▸ LOK_nil
def laws_eqPattern.sig : List PSh := [.agg [.sc, .sc], .agg [.sc, .sc]]
def laws_eqPattern.g (y : Bool) : Ret κ := ⟨.v (.bool y), [], []⟩
def laws_eqPattern.out (r : Ret κ) : Option Bool :=
  match r with
  | ⟨.v (.bool z0), [], []⟩ => some (z0)
  | _ => none
theorem laws_eqPattern.out_ok (r : Ret κ) (y : Bool) (h : laws_eqPattern.out r = some y) : r = laws_eqPattern.g y := by
  unfold laws_eqPattern.out at h
  split at h
  · obtain rfl := Option.some.inj h
    rfl
  · cases h
def laws_eqPattern.body (k : Nat) (vs : List AV) (bs : List (Blk κ)) : Option (Lf κ) :=
  match vs, bs with
  | [.agg [.int .i64 a0_0, .int .i64 a0_1], .agg [.int .i64 a1_0, .int .i64 a1_1]], [] => some ⟨Bool, laws_eqPattern.f k a0_0 a0_1 a1_0 a1_1, laws_eqPattern.g⟩
  | _, _ => none
def laws_eqPattern.C (k : Nat) : Nat → List AV → AP κ AV := contract laws_eqPattern.sig (laws_eqPattern.body k)
theorem laws_eqPattern.den (k : Nat) (a0_0 : Int) (a0_1 : Int) (a1_0 : Int) (a1_1 : Int) : Code.den ti (laws_eqPattern.Γ k) (laws_eqPattern.LH k) (bodyOf Tryd.f44) (finK ti Tryd.f44.results.toList [] (flags laws_eqPattern.sig).length (rwI (flags laws_eqPattern.sig) 0) laws_eqPattern.out) ⟨envOf (([.agg [.int .i64 a0_0, .int .i64 a0_1], .agg [.int .i64 a1_0, .int .i64 a1_1]]).zipIdx.map fun q => (q.2, q.1)), hpOf [], (flags laws_eqPattern.sig).length⟩ = laws_eqPattern.f k a0_0 a0_1 a1_0 a1_1 := by kernel_rfl
theorem laws_eqPattern.ok (k : Nat) : CSound Tryd.prog 44 (laws_eqPattern.C k) :=
  csound κ_ok mixed tok (laws_eqPattern.hΓ k) (LH := laws_eqPattern.LH k) (fn := Tryd.f44) (c := bodyOf Tryd.f44) Tryd.func44 rfl Tryd.call44 laws_eqPattern.sig [] (laws_eqPattern.body k) (by kernel_rfl) (laws_eqPattern.lok k) (by decide) fun vs bs lf y hl hb hy => by
    unfold laws_eqPattern.body at hb
    split at hb
    · obtain rfl := Option.some.inj hb
      exact ⟨laws_eqPattern.out, laws_eqPattern.out_ok, (laws_eqPattern.den k _ _ _ _).trans hy⟩
    · cases hb
/-! ### laws_eqGrant -/
def laws_eqGrant.f (k : Nat) (a0_0 : Int) (a0_1 : Int) (a0_2 : Int) (a0_3 : Int) (a0_4 : Int) (a0_5 : Int) (a0_6 : Bool) (a1_0 : Int) (a1_1 : Int) (a1_2 : Int) (a1_3 : Int) (a1_4 : Int) (a1_5 : Int) (a1_6 : Bool) : Option Bool :=
  (bif (a0_0 != a1_0) then some false else (laws_eqPattern.f k a0_1 a0_2 a1_1 a1_2).bind fun t1 => (bif !t1 then some false else (bif (a0_3 != a1_3) then some false else (bif (a0_4 != a1_4) then some false else (bif (a0_5 != a1_5) then some false else (bif !(a0_6 == a1_6) then some false else some true))))))
def laws_eqGrant.Γ (k : Nat) : Ct κ := assoc [(44, laws_eqPattern.C k)]
def laws_eqGrant.LH (k : Nat) : Nat → Option (LHi κ) := assoc []
theorem laws_eqGrant.hΓ (k : Nat) : ∀ f g, laws_eqGrant.Γ k f = some g → CSound Tryd.prog f g := G_cons (laws_eqPattern.ok k) G_nil
theorem laws_eqGrant.lok (k : Nat) : LOK ti (laws_eqGrant.Γ k) (laws_eqGrant.LH k) 0 (loopsOf (bodyOf Tryd.f37)) :=
  (show loopsOf (bodyOf Tryd.f37) = [] by kernel_rfl) ▸ LOK_nil
def laws_eqGrant.sig : List PSh := [.agg [.sc, .sc, .sc, .sc, .sc, .sc, .sc], .agg [.sc, .sc, .sc, .sc, .sc, .sc, .sc]]
def laws_eqGrant.g (y : Bool) : Ret κ := ⟨.v (.bool y), [], []⟩
def laws_eqGrant.out (r : Ret κ) : Option Bool :=
  match r with
  | ⟨.v (.bool z0), [], []⟩ => some (z0)
  | _ => none
theorem laws_eqGrant.out_ok (r : Ret κ) (y : Bool) (h : laws_eqGrant.out r = some y) : r = laws_eqGrant.g y := by
  unfold laws_eqGrant.out at h
  split at h
  · obtain rfl := Option.some.inj h
    rfl
  · cases h
def laws_eqGrant.body (k : Nat) (vs : List AV) (bs : List (Blk κ)) : Option (Lf κ) :=
  match vs, bs with
  | [.agg [.int .i64 a0_0, .int .i64 a0_1, .int .i64 a0_2, .int .i64 a0_3, .int .i64 a0_4, .int .i64 a0_5, .bool a0_6], .agg [.int .i64 a1_0, .int .i64 a1_1, .int .i64 a1_2, .int .i64 a1_3, .int .i64 a1_4, .int .i64 a1_5, .bool a1_6]], [] => some ⟨Bool, laws_eqGrant.f k a0_0 a0_1 a0_2 a0_3 a0_4 a0_5 a0_6 a1_0 a1_1 a1_2 a1_3 a1_4 a1_5 a1_6, laws_eqGrant.g⟩
  | _, _ => none
def laws_eqGrant.C (k : Nat) : Nat → List AV → AP κ AV := contract laws_eqGrant.sig (laws_eqGrant.body k)
theorem laws_eqGrant.den (k : Nat) (a0_0 : Int) (a0_1 : Int) (a0_2 : Int) (a0_3 : Int) (a0_4 : Int) (a0_5 : Int) (a0_6 : Bool) (a1_0 : Int) (a1_1 : Int) (a1_2 : Int) (a1_3 : Int) (a1_4 : Int) (a1_5 : Int) (a1_6 : Bool) : Code.den ti (laws_eqGrant.Γ k) (laws_eqGrant.LH k) (bodyOf Tryd.f37) (finK ti Tryd.f37.results.toList [] (flags laws_eqGrant.sig).length (rwI (flags laws_eqGrant.sig) 0) laws_eqGrant.out) ⟨envOf (([.agg [.int .i64 a0_0, .int .i64 a0_1, .int .i64 a0_2, .int .i64 a0_3, .int .i64 a0_4, .int .i64 a0_5, .bool a0_6], .agg [.int .i64 a1_0, .int .i64 a1_1, .int .i64 a1_2, .int .i64 a1_3, .int .i64 a1_4, .int .i64 a1_5, .bool a1_6]]).zipIdx.map fun q => (q.2, q.1)), hpOf [], (flags laws_eqGrant.sig).length⟩ = laws_eqGrant.f k a0_0 a0_1 a0_2 a0_3 a0_4 a0_5 a0_6 a1_0 a1_1 a1_2 a1_3 a1_4 a1_5 a1_6 := by kernel_rfl
theorem laws_eqGrant.ok (k : Nat) : CSound Tryd.prog 37 (laws_eqGrant.C k) :=
  csound κ_ok mixed tok (laws_eqGrant.hΓ k) (LH := laws_eqGrant.LH k) (fn := Tryd.f37) (c := bodyOf Tryd.f37) Tryd.func37 rfl Tryd.call37 laws_eqGrant.sig [] (laws_eqGrant.body k) (by kernel_rfl) (laws_eqGrant.lok k) (by decide) fun vs bs lf y hl hb hy => by
    unfold laws_eqGrant.body at hb
    split at hb
    · obtain rfl := Option.some.inj hb
      exact ⟨laws_eqGrant.out, laws_eqGrant.out_ok, (laws_eqGrant.den k _ _ _ _ _ _ _ _ _ _ _ _ _ _).trans hy⟩
    · cases hb
/-! ### laws_eqGrantS -/
def laws_eqGrantS.L4 {R : Type} (k : Nat) (xl0 : List T_impl_Grant) (xl1 : List T_impl_Grant) (X0 : Bool → Option R) (X1 : Unit → Option R) (rec : Int → Option R) (x2 : Int) : Option R :=
  (bif decide (x2 < (xl0.length : Int)) then (bif decide (0 ≤ x2) then (bif decide (x2 < (xl0.length : Int)) then (bif decide (0 ≤ x2) then (bif decide (x2 < (xl1.length : Int)) then (laws_eqGrant.f k ((rd_impl_Grant xl0 x2).f0) ((rd_impl_Grant xl0 x2).f1.f0) ((rd_impl_Grant xl0 x2).f1.f1) ((rd_impl_Grant xl0 x2).f2) ((rd_impl_Grant xl0 x2).f3) ((rd_impl_Grant xl0 x2).f4) ((rd_impl_Grant xl0 x2).f5) ((rd_impl_Grant xl1 x2).f0) ((rd_impl_Grant xl1 x2).f1.f0) ((rd_impl_Grant xl1 x2).f1.f1) ((rd_impl_Grant xl1 x2).f2) ((rd_impl_Grant xl1 x2).f3) ((rd_impl_Grant xl1 x2).f4) ((rd_impl_Grant xl1 x2).f5)).bind fun t1 => (bif !t1 then (X0 false) else (rec (w64 (x2 + (1 : Int))))) else none) else none) else none) else none) else (X1 ()))
def laws_eqGrantS.l4 {R : Type} (k : Nat) (xl0 : List T_impl_Grant) (xl1 : List T_impl_Grant) (X0 : Bool → Option R) (X1 : Unit → Option R) : Nat → Int → Option R
  | 0 => fun _ => none
  | n + 1 => laws_eqGrantS.L4 k xl0 xl1 X0 X1 (laws_eqGrantS.l4 k xl0 xl1 X0 X1 n)
def laws_eqGrantS.f (k : Nat) (a0 : List T_impl_Grant) (a1 : List T_impl_Grant) : Option Bool :=
  (bif ((a0.length : Int) != (a1.length : Int)) then some false else (laws_eqGrantS.l4 k a0 a1 (fun (y2 : Bool) => some y2) (fun (_ : Unit) => some true) k (0 : Int)))
def laws_eqGrantS.h4 (k : Nat) {R : Type} (K : Ex → St κ → Option R) (vs : List AV) (bs : List (Blk κ)) : Option R :=
  match vs, bs with
  | [.v (.sl 0), .v (.sl 1), .v (.int .i64 x2)], [qb0, qb1] => (asO 5 false qb0).bind fun xl0 => (asO 5 false qb1).bind fun xl1 => laws_eqGrantS.l4 k xl0 xl1 (fun (z0 : Bool) => K .ret (stOf [(4, [])] [.v (.bool z0)] [.rows 5 false xl0, .rows 5 false xl1])) (fun (_ : Unit) => K (.exit 0) (stOf [(4, [])] [.v .any] [.rows 5 false xl0, .rows 5 false xl1])) k x2
  | _, _ => none
def laws_eqGrantS.Γ (k : Nat) : Ct κ := assoc [(37, laws_eqGrant.C k)]
def laws_eqGrantS.LH (k : Nat) : Nat → Option (LHi κ) := assoc [(4, ⟨2, [(0, [some 5]), (1, [some 5]), (5, [])], [(4, [])], @laws_eqGrantS.h4 k⟩)]
theorem laws_eqGrantS.hΓ (k : Nat) : ∀ f g, laws_eqGrantS.Γ k f = some g → CSound Tryd.prog f g := G_cons (laws_eqGrant.ok k) G_nil
theorem laws_eqGrantS.e4 {R : Type} (K : Ex → St κ → Option R) (k : Nat) (xl0 : List T_impl_Grant) (xl1 : List T_impl_Grant) : ∀ (n : Nat) (x2 : Int), loopN 2 (Code.den ti (laws_eqGrantS.Γ k) (laws_eqGrantS.LH k) (loopAt Tryd.f27 0)) [(0, [some 5]), (1, [some 5]), (5, [])] [(4, [])] K n [.v (.sl 0), .v (.sl 1), .v (.int .i64 x2)] [.rows 5 false xl0, .rows 5 false xl1] = laws_eqGrantS.l4 k xl0 xl1 (fun (z0 : Bool) => K .ret (stOf [(4, [])] [.v (.bool z0)] [.rows 5 false xl0, .rows 5 false xl1])) (fun (_ : Unit) => K (.exit 0) (stOf [(4, [])] [.v .any] [.rows 5 false xl0, .rows 5 false xl1])) n x2
  | 0, _ => rfl
  | n + 1, x2 => (show loopN 2 (Code.den ti (laws_eqGrantS.Γ k) (laws_eqGrantS.LH k) (loopAt Tryd.f27 0)) [(0, [some 5]), (1, [some 5]), (5, [])] [(4, [])] K (n + 1) [.v (.sl 0), .v (.sl 1), .v (.int .i64 x2)] [.rows 5 false xl0, .rows 5 false xl1] = laws_eqGrantS.L4 k xl0 xl1 (fun (z0 : Bool) => K .ret (stOf [(4, [])] [.v (.bool z0)] [.rows 5 false xl0, .rows 5 false xl1])) (fun (_ : Unit) => K (.exit 0) (stOf [(4, [])] [.v .any] [.rows 5 false xl0, .rows 5 false xl1])) (fun (x2' : Int) => loopN 2 (Code.den ti (laws_eqGrantS.Γ k) (laws_eqGrantS.LH k) (loopAt Tryd.f27 0)) [(0, [some 5]), (1, [some 5]), (5, [])] [(4, [])] K n [.v (.sl 0), .v (.sl 1), .v (.int .i64 x2')] [.rows 5 false xl0, .rows 5 false xl1]) x2 by kernel_rfl).trans (congrArg (fun rec => laws_eqGrantS.L4 k xl0 xl1 (fun (z0 : Bool) => K .ret (stOf [(4, [])] [.v (.bool z0)] [.rows 5 false xl0, .rows 5 false xl1])) (fun (_ : Unit) => K (.exit 0) (stOf [(4, [])] [.v .any] [.rows 5 false xl0, .rows 5 false xl1])) rec x2) (funext fun x2' => laws_eqGrantS.e4 K k xl0 xl1 n x2'))
theorem laws_eqGrantS.q4 (k : Nat) {R : Type} (K : Ex → St κ → Option R) (vs : List AV) (bs : List (Blk κ)) (r : R) (h : laws_eqGrantS.h4 k K vs bs = some r) : ∃ n, loopN 2 (Code.den ti (laws_eqGrantS.Γ k) (laws_eqGrantS.LH k) (loopAt Tryd.f27 0)) [(0, [some 5]), (1, [some 5]), (5, [])] [(4, [])] K n vs bs = some r := by
  unfold laws_eqGrantS.h4 at h
  split at h
  · obtain ⟨_, rfl, h_1⟩ := asO_bind h
    obtain ⟨_, rfl, h_2⟩ := asO_bind h_1
    exact ⟨k, (laws_eqGrantS.e4 K k _ _ k _).trans h_2⟩
  · cases h
theorem laws_eqGrantS.lok (k : Nat) : LOK ti (laws_eqGrantS.Γ k) (laws_eqGrantS.LH k) 2 (loopsOf (bodyOf Tryd.f27)) :=
  (show loopsOf (bodyOf Tryd.f27) = [loopAt Tryd.f27 0] by kernel_rfl) ▸ (LOK_cons (g := ⟨2, [(0, [some 5]), (1, [some 5]), (5, [])], [(4, [])], @laws_eqGrantS.h4 k⟩) (by kernel_rfl) rfl (fun K vs xs r h => laws_eqGrantS.q4 k K vs xs r h) (LOK_nil))
def laws_eqGrantS.sig : List PSh := [.one (.ro 5), .one (.ro 5)]
def laws_eqGrantS.g (y : Bool) : Ret κ := ⟨.v (.bool y), [], []⟩
def laws_eqGrantS.out (r : Ret κ) : Option Bool :=
  match r with
  | ⟨.v (.bool z0), [], []⟩ => some (z0)
  | _ => none
theorem laws_eqGrantS.out_ok (r : Ret κ) (y : Bool) (h : laws_eqGrantS.out r = some y) : r = laws_eqGrantS.g y := by
  unfold laws_eqGrantS.out at h
  split at h
  · obtain rfl := Option.some.inj h
    rfl
  · cases h
def laws_eqGrantS.body (k : Nat) (vs : List AV) (bs : List (Blk κ)) : Option (Lf κ) :=
  match vs, bs with
  | [.v (.sl 0), .v (.sl 1)], [qb0, qb1] => (asO 5 false qb0).bind fun a0 => (asO 5 false qb1).bind fun a1 => some ⟨Bool, laws_eqGrantS.f k a0 a1, laws_eqGrantS.g⟩
  | _, _ => none
def laws_eqGrantS.C (k : Nat) : Nat → List AV → AP κ AV := contract laws_eqGrantS.sig (laws_eqGrantS.body k)
theorem laws_eqGrantS.den (k : Nat) (a0 : List T_impl_Grant) (a1 : List T_impl_Grant) : Code.den ti (laws_eqGrantS.Γ k) (laws_eqGrantS.LH k) (bodyOf Tryd.f27) (finK ti Tryd.f27.results.toList [] (flags laws_eqGrantS.sig).length (rwI (flags laws_eqGrantS.sig) 0) laws_eqGrantS.out) ⟨envOf (([.v (.sl 0), .v (.sl 1)]).zipIdx.map fun q => (q.2, q.1)), hpOf [.rows 5 false a0, .rows 5 false a1], (flags laws_eqGrantS.sig).length⟩ = laws_eqGrantS.f k a0 a1 := by kernel_rfl
theorem laws_eqGrantS.ok (k : Nat) : CSound Tryd.prog 27 (laws_eqGrantS.C k) :=
  csound κ_ok mixed tok (laws_eqGrantS.hΓ k) (LH := laws_eqGrantS.LH k) (fn := Tryd.f27) (c := bodyOf Tryd.f27) Tryd.func27 rfl Tryd.call27 laws_eqGrantS.sig [] (laws_eqGrantS.body k) (by kernel_rfl) (laws_eqGrantS.lok k) (by decide) fun vs bs lf y hl hb hy => by
    unfold laws_eqGrantS.body at hb
    split at hb
    · obtain ⟨_, rfl, hb_1⟩ := asO_bind hb
      obtain ⟨_, rfl, hb_2⟩ := asO_bind hb_1
      obtain rfl := Option.some.inj hb_2
      exact ⟨laws_eqGrantS.out, laws_eqGrantS.out_ok, (laws_eqGrantS.den k _ _).trans hy⟩
    · cases hb
/-! ### laws_eqFlow -/
def laws_eqFlow.f (k : Nat) (a0_0 : Int) (a0_1 : Int) (a0_2 : Int) (a1_0 : Int) (a1_1 : Int) (a1_2 : Int) : Option Bool :=
  (bif (a0_0 != a1_0) then some false else (bif (a0_1 != a1_1) then some false else (bif (a0_2 != a1_2) then some false else some true)))
def laws_eqFlow.Γ (k : Nat) : Ct κ := assoc []
def laws_eqFlow.LH (k : Nat) : Nat → Option (LHi κ) := assoc []
theorem laws_eqFlow.hΓ (k : Nat) : ∀ f g, laws_eqFlow.Γ k f = some g → CSound Tryd.prog f g := G_nil
theorem laws_eqFlow.lok (k : Nat) : LOK ti (laws_eqFlow.Γ k) (laws_eqFlow.LH k) 0 (loopsOf (bodyOf Tryd.f38)) :=
  (show loopsOf (bodyOf Tryd.f38) = [] by kernel_rfl) ▸ LOK_nil
def laws_eqFlow.sig : List PSh := [.agg [.sc, .sc, .sc], .agg [.sc, .sc, .sc]]
def laws_eqFlow.g (y : Bool) : Ret κ := ⟨.v (.bool y), [], []⟩
def laws_eqFlow.out (r : Ret κ) : Option Bool :=
  match r with
  | ⟨.v (.bool z0), [], []⟩ => some (z0)
  | _ => none
theorem laws_eqFlow.out_ok (r : Ret κ) (y : Bool) (h : laws_eqFlow.out r = some y) : r = laws_eqFlow.g y := by
  unfold laws_eqFlow.out at h
  split at h
  · obtain rfl := Option.some.inj h
    rfl
  · cases h
def laws_eqFlow.body (k : Nat) (vs : List AV) (bs : List (Blk κ)) : Option (Lf κ) :=
  match vs, bs with
  | [.agg [.int .i64 a0_0, .int .i64 a0_1, .int .i64 a0_2], .agg [.int .i64 a1_0, .int .i64 a1_1, .int .i64 a1_2]], [] => some ⟨Bool, laws_eqFlow.f k a0_0 a0_1 a0_2 a1_0 a1_1 a1_2, laws_eqFlow.g⟩
  | _, _ => none
def laws_eqFlow.C (k : Nat) : Nat → List AV → AP κ AV := contract laws_eqFlow.sig (laws_eqFlow.body k)
theorem laws_eqFlow.den (k : Nat) (a0_0 : Int) (a0_1 : Int) (a0_2 : Int) (a1_0 : Int) (a1_1 : Int) (a1_2 : Int) : Code.den ti (laws_eqFlow.Γ k) (laws_eqFlow.LH k) (bodyOf Tryd.f38) (finK ti Tryd.f38.results.toList [] (flags laws_eqFlow.sig).length (rwI (flags laws_eqFlow.sig) 0) laws_eqFlow.out) ⟨envOf (([.agg [.int .i64 a0_0, .int .i64 a0_1, .int .i64 a0_2], .agg [.int .i64 a1_0, .int .i64 a1_1, .int .i64 a1_2]]).zipIdx.map fun q => (q.2, q.1)), hpOf [], (flags laws_eqFlow.sig).length⟩ = laws_eqFlow.f k a0_0 a0_1 a0_2 a1_0 a1_1 a1_2 := by kernel_rfl
theorem laws_eqFlow.ok (k : Nat) : CSound Tryd.prog 38 (laws_eqFlow.C k) :=
  csound κ_ok mixed tok (laws_eqFlow.hΓ k) (LH := laws_eqFlow.LH k) (fn := Tryd.f38) (c := bodyOf Tryd.f38) Tryd.func38 rfl Tryd.call38 laws_eqFlow.sig [] (laws_eqFlow.body k) (by kernel_rfl) (laws_eqFlow.lok k) (by decide) fun vs bs lf y hl hb hy => by
    unfold laws_eqFlow.body at hb
    split at hb
    · obtain rfl := Option.some.inj hb
      exact ⟨laws_eqFlow.out, laws_eqFlow.out_ok, (laws_eqFlow.den k _ _ _ _ _ _).trans hy⟩
    · cases hb
/-! ### laws_eqFlowS -/
def laws_eqFlowS.L4 {R : Type} (k : Nat) (xl0 : List T_impl_Flow) (xl1 : List T_impl_Flow) (X0 : Bool → Option R) (X1 : Unit → Option R) (rec : Int → Option R) (x2 : Int) : Option R :=
  (bif decide (x2 < (xl0.length : Int)) then (bif decide (0 ≤ x2) then (bif decide (x2 < (xl0.length : Int)) then (bif decide (0 ≤ x2) then (bif decide (x2 < (xl1.length : Int)) then (laws_eqFlow.f k ((rd_impl_Flow xl0 x2).f0) ((rd_impl_Flow xl0 x2).f1) ((rd_impl_Flow xl0 x2).f2) ((rd_impl_Flow xl1 x2).f0) ((rd_impl_Flow xl1 x2).f1) ((rd_impl_Flow xl1 x2).f2)).bind fun t1 => (bif !t1 then (X0 false) else (rec (w64 (x2 + (1 : Int))))) else none) else none) else none) else none) else (X1 ()))
def laws_eqFlowS.l4 {R : Type} (k : Nat) (xl0 : List T_impl_Flow) (xl1 : List T_impl_Flow) (X0 : Bool → Option R) (X1 : Unit → Option R) : Nat → Int → Option R
  | 0 => fun _ => none
  | n + 1 => laws_eqFlowS.L4 k xl0 xl1 X0 X1 (laws_eqFlowS.l4 k xl0 xl1 X0 X1 n)
def laws_eqFlowS.f (k : Nat) (a0 : List T_impl_Flow) (a1 : List T_impl_Flow) : Option Bool :=
  (bif ((a0.length : Int) != (a1.length : Int)) then some false else (laws_eqFlowS.l4 k a0 a1 (fun (y2 : Bool) => some y2) (fun (_ : Unit) => some true) k (0 : Int)))
def laws_eqFlowS.h4 (k : Nat) {R : Type} (K : Ex → St κ → Option R) (vs : List AV) (bs : List (Blk κ)) : Option R :=
  match vs, bs with
  | [.v (.sl 0), .v (.sl 1), .v (.int .i64 x2)], [qb0, qb1] => (asO 6 false qb0).bind fun xl0 => (asO 6 false qb1).bind fun xl1 => laws_eqFlowS.l4 k xl0 xl1 (fun (z0 : Bool) => K .ret (stOf [(4, [])] [.v (.bool z0)] [.rows 6 false xl0, .rows 6 false xl1])) (fun (_ : Unit) => K (.exit 0) (stOf [(4, [])] [.v .any] [.rows 6 false xl0, .rows 6 false xl1])) k x2
  | _, _ => none
def laws_eqFlowS.Γ (k : Nat) : Ct κ := assoc [(38, laws_eqFlow.C k)]
def laws_eqFlowS.LH (k : Nat) : Nat → Option (LHi κ) := assoc [(4, ⟨2, [(0, [some 6]), (1, [some 6]), (5, [])], [(4, [])], @laws_eqFlowS.h4 k⟩)]
theorem laws_eqFlowS.hΓ (k : Nat) : ∀ f g, laws_eqFlowS.Γ k f = some g → CSound Tryd.prog f g := G_cons (laws_eqFlow.ok k) G_nil
theorem laws_eqFlowS.e4 {R : Type} (K : Ex → St κ → Option R) (k : Nat) (xl0 : List T_impl_Flow) (xl1 : List T_impl_Flow) : ∀ (n : Nat) (x2 : Int), loopN 2 (Code.den ti (laws_eqFlowS.Γ k) (laws_eqFlowS.LH k) (loopAt Tryd.f28 0)) [(0, [some 6]), (1, [some 6]), (5, [])] [(4, [])] K n [.v (.sl 0), .v (.sl 1), .v (.int .i64 x2)] [.rows 6 false xl0, .rows 6 false xl1] = laws_eqFlowS.l4 k xl0 xl1 (fun (z0 : Bool) => K .ret (stOf [(4, [])] [.v (.bool z0)] [.rows 6 false xl0, .rows 6 false xl1])) (fun (_ : Unit) => K (.exit 0) (stOf [(4, [])] [.v .any] [.rows 6 false xl0, .rows 6 false xl1])) n x2
  | 0, _ => rfl
  | n + 1, x2 => (show loopN 2 (Code.den ti (laws_eqFlowS.Γ k) (laws_eqFlowS.LH k) (loopAt Tryd.f28 0)) [(0, [some 6]), (1, [some 6]), (5, [])] [(4, [])] K (n + 1) [.v (.sl 0), .v (.sl 1), .v (.int .i64 x2)] [.rows 6 false xl0, .rows 6 false xl1] = laws_eqFlowS.L4 k xl0 xl1 (fun (z0 : Bool) => K .ret (stOf [(4, [])] [.v (.bool z0)] [.rows 6 false xl0, .rows 6 false xl1])) (fun (_ : Unit) => K (.exit 0) (stOf [(4, [])] [.v .any] [.rows 6 false xl0, .rows 6 false xl1])) (fun (x2' : Int) => loopN 2 (Code.den ti (laws_eqFlowS.Γ k) (laws_eqFlowS.LH k) (loopAt Tryd.f28 0)) [(0, [some 6]), (1, [some 6]), (5, [])] [(4, [])] K n [.v (.sl 0), .v (.sl 1), .v (.int .i64 x2')] [.rows 6 false xl0, .rows 6 false xl1]) x2 by kernel_rfl).trans (congrArg (fun rec => laws_eqFlowS.L4 k xl0 xl1 (fun (z0 : Bool) => K .ret (stOf [(4, [])] [.v (.bool z0)] [.rows 6 false xl0, .rows 6 false xl1])) (fun (_ : Unit) => K (.exit 0) (stOf [(4, [])] [.v .any] [.rows 6 false xl0, .rows 6 false xl1])) rec x2) (funext fun x2' => laws_eqFlowS.e4 K k xl0 xl1 n x2'))
theorem laws_eqFlowS.q4 (k : Nat) {R : Type} (K : Ex → St κ → Option R) (vs : List AV) (bs : List (Blk κ)) (r : R) (h : laws_eqFlowS.h4 k K vs bs = some r) : ∃ n, loopN 2 (Code.den ti (laws_eqFlowS.Γ k) (laws_eqFlowS.LH k) (loopAt Tryd.f28 0)) [(0, [some 6]), (1, [some 6]), (5, [])] [(4, [])] K n vs bs = some r := by
  unfold laws_eqFlowS.h4 at h
  split at h
  · obtain ⟨_, rfl, h_1⟩ := asO_bind h
    obtain ⟨_, rfl, h_2⟩ := asO_bind h_1
    exact ⟨k, (laws_eqFlowS.e4 K k _ _ k _).trans h_2⟩
  · cases h
theorem laws_eqFlowS.lok (k : Nat) : LOK ti (laws_eqFlowS.Γ k) (laws_eqFlowS.LH k) 2 (loopsOf (bodyOf Tryd.f28)) :=
  (show loopsOf (bodyOf Tryd.f28) = [loopAt Tryd.f28 0] by kernel_rfl) ▸ (LOK_cons (g := ⟨2, [(0, [some 6]), (1, [some 6]), (5, [])], [(4, [])], @laws_eqFlowS.h4 k⟩) (by kernel_rfl) rfl (fun K vs xs r h => laws_eqFlowS.q4 k K vs xs r h) (LOK_nil))
def laws_eqFlowS.sig : List PSh := [.one (.ro 6), .one (.ro 6)]
def laws_eqFlowS.g (y : Bool) : Ret κ := ⟨.v (.bool y), [], []⟩
def laws_eqFlowS.out (r : Ret κ) : Option Bool :=
  match r with
  | ⟨.v (.bool z0), [], []⟩ => some (z0)
  | _ => none
theorem laws_eqFlowS.out_ok (r : Ret κ) (y : Bool) (h : laws_eqFlowS.out r = some y) : r = laws_eqFlowS.g y := by
  unfold laws_eqFlowS.out at h
  split at h
  · obtain rfl := Option.some.inj h
    rfl
  · cases h
def laws_eqFlowS.body (k : Nat) (vs : List AV) (bs : List (Blk κ)) : Option (Lf κ) :=
  match vs, bs with
  | [.v (.sl 0), .v (.sl 1)], [qb0, qb1] => (asO 6 false qb0).bind fun a0 => (asO 6 false qb1).bind fun a1 => some ⟨Bool, laws_eqFlowS.f k a0 a1, laws_eqFlowS.g⟩
  | _, _ => none
def laws_eqFlowS.C (k : Nat) : Nat → List AV → AP κ AV := contract laws_eqFlowS.sig (laws_eqFlowS.body k)
theorem laws_eqFlowS.den (k : Nat) (a0 : List T_impl_Flow) (a1 : List T_impl_Flow) : Code.den ti (laws_eqFlowS.Γ k) (laws_eqFlowS.LH k) (bodyOf Tryd.f28) (finK ti Tryd.f28.results.toList [] (flags laws_eqFlowS.sig).length (rwI (flags laws_eqFlowS.sig) 0) laws_eqFlowS.out) ⟨envOf (([.v (.sl 0), .v (.sl 1)]).zipIdx.map fun q => (q.2, q.1)), hpOf [.rows 6 false a0, .rows 6 false a1], (flags laws_eqFlowS.sig).length⟩ = laws_eqFlowS.f k a0 a1 := by kernel_rfl
theorem laws_eqFlowS.ok (k : Nat) : CSound Tryd.prog 28 (laws_eqFlowS.C k) :=
  csound κ_ok mixed tok (laws_eqFlowS.hΓ k) (LH := laws_eqFlowS.LH k) (fn := Tryd.f28) (c := bodyOf Tryd.f28) Tryd.func28 rfl Tryd.call28 laws_eqFlowS.sig [] (laws_eqFlowS.body k) (by kernel_rfl) (laws_eqFlowS.lok k) (by decide) fun vs bs lf y hl hb hy => by
    unfold laws_eqFlowS.body at hb
    split at hb
    · obtain ⟨_, rfl, hb_1⟩ := asO_bind hb
      obtain ⟨_, rfl, hb_2⟩ := asO_bind hb_1
      obtain rfl := Option.some.inj hb_2
      exact ⟨laws_eqFlowS.out, laws_eqFlowS.out_ok, (laws_eqFlowS.den k _ _).trans hy⟩
    · cases hb
/-! ### laws_eqSite -/
def laws_eqSite.f (k : Nat) (a0_0 : Int) (a0_1 : Int) (a1_0 : Int) (a1_1 : Int) : Option Bool :=
  (bif (a0_0 != a1_0) then some false else (bif (a0_1 != a1_1) then some false else some true))
def laws_eqSite.Γ (k : Nat) : Ct κ := assoc []
def laws_eqSite.LH (k : Nat) : Nat → Option (LHi κ) := assoc []
theorem laws_eqSite.hΓ (k : Nat) : ∀ f g, laws_eqSite.Γ k f = some g → CSound Tryd.prog f g := G_nil
theorem laws_eqSite.lok (k : Nat) : LOK ti (laws_eqSite.Γ k) (laws_eqSite.LH k) 0 (loopsOf (bodyOf Tryd.f45)) :=
  (show loopsOf (bodyOf Tryd.f45) = [] by kernel_rfl) ▸ LOK_nil
def laws_eqSite.sig : List PSh := [.agg [.sc, .sc], .agg [.sc, .sc]]
def laws_eqSite.g (y : Bool) : Ret κ := ⟨.v (.bool y), [], []⟩
def laws_eqSite.out (r : Ret κ) : Option Bool :=
  match r with
  | ⟨.v (.bool z0), [], []⟩ => some (z0)
  | _ => none
theorem laws_eqSite.out_ok (r : Ret κ) (y : Bool) (h : laws_eqSite.out r = some y) : r = laws_eqSite.g y := by
  unfold laws_eqSite.out at h
  split at h
  · obtain rfl := Option.some.inj h
    rfl
  · cases h
def laws_eqSite.body (k : Nat) (vs : List AV) (bs : List (Blk κ)) : Option (Lf κ) :=
  match vs, bs with
  | [.agg [.int .i64 a0_0, .int .i64 a0_1], .agg [.int .i64 a1_0, .int .i64 a1_1]], [] => some ⟨Bool, laws_eqSite.f k a0_0 a0_1 a1_0 a1_1, laws_eqSite.g⟩
  | _, _ => none
def laws_eqSite.C (k : Nat) : Nat → List AV → AP κ AV := contract laws_eqSite.sig (laws_eqSite.body k)
theorem laws_eqSite.den (k : Nat) (a0_0 : Int) (a0_1 : Int) (a1_0 : Int) (a1_1 : Int) : Code.den ti (laws_eqSite.Γ k) (laws_eqSite.LH k) (bodyOf Tryd.f45) (finK ti Tryd.f45.results.toList [] (flags laws_eqSite.sig).length (rwI (flags laws_eqSite.sig) 0) laws_eqSite.out) ⟨envOf (([.agg [.int .i64 a0_0, .int .i64 a0_1], .agg [.int .i64 a1_0, .int .i64 a1_1]]).zipIdx.map fun q => (q.2, q.1)), hpOf [], (flags laws_eqSite.sig).length⟩ = laws_eqSite.f k a0_0 a0_1 a1_0 a1_1 := by kernel_rfl
theorem laws_eqSite.ok (k : Nat) : CSound Tryd.prog 45 (laws_eqSite.C k) :=
  csound κ_ok mixed tok (laws_eqSite.hΓ k) (LH := laws_eqSite.LH k) (fn := Tryd.f45) (c := bodyOf Tryd.f45) Tryd.func45 rfl Tryd.call45 laws_eqSite.sig [] (laws_eqSite.body k) (by kernel_rfl) (laws_eqSite.lok k) (by decide) fun vs bs lf y hl hb hy => by
    unfold laws_eqSite.body at hb
    split at hb
    · obtain rfl := Option.some.inj hb
      exact ⟨laws_eqSite.out, laws_eqSite.out_ok, (laws_eqSite.den k _ _ _ _).trans hy⟩
    · cases hb
end Go.Proofs.YthingkcckjiniaaDoor.PFnExactSnapshotText
