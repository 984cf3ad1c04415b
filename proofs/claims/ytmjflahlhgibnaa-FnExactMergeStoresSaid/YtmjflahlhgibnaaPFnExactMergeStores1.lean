/- What the functions that the law FnExactMergeStores reaches come to; no conditions. -/
import Derived.Test.YtmjflahlhgibnaaPFnExactMergeStoresT
set_option linter.unusedVariables false
set_option maxRecDepth 100000
namespace Go.Proofs.Ytmjflahlhgibnaa.PFnExactMergeStores
open Go Go.Eng Go.Proofs
/-! ### laws_szStoredS -/
def laws_szStoredS.f (k : Nat) (a0 : List T_laws_Stored) (a1 : Int) : Option Int :=
  (bif decide ((w64 (a1 - (a0.length : Int))) < (0 : Int)) then some (-1 : Int) else some (w64 (a1 - (a0.length : Int))))
def laws_szStoredS.Γ (k : Nat) : Ct κ := assoc []
def laws_szStoredS.LH (k : Nat) : Nat → Option (LHi κ) := assoc []
theorem laws_szStoredS.hΓ (k : Nat) : ∀ f g, laws_szStoredS.Γ k f = some g → CSound Try.prog f g := G_nil
theorem laws_szStoredS.lok (k : Nat) : LOK ti (laws_szStoredS.Γ k) (laws_szStoredS.LH k) 1 (loopsOf (bodyOf Try.f16)) :=
  (show loopsOf (bodyOf Try.f16) = [] by kernel_rfl) ▸ LOK_nil
def laws_szStoredS.sig : List PSh := [.one (.ro 0), .one .sc]
def laws_szStoredS.g (y : Int) : Ret κ := ⟨.v (.int .i64 y), [], []⟩
def laws_szStoredS.out (r : Ret κ) : Option Int :=
  match r with
  | ⟨.v (.int .i64 z0), [], []⟩ => some (z0)
  | _ => none
theorem laws_szStoredS.out_ok (r : Ret κ) (y : Int) (h : laws_szStoredS.out r = some y) : r = laws_szStoredS.g y := by
  unfold laws_szStoredS.out at h
  split at h
  · obtain rfl := Option.some.inj h
    rfl
  · cases h
def laws_szStoredS.body (k : Nat) (vs : List AV) (bs : List (Blk κ)) : Option (Lf κ) :=
  match vs, bs with
  | [.v (.sl 0), .v (.int .i64 a1)], [qb0] => (asO 0 false qb0).bind fun a0 => some ⟨Int, laws_szStoredS.f k a0 a1, laws_szStoredS.g⟩
  | _, _ => none
def laws_szStoredS.C (k : Nat) : Nat → List AV → AP κ AV := contract laws_szStoredS.sig (laws_szStoredS.body k)
theorem laws_szStoredS.den (k : Nat) (a0 : List T_laws_Stored) (a1 : Int) : Code.den ti (laws_szStoredS.Γ k) (laws_szStoredS.LH k) (bodyOf Try.f16) (finK ti Try.f16.results.toList [] (flags laws_szStoredS.sig).length (rwI (flags laws_szStoredS.sig) 0) laws_szStoredS.out) ⟨envOf (([.v (.sl 0), .v (.int .i64 a1)]).zipIdx.map fun q => (q.2, q.1)), hpOf [.rows 0 false a0], (flags laws_szStoredS.sig).length⟩ = laws_szStoredS.f k a0 a1 := by kernel_rfl
theorem laws_szStoredS.ok (k : Nat) : CSound Try.prog 16 (laws_szStoredS.C k) :=
  csound κ_ok mixed tok (laws_szStoredS.hΓ k) (LH := laws_szStoredS.LH k) (fn := Try.f16) (c := bodyOf Try.f16) Try.func16 rfl Try.call16 laws_szStoredS.sig [] (laws_szStoredS.body k) (by kernel_rfl) (laws_szStoredS.lok k) (by decide) fun vs bs lf y hl hb hy => by
    unfold laws_szStoredS.body at hb
    split at hb
    · obtain ⟨_, rfl, hb_1⟩ := asO_bind hb
      obtain rfl := Option.some.inj hb_1
      exact ⟨laws_szStoredS.out, laws_szStoredS.out_ok, (laws_szStoredS.den k _ _).trans hy⟩
    · cases hb
/-! ### laws_toStored -/
def laws_toStored.f (k : Nat) (a0_0 : Int) (a0_1 : Int) (a0_2 : Int) (a0_3 : Int) : Option (Int × Int × Int × Int) :=
  some (a0_0, a0_1, a0_2, a0_3)
def laws_toStored.Γ (k : Nat) : Ct κ := assoc []
def laws_toStored.LH (k : Nat) : Nat → Option (LHi κ) := assoc []
theorem laws_toStored.hΓ (k : Nat) : ∀ f g, laws_toStored.Γ k f = some g → CSound Try.prog f g := G_nil
theorem laws_toStored.lok (k : Nat) : LOK ti (laws_toStored.Γ k) (laws_toStored.LH k) 0 (loopsOf (bodyOf Try.f48)) :=
  (show loopsOf (bodyOf Try.f48) = [] by kernel_rfl) ▸ LOK_nil
def laws_toStored.sig : List PSh := [.agg [.sc, .sc, .sc, .sc]]
def laws_toStored.g (y : Int × Int × Int × Int) : Ret κ := ⟨.agg [.int .i64 y.1, .int .i64 y.2.1, .int .i64 y.2.2.1, .int .i64 y.2.2.2], [], []⟩
def laws_toStored.out (r : Ret κ) : Option (Int × Int × Int × Int) :=
  match r with
  | ⟨.agg [.int .i64 z0, .int .i64 z1, .int .i64 z2, .int .i64 z3], [], []⟩ => some (z0, z1, z2, z3)
  | _ => none
theorem laws_toStored.out_ok (r : Ret κ) (y : Int × Int × Int × Int) (h : laws_toStored.out r = some y) : r = laws_toStored.g y := by
  unfold laws_toStored.out at h
  split at h
  · obtain rfl := Option.some.inj h
    rfl
  · cases h
def laws_toStored.body (k : Nat) (vs : List AV) (bs : List (Blk κ)) : Option (Lf κ) :=
  match vs, bs with
  | [.agg [.int .i64 a0_0, .int .i64 a0_1, .int .i64 a0_2, .int .i64 a0_3]], [] => some ⟨Int × Int × Int × Int, laws_toStored.f k a0_0 a0_1 a0_2 a0_3, laws_toStored.g⟩
  | _, _ => none
def laws_toStored.C (k : Nat) : Nat → List AV → AP κ AV := contract laws_toStored.sig (laws_toStored.body k)
theorem laws_toStored.den (k : Nat) (a0_0 : Int) (a0_1 : Int) (a0_2 : Int) (a0_3 : Int) : Code.den ti (laws_toStored.Γ k) (laws_toStored.LH k) (bodyOf Try.f48) (finK ti Try.f48.results.toList [] (flags laws_toStored.sig).length (rwI (flags laws_toStored.sig) 0) laws_toStored.out) ⟨envOf (([.agg [.int .i64 a0_0, .int .i64 a0_1, .int .i64 a0_2, .int .i64 a0_3]]).zipIdx.map fun q => (q.2, q.1)), hpOf [], (flags laws_toStored.sig).length⟩ = laws_toStored.f k a0_0 a0_1 a0_2 a0_3 := by kernel_rfl
theorem laws_toStored.ok (k : Nat) : CSound Try.prog 48 (laws_toStored.C k) :=
  csound κ_ok mixed tok (laws_toStored.hΓ k) (LH := laws_toStored.LH k) (fn := Try.f48) (c := bodyOf Try.f48) Try.func48 rfl Try.call48 laws_toStored.sig [] (laws_toStored.body k) (by kernel_rfl) (laws_toStored.lok k) (by decide) fun vs bs lf y hl hb hy => by
    unfold laws_toStored.body at hb
    split at hb
    · obtain rfl := Option.some.inj hb
      exact ⟨laws_toStored.out, laws_toStored.out_ok, (laws_toStored.den k _ _ _ _).trans hy⟩
    · cases hb
/-! ### laws_toStoredS -/
def laws_toStoredS.L3 {R : Type} (k : Nat) (xl0 : List T_laws_Stored) (X0 : List T_impl_Stored → Option R) (rec : Int → List T_impl_Stored → Option R) (x2 : Int) (xl1 : List T_impl_Stored) : Option R :=
  (bif decide (x2 < (xl0.length : Int)) then (bif decide (0 ≤ x2) then (bif decide (x2 < (xl0.length : Int)) then (laws_toStored.f k ((rd_laws_Stored xl0 x2).f0) ((rd_laws_Stored xl0 x2).f1) ((rd_laws_Stored xl0 x2).f2) ((rd_laws_Stored xl0 x2).f3)).bind fun t1 => (bif decide (0 ≤ x2) then (bif decide (x2 < (xl1.length : Int)) then (let l2 : List T_impl_Stored := (xl1.set (x2).toNat (⟨t1.1, t1.2.1, t1.2.2.1, t1.2.2.2⟩ : T_impl_Stored)); (rec (w64 (x2 + (1 : Int))) l2)) else none) else none) else none) else none) else (X0 xl1))
def laws_toStoredS.l3 {R : Type} (k : Nat) (xl0 : List T_laws_Stored) (X0 : List T_impl_Stored → Option R) : Nat → Int → List T_impl_Stored → Option R
  | 0 => fun _ _ => none
  | n + 1 => laws_toStoredS.L3 k xl0 X0 (laws_toStoredS.l3 k xl0 X0 n)
def laws_toStoredS.f (k : Nat) (a0 : List T_laws_Stored) : Option (List T_impl_Stored) :=
  (bif decide (0 ≤ (a0.length : Int)) then (bif decide (((a0.length : Int)).toNat * 32 ≤ cap48) then (laws_toStoredS.l3 k a0 (fun (y3 : List T_impl_Stored) => some y3) k (0 : Int) (List.replicate ((a0.length : Int)).toNat z_impl_Stored)) else none) else none)
def laws_toStoredS.h3 (k : Nat) {R : Type} (K : Ex → St κ → Option R) (vs : List AV) (bs : List (Blk κ)) : Option R :=
  match vs, bs with
  | [.v (.sl 0), .v (.sl 1), .v (.int .i64 x2)], [qb0, qb1] => (asO 0 false qb0).bind fun xl0 => (asO 1 true qb1).bind fun xl1 => laws_toStoredS.l3 k xl0 (fun (zl1 : List T_impl_Stored) => K (.exit 0) (stOf [(3, [some 1])] [.v (.sl 1)] [.rows 0 false xl0, .rows 1 true zl1])) k x2 xl1
  | _, _ => none
def laws_toStoredS.Γ (k : Nat) : Ct κ := assoc [(48, laws_toStored.C k)]
def laws_toStoredS.LH (k : Nat) : Nat → Option (LHi κ) := assoc [(3, ⟨1, [(0, [some 0]), (3, [some 1]), (4, [])], [(3, [some 1])], @laws_toStoredS.h3 k⟩)]
theorem laws_toStoredS.hΓ (k : Nat) : ∀ f g, laws_toStoredS.Γ k f = some g → CSound Try.prog f g := G_cons (laws_toStored.ok k) G_nil
theorem laws_toStoredS.e3 {R : Type} (K : Ex → St κ → Option R) (k : Nat) (xl0 : List T_laws_Stored) : ∀ (n : Nat) (x2 : Int) (xl1 : List T_impl_Stored), loopN 1 (Code.den ti (laws_toStoredS.Γ k) (laws_toStoredS.LH k) (loopAt Try.f18 0)) [(0, [some 0]), (3, [some 1]), (4, [])] [(3, [some 1])] K n [.v (.sl 0), .v (.sl 1), .v (.int .i64 x2)] [.rows 0 false xl0, .rows 1 true xl1] = laws_toStoredS.l3 k xl0 (fun (zl1 : List T_impl_Stored) => K (.exit 0) (stOf [(3, [some 1])] [.v (.sl 1)] [.rows 0 false xl0, .rows 1 true zl1])) n x2 xl1
  | 0, _, _ => rfl
  | n + 1, x2, xl1 => (show loopN 1 (Code.den ti (laws_toStoredS.Γ k) (laws_toStoredS.LH k) (loopAt Try.f18 0)) [(0, [some 0]), (3, [some 1]), (4, [])] [(3, [some 1])] K (n + 1) [.v (.sl 0), .v (.sl 1), .v (.int .i64 x2)] [.rows 0 false xl0, .rows 1 true xl1] = laws_toStoredS.L3 k xl0 (fun (zl1 : List T_impl_Stored) => K (.exit 0) (stOf [(3, [some 1])] [.v (.sl 1)] [.rows 0 false xl0, .rows 1 true zl1])) (fun (x2' : Int) (xl1' : List T_impl_Stored) => loopN 1 (Code.den ti (laws_toStoredS.Γ k) (laws_toStoredS.LH k) (loopAt Try.f18 0)) [(0, [some 0]), (3, [some 1]), (4, [])] [(3, [some 1])] K n [.v (.sl 0), .v (.sl 1), .v (.int .i64 x2')] [.rows 0 false xl0, .rows 1 true xl1']) x2 xl1 by kernel_rfl).trans (congrArg (fun rec => laws_toStoredS.L3 k xl0 (fun (zl1 : List T_impl_Stored) => K (.exit 0) (stOf [(3, [some 1])] [.v (.sl 1)] [.rows 0 false xl0, .rows 1 true zl1])) rec x2 xl1) (funext fun x2' => funext fun xl1' => laws_toStoredS.e3 K k xl0 n x2' xl1'))
theorem laws_toStoredS.q3 (k : Nat) {R : Type} (K : Ex → St κ → Option R) (vs : List AV) (bs : List (Blk κ)) (r : R) (h : laws_toStoredS.h3 k K vs bs = some r) : ∃ n, loopN 1 (Code.den ti (laws_toStoredS.Γ k) (laws_toStoredS.LH k) (loopAt Try.f18 0)) [(0, [some 0]), (3, [some 1]), (4, [])] [(3, [some 1])] K n vs bs = some r := by
  unfold laws_toStoredS.h3 at h
  split at h
  · obtain ⟨_, rfl, h_1⟩ := asO_bind h
    obtain ⟨_, rfl, h_2⟩ := asO_bind h_1
    exact ⟨k, (laws_toStoredS.e3 K k _ k _ _).trans h_2⟩
  · cases h
theorem laws_toStoredS.lok (k : Nat) : LOK ti (laws_toStoredS.Γ k) (laws_toStoredS.LH k) 1 (loopsOf (bodyOf Try.f18)) :=
  (show loopsOf (bodyOf Try.f18) = [loopAt Try.f18 0] by kernel_rfl) ▸ (LOK_cons (g := ⟨1, [(0, [some 0]), (3, [some 1]), (4, [])], [(3, [some 1])], @laws_toStoredS.h3 k⟩) (by kernel_rfl) rfl (fun K vs xs r h => laws_toStoredS.q3 k K vs xs r h) (LOK_nil))
def laws_toStoredS.sig : List PSh := [.one (.ro 0)]
def laws_toStoredS.g (y : List T_impl_Stored) : Ret κ := ⟨.v (.sl 1), [], [.rows 1 true y]⟩
def laws_toStoredS.out (r : Ret κ) : Option (List T_impl_Stored) :=
  match r with
  | ⟨.v (.sl 1), [], [q0]⟩ => (asO 1 true q0).bind fun z0 => some (z0)
  | _ => none
theorem laws_toStoredS.out_ok (r : Ret κ) (y : List T_impl_Stored) (h : laws_toStoredS.out r = some y) : r = laws_toStoredS.g y := by
  unfold laws_toStoredS.out at h
  split at h
  · obtain ⟨_, rfl, h_1⟩ := asO_bind h
    obtain rfl := Option.some.inj h_1
    rfl
  · cases h
def laws_toStoredS.body (k : Nat) (vs : List AV) (bs : List (Blk κ)) : Option (Lf κ) :=
  match vs, bs with
  | [.v (.sl 0)], [qb0] => (asO 0 false qb0).bind fun a0 => some ⟨List T_impl_Stored, laws_toStoredS.f k a0, laws_toStoredS.g⟩
  | _, _ => none
def laws_toStoredS.C (k : Nat) : Nat → List AV → AP κ AV := contract laws_toStoredS.sig (laws_toStoredS.body k)
theorem laws_toStoredS.den (k : Nat) (a0 : List T_laws_Stored) : Code.den ti (laws_toStoredS.Γ k) (laws_toStoredS.LH k) (bodyOf Try.f18) (finK ti Try.f18.results.toList [(2, [some 1])] (flags laws_toStoredS.sig).length (rwI (flags laws_toStoredS.sig) 0) laws_toStoredS.out) ⟨envOf (([.v (.sl 0)]).zipIdx.map fun q => (q.2, q.1)), hpOf [.rows 0 false a0], (flags laws_toStoredS.sig).length⟩ = laws_toStoredS.f k a0 := by kernel_rfl
theorem laws_toStoredS.ok (k : Nat) : CSound Try.prog 18 (laws_toStoredS.C k) :=
  csound κ_ok mixed tok (laws_toStoredS.hΓ k) (LH := laws_toStoredS.LH k) (fn := Try.f18) (c := bodyOf Try.f18) Try.func18 rfl Try.call18 laws_toStoredS.sig [(2, [some 1])] (laws_toStoredS.body k) (by kernel_rfl) (laws_toStoredS.lok k) (by decide) fun vs bs lf y hl hb hy => by
    unfold laws_toStoredS.body at hb
    split at hb
    · obtain ⟨_, rfl, hb_1⟩ := asO_bind hb
      obtain rfl := Option.some.inj hb_1
      exact ⟨laws_toStoredS.out, laws_toStoredS.out_ok, (laws_toStoredS.den k _).trans hy⟩
    · cases hb
/-! ### spec_l1In -/
def spec_l1In.f (k : Nat) (a0 : Int) (a1 : Int) (a2 : Int) : Option Bool :=
  (bif decide (a0 ≥ a1) then some (decide (a0 ≤ a2)) else some false)
def spec_l1In.Γ (k : Nat) : Ct κ := assoc []
def spec_l1In.LH (k : Nat) : Nat → Option (LHi κ) := assoc []
theorem spec_l1In.hΓ (k : Nat) : ∀ f g, spec_l1In.Γ k f = some g → CSound Try.prog f g := G_nil
theorem spec_l1In.lok (k : Nat) : LOK ti (spec_l1In.Γ k) (spec_l1In.LH k) 0 (loopsOf (bodyOf Try.f66)) :=
  (show loopsOf (bodyOf Try.f66) = [] by kernel_rfl) ▸ LOK_nil
def spec_l1In.sig : List PSh := [.one .sc, .one .sc, .one .sc]
def spec_l1In.g (y : Bool) : Ret κ := ⟨.v (.bool y), [], []⟩
def spec_l1In.out (r : Ret κ) : Option Bool :=
  match r with
  | ⟨.v (.bool z0), [], []⟩ => some (z0)
  | _ => none
theorem spec_l1In.out_ok (r : Ret κ) (y : Bool) (h : spec_l1In.out r = some y) : r = spec_l1In.g y := by
  unfold spec_l1In.out at h
  split at h
  · obtain rfl := Option.some.inj h
    rfl
  · cases h
def spec_l1In.body (k : Nat) (vs : List AV) (bs : List (Blk κ)) : Option (Lf κ) :=
  match vs, bs with
  | [.v (.int .i64 a0), .v (.int .i64 a1), .v (.int .i64 a2)], [] => some ⟨Bool, spec_l1In.f k a0 a1 a2, spec_l1In.g⟩
  | _, _ => none
def spec_l1In.C (k : Nat) : Nat → List AV → AP κ AV := contract spec_l1In.sig (spec_l1In.body k)
theorem spec_l1In.den (k : Nat) (a0 : Int) (a1 : Int) (a2 : Int) : Code.den ti (spec_l1In.Γ k) (spec_l1In.LH k) (bodyOf Try.f66) (finK ti Try.f66.results.toList [] (flags spec_l1In.sig).length (rwI (flags spec_l1In.sig) 0) spec_l1In.out) ⟨envOf (([.v (.int .i64 a0), .v (.int .i64 a1), .v (.int .i64 a2)]).zipIdx.map fun q => (q.2, q.1)), hpOf [], (flags spec_l1In.sig).length⟩ = spec_l1In.f k a0 a1 a2 := by kernel_rfl
theorem spec_l1In.ok (k : Nat) : CSound Try.prog 66 (spec_l1In.C k) :=
  csound κ_ok mixed tok (spec_l1In.hΓ k) (LH := spec_l1In.LH k) (fn := Try.f66) (c := bodyOf Try.f66) Try.func66 rfl Try.call66 spec_l1In.sig [] (spec_l1In.body k) (by kernel_rfl) (spec_l1In.lok k) (by decide) fun vs bs lf y hl hb hy => by
    unfold spec_l1In.body at hb
    split at hb
    · obtain rfl := Option.some.inj hb
      exact ⟨spec_l1In.out, spec_l1In.out_ok, (spec_l1In.den k _ _ _).trans hy⟩
    · cases hb
/-! ### spec_l24Less -/
def spec_l24Less.f (k : Nat) (a0_0 : Int) (a0_1 : Int) (a0_2 : Int) (a0_3 : Int) (a1_0 : Int) (a1_1 : Int) (a1_2 : Int) (a1_3 : Int) : Option Bool :=
  (bif decide (a0_0 < a1_0) then some true else (bif (a0_0 == a1_0) then some (decide (a0_1 < a1_1)) else some false))
def spec_l24Less.Γ (k : Nat) : Ct κ := assoc []
def spec_l24Less.LH (k : Nat) : Nat → Option (LHi κ) := assoc []
theorem spec_l24Less.hΓ (k : Nat) : ∀ f g, spec_l24Less.Γ k f = some g → CSound Try.prog f g := G_nil
theorem spec_l24Less.lok (k : Nat) : LOK ti (spec_l24Less.Γ k) (spec_l24Less.LH k) 0 (loopsOf (bodyOf Try.f67)) :=
  (show loopsOf (bodyOf Try.f67) = [] by kernel_rfl) ▸ LOK_nil
def spec_l24Less.sig : List PSh := [.agg [.sc, .sc, .sc, .sc], .agg [.sc, .sc, .sc, .sc]]
def spec_l24Less.g (y : Bool) : Ret κ := ⟨.v (.bool y), [], []⟩
def spec_l24Less.out (r : Ret κ) : Option Bool :=
  match r with
  | ⟨.v (.bool z0), [], []⟩ => some (z0)
  | _ => none
theorem spec_l24Less.out_ok (r : Ret κ) (y : Bool) (h : spec_l24Less.out r = some y) : r = spec_l24Less.g y := by
  unfold spec_l24Less.out at h
  split at h
  · obtain rfl := Option.some.inj h
    rfl
  · cases h
def spec_l24Less.body (k : Nat) (vs : List AV) (bs : List (Blk κ)) : Option (Lf κ) :=
  match vs, bs with
  | [.agg [.int .i64 a0_0, .int .i64 a0_1, .int .i64 a0_2, .int .i64 a0_3], .agg [.int .i64 a1_0, .int .i64 a1_1, .int .i64 a1_2, .int .i64 a1_3]], [] => some ⟨Bool, spec_l24Less.f k a0_0 a0_1 a0_2 a0_3 a1_0 a1_1 a1_2 a1_3, spec_l24Less.g⟩
  | _, _ => none
def spec_l24Less.C (k : Nat) : Nat → List AV → AP κ AV := contract spec_l24Less.sig (spec_l24Less.body k)
theorem spec_l24Less.den (k : Nat) (a0_0 : Int) (a0_1 : Int) (a0_2 : Int) (a0_3 : Int) (a1_0 : Int) (a1_1 : Int) (a1_2 : Int) (a1_3 : Int) : Code.den ti (spec_l24Less.Γ k) (spec_l24Less.LH k) (bodyOf Try.f67) (finK ti Try.f67.results.toList [] (flags spec_l24Less.sig).length (rwI (flags spec_l24Less.sig) 0) spec_l24Less.out) ⟨envOf (([.agg [.int .i64 a0_0, .int .i64 a0_1, .int .i64 a0_2, .int .i64 a0_3], .agg [.int .i64 a1_0, .int .i64 a1_1, .int .i64 a1_2, .int .i64 a1_3]]).zipIdx.map fun q => (q.2, q.1)), hpOf [], (flags spec_l24Less.sig).length⟩ = spec_l24Less.f k a0_0 a0_1 a0_2 a0_3 a1_0 a1_1 a1_2 a1_3 := by kernel_rfl
theorem spec_l24Less.ok (k : Nat) : CSound Try.prog 67 (spec_l24Less.C k) :=
  csound κ_ok mixed tok (spec_l24Less.hΓ k) (LH := spec_l24Less.LH k) (fn := Try.f67) (c := bodyOf Try.f67) Try.func67 rfl Try.call67 spec_l24Less.sig [] (spec_l24Less.body k) (by kernel_rfl) (spec_l24Less.lok k) (by decide) fun vs bs lf y hl hb hy => by
    unfold spec_l24Less.body at hb
    split at hb
    · obtain rfl := Option.some.inj hb
      exact ⟨spec_l24Less.out, spec_l24Less.out_ok, (spec_l24Less.den k _ _ _ _ _ _ _ _).trans hy⟩
    · cases hb
/-! ### spec_IsStore -/
def spec_IsStore.L2 {R : Type} (k : Nat) (xl0 : List T_impl_Stored) (X0 : Bool → Option R) (X1 : Unit → Option R) (rec : Int → Option R) (x1 : Int) : Option R :=
  (bif decide (x1 < (xl0.length : Int)) then (bif decide (0 ≤ x1) then (bif decide (x1 < (xl0.length : Int)) then (spec_l1In.f k ((rd_impl_Stored xl0 x1).f0) (1 : Int) (5 : Int)).bind fun t1 => (bif !t1 then (X0 false) else (spec_l1In.f k ((rd_impl_Stored xl0 x1).f1) (0 : Int) (9 : Int)).bind fun t2 => (bif !t2 then (X0 false) else (spec_l1In.f k ((rd_impl_Stored xl0 x1).f2) (0 : Int) (999 : Int)).bind fun t3 => (bif !t3 then (X0 false) else (spec_l1In.f k ((rd_impl_Stored xl0 x1).f3) (1 : Int) (999 : Int)).bind fun t4 => (bif !t4 then (X0 false) else (bif decide (x1 > (0 : Int)) then (bif decide (0 ≤ (w64 (x1 - (1 : Int)))) then (bif decide ((w64 (x1 - (1 : Int))) < (xl0.length : Int)) then (spec_l24Less.f k ((rd_impl_Stored xl0 (w64 (x1 - (1 : Int)))).f0) ((rd_impl_Stored xl0 (w64 (x1 - (1 : Int)))).f1) ((rd_impl_Stored xl0 (w64 (x1 - (1 : Int)))).f2) ((rd_impl_Stored xl0 (w64 (x1 - (1 : Int)))).f3) ((rd_impl_Stored xl0 x1).f0) ((rd_impl_Stored xl0 x1).f1) ((rd_impl_Stored xl0 x1).f2) ((rd_impl_Stored xl0 x1).f3)).bind fun t5 => (bif !t5 then (X0 false) else (rec (w64 (x1 + (1 : Int))))) else none) else none) else (rec (w64 (x1 + (1 : Int))))))))) else none) else none) else (X1 ()))
def spec_IsStore.l2 {R : Type} (k : Nat) (xl0 : List T_impl_Stored) (X0 : Bool → Option R) (X1 : Unit → Option R) : Nat → Int → Option R
  | 0 => fun _ => none
  | n + 1 => spec_IsStore.L2 k xl0 X0 X1 (spec_IsStore.l2 k xl0 X0 X1 n)
def spec_IsStore.f (k : Nat) (a0 : List T_impl_Stored) : Option Bool :=
  (spec_IsStore.l2 k a0 (fun (y6 : Bool) => some y6) (fun (_ : Unit) => some (decide ((a0.length : Int) ≤ (24 : Int)))) k (0 : Int))
def spec_IsStore.h2 (k : Nat) {R : Type} (K : Ex → St κ → Option R) (vs : List AV) (bs : List (Blk κ)) : Option R :=
  match vs, bs with
  | [.v (.sl 0), .v (.int .i64 x1)], [qb0] => (asO 1 false qb0).bind fun xl0 => spec_IsStore.l2 k xl0 (fun (z1 : Bool) => K .ret (stOf [(0, [some 1]), (2, [])] [.v (.sl 0), .v (.bool z1)] [.rows 1 false xl0])) (fun (_ : Unit) => K (.exit 0) (stOf [(0, [some 1]), (2, [])] [.v (.sl 0), .v .any] [.rows 1 false xl0])) k x1
  | _, _ => none
def spec_IsStore.Γ (k : Nat) : Ct κ := assoc [(66, spec_l1In.C k), (67, spec_l24Less.C k)]
def spec_IsStore.LH (k : Nat) : Nat → Option (LHi κ) := assoc [(2, ⟨1, [(0, [some 1]), (3, [])], [(0, [some 1]), (2, [])], @spec_IsStore.h2 k⟩)]
theorem spec_IsStore.hΓ (k : Nat) : ∀ f g, spec_IsStore.Γ k f = some g → CSound Try.prog f g := G_cons (spec_l1In.ok k) (G_cons (spec_l24Less.ok k) G_nil)
theorem spec_IsStore.e2 {R : Type} (K : Ex → St κ → Option R) (k : Nat) (xl0 : List T_impl_Stored) : ∀ (n : Nat) (x1 : Int), loopN 1 (Code.den ti (spec_IsStore.Γ k) (spec_IsStore.LH k) (loopAt Try.f45 0)) [(0, [some 1]), (3, [])] [(0, [some 1]), (2, [])] K n [.v (.sl 0), .v (.int .i64 x1)] [.rows 1 false xl0] = spec_IsStore.l2 k xl0 (fun (z1 : Bool) => K .ret (stOf [(0, [some 1]), (2, [])] [.v (.sl 0), .v (.bool z1)] [.rows 1 false xl0])) (fun (_ : Unit) => K (.exit 0) (stOf [(0, [some 1]), (2, [])] [.v (.sl 0), .v .any] [.rows 1 false xl0])) n x1
  | 0, _ => rfl
  | n + 1, x1 => (show loopN 1 (Code.den ti (spec_IsStore.Γ k) (spec_IsStore.LH k) (loopAt Try.f45 0)) [(0, [some 1]), (3, [])] [(0, [some 1]), (2, [])] K (n + 1) [.v (.sl 0), .v (.int .i64 x1)] [.rows 1 false xl0] = spec_IsStore.L2 k xl0 (fun (z1 : Bool) => K .ret (stOf [(0, [some 1]), (2, [])] [.v (.sl 0), .v (.bool z1)] [.rows 1 false xl0])) (fun (_ : Unit) => K (.exit 0) (stOf [(0, [some 1]), (2, [])] [.v (.sl 0), .v .any] [.rows 1 false xl0])) (fun (x1' : Int) => loopN 1 (Code.den ti (spec_IsStore.Γ k) (spec_IsStore.LH k) (loopAt Try.f45 0)) [(0, [some 1]), (3, [])] [(0, [some 1]), (2, [])] K n [.v (.sl 0), .v (.int .i64 x1')] [.rows 1 false xl0]) x1 by kernel_rfl).trans (congrArg (fun rec => spec_IsStore.L2 k xl0 (fun (z1 : Bool) => K .ret (stOf [(0, [some 1]), (2, [])] [.v (.sl 0), .v (.bool z1)] [.rows 1 false xl0])) (fun (_ : Unit) => K (.exit 0) (stOf [(0, [some 1]), (2, [])] [.v (.sl 0), .v .any] [.rows 1 false xl0])) rec x1) (funext fun x1' => spec_IsStore.e2 K k xl0 n x1'))
theorem spec_IsStore.q2 (k : Nat) {R : Type} (K : Ex → St κ → Option R) (vs : List AV) (bs : List (Blk κ)) (r : R) (h : spec_IsStore.h2 k K vs bs = some r) : ∃ n, loopN 1 (Code.den ti (spec_IsStore.Γ k) (spec_IsStore.LH k) (loopAt Try.f45 0)) [(0, [some 1]), (3, [])] [(0, [some 1]), (2, [])] K n vs bs = some r := by
  unfold spec_IsStore.h2 at h
  split at h
  · obtain ⟨_, rfl, h_1⟩ := asO_bind h
    exact ⟨k, (spec_IsStore.e2 K k _ k _).trans h_1⟩
  · cases h
theorem spec_IsStore.lok (k : Nat) : LOK ti (spec_IsStore.Γ k) (spec_IsStore.LH k) 1 (loopsOf (bodyOf Try.f45)) :=
  (show loopsOf (bodyOf Try.f45) = [loopAt Try.f45 0] by kernel_rfl) ▸ (LOK_cons (g := ⟨1, [(0, [some 1]), (3, [])], [(0, [some 1]), (2, [])], @spec_IsStore.h2 k⟩) (by kernel_rfl) rfl (fun K vs xs r h => spec_IsStore.q2 k K vs xs r h) (LOK_nil))
def spec_IsStore.sig : List PSh := [.one (.ro 1)]
def spec_IsStore.g (y : Bool) : Ret κ := ⟨.v (.bool y), [], []⟩
def spec_IsStore.out (r : Ret κ) : Option Bool :=
  match r with
  | ⟨.v (.bool z0), [], []⟩ => some (z0)
  | _ => none
theorem spec_IsStore.out_ok (r : Ret κ) (y : Bool) (h : spec_IsStore.out r = some y) : r = spec_IsStore.g y := by
  unfold spec_IsStore.out at h
  split at h
  · obtain rfl := Option.some.inj h
    rfl
  · cases h
def spec_IsStore.body (k : Nat) (vs : List AV) (bs : List (Blk κ)) : Option (Lf κ) :=
  match vs, bs with
  | [.v (.sl 0)], [qb0] => (asO 1 false qb0).bind fun a0 => some ⟨Bool, spec_IsStore.f k a0, spec_IsStore.g⟩
  | _, _ => none
def spec_IsStore.C (k : Nat) : Nat → List AV → AP κ AV := contract spec_IsStore.sig (spec_IsStore.body k)
theorem spec_IsStore.den (k : Nat) (a0 : List T_impl_Stored) : Code.den ti (spec_IsStore.Γ k) (spec_IsStore.LH k) (bodyOf Try.f45) (finK ti Try.f45.results.toList [] (flags spec_IsStore.sig).length (rwI (flags spec_IsStore.sig) 0) spec_IsStore.out) ⟨envOf (([.v (.sl 0)]).zipIdx.map fun q => (q.2, q.1)), hpOf [.rows 1 false a0], (flags spec_IsStore.sig).length⟩ = spec_IsStore.f k a0 := by kernel_rfl
theorem spec_IsStore.ok (k : Nat) : CSound Try.prog 45 (spec_IsStore.C k) :=
  csound κ_ok mixed tok (spec_IsStore.hΓ k) (LH := spec_IsStore.LH k) (fn := Try.f45) (c := bodyOf Try.f45) Try.func45 rfl Try.call45 spec_IsStore.sig [] (spec_IsStore.body k) (by kernel_rfl) (spec_IsStore.lok k) (by decide) fun vs bs lf y hl hb hy => by
    unfold spec_IsStore.body at hb
    split at hb
    · obtain ⟨_, rfl, hb_1⟩ := asO_bind hb
      obtain rfl := Option.some.inj hb_1
      exact ⟨spec_IsStore.out, spec_IsStore.out_ok, (spec_IsStore.den k _).trans hy⟩
    · cases hb
/-! ### spec_l24Find -/
def spec_l24Find.L2 {R : Type} (k : Nat) (x1 : Int) (x2 : Int) (xl0 : List T_impl_Stored) (X0 : Int → Option R) (X1 : Unit → Option R) (rec : Int → Option R) (x3 : Int) : Option R :=
  (bif decide (x3 < (xl0.length : Int)) then (bif decide (0 ≤ x3) then (bif decide (x3 < (xl0.length : Int)) then (bif ((rd_impl_Stored xl0 x3).f0 == x1) then (bif decide (0 ≤ x3) then (bif decide (x3 < (xl0.length : Int)) then (bif ((rd_impl_Stored xl0 x3).f1 == x2) then (X0 x3) else (rec (w64 (x3 + (1 : Int))))) else none) else none) else (rec (w64 (x3 + (1 : Int))))) else none) else none) else (X1 ()))
def spec_l24Find.l2 {R : Type} (k : Nat) (x1 : Int) (x2 : Int) (xl0 : List T_impl_Stored) (X0 : Int → Option R) (X1 : Unit → Option R) : Nat → Int → Option R
  | 0 => fun _ => none
  | n + 1 => spec_l24Find.L2 k x1 x2 xl0 X0 X1 (spec_l24Find.l2 k x1 x2 xl0 X0 X1 n)
def spec_l24Find.f (k : Nat) (a0 : List T_impl_Stored) (a1 : Int) (a2 : Int) : Option Int :=
  (spec_l24Find.l2 k a1 a2 a0 (fun (y1 : Int) => some y1) (fun (_ : Unit) => some (-1 : Int)) k (0 : Int))
def spec_l24Find.h2 (k : Nat) {R : Type} (K : Ex → St κ → Option R) (vs : List AV) (bs : List (Blk κ)) : Option R :=
  match vs, bs with
  | [.v (.sl 0), .v (.int .i64 x1), .v (.int .i64 x2), .v (.int .i64 x3)], [qb0] => (asO 1 false qb0).bind fun xl0 => spec_l24Find.l2 k x1 x2 xl0 (fun (z0 : Int) => K .ret (stOf [(6, [])] [.v (.int .i64 z0)] [.rows 1 false xl0])) (fun (_ : Unit) => K (.exit 0) (stOf [(6, [])] [.v .any] [.rows 1 false xl0])) k x3
  | _, _ => none
def spec_l24Find.Γ (k : Nat) : Ct κ := assoc []
def spec_l24Find.LH (k : Nat) : Nat → Option (LHi κ) := assoc [(2, ⟨1, [(0, [some 1]), (1, []), (2, []), (7, [])], [(6, [])], @spec_l24Find.h2 k⟩)]
theorem spec_l24Find.hΓ (k : Nat) : ∀ f g, spec_l24Find.Γ k f = some g → CSound Try.prog f g := G_nil
theorem spec_l24Find.e2 {R : Type} (K : Ex → St κ → Option R) (k : Nat) (x1 : Int) (x2 : Int) (xl0 : List T_impl_Stored) : ∀ (n : Nat) (x3 : Int), loopN 1 (Code.den ti (spec_l24Find.Γ k) (spec_l24Find.LH k) (loopAt Try.f46 0)) [(0, [some 1]), (1, []), (2, []), (7, [])] [(6, [])] K n [.v (.sl 0), .v (.int .i64 x1), .v (.int .i64 x2), .v (.int .i64 x3)] [.rows 1 false xl0] = spec_l24Find.l2 k x1 x2 xl0 (fun (z0 : Int) => K .ret (stOf [(6, [])] [.v (.int .i64 z0)] [.rows 1 false xl0])) (fun (_ : Unit) => K (.exit 0) (stOf [(6, [])] [.v .any] [.rows 1 false xl0])) n x3
  | 0, _ => rfl
  | n + 1, x3 => (show loopN 1 (Code.den ti (spec_l24Find.Γ k) (spec_l24Find.LH k) (loopAt Try.f46 0)) [(0, [some 1]), (1, []), (2, []), (7, [])] [(6, [])] K (n + 1) [.v (.sl 0), .v (.int .i64 x1), .v (.int .i64 x2), .v (.int .i64 x3)] [.rows 1 false xl0] = spec_l24Find.L2 k x1 x2 xl0 (fun (z0 : Int) => K .ret (stOf [(6, [])] [.v (.int .i64 z0)] [.rows 1 false xl0])) (fun (_ : Unit) => K (.exit 0) (stOf [(6, [])] [.v .any] [.rows 1 false xl0])) (fun (x3' : Int) => loopN 1 (Code.den ti (spec_l24Find.Γ k) (spec_l24Find.LH k) (loopAt Try.f46 0)) [(0, [some 1]), (1, []), (2, []), (7, [])] [(6, [])] K n [.v (.sl 0), .v (.int .i64 x1), .v (.int .i64 x2), .v (.int .i64 x3')] [.rows 1 false xl0]) x3 by kernel_rfl).trans (congrArg (fun rec => spec_l24Find.L2 k x1 x2 xl0 (fun (z0 : Int) => K .ret (stOf [(6, [])] [.v (.int .i64 z0)] [.rows 1 false xl0])) (fun (_ : Unit) => K (.exit 0) (stOf [(6, [])] [.v .any] [.rows 1 false xl0])) rec x3) (funext fun x3' => spec_l24Find.e2 K k x1 x2 xl0 n x3'))
theorem spec_l24Find.q2 (k : Nat) {R : Type} (K : Ex → St κ → Option R) (vs : List AV) (bs : List (Blk κ)) (r : R) (h : spec_l24Find.h2 k K vs bs = some r) : ∃ n, loopN 1 (Code.den ti (spec_l24Find.Γ k) (spec_l24Find.LH k) (loopAt Try.f46 0)) [(0, [some 1]), (1, []), (2, []), (7, [])] [(6, [])] K n vs bs = some r := by
  unfold spec_l24Find.h2 at h
  split at h
  · obtain ⟨_, rfl, h_1⟩ := asO_bind h
    exact ⟨k, (spec_l24Find.e2 K k _ _ _ k _).trans h_1⟩
  · cases h
theorem spec_l24Find.lok (k : Nat) : LOK ti (spec_l24Find.Γ k) (spec_l24Find.LH k) 1 (loopsOf (bodyOf Try.f46)) :=
  (show loopsOf (bodyOf Try.f46) = [loopAt Try.f46 0] by kernel_rfl) ▸ (LOK_cons (g := ⟨1, [(0, [some 1]), (1, []), (2, []), (7, [])], [(6, [])], @spec_l24Find.h2 k⟩) (by kernel_rfl) rfl (fun K vs xs r h => spec_l24Find.q2 k K vs xs r h) (LOK_nil))
def spec_l24Find.sig : List PSh := [.one (.ro 1), .one .sc, .one .sc]
def spec_l24Find.g (y : Int) : Ret κ := ⟨.v (.int .i64 y), [], []⟩
def spec_l24Find.out (r : Ret κ) : Option Int :=
  match r with
  | ⟨.v (.int .i64 z0), [], []⟩ => some (z0)
  | _ => none
theorem spec_l24Find.out_ok (r : Ret κ) (y : Int) (h : spec_l24Find.out r = some y) : r = spec_l24Find.g y := by
  unfold spec_l24Find.out at h
  split at h
  · obtain rfl := Option.some.inj h
    rfl
  · cases h
def spec_l24Find.body (k : Nat) (vs : List AV) (bs : List (Blk κ)) : Option (Lf κ) :=
  match vs, bs with
  | [.v (.sl 0), .v (.int .i64 a1), .v (.int .i64 a2)], [qb0] => (asO 1 false qb0).bind fun a0 => some ⟨Int, spec_l24Find.f k a0 a1 a2, spec_l24Find.g⟩
  | _, _ => none
def spec_l24Find.C (k : Nat) : Nat → List AV → AP κ AV := contract spec_l24Find.sig (spec_l24Find.body k)
theorem spec_l24Find.den (k : Nat) (a0 : List T_impl_Stored) (a1 : Int) (a2 : Int) : Code.den ti (spec_l24Find.Γ k) (spec_l24Find.LH k) (bodyOf Try.f46) (finK ti Try.f46.results.toList [] (flags spec_l24Find.sig).length (rwI (flags spec_l24Find.sig) 0) spec_l24Find.out) ⟨envOf (([.v (.sl 0), .v (.int .i64 a1), .v (.int .i64 a2)]).zipIdx.map fun q => (q.2, q.1)), hpOf [.rows 1 false a0], (flags spec_l24Find.sig).length⟩ = spec_l24Find.f k a0 a1 a2 := by kernel_rfl
theorem spec_l24Find.ok (k : Nat) : CSound Try.prog 46 (spec_l24Find.C k) :=
  csound κ_ok mixed tok (spec_l24Find.hΓ k) (LH := spec_l24Find.LH k) (fn := Try.f46) (c := bodyOf Try.f46) Try.func46 rfl Try.call46 spec_l24Find.sig [] (spec_l24Find.body k) (by kernel_rfl) (spec_l24Find.lok k) (by decide) fun vs bs lf y hl hb hy => by
    unfold spec_l24Find.body at hb
    split at hb
    · obtain ⟨_, rfl, hb_1⟩ := asO_bind hb
      obtain rfl := Option.some.inj hb_1
      exact ⟨spec_l24Find.out, spec_l24Find.out_ok, (spec_l24Find.den k _ _ _).trans hy⟩
    · cases hb
/-! ### spec_l24Set -/
def spec_l24Set.L3 {R : Type} (k : Nat) (xl0 : List T_impl_Stored) (xc1_0 : Int) (xc1_1 : Int) (xc1_2 : Int) (xc1_3 : Int) (X0 : Int → List T_impl_Stored → Option R) (rec : Int → List T_impl_Stored → Option R) (x3 : Int) (xl2 : List T_impl_Stored) : Option R :=
  (bif decide (x3 < (xl0.length : Int)) then (bif decide (0 ≤ x3) then (bif decide (x3 < (xl0.length : Int)) then (spec_l24Less.f k ((rd_impl_Stored xl0 x3).f0) ((rd_impl_Stored xl0 x3).f1) ((rd_impl_Stored xl0 x3).f2) ((rd_impl_Stored xl0 x3).f3) xc1_0 xc1_1 xc1_2 xc1_3).bind fun t1 => (bif t1 then (bif decide (0 ≤ x3) then (bif decide (x3 < (xl0.length : Int)) then (bif decide ((xl2.length + ([(⟨(rd_impl_Stored xl0 x3).f0, (rd_impl_Stored xl0 x3).f1, (rd_impl_Stored xl0 x3).f2, (rd_impl_Stored xl0 x3).f3⟩ : T_impl_Stored)] : List T_impl_Stored).length) * 32 ≤ cap48) then (let l2 : List T_impl_Stored := (xl2 ++ ([(⟨(rd_impl_Stored xl0 x3).f0, (rd_impl_Stored xl0 x3).f1, (rd_impl_Stored xl0 x3).f2, (rd_impl_Stored xl0 x3).f3⟩ : T_impl_Stored)] : List T_impl_Stored)); (rec (w64 (x3 + (1 : Int))) l2)) else none) else none) else none) else (X0 x3 xl2)) else none) else none) else (X0 x3 xl2))
def spec_l24Set.l3 {R : Type} (k : Nat) (xl0 : List T_impl_Stored) (xc1_0 : Int) (xc1_1 : Int) (xc1_2 : Int) (xc1_3 : Int) (X0 : Int → List T_impl_Stored → Option R) : Nat → Int → List T_impl_Stored → Option R
  | 0 => fun _ _ => none
  | n + 1 => spec_l24Set.L3 k xl0 xc1_0 xc1_1 xc1_2 xc1_3 X0 (spec_l24Set.l3 k xl0 xc1_0 xc1_1 xc1_2 xc1_3 X0 n)
def spec_l24Set.f (k : Nat) (a0 : List T_impl_Stored) (a1_0 : Int) (a1_1 : Int) (a1_2 : Int) (a1_3 : Int) : Option (List T_impl_Stored) :=
  (spec_l24Set.l3 k a0 a1_0 a1_1 a1_2 a1_3 (fun (y3 : Int) (y4 : List T_impl_Stored) => (bif decide ((y4.length + ([(⟨a1_0, a1_1, a1_2, a1_3⟩ : T_impl_Stored)] : List T_impl_Stored).length) * 32 ≤ cap48) then (let l5 : List T_impl_Stored := (y4 ++ ([(⟨a1_0, a1_1, a1_2, a1_3⟩ : T_impl_Stored)] : List T_impl_Stored)); (bif decide (y3 < (a0.length : Int)) then (bif decide (0 ≤ y3) then (bif decide (y3 < (a0.length : Int)) then (spec_l24Less.f k a1_0 a1_1 a1_2 a1_3 ((rd_impl_Stored a0 y3).f0) ((rd_impl_Stored a0 y3).f1) ((rd_impl_Stored a0 y3).f2) ((rd_impl_Stored a0 y3).f3)).bind fun t6 => (bif !t6 then (bif decide (0 ≤ (a0.length : Int)) then (bif decide ((a0.length : Int) ≤ (a0.length : Int)) then (bif decide (0 ≤ (w64 (y3 + (1 : Int)))) then (bif decide ((w64 (y3 + (1 : Int))) ≤ (a0.length : Int)) then (bif decide ((l5.length + ((a0.take ((a0.length : Int)).toNat).drop ((w64 (y3 + (1 : Int)))).toNat).length) * 32 ≤ cap48) then (let l7 : List T_impl_Stored := (l5 ++ ((a0.take ((a0.length : Int)).toNat).drop ((w64 (y3 + (1 : Int)))).toNat)); some l7) else none) else none) else none) else none) else none) else (bif decide (0 ≤ (a0.length : Int)) then (bif decide ((a0.length : Int) ≤ (a0.length : Int)) then (bif decide (0 ≤ y3) then (bif decide (y3 ≤ (a0.length : Int)) then (bif decide ((l5.length + ((a0.take ((a0.length : Int)).toNat).drop (y3).toNat).length) * 32 ≤ cap48) then (let l8 : List T_impl_Stored := (l5 ++ ((a0.take ((a0.length : Int)).toNat).drop (y3).toNat)); some l8) else none) else none) else none) else none) else none)) else none) else none) else (bif decide (0 ≤ (a0.length : Int)) then (bif decide ((a0.length : Int) ≤ (a0.length : Int)) then (bif decide (0 ≤ y3) then (bif decide (y3 ≤ (a0.length : Int)) then (bif decide ((l5.length + ((a0.take ((a0.length : Int)).toNat).drop (y3).toNat).length) * 32 ≤ cap48) then (let l9 : List T_impl_Stored := (l5 ++ ((a0.take ((a0.length : Int)).toNat).drop (y3).toNat)); some l9) else none) else none) else none) else none) else none))) else none)) k (0 : Int) ([] : List T_impl_Stored))
def spec_l24Set.h3 (k : Nat) {R : Type} (K : Ex → St κ → Option R) (vs : List AV) (bs : List (Blk κ)) : Option R :=
  match vs, bs with
  | [.v (.sl 0), .v (.ptr 1 0 0), .v (.sl 2), .v (.int .i64 x3)], [qb0, .cells 48 [.int .i64 xc1_0, .int .i64 xc1_1, .int .i64 xc1_2, .int .i64 xc1_3], qb2] => (asO 1 false qb0).bind fun xl0 => (asO 1 true qb2).bind fun xl2 => spec_l24Set.l3 k xl0 xc1_0 xc1_1 xc1_2 xc1_3 (fun (z3 : Int) (zl2 : List T_impl_Stored) => K (.exit 0) (stOf [(0, [some 1]), (3, []), (5, [some 1]), (6, [])] [.v (.sl 0), .v (.ptr 1 0 0), .v (.sl 2), .v (.int .i64 z3)] [.rows 1 false xl0, .cells 48 [.int .i64 xc1_0, .int .i64 xc1_1, .int .i64 xc1_2, .int .i64 xc1_3], .rows 1 true zl2])) k x3 xl2
  | _, _ => none
def spec_l24Set.Γ (k : Nat) : Ct κ := assoc [(67, spec_l24Less.C k)]
def spec_l24Set.LH (k : Nat) : Nat → Option (LHi κ) := assoc [(3, ⟨1, [(0, [some 1]), (3, []), (5, [some 1]), (6, [])], [(0, [some 1]), (3, []), (5, [some 1]), (6, [])], @spec_l24Set.h3 k⟩)]
theorem spec_l24Set.hΓ (k : Nat) : ∀ f g, spec_l24Set.Γ k f = some g → CSound Try.prog f g := G_cons (spec_l24Less.ok k) G_nil
theorem spec_l24Set.e3 {R : Type} (K : Ex → St κ → Option R) (k : Nat) (xl0 : List T_impl_Stored) (xc1_0 : Int) (xc1_1 : Int) (xc1_2 : Int) (xc1_3 : Int) : ∀ (n : Nat) (x3 : Int) (xl2 : List T_impl_Stored), loopN 1 (Code.den ti (spec_l24Set.Γ k) (spec_l24Set.LH k) (loopAt Try.f47 0)) [(0, [some 1]), (3, []), (5, [some 1]), (6, [])] [(0, [some 1]), (3, []), (5, [some 1]), (6, [])] K n [.v (.sl 0), .v (.ptr 1 0 0), .v (.sl 2), .v (.int .i64 x3)] [.rows 1 false xl0, .cells 48 [.int .i64 xc1_0, .int .i64 xc1_1, .int .i64 xc1_2, .int .i64 xc1_3], .rows 1 true xl2] = spec_l24Set.l3 k xl0 xc1_0 xc1_1 xc1_2 xc1_3 (fun (z3 : Int) (zl2 : List T_impl_Stored) => K (.exit 0) (stOf [(0, [some 1]), (3, []), (5, [some 1]), (6, [])] [.v (.sl 0), .v (.ptr 1 0 0), .v (.sl 2), .v (.int .i64 z3)] [.rows 1 false xl0, .cells 48 [.int .i64 xc1_0, .int .i64 xc1_1, .int .i64 xc1_2, .int .i64 xc1_3], .rows 1 true zl2])) n x3 xl2
  | 0, _, _ => rfl
  | n + 1, x3, xl2 => (show loopN 1 (Code.den ti (spec_l24Set.Γ k) (spec_l24Set.LH k) (loopAt Try.f47 0)) [(0, [some 1]), (3, []), (5, [some 1]), (6, [])] [(0, [some 1]), (3, []), (5, [some 1]), (6, [])] K (n + 1) [.v (.sl 0), .v (.ptr 1 0 0), .v (.sl 2), .v (.int .i64 x3)] [.rows 1 false xl0, .cells 48 [.int .i64 xc1_0, .int .i64 xc1_1, .int .i64 xc1_2, .int .i64 xc1_3], .rows 1 true xl2] = spec_l24Set.L3 k xl0 xc1_0 xc1_1 xc1_2 xc1_3 (fun (z3 : Int) (zl2 : List T_impl_Stored) => K (.exit 0) (stOf [(0, [some 1]), (3, []), (5, [some 1]), (6, [])] [.v (.sl 0), .v (.ptr 1 0 0), .v (.sl 2), .v (.int .i64 z3)] [.rows 1 false xl0, .cells 48 [.int .i64 xc1_0, .int .i64 xc1_1, .int .i64 xc1_2, .int .i64 xc1_3], .rows 1 true zl2])) (fun (x3' : Int) (xl2' : List T_impl_Stored) => loopN 1 (Code.den ti (spec_l24Set.Γ k) (spec_l24Set.LH k) (loopAt Try.f47 0)) [(0, [some 1]), (3, []), (5, [some 1]), (6, [])] [(0, [some 1]), (3, []), (5, [some 1]), (6, [])] K n [.v (.sl 0), .v (.ptr 1 0 0), .v (.sl 2), .v (.int .i64 x3')] [.rows 1 false xl0, .cells 48 [.int .i64 xc1_0, .int .i64 xc1_1, .int .i64 xc1_2, .int .i64 xc1_3], .rows 1 true xl2']) x3 xl2 by kernel_rfl).trans (congrArg (fun rec => spec_l24Set.L3 k xl0 xc1_0 xc1_1 xc1_2 xc1_3 (fun (z3 : Int) (zl2 : List T_impl_Stored) => K (.exit 0) (stOf [(0, [some 1]), (3, []), (5, [some 1]), (6, [])] [.v (.sl 0), .v (.ptr 1 0 0), .v (.sl 2), .v (.int .i64 z3)] [.rows 1 false xl0, .cells 48 [.int .i64 xc1_0, .int .i64 xc1_1, .int .i64 xc1_2, .int .i64 xc1_3], .rows 1 true zl2])) rec x3 xl2) (funext fun x3' => funext fun xl2' => spec_l24Set.e3 K k xl0 xc1_0 xc1_1 xc1_2 xc1_3 n x3' xl2'))
theorem spec_l24Set.q3 (k : Nat) {R : Type} (K : Ex → St κ → Option R) (vs : List AV) (bs : List (Blk κ)) (r : R) (h : spec_l24Set.h3 k K vs bs = some r) : ∃ n, loopN 1 (Code.den ti (spec_l24Set.Γ k) (spec_l24Set.LH k) (loopAt Try.f47 0)) [(0, [some 1]), (3, []), (5, [some 1]), (6, [])] [(0, [some 1]), (3, []), (5, [some 1]), (6, [])] K n vs bs = some r := by
  unfold spec_l24Set.h3 at h
  split at h
  · obtain ⟨_, rfl, h_1⟩ := asO_bind h
    obtain ⟨_, rfl, h_2⟩ := asO_bind h_1
    exact ⟨k, (spec_l24Set.e3 K k _ _ _ _ _ k _ _).trans h_2⟩
  · cases h
theorem spec_l24Set.lok (k : Nat) : LOK ti (spec_l24Set.Γ k) (spec_l24Set.LH k) 1 (loopsOf (bodyOf Try.f47)) :=
  (show loopsOf (bodyOf Try.f47) = [loopAt Try.f47 0] by kernel_rfl) ▸ (LOK_cons (g := ⟨1, [(0, [some 1]), (3, []), (5, [some 1]), (6, [])], [(0, [some 1]), (3, []), (5, [some 1]), (6, [])], @spec_l24Set.h3 k⟩) (by kernel_rfl) rfl (fun K vs xs r h => spec_l24Set.q3 k K vs xs r h) (LOK_nil))
def spec_l24Set.sig : List PSh := [.one (.ro 1), .agg [.sc, .sc, .sc, .sc]]
def spec_l24Set.g (y : List T_impl_Stored) : Ret κ := ⟨.v (.sl 1), [], [.rows 1 true y]⟩
def spec_l24Set.out (r : Ret κ) : Option (List T_impl_Stored) :=
  match r with
  | ⟨.v (.sl 1), [], [q0]⟩ => (asO 1 true q0).bind fun z0 => some (z0)
  | _ => none
theorem spec_l24Set.out_ok (r : Ret κ) (y : List T_impl_Stored) (h : spec_l24Set.out r = some y) : r = spec_l24Set.g y := by
  unfold spec_l24Set.out at h
  split at h
  · obtain ⟨_, rfl, h_1⟩ := asO_bind h
    obtain rfl := Option.some.inj h_1
    rfl
  · cases h
def spec_l24Set.body (k : Nat) (vs : List AV) (bs : List (Blk κ)) : Option (Lf κ) :=
  match vs, bs with
  | [.v (.sl 0), .agg [.int .i64 a1_0, .int .i64 a1_1, .int .i64 a1_2, .int .i64 a1_3]], [qb0] => (asO 1 false qb0).bind fun a0 => some ⟨List T_impl_Stored, spec_l24Set.f k a0 a1_0 a1_1 a1_2 a1_3, spec_l24Set.g⟩
  | _, _ => none
def spec_l24Set.C (k : Nat) : Nat → List AV → AP κ AV := contract spec_l24Set.sig (spec_l24Set.body k)
theorem spec_l24Set.den (k : Nat) (a0 : List T_impl_Stored) (a1_0 : Int) (a1_1 : Int) (a1_2 : Int) (a1_3 : Int) : Code.den ti (spec_l24Set.Γ k) (spec_l24Set.LH k) (bodyOf Try.f47) (finK ti Try.f47.results.toList [(4, [some 1])] (flags spec_l24Set.sig).length (rwI (flags spec_l24Set.sig) 0) spec_l24Set.out) ⟨envOf (([.v (.sl 0), .agg [.int .i64 a1_0, .int .i64 a1_1, .int .i64 a1_2, .int .i64 a1_3]]).zipIdx.map fun q => (q.2, q.1)), hpOf [.rows 1 false a0], (flags spec_l24Set.sig).length⟩ = spec_l24Set.f k a0 a1_0 a1_1 a1_2 a1_3 := by kernel_rfl
theorem spec_l24Set.ok (k : Nat) : CSound Try.prog 47 (spec_l24Set.C k) :=
  csound κ_ok mixed tok (spec_l24Set.hΓ k) (LH := spec_l24Set.LH k) (fn := Try.f47) (c := bodyOf Try.f47) Try.func47 rfl Try.call47 spec_l24Set.sig [(4, [some 1])] (spec_l24Set.body k) (by kernel_rfl) (spec_l24Set.lok k) (by decide) fun vs bs lf y hl hb hy => by
    unfold spec_l24Set.body at hb
    split at hb
    · obtain ⟨_, rfl, hb_1⟩ := asO_bind hb
      obtain rfl := Option.some.inj hb_1
      exact ⟨spec_l24Set.out, spec_l24Set.out_ok, (spec_l24Set.den k _ _ _ _ _).trans hy⟩
    · cases hb
/-! ### spec_MergeStores -/
def spec_MergeStores.L5 {R : Type} (k : Nat) (xl0 : List T_impl_Stored) (xl1 : List T_impl_Stored) (X0 : List T_impl_Stored → Option R) (rec : Int → List T_impl_Stored → Option R) (x2 : Int) (xl2 : List T_impl_Stored) : Option R :=
  (bif decide (x2 < (xl1.length : Int)) then (bif decide (0 ≤ x2) then (bif decide (x2 < (xl1.length : Int)) then (bif decide (0 ≤ x2) then (bif decide (x2 < (xl1.length : Int)) then (spec_l24Find.f k xl2 ((rd_impl_Stored xl1 x2).f0) ((rd_impl_Stored xl1 x2).f1)).bind fun t3 => (bif decide (t3 < (0 : Int)) then (bif decide (0 ≤ x2) then (bif decide (x2 < (xl1.length : Int)) then (spec_l24Set.f k xl2 ((rd_impl_Stored xl1 x2).f0) ((rd_impl_Stored xl1 x2).f1) ((rd_impl_Stored xl1 x2).f2) ((rd_impl_Stored xl1 x2).f3)).bind fun t4 => (rec (w64 (x2 + (1 : Int))) t4) else none) else none) else (bif decide (0 ≤ t3) then (bif decide (t3 < (xl2.length : Int)) then (bif decide (0 ≤ x2) then (bif decide (x2 < (xl1.length : Int)) then (bif decide ((rd_impl_Stored xl2 t3).f3 < (rd_impl_Stored xl1 x2).f3) then (bif decide (0 ≤ x2) then (bif decide (x2 < (xl1.length : Int)) then (spec_l24Set.f k xl2 ((rd_impl_Stored xl1 x2).f0) ((rd_impl_Stored xl1 x2).f1) ((rd_impl_Stored xl1 x2).f2) ((rd_impl_Stored xl1 x2).f3)).bind fun t5 => (rec (w64 (x2 + (1 : Int))) t5) else none) else none) else (bif decide (0 ≤ t3) then (bif decide (t3 < (xl2.length : Int)) then (bif decide (0 ≤ x2) then (bif decide (x2 < (xl1.length : Int)) then (bif ((rd_impl_Stored xl2 t3).f3 == (rd_impl_Stored xl1 x2).f3) then (bif decide (0 ≤ t3) then (bif decide (t3 < (xl2.length : Int)) then (bif decide (0 ≤ x2) then (bif decide (x2 < (xl1.length : Int)) then (bif decide ((rd_impl_Stored xl2 t3).f2 < (rd_impl_Stored xl1 x2).f2) then (bif decide (0 ≤ x2) then (bif decide (x2 < (xl1.length : Int)) then (spec_l24Set.f k xl2 ((rd_impl_Stored xl1 x2).f0) ((rd_impl_Stored xl1 x2).f1) ((rd_impl_Stored xl1 x2).f2) ((rd_impl_Stored xl1 x2).f3)).bind fun t6 => (rec (w64 (x2 + (1 : Int))) t6) else none) else none) else (rec (w64 (x2 + (1 : Int))) xl2)) else none) else none) else none) else none) else (rec (w64 (x2 + (1 : Int))) xl2)) else none) else none) else none) else none)) else none) else none) else none) else none)) else none) else none) else none) else none) else (X0 xl2))
def spec_MergeStores.l5 {R : Type} (k : Nat) (xl0 : List T_impl_Stored) (xl1 : List T_impl_Stored) (X0 : List T_impl_Stored → Option R) : Nat → Int → List T_impl_Stored → Option R
  | 0 => fun _ _ => none
  | n + 1 => spec_MergeStores.L5 k xl0 xl1 X0 (spec_MergeStores.l5 k xl0 xl1 X0 n)
def spec_MergeStores.f (k : Nat) (a0 : List T_impl_Stored) (a1 : List T_impl_Stored) : Option (Bool × List T_impl_Stored) :=
  (spec_IsStore.f k a0).bind fun t1 => (bif !t1 then some (false, ([] : List T_impl_Stored)) else (spec_IsStore.f k a1).bind fun t2 => (bif !t2 then some (false, ([] : List T_impl_Stored)) else (bif decide ((([] : List T_impl_Stored).length + a0.length) * 32 ≤ cap48) then (spec_MergeStores.l5 k a0 a1 (fun (y7 : List T_impl_Stored) => (spec_IsStore.f k y7).bind fun t8 => (bif !t8 then some (false, ([] : List T_impl_Stored)) else some (true, y7))) k (0 : Int) (([] : List T_impl_Stored) ++ a0)) else none)))
def spec_MergeStores.h5 (k : Nat) {R : Type} (K : Ex → St κ → Option R) (vs : List AV) (bs : List (Blk κ)) : Option R :=
  match vs, bs with
  | [.v (.sl 1), .v (.sl 2), .v (.int .i64 x2)], [qb0, qb1, qb2] => (asO 1 false qb0).bind fun xl0 => (asO 1 false qb1).bind fun xl1 => (asO 1 true qb2).bind fun xl2 => spec_MergeStores.l5 k xl0 xl1 (fun (zl2 : List T_impl_Stored) => K (.exit 0) (stOf [(6, [some 1])] [.v (.sl 2)] [.rows 1 false xl0, .rows 1 false xl1, .rows 1 true zl2])) k x2 xl2
  | _, _ => none
def spec_MergeStores.Γ (k : Nat) : Ct κ := assoc [(45, spec_IsStore.C k), (46, spec_l24Find.C k), (47, spec_l24Set.C k)]
def spec_MergeStores.LH (k : Nat) : Nat → Option (LHi κ) := assoc [(5, ⟨2, [(1, [some 1]), (6, [some 1]), (7, [])], [(6, [some 1])], @spec_MergeStores.h5 k⟩)]
theorem spec_MergeStores.hΓ (k : Nat) : ∀ f g, spec_MergeStores.Γ k f = some g → CSound Try.prog f g := G_cons (spec_IsStore.ok k) (G_cons (spec_l24Find.ok k) (G_cons (spec_l24Set.ok k) G_nil))
theorem spec_MergeStores.e5 {R : Type} (K : Ex → St κ → Option R) (k : Nat) (xl0 : List T_impl_Stored) (xl1 : List T_impl_Stored) : ∀ (n : Nat) (x2 : Int) (xl2 : List T_impl_Stored), loopN 2 (Code.den ti (spec_MergeStores.Γ k) (spec_MergeStores.LH k) (loopAt Try.f17 0)) [(1, [some 1]), (6, [some 1]), (7, [])] [(6, [some 1])] K n [.v (.sl 1), .v (.sl 2), .v (.int .i64 x2)] [.rows 1 false xl0, .rows 1 false xl1, .rows 1 true xl2] = spec_MergeStores.l5 k xl0 xl1 (fun (zl2 : List T_impl_Stored) => K (.exit 0) (stOf [(6, [some 1])] [.v (.sl 2)] [.rows 1 false xl0, .rows 1 false xl1, .rows 1 true zl2])) n x2 xl2
  | 0, _, _ => rfl
  | n + 1, x2, xl2 => (show loopN 2 (Code.den ti (spec_MergeStores.Γ k) (spec_MergeStores.LH k) (loopAt Try.f17 0)) [(1, [some 1]), (6, [some 1]), (7, [])] [(6, [some 1])] K (n + 1) [.v (.sl 1), .v (.sl 2), .v (.int .i64 x2)] [.rows 1 false xl0, .rows 1 false xl1, .rows 1 true xl2] = spec_MergeStores.L5 k xl0 xl1 (fun (zl2 : List T_impl_Stored) => K (.exit 0) (stOf [(6, [some 1])] [.v (.sl 2)] [.rows 1 false xl0, .rows 1 false xl1, .rows 1 true zl2])) (fun (x2' : Int) (xl2' : List T_impl_Stored) => loopN 2 (Code.den ti (spec_MergeStores.Γ k) (spec_MergeStores.LH k) (loopAt Try.f17 0)) [(1, [some 1]), (6, [some 1]), (7, [])] [(6, [some 1])] K n [.v (.sl 1), .v (.sl 2), .v (.int .i64 x2')] [.rows 1 false xl0, .rows 1 false xl1, .rows 1 true xl2']) x2 xl2 by kernel_rfl).trans (congrArg (fun rec => spec_MergeStores.L5 k xl0 xl1 (fun (zl2 : List T_impl_Stored) => K (.exit 0) (stOf [(6, [some 1])] [.v (.sl 2)] [.rows 1 false xl0, .rows 1 false xl1, .rows 1 true zl2])) rec x2 xl2) (funext fun x2' => funext fun xl2' => spec_MergeStores.e5 K k xl0 xl1 n x2' xl2'))
theorem spec_MergeStores.q5 (k : Nat) {R : Type} (K : Ex → St κ → Option R) (vs : List AV) (bs : List (Blk κ)) (r : R) (h : spec_MergeStores.h5 k K vs bs = some r) : ∃ n, loopN 2 (Code.den ti (spec_MergeStores.Γ k) (spec_MergeStores.LH k) (loopAt Try.f17 0)) [(1, [some 1]), (6, [some 1]), (7, [])] [(6, [some 1])] K n vs bs = some r := by
  unfold spec_MergeStores.h5 at h
  split at h
  · obtain ⟨_, rfl, h_1⟩ := asO_bind h
    obtain ⟨_, rfl, h_2⟩ := asO_bind h_1
    obtain ⟨_, rfl, h_3⟩ := asO_bind h_2
    exact ⟨k, (spec_MergeStores.e5 K k _ _ k _ _).trans h_3⟩
  · cases h
theorem spec_MergeStores.lok (k : Nat) : LOK ti (spec_MergeStores.Γ k) (spec_MergeStores.LH k) 2 (loopsOf (bodyOf Try.f17)) :=
  (show loopsOf (bodyOf Try.f17) = [loopAt Try.f17 0] by kernel_rfl) ▸ (LOK_cons (g := ⟨2, [(1, [some 1]), (6, [some 1]), (7, [])], [(6, [some 1])], @spec_MergeStores.h5 k⟩) (by kernel_rfl) rfl (fun K vs xs r h => spec_MergeStores.q5 k K vs xs r h) (LOK_nil))
def spec_MergeStores.sig : List PSh := [.one (.ro 1), .one (.ro 1)]
def spec_MergeStores.g (y : Bool × List T_impl_Stored) : Ret κ := ⟨.tup [(false, [.sl 2]), (false, [.bool y.1])], [], [.rows 1 true y.2]⟩
def spec_MergeStores.out (r : Ret κ) : Option (Bool × List T_impl_Stored) :=
  match r with
  | ⟨.tup [(false, [.sl 2]), (false, [.bool z0])], [], [q1]⟩ => (asO 1 true q1).bind fun z1 => some (z0, z1)
  | _ => none
theorem spec_MergeStores.out_ok (r : Ret κ) (y : Bool × List T_impl_Stored) (h : spec_MergeStores.out r = some y) : r = spec_MergeStores.g y := by
  unfold spec_MergeStores.out at h
  split at h
  · obtain ⟨_, rfl, h_1⟩ := asO_bind h
    obtain rfl := Option.some.inj h_1
    rfl
  · cases h
def spec_MergeStores.body (k : Nat) (vs : List AV) (bs : List (Blk κ)) : Option (Lf κ) :=
  match vs, bs with
  | [.v (.sl 0), .v (.sl 1)], [qb0, qb1] => (asO 1 false qb0).bind fun a0 => (asO 1 false qb1).bind fun a1 => some ⟨Bool × List T_impl_Stored, spec_MergeStores.f k a0 a1, spec_MergeStores.g⟩
  | _, _ => none
def spec_MergeStores.C (k : Nat) : Nat → List AV → AP κ AV := contract spec_MergeStores.sig (spec_MergeStores.body k)
theorem spec_MergeStores.den (k : Nat) (a0 : List T_impl_Stored) (a1 : List T_impl_Stored) : Code.den ti (spec_MergeStores.Γ k) (spec_MergeStores.LH k) (bodyOf Try.f17) (finK ti Try.f17.results.toList [(4, [some 1])] (flags spec_MergeStores.sig).length (rwI (flags spec_MergeStores.sig) 0) spec_MergeStores.out) ⟨envOf (([.v (.sl 0), .v (.sl 1)]).zipIdx.map fun q => (q.2, q.1)), hpOf [.rows 1 false a0, .rows 1 false a1], (flags spec_MergeStores.sig).length⟩ = spec_MergeStores.f k a0 a1 := by kernel_rfl
theorem spec_MergeStores.ok (k : Nat) : CSound Try.prog 17 (spec_MergeStores.C k) :=
  csound κ_ok mixed tok (spec_MergeStores.hΓ k) (LH := spec_MergeStores.LH k) (fn := Try.f17) (c := bodyOf Try.f17) Try.func17 rfl Try.call17 spec_MergeStores.sig [(4, [some 1])] (spec_MergeStores.body k) (by kernel_rfl) (spec_MergeStores.lok k) (by decide) fun vs bs lf y hl hb hy => by
    unfold spec_MergeStores.body at hb
    split at hb
    · obtain ⟨_, rfl, hb_1⟩ := asO_bind hb
      obtain ⟨_, rfl, hb_2⟩ := asO_bind hb_1
      obtain rfl := Option.some.inj hb_2
      exact ⟨spec_MergeStores.out, spec_MergeStores.out_ok, (spec_MergeStores.den k _ _).trans hy⟩
    · cases hb
/-! ### impl_InRange -/
def impl_InRange.f (k : Nat) (a0 : Int) (a1 : Int) (a2 : Int) : Option Bool :=
  (bif decide (a1 ≤ a0) then some (decide (a0 ≤ a2)) else some false)
def impl_InRange.Γ (k : Nat) : Ct κ := assoc []
def impl_InRange.LH (k : Nat) : Nat → Option (LHi κ) := assoc []
theorem impl_InRange.hΓ (k : Nat) : ∀ f g, impl_InRange.Γ k f = some g → CSound Try.prog f g := G_nil
theorem impl_InRange.lok (k : Nat) : LOK ti (impl_InRange.Γ k) (impl_InRange.LH k) 0 (loopsOf (bodyOf Try.f43)) :=
  (show loopsOf (bodyOf Try.f43) = [] by kernel_rfl) ▸ LOK_nil
def impl_InRange.sig : List PSh := [.one .sc, .one .sc, .one .sc]
def impl_InRange.g (y : Bool) : Ret κ := ⟨.v (.bool y), [], []⟩
def impl_InRange.out (r : Ret κ) : Option Bool :=
  match r with
  | ⟨.v (.bool z0), [], []⟩ => some (z0)
  | _ => none
theorem impl_InRange.out_ok (r : Ret κ) (y : Bool) (h : impl_InRange.out r = some y) : r = impl_InRange.g y := by
  unfold impl_InRange.out at h
  split at h
  · obtain rfl := Option.some.inj h
    rfl
  · cases h
def impl_InRange.body (k : Nat) (vs : List AV) (bs : List (Blk κ)) : Option (Lf κ) :=
  match vs, bs with
  | [.v (.int .i64 a0), .v (.int .i64 a1), .v (.int .i64 a2)], [] => some ⟨Bool, impl_InRange.f k a0 a1 a2, impl_InRange.g⟩
  | _, _ => none
def impl_InRange.C (k : Nat) : Nat → List AV → AP κ AV := contract impl_InRange.sig (impl_InRange.body k)
theorem impl_InRange.den (k : Nat) (a0 : Int) (a1 : Int) (a2 : Int) : Code.den ti (impl_InRange.Γ k) (impl_InRange.LH k) (bodyOf Try.f43) (finK ti Try.f43.results.toList [] (flags impl_InRange.sig).length (rwI (flags impl_InRange.sig) 0) impl_InRange.out) ⟨envOf (([.v (.int .i64 a0), .v (.int .i64 a1), .v (.int .i64 a2)]).zipIdx.map fun q => (q.2, q.1)), hpOf [], (flags impl_InRange.sig).length⟩ = impl_InRange.f k a0 a1 a2 := by kernel_rfl
theorem impl_InRange.ok (k : Nat) : CSound Try.prog 43 (impl_InRange.C k) :=
  csound κ_ok mixed tok (impl_InRange.hΓ k) (LH := impl_InRange.LH k) (fn := Try.f43) (c := bodyOf Try.f43) Try.func43 rfl Try.call43 impl_InRange.sig [] (impl_InRange.body k) (by kernel_rfl) (impl_InRange.lok k) (by decide) fun vs bs lf y hl hb hy => by
    unfold impl_InRange.body at hb
    split at hb
    · obtain rfl := Option.some.inj hb
      exact ⟨impl_InRange.out, impl_InRange.out_ok, (impl_InRange.den k _ _ _).trans hy⟩
    · cases hb
/-! ### cmp_isNaN_int -/
def cmp_isNaN_int.f (k : Nat) (a0 : Int) : Option Bool :=
  some (a0 != a0)
def cmp_isNaN_int.Γ (k : Nat) : Ct κ := assoc []
def cmp_isNaN_int.LH (k : Nat) : Nat → Option (LHi κ) := assoc []
theorem cmp_isNaN_int.hΓ (k : Nat) : ∀ f g, cmp_isNaN_int.Γ k f = some g → CSound Try.prog f g := G_nil
theorem cmp_isNaN_int.lok (k : Nat) : LOK ti (cmp_isNaN_int.Γ k) (cmp_isNaN_int.LH k) 0 (loopsOf (bodyOf Try.f92)) :=
  (show loopsOf (bodyOf Try.f92) = [] by kernel_rfl) ▸ LOK_nil
def cmp_isNaN_int.sig : List PSh := [.one .sc]
def cmp_isNaN_int.g (y : Bool) : Ret κ := ⟨.v (.bool y), [], []⟩
def cmp_isNaN_int.out (r : Ret κ) : Option Bool :=
  match r with
  | ⟨.v (.bool z0), [], []⟩ => some (z0)
  | _ => none
theorem cmp_isNaN_int.out_ok (r : Ret κ) (y : Bool) (h : cmp_isNaN_int.out r = some y) : r = cmp_isNaN_int.g y := by
  unfold cmp_isNaN_int.out at h
  split at h
  · obtain rfl := Option.some.inj h
    rfl
  · cases h
def cmp_isNaN_int.body (k : Nat) (vs : List AV) (bs : List (Blk κ)) : Option (Lf κ) :=
  match vs, bs with
  | [.v (.int .i64 a0)], [] => some ⟨Bool, cmp_isNaN_int.f k a0, cmp_isNaN_int.g⟩
  | _, _ => none
def cmp_isNaN_int.C (k : Nat) : Nat → List AV → AP κ AV := contract cmp_isNaN_int.sig (cmp_isNaN_int.body k)
theorem cmp_isNaN_int.den (k : Nat) (a0 : Int) : Code.den ti (cmp_isNaN_int.Γ k) (cmp_isNaN_int.LH k) (bodyOf Try.f92) (finK ti Try.f92.results.toList [] (flags cmp_isNaN_int.sig).length (rwI (flags cmp_isNaN_int.sig) 0) cmp_isNaN_int.out) ⟨envOf (([.v (.int .i64 a0)]).zipIdx.map fun q => (q.2, q.1)), hpOf [], (flags cmp_isNaN_int.sig).length⟩ = cmp_isNaN_int.f k a0 := by kernel_rfl
theorem cmp_isNaN_int.ok (k : Nat) : CSound Try.prog 92 (cmp_isNaN_int.C k) :=
  csound κ_ok mixed tok (cmp_isNaN_int.hΓ k) (LH := cmp_isNaN_int.LH k) (fn := Try.f92) (c := bodyOf Try.f92) Try.func92 rfl Try.call92 cmp_isNaN_int.sig [] (cmp_isNaN_int.body k) (by kernel_rfl) (cmp_isNaN_int.lok k) (by decide) fun vs bs lf y hl hb hy => by
    unfold cmp_isNaN_int.body at hb
    split at hb
    · obtain rfl := Option.some.inj hb
      exact ⟨cmp_isNaN_int.out, cmp_isNaN_int.out_ok, (cmp_isNaN_int.den k _).trans hy⟩
    · cases hb
/-! ### cmp_Compare_int -/
def cmp_Compare_int.f (k : Nat) (a0 : Int) (a1 : Int) : Option Int :=
  (cmp_isNaN_int.f k a0).bind fun t1 => (cmp_isNaN_int.f k a1).bind fun t2 => (bif t1 then (bif t2 then some (0 : Int) else some (-1 : Int)) else (bif t2 then some (1 : Int) else (bif decide (a0 < a1) then some (-1 : Int) else (bif decide (a0 > a1) then some (1 : Int) else some (0 : Int)))))
def cmp_Compare_int.Γ (k : Nat) : Ct κ := assoc [(92, cmp_isNaN_int.C k)]
def cmp_Compare_int.LH (k : Nat) : Nat → Option (LHi κ) := assoc []
theorem cmp_Compare_int.hΓ (k : Nat) : ∀ f g, cmp_Compare_int.Γ k f = some g → CSound Try.prog f g := G_cons (cmp_isNaN_int.ok k) G_nil
theorem cmp_Compare_int.lok (k : Nat) : LOK ti (cmp_Compare_int.Γ k) (cmp_Compare_int.LH k) 0 (loopsOf (bodyOf Try.f65)) :=
  (show loopsOf (bodyOf Try.f65) = [] by kernel_rfl) ▸ LOK_nil
def cmp_Compare_int.sig : List PSh := [.one .sc, .one .sc]
def cmp_Compare_int.g (y : Int) : Ret κ := ⟨.v (.int .i64 y), [], []⟩
def cmp_Compare_int.out (r : Ret κ) : Option Int :=
  match r with
  | ⟨.v (.int .i64 z0), [], []⟩ => some (z0)
  | _ => none
theorem cmp_Compare_int.out_ok (r : Ret κ) (y : Int) (h : cmp_Compare_int.out r = some y) : r = cmp_Compare_int.g y := by
  unfold cmp_Compare_int.out at h
  split at h
  · obtain rfl := Option.some.inj h
    rfl
  · cases h
def cmp_Compare_int.body (k : Nat) (vs : List AV) (bs : List (Blk κ)) : Option (Lf κ) :=
  match vs, bs with
  | [.v (.int .i64 a0), .v (.int .i64 a1)], [] => some ⟨Int, cmp_Compare_int.f k a0 a1, cmp_Compare_int.g⟩
  | _, _ => none
def cmp_Compare_int.C (k : Nat) : Nat → List AV → AP κ AV := contract cmp_Compare_int.sig (cmp_Compare_int.body k)
theorem cmp_Compare_int.den (k : Nat) (a0 : Int) (a1 : Int) : Code.den ti (cmp_Compare_int.Γ k) (cmp_Compare_int.LH k) (bodyOf Try.f65) (finK ti Try.f65.results.toList [] (flags cmp_Compare_int.sig).length (rwI (flags cmp_Compare_int.sig) 0) cmp_Compare_int.out) ⟨envOf (([.v (.int .i64 a0), .v (.int .i64 a1)]).zipIdx.map fun q => (q.2, q.1)), hpOf [], (flags cmp_Compare_int.sig).length⟩ = cmp_Compare_int.f k a0 a1 := by kernel_rfl
theorem cmp_Compare_int.ok (k : Nat) : CSound Try.prog 65 (cmp_Compare_int.C k) :=
  csound κ_ok mixed tok (cmp_Compare_int.hΓ k) (LH := cmp_Compare_int.LH k) (fn := Try.f65) (c := bodyOf Try.f65) Try.func65 rfl Try.call65 cmp_Compare_int.sig [] (cmp_Compare_int.body k) (by kernel_rfl) (cmp_Compare_int.lok k) (by decide) fun vs bs lf y hl hb hy => by
    unfold cmp_Compare_int.body at hb
    split at hb
    · obtain rfl := Option.some.inj hb
      exact ⟨cmp_Compare_int.out, cmp_Compare_int.out_ok, (cmp_Compare_int.den k _ _).trans hy⟩
    · cases hb
/-! ### cmp_Or_int -/
def cmp_Or_int.L3 {R : Type} (k : Nat) (x0 : Int) (x2 : Int) (xl0 : List Int) (X0 : Int → Option R) (X1 : Unit → Option R) (rec : Int → Option R) (x3 : Int) : Option R :=
  (bif decide (x3 < x2) then (bif decide (0 ≤ x3) then (bif decide (x3 < (xl0.length : Int)) then (bif ((rd_i64 xl0 x3) != x0) then (X0 (rd_i64 xl0 x3)) else (rec (w64 (x3 + (1 : Int))))) else none) else none) else (X1 ()))
def cmp_Or_int.l3 {R : Type} (k : Nat) (x0 : Int) (x2 : Int) (xl0 : List Int) (X0 : Int → Option R) (X1 : Unit → Option R) : Nat → Int → Option R
  | 0 => fun _ => none
  | n + 1 => cmp_Or_int.L3 k x0 x2 xl0 X0 X1 (cmp_Or_int.l3 k x0 x2 xl0 X0 X1 n)
def cmp_Or_int.f (k : Nat) (a0 : List Int) : Option Int :=
  (cmp_Or_int.l3 k (0 : Int) (a0.length : Int) a0 (fun (y1 : Int) => some y1) (fun (_ : Unit) => some (0 : Int)) k (0 : Int))
def cmp_Or_int.h3 (k : Nat) {R : Type} (K : Ex → St κ → Option R) (vs : List AV) (bs : List (Blk κ)) : Option R :=
  match vs, bs with
  | [.v (.int .i64 x0), .v (.sl 0), .v (.int .i64 x2), .v (.int .i64 x3)], [qb0] => (asO 2 false qb0).bind fun xl0 => cmp_Or_int.l3 k x0 x2 xl0 (fun (z0 : Int) => K .ret (stOf [(2, []), (3, [])] [.v (.int .i64 z0), .v (.int .i64 x0)] [.rows 2 false xl0])) (fun (_ : Unit) => K (.exit 0) (stOf [(2, []), (3, [])] [.v .any, .v (.int .i64 x0)] [.rows 2 false xl0])) k x3
  | _, _ => none
def cmp_Or_int.Γ (k : Nat) : Ct κ := assoc []
def cmp_Or_int.LH (k : Nat) : Nat → Option (LHi κ) := assoc [(3, ⟨1, [(3, []), (6, [some 2]), (7, []), (8, [])], [(2, []), (3, [])], @cmp_Or_int.h3 k⟩)]
theorem cmp_Or_int.hΓ (k : Nat) : ∀ f g, cmp_Or_int.Γ k f = some g → CSound Try.prog f g := G_nil
theorem cmp_Or_int.e3 {R : Type} (K : Ex → St κ → Option R) (k : Nat) (x0 : Int) (x2 : Int) (xl0 : List Int) : ∀ (n : Nat) (x3 : Int), loopN 1 (Code.den ti (cmp_Or_int.Γ k) (cmp_Or_int.LH k) (loopAt Try.f64 0)) [(3, []), (6, [some 2]), (7, []), (8, [])] [(2, []), (3, [])] K n [.v (.int .i64 x0), .v (.sl 0), .v (.int .i64 x2), .v (.int .i64 x3)] [.rows 2 false xl0] = cmp_Or_int.l3 k x0 x2 xl0 (fun (z0 : Int) => K .ret (stOf [(2, []), (3, [])] [.v (.int .i64 z0), .v (.int .i64 x0)] [.rows 2 false xl0])) (fun (_ : Unit) => K (.exit 0) (stOf [(2, []), (3, [])] [.v .any, .v (.int .i64 x0)] [.rows 2 false xl0])) n x3
  | 0, _ => rfl
  | n + 1, x3 => (show loopN 1 (Code.den ti (cmp_Or_int.Γ k) (cmp_Or_int.LH k) (loopAt Try.f64 0)) [(3, []), (6, [some 2]), (7, []), (8, [])] [(2, []), (3, [])] K (n + 1) [.v (.int .i64 x0), .v (.sl 0), .v (.int .i64 x2), .v (.int .i64 x3)] [.rows 2 false xl0] = cmp_Or_int.L3 k x0 x2 xl0 (fun (z0 : Int) => K .ret (stOf [(2, []), (3, [])] [.v (.int .i64 z0), .v (.int .i64 x0)] [.rows 2 false xl0])) (fun (_ : Unit) => K (.exit 0) (stOf [(2, []), (3, [])] [.v .any, .v (.int .i64 x0)] [.rows 2 false xl0])) (fun (x3' : Int) => loopN 1 (Code.den ti (cmp_Or_int.Γ k) (cmp_Or_int.LH k) (loopAt Try.f64 0)) [(3, []), (6, [some 2]), (7, []), (8, [])] [(2, []), (3, [])] K n [.v (.int .i64 x0), .v (.sl 0), .v (.int .i64 x2), .v (.int .i64 x3')] [.rows 2 false xl0]) x3 by kernel_rfl).trans (congrArg (fun rec => cmp_Or_int.L3 k x0 x2 xl0 (fun (z0 : Int) => K .ret (stOf [(2, []), (3, [])] [.v (.int .i64 z0), .v (.int .i64 x0)] [.rows 2 false xl0])) (fun (_ : Unit) => K (.exit 0) (stOf [(2, []), (3, [])] [.v .any, .v (.int .i64 x0)] [.rows 2 false xl0])) rec x3) (funext fun x3' => cmp_Or_int.e3 K k x0 x2 xl0 n x3'))
theorem cmp_Or_int.q3 (k : Nat) {R : Type} (K : Ex → St κ → Option R) (vs : List AV) (bs : List (Blk κ)) (r : R) (h : cmp_Or_int.h3 k K vs bs = some r) : ∃ n, loopN 1 (Code.den ti (cmp_Or_int.Γ k) (cmp_Or_int.LH k) (loopAt Try.f64 0)) [(3, []), (6, [some 2]), (7, []), (8, [])] [(2, []), (3, [])] K n vs bs = some r := by
  unfold cmp_Or_int.h3 at h
  split at h
  · obtain ⟨_, rfl, h_1⟩ := asO_bind h
    exact ⟨k, (cmp_Or_int.e3 K k _ _ _ k _).trans h_1⟩
  · cases h
theorem cmp_Or_int.lok (k : Nat) : LOK ti (cmp_Or_int.Γ k) (cmp_Or_int.LH k) 1 (loopsOf (bodyOf Try.f64)) :=
  (show loopsOf (bodyOf Try.f64) = [loopAt Try.f64 0] by kernel_rfl) ▸ (LOK_cons (g := ⟨1, [(3, []), (6, [some 2]), (7, []), (8, [])], [(2, []), (3, [])], @cmp_Or_int.h3 k⟩) (by kernel_rfl) rfl (fun K vs xs r h => cmp_Or_int.q3 k K vs xs r h) (LOK_nil))
def cmp_Or_int.sig : List PSh := [.one (.ro 2)]
def cmp_Or_int.g (y : Int) : Ret κ := ⟨.v (.int .i64 y), [], []⟩
def cmp_Or_int.out (r : Ret κ) : Option Int :=
  match r with
  | ⟨.v (.int .i64 z0), [], []⟩ => some (z0)
  | _ => none
theorem cmp_Or_int.out_ok (r : Ret κ) (y : Int) (h : cmp_Or_int.out r = some y) : r = cmp_Or_int.g y := by
  unfold cmp_Or_int.out at h
  split at h
  · obtain rfl := Option.some.inj h
    rfl
  · cases h
def cmp_Or_int.body (k : Nat) (vs : List AV) (bs : List (Blk κ)) : Option (Lf κ) :=
  match vs, bs with
  | [.v (.sl 0)], [qb0] => (asO 2 false qb0).bind fun a0 => some ⟨Int, cmp_Or_int.f k a0, cmp_Or_int.g⟩
  | _, _ => none
def cmp_Or_int.C (k : Nat) : Nat → List AV → AP κ AV := contract cmp_Or_int.sig (cmp_Or_int.body k)
theorem cmp_Or_int.den (k : Nat) (a0 : List Int) : Code.den ti (cmp_Or_int.Γ k) (cmp_Or_int.LH k) (bodyOf Try.f64) (finK ti Try.f64.results.toList [] (flags cmp_Or_int.sig).length (rwI (flags cmp_Or_int.sig) 0) cmp_Or_int.out) ⟨envOf (([.v (.sl 0)]).zipIdx.map fun q => (q.2, q.1)), hpOf [.rows 2 false a0], (flags cmp_Or_int.sig).length⟩ = cmp_Or_int.f k a0 := by kernel_rfl
theorem cmp_Or_int.ok (k : Nat) : CSound Try.prog 64 (cmp_Or_int.C k) :=
  csound κ_ok mixed tok (cmp_Or_int.hΓ k) (LH := cmp_Or_int.LH k) (fn := Try.f64) (c := bodyOf Try.f64) Try.func64 rfl Try.call64 cmp_Or_int.sig [] (cmp_Or_int.body k) (by kernel_rfl) (cmp_Or_int.lok k) (by decide) fun vs bs lf y hl hb hy => by
    unfold cmp_Or_int.body at hb
    split at hb
    · obtain ⟨_, rfl, hb_1⟩ := asO_bind hb
      obtain rfl := Option.some.inj hb_1
      exact ⟨cmp_Or_int.out, cmp_Or_int.out_ok, (cmp_Or_int.den k _).trans hy⟩
    · cases hb
end Go.Proofs.Ytmjflahlhgibnaa.PFnExactMergeStores
