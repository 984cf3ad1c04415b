/- What the functions that the law FnExactSnapshotText reaches come to; no conditions. -/
import Derived.Test.YthingkcckjiniaaDoorPFnExactSnapshotTextT
set_option linter.unusedVariables false
set_option maxRecDepth 100000
namespace Go.Proofs.YthingkcckjiniaaDoor.PFnExactSnapshotText
open Go Go.Eng Go.Proofs
/-! ### laws_szGrantS -/
def laws_szGrantS.f (k : Nat) (a0 : List T_laws_Grant) (a1 : Int) : Option Int :=
  (bif decide ((w64 (a1 - (a0.length : Int))) < (0 : Int)) then some (-1 : Int) else some (w64 (a1 - (a0.length : Int))))
def laws_szGrantS.Γ (k : Nat) : Ct κ := assoc []
def laws_szGrantS.LH (k : Nat) : Nat → Option (LHi κ) := assoc []
theorem laws_szGrantS.hΓ (k : Nat) : ∀ f g, laws_szGrantS.Γ k f = some g → CSound Tryd.prog f g := G_nil
theorem laws_szGrantS.lok (k : Nat) : LOK ti (laws_szGrantS.Γ k) (laws_szGrantS.LH k) 1 (loopsOf (bodyOf Tryd.f17)) :=
  (show loopsOf (bodyOf Tryd.f17) = [] by kernel_rfl) ▸ LOK_nil
def laws_szGrantS.sig : List PSh := [.one (.ro 0), .one .sc]
def laws_szGrantS.g (y : Int) : Ret κ := ⟨.v (.int .i64 y), [], []⟩
def laws_szGrantS.out (r : Ret κ) : Option Int :=
  match r with
  | ⟨.v (.int .i64 z0), [], []⟩ => some (z0)
  | _ => none
theorem laws_szGrantS.out_ok (r : Ret κ) (y : Int) (h : laws_szGrantS.out r = some y) : r = laws_szGrantS.g y := by
  unfold laws_szGrantS.out at h
  split at h
  · obtain rfl := Option.some.inj h
    rfl
  · cases h
def laws_szGrantS.body (k : Nat) (vs : List AV) (bs : List (Blk κ)) : Option (Lf κ) :=
  match vs, bs with
  | [.v (.sl 0), .v (.int .i64 a1)], [qb0] => (asO 0 false qb0).bind fun a0 => some ⟨Int, laws_szGrantS.f k a0 a1, laws_szGrantS.g⟩
  | _, _ => none
def laws_szGrantS.C (k : Nat) : Nat → List AV → AP κ AV := contract laws_szGrantS.sig (laws_szGrantS.body k)
theorem laws_szGrantS.den (k : Nat) (a0 : List T_laws_Grant) (a1 : Int) : Code.den ti (laws_szGrantS.Γ k) (laws_szGrantS.LH k) (bodyOf Tryd.f17) (finK ti Tryd.f17.results.toList [] (flags laws_szGrantS.sig).length (rwI (flags laws_szGrantS.sig) 0) laws_szGrantS.out) ⟨envOf (([.v (.sl 0), .v (.int .i64 a1)]).zipIdx.map fun q => (q.2, q.1)), hpOf [.rows 0 false a0], (flags laws_szGrantS.sig).length⟩ = laws_szGrantS.f k a0 a1 := by kernel_rfl
theorem laws_szGrantS.ok (k : Nat) : CSound Tryd.prog 17 (laws_szGrantS.C k) :=
  csound κ_ok mixed tok (laws_szGrantS.hΓ k) (LH := laws_szGrantS.LH k) (fn := Tryd.f17) (c := bodyOf Tryd.f17) Tryd.func17 rfl Tryd.call17 laws_szGrantS.sig [] (laws_szGrantS.body k) (by kernel_rfl) (laws_szGrantS.lok k) (by decide) fun vs bs lf y hl hb hy => by
    unfold laws_szGrantS.body at hb
    split at hb
    · obtain ⟨_, rfl, hb_1⟩ := asO_bind hb
      obtain rfl := Option.some.inj hb_1
      exact ⟨laws_szGrantS.out, laws_szGrantS.out_ok, (laws_szGrantS.den k _ _).trans hy⟩
    · cases hb
/-! ### laws_szFlowS -/
def laws_szFlowS.f (k : Nat) (a0 : List T_laws_Flow) (a1 : Int) : Option Int :=
  (bif decide ((w64 (a1 - (a0.length : Int))) < (0 : Int)) then some (-1 : Int) else some (w64 (a1 - (a0.length : Int))))
def laws_szFlowS.Γ (k : Nat) : Ct κ := assoc []
def laws_szFlowS.LH (k : Nat) : Nat → Option (LHi κ) := assoc []
theorem laws_szFlowS.hΓ (k : Nat) : ∀ f g, laws_szFlowS.Γ k f = some g → CSound Tryd.prog f g := G_nil
theorem laws_szFlowS.lok (k : Nat) : LOK ti (laws_szFlowS.Γ k) (laws_szFlowS.LH k) 1 (loopsOf (bodyOf Tryd.f18)) :=
  (show loopsOf (bodyOf Tryd.f18) = [] by kernel_rfl) ▸ LOK_nil
def laws_szFlowS.sig : List PSh := [.one (.ro 1), .one .sc]
def laws_szFlowS.g (y : Int) : Ret κ := ⟨.v (.int .i64 y), [], []⟩
def laws_szFlowS.out (r : Ret κ) : Option Int :=
  match r with
  | ⟨.v (.int .i64 z0), [], []⟩ => some (z0)
  | _ => none
theorem laws_szFlowS.out_ok (r : Ret κ) (y : Int) (h : laws_szFlowS.out r = some y) : r = laws_szFlowS.g y := by
  unfold laws_szFlowS.out at h
  split at h
  · obtain rfl := Option.some.inj h
    rfl
  · cases h
def laws_szFlowS.body (k : Nat) (vs : List AV) (bs : List (Blk κ)) : Option (Lf κ) :=
  match vs, bs with
  | [.v (.sl 0), .v (.int .i64 a1)], [qb0] => (asO 1 false qb0).bind fun a0 => some ⟨Int, laws_szFlowS.f k a0 a1, laws_szFlowS.g⟩
  | _, _ => none
def laws_szFlowS.C (k : Nat) : Nat → List AV → AP κ AV := contract laws_szFlowS.sig (laws_szFlowS.body k)
theorem laws_szFlowS.den (k : Nat) (a0 : List T_laws_Flow) (a1 : Int) : Code.den ti (laws_szFlowS.Γ k) (laws_szFlowS.LH k) (bodyOf Tryd.f18) (finK ti Tryd.f18.results.toList [] (flags laws_szFlowS.sig).length (rwI (flags laws_szFlowS.sig) 0) laws_szFlowS.out) ⟨envOf (([.v (.sl 0), .v (.int .i64 a1)]).zipIdx.map fun q => (q.2, q.1)), hpOf [.rows 1 false a0], (flags laws_szFlowS.sig).length⟩ = laws_szFlowS.f k a0 a1 := by kernel_rfl
theorem laws_szFlowS.ok (k : Nat) : CSound Tryd.prog 18 (laws_szFlowS.C k) :=
  csound κ_ok mixed tok (laws_szFlowS.hΓ k) (LH := laws_szFlowS.LH k) (fn := Tryd.f18) (c := bodyOf Tryd.f18) Tryd.func18 rfl Tryd.call18 laws_szFlowS.sig [] (laws_szFlowS.body k) (by kernel_rfl) (laws_szFlowS.lok k) (by decide) fun vs bs lf y hl hb hy => by
    unfold laws_szFlowS.body at hb
    split at hb
    · obtain ⟨_, rfl, hb_1⟩ := asO_bind hb
      obtain rfl := Option.some.inj hb_1
      exact ⟨laws_szFlowS.out, laws_szFlowS.out_ok, (laws_szFlowS.den k _ _).trans hy⟩
    · cases hb
/-! ### laws_szRuleS -/
def laws_szRuleS.f (k : Nat) (a0 : List T_laws_Rule) (a1 : Int) : Option Int :=
  (bif decide ((w64 (a1 - (a0.length : Int))) < (0 : Int)) then some (-1 : Int) else some (w64 (a1 - (a0.length : Int))))
def laws_szRuleS.Γ (k : Nat) : Ct κ := assoc []
def laws_szRuleS.LH (k : Nat) : Nat → Option (LHi κ) := assoc []
theorem laws_szRuleS.hΓ (k : Nat) : ∀ f g, laws_szRuleS.Γ k f = some g → CSound Tryd.prog f g := G_nil
theorem laws_szRuleS.lok (k : Nat) : LOK ti (laws_szRuleS.Γ k) (laws_szRuleS.LH k) 1 (loopsOf (bodyOf Tryd.f19)) :=
  (show loopsOf (bodyOf Tryd.f19) = [] by kernel_rfl) ▸ LOK_nil
def laws_szRuleS.sig : List PSh := [.one (.ro 2), .one .sc]
def laws_szRuleS.g (y : Int) : Ret κ := ⟨.v (.int .i64 y), [], []⟩
def laws_szRuleS.out (r : Ret κ) : Option Int :=
  match r with
  | ⟨.v (.int .i64 z0), [], []⟩ => some (z0)
  | _ => none
theorem laws_szRuleS.out_ok (r : Ret κ) (y : Int) (h : laws_szRuleS.out r = some y) : r = laws_szRuleS.g y := by
  unfold laws_szRuleS.out at h
  split at h
  · obtain rfl := Option.some.inj h
    rfl
  · cases h
def laws_szRuleS.body (k : Nat) (vs : List AV) (bs : List (Blk κ)) : Option (Lf κ) :=
  match vs, bs with
  | [.v (.sl 0), .v (.int .i64 a1)], [qb0] => (asO 2 false qb0).bind fun a0 => some ⟨Int, laws_szRuleS.f k a0 a1, laws_szRuleS.g⟩
  | _, _ => none
def laws_szRuleS.C (k : Nat) : Nat → List AV → AP κ AV := contract laws_szRuleS.sig (laws_szRuleS.body k)
theorem laws_szRuleS.den (k : Nat) (a0 : List T_laws_Rule) (a1 : Int) : Code.den ti (laws_szRuleS.Γ k) (laws_szRuleS.LH k) (bodyOf Tryd.f19) (finK ti Tryd.f19.results.toList [] (flags laws_szRuleS.sig).length (rwI (flags laws_szRuleS.sig) 0) laws_szRuleS.out) ⟨envOf (([.v (.sl 0), .v (.int .i64 a1)]).zipIdx.map fun q => (q.2, q.1)), hpOf [.rows 2 false a0], (flags laws_szRuleS.sig).length⟩ = laws_szRuleS.f k a0 a1 := by kernel_rfl
theorem laws_szRuleS.ok (k : Nat) : CSound Tryd.prog 19 (laws_szRuleS.C k) :=
  csound κ_ok mixed tok (laws_szRuleS.hΓ k) (LH := laws_szRuleS.LH k) (fn := Tryd.f19) (c := bodyOf Tryd.f19) Tryd.func19 rfl Tryd.call19 laws_szRuleS.sig [] (laws_szRuleS.body k) (by kernel_rfl) (laws_szRuleS.lok k) (by decide) fun vs bs lf y hl hb hy => by
    unfold laws_szRuleS.body at hb
    split at hb
    · obtain ⟨_, rfl, hb_1⟩ := asO_bind hb
      obtain rfl := Option.some.inj hb_1
      exact ⟨laws_szRuleS.out, laws_szRuleS.out_ok, (laws_szRuleS.den k _ _).trans hy⟩
    · cases hb
/-! ### laws_szOpS -/
def laws_szOpS.f (k : Nat) (a0 : List T_laws_Op) (a1 : Int) : Option Int :=
  (bif decide ((w64 (a1 - (a0.length : Int))) < (0 : Int)) then some (-1 : Int) else some (w64 (a1 - (a0.length : Int))))
def laws_szOpS.Γ (k : Nat) : Ct κ := assoc []
def laws_szOpS.LH (k : Nat) : Nat → Option (LHi κ) := assoc []
theorem laws_szOpS.hΓ (k : Nat) : ∀ f g, laws_szOpS.Γ k f = some g → CSound Tryd.prog f g := G_nil
theorem laws_szOpS.lok (k : Nat) : LOK ti (laws_szOpS.Γ k) (laws_szOpS.LH k) 1 (loopsOf (bodyOf Tryd.f20)) :=
  (show loopsOf (bodyOf Tryd.f20) = [] by kernel_rfl) ▸ LOK_nil
def laws_szOpS.sig : List PSh := [.one (.ro 3), .one .sc]
def laws_szOpS.g (y : Int) : Ret κ := ⟨.v (.int .i64 y), [], []⟩
def laws_szOpS.out (r : Ret κ) : Option Int :=
  match r with
  | ⟨.v (.int .i64 z0), [], []⟩ => some (z0)
  | _ => none
theorem laws_szOpS.out_ok (r : Ret κ) (y : Int) (h : laws_szOpS.out r = some y) : r = laws_szOpS.g y := by
  unfold laws_szOpS.out at h
  split at h
  · obtain rfl := Option.some.inj h
    rfl
  · cases h
def laws_szOpS.body (k : Nat) (vs : List AV) (bs : List (Blk κ)) : Option (Lf κ) :=
  match vs, bs with
  | [.v (.sl 0), .v (.int .i64 a1)], [qb0] => (asO 3 false qb0).bind fun a0 => some ⟨Int, laws_szOpS.f k a0 a1, laws_szOpS.g⟩
  | _, _ => none
def laws_szOpS.C (k : Nat) : Nat → List AV → AP κ AV := contract laws_szOpS.sig (laws_szOpS.body k)
theorem laws_szOpS.den (k : Nat) (a0 : List T_laws_Op) (a1 : Int) : Code.den ti (laws_szOpS.Γ k) (laws_szOpS.LH k) (bodyOf Tryd.f20) (finK ti Tryd.f20.results.toList [] (flags laws_szOpS.sig).length (rwI (flags laws_szOpS.sig) 0) laws_szOpS.out) ⟨envOf (([.v (.sl 0), .v (.int .i64 a1)]).zipIdx.map fun q => (q.2, q.1)), hpOf [.rows 3 false a0], (flags laws_szOpS.sig).length⟩ = laws_szOpS.f k a0 a1 := by kernel_rfl
theorem laws_szOpS.ok (k : Nat) : CSound Tryd.prog 20 (laws_szOpS.C k) :=
  csound κ_ok mixed tok (laws_szOpS.hΓ k) (LH := laws_szOpS.LH k) (fn := Tryd.f20) (c := bodyOf Tryd.f20) Tryd.func20 rfl Tryd.call20 laws_szOpS.sig [] (laws_szOpS.body k) (by kernel_rfl) (laws_szOpS.lok k) (by decide) fun vs bs lf y hl hb hy => by
    unfold laws_szOpS.body at hb
    split at hb
    · obtain ⟨_, rfl, hb_1⟩ := asO_bind hb
      obtain rfl := Option.some.inj hb_1
      exact ⟨laws_szOpS.out, laws_szOpS.out_ok, (laws_szOpS.den k _ _).trans hy⟩
    · cases hb
/-! ### laws_szPackage -/
def laws_szPackage.f (k : Nat) (a0_0 : Int) (a0_1 : Int) (a0_2 : Int) (a0_3 : List T_laws_Grant) (a0_4 : List T_laws_Flow) (a0_5 : List T_laws_Rule) (a0_6 : List T_laws_Op) (a0_7 : Int) (a1 : Int) : Option Int :=
  (laws_szGrantS.f k a0_3 a1).bind fun t1 => (bif decide (t1 < (0 : Int)) then some (-1 : Int) else (laws_szFlowS.f k a0_4 t1).bind fun t2 => (bif decide (t2 < (0 : Int)) then some (-1 : Int) else (laws_szRuleS.f k a0_5 t2).bind fun t3 => (bif decide (t3 < (0 : Int)) then some (-1 : Int) else (laws_szOpS.f k a0_6 t3).bind fun t4 => (bif decide (t4 < (0 : Int)) then some (-1 : Int) else some t4))))
def laws_szPackage.Γ (k : Nat) : Ct κ := assoc [(17, laws_szGrantS.C k), (18, laws_szFlowS.C k), (19, laws_szRuleS.C k), (20, laws_szOpS.C k)]
def laws_szPackage.LH (k : Nat) : Nat → Option (LHi κ) := assoc []
theorem laws_szPackage.hΓ (k : Nat) : ∀ f g, laws_szPackage.Γ k f = some g → CSound Tryd.prog f g := G_cons (laws_szGrantS.ok k) (G_cons (laws_szFlowS.ok k) (G_cons (laws_szRuleS.ok k) (G_cons (laws_szOpS.ok k) G_nil)))
theorem laws_szPackage.lok (k : Nat) : LOK ti (laws_szPackage.Γ k) (laws_szPackage.LH k) 4 (loopsOf (bodyOf Tryd.f9)) :=
  (show loopsOf (bodyOf Tryd.f9) = [] by kernel_rfl) ▸ LOK_nil
def laws_szPackage.sig : List PSh := [.agg [.sc, .sc, .sc, .ro 0, .ro 1, .ro 2, .ro 3, .sc], .one .sc]
def laws_szPackage.g (y : Int) : Ret κ := ⟨.v (.int .i64 y), [], []⟩
def laws_szPackage.out (r : Ret κ) : Option Int :=
  match r with
  | ⟨.v (.int .i64 z0), [], []⟩ => some (z0)
  | _ => none
theorem laws_szPackage.out_ok (r : Ret κ) (y : Int) (h : laws_szPackage.out r = some y) : r = laws_szPackage.g y := by
  unfold laws_szPackage.out at h
  split at h
  · obtain rfl := Option.some.inj h
    rfl
  · cases h
def laws_szPackage.body (k : Nat) (vs : List AV) (bs : List (Blk κ)) : Option (Lf κ) :=
  match vs, bs with
  | [.agg [.int .i64 a0_0, .int .i64 a0_1, .int .i64 a0_2, .sl 0, .sl 1, .sl 2, .sl 3, .int .i64 a0_7], .v (.int .i64 a1)], [qb0, qb1, qb2, qb3] => (asO 0 false qb0).bind fun a0_3 => (asO 1 false qb1).bind fun a0_4 => (asO 2 false qb2).bind fun a0_5 => (asO 3 false qb3).bind fun a0_6 => some ⟨Int, laws_szPackage.f k a0_0 a0_1 a0_2 a0_3 a0_4 a0_5 a0_6 a0_7 a1, laws_szPackage.g⟩
  | _, _ => none
def laws_szPackage.C (k : Nat) : Nat → List AV → AP κ AV := contract laws_szPackage.sig (laws_szPackage.body k)
theorem laws_szPackage.den (k : Nat) (a0_0 : Int) (a0_1 : Int) (a0_2 : Int) (a0_3 : List T_laws_Grant) (a0_4 : List T_laws_Flow) (a0_5 : List T_laws_Rule) (a0_6 : List T_laws_Op) (a0_7 : Int) (a1 : Int) : Code.den ti (laws_szPackage.Γ k) (laws_szPackage.LH k) (bodyOf Tryd.f9) (finK ti Tryd.f9.results.toList [] (flags laws_szPackage.sig).length (rwI (flags laws_szPackage.sig) 0) laws_szPackage.out) ⟨envOf (([.agg [.int .i64 a0_0, .int .i64 a0_1, .int .i64 a0_2, .sl 0, .sl 1, .sl 2, .sl 3, .int .i64 a0_7], .v (.int .i64 a1)]).zipIdx.map fun q => (q.2, q.1)), hpOf [.rows 0 false a0_3, .rows 1 false a0_4, .rows 2 false a0_5, .rows 3 false a0_6], (flags laws_szPackage.sig).length⟩ = laws_szPackage.f k a0_0 a0_1 a0_2 a0_3 a0_4 a0_5 a0_6 a0_7 a1 := by kernel_rfl
theorem laws_szPackage.ok (k : Nat) : CSound Tryd.prog 9 (laws_szPackage.C k) :=
  csound κ_ok mixed tok (laws_szPackage.hΓ k) (LH := laws_szPackage.LH k) (fn := Tryd.f9) (c := bodyOf Tryd.f9) Tryd.func9 rfl Tryd.call9 laws_szPackage.sig [] (laws_szPackage.body k) (by kernel_rfl) (laws_szPackage.lok k) (by decide) fun vs bs lf y hl hb hy => by
    unfold laws_szPackage.body at hb
    split at hb
    · obtain ⟨_, rfl, hb_1⟩ := asO_bind hb
      obtain ⟨_, rfl, hb_2⟩ := asO_bind hb_1
      obtain ⟨_, rfl, hb_3⟩ := asO_bind hb_2
      obtain ⟨_, rfl, hb_4⟩ := asO_bind hb_3
      obtain rfl := Option.some.inj hb_4
      exact ⟨laws_szPackage.out, laws_szPackage.out_ok, (laws_szPackage.den k _ _ _ _ _ _ _ _ _).trans hy⟩
    · cases hb
/-! ### laws_szStoredS -/
def laws_szStoredS.f (k : Nat) (a0 : List T_laws_Stored) (a1 : Int) : Option Int :=
  (bif decide ((w64 (a1 - (a0.length : Int))) < (0 : Int)) then some (-1 : Int) else some (w64 (a1 - (a0.length : Int))))
def laws_szStoredS.Γ (k : Nat) : Ct κ := assoc []
def laws_szStoredS.LH (k : Nat) : Nat → Option (LHi κ) := assoc []
theorem laws_szStoredS.hΓ (k : Nat) : ∀ f g, laws_szStoredS.Γ k f = some g → CSound Tryd.prog f g := G_nil
theorem laws_szStoredS.lok (k : Nat) : LOK ti (laws_szStoredS.Γ k) (laws_szStoredS.LH k) 1 (loopsOf (bodyOf Tryd.f10)) :=
  (show loopsOf (bodyOf Tryd.f10) = [] by kernel_rfl) ▸ LOK_nil
def laws_szStoredS.sig : List PSh := [.one (.ro 4), .one .sc]
def laws_szStoredS.g (y : Int) : Ret κ := ⟨.v (.int .i64 y), [], []⟩
def laws_szStoredS.out (r : Ret κ) : Option Int :=
  match r with
  | ⟨.v (.int .i64 z0), [], []⟩ => some (z0)
  | _ => none
theorem laws_szStoredS.out_ok (r : Ret κ) (y : Int) (h : laws_szStoredS.out r = some y) : r = laws_szStoredS.g y := by
  unfold laws_szStoredS.out at h
  split at h
  · obtain rfl := Option.some.inj h
    rfl
  · cases h
def laws_szStoredS.body (k : Nat) (vs : List AV) (bs : List (Blk κ)) : Option (Lf κ) :=
  match vs, bs with
  | [.v (.sl 0), .v (.int .i64 a1)], [qb0] => (asO 4 false qb0).bind fun a0 => some ⟨Int, laws_szStoredS.f k a0 a1, laws_szStoredS.g⟩
  | _, _ => none
def laws_szStoredS.C (k : Nat) : Nat → List AV → AP κ AV := contract laws_szStoredS.sig (laws_szStoredS.body k)
theorem laws_szStoredS.den (k : Nat) (a0 : List T_laws_Stored) (a1 : Int) : Code.den ti (laws_szStoredS.Γ k) (laws_szStoredS.LH k) (bodyOf Tryd.f10) (finK ti Tryd.f10.results.toList [] (flags laws_szStoredS.sig).length (rwI (flags laws_szStoredS.sig) 0) laws_szStoredS.out) ⟨envOf (([.v (.sl 0), .v (.int .i64 a1)]).zipIdx.map fun q => (q.2, q.1)), hpOf [.rows 4 false a0], (flags laws_szStoredS.sig).length⟩ = laws_szStoredS.f k a0 a1 := by kernel_rfl
theorem laws_szStoredS.ok (k : Nat) : CSound Tryd.prog 10 (laws_szStoredS.C k) :=
  csound κ_ok mixed tok (laws_szStoredS.hΓ k) (LH := laws_szStoredS.LH k) (fn := Tryd.f10) (c := bodyOf Tryd.f10) Tryd.func10 rfl Tryd.call10 laws_szStoredS.sig [] (laws_szStoredS.body k) (by kernel_rfl) (laws_szStoredS.lok k) (by decide) fun vs bs lf y hl hb hy => by
    unfold laws_szStoredS.body at hb
    split at hb
    · obtain ⟨_, rfl, hb_1⟩ := asO_bind hb
      obtain rfl := Option.some.inj hb_1
      exact ⟨laws_szStoredS.out, laws_szStoredS.out_ok, (laws_szStoredS.den k _ _).trans hy⟩
    · cases hb
/-! ### laws_szSnapshot -/
def laws_szSnapshot.f (k : Nat) (a0_0 : Int) (a0_1 : Int) (a0_2 : Int) (a0_3 : List T_laws_Grant) (a0_4 : List T_laws_Flow) (a0_5 : List T_laws_Rule) (a0_6 : List T_laws_Op) (a0_7 : Int) (a0_8 : List T_laws_Stored) (a1 : Int) : Option Int :=
  (laws_szPackage.f k a0_0 a0_1 a0_2 a0_3 a0_4 a0_5 a0_6 a0_7 a1).bind fun t1 => (bif decide (t1 < (0 : Int)) then some (-1 : Int) else (laws_szStoredS.f k a0_8 t1).bind fun t2 => (bif decide (t2 < (0 : Int)) then some (-1 : Int) else some t2))
def laws_szSnapshot.Γ (k : Nat) : Ct κ := assoc [(9, laws_szPackage.C k), (10, laws_szStoredS.C k)]
def laws_szSnapshot.LH (k : Nat) : Nat → Option (LHi κ) := assoc []
theorem laws_szSnapshot.hΓ (k : Nat) : ∀ f g, laws_szSnapshot.Γ k f = some g → CSound Tryd.prog f g := G_cons (laws_szPackage.ok k) (G_cons (laws_szStoredS.ok k) G_nil)
theorem laws_szSnapshot.lok (k : Nat) : LOK ti (laws_szSnapshot.Γ k) (laws_szSnapshot.LH k) 5 (loopsOf (bodyOf Tryd.f4)) :=
  (show loopsOf (bodyOf Tryd.f4) = [] by kernel_rfl) ▸ LOK_nil
def laws_szSnapshot.sig : List PSh := [.agg [.sc, .sc, .sc, .ro 0, .ro 1, .ro 2, .ro 3, .sc, .ro 4], .one .sc]
def laws_szSnapshot.g (y : Int) : Ret κ := ⟨.v (.int .i64 y), [], []⟩
def laws_szSnapshot.out (r : Ret κ) : Option Int :=
  match r with
  | ⟨.v (.int .i64 z0), [], []⟩ => some (z0)
  | _ => none
theorem laws_szSnapshot.out_ok (r : Ret κ) (y : Int) (h : laws_szSnapshot.out r = some y) : r = laws_szSnapshot.g y := by
  unfold laws_szSnapshot.out at h
  split at h
  · obtain rfl := Option.some.inj h
    rfl
  · cases h
def laws_szSnapshot.body (k : Nat) (vs : List AV) (bs : List (Blk κ)) : Option (Lf κ) :=
  match vs, bs with
  | [.agg [.int .i64 a0_0, .int .i64 a0_1, .int .i64 a0_2, .sl 0, .sl 1, .sl 2, .sl 3, .int .i64 a0_7, .sl 4], .v (.int .i64 a1)], [qb0, qb1, qb2, qb3, qb4] => (asO 0 false qb0).bind fun a0_3 => (asO 1 false qb1).bind fun a0_4 => (asO 2 false qb2).bind fun a0_5 => (asO 3 false qb3).bind fun a0_6 => (asO 4 false qb4).bind fun a0_8 => some ⟨Int, laws_szSnapshot.f k a0_0 a0_1 a0_2 a0_3 a0_4 a0_5 a0_6 a0_7 a0_8 a1, laws_szSnapshot.g⟩
  | _, _ => none
def laws_szSnapshot.C (k : Nat) : Nat → List AV → AP κ AV := contract laws_szSnapshot.sig (laws_szSnapshot.body k)
theorem laws_szSnapshot.den (k : Nat) (a0_0 : Int) (a0_1 : Int) (a0_2 : Int) (a0_3 : List T_laws_Grant) (a0_4 : List T_laws_Flow) (a0_5 : List T_laws_Rule) (a0_6 : List T_laws_Op) (a0_7 : Int) (a0_8 : List T_laws_Stored) (a1 : Int) : Code.den ti (laws_szSnapshot.Γ k) (laws_szSnapshot.LH k) (bodyOf Tryd.f4) (finK ti Tryd.f4.results.toList [] (flags laws_szSnapshot.sig).length (rwI (flags laws_szSnapshot.sig) 0) laws_szSnapshot.out) ⟨envOf (([.agg [.int .i64 a0_0, .int .i64 a0_1, .int .i64 a0_2, .sl 0, .sl 1, .sl 2, .sl 3, .int .i64 a0_7, .sl 4], .v (.int .i64 a1)]).zipIdx.map fun q => (q.2, q.1)), hpOf [.rows 0 false a0_3, .rows 1 false a0_4, .rows 2 false a0_5, .rows 3 false a0_6, .rows 4 false a0_8], (flags laws_szSnapshot.sig).length⟩ = laws_szSnapshot.f k a0_0 a0_1 a0_2 a0_3 a0_4 a0_5 a0_6 a0_7 a0_8 a1 := by kernel_rfl
theorem laws_szSnapshot.ok (k : Nat) : CSound Tryd.prog 4 (laws_szSnapshot.C k) :=
  csound κ_ok mixed tok (laws_szSnapshot.hΓ k) (LH := laws_szSnapshot.LH k) (fn := Tryd.f4) (c := bodyOf Tryd.f4) Tryd.func4 rfl Tryd.call4 laws_szSnapshot.sig [] (laws_szSnapshot.body k) (by kernel_rfl) (laws_szSnapshot.lok k) (by decide) fun vs bs lf y hl hb hy => by
    unfold laws_szSnapshot.body at hb
    split at hb
    · obtain ⟨_, rfl, hb_1⟩ := asO_bind hb
      obtain ⟨_, rfl, hb_2⟩ := asO_bind hb_1
      obtain ⟨_, rfl, hb_3⟩ := asO_bind hb_2
      obtain ⟨_, rfl, hb_4⟩ := asO_bind hb_3
      obtain ⟨_, rfl, hb_5⟩ := asO_bind hb_4
      obtain rfl := Option.some.inj hb_5
      exact ⟨laws_szSnapshot.out, laws_szSnapshot.out_ok, (laws_szSnapshot.den k _ _ _ _ _ _ _ _ _ _).trans hy⟩
    · cases hb
/-! ### laws_toPattern -/
def laws_toPattern.f (k : Nat) (a0_0 : Int) (a0_1 : Int) : Option (Int × Int) :=
  some (a0_0, a0_1)
def laws_toPattern.Γ (k : Nat) : Ct κ := assoc []
def laws_toPattern.LH (k : Nat) : Nat → Option (LHi κ) := assoc []
theorem laws_toPattern.hΓ (k : Nat) : ∀ f g, laws_toPattern.Γ k f = some g → CSound Tryd.prog f g := G_nil
theorem laws_toPattern.lok (k : Nat) : LOK ti (laws_toPattern.Γ k) (laws_toPattern.LH k) 0 (loopsOf (bodyOf Tryd.f41)) :=
  (show loopsOf (bodyOf Tryd.f41) = [] by kernel_rfl) ▸ LOK_nil
def laws_toPattern.sig : List PSh := [.agg [.sc, .sc]]
def laws_toPattern.g (y : Int × Int) : Ret κ := ⟨.agg [.int .i64 y.1, .int .i64 y.2], [], []⟩
def laws_toPattern.out (r : Ret κ) : Option (Int × Int) :=
  match r with
  | ⟨.agg [.int .i64 z0, .int .i64 z1], [], []⟩ => some (z0, z1)
  | _ => none
theorem laws_toPattern.out_ok (r : Ret κ) (y : Int × Int) (h : laws_toPattern.out r = some y) : r = laws_toPattern.g y := by
  unfold laws_toPattern.out at h
  split at h
  · obtain rfl := Option.some.inj h
    rfl
  · cases h
def laws_toPattern.body (k : Nat) (vs : List AV) (bs : List (Blk κ)) : Option (Lf κ) :=
  match vs, bs with
  | [.agg [.int .i64 a0_0, .int .i64 a0_1]], [] => some ⟨Int × Int, laws_toPattern.f k a0_0 a0_1, laws_toPattern.g⟩
  | _, _ => none
def laws_toPattern.C (k : Nat) : Nat → List AV → AP κ AV := contract laws_toPattern.sig (laws_toPattern.body k)
theorem laws_toPattern.den (k : Nat) (a0_0 : Int) (a0_1 : Int) : Code.den ti (laws_toPattern.Γ k) (laws_toPattern.LH k) (bodyOf Tryd.f41) (finK ti Tryd.f41.results.toList [] (flags laws_toPattern.sig).length (rwI (flags laws_toPattern.sig) 0) laws_toPattern.out) ⟨envOf (([.agg [.int .i64 a0_0, .int .i64 a0_1]]).zipIdx.map fun q => (q.2, q.1)), hpOf [], (flags laws_toPattern.sig).length⟩ = laws_toPattern.f k a0_0 a0_1 := by kernel_rfl
theorem laws_toPattern.ok (k : Nat) : CSound Tryd.prog 41 (laws_toPattern.C k) :=
  csound κ_ok mixed tok (laws_toPattern.hΓ k) (LH := laws_toPattern.LH k) (fn := Tryd.f41) (c := bodyOf Tryd.f41) Tryd.func41 rfl Tryd.call41 laws_toPattern.sig [] (laws_toPattern.body k) (by kernel_rfl) (laws_toPattern.lok k) (by decide) fun vs bs lf y hl hb hy => by
    unfold laws_toPattern.body at hb
    split at hb
    · obtain rfl := Option.some.inj hb
      exact ⟨laws_toPattern.out, laws_toPattern.out_ok, (laws_toPattern.den k _ _).trans hy⟩
    · cases hb
/-! ### laws_toGrant -/
def laws_toGrant.f (k : Nat) (a0_0 : Int) (a0_1 : Int) (a0_2 : Int) (a0_3 : Int) (a0_4 : Int) (a0_5 : Int) (a0_6 : Bool) : Option (Int × Int × Int × Int × Int × Int × Bool) :=
  (laws_toPattern.f k a0_1 a0_2).bind fun t1 => some (a0_0, t1.1, t1.2, a0_3, a0_4, a0_5, a0_6)
def laws_toGrant.Γ (k : Nat) : Ct κ := assoc [(41, laws_toPattern.C k)]
def laws_toGrant.LH (k : Nat) : Nat → Option (LHi κ) := assoc []
theorem laws_toGrant.hΓ (k : Nat) : ∀ f g, laws_toGrant.Γ k f = some g → CSound Tryd.prog f g := G_cons (laws_toPattern.ok k) G_nil
theorem laws_toGrant.lok (k : Nat) : LOK ti (laws_toGrant.Γ k) (laws_toGrant.LH k) 0 (loopsOf (bodyOf Tryd.f32)) :=
  (show loopsOf (bodyOf Tryd.f32) = [] by kernel_rfl) ▸ LOK_nil
def laws_toGrant.sig : List PSh := [.agg [.sc, .sc, .sc, .sc, .sc, .sc, .sc]]
def laws_toGrant.g (y : Int × Int × Int × Int × Int × Int × Bool) : Ret κ := ⟨.agg [.int .i64 y.1, .int .i64 y.2.1, .int .i64 y.2.2.1, .int .i64 y.2.2.2.1, .int .i64 y.2.2.2.2.1, .int .i64 y.2.2.2.2.2.1, .bool y.2.2.2.2.2.2], [], []⟩
def laws_toGrant.out (r : Ret κ) : Option (Int × Int × Int × Int × Int × Int × Bool) :=
  match r with
  | ⟨.agg [.int .i64 z0, .int .i64 z1, .int .i64 z2, .int .i64 z3, .int .i64 z4, .int .i64 z5, .bool z6], [], []⟩ => some (z0, z1, z2, z3, z4, z5, z6)
  | _ => none
theorem laws_toGrant.out_ok (r : Ret κ) (y : Int × Int × Int × Int × Int × Int × Bool) (h : laws_toGrant.out r = some y) : r = laws_toGrant.g y := by
  unfold laws_toGrant.out at h
  split at h
  · obtain rfl := Option.some.inj h
    rfl
  · cases h
def laws_toGrant.body (k : Nat) (vs : List AV) (bs : List (Blk κ)) : Option (Lf κ) :=
  match vs, bs with
  | [.agg [.int .i64 a0_0, .int .i64 a0_1, .int .i64 a0_2, .int .i64 a0_3, .int .i64 a0_4, .int .i64 a0_5, .bool a0_6]], [] => some ⟨Int × Int × Int × Int × Int × Int × Bool, laws_toGrant.f k a0_0 a0_1 a0_2 a0_3 a0_4 a0_5 a0_6, laws_toGrant.g⟩
  | _, _ => none
def laws_toGrant.C (k : Nat) : Nat → List AV → AP κ AV := contract laws_toGrant.sig (laws_toGrant.body k)
theorem laws_toGrant.den (k : Nat) (a0_0 : Int) (a0_1 : Int) (a0_2 : Int) (a0_3 : Int) (a0_4 : Int) (a0_5 : Int) (a0_6 : Bool) : Code.den ti (laws_toGrant.Γ k) (laws_toGrant.LH k) (bodyOf Tryd.f32) (finK ti Tryd.f32.results.toList [] (flags laws_toGrant.sig).length (rwI (flags laws_toGrant.sig) 0) laws_toGrant.out) ⟨envOf (([.agg [.int .i64 a0_0, .int .i64 a0_1, .int .i64 a0_2, .int .i64 a0_3, .int .i64 a0_4, .int .i64 a0_5, .bool a0_6]]).zipIdx.map fun q => (q.2, q.1)), hpOf [], (flags laws_toGrant.sig).length⟩ = laws_toGrant.f k a0_0 a0_1 a0_2 a0_3 a0_4 a0_5 a0_6 := by kernel_rfl
theorem laws_toGrant.ok (k : Nat) : CSound Tryd.prog 32 (laws_toGrant.C k) :=
  csound κ_ok mixed tok (laws_toGrant.hΓ k) (LH := laws_toGrant.LH k) (fn := Tryd.f32) (c := bodyOf Tryd.f32) Tryd.func32 rfl Tryd.call32 laws_toGrant.sig [] (laws_toGrant.body k) (by kernel_rfl) (laws_toGrant.lok k) (by decide) fun vs bs lf y hl hb hy => by
    unfold laws_toGrant.body at hb
    split at hb
    · obtain rfl := Option.some.inj hb
      exact ⟨laws_toGrant.out, laws_toGrant.out_ok, (laws_toGrant.den k _ _ _ _ _ _ _).trans hy⟩
    · cases hb
/-! ### laws_toGrantS -/
def laws_toGrantS.L3 {R : Type} (k : Nat) (xl0 : List T_laws_Grant) (X0 : List T_impl_Grant → Option R) (rec : Int → List T_impl_Grant → Option R) (x2 : Int) (xl1 : List T_impl_Grant) : Option R :=
  (bif decide (x2 < (xl0.length : Int)) then (bif decide (0 ≤ x2) then (bif decide (x2 < (xl0.length : Int)) then (laws_toGrant.f k ((rd_laws_Grant xl0 x2).f0) ((rd_laws_Grant xl0 x2).f1.f0) ((rd_laws_Grant xl0 x2).f1.f1) ((rd_laws_Grant xl0 x2).f2) ((rd_laws_Grant xl0 x2).f3) ((rd_laws_Grant xl0 x2).f4) ((rd_laws_Grant xl0 x2).f5)).bind fun t1 => (bif decide (0 ≤ x2) then (bif decide (x2 < (xl1.length : Int)) then (let l2 : List T_impl_Grant := (xl1.set (x2).toNat (⟨t1.1, (⟨t1.2.1, t1.2.2.1⟩ : T_impl_Pattern), t1.2.2.2.1, t1.2.2.2.2.1, t1.2.2.2.2.2.1, t1.2.2.2.2.2.2⟩ : T_impl_Grant)); (rec (w64 (x2 + (1 : Int))) l2)) else none) else none) else none) else none) else (X0 xl1))
def laws_toGrantS.l3 {R : Type} (k : Nat) (xl0 : List T_laws_Grant) (X0 : List T_impl_Grant → Option R) : Nat → Int → List T_impl_Grant → Option R
  | 0 => fun _ _ => none
  | n + 1 => laws_toGrantS.L3 k xl0 X0 (laws_toGrantS.l3 k xl0 X0 n)
def laws_toGrantS.f (k : Nat) (a0 : List T_laws_Grant) : Option (List T_impl_Grant) :=
  (bif decide (0 ≤ (a0.length : Int)) then (bif decide (((a0.length : Int)).toNat * 56 ≤ cap48) then (laws_toGrantS.l3 k a0 (fun (y3 : List T_impl_Grant) => some y3) k (0 : Int) (List.replicate ((a0.length : Int)).toNat z_impl_Grant)) else none) else none)
def laws_toGrantS.h3 (k : Nat) {R : Type} (K : Ex → St κ → Option R) (vs : List AV) (bs : List (Blk κ)) : Option R :=
  match vs, bs with
  | [.v (.sl 0), .v (.sl 1), .v (.int .i64 x2)], [qb0, qb1] => (asO 0 false qb0).bind fun xl0 => (asO 5 true qb1).bind fun xl1 => laws_toGrantS.l3 k xl0 (fun (zl1 : List T_impl_Grant) => K (.exit 0) (stOf [(3, [some 5])] [.v (.sl 1)] [.rows 0 false xl0, .rows 5 true zl1])) k x2 xl1
  | _, _ => none
def laws_toGrantS.Γ (k : Nat) : Ct κ := assoc [(32, laws_toGrant.C k)]
def laws_toGrantS.LH (k : Nat) : Nat → Option (LHi κ) := assoc [(3, ⟨1, [(0, [some 0]), (3, [some 5]), (4, [])], [(3, [some 5])], @laws_toGrantS.h3 k⟩)]
theorem laws_toGrantS.hΓ (k : Nat) : ∀ f g, laws_toGrantS.Γ k f = some g → CSound Tryd.prog f g := G_cons (laws_toGrant.ok k) G_nil
theorem laws_toGrantS.e3 {R : Type} (K : Ex → St κ → Option R) (k : Nat) (xl0 : List T_laws_Grant) : ∀ (n : Nat) (x2 : Int) (xl1 : List T_impl_Grant), loopN 1 (Code.den ti (laws_toGrantS.Γ k) (laws_toGrantS.LH k) (loopAt Tryd.f21 0)) [(0, [some 0]), (3, [some 5]), (4, [])] [(3, [some 5])] K n [.v (.sl 0), .v (.sl 1), .v (.int .i64 x2)] [.rows 0 false xl0, .rows 5 true xl1] = laws_toGrantS.l3 k xl0 (fun (zl1 : List T_impl_Grant) => K (.exit 0) (stOf [(3, [some 5])] [.v (.sl 1)] [.rows 0 false xl0, .rows 5 true zl1])) n x2 xl1
  | 0, _, _ => rfl
  | n + 1, x2, xl1 => (show loopN 1 (Code.den ti (laws_toGrantS.Γ k) (laws_toGrantS.LH k) (loopAt Tryd.f21 0)) [(0, [some 0]), (3, [some 5]), (4, [])] [(3, [some 5])] K (n + 1) [.v (.sl 0), .v (.sl 1), .v (.int .i64 x2)] [.rows 0 false xl0, .rows 5 true xl1] = laws_toGrantS.L3 k xl0 (fun (zl1 : List T_impl_Grant) => K (.exit 0) (stOf [(3, [some 5])] [.v (.sl 1)] [.rows 0 false xl0, .rows 5 true zl1])) (fun (x2' : Int) (xl1' : List T_impl_Grant) => loopN 1 (Code.den ti (laws_toGrantS.Γ k) (laws_toGrantS.LH k) (loopAt Tryd.f21 0)) [(0, [some 0]), (3, [some 5]), (4, [])] [(3, [some 5])] K n [.v (.sl 0), .v (.sl 1), .v (.int .i64 x2')] [.rows 0 false xl0, .rows 5 true xl1']) x2 xl1 by kernel_rfl).trans (congrArg (fun rec => laws_toGrantS.L3 k xl0 (fun (zl1 : List T_impl_Grant) => K (.exit 0) (stOf [(3, [some 5])] [.v (.sl 1)] [.rows 0 false xl0, .rows 5 true zl1])) rec x2 xl1) (funext fun x2' => funext fun xl1' => laws_toGrantS.e3 K k xl0 n x2' xl1'))
theorem laws_toGrantS.q3 (k : Nat) {R : Type} (K : Ex → St κ → Option R) (vs : List AV) (bs : List (Blk κ)) (r : R) (h : laws_toGrantS.h3 k K vs bs = some r) : ∃ n, loopN 1 (Code.den ti (laws_toGrantS.Γ k) (laws_toGrantS.LH k) (loopAt Tryd.f21 0)) [(0, [some 0]), (3, [some 5]), (4, [])] [(3, [some 5])] K n vs bs = some r := by
  unfold laws_toGrantS.h3 at h
  split at h
  · obtain ⟨_, rfl, h_1⟩ := asO_bind h
    obtain ⟨_, rfl, h_2⟩ := asO_bind h_1
    exact ⟨k, (laws_toGrantS.e3 K k _ k _ _).trans h_2⟩
  · cases h
theorem laws_toGrantS.lok (k : Nat) : LOK ti (laws_toGrantS.Γ k) (laws_toGrantS.LH k) 1 (loopsOf (bodyOf Tryd.f21)) :=
  (show loopsOf (bodyOf Tryd.f21) = [loopAt Tryd.f21 0] by kernel_rfl) ▸ (LOK_cons (g := ⟨1, [(0, [some 0]), (3, [some 5]), (4, [])], [(3, [some 5])], @laws_toGrantS.h3 k⟩) (by kernel_rfl) rfl (fun K vs xs r h => laws_toGrantS.q3 k K vs xs r h) (LOK_nil))
def laws_toGrantS.sig : List PSh := [.one (.ro 0)]
def laws_toGrantS.g (y : List T_impl_Grant) : Ret κ := ⟨.v (.sl 1), [], [.rows 5 true y]⟩
def laws_toGrantS.out (r : Ret κ) : Option (List T_impl_Grant) :=
  match r with
  | ⟨.v (.sl 1), [], [q0]⟩ => (asO 5 true q0).bind fun z0 => some (z0)
  | _ => none
theorem laws_toGrantS.out_ok (r : Ret κ) (y : List T_impl_Grant) (h : laws_toGrantS.out r = some y) : r = laws_toGrantS.g y := by
  unfold laws_toGrantS.out at h
  split at h
  · obtain ⟨_, rfl, h_1⟩ := asO_bind h
    obtain rfl := Option.some.inj h_1
    rfl
  · cases h
def laws_toGrantS.body (k : Nat) (vs : List AV) (bs : List (Blk κ)) : Option (Lf κ) :=
  match vs, bs with
  | [.v (.sl 0)], [qb0] => (asO 0 false qb0).bind fun a0 => some ⟨List T_impl_Grant, laws_toGrantS.f k a0, laws_toGrantS.g⟩
  | _, _ => none
def laws_toGrantS.C (k : Nat) : Nat → List AV → AP κ AV := contract laws_toGrantS.sig (laws_toGrantS.body k)
theorem laws_toGrantS.den (k : Nat) (a0 : List T_laws_Grant) : Code.den ti (laws_toGrantS.Γ k) (laws_toGrantS.LH k) (bodyOf Tryd.f21) (finK ti Tryd.f21.results.toList [(2, [some 5])] (flags laws_toGrantS.sig).length (rwI (flags laws_toGrantS.sig) 0) laws_toGrantS.out) ⟨envOf (([.v (.sl 0)]).zipIdx.map fun q => (q.2, q.1)), hpOf [.rows 0 false a0], (flags laws_toGrantS.sig).length⟩ = laws_toGrantS.f k a0 := by kernel_rfl
theorem laws_toGrantS.ok (k : Nat) : CSound Tryd.prog 21 (laws_toGrantS.C k) :=
  csound κ_ok mixed tok (laws_toGrantS.hΓ k) (LH := laws_toGrantS.LH k) (fn := Tryd.f21) (c := bodyOf Tryd.f21) Tryd.func21 rfl Tryd.call21 laws_toGrantS.sig [(2, [some 5])] (laws_toGrantS.body k) (by kernel_rfl) (laws_toGrantS.lok k) (by decide) fun vs bs lf y hl hb hy => by
    unfold laws_toGrantS.body at hb
    split at hb
    · obtain ⟨_, rfl, hb_1⟩ := asO_bind hb
      obtain rfl := Option.some.inj hb_1
      exact ⟨laws_toGrantS.out, laws_toGrantS.out_ok, (laws_toGrantS.den k _).trans hy⟩
    · cases hb
/-! ### laws_toFlow -/
def laws_toFlow.f (k : Nat) (a0_0 : Int) (a0_1 : Int) (a0_2 : Int) : Option (Int × Int × Int) :=
  some (a0_0, a0_1, a0_2)
def laws_toFlow.Γ (k : Nat) : Ct κ := assoc []
def laws_toFlow.LH (k : Nat) : Nat → Option (LHi κ) := assoc []
theorem laws_toFlow.hΓ (k : Nat) : ∀ f g, laws_toFlow.Γ k f = some g → CSound Tryd.prog f g := G_nil
theorem laws_toFlow.lok (k : Nat) : LOK ti (laws_toFlow.Γ k) (laws_toFlow.LH k) 0 (loopsOf (bodyOf Tryd.f33)) :=
  (show loopsOf (bodyOf Tryd.f33) = [] by kernel_rfl) ▸ LOK_nil
def laws_toFlow.sig : List PSh := [.agg [.sc, .sc, .sc]]
def laws_toFlow.g (y : Int × Int × Int) : Ret κ := ⟨.agg [.int .i64 y.1, .int .i64 y.2.1, .int .i64 y.2.2], [], []⟩
def laws_toFlow.out (r : Ret κ) : Option (Int × Int × Int) :=
  match r with
  | ⟨.agg [.int .i64 z0, .int .i64 z1, .int .i64 z2], [], []⟩ => some (z0, z1, z2)
  | _ => none
theorem laws_toFlow.out_ok (r : Ret κ) (y : Int × Int × Int) (h : laws_toFlow.out r = some y) : r = laws_toFlow.g y := by
  unfold laws_toFlow.out at h
  split at h
  · obtain rfl := Option.some.inj h
    rfl
  · cases h
def laws_toFlow.body (k : Nat) (vs : List AV) (bs : List (Blk κ)) : Option (Lf κ) :=
  match vs, bs with
  | [.agg [.int .i64 a0_0, .int .i64 a0_1, .int .i64 a0_2]], [] => some ⟨Int × Int × Int, laws_toFlow.f k a0_0 a0_1 a0_2, laws_toFlow.g⟩
  | _, _ => none
def laws_toFlow.C (k : Nat) : Nat → List AV → AP κ AV := contract laws_toFlow.sig (laws_toFlow.body k)
theorem laws_toFlow.den (k : Nat) (a0_0 : Int) (a0_1 : Int) (a0_2 : Int) : Code.den ti (laws_toFlow.Γ k) (laws_toFlow.LH k) (bodyOf Tryd.f33) (finK ti Tryd.f33.results.toList [] (flags laws_toFlow.sig).length (rwI (flags laws_toFlow.sig) 0) laws_toFlow.out) ⟨envOf (([.agg [.int .i64 a0_0, .int .i64 a0_1, .int .i64 a0_2]]).zipIdx.map fun q => (q.2, q.1)), hpOf [], (flags laws_toFlow.sig).length⟩ = laws_toFlow.f k a0_0 a0_1 a0_2 := by kernel_rfl
theorem laws_toFlow.ok (k : Nat) : CSound Tryd.prog 33 (laws_toFlow.C k) :=
  csound κ_ok mixed tok (laws_toFlow.hΓ k) (LH := laws_toFlow.LH k) (fn := Tryd.f33) (c := bodyOf Tryd.f33) Tryd.func33 rfl Tryd.call33 laws_toFlow.sig [] (laws_toFlow.body k) (by kernel_rfl) (laws_toFlow.lok k) (by decide) fun vs bs lf y hl hb hy => by
    unfold laws_toFlow.body at hb
    split at hb
    · obtain rfl := Option.some.inj hb
      exact ⟨laws_toFlow.out, laws_toFlow.out_ok, (laws_toFlow.den k _ _ _).trans hy⟩
    · cases hb
/-! ### laws_toFlowS -/
def laws_toFlowS.L3 {R : Type} (k : Nat) (xl0 : List T_laws_Flow) (X0 : List T_impl_Flow → Option R) (rec : Int → List T_impl_Flow → Option R) (x2 : Int) (xl1 : List T_impl_Flow) : Option R :=
  (bif decide (x2 < (xl0.length : Int)) then (bif decide (0 ≤ x2) then (bif decide (x2 < (xl0.length : Int)) then (laws_toFlow.f k ((rd_laws_Flow xl0 x2).f0) ((rd_laws_Flow xl0 x2).f1) ((rd_laws_Flow xl0 x2).f2)).bind fun t1 => (bif decide (0 ≤ x2) then (bif decide (x2 < (xl1.length : Int)) then (rec (w64 (x2 + (1 : Int))) (xl1.set (x2).toNat (⟨t1.1, t1.2.1, t1.2.2⟩ : T_impl_Flow))) else none) else none) else none) else none) else (X0 xl1))
def laws_toFlowS.l3 {R : Type} (k : Nat) (xl0 : List T_laws_Flow) (X0 : List T_impl_Flow → Option R) : Nat → Int → List T_impl_Flow → Option R
  | 0 => fun _ _ => none
  | n + 1 => laws_toFlowS.L3 k xl0 X0 (laws_toFlowS.l3 k xl0 X0 n)
def laws_toFlowS.f (k : Nat) (a0 : List T_laws_Flow) : Option (List T_impl_Flow) :=
  (bif decide (0 ≤ (a0.length : Int)) then (bif decide (((a0.length : Int)).toNat * 24 ≤ cap48) then (laws_toFlowS.l3 k a0 (fun (y2 : List T_impl_Flow) => some y2) k (0 : Int) (List.replicate ((a0.length : Int)).toNat z_impl_Flow)) else none) else none)
def laws_toFlowS.h3 (k : Nat) {R : Type} (K : Ex → St κ → Option R) (vs : List AV) (bs : List (Blk κ)) : Option R :=
  match vs, bs with
  | [.v (.sl 0), .v (.sl 1), .v (.int .i64 x2)], [qb0, qb1] => (asO 1 false qb0).bind fun xl0 => (asO 6 true qb1).bind fun xl1 => laws_toFlowS.l3 k xl0 (fun (zl1 : List T_impl_Flow) => K (.exit 0) (stOf [(3, [some 6])] [.v (.sl 1)] [.rows 1 false xl0, .rows 6 true zl1])) k x2 xl1
  | _, _ => none
def laws_toFlowS.Γ (k : Nat) : Ct κ := assoc [(33, laws_toFlow.C k)]
def laws_toFlowS.LH (k : Nat) : Nat → Option (LHi κ) := assoc [(3, ⟨1, [(0, [some 1]), (3, [some 6]), (4, [])], [(3, [some 6])], @laws_toFlowS.h3 k⟩)]
theorem laws_toFlowS.hΓ (k : Nat) : ∀ f g, laws_toFlowS.Γ k f = some g → CSound Tryd.prog f g := G_cons (laws_toFlow.ok k) G_nil
theorem laws_toFlowS.e3 {R : Type} (K : Ex → St κ → Option R) (k : Nat) (xl0 : List T_laws_Flow) : ∀ (n : Nat) (x2 : Int) (xl1 : List T_impl_Flow), loopN 1 (Code.den ti (laws_toFlowS.Γ k) (laws_toFlowS.LH k) (loopAt Tryd.f22 0)) [(0, [some 1]), (3, [some 6]), (4, [])] [(3, [some 6])] K n [.v (.sl 0), .v (.sl 1), .v (.int .i64 x2)] [.rows 1 false xl0, .rows 6 true xl1] = laws_toFlowS.l3 k xl0 (fun (zl1 : List T_impl_Flow) => K (.exit 0) (stOf [(3, [some 6])] [.v (.sl 1)] [.rows 1 false xl0, .rows 6 true zl1])) n x2 xl1
  | 0, _, _ => rfl
  | n + 1, x2, xl1 => (show loopN 1 (Code.den ti (laws_toFlowS.Γ k) (laws_toFlowS.LH k) (loopAt Tryd.f22 0)) [(0, [some 1]), (3, [some 6]), (4, [])] [(3, [some 6])] K (n + 1) [.v (.sl 0), .v (.sl 1), .v (.int .i64 x2)] [.rows 1 false xl0, .rows 6 true xl1] = laws_toFlowS.L3 k xl0 (fun (zl1 : List T_impl_Flow) => K (.exit 0) (stOf [(3, [some 6])] [.v (.sl 1)] [.rows 1 false xl0, .rows 6 true zl1])) (fun (x2' : Int) (xl1' : List T_impl_Flow) => loopN 1 (Code.den ti (laws_toFlowS.Γ k) (laws_toFlowS.LH k) (loopAt Tryd.f22 0)) [(0, [some 1]), (3, [some 6]), (4, [])] [(3, [some 6])] K n [.v (.sl 0), .v (.sl 1), .v (.int .i64 x2')] [.rows 1 false xl0, .rows 6 true xl1']) x2 xl1 by kernel_rfl).trans (congrArg (fun rec => laws_toFlowS.L3 k xl0 (fun (zl1 : List T_impl_Flow) => K (.exit 0) (stOf [(3, [some 6])] [.v (.sl 1)] [.rows 1 false xl0, .rows 6 true zl1])) rec x2 xl1) (funext fun x2' => funext fun xl1' => laws_toFlowS.e3 K k xl0 n x2' xl1'))
theorem laws_toFlowS.q3 (k : Nat) {R : Type} (K : Ex → St κ → Option R) (vs : List AV) (bs : List (Blk κ)) (r : R) (h : laws_toFlowS.h3 k K vs bs = some r) : ∃ n, loopN 1 (Code.den ti (laws_toFlowS.Γ k) (laws_toFlowS.LH k) (loopAt Tryd.f22 0)) [(0, [some 1]), (3, [some 6]), (4, [])] [(3, [some 6])] K n vs bs = some r := by
  unfold laws_toFlowS.h3 at h
  split at h
  · obtain ⟨_, rfl, h_1⟩ := asO_bind h
    obtain ⟨_, rfl, h_2⟩ := asO_bind h_1
    exact ⟨k, (laws_toFlowS.e3 K k _ k _ _).trans h_2⟩
  · cases h
theorem laws_toFlowS.lok (k : Nat) : LOK ti (laws_toFlowS.Γ k) (laws_toFlowS.LH k) 1 (loopsOf (bodyOf Tryd.f22)) :=
  (show loopsOf (bodyOf Tryd.f22) = [loopAt Tryd.f22 0] by kernel_rfl) ▸ (LOK_cons (g := ⟨1, [(0, [some 1]), (3, [some 6]), (4, [])], [(3, [some 6])], @laws_toFlowS.h3 k⟩) (by kernel_rfl) rfl (fun K vs xs r h => laws_toFlowS.q3 k K vs xs r h) (LOK_nil))
def laws_toFlowS.sig : List PSh := [.one (.ro 1)]
def laws_toFlowS.g (y : List T_impl_Flow) : Ret κ := ⟨.v (.sl 1), [], [.rows 6 true y]⟩
def laws_toFlowS.out (r : Ret κ) : Option (List T_impl_Flow) :=
  match r with
  | ⟨.v (.sl 1), [], [q0]⟩ => (asO 6 true q0).bind fun z0 => some (z0)
  | _ => none
theorem laws_toFlowS.out_ok (r : Ret κ) (y : List T_impl_Flow) (h : laws_toFlowS.out r = some y) : r = laws_toFlowS.g y := by
  unfold laws_toFlowS.out at h
  split at h
  · obtain ⟨_, rfl, h_1⟩ := asO_bind h
    obtain rfl := Option.some.inj h_1
    rfl
  · cases h
def laws_toFlowS.body (k : Nat) (vs : List AV) (bs : List (Blk κ)) : Option (Lf κ) :=
  match vs, bs with
  | [.v (.sl 0)], [qb0] => (asO 1 false qb0).bind fun a0 => some ⟨List T_impl_Flow, laws_toFlowS.f k a0, laws_toFlowS.g⟩
  | _, _ => none
def laws_toFlowS.C (k : Nat) : Nat → List AV → AP κ AV := contract laws_toFlowS.sig (laws_toFlowS.body k)
theorem laws_toFlowS.den (k : Nat) (a0 : List T_laws_Flow) : Code.den ti (laws_toFlowS.Γ k) (laws_toFlowS.LH k) (bodyOf Tryd.f22) (finK ti Tryd.f22.results.toList [(2, [some 6])] (flags laws_toFlowS.sig).length (rwI (flags laws_toFlowS.sig) 0) laws_toFlowS.out) ⟨envOf (([.v (.sl 0)]).zipIdx.map fun q => (q.2, q.1)), hpOf [.rows 1 false a0], (flags laws_toFlowS.sig).length⟩ = laws_toFlowS.f k a0 := by kernel_rfl
theorem laws_toFlowS.ok (k : Nat) : CSound Tryd.prog 22 (laws_toFlowS.C k) :=
  csound κ_ok mixed tok (laws_toFlowS.hΓ k) (LH := laws_toFlowS.LH k) (fn := Tryd.f22) (c := bodyOf Tryd.f22) Tryd.func22 rfl Tryd.call22 laws_toFlowS.sig [(2, [some 6])] (laws_toFlowS.body k) (by kernel_rfl) (laws_toFlowS.lok k) (by decide) fun vs bs lf y hl hb hy => by
    unfold laws_toFlowS.body at hb
    split at hb
    · obtain ⟨_, rfl, hb_1⟩ := asO_bind hb
      obtain rfl := Option.some.inj hb_1
      exact ⟨laws_toFlowS.out, laws_toFlowS.out_ok, (laws_toFlowS.den k _).trans hy⟩
    · cases hb
/-! ### laws_toSite -/
def laws_toSite.f (k : Nat) (a0_0 : Int) (a0_1 : Int) : Option (Int × Int) :=
  some (a0_0, a0_1)
def laws_toSite.Γ (k : Nat) : Ct κ := assoc []
def laws_toSite.LH (k : Nat) : Nat → Option (LHi κ) := assoc []
theorem laws_toSite.hΓ (k : Nat) : ∀ f g, laws_toSite.Γ k f = some g → CSound Tryd.prog f g := G_nil
theorem laws_toSite.lok (k : Nat) : LOK ti (laws_toSite.Γ k) (laws_toSite.LH k) 0 (loopsOf (bodyOf Tryd.f42)) :=
  (show loopsOf (bodyOf Tryd.f42) = [] by kernel_rfl) ▸ LOK_nil
def laws_toSite.sig : List PSh := [.agg [.sc, .sc]]
def laws_toSite.g (y : Int × Int) : Ret κ := ⟨.agg [.int .i64 y.1, .int .i64 y.2], [], []⟩
def laws_toSite.out (r : Ret κ) : Option (Int × Int) :=
  match r with
  | ⟨.agg [.int .i64 z0, .int .i64 z1], [], []⟩ => some (z0, z1)
  | _ => none
theorem laws_toSite.out_ok (r : Ret κ) (y : Int × Int) (h : laws_toSite.out r = some y) : r = laws_toSite.g y := by
  unfold laws_toSite.out at h
  split at h
  · obtain rfl := Option.some.inj h
    rfl
  · cases h
def laws_toSite.body (k : Nat) (vs : List AV) (bs : List (Blk κ)) : Option (Lf κ) :=
  match vs, bs with
  | [.agg [.int .i64 a0_0, .int .i64 a0_1]], [] => some ⟨Int × Int, laws_toSite.f k a0_0 a0_1, laws_toSite.g⟩
  | _, _ => none
def laws_toSite.C (k : Nat) : Nat → List AV → AP κ AV := contract laws_toSite.sig (laws_toSite.body k)
theorem laws_toSite.den (k : Nat) (a0_0 : Int) (a0_1 : Int) : Code.den ti (laws_toSite.Γ k) (laws_toSite.LH k) (bodyOf Tryd.f42) (finK ti Tryd.f42.results.toList [] (flags laws_toSite.sig).length (rwI (flags laws_toSite.sig) 0) laws_toSite.out) ⟨envOf (([.agg [.int .i64 a0_0, .int .i64 a0_1]]).zipIdx.map fun q => (q.2, q.1)), hpOf [], (flags laws_toSite.sig).length⟩ = laws_toSite.f k a0_0 a0_1 := by kernel_rfl
theorem laws_toSite.ok (k : Nat) : CSound Tryd.prog 42 (laws_toSite.C k) :=
  csound κ_ok mixed tok (laws_toSite.hΓ k) (LH := laws_toSite.LH k) (fn := Tryd.f42) (c := bodyOf Tryd.f42) Tryd.func42 rfl Tryd.call42 laws_toSite.sig [] (laws_toSite.body k) (by kernel_rfl) (laws_toSite.lok k) (by decide) fun vs bs lf y hl hb hy => by
    unfold laws_toSite.body at hb
    split at hb
    · obtain rfl := Option.some.inj hb
      exact ⟨laws_toSite.out, laws_toSite.out_ok, (laws_toSite.den k _ _).trans hy⟩
    · cases hb
/-! ### laws_toRule -/
def laws_toRule.f (k : Nat) (a0_0 : Int) (a0_1 : Int) (a0_2 : Int) (a0_3 : Int) (a0_4 : Int) (a0_5 : Int) (a0_6 : Int) (a0_7 : Int) : Option (Int × Int × Int × Int × Int × Int × Int × Int) :=
  (laws_toPattern.f k a0_2 a0_3).bind fun t1 => (laws_toSite.f k a0_6 a0_7).bind fun t2 => some (a0_0, a0_1, t1.1, t1.2, a0_4, a0_5, t2.1, t2.2)
def laws_toRule.Γ (k : Nat) : Ct κ := assoc [(41, laws_toPattern.C k), (42, laws_toSite.C k)]
def laws_toRule.LH (k : Nat) : Nat → Option (LHi κ) := assoc []
theorem laws_toRule.hΓ (k : Nat) : ∀ f g, laws_toRule.Γ k f = some g → CSound Tryd.prog f g := G_cons (laws_toPattern.ok k) (G_cons (laws_toSite.ok k) G_nil)
theorem laws_toRule.lok (k : Nat) : LOK ti (laws_toRule.Γ k) (laws_toRule.LH k) 0 (loopsOf (bodyOf Tryd.f34)) :=
  (show loopsOf (bodyOf Tryd.f34) = [] by kernel_rfl) ▸ LOK_nil
def laws_toRule.sig : List PSh := [.agg [.sc, .sc, .sc, .sc, .sc, .sc, .sc, .sc]]
def laws_toRule.g (y : Int × Int × Int × Int × Int × Int × Int × Int) : Ret κ := ⟨.agg [.int .i64 y.1, .int .i64 y.2.1, .int .i64 y.2.2.1, .int .i64 y.2.2.2.1, .int .i64 y.2.2.2.2.1, .int .i64 y.2.2.2.2.2.1, .int .i64 y.2.2.2.2.2.2.1, .int .i64 y.2.2.2.2.2.2.2], [], []⟩
def laws_toRule.out (r : Ret κ) : Option (Int × Int × Int × Int × Int × Int × Int × Int) :=
  match r with
  | ⟨.agg [.int .i64 z0, .int .i64 z1, .int .i64 z2, .int .i64 z3, .int .i64 z4, .int .i64 z5, .int .i64 z6, .int .i64 z7], [], []⟩ => some (z0, z1, z2, z3, z4, z5, z6, z7)
  | _ => none
theorem laws_toRule.out_ok (r : Ret κ) (y : Int × Int × Int × Int × Int × Int × Int × Int) (h : laws_toRule.out r = some y) : r = laws_toRule.g y := by
  unfold laws_toRule.out at h
  split at h
  · obtain rfl := Option.some.inj h
    rfl
  · cases h
def laws_toRule.body (k : Nat) (vs : List AV) (bs : List (Blk κ)) : Option (Lf κ) :=
  match vs, bs with
  | [.agg [.int .i64 a0_0, .int .i64 a0_1, .int .i64 a0_2, .int .i64 a0_3, .int .i64 a0_4, .int .i64 a0_5, .int .i64 a0_6, .int .i64 a0_7]], [] => some ⟨Int × Int × Int × Int × Int × Int × Int × Int, laws_toRule.f k a0_0 a0_1 a0_2 a0_3 a0_4 a0_5 a0_6 a0_7, laws_toRule.g⟩
  | _, _ => none
def laws_toRule.C (k : Nat) : Nat → List AV → AP κ AV := contract laws_toRule.sig (laws_toRule.body k)
theorem laws_toRule.den (k : Nat) (a0_0 : Int) (a0_1 : Int) (a0_2 : Int) (a0_3 : Int) (a0_4 : Int) (a0_5 : Int) (a0_6 : Int) (a0_7 : Int) : Code.den ti (laws_toRule.Γ k) (laws_toRule.LH k) (bodyOf Tryd.f34) (finK ti Tryd.f34.results.toList [] (flags laws_toRule.sig).length (rwI (flags laws_toRule.sig) 0) laws_toRule.out) ⟨envOf (([.agg [.int .i64 a0_0, .int .i64 a0_1, .int .i64 a0_2, .int .i64 a0_3, .int .i64 a0_4, .int .i64 a0_5, .int .i64 a0_6, .int .i64 a0_7]]).zipIdx.map fun q => (q.2, q.1)), hpOf [], (flags laws_toRule.sig).length⟩ = laws_toRule.f k a0_0 a0_1 a0_2 a0_3 a0_4 a0_5 a0_6 a0_7 := by kernel_rfl
theorem laws_toRule.ok (k : Nat) : CSound Tryd.prog 34 (laws_toRule.C k) :=
  csound κ_ok mixed tok (laws_toRule.hΓ k) (LH := laws_toRule.LH k) (fn := Tryd.f34) (c := bodyOf Tryd.f34) Tryd.func34 rfl Tryd.call34 laws_toRule.sig [] (laws_toRule.body k) (by kernel_rfl) (laws_toRule.lok k) (by decide) fun vs bs lf y hl hb hy => by
    unfold laws_toRule.body at hb
    split at hb
    · obtain rfl := Option.some.inj hb
      exact ⟨laws_toRule.out, laws_toRule.out_ok, (laws_toRule.den k _ _ _ _ _ _ _ _).trans hy⟩
    · cases hb
/-! ### laws_toRuleS -/
def laws_toRuleS.L3 {R : Type} (k : Nat) (xl0 : List T_laws_Rule) (X0 : List T_impl_Rule → Option R) (rec : Int → List T_impl_Rule → Option R) (x2 : Int) (xl1 : List T_impl_Rule) : Option R :=
  (bif decide (x2 < (xl0.length : Int)) then (bif decide (0 ≤ x2) then (bif decide (x2 < (xl0.length : Int)) then (laws_toRule.f k ((rd_laws_Rule xl0 x2).f0) ((rd_laws_Rule xl0 x2).f1) ((rd_laws_Rule xl0 x2).f2.f0) ((rd_laws_Rule xl0 x2).f2.f1) ((rd_laws_Rule xl0 x2).f3) ((rd_laws_Rule xl0 x2).f4) ((rd_laws_Rule xl0 x2).f5.f0) ((rd_laws_Rule xl0 x2).f5.f1)).bind fun t1 => (bif decide (0 ≤ x2) then (bif decide (x2 < (xl1.length : Int)) then (let l2 : List T_impl_Rule := (xl1.set (x2).toNat (⟨t1.1, t1.2.1, (⟨t1.2.2.1, t1.2.2.2.1⟩ : T_impl_Pattern), t1.2.2.2.2.1, t1.2.2.2.2.2.1, (⟨t1.2.2.2.2.2.2.1, t1.2.2.2.2.2.2.2⟩ : T_impl_Site)⟩ : T_impl_Rule)); (rec (w64 (x2 + (1 : Int))) l2)) else none) else none) else none) else none) else (X0 xl1))
def laws_toRuleS.l3 {R : Type} (k : Nat) (xl0 : List T_laws_Rule) (X0 : List T_impl_Rule → Option R) : Nat → Int → List T_impl_Rule → Option R
  | 0 => fun _ _ => none
  | n + 1 => laws_toRuleS.L3 k xl0 X0 (laws_toRuleS.l3 k xl0 X0 n)
def laws_toRuleS.f (k : Nat) (a0 : List T_laws_Rule) : Option (List T_impl_Rule) :=
  (bif decide (0 ≤ (a0.length : Int)) then (bif decide (((a0.length : Int)).toNat * 64 ≤ cap48) then (laws_toRuleS.l3 k a0 (fun (y3 : List T_impl_Rule) => some y3) k (0 : Int) (List.replicate ((a0.length : Int)).toNat z_impl_Rule)) else none) else none)
def laws_toRuleS.h3 (k : Nat) {R : Type} (K : Ex → St κ → Option R) (vs : List AV) (bs : List (Blk κ)) : Option R :=
  match vs, bs with
  | [.v (.sl 0), .v (.sl 1), .v (.int .i64 x2)], [qb0, qb1] => (asO 2 false qb0).bind fun xl0 => (asO 7 true qb1).bind fun xl1 => laws_toRuleS.l3 k xl0 (fun (zl1 : List T_impl_Rule) => K (.exit 0) (stOf [(3, [some 7])] [.v (.sl 1)] [.rows 2 false xl0, .rows 7 true zl1])) k x2 xl1
  | _, _ => none
def laws_toRuleS.Γ (k : Nat) : Ct κ := assoc [(34, laws_toRule.C k)]
def laws_toRuleS.LH (k : Nat) : Nat → Option (LHi κ) := assoc [(3, ⟨1, [(0, [some 2]), (3, [some 7]), (4, [])], [(3, [some 7])], @laws_toRuleS.h3 k⟩)]
theorem laws_toRuleS.hΓ (k : Nat) : ∀ f g, laws_toRuleS.Γ k f = some g → CSound Tryd.prog f g := G_cons (laws_toRule.ok k) G_nil
theorem laws_toRuleS.e3 {R : Type} (K : Ex → St κ → Option R) (k : Nat) (xl0 : List T_laws_Rule) : ∀ (n : Nat) (x2 : Int) (xl1 : List T_impl_Rule), loopN 1 (Code.den ti (laws_toRuleS.Γ k) (laws_toRuleS.LH k) (loopAt Tryd.f23 0)) [(0, [some 2]), (3, [some 7]), (4, [])] [(3, [some 7])] K n [.v (.sl 0), .v (.sl 1), .v (.int .i64 x2)] [.rows 2 false xl0, .rows 7 true xl1] = laws_toRuleS.l3 k xl0 (fun (zl1 : List T_impl_Rule) => K (.exit 0) (stOf [(3, [some 7])] [.v (.sl 1)] [.rows 2 false xl0, .rows 7 true zl1])) n x2 xl1
  | 0, _, _ => rfl
  | n + 1, x2, xl1 => (show loopN 1 (Code.den ti (laws_toRuleS.Γ k) (laws_toRuleS.LH k) (loopAt Tryd.f23 0)) [(0, [some 2]), (3, [some 7]), (4, [])] [(3, [some 7])] K (n + 1) [.v (.sl 0), .v (.sl 1), .v (.int .i64 x2)] [.rows 2 false xl0, .rows 7 true xl1] = laws_toRuleS.L3 k xl0 (fun (zl1 : List T_impl_Rule) => K (.exit 0) (stOf [(3, [some 7])] [.v (.sl 1)] [.rows 2 false xl0, .rows 7 true zl1])) (fun (x2' : Int) (xl1' : List T_impl_Rule) => loopN 1 (Code.den ti (laws_toRuleS.Γ k) (laws_toRuleS.LH k) (loopAt Tryd.f23 0)) [(0, [some 2]), (3, [some 7]), (4, [])] [(3, [some 7])] K n [.v (.sl 0), .v (.sl 1), .v (.int .i64 x2')] [.rows 2 false xl0, .rows 7 true xl1']) x2 xl1 by kernel_rfl).trans (congrArg (fun rec => laws_toRuleS.L3 k xl0 (fun (zl1 : List T_impl_Rule) => K (.exit 0) (stOf [(3, [some 7])] [.v (.sl 1)] [.rows 2 false xl0, .rows 7 true zl1])) rec x2 xl1) (funext fun x2' => funext fun xl1' => laws_toRuleS.e3 K k xl0 n x2' xl1'))
theorem laws_toRuleS.q3 (k : Nat) {R : Type} (K : Ex → St κ → Option R) (vs : List AV) (bs : List (Blk κ)) (r : R) (h : laws_toRuleS.h3 k K vs bs = some r) : ∃ n, loopN 1 (Code.den ti (laws_toRuleS.Γ k) (laws_toRuleS.LH k) (loopAt Tryd.f23 0)) [(0, [some 2]), (3, [some 7]), (4, [])] [(3, [some 7])] K n vs bs = some r := by
  unfold laws_toRuleS.h3 at h
  split at h
  · obtain ⟨_, rfl, h_1⟩ := asO_bind h
    obtain ⟨_, rfl, h_2⟩ := asO_bind h_1
    exact ⟨k, (laws_toRuleS.e3 K k _ k _ _).trans h_2⟩
  · cases h
theorem laws_toRuleS.lok (k : Nat) : LOK ti (laws_toRuleS.Γ k) (laws_toRuleS.LH k) 1 (loopsOf (bodyOf Tryd.f23)) :=
  (show loopsOf (bodyOf Tryd.f23) = [loopAt Tryd.f23 0] by kernel_rfl) ▸ (LOK_cons (g := ⟨1, [(0, [some 2]), (3, [some 7]), (4, [])], [(3, [some 7])], @laws_toRuleS.h3 k⟩) (by kernel_rfl) rfl (fun K vs xs r h => laws_toRuleS.q3 k K vs xs r h) (LOK_nil))
def laws_toRuleS.sig : List PSh := [.one (.ro 2)]
def laws_toRuleS.g (y : List T_impl_Rule) : Ret κ := ⟨.v (.sl 1), [], [.rows 7 true y]⟩
def laws_toRuleS.out (r : Ret κ) : Option (List T_impl_Rule) :=
  match r with
  | ⟨.v (.sl 1), [], [q0]⟩ => (asO 7 true q0).bind fun z0 => some (z0)
  | _ => none
theorem laws_toRuleS.out_ok (r : Ret κ) (y : List T_impl_Rule) (h : laws_toRuleS.out r = some y) : r = laws_toRuleS.g y := by
  unfold laws_toRuleS.out at h
  split at h
  · obtain ⟨_, rfl, h_1⟩ := asO_bind h
    obtain rfl := Option.some.inj h_1
    rfl
  · cases h
def laws_toRuleS.body (k : Nat) (vs : List AV) (bs : List (Blk κ)) : Option (Lf κ) :=
  match vs, bs with
  | [.v (.sl 0)], [qb0] => (asO 2 false qb0).bind fun a0 => some ⟨List T_impl_Rule, laws_toRuleS.f k a0, laws_toRuleS.g⟩
  | _, _ => none
def laws_toRuleS.C (k : Nat) : Nat → List AV → AP κ AV := contract laws_toRuleS.sig (laws_toRuleS.body k)
theorem laws_toRuleS.den (k : Nat) (a0 : List T_laws_Rule) : Code.den ti (laws_toRuleS.Γ k) (laws_toRuleS.LH k) (bodyOf Tryd.f23) (finK ti Tryd.f23.results.toList [(2, [some 7])] (flags laws_toRuleS.sig).length (rwI (flags laws_toRuleS.sig) 0) laws_toRuleS.out) ⟨envOf (([.v (.sl 0)]).zipIdx.map fun q => (q.2, q.1)), hpOf [.rows 2 false a0], (flags laws_toRuleS.sig).length⟩ = laws_toRuleS.f k a0 := by kernel_rfl
theorem laws_toRuleS.ok (k : Nat) : CSound Tryd.prog 23 (laws_toRuleS.C k) :=
  csound κ_ok mixed tok (laws_toRuleS.hΓ k) (LH := laws_toRuleS.LH k) (fn := Tryd.f23) (c := bodyOf Tryd.f23) Tryd.func23 rfl Tryd.call23 laws_toRuleS.sig [(2, [some 7])] (laws_toRuleS.body k) (by kernel_rfl) (laws_toRuleS.lok k) (by decide) fun vs bs lf y hl hb hy => by
    unfold laws_toRuleS.body at hb
    split at hb
    · obtain ⟨_, rfl, hb_1⟩ := asO_bind hb
      obtain rfl := Option.some.inj hb_1
      exact ⟨laws_toRuleS.out, laws_toRuleS.out_ok, (laws_toRuleS.den k _).trans hy⟩
    · cases hb
/-! ### laws_toOp -/
def laws_toOp.f (k : Nat) (a0_0 : Int) (a0_1 : Int) (a0_2 : Int) (a0_3 : Int) : Option (Int × Int × Int × Int) :=
  some (a0_0, a0_1, a0_2, a0_3)
def laws_toOp.Γ (k : Nat) : Ct κ := assoc []
def laws_toOp.LH (k : Nat) : Nat → Option (LHi κ) := assoc []
theorem laws_toOp.hΓ (k : Nat) : ∀ f g, laws_toOp.Γ k f = some g → CSound Tryd.prog f g := G_nil
theorem laws_toOp.lok (k : Nat) : LOK ti (laws_toOp.Γ k) (laws_toOp.LH k) 0 (loopsOf (bodyOf Tryd.f35)) :=
  (show loopsOf (bodyOf Tryd.f35) = [] by kernel_rfl) ▸ LOK_nil
def laws_toOp.sig : List PSh := [.agg [.sc, .sc, .sc, .sc]]
def laws_toOp.g (y : Int × Int × Int × Int) : Ret κ := ⟨.agg [.int .i64 y.1, .int .i64 y.2.1, .int .i64 y.2.2.1, .int .i64 y.2.2.2], [], []⟩
def laws_toOp.out (r : Ret κ) : Option (Int × Int × Int × Int) :=
  match r with
  | ⟨.agg [.int .i64 z0, .int .i64 z1, .int .i64 z2, .int .i64 z3], [], []⟩ => some (z0, z1, z2, z3)
  | _ => none
theorem laws_toOp.out_ok (r : Ret κ) (y : Int × Int × Int × Int) (h : laws_toOp.out r = some y) : r = laws_toOp.g y := by
  unfold laws_toOp.out at h
  split at h
  · obtain rfl := Option.some.inj h
    rfl
  · cases h
def laws_toOp.body (k : Nat) (vs : List AV) (bs : List (Blk κ)) : Option (Lf κ) :=
  match vs, bs with
  | [.agg [.int .i64 a0_0, .int .i64 a0_1, .int .i64 a0_2, .int .i64 a0_3]], [] => some ⟨Int × Int × Int × Int, laws_toOp.f k a0_0 a0_1 a0_2 a0_3, laws_toOp.g⟩
  | _, _ => none
def laws_toOp.C (k : Nat) : Nat → List AV → AP κ AV := contract laws_toOp.sig (laws_toOp.body k)
theorem laws_toOp.den (k : Nat) (a0_0 : Int) (a0_1 : Int) (a0_2 : Int) (a0_3 : Int) : Code.den ti (laws_toOp.Γ k) (laws_toOp.LH k) (bodyOf Tryd.f35) (finK ti Tryd.f35.results.toList [] (flags laws_toOp.sig).length (rwI (flags laws_toOp.sig) 0) laws_toOp.out) ⟨envOf (([.agg [.int .i64 a0_0, .int .i64 a0_1, .int .i64 a0_2, .int .i64 a0_3]]).zipIdx.map fun q => (q.2, q.1)), hpOf [], (flags laws_toOp.sig).length⟩ = laws_toOp.f k a0_0 a0_1 a0_2 a0_3 := by kernel_rfl
theorem laws_toOp.ok (k : Nat) : CSound Tryd.prog 35 (laws_toOp.C k) :=
  csound κ_ok mixed tok (laws_toOp.hΓ k) (LH := laws_toOp.LH k) (fn := Tryd.f35) (c := bodyOf Tryd.f35) Tryd.func35 rfl Tryd.call35 laws_toOp.sig [] (laws_toOp.body k) (by kernel_rfl) (laws_toOp.lok k) (by decide) fun vs bs lf y hl hb hy => by
    unfold laws_toOp.body at hb
    split at hb
    · obtain rfl := Option.some.inj hb
      exact ⟨laws_toOp.out, laws_toOp.out_ok, (laws_toOp.den k _ _ _ _).trans hy⟩
    · cases hb
/-! ### laws_toOpS -/
def laws_toOpS.L3 {R : Type} (k : Nat) (xl0 : List T_laws_Op) (X0 : List T_impl_Op → Option R) (rec : Int → List T_impl_Op → Option R) (x2 : Int) (xl1 : List T_impl_Op) : Option R :=
  (bif decide (x2 < (xl0.length : Int)) then (bif decide (0 ≤ x2) then (bif decide (x2 < (xl0.length : Int)) then (laws_toOp.f k ((rd_laws_Op xl0 x2).f0) ((rd_laws_Op xl0 x2).f1) ((rd_laws_Op xl0 x2).f2) ((rd_laws_Op xl0 x2).f3)).bind fun t1 => (bif decide (0 ≤ x2) then (bif decide (x2 < (xl1.length : Int)) then (let l2 : List T_impl_Op := (xl1.set (x2).toNat (⟨t1.1, t1.2.1, t1.2.2.1, t1.2.2.2⟩ : T_impl_Op)); (rec (w64 (x2 + (1 : Int))) l2)) else none) else none) else none) else none) else (X0 xl1))
def laws_toOpS.l3 {R : Type} (k : Nat) (xl0 : List T_laws_Op) (X0 : List T_impl_Op → Option R) : Nat → Int → List T_impl_Op → Option R
  | 0 => fun _ _ => none
  | n + 1 => laws_toOpS.L3 k xl0 X0 (laws_toOpS.l3 k xl0 X0 n)
def laws_toOpS.f (k : Nat) (a0 : List T_laws_Op) : Option (List T_impl_Op) :=
  (bif decide (0 ≤ (a0.length : Int)) then (bif decide (((a0.length : Int)).toNat * 32 ≤ cap48) then (laws_toOpS.l3 k a0 (fun (y3 : List T_impl_Op) => some y3) k (0 : Int) (List.replicate ((a0.length : Int)).toNat z_impl_Op)) else none) else none)
def laws_toOpS.h3 (k : Nat) {R : Type} (K : Ex → St κ → Option R) (vs : List AV) (bs : List (Blk κ)) : Option R :=
  match vs, bs with
  | [.v (.sl 0), .v (.sl 1), .v (.int .i64 x2)], [qb0, qb1] => (asO 3 false qb0).bind fun xl0 => (asO 8 true qb1).bind fun xl1 => laws_toOpS.l3 k xl0 (fun (zl1 : List T_impl_Op) => K (.exit 0) (stOf [(3, [some 8])] [.v (.sl 1)] [.rows 3 false xl0, .rows 8 true zl1])) k x2 xl1
  | _, _ => none
def laws_toOpS.Γ (k : Nat) : Ct κ := assoc [(35, laws_toOp.C k)]
def laws_toOpS.LH (k : Nat) : Nat → Option (LHi κ) := assoc [(3, ⟨1, [(0, [some 3]), (3, [some 8]), (4, [])], [(3, [some 8])], @laws_toOpS.h3 k⟩)]
theorem laws_toOpS.hΓ (k : Nat) : ∀ f g, laws_toOpS.Γ k f = some g → CSound Tryd.prog f g := G_cons (laws_toOp.ok k) G_nil
theorem laws_toOpS.e3 {R : Type} (K : Ex → St κ → Option R) (k : Nat) (xl0 : List T_laws_Op) : ∀ (n : Nat) (x2 : Int) (xl1 : List T_impl_Op), loopN 1 (Code.den ti (laws_toOpS.Γ k) (laws_toOpS.LH k) (loopAt Tryd.f24 0)) [(0, [some 3]), (3, [some 8]), (4, [])] [(3, [some 8])] K n [.v (.sl 0), .v (.sl 1), .v (.int .i64 x2)] [.rows 3 false xl0, .rows 8 true xl1] = laws_toOpS.l3 k xl0 (fun (zl1 : List T_impl_Op) => K (.exit 0) (stOf [(3, [some 8])] [.v (.sl 1)] [.rows 3 false xl0, .rows 8 true zl1])) n x2 xl1
  | 0, _, _ => rfl
  | n + 1, x2, xl1 => (show loopN 1 (Code.den ti (laws_toOpS.Γ k) (laws_toOpS.LH k) (loopAt Tryd.f24 0)) [(0, [some 3]), (3, [some 8]), (4, [])] [(3, [some 8])] K (n + 1) [.v (.sl 0), .v (.sl 1), .v (.int .i64 x2)] [.rows 3 false xl0, .rows 8 true xl1] = laws_toOpS.L3 k xl0 (fun (zl1 : List T_impl_Op) => K (.exit 0) (stOf [(3, [some 8])] [.v (.sl 1)] [.rows 3 false xl0, .rows 8 true zl1])) (fun (x2' : Int) (xl1' : List T_impl_Op) => loopN 1 (Code.den ti (laws_toOpS.Γ k) (laws_toOpS.LH k) (loopAt Tryd.f24 0)) [(0, [some 3]), (3, [some 8]), (4, [])] [(3, [some 8])] K n [.v (.sl 0), .v (.sl 1), .v (.int .i64 x2')] [.rows 3 false xl0, .rows 8 true xl1']) x2 xl1 by kernel_rfl).trans (congrArg (fun rec => laws_toOpS.L3 k xl0 (fun (zl1 : List T_impl_Op) => K (.exit 0) (stOf [(3, [some 8])] [.v (.sl 1)] [.rows 3 false xl0, .rows 8 true zl1])) rec x2 xl1) (funext fun x2' => funext fun xl1' => laws_toOpS.e3 K k xl0 n x2' xl1'))
theorem laws_toOpS.q3 (k : Nat) {R : Type} (K : Ex → St κ → Option R) (vs : List AV) (bs : List (Blk κ)) (r : R) (h : laws_toOpS.h3 k K vs bs = some r) : ∃ n, loopN 1 (Code.den ti (laws_toOpS.Γ k) (laws_toOpS.LH k) (loopAt Tryd.f24 0)) [(0, [some 3]), (3, [some 8]), (4, [])] [(3, [some 8])] K n vs bs = some r := by
  unfold laws_toOpS.h3 at h
  split at h
  · obtain ⟨_, rfl, h_1⟩ := asO_bind h
    obtain ⟨_, rfl, h_2⟩ := asO_bind h_1
    exact ⟨k, (laws_toOpS.e3 K k _ k _ _).trans h_2⟩
  · cases h
theorem laws_toOpS.lok (k : Nat) : LOK ti (laws_toOpS.Γ k) (laws_toOpS.LH k) 1 (loopsOf (bodyOf Tryd.f24)) :=
  (show loopsOf (bodyOf Tryd.f24) = [loopAt Tryd.f24 0] by kernel_rfl) ▸ (LOK_cons (g := ⟨1, [(0, [some 3]), (3, [some 8]), (4, [])], [(3, [some 8])], @laws_toOpS.h3 k⟩) (by kernel_rfl) rfl (fun K vs xs r h => laws_toOpS.q3 k K vs xs r h) (LOK_nil))
def laws_toOpS.sig : List PSh := [.one (.ro 3)]
def laws_toOpS.g (y : List T_impl_Op) : Ret κ := ⟨.v (.sl 1), [], [.rows 8 true y]⟩
def laws_toOpS.out (r : Ret κ) : Option (List T_impl_Op) :=
  match r with
  | ⟨.v (.sl 1), [], [q0]⟩ => (asO 8 true q0).bind fun z0 => some (z0)
  | _ => none
theorem laws_toOpS.out_ok (r : Ret κ) (y : List T_impl_Op) (h : laws_toOpS.out r = some y) : r = laws_toOpS.g y := by
  unfold laws_toOpS.out at h
  split at h
  · obtain ⟨_, rfl, h_1⟩ := asO_bind h
    obtain rfl := Option.some.inj h_1
    rfl
  · cases h
def laws_toOpS.body (k : Nat) (vs : List AV) (bs : List (Blk κ)) : Option (Lf κ) :=
  match vs, bs with
  | [.v (.sl 0)], [qb0] => (asO 3 false qb0).bind fun a0 => some ⟨List T_impl_Op, laws_toOpS.f k a0, laws_toOpS.g⟩
  | _, _ => none
def laws_toOpS.C (k : Nat) : Nat → List AV → AP κ AV := contract laws_toOpS.sig (laws_toOpS.body k)
theorem laws_toOpS.den (k : Nat) (a0 : List T_laws_Op) : Code.den ti (laws_toOpS.Γ k) (laws_toOpS.LH k) (bodyOf Tryd.f24) (finK ti Tryd.f24.results.toList [(2, [some 8])] (flags laws_toOpS.sig).length (rwI (flags laws_toOpS.sig) 0) laws_toOpS.out) ⟨envOf (([.v (.sl 0)]).zipIdx.map fun q => (q.2, q.1)), hpOf [.rows 3 false a0], (flags laws_toOpS.sig).length⟩ = laws_toOpS.f k a0 := by kernel_rfl
theorem laws_toOpS.ok (k : Nat) : CSound Tryd.prog 24 (laws_toOpS.C k) :=
  csound κ_ok mixed tok (laws_toOpS.hΓ k) (LH := laws_toOpS.LH k) (fn := Tryd.f24) (c := bodyOf Tryd.f24) Tryd.func24 rfl Tryd.call24 laws_toOpS.sig [(2, [some 8])] (laws_toOpS.body k) (by kernel_rfl) (laws_toOpS.lok k) (by decide) fun vs bs lf y hl hb hy => by
    unfold laws_toOpS.body at hb
    split at hb
    · obtain ⟨_, rfl, hb_1⟩ := asO_bind hb
      obtain rfl := Option.some.inj hb_1
      exact ⟨laws_toOpS.out, laws_toOpS.out_ok, (laws_toOpS.den k _).trans hy⟩
    · cases hb
end Go.Proofs.YthingkcckjiniaaDoor.PFnExactSnapshotText
