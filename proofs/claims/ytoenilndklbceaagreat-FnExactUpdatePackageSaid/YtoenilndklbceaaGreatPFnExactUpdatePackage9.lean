/- What the functions that the law FnExactUpdatePackage reaches come to; no conditions. -/
import Derived.Test.YtoenilndklbceaaGreatPFnExactUpdatePackage8
set_option linter.unusedVariables false
set_option maxRecDepth 100000
namespace Go.Proofs.YtoenilndklbceaaGreat.PFnExactUpdatePackage
open Go Go.Eng Go.Proofs
/-! ### impl_IsWider -/
def impl_IsWider.f (k : Nat) (a0_0 : Int) (a0_1 : Int) (a0_2 : Int) (a0_3 : List T_impl_Grant) (a0_4 : List T_impl_Flow) (a0_5 : List T_impl_Rule) (a0_6 : List T_impl_Op) (a0_7 : Int) (a1_0 : Int) (a1_1 : Int) (a1_2 : Int) (a1_3 : List T_impl_Grant) (a1_4 : List T_impl_Flow) (a1_5 : List T_impl_Rule) (a1_6 : List T_impl_Op) (a1_7 : Int) : Option Bool :=
  (impl_IsWithinGrants.f k a1_3 a0_3).bind fun t1 => (bif !t1 then some true else (impl_FlowsWithin.f k a1_4 a0_4).bind fun t2 => some (!t2))
def impl_IsWider.Γ (k : Nat) : Ct κ := assoc [(27, impl_IsWithinGrants.C k), (28, impl_FlowsWithin.C k)]
def impl_IsWider.LH (k : Nat) : Nat → Option (LHi κ) := assoc []
theorem impl_IsWider.hΓ (k : Nat) : ∀ f g, impl_IsWider.Γ k f = some g → CSound Tryz.prog f g := G_cons (impl_IsWithinGrants.ok k) (G_cons (impl_FlowsWithin.ok k) G_nil)
theorem impl_IsWider.lok (k : Nat) : LOK ti (impl_IsWider.Γ k) (impl_IsWider.LH k) 8 (loopsOf (bodyOf Tryz.f30)) :=
  (show loopsOf (bodyOf Tryz.f30) = [] by kernel_rfl) ▸ LOK_nil
def impl_IsWider.sig : List PSh := [.agg [.sc, .sc, .sc, .ro 4, .ro 5, .ro 6, .ro 7, .sc], .agg [.sc, .sc, .sc, .ro 4, .ro 5, .ro 6, .ro 7, .sc]]
def impl_IsWider.g (y : Bool) : Ret κ := ⟨.v (.bool y), [], []⟩
def impl_IsWider.out (r : Ret κ) : Option Bool :=
  match r with
  | ⟨.v (.bool z0), [], []⟩ => some (z0)
  | _ => none
theorem impl_IsWider.out_ok (r : Ret κ) (y : Bool) (h : impl_IsWider.out r = some y) : r = impl_IsWider.g y := by
  unfold impl_IsWider.out at h
  split at h
  · obtain rfl := Option.some.inj h
    rfl
  · cases h
def impl_IsWider.body (k : Nat) (vs : List AV) (bs : List (Blk κ)) : Option (Lf κ) :=
  match vs, bs with
  | [.agg [.int .i64 a0_0, .int .i64 a0_1, .int .i64 a0_2, .sl 0, .sl 1, .sl 2, .sl 3, .int .i64 a0_7], .agg [.int .i64 a1_0, .int .i64 a1_1, .int .i64 a1_2, .sl 4, .sl 5, .sl 6, .sl 7, .int .i64 a1_7]], [qb0, qb1, qb2, qb3, qb4, qb5, qb6, qb7] => (asO 4 false qb0).bind fun a0_3 => (asO 5 false qb1).bind fun a0_4 => (asO 6 false qb2).bind fun a0_5 => (asO 7 false qb3).bind fun a0_6 => (asO 4 false qb4).bind fun a1_3 => (asO 5 false qb5).bind fun a1_4 => (asO 6 false qb6).bind fun a1_5 => (asO 7 false qb7).bind fun a1_6 => some ⟨Bool, impl_IsWider.f k a0_0 a0_1 a0_2 a0_3 a0_4 a0_5 a0_6 a0_7 a1_0 a1_1 a1_2 a1_3 a1_4 a1_5 a1_6 a1_7, impl_IsWider.g⟩
  | _, _ => none
def impl_IsWider.C (k : Nat) : Nat → List AV → AP κ AV := contract impl_IsWider.sig (impl_IsWider.body k)
theorem impl_IsWider.den (k : Nat) (a0_0 : Int) (a0_1 : Int) (a0_2 : Int) (a0_3 : List T_impl_Grant) (a0_4 : List T_impl_Flow) (a0_5 : List T_impl_Rule) (a0_6 : List T_impl_Op) (a0_7 : Int) (a1_0 : Int) (a1_1 : Int) (a1_2 : Int) (a1_3 : List T_impl_Grant) (a1_4 : List T_impl_Flow) (a1_5 : List T_impl_Rule) (a1_6 : List T_impl_Op) (a1_7 : Int) : Code.den ti (impl_IsWider.Γ k) (impl_IsWider.LH k) (bodyOf Tryz.f30) (finK ti Tryz.f30.results.toList [] (flags impl_IsWider.sig).length (rwI (flags impl_IsWider.sig) 0) impl_IsWider.out) ⟨envOf (([.agg [.int .i64 a0_0, .int .i64 a0_1, .int .i64 a0_2, .sl 0, .sl 1, .sl 2, .sl 3, .int .i64 a0_7], .agg [.int .i64 a1_0, .int .i64 a1_1, .int .i64 a1_2, .sl 4, .sl 5, .sl 6, .sl 7, .int .i64 a1_7]]).zipIdx.map fun q => (q.2, q.1)), hpOf [.rows 4 false a0_3, .rows 5 false a0_4, .rows 6 false a0_5, .rows 7 false a0_6, .rows 4 false a1_3, .rows 5 false a1_4, .rows 6 false a1_5, .rows 7 false a1_6], (flags impl_IsWider.sig).length⟩ = impl_IsWider.f k a0_0 a0_1 a0_2 a0_3 a0_4 a0_5 a0_6 a0_7 a1_0 a1_1 a1_2 a1_3 a1_4 a1_5 a1_6 a1_7 := by kernel_rfl
theorem impl_IsWider.ok (k : Nat) : CSound Tryz.prog 30 (impl_IsWider.C k) :=
  csound κ_ok mixed tok (impl_IsWider.hΓ k) (LH := impl_IsWider.LH k) (fn := Tryz.f30) (c := bodyOf Tryz.f30) Tryz.func30 rfl Tryz.call30 impl_IsWider.sig [] (impl_IsWider.body k) (by kernel_rfl) (impl_IsWider.lok k) (by decide) fun vs bs lf y hl hb hy => by
    unfold impl_IsWider.body at hb
    split at hb
    · obtain ⟨_, rfl, hb_1⟩ := asO_bind hb
      obtain ⟨_, rfl, hb_2⟩ := asO_bind hb_1
      obtain ⟨_, rfl, hb_3⟩ := asO_bind hb_2
      obtain ⟨_, rfl, hb_4⟩ := asO_bind hb_3
      obtain ⟨_, rfl, hb_5⟩ := asO_bind hb_4
      obtain ⟨_, rfl, hb_6⟩ := asO_bind hb_5
      obtain ⟨_, rfl, hb_7⟩ := asO_bind hb_6
      obtain ⟨_, rfl, hb_8⟩ := asO_bind hb_7
      obtain rfl := Option.some.inj hb_8
      exact ⟨impl_IsWider.out, impl_IsWider.out_ok, (impl_IsWider.den k _ _ _ _ _ _ _ _ _ _ _ _ _ _ _ _).trans hy⟩
    · cases hb
/-! ### impl_UpdateCode -/
def impl_UpdateCode.f (k : Nat) (a0 : Int) (a1_0 : Int) (a1_1 : Int) (a1_2 : Int) (a1_3 : List T_impl_Grant) (a1_4 : List T_impl_Flow) (a1_5 : List T_impl_Rule) (a1_6 : List T_impl_Op) (a1_7 : Int) (a2_0 : Int) (a2_1 : Int) (a2_2 : Int) (a2_3 : List T_impl_Grant) (a2_4 : List T_impl_Flow) (a2_5 : List T_impl_Rule) (a2_6 : List T_impl_Op) (a2_7 : Int) (a3 : Bool) : Option Int :=
  (impl_IsPackage.f k a1_0 a1_1 a1_2 a1_3 a1_4 a1_5 a1_6 a1_7).bind fun t1 => (bif !t1 then some (1 : Int) else (impl_ReviewPackage.f k a0 a2_0 a2_1 a2_2 a2_3 a2_4 a2_5 a2_6 a2_7).bind fun t2 => (bif (t2 != (0 : Int)) then some (1 : Int) else (bif (a1_0 != a2_0) then some (1 : Int) else (bif (a1_1 != a2_1) then some (1 : Int) else (bif decide (a2_2 ≤ a1_2) then some (2 : Int) else (impl_IsWider.f k a1_0 a1_1 a1_2 a1_3 a1_4 a1_5 a1_6 a1_7 a2_0 a2_1 a2_2 a2_3 a2_4 a2_5 a2_6 a2_7).bind fun t3 => (bif t3 then (bif !a3 then some (3 : Int) else some (0 : Int)) else some (0 : Int)))))))
def impl_UpdateCode.Γ (k : Nat) : Ct κ := assoc [(53, impl_IsPackage.C k), (26, impl_ReviewPackage.C k), (30, impl_IsWider.C k)]
def impl_UpdateCode.LH (k : Nat) : Nat → Option (LHi κ) := assoc []
theorem impl_UpdateCode.hΓ (k : Nat) : ∀ f g, impl_UpdateCode.Γ k f = some g → CSound Tryz.prog f g := G_cons (impl_IsPackage.ok k) (G_cons (impl_ReviewPackage.ok k) (G_cons (impl_IsWider.ok k) G_nil))
theorem impl_UpdateCode.lok (k : Nat) : LOK ti (impl_UpdateCode.Γ k) (impl_UpdateCode.LH k) 8 (loopsOf (bodyOf Tryz.f23)) :=
  (show loopsOf (bodyOf Tryz.f23) = [] by kernel_rfl) ▸ LOK_nil
def impl_UpdateCode.sig : List PSh := [.one .sc, .agg [.sc, .sc, .sc, .ro 4, .ro 5, .ro 6, .ro 7, .sc], .agg [.sc, .sc, .sc, .ro 4, .ro 5, .ro 6, .ro 7, .sc], .one .sc]
def impl_UpdateCode.g (y : Int) : Ret κ := ⟨.v (.int .i64 y), [], []⟩
def impl_UpdateCode.out (r : Ret κ) : Option Int :=
  match r with
  | ⟨.v (.int .i64 z0), [], []⟩ => some (z0)
  | _ => none
theorem impl_UpdateCode.out_ok (r : Ret κ) (y : Int) (h : impl_UpdateCode.out r = some y) : r = impl_UpdateCode.g y := by
  unfold impl_UpdateCode.out at h
  split at h
  · obtain rfl := Option.some.inj h
    rfl
  · cases h
def impl_UpdateCode.body (k : Nat) (vs : List AV) (bs : List (Blk κ)) : Option (Lf κ) :=
  match vs, bs with
  | [.v (.int .i64 a0), .agg [.int .i64 a1_0, .int .i64 a1_1, .int .i64 a1_2, .sl 0, .sl 1, .sl 2, .sl 3, .int .i64 a1_7], .agg [.int .i64 a2_0, .int .i64 a2_1, .int .i64 a2_2, .sl 4, .sl 5, .sl 6, .sl 7, .int .i64 a2_7], .v (.bool a3)], [qb0, qb1, qb2, qb3, qb4, qb5, qb6, qb7] => (asO 4 false qb0).bind fun a1_3 => (asO 5 false qb1).bind fun a1_4 => (asO 6 false qb2).bind fun a1_5 => (asO 7 false qb3).bind fun a1_6 => (asO 4 false qb4).bind fun a2_3 => (asO 5 false qb5).bind fun a2_4 => (asO 6 false qb6).bind fun a2_5 => (asO 7 false qb7).bind fun a2_6 => some ⟨Int, impl_UpdateCode.f k a0 a1_0 a1_1 a1_2 a1_3 a1_4 a1_5 a1_6 a1_7 a2_0 a2_1 a2_2 a2_3 a2_4 a2_5 a2_6 a2_7 a3, impl_UpdateCode.g⟩
  | _, _ => none
def impl_UpdateCode.C (k : Nat) : Nat → List AV → AP κ AV := contract impl_UpdateCode.sig (impl_UpdateCode.body k)
theorem impl_UpdateCode.den (k : Nat) (a0 : Int) (a1_0 : Int) (a1_1 : Int) (a1_2 : Int) (a1_3 : List T_impl_Grant) (a1_4 : List T_impl_Flow) (a1_5 : List T_impl_Rule) (a1_6 : List T_impl_Op) (a1_7 : Int) (a2_0 : Int) (a2_1 : Int) (a2_2 : Int) (a2_3 : List T_impl_Grant) (a2_4 : List T_impl_Flow) (a2_5 : List T_impl_Rule) (a2_6 : List T_impl_Op) (a2_7 : Int) (a3 : Bool) : Code.den ti (impl_UpdateCode.Γ k) (impl_UpdateCode.LH k) (bodyOf Tryz.f23) (finK ti Tryz.f23.results.toList [] (flags impl_UpdateCode.sig).length (rwI (flags impl_UpdateCode.sig) 0) impl_UpdateCode.out) ⟨envOf (([.v (.int .i64 a0), .agg [.int .i64 a1_0, .int .i64 a1_1, .int .i64 a1_2, .sl 0, .sl 1, .sl 2, .sl 3, .int .i64 a1_7], .agg [.int .i64 a2_0, .int .i64 a2_1, .int .i64 a2_2, .sl 4, .sl 5, .sl 6, .sl 7, .int .i64 a2_7], .v (.bool a3)]).zipIdx.map fun q => (q.2, q.1)), hpOf [.rows 4 false a1_3, .rows 5 false a1_4, .rows 6 false a1_5, .rows 7 false a1_6, .rows 4 false a2_3, .rows 5 false a2_4, .rows 6 false a2_5, .rows 7 false a2_6], (flags impl_UpdateCode.sig).length⟩ = impl_UpdateCode.f k a0 a1_0 a1_1 a1_2 a1_3 a1_4 a1_5 a1_6 a1_7 a2_0 a2_1 a2_2 a2_3 a2_4 a2_5 a2_6 a2_7 a3 := by kernel_rfl
theorem impl_UpdateCode.ok (k : Nat) : CSound Tryz.prog 23 (impl_UpdateCode.C k) :=
  csound κ_ok mixed tok (impl_UpdateCode.hΓ k) (LH := impl_UpdateCode.LH k) (fn := Tryz.f23) (c := bodyOf Tryz.f23) Tryz.func23 rfl Tryz.call23 impl_UpdateCode.sig [] (impl_UpdateCode.body k) (by kernel_rfl) (impl_UpdateCode.lok k) (by decide) fun vs bs lf y hl hb hy => by
    unfold impl_UpdateCode.body at hb
    split at hb
    · obtain ⟨_, rfl, hb_1⟩ := asO_bind hb
      obtain ⟨_, rfl, hb_2⟩ := asO_bind hb_1
      obtain ⟨_, rfl, hb_3⟩ := asO_bind hb_2
      obtain ⟨_, rfl, hb_4⟩ := asO_bind hb_3
      obtain ⟨_, rfl, hb_5⟩ := asO_bind hb_4
      obtain ⟨_, rfl, hb_6⟩ := asO_bind hb_5
      obtain ⟨_, rfl, hb_7⟩ := asO_bind hb_6
      obtain ⟨_, rfl, hb_8⟩ := asO_bind hb_7
      obtain rfl := Option.some.inj hb_8
      exact ⟨impl_UpdateCode.out, impl_UpdateCode.out_ok, (impl_UpdateCode.den k _ _ _ _ _ _ _ _ _ _ _ _ _ _ _ _ _ _).trans hy⟩
    · cases hb
/-! ### slices_Clone_Grant -/
def slices_Clone_Grant.f (k : Nat) (l : List T_impl_Grant) : Option (List T_impl_Grant) := cloneF 4 κ l
def slices_Clone_Grant.C (k : Nat) : Nat → List AV → AP κ AV := contract [.one (.ro 4)] (cloneB 4 κ)
theorem slices_Clone_Grant.ok (k : Nat) : CSound Tryz.prog 118 (slices_Clone_Grant.C k) :=
  clone_sound κ_ok mixed tok (fn := Tryz.f118) 4 Tryz.func118 rfl Tryz.call118 rfl rfl rfl rfl rfl rfl Tryz.underlying34 rfl (by kernel_rfl) (by kernel_rfl) (by kernel_rfl) rfl rfl rfl (fun l => by kernel_rfl) (fun q l => by cases q <;> kernel_rfl)
/-! ### slices_Clone_Flow -/
def slices_Clone_Flow.f (k : Nat) (l : List T_impl_Flow) : Option (List T_impl_Flow) := cloneF 5 κ l
def slices_Clone_Flow.C (k : Nat) : Nat → List AV → AP κ AV := contract [.one (.ro 5)] (cloneB 5 κ)
theorem slices_Clone_Flow.ok (k : Nat) : CSound Tryz.prog 119 (slices_Clone_Flow.C k) :=
  clone_sound κ_ok mixed tok (fn := Tryz.f119) 5 Tryz.func119 rfl Tryz.call119 rfl rfl rfl rfl rfl rfl Tryz.underlying35 rfl (by kernel_rfl) (by kernel_rfl) (by kernel_rfl) rfl rfl rfl (fun l => by kernel_rfl) (fun q l => by cases q <;> kernel_rfl)
/-! ### slices_Clone_Rule -/
def slices_Clone_Rule.f (k : Nat) (l : List T_impl_Rule) : Option (List T_impl_Rule) := cloneF 6 κ l
def slices_Clone_Rule.C (k : Nat) : Nat → List AV → AP κ AV := contract [.one (.ro 6)] (cloneB 6 κ)
theorem slices_Clone_Rule.ok (k : Nat) : CSound Tryz.prog 120 (slices_Clone_Rule.C k) :=
  clone_sound κ_ok mixed tok (fn := Tryz.f120) 6 Tryz.func120 rfl Tryz.call120 rfl rfl rfl rfl rfl rfl Tryz.underlying36 rfl (by kernel_rfl) (by kernel_rfl) (by kernel_rfl) rfl rfl rfl (fun l => by kernel_rfl) (fun q l => by cases q <;> kernel_rfl)
/-! ### slices_Clone_Op -/
def slices_Clone_Op.f (k : Nat) (l : List T_impl_Op) : Option (List T_impl_Op) := cloneF 7 κ l
def slices_Clone_Op.C (k : Nat) : Nat → List AV → AP κ AV := contract [.one (.ro 7)] (cloneB 7 κ)
theorem slices_Clone_Op.ok (k : Nat) : CSound Tryz.prog 121 (slices_Clone_Op.C k) :=
  clone_sound κ_ok mixed tok (fn := Tryz.f121) 7 Tryz.func121 rfl Tryz.call121 rfl rfl rfl rfl rfl rfl Tryz.underlying37 rfl (by kernel_rfl) (by kernel_rfl) (by kernel_rfl) rfl rfl rfl (fun l => by kernel_rfl) (fun q l => by cases q <;> kernel_rfl)
/-! ### impl_clonePackage -/
def impl_clonePackage.f (k : Nat) (a0_0 : Int) (a0_1 : Int) (a0_2 : Int) (a0_3 : List T_impl_Grant) (a0_4 : List T_impl_Flow) (a0_5 : List T_impl_Rule) (a0_6 : List T_impl_Op) (a0_7 : Int) : Option (Int × Int × Int × Int × List T_impl_Grant × List T_impl_Flow × List T_impl_Rule × List T_impl_Op) :=
  (slices_Clone_Grant.f k a0_3).bind fun t1 => (slices_Clone_Flow.f k a0_4).bind fun t2 => (slices_Clone_Rule.f k a0_5).bind fun t3 => (slices_Clone_Op.f k a0_6).bind fun t4 => some (a0_0, a0_1, a0_2, a0_7, t1, t2, t3, t4)
def impl_clonePackage.Γ (k : Nat) : Ct κ := assoc [(118, slices_Clone_Grant.C k), (119, slices_Clone_Flow.C k), (120, slices_Clone_Rule.C k), (121, slices_Clone_Op.C k)]
def impl_clonePackage.LH (k : Nat) : Nat → Option (LHi κ) := assoc []
theorem impl_clonePackage.hΓ (k : Nat) : ∀ f g, impl_clonePackage.Γ k f = some g → CSound Tryz.prog f g := G_cons (slices_Clone_Grant.ok k) (G_cons (slices_Clone_Flow.ok k) (G_cons (slices_Clone_Rule.ok k) (G_cons (slices_Clone_Op.ok k) G_nil)))
theorem impl_clonePackage.lok (k : Nat) : LOK ti (impl_clonePackage.Γ k) (impl_clonePackage.LH k) 4 (loopsOf (bodyOf Tryz.f60)) :=
  (show loopsOf (bodyOf Tryz.f60) = [] by kernel_rfl) ▸ LOK_nil
def impl_clonePackage.sig : List PSh := [.agg [.sc, .sc, .sc, .ro 4, .ro 5, .ro 6, .ro 7, .sc]]
def impl_clonePackage.g (y : Int × Int × Int × Int × List T_impl_Grant × List T_impl_Flow × List T_impl_Rule × List T_impl_Op) : Ret κ := ⟨.agg [.int .i64 y.1, .int .i64 y.2.1, .int .i64 y.2.2.1, .sl 4, .sl 5, .sl 6, .sl 7, .int .i64 y.2.2.2.1], [], [.rows 4 true y.2.2.2.2.1, .rows 5 true y.2.2.2.2.2.1, .rows 6 true y.2.2.2.2.2.2.1, .rows 7 true y.2.2.2.2.2.2.2]⟩
def impl_clonePackage.out (r : Ret κ) : Option (Int × Int × Int × Int × List T_impl_Grant × List T_impl_Flow × List T_impl_Rule × List T_impl_Op) :=
  match r with
  | ⟨.agg [.int .i64 z0, .int .i64 z1, .int .i64 z2, .sl 4, .sl 5, .sl 6, .sl 7, .int .i64 z3], [], [q4, q5, q6, q7]⟩ => (asO 4 true q4).bind fun z4 => (asO 5 true q5).bind fun z5 => (asO 6 true q6).bind fun z6 => (asO 7 true q7).bind fun z7 => some (z0, z1, z2, z3, z4, z5, z6, z7)
  | _ => none
theorem impl_clonePackage.out_ok (r : Ret κ) (y : Int × Int × Int × Int × List T_impl_Grant × List T_impl_Flow × List T_impl_Rule × List T_impl_Op) (h : impl_clonePackage.out r = some y) : r = impl_clonePackage.g y := by
  unfold impl_clonePackage.out at h
  split at h
  · obtain ⟨_, rfl, h_1⟩ := asO_bind h
    obtain ⟨_, rfl, h_2⟩ := asO_bind h_1
    obtain ⟨_, rfl, h_3⟩ := asO_bind h_2
    obtain ⟨_, rfl, h_4⟩ := asO_bind h_3
    obtain rfl := Option.some.inj h_4
    rfl
  · cases h
def impl_clonePackage.body (k : Nat) (vs : List AV) (bs : List (Blk κ)) : Option (Lf κ) :=
  match vs, bs with
  | [.agg [.int .i64 a0_0, .int .i64 a0_1, .int .i64 a0_2, .sl 0, .sl 1, .sl 2, .sl 3, .int .i64 a0_7]], [qb0, qb1, qb2, qb3] => (asO 4 false qb0).bind fun a0_3 => (asO 5 false qb1).bind fun a0_4 => (asO 6 false qb2).bind fun a0_5 => (asO 7 false qb3).bind fun a0_6 => some ⟨Int × Int × Int × Int × List T_impl_Grant × List T_impl_Flow × List T_impl_Rule × List T_impl_Op, impl_clonePackage.f k a0_0 a0_1 a0_2 a0_3 a0_4 a0_5 a0_6 a0_7, impl_clonePackage.g⟩
  | _, _ => none
def impl_clonePackage.C (k : Nat) : Nat → List AV → AP κ AV := contract impl_clonePackage.sig (impl_clonePackage.body k)
theorem impl_clonePackage.den (k : Nat) (a0_0 : Int) (a0_1 : Int) (a0_2 : Int) (a0_3 : List T_impl_Grant) (a0_4 : List T_impl_Flow) (a0_5 : List T_impl_Rule) (a0_6 : List T_impl_Op) (a0_7 : Int) : Code.den ti (impl_clonePackage.Γ k) (impl_clonePackage.LH k) (bodyOf Tryz.f60) (finK ti Tryz.f60.results.toList [(2, [none, none, none, some 4, some 5, some 6, some 7, none])] (flags impl_clonePackage.sig).length (rwI (flags impl_clonePackage.sig) 0) impl_clonePackage.out) ⟨envOf (([.agg [.int .i64 a0_0, .int .i64 a0_1, .int .i64 a0_2, .sl 0, .sl 1, .sl 2, .sl 3, .int .i64 a0_7]]).zipIdx.map fun q => (q.2, q.1)), hpOf [.rows 4 false a0_3, .rows 5 false a0_4, .rows 6 false a0_5, .rows 7 false a0_6], (flags impl_clonePackage.sig).length⟩ = impl_clonePackage.f k a0_0 a0_1 a0_2 a0_3 a0_4 a0_5 a0_6 a0_7 := by kernel_rfl
theorem impl_clonePackage.ok (k : Nat) : CSound Tryz.prog 60 (impl_clonePackage.C k) :=
  csound κ_ok mixed tok (impl_clonePackage.hΓ k) (LH := impl_clonePackage.LH k) (fn := Tryz.f60) (c := bodyOf Tryz.f60) Tryz.func60 rfl Tryz.call60 impl_clonePackage.sig [(2, [none, none, none, some 4, some 5, some 6, some 7, none])] (impl_clonePackage.body k) (by kernel_rfl) (impl_clonePackage.lok k) (by decide) fun vs bs lf y hl hb hy => by
    unfold impl_clonePackage.body at hb
    split at hb
    · obtain ⟨_, rfl, hb_1⟩ := asO_bind hb
      obtain ⟨_, rfl, hb_2⟩ := asO_bind hb_1
      obtain ⟨_, rfl, hb_3⟩ := asO_bind hb_2
      obtain ⟨_, rfl, hb_4⟩ := asO_bind hb_3
      obtain rfl := Option.some.inj hb_4
      exact ⟨impl_clonePackage.out, impl_clonePackage.out_ok, (impl_clonePackage.den k _ _ _ _ _ _ _ _).trans hy⟩
    · cases hb
/-! ### impl_UpdatePackage -/
def impl_UpdatePackage.f (k : Nat) (a0 : Int) (a1_0 : Int) (a1_1 : Int) (a1_2 : Int) (a1_3 : List T_impl_Grant) (a1_4 : List T_impl_Flow) (a1_5 : List T_impl_Rule) (a1_6 : List T_impl_Op) (a1_7 : Int) (a2_0 : Int) (a2_1 : Int) (a2_2 : Int) (a2_3 : List T_impl_Grant) (a2_4 : List T_impl_Flow) (a2_5 : List T_impl_Rule) (a2_6 : List T_impl_Op) (a2_7 : Int) (a3 : Bool) : Option (Int × Int × Int × Int × Bool × List T_impl_Grant × List T_impl_Flow × List T_impl_Rule × List T_impl_Op) :=
  (impl_UpdateCode.f k a0 a1_0 a1_1 a1_2 a1_3 a1_4 a1_5 a1_6 a1_7 a2_0 a2_1 a2_2 a2_3 a2_4 a2_5 a2_6 a2_7 a3).bind fun t1 => (bif (t1 != (0 : Int)) then (impl_clonePackage.f k a1_0 a1_1 a1_2 a1_3 a1_4 a1_5 a1_6 a1_7).bind fun t2 => some (t2.1, t2.2.1, t2.2.2.1, t2.2.2.2.1, false, t2.2.2.2.2.1, t2.2.2.2.2.2.1, t2.2.2.2.2.2.2.1, t2.2.2.2.2.2.2.2) else (impl_clonePackage.f k a2_0 a2_1 a2_2 a2_3 a2_4 a2_5 a2_6 a2_7).bind fun t3 => some (t3.1, t3.2.1, t3.2.2.1, t3.2.2.2.1, true, t3.2.2.2.2.1, t3.2.2.2.2.2.1, t3.2.2.2.2.2.2.1, t3.2.2.2.2.2.2.2))
def impl_UpdatePackage.Γ (k : Nat) : Ct κ := assoc [(23, impl_UpdateCode.C k), (60, impl_clonePackage.C k)]
def impl_UpdatePackage.LH (k : Nat) : Nat → Option (LHi κ) := assoc []
theorem impl_UpdatePackage.hΓ (k : Nat) : ∀ f g, impl_UpdatePackage.Γ k f = some g → CSound Tryz.prog f g := G_cons (impl_UpdateCode.ok k) (G_cons (impl_clonePackage.ok k) G_nil)
theorem impl_UpdatePackage.lok (k : Nat) : LOK ti (impl_UpdatePackage.Γ k) (impl_UpdatePackage.LH k) 8 (loopsOf (bodyOf Tryz.f18)) :=
  (show loopsOf (bodyOf Tryz.f18) = [] by kernel_rfl) ▸ LOK_nil
def impl_UpdatePackage.sig : List PSh := [.one .sc, .agg [.sc, .sc, .sc, .ro 4, .ro 5, .ro 6, .ro 7, .sc], .agg [.sc, .sc, .sc, .ro 4, .ro 5, .ro 6, .ro 7, .sc], .one .sc]
def impl_UpdatePackage.g (y : Int × Int × Int × Int × Bool × List T_impl_Grant × List T_impl_Flow × List T_impl_Rule × List T_impl_Op) : Ret κ := ⟨.tup [(true, [.int .i64 y.1, .int .i64 y.2.1, .int .i64 y.2.2.1, .sl 8, .sl 9, .sl 10, .sl 11, .int .i64 y.2.2.2.1]), (false, [.bool y.2.2.2.2.1])], [], [.rows 4 true y.2.2.2.2.2.1, .rows 5 true y.2.2.2.2.2.2.1, .rows 6 true y.2.2.2.2.2.2.2.1, .rows 7 true y.2.2.2.2.2.2.2.2]⟩
def impl_UpdatePackage.out (r : Ret κ) : Option (Int × Int × Int × Int × Bool × List T_impl_Grant × List T_impl_Flow × List T_impl_Rule × List T_impl_Op) :=
  match r with
  | ⟨.tup [(true, [.int .i64 z0, .int .i64 z1, .int .i64 z2, .sl 8, .sl 9, .sl 10, .sl 11, .int .i64 z3]), (false, [.bool z4])], [], [q5, q6, q7, q8]⟩ => (asO 4 true q5).bind fun z5 => (asO 5 true q6).bind fun z6 => (asO 6 true q7).bind fun z7 => (asO 7 true q8).bind fun z8 => some (z0, z1, z2, z3, z4, z5, z6, z7, z8)
  | _ => none
theorem impl_UpdatePackage.out_ok (r : Ret κ) (y : Int × Int × Int × Int × Bool × List T_impl_Grant × List T_impl_Flow × List T_impl_Rule × List T_impl_Op) (h : impl_UpdatePackage.out r = some y) : r = impl_UpdatePackage.g y := by
  unfold impl_UpdatePackage.out at h
  split at h
  · obtain ⟨_, rfl, h_1⟩ := asO_bind h
    obtain ⟨_, rfl, h_2⟩ := asO_bind h_1
    obtain ⟨_, rfl, h_3⟩ := asO_bind h_2
    obtain ⟨_, rfl, h_4⟩ := asO_bind h_3
    obtain rfl := Option.some.inj h_4
    rfl
  · cases h
def impl_UpdatePackage.body (k : Nat) (vs : List AV) (bs : List (Blk κ)) : Option (Lf κ) :=
  match vs, bs with
  | [.v (.int .i64 a0), .agg [.int .i64 a1_0, .int .i64 a1_1, .int .i64 a1_2, .sl 0, .sl 1, .sl 2, .sl 3, .int .i64 a1_7], .agg [.int .i64 a2_0, .int .i64 a2_1, .int .i64 a2_2, .sl 4, .sl 5, .sl 6, .sl 7, .int .i64 a2_7], .v (.bool a3)], [qb0, qb1, qb2, qb3, qb4, qb5, qb6, qb7] => (asO 4 false qb0).bind fun a1_3 => (asO 5 false qb1).bind fun a1_4 => (asO 6 false qb2).bind fun a1_5 => (asO 7 false qb3).bind fun a1_6 => (asO 4 false qb4).bind fun a2_3 => (asO 5 false qb5).bind fun a2_4 => (asO 6 false qb6).bind fun a2_5 => (asO 7 false qb7).bind fun a2_6 => some ⟨Int × Int × Int × Int × Bool × List T_impl_Grant × List T_impl_Flow × List T_impl_Rule × List T_impl_Op, impl_UpdatePackage.f k a0 a1_0 a1_1 a1_2 a1_3 a1_4 a1_5 a1_6 a1_7 a2_0 a2_1 a2_2 a2_3 a2_4 a2_5 a2_6 a2_7 a3, impl_UpdatePackage.g⟩
  | _, _ => none
def impl_UpdatePackage.C (k : Nat) : Nat → List AV → AP κ AV := contract impl_UpdatePackage.sig (impl_UpdatePackage.body k)
theorem impl_UpdatePackage.den (k : Nat) (a0 : Int) (a1_0 : Int) (a1_1 : Int) (a1_2 : Int) (a1_3 : List T_impl_Grant) (a1_4 : List T_impl_Flow) (a1_5 : List T_impl_Rule) (a1_6 : List T_impl_Op) (a1_7 : Int) (a2_0 : Int) (a2_1 : Int) (a2_2 : Int) (a2_3 : List T_impl_Grant) (a2_4 : List T_impl_Flow) (a2_5 : List T_impl_Rule) (a2_6 : List T_impl_Op) (a2_7 : Int) (a3 : Bool) : Code.den ti (impl_UpdatePackage.Γ k) (impl_UpdatePackage.LH k) (bodyOf Tryz.f18) (finK ti Tryz.f18.results.toList [(8, [none, none, none, some 4, some 5, some 6, some 7, none])] (flags impl_UpdatePackage.sig).length (rwI (flags impl_UpdatePackage.sig) 0) impl_UpdatePackage.out) ⟨envOf (([.v (.int .i64 a0), .agg [.int .i64 a1_0, .int .i64 a1_1, .int .i64 a1_2, .sl 0, .sl 1, .sl 2, .sl 3, .int .i64 a1_7], .agg [.int .i64 a2_0, .int .i64 a2_1, .int .i64 a2_2, .sl 4, .sl 5, .sl 6, .sl 7, .int .i64 a2_7], .v (.bool a3)]).zipIdx.map fun q => (q.2, q.1)), hpOf [.rows 4 false a1_3, .rows 5 false a1_4, .rows 6 false a1_5, .rows 7 false a1_6, .rows 4 false a2_3, .rows 5 false a2_4, .rows 6 false a2_5, .rows 7 false a2_6], (flags impl_UpdatePackage.sig).length⟩ = impl_UpdatePackage.f k a0 a1_0 a1_1 a1_2 a1_3 a1_4 a1_5 a1_6 a1_7 a2_0 a2_1 a2_2 a2_3 a2_4 a2_5 a2_6 a2_7 a3 := by kernel_rfl
theorem impl_UpdatePackage.ok (k : Nat) : CSound Tryz.prog 18 (impl_UpdatePackage.C k) :=
  csound κ_ok mixed tok (impl_UpdatePackage.hΓ k) (LH := impl_UpdatePackage.LH k) (fn := Tryz.f18) (c := bodyOf Tryz.f18) Tryz.func18 rfl Tryz.call18 impl_UpdatePackage.sig [(8, [none, none, none, some 4, some 5, some 6, some 7, none])] (impl_UpdatePackage.body k) (by kernel_rfl) (impl_UpdatePackage.lok k) (by decide) fun vs bs lf y hl hb hy => by
    unfold impl_UpdatePackage.body at hb
    split at hb
    · obtain ⟨_, rfl, hb_1⟩ := asO_bind hb
      obtain ⟨_, rfl, hb_2⟩ := asO_bind hb_1
      obtain ⟨_, rfl, hb_3⟩ := asO_bind hb_2
      obtain ⟨_, rfl, hb_4⟩ := asO_bind hb_3
      obtain ⟨_, rfl, hb_5⟩ := asO_bind hb_4
      obtain ⟨_, rfl, hb_6⟩ := asO_bind hb_5
      obtain ⟨_, rfl, hb_7⟩ := asO_bind hb_6
      obtain ⟨_, rfl, hb_8⟩ := asO_bind hb_7
      obtain rfl := Option.some.inj hb_8
      exact ⟨impl_UpdatePackage.out, impl_UpdatePackage.out_ok, (impl_UpdatePackage.den k _ _ _ _ _ _ _ _ _ _ _ _ _ _ _ _ _ _).trans hy⟩
    · cases hb
/-! ### laws_eqPattern -/
def laws_eqPattern.f (k : Nat) (a0_0 : Int) (a0_1 : Int) (a1_0 : Int) (a1_1 : Int) : Option Bool :=
  (bif (a0_0 != a1_0) then some false else (bif (a0_1 != a1_1) then some false else some true))
def laws_eqPattern.Γ (k : Nat) : Ct κ := assoc []
def laws_eqPattern.LH (k : Nat) : Nat → Option (LHi κ) := assoc []
theorem laws_eqPattern.hΓ (k : Nat) : ∀ f g, laws_eqPattern.Γ k f = some g → CSound Tryz.prog f g := G_nil
theorem laws_eqPattern.lok (k : Nat) : LOK ti (laws_eqPattern.Γ k) (laws_eqPattern.LH k) 0 (loopsOf (bodyOf Tryz.f154)) :=
  (show loopsOf (bodyOf Tryz.f154) = [] by kernel_rfl) ▸ LOK_nil
def laws_eqPattern.sig : List PSh := [.agg [.sc, .sc], .agg [.sc, .sc]]
def laws_eqPattern.g (y : Bool) : Ret κ := ⟨.v (.bool y), [], []⟩
def laws_eqPattern.out (r : Ret κ) : Option Bool :=
  match r with
  | ⟨.v (.bool z0), [], []⟩ => some (z0)
  | _ => none
theorem laws_eqPattern.out_ok (r : Ret κ) (y : Bool) (h : laws_eqPattern.out r = some y) : r = laws_eqPattern.g y := by
  unfold laws_eqPattern.out at h
  split at h
  · obtain rfl := Option.some.inj h
    rfl
  · cases h
def laws_eqPattern.body (k : Nat) (vs : List AV) (bs : List (Blk κ)) : Option (Lf κ) :=
  match vs, bs with
  | [.agg [.int .i64 a0_0, .int .i64 a0_1], .agg [.int .i64 a1_0, .int .i64 a1_1]], [] => some ⟨Bool, laws_eqPattern.f k a0_0 a0_1 a1_0 a1_1, laws_eqPattern.g⟩
  | _, _ => none
def laws_eqPattern.C (k : Nat) : Nat → List AV → AP κ AV := contract laws_eqPattern.sig (laws_eqPattern.body k)
theorem laws_eqPattern.den (k : Nat) (a0_0 : Int) (a0_1 : Int) (a1_0 : Int) (a1_1 : Int) : Code.den ti (laws_eqPattern.Γ k) (laws_eqPattern.LH k) (bodyOf Tryz.f154) (finK ti Tryz.f154.results.toList [] (flags laws_eqPattern.sig).length (rwI (flags laws_eqPattern.sig) 0) laws_eqPattern.out) ⟨envOf (([.agg [.int .i64 a0_0, .int .i64 a0_1], .agg [.int .i64 a1_0, .int .i64 a1_1]]).zipIdx.map fun q => (q.2, q.1)), hpOf [], (flags laws_eqPattern.sig).length⟩ = laws_eqPattern.f k a0_0 a0_1 a1_0 a1_1 := by kernel_rfl
theorem laws_eqPattern.ok (k : Nat) : CSound Tryz.prog 154 (laws_eqPattern.C k) :=
  csound κ_ok mixed tok (laws_eqPattern.hΓ k) (LH := laws_eqPattern.LH k) (fn := Tryz.f154) (c := bodyOf Tryz.f154) Tryz.func154 rfl Tryz.call154 laws_eqPattern.sig [] (laws_eqPattern.body k) (by kernel_rfl) (laws_eqPattern.lok k) (by decide) fun vs bs lf y hl hb hy => by
    unfold laws_eqPattern.body at hb
    split at hb
    · obtain rfl := Option.some.inj hb
      exact ⟨laws_eqPattern.out, laws_eqPattern.out_ok, (laws_eqPattern.den k _ _ _ _).trans hy⟩
    · cases hb
/-! ### laws_eqGrant -/
def laws_eqGrant.f (k : Nat) (a0_0 : Int) (a0_1 : Int) (a0_2 : Int) (a0_3 : Int) (a0_4 : Int) (a0_5 : Int) (a0_6 : Bool) (a1_0 : Int) (a1_1 : Int) (a1_2 : Int) (a1_3 : Int) (a1_4 : Int) (a1_5 : Int) (a1_6 : Bool) : Option Bool :=
  (bif (a0_0 != a1_0) then some false else (laws_eqPattern.f k a0_1 a0_2 a1_1 a1_2).bind fun t1 => (bif !t1 then some false else (bif (a0_3 != a1_3) then some false else (bif (a0_4 != a1_4) then some false else (bif (a0_5 != a1_5) then some false else (bif !(a0_6 == a1_6) then some false else some true))))))
def laws_eqGrant.Γ (k : Nat) : Ct κ := assoc [(154, laws_eqPattern.C k)]
def laws_eqGrant.LH (k : Nat) : Nat → Option (LHi κ) := assoc []
theorem laws_eqGrant.hΓ (k : Nat) : ∀ f g, laws_eqGrant.Γ k f = some g → CSound Tryz.prog f g := G_cons (laws_eqPattern.ok k) G_nil
theorem laws_eqGrant.lok (k : Nat) : LOK ti (laws_eqGrant.Γ k) (laws_eqGrant.LH k) 0 (loopsOf (bodyOf Tryz.f114)) :=
  (show loopsOf (bodyOf Tryz.f114) = [] by kernel_rfl) ▸ LOK_nil
def laws_eqGrant.sig : List PSh := [.agg [.sc, .sc, .sc, .sc, .sc, .sc, .sc], .agg [.sc, .sc, .sc, .sc, .sc, .sc, .sc]]
def laws_eqGrant.g (y : Bool) : Ret κ := ⟨.v (.bool y), [], []⟩
def laws_eqGrant.out (r : Ret κ) : Option Bool :=
  match r with
  | ⟨.v (.bool z0), [], []⟩ => some (z0)
  | _ => none
theorem laws_eqGrant.out_ok (r : Ret κ) (y : Bool) (h : laws_eqGrant.out r = some y) : r = laws_eqGrant.g y := by
  unfold laws_eqGrant.out at h
  split at h
  · obtain rfl := Option.some.inj h
    rfl
  · cases h
def laws_eqGrant.body (k : Nat) (vs : List AV) (bs : List (Blk κ)) : Option (Lf κ) :=
  match vs, bs with
  | [.agg [.int .i64 a0_0, .int .i64 a0_1, .int .i64 a0_2, .int .i64 a0_3, .int .i64 a0_4, .int .i64 a0_5, .bool a0_6], .agg [.int .i64 a1_0, .int .i64 a1_1, .int .i64 a1_2, .int .i64 a1_3, .int .i64 a1_4, .int .i64 a1_5, .bool a1_6]], [] => some ⟨Bool, laws_eqGrant.f k a0_0 a0_1 a0_2 a0_3 a0_4 a0_5 a0_6 a1_0 a1_1 a1_2 a1_3 a1_4 a1_5 a1_6, laws_eqGrant.g⟩
  | _, _ => none
def laws_eqGrant.C (k : Nat) : Nat → List AV → AP κ AV := contract laws_eqGrant.sig (laws_eqGrant.body k)
theorem laws_eqGrant.den (k : Nat) (a0_0 : Int) (a0_1 : Int) (a0_2 : Int) (a0_3 : Int) (a0_4 : Int) (a0_5 : Int) (a0_6 : Bool) (a1_0 : Int) (a1_1 : Int) (a1_2 : Int) (a1_3 : Int) (a1_4 : Int) (a1_5 : Int) (a1_6 : Bool) : Code.den ti (laws_eqGrant.Γ k) (laws_eqGrant.LH k) (bodyOf Tryz.f114) (finK ti Tryz.f114.results.toList [] (flags laws_eqGrant.sig).length (rwI (flags laws_eqGrant.sig) 0) laws_eqGrant.out) ⟨envOf (([.agg [.int .i64 a0_0, .int .i64 a0_1, .int .i64 a0_2, .int .i64 a0_3, .int .i64 a0_4, .int .i64 a0_5, .bool a0_6], .agg [.int .i64 a1_0, .int .i64 a1_1, .int .i64 a1_2, .int .i64 a1_3, .int .i64 a1_4, .int .i64 a1_5, .bool a1_6]]).zipIdx.map fun q => (q.2, q.1)), hpOf [], (flags laws_eqGrant.sig).length⟩ = laws_eqGrant.f k a0_0 a0_1 a0_2 a0_3 a0_4 a0_5 a0_6 a1_0 a1_1 a1_2 a1_3 a1_4 a1_5 a1_6 := by kernel_rfl
theorem laws_eqGrant.ok (k : Nat) : CSound Tryz.prog 114 (laws_eqGrant.C k) :=
  csound κ_ok mixed tok (laws_eqGrant.hΓ k) (LH := laws_eqGrant.LH k) (fn := Tryz.f114) (c := bodyOf Tryz.f114) Tryz.func114 rfl Tryz.call114 laws_eqGrant.sig [] (laws_eqGrant.body k) (by kernel_rfl) (laws_eqGrant.lok k) (by decide) fun vs bs lf y hl hb hy => by
    unfold laws_eqGrant.body at hb
    split at hb
    · obtain rfl := Option.some.inj hb
      exact ⟨laws_eqGrant.out, laws_eqGrant.out_ok, (laws_eqGrant.den k _ _ _ _ _ _ _ _ _ _ _ _ _ _).trans hy⟩
    · cases hb
/-! ### laws_eqGrantS -/
def laws_eqGrantS.L4 {R : Type} (k : Nat) (xl0 : List T_impl_Grant) (xl1 : List T_impl_Grant) (X0 : Bool → Option R) (X1 : Unit → Option R) (rec : Int → Option R) (x2 : Int) : Option R :=
  (bif decide (x2 < (xl0.length : Int)) then (bif decide (0 ≤ x2) then (bif decide (x2 < (xl0.length : Int)) then (bif decide (0 ≤ x2) then (bif decide (x2 < (xl1.length : Int)) then (laws_eqGrant.f k ((rd_impl_Grant xl0 x2).f0) ((rd_impl_Grant xl0 x2).f1.f0) ((rd_impl_Grant xl0 x2).f1.f1) ((rd_impl_Grant xl0 x2).f2) ((rd_impl_Grant xl0 x2).f3) ((rd_impl_Grant xl0 x2).f4) ((rd_impl_Grant xl0 x2).f5) ((rd_impl_Grant xl1 x2).f0) ((rd_impl_Grant xl1 x2).f1.f0) ((rd_impl_Grant xl1 x2).f1.f1) ((rd_impl_Grant xl1 x2).f2) ((rd_impl_Grant xl1 x2).f3) ((rd_impl_Grant xl1 x2).f4) ((rd_impl_Grant xl1 x2).f5)).bind fun t1 => (bif !t1 then (X0 false) else (rec (w64 (x2 + (1 : Int))))) else none) else none) else none) else none) else (X1 ()))
def laws_eqGrantS.l4 {R : Type} (k : Nat) (xl0 : List T_impl_Grant) (xl1 : List T_impl_Grant) (X0 : Bool → Option R) (X1 : Unit → Option R) : Nat → Int → Option R
  | 0 => fun _ => none
  | n + 1 => laws_eqGrantS.L4 k xl0 xl1 X0 X1 (laws_eqGrantS.l4 k xl0 xl1 X0 X1 n)
def laws_eqGrantS.f (k : Nat) (a0 : List T_impl_Grant) (a1 : List T_impl_Grant) : Option Bool :=
  (bif ((a0.length : Int) != (a1.length : Int)) then some false else (laws_eqGrantS.l4 k a0 a1 (fun (y2 : Bool) => some y2) (fun (_ : Unit) => some true) k (0 : Int)))
def laws_eqGrantS.h4 (k : Nat) {R : Type} (K : Ex → St κ → Option R) (vs : List AV) (bs : List (Blk κ)) : Option R :=
  match vs, bs with
  | [.v (.sl 0), .v (.sl 1), .v (.int .i64 x2)], [qb0, qb1] => (asO 4 false qb0).bind fun xl0 => (asO 4 false qb1).bind fun xl1 => laws_eqGrantS.l4 k xl0 xl1 (fun (z0 : Bool) => K .ret (stOf [(4, [])] [.v (.bool z0)] [.rows 4 false xl0, .rows 4 false xl1])) (fun (_ : Unit) => K (.exit 0) (stOf [(4, [])] [.v .any] [.rows 4 false xl0, .rows 4 false xl1])) k x2
  | _, _ => none
def laws_eqGrantS.Γ (k : Nat) : Ct κ := assoc [(114, laws_eqGrant.C k)]
def laws_eqGrantS.LH (k : Nat) : Nat → Option (LHi κ) := assoc [(4, ⟨2, [(0, [some 4]), (1, [some 4]), (5, [])], [(4, [])], @laws_eqGrantS.h4 k⟩)]
theorem laws_eqGrantS.hΓ (k : Nat) : ∀ f g, laws_eqGrantS.Γ k f = some g → CSound Tryz.prog f g := G_cons (laws_eqGrant.ok k) G_nil
theorem laws_eqGrantS.e4 {R : Type} (K : Ex → St κ → Option R) (k : Nat) (xl0 : List T_impl_Grant) (xl1 : List T_impl_Grant) : ∀ (n : Nat) (x2 : Int), loopN 2 (Code.den ti (laws_eqGrantS.Γ k) (laws_eqGrantS.LH k) (loopAt Tryz.f55 0)) [(0, [some 4]), (1, [some 4]), (5, [])] [(4, [])] K n [.v (.sl 0), .v (.sl 1), .v (.int .i64 x2)] [.rows 4 false xl0, .rows 4 false xl1] = laws_eqGrantS.l4 k xl0 xl1 (fun (z0 : Bool) => K .ret (stOf [(4, [])] [.v (.bool z0)] [.rows 4 false xl0, .rows 4 false xl1])) (fun (_ : Unit) => K (.exit 0) (stOf [(4, [])] [.v .any] [.rows 4 false xl0, .rows 4 false xl1])) n x2
  | 0, _ => rfl
  | n + 1, x2 => (show loopN 2 (Code.den ti (laws_eqGrantS.Γ k) (laws_eqGrantS.LH k) (loopAt Tryz.f55 0)) [(0, [some 4]), (1, [some 4]), (5, [])] [(4, [])] K (n + 1) [.v (.sl 0), .v (.sl 1), .v (.int .i64 x2)] [.rows 4 false xl0, .rows 4 false xl1] = laws_eqGrantS.L4 k xl0 xl1 (fun (z0 : Bool) => K .ret (stOf [(4, [])] [.v (.bool z0)] [.rows 4 false xl0, .rows 4 false xl1])) (fun (_ : Unit) => K (.exit 0) (stOf [(4, [])] [.v .any] [.rows 4 false xl0, .rows 4 false xl1])) (fun (x2' : Int) => loopN 2 (Code.den ti (laws_eqGrantS.Γ k) (laws_eqGrantS.LH k) (loopAt Tryz.f55 0)) [(0, [some 4]), (1, [some 4]), (5, [])] [(4, [])] K n [.v (.sl 0), .v (.sl 1), .v (.int .i64 x2')] [.rows 4 false xl0, .rows 4 false xl1]) x2 by kernel_rfl).trans (congrArg (fun rec => laws_eqGrantS.L4 k xl0 xl1 (fun (z0 : Bool) => K .ret (stOf [(4, [])] [.v (.bool z0)] [.rows 4 false xl0, .rows 4 false xl1])) (fun (_ : Unit) => K (.exit 0) (stOf [(4, [])] [.v .any] [.rows 4 false xl0, .rows 4 false xl1])) rec x2) (funext fun x2' => laws_eqGrantS.e4 K k xl0 xl1 n x2'))
theorem laws_eqGrantS.q4 (k : Nat) {R : Type} (K : Ex → St κ → Option R) (vs : List AV) (bs : List (Blk κ)) (r : R) (h : laws_eqGrantS.h4 k K vs bs = some r) : ∃ n, loopN 2 (Code.den ti (laws_eqGrantS.Γ k) (laws_eqGrantS.LH k) (loopAt Tryz.f55 0)) [(0, [some 4]), (1, [some 4]), (5, [])] [(4, [])] K n vs bs = some r := by
  unfold laws_eqGrantS.h4 at h
  split at h
  · obtain ⟨_, rfl, h_1⟩ := asO_bind h
    obtain ⟨_, rfl, h_2⟩ := asO_bind h_1
    exact ⟨k, (laws_eqGrantS.e4 K k _ _ k _).trans h_2⟩
  · cases h
theorem laws_eqGrantS.lok (k : Nat) : LOK ti (laws_eqGrantS.Γ k) (laws_eqGrantS.LH k) 2 (loopsOf (bodyOf Tryz.f55)) :=
  (show loopsOf (bodyOf Tryz.f55) = [loopAt Tryz.f55 0] by kernel_rfl) ▸ (LOK_cons (g := ⟨2, [(0, [some 4]), (1, [some 4]), (5, [])], [(4, [])], @laws_eqGrantS.h4 k⟩) (by kernel_rfl) rfl (fun K vs xs r h => laws_eqGrantS.q4 k K vs xs r h) (LOK_nil))
def laws_eqGrantS.sig : List PSh := [.one (.ro 4), .one (.ro 4)]
def laws_eqGrantS.g (y : Bool) : Ret κ := ⟨.v (.bool y), [], []⟩
def laws_eqGrantS.out (r : Ret κ) : Option Bool :=
  match r with
  | ⟨.v (.bool z0), [], []⟩ => some (z0)
  | _ => none
theorem laws_eqGrantS.out_ok (r : Ret κ) (y : Bool) (h : laws_eqGrantS.out r = some y) : r = laws_eqGrantS.g y := by
  unfold laws_eqGrantS.out at h
  split at h
  · obtain rfl := Option.some.inj h
    rfl
  · cases h
def laws_eqGrantS.body (k : Nat) (vs : List AV) (bs : List (Blk κ)) : Option (Lf κ) :=
  match vs, bs with
  | [.v (.sl 0), .v (.sl 1)], [qb0, qb1] => (asO 4 false qb0).bind fun a0 => (asO 4 false qb1).bind fun a1 => some ⟨Bool, laws_eqGrantS.f k a0 a1, laws_eqGrantS.g⟩
  | _, _ => none
def laws_eqGrantS.C (k : Nat) : Nat → List AV → AP κ AV := contract laws_eqGrantS.sig (laws_eqGrantS.body k)
theorem laws_eqGrantS.den (k : Nat) (a0 : List T_impl_Grant) (a1 : List T_impl_Grant) : Code.den ti (laws_eqGrantS.Γ k) (laws_eqGrantS.LH k) (bodyOf Tryz.f55) (finK ti Tryz.f55.results.toList [] (flags laws_eqGrantS.sig).length (rwI (flags laws_eqGrantS.sig) 0) laws_eqGrantS.out) ⟨envOf (([.v (.sl 0), .v (.sl 1)]).zipIdx.map fun q => (q.2, q.1)), hpOf [.rows 4 false a0, .rows 4 false a1], (flags laws_eqGrantS.sig).length⟩ = laws_eqGrantS.f k a0 a1 := by kernel_rfl
theorem laws_eqGrantS.ok (k : Nat) : CSound Tryz.prog 55 (laws_eqGrantS.C k) :=
  csound κ_ok mixed tok (laws_eqGrantS.hΓ k) (LH := laws_eqGrantS.LH k) (fn := Tryz.f55) (c := bodyOf Tryz.f55) Tryz.func55 rfl Tryz.call55 laws_eqGrantS.sig [] (laws_eqGrantS.body k) (by kernel_rfl) (laws_eqGrantS.lok k) (by decide) fun vs bs lf y hl hb hy => by
    unfold laws_eqGrantS.body at hb
    split at hb
    · obtain ⟨_, rfl, hb_1⟩ := asO_bind hb
      obtain ⟨_, rfl, hb_2⟩ := asO_bind hb_1
      obtain rfl := Option.some.inj hb_2
      exact ⟨laws_eqGrantS.out, laws_eqGrantS.out_ok, (laws_eqGrantS.den k _ _).trans hy⟩
    · cases hb
/-! ### laws_eqFlow -/
def laws_eqFlow.f (k : Nat) (a0_0 : Int) (a0_1 : Int) (a0_2 : Int) (a1_0 : Int) (a1_1 : Int) (a1_2 : Int) : Option Bool :=
  (bif (a0_0 != a1_0) then some false else (bif (a0_1 != a1_1) then some false else (bif (a0_2 != a1_2) then some false else some true)))
def laws_eqFlow.Γ (k : Nat) : Ct κ := assoc []
def laws_eqFlow.LH (k : Nat) : Nat → Option (LHi κ) := assoc []
theorem laws_eqFlow.hΓ (k : Nat) : ∀ f g, laws_eqFlow.Γ k f = some g → CSound Tryz.prog f g := G_nil
theorem laws_eqFlow.lok (k : Nat) : LOK ti (laws_eqFlow.Γ k) (laws_eqFlow.LH k) 0 (loopsOf (bodyOf Tryz.f115)) :=
  (show loopsOf (bodyOf Tryz.f115) = [] by kernel_rfl) ▸ LOK_nil
def laws_eqFlow.sig : List PSh := [.agg [.sc, .sc, .sc], .agg [.sc, .sc, .sc]]
def laws_eqFlow.g (y : Bool) : Ret κ := ⟨.v (.bool y), [], []⟩
def laws_eqFlow.out (r : Ret κ) : Option Bool :=
  match r with
  | ⟨.v (.bool z0), [], []⟩ => some (z0)
  | _ => none
theorem laws_eqFlow.out_ok (r : Ret κ) (y : Bool) (h : laws_eqFlow.out r = some y) : r = laws_eqFlow.g y := by
  unfold laws_eqFlow.out at h
  split at h
  · obtain rfl := Option.some.inj h
    rfl
  · cases h
def laws_eqFlow.body (k : Nat) (vs : List AV) (bs : List (Blk κ)) : Option (Lf κ) :=
  match vs, bs with
  | [.agg [.int .i64 a0_0, .int .i64 a0_1, .int .i64 a0_2], .agg [.int .i64 a1_0, .int .i64 a1_1, .int .i64 a1_2]], [] => some ⟨Bool, laws_eqFlow.f k a0_0 a0_1 a0_2 a1_0 a1_1 a1_2, laws_eqFlow.g⟩
  | _, _ => none
def laws_eqFlow.C (k : Nat) : Nat → List AV → AP κ AV := contract laws_eqFlow.sig (laws_eqFlow.body k)
theorem laws_eqFlow.den (k : Nat) (a0_0 : Int) (a0_1 : Int) (a0_2 : Int) (a1_0 : Int) (a1_1 : Int) (a1_2 : Int) : Code.den ti (laws_eqFlow.Γ k) (laws_eqFlow.LH k) (bodyOf Tryz.f115) (finK ti Tryz.f115.results.toList [] (flags laws_eqFlow.sig).length (rwI (flags laws_eqFlow.sig) 0) laws_eqFlow.out) ⟨envOf (([.agg [.int .i64 a0_0, .int .i64 a0_1, .int .i64 a0_2], .agg [.int .i64 a1_0, .int .i64 a1_1, .int .i64 a1_2]]).zipIdx.map fun q => (q.2, q.1)), hpOf [], (flags laws_eqFlow.sig).length⟩ = laws_eqFlow.f k a0_0 a0_1 a0_2 a1_0 a1_1 a1_2 := by kernel_rfl
theorem laws_eqFlow.ok (k : Nat) : CSound Tryz.prog 115 (laws_eqFlow.C k) :=
  csound κ_ok mixed tok (laws_eqFlow.hΓ k) (LH := laws_eqFlow.LH k) (fn := Tryz.f115) (c := bodyOf Tryz.f115) Tryz.func115 rfl Tryz.call115 laws_eqFlow.sig [] (laws_eqFlow.body k) (by kernel_rfl) (laws_eqFlow.lok k) (by decide) fun vs bs lf y hl hb hy => by
    unfold laws_eqFlow.body at hb
    split at hb
    · obtain rfl := Option.some.inj hb
      exact ⟨laws_eqFlow.out, laws_eqFlow.out_ok, (laws_eqFlow.den k _ _ _ _ _ _).trans hy⟩
    · cases hb
/-! ### laws_eqFlowS -/
def laws_eqFlowS.L4 {R : Type} (k : Nat) (xl0 : List T_impl_Flow) (xl1 : List T_impl_Flow) (X0 : Bool → Option R) (X1 : Unit → Option R) (rec : Int → Option R) (x2 : Int) : Option R :=
  (bif decide (x2 < (xl0.length : Int)) then (bif decide (0 ≤ x2) then (bif decide (x2 < (xl0.length : Int)) then (bif decide (0 ≤ x2) then (bif decide (x2 < (xl1.length : Int)) then (laws_eqFlow.f k ((rd_impl_Flow xl0 x2).f0) ((rd_impl_Flow xl0 x2).f1) ((rd_impl_Flow xl0 x2).f2) ((rd_impl_Flow xl1 x2).f0) ((rd_impl_Flow xl1 x2).f1) ((rd_impl_Flow xl1 x2).f2)).bind fun t1 => (bif !t1 then (X0 false) else (rec (w64 (x2 + (1 : Int))))) else none) else none) else none) else none) else (X1 ()))
def laws_eqFlowS.l4 {R : Type} (k : Nat) (xl0 : List T_impl_Flow) (xl1 : List T_impl_Flow) (X0 : Bool → Option R) (X1 : Unit → Option R) : Nat → Int → Option R
  | 0 => fun _ => none
  | n + 1 => laws_eqFlowS.L4 k xl0 xl1 X0 X1 (laws_eqFlowS.l4 k xl0 xl1 X0 X1 n)
def laws_eqFlowS.f (k : Nat) (a0 : List T_impl_Flow) (a1 : List T_impl_Flow) : Option Bool :=
  (bif ((a0.length : Int) != (a1.length : Int)) then some false else (laws_eqFlowS.l4 k a0 a1 (fun (y2 : Bool) => some y2) (fun (_ : Unit) => some true) k (0 : Int)))
def laws_eqFlowS.h4 (k : Nat) {R : Type} (K : Ex → St κ → Option R) (vs : List AV) (bs : List (Blk κ)) : Option R :=
  match vs, bs with
  | [.v (.sl 0), .v (.sl 1), .v (.int .i64 x2)], [qb0, qb1] => (asO 5 false qb0).bind fun xl0 => (asO 5 false qb1).bind fun xl1 => laws_eqFlowS.l4 k xl0 xl1 (fun (z0 : Bool) => K .ret (stOf [(4, [])] [.v (.bool z0)] [.rows 5 false xl0, .rows 5 false xl1])) (fun (_ : Unit) => K (.exit 0) (stOf [(4, [])] [.v .any] [.rows 5 false xl0, .rows 5 false xl1])) k x2
  | _, _ => none
def laws_eqFlowS.Γ (k : Nat) : Ct κ := assoc [(115, laws_eqFlow.C k)]
def laws_eqFlowS.LH (k : Nat) : Nat → Option (LHi κ) := assoc [(4, ⟨2, [(0, [some 5]), (1, [some 5]), (5, [])], [(4, [])], @laws_eqFlowS.h4 k⟩)]
theorem laws_eqFlowS.hΓ (k : Nat) : ∀ f g, laws_eqFlowS.Γ k f = some g → CSound Tryz.prog f g := G_cons (laws_eqFlow.ok k) G_nil
theorem laws_eqFlowS.e4 {R : Type} (K : Ex → St κ → Option R) (k : Nat) (xl0 : List T_impl_Flow) (xl1 : List T_impl_Flow) : ∀ (n : Nat) (x2 : Int), loopN 2 (Code.den ti (laws_eqFlowS.Γ k) (laws_eqFlowS.LH k) (loopAt Tryz.f56 0)) [(0, [some 5]), (1, [some 5]), (5, [])] [(4, [])] K n [.v (.sl 0), .v (.sl 1), .v (.int .i64 x2)] [.rows 5 false xl0, .rows 5 false xl1] = laws_eqFlowS.l4 k xl0 xl1 (fun (z0 : Bool) => K .ret (stOf [(4, [])] [.v (.bool z0)] [.rows 5 false xl0, .rows 5 false xl1])) (fun (_ : Unit) => K (.exit 0) (stOf [(4, [])] [.v .any] [.rows 5 false xl0, .rows 5 false xl1])) n x2
  | 0, _ => rfl
  | n + 1, x2 => (show loopN 2 (Code.den ti (laws_eqFlowS.Γ k) (laws_eqFlowS.LH k) (loopAt Tryz.f56 0)) [(0, [some 5]), (1, [some 5]), (5, [])] [(4, [])] K (n + 1) [.v (.sl 0), .v (.sl 1), .v (.int .i64 x2)] [.rows 5 false xl0, .rows 5 false xl1] = laws_eqFlowS.L4 k xl0 xl1 (fun (z0 : Bool) => K .ret (stOf [(4, [])] [.v (.bool z0)] [.rows 5 false xl0, .rows 5 false xl1])) (fun (_ : Unit) => K (.exit 0) (stOf [(4, [])] [.v .any] [.rows 5 false xl0, .rows 5 false xl1])) (fun (x2' : Int) => loopN 2 (Code.den ti (laws_eqFlowS.Γ k) (laws_eqFlowS.LH k) (loopAt Tryz.f56 0)) [(0, [some 5]), (1, [some 5]), (5, [])] [(4, [])] K n [.v (.sl 0), .v (.sl 1), .v (.int .i64 x2')] [.rows 5 false xl0, .rows 5 false xl1]) x2 by kernel_rfl).trans (congrArg (fun rec => laws_eqFlowS.L4 k xl0 xl1 (fun (z0 : Bool) => K .ret (stOf [(4, [])] [.v (.bool z0)] [.rows 5 false xl0, .rows 5 false xl1])) (fun (_ : Unit) => K (.exit 0) (stOf [(4, [])] [.v .any] [.rows 5 false xl0, .rows 5 false xl1])) rec x2) (funext fun x2' => laws_eqFlowS.e4 K k xl0 xl1 n x2'))
theorem laws_eqFlowS.q4 (k : Nat) {R : Type} (K : Ex → St κ → Option R) (vs : List AV) (bs : List (Blk κ)) (r : R) (h : laws_eqFlowS.h4 k K vs bs = some r) : ∃ n, loopN 2 (Code.den ti (laws_eqFlowS.Γ k) (laws_eqFlowS.LH k) (loopAt Tryz.f56 0)) [(0, [some 5]), (1, [some 5]), (5, [])] [(4, [])] K n vs bs = some r := by
  unfold laws_eqFlowS.h4 at h
  split at h
  · obtain ⟨_, rfl, h_1⟩ := asO_bind h
    obtain ⟨_, rfl, h_2⟩ := asO_bind h_1
    exact ⟨k, (laws_eqFlowS.e4 K k _ _ k _).trans h_2⟩
  · cases h
theorem laws_eqFlowS.lok (k : Nat) : LOK ti (laws_eqFlowS.Γ k) (laws_eqFlowS.LH k) 2 (loopsOf (bodyOf Tryz.f56)) :=
  (show loopsOf (bodyOf Tryz.f56) = [loopAt Tryz.f56 0] by kernel_rfl) ▸ (LOK_cons (g := ⟨2, [(0, [some 5]), (1, [some 5]), (5, [])], [(4, [])], @laws_eqFlowS.h4 k⟩) (by kernel_rfl) rfl (fun K vs xs r h => laws_eqFlowS.q4 k K vs xs r h) (LOK_nil))
def laws_eqFlowS.sig : List PSh := [.one (.ro 5), .one (.ro 5)]
def laws_eqFlowS.g (y : Bool) : Ret κ := ⟨.v (.bool y), [], []⟩
def laws_eqFlowS.out (r : Ret κ) : Option Bool :=
  match r with
  | ⟨.v (.bool z0), [], []⟩ => some (z0)
  | _ => none
theorem laws_eqFlowS.out_ok (r : Ret κ) (y : Bool) (h : laws_eqFlowS.out r = some y) : r = laws_eqFlowS.g y := by
  unfold laws_eqFlowS.out at h
  split at h
  · obtain rfl := Option.some.inj h
    rfl
  · cases h
def laws_eqFlowS.body (k : Nat) (vs : List AV) (bs : List (Blk κ)) : Option (Lf κ) :=
  match vs, bs with
  | [.v (.sl 0), .v (.sl 1)], [qb0, qb1] => (asO 5 false qb0).bind fun a0 => (asO 5 false qb1).bind fun a1 => some ⟨Bool, laws_eqFlowS.f k a0 a1, laws_eqFlowS.g⟩
  | _, _ => none
def laws_eqFlowS.C (k : Nat) : Nat → List AV → AP κ AV := contract laws_eqFlowS.sig (laws_eqFlowS.body k)
theorem laws_eqFlowS.den (k : Nat) (a0 : List T_impl_Flow) (a1 : List T_impl_Flow) : Code.den ti (laws_eqFlowS.Γ k) (laws_eqFlowS.LH k) (bodyOf Tryz.f56) (finK ti Tryz.f56.results.toList [] (flags laws_eqFlowS.sig).length (rwI (flags laws_eqFlowS.sig) 0) laws_eqFlowS.out) ⟨envOf (([.v (.sl 0), .v (.sl 1)]).zipIdx.map fun q => (q.2, q.1)), hpOf [.rows 5 false a0, .rows 5 false a1], (flags laws_eqFlowS.sig).length⟩ = laws_eqFlowS.f k a0 a1 := by kernel_rfl
theorem laws_eqFlowS.ok (k : Nat) : CSound Tryz.prog 56 (laws_eqFlowS.C k) :=
  csound κ_ok mixed tok (laws_eqFlowS.hΓ k) (LH := laws_eqFlowS.LH k) (fn := Tryz.f56) (c := bodyOf Tryz.f56) Tryz.func56 rfl Tryz.call56 laws_eqFlowS.sig [] (laws_eqFlowS.body k) (by kernel_rfl) (laws_eqFlowS.lok k) (by decide) fun vs bs lf y hl hb hy => by
    unfold laws_eqFlowS.body at hb
    split at hb
    · obtain ⟨_, rfl, hb_1⟩ := asO_bind hb
      obtain ⟨_, rfl, hb_2⟩ := asO_bind hb_1
      obtain rfl := Option.some.inj hb_2
      exact ⟨laws_eqFlowS.out, laws_eqFlowS.out_ok, (laws_eqFlowS.den k _ _).trans hy⟩
    · cases hb
/-! ### laws_eqSite -/
def laws_eqSite.f (k : Nat) (a0_0 : Int) (a0_1 : Int) (a1_0 : Int) (a1_1 : Int) : Option Bool :=
  (bif (a0_0 != a1_0) then some false else (bif (a0_1 != a1_1) then some false else some true))
def laws_eqSite.Γ (k : Nat) : Ct κ := assoc []
def laws_eqSite.LH (k : Nat) : Nat → Option (LHi κ) := assoc []
theorem laws_eqSite.hΓ (k : Nat) : ∀ f g, laws_eqSite.Γ k f = some g → CSound Tryz.prog f g := G_nil
theorem laws_eqSite.lok (k : Nat) : LOK ti (laws_eqSite.Γ k) (laws_eqSite.LH k) 0 (loopsOf (bodyOf Tryz.f155)) :=
  (show loopsOf (bodyOf Tryz.f155) = [] by kernel_rfl) ▸ LOK_nil
def laws_eqSite.sig : List PSh := [.agg [.sc, .sc], .agg [.sc, .sc]]
def laws_eqSite.g (y : Bool) : Ret κ := ⟨.v (.bool y), [], []⟩
def laws_eqSite.out (r : Ret κ) : Option Bool :=
  match r with
  | ⟨.v (.bool z0), [], []⟩ => some (z0)
  | _ => none
theorem laws_eqSite.out_ok (r : Ret κ) (y : Bool) (h : laws_eqSite.out r = some y) : r = laws_eqSite.g y := by
  unfold laws_eqSite.out at h
  split at h
  · obtain rfl := Option.some.inj h
    rfl
  · cases h
def laws_eqSite.body (k : Nat) (vs : List AV) (bs : List (Blk κ)) : Option (Lf κ) :=
  match vs, bs with
  | [.agg [.int .i64 a0_0, .int .i64 a0_1], .agg [.int .i64 a1_0, .int .i64 a1_1]], [] => some ⟨Bool, laws_eqSite.f k a0_0 a0_1 a1_0 a1_1, laws_eqSite.g⟩
  | _, _ => none
def laws_eqSite.C (k : Nat) : Nat → List AV → AP κ AV := contract laws_eqSite.sig (laws_eqSite.body k)
theorem laws_eqSite.den (k : Nat) (a0_0 : Int) (a0_1 : Int) (a1_0 : Int) (a1_1 : Int) : Code.den ti (laws_eqSite.Γ k) (laws_eqSite.LH k) (bodyOf Tryz.f155) (finK ti Tryz.f155.results.toList [] (flags laws_eqSite.sig).length (rwI (flags laws_eqSite.sig) 0) laws_eqSite.out) ⟨envOf (([.agg [.int .i64 a0_0, .int .i64 a0_1], .agg [.int .i64 a1_0, .int .i64 a1_1]]).zipIdx.map fun q => (q.2, q.1)), hpOf [], (flags laws_eqSite.sig).length⟩ = laws_eqSite.f k a0_0 a0_1 a1_0 a1_1 := by kernel_rfl
theorem laws_eqSite.ok (k : Nat) : CSound Tryz.prog 155 (laws_eqSite.C k) :=
  csound κ_ok mixed tok (laws_eqSite.hΓ k) (LH := laws_eqSite.LH k) (fn := Tryz.f155) (c := bodyOf Tryz.f155) Tryz.func155 rfl Tryz.call155 laws_eqSite.sig [] (laws_eqSite.body k) (by kernel_rfl) (laws_eqSite.lok k) (by decide) fun vs bs lf y hl hb hy => by
    unfold laws_eqSite.body at hb
    split at hb
    · obtain rfl := Option.some.inj hb
      exact ⟨laws_eqSite.out, laws_eqSite.out_ok, (laws_eqSite.den k _ _ _ _).trans hy⟩
    · cases hb
/-! ### laws_eqRule -/
def laws_eqRule.f (k : Nat) (a0_0 : Int) (a0_1 : Int) (a0_2 : Int) (a0_3 : Int) (a0_4 : Int) (a0_5 : Int) (a0_6 : Int) (a0_7 : Int) (a1_0 : Int) (a1_1 : Int) (a1_2 : Int) (a1_3 : Int) (a1_4 : Int) (a1_5 : Int) (a1_6 : Int) (a1_7 : Int) : Option Bool :=
  (bif (a0_0 != a1_0) then some false else (bif (a0_1 != a1_1) then some false else (laws_eqPattern.f k a0_2 a0_3 a1_2 a1_3).bind fun t1 => (bif !t1 then some false else (bif (a0_4 != a1_4) then some false else (bif (a0_5 != a1_5) then some false else (laws_eqSite.f k a0_6 a0_7 a1_6 a1_7).bind fun t2 => (bif !t2 then some false else some true))))))
def laws_eqRule.Γ (k : Nat) : Ct κ := assoc [(154, laws_eqPattern.C k), (155, laws_eqSite.C k)]
def laws_eqRule.LH (k : Nat) : Nat → Option (LHi κ) := assoc []
theorem laws_eqRule.hΓ (k : Nat) : ∀ f g, laws_eqRule.Γ k f = some g → CSound Tryz.prog f g := G_cons (laws_eqPattern.ok k) (G_cons (laws_eqSite.ok k) G_nil)
theorem laws_eqRule.lok (k : Nat) : LOK ti (laws_eqRule.Γ k) (laws_eqRule.LH k) 0 (loopsOf (bodyOf Tryz.f116)) :=
  (show loopsOf (bodyOf Tryz.f116) = [] by kernel_rfl) ▸ LOK_nil
def laws_eqRule.sig : List PSh := [.agg [.sc, .sc, .sc, .sc, .sc, .sc, .sc, .sc], .agg [.sc, .sc, .sc, .sc, .sc, .sc, .sc, .sc]]
def laws_eqRule.g (y : Bool) : Ret κ := ⟨.v (.bool y), [], []⟩
def laws_eqRule.out (r : Ret κ) : Option Bool :=
  match r with
  | ⟨.v (.bool z0), [], []⟩ => some (z0)
  | _ => none
theorem laws_eqRule.out_ok (r : Ret κ) (y : Bool) (h : laws_eqRule.out r = some y) : r = laws_eqRule.g y := by
  unfold laws_eqRule.out at h
  split at h
  · obtain rfl := Option.some.inj h
    rfl
  · cases h
def laws_eqRule.body (k : Nat) (vs : List AV) (bs : List (Blk κ)) : Option (Lf κ) :=
  match vs, bs with
  | [.agg [.int .i64 a0_0, .int .i64 a0_1, .int .i64 a0_2, .int .i64 a0_3, .int .i64 a0_4, .int .i64 a0_5, .int .i64 a0_6, .int .i64 a0_7], .agg [.int .i64 a1_0, .int .i64 a1_1, .int .i64 a1_2, .int .i64 a1_3, .int .i64 a1_4, .int .i64 a1_5, .int .i64 a1_6, .int .i64 a1_7]], [] => some ⟨Bool, laws_eqRule.f k a0_0 a0_1 a0_2 a0_3 a0_4 a0_5 a0_6 a0_7 a1_0 a1_1 a1_2 a1_3 a1_4 a1_5 a1_6 a1_7, laws_eqRule.g⟩
  | _, _ => none
def laws_eqRule.C (k : Nat) : Nat → List AV → AP κ AV := contract laws_eqRule.sig (laws_eqRule.body k)
theorem laws_eqRule.den (k : Nat) (a0_0 : Int) (a0_1 : Int) (a0_2 : Int) (a0_3 : Int) (a0_4 : Int) (a0_5 : Int) (a0_6 : Int) (a0_7 : Int) (a1_0 : Int) (a1_1 : Int) (a1_2 : Int) (a1_3 : Int) (a1_4 : Int) (a1_5 : Int) (a1_6 : Int) (a1_7 : Int) : Code.den ti (laws_eqRule.Γ k) (laws_eqRule.LH k) (bodyOf Tryz.f116) (finK ti Tryz.f116.results.toList [] (flags laws_eqRule.sig).length (rwI (flags laws_eqRule.sig) 0) laws_eqRule.out) ⟨envOf (([.agg [.int .i64 a0_0, .int .i64 a0_1, .int .i64 a0_2, .int .i64 a0_3, .int .i64 a0_4, .int .i64 a0_5, .int .i64 a0_6, .int .i64 a0_7], .agg [.int .i64 a1_0, .int .i64 a1_1, .int .i64 a1_2, .int .i64 a1_3, .int .i64 a1_4, .int .i64 a1_5, .int .i64 a1_6, .int .i64 a1_7]]).zipIdx.map fun q => (q.2, q.1)), hpOf [], (flags laws_eqRule.sig).length⟩ = laws_eqRule.f k a0_0 a0_1 a0_2 a0_3 a0_4 a0_5 a0_6 a0_7 a1_0 a1_1 a1_2 a1_3 a1_4 a1_5 a1_6 a1_7 := by kernel_rfl
theorem laws_eqRule.ok (k : Nat) : CSound Tryz.prog 116 (laws_eqRule.C k) :=
  csound κ_ok mixed tok (laws_eqRule.hΓ k) (LH := laws_eqRule.LH k) (fn := Tryz.f116) (c := bodyOf Tryz.f116) Tryz.func116 rfl Tryz.call116 laws_eqRule.sig [] (laws_eqRule.body k) (by kernel_rfl) (laws_eqRule.lok k) (by decide) fun vs bs lf y hl hb hy => by
    unfold laws_eqRule.body at hb
    split at hb
    · obtain rfl := Option.some.inj hb
      exact ⟨laws_eqRule.out, laws_eqRule.out_ok, (laws_eqRule.den k _ _ _ _ _ _ _ _ _ _ _ _ _ _ _ _).trans hy⟩
    · cases hb
/-! ### laws_eqRuleS -/
def laws_eqRuleS.L4 {R : Type} (k : Nat) (xl0 : List T_impl_Rule) (xl1 : List T_impl_Rule) (X0 : Bool → Option R) (X1 : Unit → Option R) (rec : Int → Option R) (x2 : Int) : Option R :=
  (bif decide (x2 < (xl0.length : Int)) then (bif decide (0 ≤ x2) then (bif decide (x2 < (xl0.length : Int)) then (bif decide (0 ≤ x2) then (bif decide (x2 < (xl1.length : Int)) then (laws_eqRule.f k ((rd_impl_Rule xl0 x2).f0) ((rd_impl_Rule xl0 x2).f1) ((rd_impl_Rule xl0 x2).f2.f0) ((rd_impl_Rule xl0 x2).f2.f1) ((rd_impl_Rule xl0 x2).f3) ((rd_impl_Rule xl0 x2).f4) ((rd_impl_Rule xl0 x2).f5.f0) ((rd_impl_Rule xl0 x2).f5.f1) ((rd_impl_Rule xl1 x2).f0) ((rd_impl_Rule xl1 x2).f1) ((rd_impl_Rule xl1 x2).f2.f0) ((rd_impl_Rule xl1 x2).f2.f1) ((rd_impl_Rule xl1 x2).f3) ((rd_impl_Rule xl1 x2).f4) ((rd_impl_Rule xl1 x2).f5.f0) ((rd_impl_Rule xl1 x2).f5.f1)).bind fun t1 => (bif !t1 then (X0 false) else (rec (w64 (x2 + (1 : Int))))) else none) else none) else none) else none) else (X1 ()))
def laws_eqRuleS.l4 {R : Type} (k : Nat) (xl0 : List T_impl_Rule) (xl1 : List T_impl_Rule) (X0 : Bool → Option R) (X1 : Unit → Option R) : Nat → Int → Option R
  | 0 => fun _ => none
  | n + 1 => laws_eqRuleS.L4 k xl0 xl1 X0 X1 (laws_eqRuleS.l4 k xl0 xl1 X0 X1 n)
def laws_eqRuleS.f (k : Nat) (a0 : List T_impl_Rule) (a1 : List T_impl_Rule) : Option Bool :=
  (bif ((a0.length : Int) != (a1.length : Int)) then some false else (laws_eqRuleS.l4 k a0 a1 (fun (y2 : Bool) => some y2) (fun (_ : Unit) => some true) k (0 : Int)))
def laws_eqRuleS.h4 (k : Nat) {R : Type} (K : Ex → St κ → Option R) (vs : List AV) (bs : List (Blk κ)) : Option R :=
  match vs, bs with
  | [.v (.sl 0), .v (.sl 1), .v (.int .i64 x2)], [qb0, qb1] => (asO 6 false qb0).bind fun xl0 => (asO 6 false qb1).bind fun xl1 => laws_eqRuleS.l4 k xl0 xl1 (fun (z0 : Bool) => K .ret (stOf [(4, [])] [.v (.bool z0)] [.rows 6 false xl0, .rows 6 false xl1])) (fun (_ : Unit) => K (.exit 0) (stOf [(4, [])] [.v .any] [.rows 6 false xl0, .rows 6 false xl1])) k x2
  | _, _ => none
def laws_eqRuleS.Γ (k : Nat) : Ct κ := assoc [(116, laws_eqRule.C k)]
def laws_eqRuleS.LH (k : Nat) : Nat → Option (LHi κ) := assoc [(4, ⟨2, [(0, [some 6]), (1, [some 6]), (5, [])], [(4, [])], @laws_eqRuleS.h4 k⟩)]
theorem laws_eqRuleS.hΓ (k : Nat) : ∀ f g, laws_eqRuleS.Γ k f = some g → CSound Tryz.prog f g := G_cons (laws_eqRule.ok k) G_nil
theorem laws_eqRuleS.e4 {R : Type} (K : Ex → St κ → Option R) (k : Nat) (xl0 : List T_impl_Rule) (xl1 : List T_impl_Rule) : ∀ (n : Nat) (x2 : Int), loopN 2 (Code.den ti (laws_eqRuleS.Γ k) (laws_eqRuleS.LH k) (loopAt Tryz.f57 0)) [(0, [some 6]), (1, [some 6]), (5, [])] [(4, [])] K n [.v (.sl 0), .v (.sl 1), .v (.int .i64 x2)] [.rows 6 false xl0, .rows 6 false xl1] = laws_eqRuleS.l4 k xl0 xl1 (fun (z0 : Bool) => K .ret (stOf [(4, [])] [.v (.bool z0)] [.rows 6 false xl0, .rows 6 false xl1])) (fun (_ : Unit) => K (.exit 0) (stOf [(4, [])] [.v .any] [.rows 6 false xl0, .rows 6 false xl1])) n x2
  | 0, _ => rfl
  | n + 1, x2 => (show loopN 2 (Code.den ti (laws_eqRuleS.Γ k) (laws_eqRuleS.LH k) (loopAt Tryz.f57 0)) [(0, [some 6]), (1, [some 6]), (5, [])] [(4, [])] K (n + 1) [.v (.sl 0), .v (.sl 1), .v (.int .i64 x2)] [.rows 6 false xl0, .rows 6 false xl1] = laws_eqRuleS.L4 k xl0 xl1 (fun (z0 : Bool) => K .ret (stOf [(4, [])] [.v (.bool z0)] [.rows 6 false xl0, .rows 6 false xl1])) (fun (_ : Unit) => K (.exit 0) (stOf [(4, [])] [.v .any] [.rows 6 false xl0, .rows 6 false xl1])) (fun (x2' : Int) => loopN 2 (Code.den ti (laws_eqRuleS.Γ k) (laws_eqRuleS.LH k) (loopAt Tryz.f57 0)) [(0, [some 6]), (1, [some 6]), (5, [])] [(4, [])] K n [.v (.sl 0), .v (.sl 1), .v (.int .i64 x2')] [.rows 6 false xl0, .rows 6 false xl1]) x2 by kernel_rfl).trans (congrArg (fun rec => laws_eqRuleS.L4 k xl0 xl1 (fun (z0 : Bool) => K .ret (stOf [(4, [])] [.v (.bool z0)] [.rows 6 false xl0, .rows 6 false xl1])) (fun (_ : Unit) => K (.exit 0) (stOf [(4, [])] [.v .any] [.rows 6 false xl0, .rows 6 false xl1])) rec x2) (funext fun x2' => laws_eqRuleS.e4 K k xl0 xl1 n x2'))
theorem laws_eqRuleS.q4 (k : Nat) {R : Type} (K : Ex → St κ → Option R) (vs : List AV) (bs : List (Blk κ)) (r : R) (h : laws_eqRuleS.h4 k K vs bs = some r) : ∃ n, loopN 2 (Code.den ti (laws_eqRuleS.Γ k) (laws_eqRuleS.LH k) (loopAt Tryz.f57 0)) [(0, [some 6]), (1, [some 6]), (5, [])] [(4, [])] K n vs bs = some r := by
  unfold laws_eqRuleS.h4 at h
  split at h
  · obtain ⟨_, rfl, h_1⟩ := asO_bind h
    obtain ⟨_, rfl, h_2⟩ := asO_bind h_1
    exact ⟨k, (laws_eqRuleS.e4 K k _ _ k _).trans h_2⟩
  · cases h
theorem laws_eqRuleS.lok (k : Nat) : LOK ti (laws_eqRuleS.Γ k) (laws_eqRuleS.LH k) 2 (loopsOf (bodyOf Tryz.f57)) :=
  (show loopsOf (bodyOf Tryz.f57) = [loopAt Tryz.f57 0] by kernel_rfl) ▸ (LOK_cons (g := ⟨2, [(0, [some 6]), (1, [some 6]), (5, [])], [(4, [])], @laws_eqRuleS.h4 k⟩) (by kernel_rfl) rfl (fun K vs xs r h => laws_eqRuleS.q4 k K vs xs r h) (LOK_nil))
def laws_eqRuleS.sig : List PSh := [.one (.ro 6), .one (.ro 6)]
def laws_eqRuleS.g (y : Bool) : Ret κ := ⟨.v (.bool y), [], []⟩
def laws_eqRuleS.out (r : Ret κ) : Option Bool :=
  match r with
  | ⟨.v (.bool z0), [], []⟩ => some (z0)
  | _ => none
theorem laws_eqRuleS.out_ok (r : Ret κ) (y : Bool) (h : laws_eqRuleS.out r = some y) : r = laws_eqRuleS.g y := by
  unfold laws_eqRuleS.out at h
  split at h
  · obtain rfl := Option.some.inj h
    rfl
  · cases h
def laws_eqRuleS.body (k : Nat) (vs : List AV) (bs : List (Blk κ)) : Option (Lf κ) :=
  match vs, bs with
  | [.v (.sl 0), .v (.sl 1)], [qb0, qb1] => (asO 6 false qb0).bind fun a0 => (asO 6 false qb1).bind fun a1 => some ⟨Bool, laws_eqRuleS.f k a0 a1, laws_eqRuleS.g⟩
  | _, _ => none
def laws_eqRuleS.C (k : Nat) : Nat → List AV → AP κ AV := contract laws_eqRuleS.sig (laws_eqRuleS.body k)
theorem laws_eqRuleS.den (k : Nat) (a0 : List T_impl_Rule) (a1 : List T_impl_Rule) : Code.den ti (laws_eqRuleS.Γ k) (laws_eqRuleS.LH k) (bodyOf Tryz.f57) (finK ti Tryz.f57.results.toList [] (flags laws_eqRuleS.sig).length (rwI (flags laws_eqRuleS.sig) 0) laws_eqRuleS.out) ⟨envOf (([.v (.sl 0), .v (.sl 1)]).zipIdx.map fun q => (q.2, q.1)), hpOf [.rows 6 false a0, .rows 6 false a1], (flags laws_eqRuleS.sig).length⟩ = laws_eqRuleS.f k a0 a1 := by kernel_rfl
theorem laws_eqRuleS.ok (k : Nat) : CSound Tryz.prog 57 (laws_eqRuleS.C k) :=
  csound κ_ok mixed tok (laws_eqRuleS.hΓ k) (LH := laws_eqRuleS.LH k) (fn := Tryz.f57) (c := bodyOf Tryz.f57) Tryz.func57 rfl Tryz.call57 laws_eqRuleS.sig [] (laws_eqRuleS.body k) (by kernel_rfl) (laws_eqRuleS.lok k) (by decide) fun vs bs lf y hl hb hy => by
    unfold laws_eqRuleS.body at hb
    split at hb
    · obtain ⟨_, rfl, hb_1⟩ := asO_bind hb
      obtain ⟨_, rfl, hb_2⟩ := asO_bind hb_1
      obtain rfl := Option.some.inj hb_2
      exact ⟨laws_eqRuleS.out, laws_eqRuleS.out_ok, (laws_eqRuleS.den k _ _).trans hy⟩
    · cases hb
/-! ### laws_eqOp -/
def laws_eqOp.f (k : Nat) (a0_0 : Int) (a0_1 : Int) (a0_2 : Int) (a0_3 : Int) (a1_0 : Int) (a1_1 : Int) (a1_2 : Int) (a1_3 : Int) : Option Bool :=
  (bif (a0_0 != a1_0) then some false else (bif (a0_1 != a1_1) then some false else (bif (a0_2 != a1_2) then some false else (bif (a0_3 != a1_3) then some false else some true))))
def laws_eqOp.Γ (k : Nat) : Ct κ := assoc []
def laws_eqOp.LH (k : Nat) : Nat → Option (LHi κ) := assoc []
theorem laws_eqOp.hΓ (k : Nat) : ∀ f g, laws_eqOp.Γ k f = some g → CSound Tryz.prog f g := G_nil
theorem laws_eqOp.lok (k : Nat) : LOK ti (laws_eqOp.Γ k) (laws_eqOp.LH k) 0 (loopsOf (bodyOf Tryz.f117)) :=
  (show loopsOf (bodyOf Tryz.f117) = [] by kernel_rfl) ▸ LOK_nil
def laws_eqOp.sig : List PSh := [.agg [.sc, .sc, .sc, .sc], .agg [.sc, .sc, .sc, .sc]]
def laws_eqOp.g (y : Bool) : Ret κ := ⟨.v (.bool y), [], []⟩
def laws_eqOp.out (r : Ret κ) : Option Bool :=
  match r with
  | ⟨.v (.bool z0), [], []⟩ => some (z0)
  | _ => none
theorem laws_eqOp.out_ok (r : Ret κ) (y : Bool) (h : laws_eqOp.out r = some y) : r = laws_eqOp.g y := by
  unfold laws_eqOp.out at h
  split at h
  · obtain rfl := Option.some.inj h
    rfl
  · cases h
def laws_eqOp.body (k : Nat) (vs : List AV) (bs : List (Blk κ)) : Option (Lf κ) :=
  match vs, bs with
  | [.agg [.int .i64 a0_0, .int .i64 a0_1, .int .i64 a0_2, .int .i64 a0_3], .agg [.int .i64 a1_0, .int .i64 a1_1, .int .i64 a1_2, .int .i64 a1_3]], [] => some ⟨Bool, laws_eqOp.f k a0_0 a0_1 a0_2 a0_3 a1_0 a1_1 a1_2 a1_3, laws_eqOp.g⟩
  | _, _ => none
def laws_eqOp.C (k : Nat) : Nat → List AV → AP κ AV := contract laws_eqOp.sig (laws_eqOp.body k)
theorem laws_eqOp.den (k : Nat) (a0_0 : Int) (a0_1 : Int) (a0_2 : Int) (a0_3 : Int) (a1_0 : Int) (a1_1 : Int) (a1_2 : Int) (a1_3 : Int) : Code.den ti (laws_eqOp.Γ k) (laws_eqOp.LH k) (bodyOf Tryz.f117) (finK ti Tryz.f117.results.toList [] (flags laws_eqOp.sig).length (rwI (flags laws_eqOp.sig) 0) laws_eqOp.out) ⟨envOf (([.agg [.int .i64 a0_0, .int .i64 a0_1, .int .i64 a0_2, .int .i64 a0_3], .agg [.int .i64 a1_0, .int .i64 a1_1, .int .i64 a1_2, .int .i64 a1_3]]).zipIdx.map fun q => (q.2, q.1)), hpOf [], (flags laws_eqOp.sig).length⟩ = laws_eqOp.f k a0_0 a0_1 a0_2 a0_3 a1_0 a1_1 a1_2 a1_3 := by kernel_rfl
theorem laws_eqOp.ok (k : Nat) : CSound Tryz.prog 117 (laws_eqOp.C k) :=
  csound κ_ok mixed tok (laws_eqOp.hΓ k) (LH := laws_eqOp.LH k) (fn := Tryz.f117) (c := bodyOf Tryz.f117) Tryz.func117 rfl Tryz.call117 laws_eqOp.sig [] (laws_eqOp.body k) (by kernel_rfl) (laws_eqOp.lok k) (by decide) fun vs bs lf y hl hb hy => by
    unfold laws_eqOp.body at hb
    split at hb
    · obtain rfl := Option.some.inj hb
      exact ⟨laws_eqOp.out, laws_eqOp.out_ok, (laws_eqOp.den k _ _ _ _ _ _ _ _).trans hy⟩
    · cases hb
end Go.Proofs.YtoenilndklbceaaGreat.PFnExactUpdatePackage
