/- What the functions that the law FnUpdated reaches come to; no conditions. -/
import Derived.Test.YtoenilndklbceaaGreatPFnUpdated8
set_option linter.unusedVariables false
set_option maxRecDepth 100000
namespace Go.Proofs.YtoenilndklbceaaGreat.PFnUpdated
open Go Go.Eng Go.Proofs
/-! ### slices_Clone_Grant -/
def slices_Clone_Grant.f (k : Nat) (l : List T_impl_Grant) : Option (List T_impl_Grant) := cloneF 2 κ l
def slices_Clone_Grant.C (k : Nat) : Nat → List AV → AP κ AV := contract [.one (.ro 2)] (cloneB 2 κ)
theorem slices_Clone_Grant.ok (k : Nat) : CSound Tryz.prog 118 (slices_Clone_Grant.C k) :=
  clone_sound κ_ok mixed tok (fn := Tryz.f118) 2 Tryz.func118 rfl Tryz.call118 rfl rfl rfl rfl rfl rfl Tryz.underlying34 rfl (by kernel_rfl) (by kernel_rfl) (by kernel_rfl) rfl rfl rfl (fun l => by kernel_rfl) (fun q l => by cases q <;> kernel_rfl)
/-! ### slices_Clone_Flow -/
def slices_Clone_Flow.f (k : Nat) (l : List T_impl_Flow) : Option (List T_impl_Flow) := cloneF 3 κ l
def slices_Clone_Flow.C (k : Nat) : Nat → List AV → AP κ AV := contract [.one (.ro 3)] (cloneB 3 κ)
theorem slices_Clone_Flow.ok (k : Nat) : CSound Tryz.prog 119 (slices_Clone_Flow.C k) :=
  clone_sound κ_ok mixed tok (fn := Tryz.f119) 3 Tryz.func119 rfl Tryz.call119 rfl rfl rfl rfl rfl rfl Tryz.underlying35 rfl (by kernel_rfl) (by kernel_rfl) (by kernel_rfl) rfl rfl rfl (fun l => by kernel_rfl) (fun q l => by cases q <;> kernel_rfl)
/-! ### slices_Clone_Rule -/
def slices_Clone_Rule.f (k : Nat) (l : List T_impl_Rule) : Option (List T_impl_Rule) := cloneF 4 κ l
def slices_Clone_Rule.C (k : Nat) : Nat → List AV → AP κ AV := contract [.one (.ro 4)] (cloneB 4 κ)
theorem slices_Clone_Rule.ok (k : Nat) : CSound Tryz.prog 120 (slices_Clone_Rule.C k) :=
  clone_sound κ_ok mixed tok (fn := Tryz.f120) 4 Tryz.func120 rfl Tryz.call120 rfl rfl rfl rfl rfl rfl Tryz.underlying36 rfl (by kernel_rfl) (by kernel_rfl) (by kernel_rfl) rfl rfl rfl (fun l => by kernel_rfl) (fun q l => by cases q <;> kernel_rfl)
/-! ### slices_Clone_Op -/
def slices_Clone_Op.f (k : Nat) (l : List T_impl_Op) : Option (List T_impl_Op) := cloneF 1 κ l
def slices_Clone_Op.C (k : Nat) : Nat → List AV → AP κ AV := contract [.one (.ro 1)] (cloneB 1 κ)
theorem slices_Clone_Op.ok (k : Nat) : CSound Tryz.prog 121 (slices_Clone_Op.C k) :=
  clone_sound κ_ok mixed tok (fn := Tryz.f121) 1 Tryz.func121 rfl Tryz.call121 rfl rfl rfl rfl rfl rfl Tryz.underlying37 rfl (by kernel_rfl) (by kernel_rfl) (by kernel_rfl) rfl rfl rfl (fun l => by kernel_rfl) (fun q l => by cases q <;> kernel_rfl)
/-! ### impl_clonePackage -/
def impl_clonePackage.f (k : Nat) (a0_0 : Int) (a0_1 : Int) (a0_2 : Int) (a0_3 : List T_impl_Grant) (a0_4 : List T_impl_Flow) (a0_5 : List T_impl_Rule) (a0_6 : List T_impl_Op) (a0_7 : Int) : Option (Int × Int × Int × Int × List T_impl_Grant × List T_impl_Flow × List T_impl_Rule × List T_impl_Op) :=
  (slices_Clone_Grant.f k a0_3).bind fun t1 => (slices_Clone_Flow.f k a0_4).bind fun t2 => (slices_Clone_Rule.f k a0_5).bind fun t3 => (slices_Clone_Op.f k a0_6).bind fun t4 => some (a0_0, a0_1, a0_2, a0_7, t1, t2, t3, t4)
def impl_clonePackage.Γ (k : Nat) : Ct κ := assoc [(118, slices_Clone_Grant.C k), (119, slices_Clone_Flow.C k), (120, slices_Clone_Rule.C k), (121, slices_Clone_Op.C k)]
def impl_clonePackage.LH (k : Nat) : Nat → Option (LHi κ) := assoc []
theorem impl_clonePackage.hΓ (k : Nat) : ∀ f g, impl_clonePackage.Γ k f = some g → CSound Tryz.prog f g := G_cons (slices_Clone_Grant.ok k) (G_cons (slices_Clone_Flow.ok k) (G_cons (slices_Clone_Rule.ok k) (G_cons (slices_Clone_Op.ok k) G_nil)))
theorem impl_clonePackage.lok (k : Nat) : LOK ti (impl_clonePackage.Γ k) (impl_clonePackage.LH k) 4 (loopsOf (bodyOf Tryz.f60)) :=
  (show loopsOf (bodyOf Tryz.f60) = [] by kernel_rfl) ▸ LOK_nil
def impl_clonePackage.sig : List PSh := [.agg [.sc, .sc, .sc, .ro 2, .ro 3, .ro 4, .ro 1, .sc]]
def impl_clonePackage.g (y : Int × Int × Int × Int × List T_impl_Grant × List T_impl_Flow × List T_impl_Rule × List T_impl_Op) : Ret κ := ⟨.agg [.int .i64 y.1, .int .i64 y.2.1, .int .i64 y.2.2.1, .sl 4, .sl 5, .sl 6, .sl 7, .int .i64 y.2.2.2.1], [], [.rows 2 true y.2.2.2.2.1, .rows 3 true y.2.2.2.2.2.1, .rows 4 true y.2.2.2.2.2.2.1, .rows 1 true y.2.2.2.2.2.2.2]⟩
def impl_clonePackage.out (r : Ret κ) : Option (Int × Int × Int × Int × List T_impl_Grant × List T_impl_Flow × List T_impl_Rule × List T_impl_Op) :=
  match r with
  | ⟨.agg [.int .i64 z0, .int .i64 z1, .int .i64 z2, .sl 4, .sl 5, .sl 6, .sl 7, .int .i64 z3], [], [q4, q5, q6, q7]⟩ => (asO 2 true q4).bind fun z4 => (asO 3 true q5).bind fun z5 => (asO 4 true q6).bind fun z6 => (asO 1 true q7).bind fun z7 => some (z0, z1, z2, z3, z4, z5, z6, z7)
  | _ => none
theorem impl_clonePackage.out_ok (r : Ret κ) (y : Int × Int × Int × Int × List T_impl_Grant × List T_impl_Flow × List T_impl_Rule × List T_impl_Op) (h : impl_clonePackage.out r = some y) : r = impl_clonePackage.g y := by
  unfold impl_clonePackage.out at h
  split at h
  · obtain ⟨_, rfl, h_1⟩ := asO_bind h
    obtain ⟨_, rfl, h_2⟩ := asO_bind h_1
    obtain ⟨_, rfl, h_3⟩ := asO_bind h_2
    obtain ⟨_, rfl, h_4⟩ := asO_bind h_3
    obtain rfl := Option.some.inj h_4
    rfl
  · cases h
def impl_clonePackage.body (k : Nat) (vs : List AV) (bs : List (Blk κ)) : Option (Lf κ) :=
  match vs, bs with
  | [.agg [.int .i64 a0_0, .int .i64 a0_1, .int .i64 a0_2, .sl 0, .sl 1, .sl 2, .sl 3, .int .i64 a0_7]], [qb0, qb1, qb2, qb3] => (asO 2 false qb0).bind fun a0_3 => (asO 3 false qb1).bind fun a0_4 => (asO 4 false qb2).bind fun a0_5 => (asO 1 false qb3).bind fun a0_6 => some ⟨Int × Int × Int × Int × List T_impl_Grant × List T_impl_Flow × List T_impl_Rule × List T_impl_Op, impl_clonePackage.f k a0_0 a0_1 a0_2 a0_3 a0_4 a0_5 a0_6 a0_7, impl_clonePackage.g⟩
  | _, _ => none
def impl_clonePackage.C (k : Nat) : Nat → List AV → AP κ AV := contract impl_clonePackage.sig (impl_clonePackage.body k)
theorem impl_clonePackage.den (k : Nat) (a0_0 : Int) (a0_1 : Int) (a0_2 : Int) (a0_3 : List T_impl_Grant) (a0_4 : List T_impl_Flow) (a0_5 : List T_impl_Rule) (a0_6 : List T_impl_Op) (a0_7 : Int) : Code.den ti (impl_clonePackage.Γ k) (impl_clonePackage.LH k) (bodyOf Tryz.f60) (finK ti Tryz.f60.results.toList [(2, [none, none, none, some 2, some 3, some 4, some 1, none])] (flags impl_clonePackage.sig).length (rwI (flags impl_clonePackage.sig) 0) impl_clonePackage.out) ⟨envOf (([.agg [.int .i64 a0_0, .int .i64 a0_1, .int .i64 a0_2, .sl 0, .sl 1, .sl 2, .sl 3, .int .i64 a0_7]]).zipIdx.map fun q => (q.2, q.1)), hpOf [.rows 2 false a0_3, .rows 3 false a0_4, .rows 4 false a0_5, .rows 1 false a0_6], (flags impl_clonePackage.sig).length⟩ = impl_clonePackage.f k a0_0 a0_1 a0_2 a0_3 a0_4 a0_5 a0_6 a0_7 := by kernel_rfl
theorem impl_clonePackage.ok (k : Nat) : CSound Tryz.prog 60 (impl_clonePackage.C k) :=
  csound κ_ok mixed tok (impl_clonePackage.hΓ k) (LH := impl_clonePackage.LH k) (fn := Tryz.f60) (c := bodyOf Tryz.f60) Tryz.func60 rfl Tryz.call60 impl_clonePackage.sig [(2, [none, none, none, some 2, some 3, some 4, some 1, none])] (impl_clonePackage.body k) (by kernel_rfl) (impl_clonePackage.lok k) (by decide) fun vs bs lf y hl hb hy => by
    unfold impl_clonePackage.body at hb
    split at hb
    · obtain ⟨_, rfl, hb_1⟩ := asO_bind hb
      obtain ⟨_, rfl, hb_2⟩ := asO_bind hb_1
      obtain ⟨_, rfl, hb_3⟩ := asO_bind hb_2
      obtain ⟨_, rfl, hb_4⟩ := asO_bind hb_3
      obtain rfl := Option.some.inj hb_4
      exact ⟨impl_clonePackage.out, impl_clonePackage.out_ok, (impl_clonePackage.den k _ _ _ _ _ _ _ _).trans hy⟩
    · cases hb
/-! ### impl_UpdatePackage -/
def impl_UpdatePackage.f (k : Nat) (a0 : Int) (a1_0 : Int) (a1_1 : Int) (a1_2 : Int) (a1_3 : List T_impl_Grant) (a1_4 : List T_impl_Flow) (a1_5 : List T_impl_Rule) (a1_6 : List T_impl_Op) (a1_7 : Int) (a2_0 : Int) (a2_1 : Int) (a2_2 : Int) (a2_3 : List T_impl_Grant) (a2_4 : List T_impl_Flow) (a2_5 : List T_impl_Rule) (a2_6 : List T_impl_Op) (a2_7 : Int) (a3 : Bool) : Option (Int × Int × Int × Int × Bool × List T_impl_Grant × List T_impl_Flow × List T_impl_Rule × List T_impl_Op) :=
  (impl_UpdateCode.f k a0 a1_0 a1_1 a1_2 a1_3 a1_4 a1_5 a1_6 a1_7 a2_0 a2_1 a2_2 a2_3 a2_4 a2_5 a2_6 a2_7 a3).bind fun t1 => (bif (t1 != (0 : Int)) then (impl_clonePackage.f k a1_0 a1_1 a1_2 a1_3 a1_4 a1_5 a1_6 a1_7).bind fun t2 => some (t2.1, t2.2.1, t2.2.2.1, t2.2.2.2.1, false, t2.2.2.2.2.1, t2.2.2.2.2.2.1, t2.2.2.2.2.2.2.1, t2.2.2.2.2.2.2.2) else (impl_clonePackage.f k a2_0 a2_1 a2_2 a2_3 a2_4 a2_5 a2_6 a2_7).bind fun t3 => some (t3.1, t3.2.1, t3.2.2.1, t3.2.2.2.1, true, t3.2.2.2.2.1, t3.2.2.2.2.2.1, t3.2.2.2.2.2.2.1, t3.2.2.2.2.2.2.2))
def impl_UpdatePackage.Γ (k : Nat) : Ct κ := assoc [(23, impl_UpdateCode.C k), (60, impl_clonePackage.C k)]
def impl_UpdatePackage.LH (k : Nat) : Nat → Option (LHi κ) := assoc []
theorem impl_UpdatePackage.hΓ (k : Nat) : ∀ f g, impl_UpdatePackage.Γ k f = some g → CSound Tryz.prog f g := G_cons (impl_UpdateCode.ok k) (G_cons (impl_clonePackage.ok k) G_nil)
theorem impl_UpdatePackage.lok (k : Nat) : LOK ti (impl_UpdatePackage.Γ k) (impl_UpdatePackage.LH k) 8 (loopsOf (bodyOf Tryz.f18)) :=
  (show loopsOf (bodyOf Tryz.f18) = [] by kernel_rfl) ▸ LOK_nil
def impl_UpdatePackage.sig : List PSh := [.one .sc, .agg [.sc, .sc, .sc, .ro 2, .ro 3, .ro 4, .ro 1, .sc], .agg [.sc, .sc, .sc, .ro 2, .ro 3, .ro 4, .ro 1, .sc], .one .sc]
def impl_UpdatePackage.g (y : Int × Int × Int × Int × Bool × List T_impl_Grant × List T_impl_Flow × List T_impl_Rule × List T_impl_Op) : Ret κ := ⟨.tup [(true, [.int .i64 y.1, .int .i64 y.2.1, .int .i64 y.2.2.1, .sl 8, .sl 9, .sl 10, .sl 11, .int .i64 y.2.2.2.1]), (false, [.bool y.2.2.2.2.1])], [], [.rows 2 true y.2.2.2.2.2.1, .rows 3 true y.2.2.2.2.2.2.1, .rows 4 true y.2.2.2.2.2.2.2.1, .rows 1 true y.2.2.2.2.2.2.2.2]⟩
def impl_UpdatePackage.out (r : Ret κ) : Option (Int × Int × Int × Int × Bool × List T_impl_Grant × List T_impl_Flow × List T_impl_Rule × List T_impl_Op) :=
  match r with
  | ⟨.tup [(true, [.int .i64 z0, .int .i64 z1, .int .i64 z2, .sl 8, .sl 9, .sl 10, .sl 11, .int .i64 z3]), (false, [.bool z4])], [], [q5, q6, q7, q8]⟩ => (asO 2 true q5).bind fun z5 => (asO 3 true q6).bind fun z6 => (asO 4 true q7).bind fun z7 => (asO 1 true q8).bind fun z8 => some (z0, z1, z2, z3, z4, z5, z6, z7, z8)
  | _ => none
theorem impl_UpdatePackage.out_ok (r : Ret κ) (y : Int × Int × Int × Int × Bool × List T_impl_Grant × List T_impl_Flow × List T_impl_Rule × List T_impl_Op) (h : impl_UpdatePackage.out r = some y) : r = impl_UpdatePackage.g y := by
  unfold impl_UpdatePackage.out at h
  split at h
  · obtain ⟨_, rfl, h_1⟩ := asO_bind h
    obtain ⟨_, rfl, h_2⟩ := asO_bind h_1
    obtain ⟨_, rfl, h_3⟩ := asO_bind h_2
    obtain ⟨_, rfl, h_4⟩ := asO_bind h_3
    obtain rfl := Option.some.inj h_4
    rfl
  · cases h
def impl_UpdatePackage.body (k : Nat) (vs : List AV) (bs : List (Blk κ)) : Option (Lf κ) :=
  match vs, bs with
  | [.v (.int .i64 a0), .agg [.int .i64 a1_0, .int .i64 a1_1, .int .i64 a1_2, .sl 0, .sl 1, .sl 2, .sl 3, .int .i64 a1_7], .agg [.int .i64 a2_0, .int .i64 a2_1, .int .i64 a2_2, .sl 4, .sl 5, .sl 6, .sl 7, .int .i64 a2_7], .v (.bool a3)], [qb0, qb1, qb2, qb3, qb4, qb5, qb6, qb7] => (asO 2 false qb0).bind fun a1_3 => (asO 3 false qb1).bind fun a1_4 => (asO 4 false qb2).bind fun a1_5 => (asO 1 false qb3).bind fun a1_6 => (asO 2 false qb4).bind fun a2_3 => (asO 3 false qb5).bind fun a2_4 => (asO 4 false qb6).bind fun a2_5 => (asO 1 false qb7).bind fun a2_6 => some ⟨Int × Int × Int × Int × Bool × List T_impl_Grant × List T_impl_Flow × List T_impl_Rule × List T_impl_Op, impl_UpdatePackage.f k a0 a1_0 a1_1 a1_2 a1_3 a1_4 a1_5 a1_6 a1_7 a2_0 a2_1 a2_2 a2_3 a2_4 a2_5 a2_6 a2_7 a3, impl_UpdatePackage.g⟩
  | _, _ => none
def impl_UpdatePackage.C (k : Nat) : Nat → List AV → AP κ AV := contract impl_UpdatePackage.sig (impl_UpdatePackage.body k)
theorem impl_UpdatePackage.den (k : Nat) (a0 : Int) (a1_0 : Int) (a1_1 : Int) (a1_2 : Int) (a1_3 : List T_impl_Grant) (a1_4 : List T_impl_Flow) (a1_5 : List T_impl_Rule) (a1_6 : List T_impl_Op) (a1_7 : Int) (a2_0 : Int) (a2_1 : Int) (a2_2 : Int) (a2_3 : List T_impl_Grant) (a2_4 : List T_impl_Flow) (a2_5 : List T_impl_Rule) (a2_6 : List T_impl_Op) (a2_7 : Int) (a3 : Bool) : Code.den ti (impl_UpdatePackage.Γ k) (impl_UpdatePackage.LH k) (bodyOf Tryz.f18) (finK ti Tryz.f18.results.toList [(8, [none, none, none, some 2, some 3, some 4, some 1, none])] (flags impl_UpdatePackage.sig).length (rwI (flags impl_UpdatePackage.sig) 0) impl_UpdatePackage.out) ⟨envOf (([.v (.int .i64 a0), .agg [.int .i64 a1_0, .int .i64 a1_1, .int .i64 a1_2, .sl 0, .sl 1, .sl 2, .sl 3, .int .i64 a1_7], .agg [.int .i64 a2_0, .int .i64 a2_1, .int .i64 a2_2, .sl 4, .sl 5, .sl 6, .sl 7, .int .i64 a2_7], .v (.bool a3)]).zipIdx.map fun q => (q.2, q.1)), hpOf [.rows 2 false a1_3, .rows 3 false a1_4, .rows 4 false a1_5, .rows 1 false a1_6, .rows 2 false a2_3, .rows 3 false a2_4, .rows 4 false a2_5, .rows 1 false a2_6], (flags impl_UpdatePackage.sig).length⟩ = impl_UpdatePackage.f k a0 a1_0 a1_1 a1_2 a1_3 a1_4 a1_5 a1_6 a1_7 a2_0 a2_1 a2_2 a2_3 a2_4 a2_5 a2_6 a2_7 a3 := by kernel_rfl
theorem impl_UpdatePackage.ok (k : Nat) : CSound Tryz.prog 18 (impl_UpdatePackage.C k) :=
  csound κ_ok mixed tok (impl_UpdatePackage.hΓ k) (LH := impl_UpdatePackage.LH k) (fn := Tryz.f18) (c := bodyOf Tryz.f18) Tryz.func18 rfl Tryz.call18 impl_UpdatePackage.sig [(8, [none, none, none, some 2, some 3, some 4, some 1, none])] (impl_UpdatePackage.body k) (by kernel_rfl) (impl_UpdatePackage.lok k) (by decide) fun vs bs lf y hl hb hy => by
    unfold impl_UpdatePackage.body at hb
    split at hb
    · obtain ⟨_, rfl, hb_1⟩ := asO_bind hb
      obtain ⟨_, rfl, hb_2⟩ := asO_bind hb_1
      obtain ⟨_, rfl, hb_3⟩ := asO_bind hb_2
      obtain ⟨_, rfl, hb_4⟩ := asO_bind hb_3
      obtain ⟨_, rfl, hb_5⟩ := asO_bind hb_4
      obtain ⟨_, rfl, hb_6⟩ := asO_bind hb_5
      obtain ⟨_, rfl, hb_7⟩ := asO_bind hb_6
      obtain ⟨_, rfl, hb_8⟩ := asO_bind hb_7
      obtain rfl := Option.some.inj hb_8
      exact ⟨impl_UpdatePackage.out, impl_UpdatePackage.out_ok, (impl_UpdatePackage.den k _ _ _ _ _ _ _ _ _ _ _ _ _ _ _ _ _ _).trans hy⟩
    · cases hb
/-! ### impl_UpdateName -/
def impl_UpdateName.f (k : Nat) (a0 : Int) : Option ByteArray :=
  (bif (a0 == (0 : Int)) then some (ByteArray.mk #[100, 111, 110, 101]) else (bif (a0 == (1 : Int)) then some (ByteArray.mk #[102, 111, 114, 109]) else (bif (a0 == (2 : Int)) then some (ByteArray.mk #[111, 108, 100]) else (bif (a0 == (3 : Int)) then some (ByteArray.mk #[99, 111, 110, 115, 101, 110, 116]) else some (ByteArray.mk #[])))))
def impl_UpdateName.Γ (k : Nat) : Ct κ := assoc []
def impl_UpdateName.LH (k : Nat) : Nat → Option (LHi κ) := assoc []
theorem impl_UpdateName.hΓ (k : Nat) : ∀ f g, impl_UpdateName.Γ k f = some g → CSound Tryz.prog f g := G_nil
theorem impl_UpdateName.lok (k : Nat) : LOK ti (impl_UpdateName.Γ k) (impl_UpdateName.LH k) 0 (loopsOf (bodyOf Tryz.f24)) :=
  (show loopsOf (bodyOf Tryz.f24) = [] by kernel_rfl) ▸ LOK_nil
def impl_UpdateName.sig : List PSh := [.one .sc]
def impl_UpdateName.g (y : ByteArray) : Ret κ := ⟨.v (.str y), [], []⟩
def impl_UpdateName.out (r : Ret κ) : Option ByteArray :=
  match r with
  | ⟨.v (.str z0), [], []⟩ => some (z0)
  | _ => none
theorem impl_UpdateName.out_ok (r : Ret κ) (y : ByteArray) (h : impl_UpdateName.out r = some y) : r = impl_UpdateName.g y := by
  unfold impl_UpdateName.out at h
  split at h
  · obtain rfl := Option.some.inj h
    rfl
  · cases h
def impl_UpdateName.body (k : Nat) (vs : List AV) (bs : List (Blk κ)) : Option (Lf κ) :=
  match vs, bs with
  | [.v (.int .i64 a0)], [] => some ⟨ByteArray, impl_UpdateName.f k a0, impl_UpdateName.g⟩
  | _, _ => none
def impl_UpdateName.C (k : Nat) : Nat → List AV → AP κ AV := contract impl_UpdateName.sig (impl_UpdateName.body k)
theorem impl_UpdateName.den (k : Nat) (a0 : Int) : Code.den ti (impl_UpdateName.Γ k) (impl_UpdateName.LH k) (bodyOf Tryz.f24) (finK ti Tryz.f24.results.toList [] (flags impl_UpdateName.sig).length (rwI (flags impl_UpdateName.sig) 0) impl_UpdateName.out) ⟨envOf (([.v (.int .i64 a0)]).zipIdx.map fun q => (q.2, q.1)), hpOf [], (flags impl_UpdateName.sig).length⟩ = impl_UpdateName.f k a0 := by kernel_rfl
theorem impl_UpdateName.ok (k : Nat) : CSound Tryz.prog 24 (impl_UpdateName.C k) :=
  csound κ_ok mixed tok (impl_UpdateName.hΓ k) (LH := impl_UpdateName.LH k) (fn := Tryz.f24) (c := bodyOf Tryz.f24) Tryz.func24 rfl Tryz.call24 impl_UpdateName.sig [] (impl_UpdateName.body k) (by kernel_rfl) (impl_UpdateName.lok k) (by decide) fun vs bs lf y hl hb hy => by
    unfold impl_UpdateName.body at hb
    split at hb
    · obtain rfl := Option.some.inj hb
      exact ⟨impl_UpdateName.out, impl_UpdateName.out_ok, (impl_UpdateName.den k _).trans hy⟩
    · cases hb
/-! ### slices_Equal_Grant -/
def slices_Equal_Grant.L4 {R : Type} (k : Nat) (x2 : Int) (xl0 : List T_impl_Grant) (xl1 : List T_impl_Grant) (X0 : Bool → Option R) (X1 : Unit → Option R) (rec : Int → Option R) (x3 : Int) : Option R :=
  (bif decide (x3 < x2) then (bif decide (0 ≤ x3) then (bif decide (x3 < (xl0.length : Int)) then (bif decide (0 ≤ x3) then (bif decide (x3 < (xl1.length : Int)) then (bif !((((rd_impl_Grant xl0 x3).f0) == ((rd_impl_Grant xl1 x3).f0)) && ((((rd_impl_Grant xl0 x3).f1.f0) == ((rd_impl_Grant xl1 x3).f1.f0)) && ((((rd_impl_Grant xl0 x3).f1.f1) == ((rd_impl_Grant xl1 x3).f1.f1)) && ((((rd_impl_Grant xl0 x3).f2) == ((rd_impl_Grant xl1 x3).f2)) && ((((rd_impl_Grant xl0 x3).f3) == ((rd_impl_Grant xl1 x3).f3)) && ((((rd_impl_Grant xl0 x3).f4) == ((rd_impl_Grant xl1 x3).f4)) && (((rd_impl_Grant xl0 x3).f5) == ((rd_impl_Grant xl1 x3).f5)))))))) then (X0 false) else (rec (w64 (x3 + (1 : Int))))) else none) else none) else none) else none) else (X1 ()))
def slices_Equal_Grant.l4 {R : Type} (k : Nat) (x2 : Int) (xl0 : List T_impl_Grant) (xl1 : List T_impl_Grant) (X0 : Bool → Option R) (X1 : Unit → Option R) : Nat → Int → Option R
  | 0 => fun _ => none
  | n + 1 => slices_Equal_Grant.L4 k x2 xl0 xl1 X0 X1 (slices_Equal_Grant.l4 k x2 xl0 xl1 X0 X1 n)
def slices_Equal_Grant.f (k : Nat) (a0 : List T_impl_Grant) (a1 : List T_impl_Grant) : Option Bool :=
  (bif ((a0.length : Int) != (a1.length : Int)) then some false else (slices_Equal_Grant.l4 k (a0.length : Int) a0 a1 (fun (y1 : Bool) => some y1) (fun (_ : Unit) => some true) k (0 : Int)))
def slices_Equal_Grant.h4 (k : Nat) {R : Type} (K : Ex → St κ → Option R) (vs : List AV) (bs : List (Blk κ)) : Option R :=
  match vs, bs with
  | [.v (.sl 0), .v (.sl 1), .v (.int .i64 x2), .v (.int .i64 x3)], [qb0, qb1] => (asO 2 false qb0).bind fun xl0 => (asO 2 false qb1).bind fun xl1 => slices_Equal_Grant.l4 k x2 xl0 xl1 (fun (z0 : Bool) => K .ret (stOf [(4, [])] [.v (.bool z0)] [.rows 2 false xl0, .rows 2 false xl1])) (fun (_ : Unit) => K (.exit 0) (stOf [(4, [])] [.v .any] [.rows 2 false xl0, .rows 2 false xl1])) k x3
  | _, _ => none
def slices_Equal_Grant.Γ (k : Nat) : Ct κ := assoc []
def slices_Equal_Grant.LH (k : Nat) : Nat → Option (LHi κ) := assoc [(4, ⟨2, [(0, [some 2]), (1, [some 2]), (12, []), (13, [])], [(4, [])], @slices_Equal_Grant.h4 k⟩)]
theorem slices_Equal_Grant.hΓ (k : Nat) : ∀ f g, slices_Equal_Grant.Γ k f = some g → CSound Tryz.prog f g := G_nil
theorem slices_Equal_Grant.e4 {R : Type} (K : Ex → St κ → Option R) (k : Nat) (x2 : Int) (xl0 : List T_impl_Grant) (xl1 : List T_impl_Grant) : ∀ (n : Nat) (x3 : Int), loopN 2 (Code.den ti (slices_Equal_Grant.Γ k) (slices_Equal_Grant.LH k) (loopAt Tryz.f70 0)) [(0, [some 2]), (1, [some 2]), (12, []), (13, [])] [(4, [])] K n [.v (.sl 0), .v (.sl 1), .v (.int .i64 x2), .v (.int .i64 x3)] [.rows 2 false xl0, .rows 2 false xl1] = slices_Equal_Grant.l4 k x2 xl0 xl1 (fun (z0 : Bool) => K .ret (stOf [(4, [])] [.v (.bool z0)] [.rows 2 false xl0, .rows 2 false xl1])) (fun (_ : Unit) => K (.exit 0) (stOf [(4, [])] [.v .any] [.rows 2 false xl0, .rows 2 false xl1])) n x3
  | 0, _ => rfl
  | n + 1, x3 => (show loopN 2 (Code.den ti (slices_Equal_Grant.Γ k) (slices_Equal_Grant.LH k) (loopAt Tryz.f70 0)) [(0, [some 2]), (1, [some 2]), (12, []), (13, [])] [(4, [])] K (n + 1) [.v (.sl 0), .v (.sl 1), .v (.int .i64 x2), .v (.int .i64 x3)] [.rows 2 false xl0, .rows 2 false xl1] = slices_Equal_Grant.L4 k x2 xl0 xl1 (fun (z0 : Bool) => K .ret (stOf [(4, [])] [.v (.bool z0)] [.rows 2 false xl0, .rows 2 false xl1])) (fun (_ : Unit) => K (.exit 0) (stOf [(4, [])] [.v .any] [.rows 2 false xl0, .rows 2 false xl1])) (fun (x3' : Int) => loopN 2 (Code.den ti (slices_Equal_Grant.Γ k) (slices_Equal_Grant.LH k) (loopAt Tryz.f70 0)) [(0, [some 2]), (1, [some 2]), (12, []), (13, [])] [(4, [])] K n [.v (.sl 0), .v (.sl 1), .v (.int .i64 x2), .v (.int .i64 x3')] [.rows 2 false xl0, .rows 2 false xl1]) x3 by kernel_rfl).trans (congrArg (fun rec => slices_Equal_Grant.L4 k x2 xl0 xl1 (fun (z0 : Bool) => K .ret (stOf [(4, [])] [.v (.bool z0)] [.rows 2 false xl0, .rows 2 false xl1])) (fun (_ : Unit) => K (.exit 0) (stOf [(4, [])] [.v .any] [.rows 2 false xl0, .rows 2 false xl1])) rec x3) (funext fun x3' => slices_Equal_Grant.e4 K k x2 xl0 xl1 n x3'))
theorem slices_Equal_Grant.q4 (k : Nat) {R : Type} (K : Ex → St κ → Option R) (vs : List AV) (bs : List (Blk κ)) (r : R) (h : slices_Equal_Grant.h4 k K vs bs = some r) : ∃ n, loopN 2 (Code.den ti (slices_Equal_Grant.Γ k) (slices_Equal_Grant.LH k) (loopAt Tryz.f70 0)) [(0, [some 2]), (1, [some 2]), (12, []), (13, [])] [(4, [])] K n vs bs = some r := by
  unfold slices_Equal_Grant.h4 at h
  split at h
  · obtain ⟨_, rfl, h_1⟩ := asO_bind h
    obtain ⟨_, rfl, h_2⟩ := asO_bind h_1
    exact ⟨k, (slices_Equal_Grant.e4 K k _ _ _ k _).trans h_2⟩
  · cases h
theorem slices_Equal_Grant.lok (k : Nat) : LOK ti (slices_Equal_Grant.Γ k) (slices_Equal_Grant.LH k) 2 (loopsOf (bodyOf Tryz.f70)) :=
  (show loopsOf (bodyOf Tryz.f70) = [loopAt Tryz.f70 0] by kernel_rfl) ▸ (LOK_cons (g := ⟨2, [(0, [some 2]), (1, [some 2]), (12, []), (13, [])], [(4, [])], @slices_Equal_Grant.h4 k⟩) (by kernel_rfl) rfl (fun K vs xs r h => slices_Equal_Grant.q4 k K vs xs r h) (LOK_nil))
def slices_Equal_Grant.sig : List PSh := [.one (.ro 2), .one (.ro 2)]
def slices_Equal_Grant.g (y : Bool) : Ret κ := ⟨.v (.bool y), [], []⟩
def slices_Equal_Grant.out (r : Ret κ) : Option Bool :=
  match r with
  | ⟨.v (.bool z0), [], []⟩ => some (z0)
  | _ => none
theorem slices_Equal_Grant.out_ok (r : Ret κ) (y : Bool) (h : slices_Equal_Grant.out r = some y) : r = slices_Equal_Grant.g y := by
  unfold slices_Equal_Grant.out at h
  split at h
  · obtain rfl := Option.some.inj h
    rfl
  · cases h
def slices_Equal_Grant.body (k : Nat) (vs : List AV) (bs : List (Blk κ)) : Option (Lf κ) :=
  match vs, bs with
  | [.v (.sl 0), .v (.sl 1)], [qb0, qb1] => (asO 2 false qb0).bind fun a0 => (asO 2 false qb1).bind fun a1 => some ⟨Bool, slices_Equal_Grant.f k a0 a1, slices_Equal_Grant.g⟩
  | _, _ => none
def slices_Equal_Grant.C (k : Nat) : Nat → List AV → AP κ AV := contract slices_Equal_Grant.sig (slices_Equal_Grant.body k)
theorem slices_Equal_Grant.den (k : Nat) (a0 : List T_impl_Grant) (a1 : List T_impl_Grant) : Code.den ti (slices_Equal_Grant.Γ k) (slices_Equal_Grant.LH k) (bodyOf Tryz.f70) (finK ti Tryz.f70.results.toList [] (flags slices_Equal_Grant.sig).length (rwI (flags slices_Equal_Grant.sig) 0) slices_Equal_Grant.out) ⟨envOf (([.v (.sl 0), .v (.sl 1)]).zipIdx.map fun q => (q.2, q.1)), hpOf [.rows 2 false a0, .rows 2 false a1], (flags slices_Equal_Grant.sig).length⟩ = slices_Equal_Grant.f k a0 a1 := by kernel_rfl
theorem slices_Equal_Grant.ok (k : Nat) : CSound Tryz.prog 70 (slices_Equal_Grant.C k) :=
  csound κ_ok mixed tok (slices_Equal_Grant.hΓ k) (LH := slices_Equal_Grant.LH k) (fn := Tryz.f70) (c := bodyOf Tryz.f70) Tryz.func70 rfl Tryz.call70 slices_Equal_Grant.sig [] (slices_Equal_Grant.body k) (by kernel_rfl) (slices_Equal_Grant.lok k) (by decide) fun vs bs lf y hl hb hy => by
    unfold slices_Equal_Grant.body at hb
    split at hb
    · obtain ⟨_, rfl, hb_1⟩ := asO_bind hb
      obtain ⟨_, rfl, hb_2⟩ := asO_bind hb_1
      obtain rfl := Option.some.inj hb_2
      exact ⟨slices_Equal_Grant.out, slices_Equal_Grant.out_ok, (slices_Equal_Grant.den k _ _).trans hy⟩
    · cases hb
/-! ### slices_Equal_Flow -/
def slices_Equal_Flow.L4 {R : Type} (k : Nat) (x2 : Int) (xl0 : List T_impl_Flow) (xl1 : List T_impl_Flow) (X0 : Bool → Option R) (X1 : Unit → Option R) (rec : Int → Option R) (x3 : Int) : Option R :=
  (bif decide (x3 < x2) then (bif decide (0 ≤ x3) then (bif decide (x3 < (xl0.length : Int)) then (bif decide (0 ≤ x3) then (bif decide (x3 < (xl1.length : Int)) then (bif !((((rd_impl_Flow xl0 x3).f0) == ((rd_impl_Flow xl1 x3).f0)) && ((((rd_impl_Flow xl0 x3).f1) == ((rd_impl_Flow xl1 x3).f1)) && (((rd_impl_Flow xl0 x3).f2) == ((rd_impl_Flow xl1 x3).f2)))) then (X0 false) else (rec (w64 (x3 + (1 : Int))))) else none) else none) else none) else none) else (X1 ()))
def slices_Equal_Flow.l4 {R : Type} (k : Nat) (x2 : Int) (xl0 : List T_impl_Flow) (xl1 : List T_impl_Flow) (X0 : Bool → Option R) (X1 : Unit → Option R) : Nat → Int → Option R
  | 0 => fun _ => none
  | n + 1 => slices_Equal_Flow.L4 k x2 xl0 xl1 X0 X1 (slices_Equal_Flow.l4 k x2 xl0 xl1 X0 X1 n)
def slices_Equal_Flow.f (k : Nat) (a0 : List T_impl_Flow) (a1 : List T_impl_Flow) : Option Bool :=
  (bif ((a0.length : Int) != (a1.length : Int)) then some false else (slices_Equal_Flow.l4 k (a0.length : Int) a0 a1 (fun (y1 : Bool) => some y1) (fun (_ : Unit) => some true) k (0 : Int)))
def slices_Equal_Flow.h4 (k : Nat) {R : Type} (K : Ex → St κ → Option R) (vs : List AV) (bs : List (Blk κ)) : Option R :=
  match vs, bs with
  | [.v (.sl 0), .v (.sl 1), .v (.int .i64 x2), .v (.int .i64 x3)], [qb0, qb1] => (asO 3 false qb0).bind fun xl0 => (asO 3 false qb1).bind fun xl1 => slices_Equal_Flow.l4 k x2 xl0 xl1 (fun (z0 : Bool) => K .ret (stOf [(4, [])] [.v (.bool z0)] [.rows 3 false xl0, .rows 3 false xl1])) (fun (_ : Unit) => K (.exit 0) (stOf [(4, [])] [.v .any] [.rows 3 false xl0, .rows 3 false xl1])) k x3
  | _, _ => none
def slices_Equal_Flow.Γ (k : Nat) : Ct κ := assoc []
def slices_Equal_Flow.LH (k : Nat) : Nat → Option (LHi κ) := assoc [(4, ⟨2, [(0, [some 3]), (1, [some 3]), (12, []), (13, [])], [(4, [])], @slices_Equal_Flow.h4 k⟩)]
theorem slices_Equal_Flow.hΓ (k : Nat) : ∀ f g, slices_Equal_Flow.Γ k f = some g → CSound Tryz.prog f g := G_nil
theorem slices_Equal_Flow.e4 {R : Type} (K : Ex → St κ → Option R) (k : Nat) (x2 : Int) (xl0 : List T_impl_Flow) (xl1 : List T_impl_Flow) : ∀ (n : Nat) (x3 : Int), loopN 2 (Code.den ti (slices_Equal_Flow.Γ k) (slices_Equal_Flow.LH k) (loopAt Tryz.f71 0)) [(0, [some 3]), (1, [some 3]), (12, []), (13, [])] [(4, [])] K n [.v (.sl 0), .v (.sl 1), .v (.int .i64 x2), .v (.int .i64 x3)] [.rows 3 false xl0, .rows 3 false xl1] = slices_Equal_Flow.l4 k x2 xl0 xl1 (fun (z0 : Bool) => K .ret (stOf [(4, [])] [.v (.bool z0)] [.rows 3 false xl0, .rows 3 false xl1])) (fun (_ : Unit) => K (.exit 0) (stOf [(4, [])] [.v .any] [.rows 3 false xl0, .rows 3 false xl1])) n x3
  | 0, _ => rfl
  | n + 1, x3 => (show loopN 2 (Code.den ti (slices_Equal_Flow.Γ k) (slices_Equal_Flow.LH k) (loopAt Tryz.f71 0)) [(0, [some 3]), (1, [some 3]), (12, []), (13, [])] [(4, [])] K (n + 1) [.v (.sl 0), .v (.sl 1), .v (.int .i64 x2), .v (.int .i64 x3)] [.rows 3 false xl0, .rows 3 false xl1] = slices_Equal_Flow.L4 k x2 xl0 xl1 (fun (z0 : Bool) => K .ret (stOf [(4, [])] [.v (.bool z0)] [.rows 3 false xl0, .rows 3 false xl1])) (fun (_ : Unit) => K (.exit 0) (stOf [(4, [])] [.v .any] [.rows 3 false xl0, .rows 3 false xl1])) (fun (x3' : Int) => loopN 2 (Code.den ti (slices_Equal_Flow.Γ k) (slices_Equal_Flow.LH k) (loopAt Tryz.f71 0)) [(0, [some 3]), (1, [some 3]), (12, []), (13, [])] [(4, [])] K n [.v (.sl 0), .v (.sl 1), .v (.int .i64 x2), .v (.int .i64 x3')] [.rows 3 false xl0, .rows 3 false xl1]) x3 by kernel_rfl).trans (congrArg (fun rec => slices_Equal_Flow.L4 k x2 xl0 xl1 (fun (z0 : Bool) => K .ret (stOf [(4, [])] [.v (.bool z0)] [.rows 3 false xl0, .rows 3 false xl1])) (fun (_ : Unit) => K (.exit 0) (stOf [(4, [])] [.v .any] [.rows 3 false xl0, .rows 3 false xl1])) rec x3) (funext fun x3' => slices_Equal_Flow.e4 K k x2 xl0 xl1 n x3'))
theorem slices_Equal_Flow.q4 (k : Nat) {R : Type} (K : Ex → St κ → Option R) (vs : List AV) (bs : List (Blk κ)) (r : R) (h : slices_Equal_Flow.h4 k K vs bs = some r) : ∃ n, loopN 2 (Code.den ti (slices_Equal_Flow.Γ k) (slices_Equal_Flow.LH k) (loopAt Tryz.f71 0)) [(0, [some 3]), (1, [some 3]), (12, []), (13, [])] [(4, [])] K n vs bs = some r := by
  unfold slices_Equal_Flow.h4 at h
  split at h
  · obtain ⟨_, rfl, h_1⟩ := asO_bind h
    obtain ⟨_, rfl, h_2⟩ := asO_bind h_1
    exact ⟨k, (slices_Equal_Flow.e4 K k _ _ _ k _).trans h_2⟩
  · cases h
theorem slices_Equal_Flow.lok (k : Nat) : LOK ti (slices_Equal_Flow.Γ k) (slices_Equal_Flow.LH k) 2 (loopsOf (bodyOf Tryz.f71)) :=
  (show loopsOf (bodyOf Tryz.f71) = [loopAt Tryz.f71 0] by kernel_rfl) ▸ (LOK_cons (g := ⟨2, [(0, [some 3]), (1, [some 3]), (12, []), (13, [])], [(4, [])], @slices_Equal_Flow.h4 k⟩) (by kernel_rfl) rfl (fun K vs xs r h => slices_Equal_Flow.q4 k K vs xs r h) (LOK_nil))
def slices_Equal_Flow.sig : List PSh := [.one (.ro 3), .one (.ro 3)]
def slices_Equal_Flow.g (y : Bool) : Ret κ := ⟨.v (.bool y), [], []⟩
def slices_Equal_Flow.out (r : Ret κ) : Option Bool :=
  match r with
  | ⟨.v (.bool z0), [], []⟩ => some (z0)
  | _ => none
theorem slices_Equal_Flow.out_ok (r : Ret κ) (y : Bool) (h : slices_Equal_Flow.out r = some y) : r = slices_Equal_Flow.g y := by
  unfold slices_Equal_Flow.out at h
  split at h
  · obtain rfl := Option.some.inj h
    rfl
  · cases h
def slices_Equal_Flow.body (k : Nat) (vs : List AV) (bs : List (Blk κ)) : Option (Lf κ) :=
  match vs, bs with
  | [.v (.sl 0), .v (.sl 1)], [qb0, qb1] => (asO 3 false qb0).bind fun a0 => (asO 3 false qb1).bind fun a1 => some ⟨Bool, slices_Equal_Flow.f k a0 a1, slices_Equal_Flow.g⟩
  | _, _ => none
def slices_Equal_Flow.C (k : Nat) : Nat → List AV → AP κ AV := contract slices_Equal_Flow.sig (slices_Equal_Flow.body k)
theorem slices_Equal_Flow.den (k : Nat) (a0 : List T_impl_Flow) (a1 : List T_impl_Flow) : Code.den ti (slices_Equal_Flow.Γ k) (slices_Equal_Flow.LH k) (bodyOf Tryz.f71) (finK ti Tryz.f71.results.toList [] (flags slices_Equal_Flow.sig).length (rwI (flags slices_Equal_Flow.sig) 0) slices_Equal_Flow.out) ⟨envOf (([.v (.sl 0), .v (.sl 1)]).zipIdx.map fun q => (q.2, q.1)), hpOf [.rows 3 false a0, .rows 3 false a1], (flags slices_Equal_Flow.sig).length⟩ = slices_Equal_Flow.f k a0 a1 := by kernel_rfl
theorem slices_Equal_Flow.ok (k : Nat) : CSound Tryz.prog 71 (slices_Equal_Flow.C k) :=
  csound κ_ok mixed tok (slices_Equal_Flow.hΓ k) (LH := slices_Equal_Flow.LH k) (fn := Tryz.f71) (c := bodyOf Tryz.f71) Tryz.func71 rfl Tryz.call71 slices_Equal_Flow.sig [] (slices_Equal_Flow.body k) (by kernel_rfl) (slices_Equal_Flow.lok k) (by decide) fun vs bs lf y hl hb hy => by
    unfold slices_Equal_Flow.body at hb
    split at hb
    · obtain ⟨_, rfl, hb_1⟩ := asO_bind hb
      obtain ⟨_, rfl, hb_2⟩ := asO_bind hb_1
      obtain rfl := Option.some.inj hb_2
      exact ⟨slices_Equal_Flow.out, slices_Equal_Flow.out_ok, (slices_Equal_Flow.den k _ _).trans hy⟩
    · cases hb
/-! ### slices_Equal_Rule -/
def slices_Equal_Rule.L4 {R : Type} (k : Nat) (x2 : Int) (xl0 : List T_impl_Rule) (xl1 : List T_impl_Rule) (X0 : Bool → Option R) (X1 : Unit → Option R) (rec : Int → Option R) (x3 : Int) : Option R :=
  (bif decide (x3 < x2) then (bif decide (0 ≤ x3) then (bif decide (x3 < (xl0.length : Int)) then (bif decide (0 ≤ x3) then (bif decide (x3 < (xl1.length : Int)) then (bif !((((rd_impl_Rule xl0 x3).f0) == ((rd_impl_Rule xl1 x3).f0)) && ((((rd_impl_Rule xl0 x3).f1) == ((rd_impl_Rule xl1 x3).f1)) && ((((rd_impl_Rule xl0 x3).f2.f0) == ((rd_impl_Rule xl1 x3).f2.f0)) && ((((rd_impl_Rule xl0 x3).f2.f1) == ((rd_impl_Rule xl1 x3).f2.f1)) && ((((rd_impl_Rule xl0 x3).f3) == ((rd_impl_Rule xl1 x3).f3)) && ((((rd_impl_Rule xl0 x3).f4) == ((rd_impl_Rule xl1 x3).f4)) && ((((rd_impl_Rule xl0 x3).f5.f0) == ((rd_impl_Rule xl1 x3).f5.f0)) && (((rd_impl_Rule xl0 x3).f5.f1) == ((rd_impl_Rule xl1 x3).f5.f1))))))))) then (X0 false) else (rec (w64 (x3 + (1 : Int))))) else none) else none) else none) else none) else (X1 ()))
def slices_Equal_Rule.l4 {R : Type} (k : Nat) (x2 : Int) (xl0 : List T_impl_Rule) (xl1 : List T_impl_Rule) (X0 : Bool → Option R) (X1 : Unit → Option R) : Nat → Int → Option R
  | 0 => fun _ => none
  | n + 1 => slices_Equal_Rule.L4 k x2 xl0 xl1 X0 X1 (slices_Equal_Rule.l4 k x2 xl0 xl1 X0 X1 n)
def slices_Equal_Rule.f (k : Nat) (a0 : List T_impl_Rule) (a1 : List T_impl_Rule) : Option Bool :=
  (bif ((a0.length : Int) != (a1.length : Int)) then some false else (slices_Equal_Rule.l4 k (a0.length : Int) a0 a1 (fun (y1 : Bool) => some y1) (fun (_ : Unit) => some true) k (0 : Int)))
def slices_Equal_Rule.h4 (k : Nat) {R : Type} (K : Ex → St κ → Option R) (vs : List AV) (bs : List (Blk κ)) : Option R :=
  match vs, bs with
  | [.v (.sl 0), .v (.sl 1), .v (.int .i64 x2), .v (.int .i64 x3)], [qb0, qb1] => (asO 4 false qb0).bind fun xl0 => (asO 4 false qb1).bind fun xl1 => slices_Equal_Rule.l4 k x2 xl0 xl1 (fun (z0 : Bool) => K .ret (stOf [(4, [])] [.v (.bool z0)] [.rows 4 false xl0, .rows 4 false xl1])) (fun (_ : Unit) => K (.exit 0) (stOf [(4, [])] [.v .any] [.rows 4 false xl0, .rows 4 false xl1])) k x3
  | _, _ => none
def slices_Equal_Rule.Γ (k : Nat) : Ct κ := assoc []
def slices_Equal_Rule.LH (k : Nat) : Nat → Option (LHi κ) := assoc [(4, ⟨2, [(0, [some 4]), (1, [some 4]), (12, []), (13, [])], [(4, [])], @slices_Equal_Rule.h4 k⟩)]
theorem slices_Equal_Rule.hΓ (k : Nat) : ∀ f g, slices_Equal_Rule.Γ k f = some g → CSound Tryz.prog f g := G_nil
theorem slices_Equal_Rule.e4 {R : Type} (K : Ex → St κ → Option R) (k : Nat) (x2 : Int) (xl0 : List T_impl_Rule) (xl1 : List T_impl_Rule) : ∀ (n : Nat) (x3 : Int), loopN 2 (Code.den ti (slices_Equal_Rule.Γ k) (slices_Equal_Rule.LH k) (loopAt Tryz.f72 0)) [(0, [some 4]), (1, [some 4]), (12, []), (13, [])] [(4, [])] K n [.v (.sl 0), .v (.sl 1), .v (.int .i64 x2), .v (.int .i64 x3)] [.rows 4 false xl0, .rows 4 false xl1] = slices_Equal_Rule.l4 k x2 xl0 xl1 (fun (z0 : Bool) => K .ret (stOf [(4, [])] [.v (.bool z0)] [.rows 4 false xl0, .rows 4 false xl1])) (fun (_ : Unit) => K (.exit 0) (stOf [(4, [])] [.v .any] [.rows 4 false xl0, .rows 4 false xl1])) n x3
  | 0, _ => rfl
  | n + 1, x3 => (show loopN 2 (Code.den ti (slices_Equal_Rule.Γ k) (slices_Equal_Rule.LH k) (loopAt Tryz.f72 0)) [(0, [some 4]), (1, [some 4]), (12, []), (13, [])] [(4, [])] K (n + 1) [.v (.sl 0), .v (.sl 1), .v (.int .i64 x2), .v (.int .i64 x3)] [.rows 4 false xl0, .rows 4 false xl1] = slices_Equal_Rule.L4 k x2 xl0 xl1 (fun (z0 : Bool) => K .ret (stOf [(4, [])] [.v (.bool z0)] [.rows 4 false xl0, .rows 4 false xl1])) (fun (_ : Unit) => K (.exit 0) (stOf [(4, [])] [.v .any] [.rows 4 false xl0, .rows 4 false xl1])) (fun (x3' : Int) => loopN 2 (Code.den ti (slices_Equal_Rule.Γ k) (slices_Equal_Rule.LH k) (loopAt Tryz.f72 0)) [(0, [some 4]), (1, [some 4]), (12, []), (13, [])] [(4, [])] K n [.v (.sl 0), .v (.sl 1), .v (.int .i64 x2), .v (.int .i64 x3')] [.rows 4 false xl0, .rows 4 false xl1]) x3 by kernel_rfl).trans (congrArg (fun rec => slices_Equal_Rule.L4 k x2 xl0 xl1 (fun (z0 : Bool) => K .ret (stOf [(4, [])] [.v (.bool z0)] [.rows 4 false xl0, .rows 4 false xl1])) (fun (_ : Unit) => K (.exit 0) (stOf [(4, [])] [.v .any] [.rows 4 false xl0, .rows 4 false xl1])) rec x3) (funext fun x3' => slices_Equal_Rule.e4 K k x2 xl0 xl1 n x3'))
theorem slices_Equal_Rule.q4 (k : Nat) {R : Type} (K : Ex → St κ → Option R) (vs : List AV) (bs : List (Blk κ)) (r : R) (h : slices_Equal_Rule.h4 k K vs bs = some r) : ∃ n, loopN 2 (Code.den ti (slices_Equal_Rule.Γ k) (slices_Equal_Rule.LH k) (loopAt Tryz.f72 0)) [(0, [some 4]), (1, [some 4]), (12, []), (13, [])] [(4, [])] K n vs bs = some r := by
  unfold slices_Equal_Rule.h4 at h
  split at h
  · obtain ⟨_, rfl, h_1⟩ := asO_bind h
    obtain ⟨_, rfl, h_2⟩ := asO_bind h_1
    exact ⟨k, (slices_Equal_Rule.e4 K k _ _ _ k _).trans h_2⟩
  · cases h
theorem slices_Equal_Rule.lok (k : Nat) : LOK ti (slices_Equal_Rule.Γ k) (slices_Equal_Rule.LH k) 2 (loopsOf (bodyOf Tryz.f72)) :=
  (show loopsOf (bodyOf Tryz.f72) = [loopAt Tryz.f72 0] by kernel_rfl) ▸ (LOK_cons (g := ⟨2, [(0, [some 4]), (1, [some 4]), (12, []), (13, [])], [(4, [])], @slices_Equal_Rule.h4 k⟩) (by kernel_rfl) rfl (fun K vs xs r h => slices_Equal_Rule.q4 k K vs xs r h) (LOK_nil))
def slices_Equal_Rule.sig : List PSh := [.one (.ro 4), .one (.ro 4)]
def slices_Equal_Rule.g (y : Bool) : Ret κ := ⟨.v (.bool y), [], []⟩
def slices_Equal_Rule.out (r : Ret κ) : Option Bool :=
  match r with
  | ⟨.v (.bool z0), [], []⟩ => some (z0)
  | _ => none
theorem slices_Equal_Rule.out_ok (r : Ret κ) (y : Bool) (h : slices_Equal_Rule.out r = some y) : r = slices_Equal_Rule.g y := by
  unfold slices_Equal_Rule.out at h
  split at h
  · obtain rfl := Option.some.inj h
    rfl
  · cases h
def slices_Equal_Rule.body (k : Nat) (vs : List AV) (bs : List (Blk κ)) : Option (Lf κ) :=
  match vs, bs with
  | [.v (.sl 0), .v (.sl 1)], [qb0, qb1] => (asO 4 false qb0).bind fun a0 => (asO 4 false qb1).bind fun a1 => some ⟨Bool, slices_Equal_Rule.f k a0 a1, slices_Equal_Rule.g⟩
  | _, _ => none
def slices_Equal_Rule.C (k : Nat) : Nat → List AV → AP κ AV := contract slices_Equal_Rule.sig (slices_Equal_Rule.body k)
theorem slices_Equal_Rule.den (k : Nat) (a0 : List T_impl_Rule) (a1 : List T_impl_Rule) : Code.den ti (slices_Equal_Rule.Γ k) (slices_Equal_Rule.LH k) (bodyOf Tryz.f72) (finK ti Tryz.f72.results.toList [] (flags slices_Equal_Rule.sig).length (rwI (flags slices_Equal_Rule.sig) 0) slices_Equal_Rule.out) ⟨envOf (([.v (.sl 0), .v (.sl 1)]).zipIdx.map fun q => (q.2, q.1)), hpOf [.rows 4 false a0, .rows 4 false a1], (flags slices_Equal_Rule.sig).length⟩ = slices_Equal_Rule.f k a0 a1 := by kernel_rfl
theorem slices_Equal_Rule.ok (k : Nat) : CSound Tryz.prog 72 (slices_Equal_Rule.C k) :=
  csound κ_ok mixed tok (slices_Equal_Rule.hΓ k) (LH := slices_Equal_Rule.LH k) (fn := Tryz.f72) (c := bodyOf Tryz.f72) Tryz.func72 rfl Tryz.call72 slices_Equal_Rule.sig [] (slices_Equal_Rule.body k) (by kernel_rfl) (slices_Equal_Rule.lok k) (by decide) fun vs bs lf y hl hb hy => by
    unfold slices_Equal_Rule.body at hb
    split at hb
    · obtain ⟨_, rfl, hb_1⟩ := asO_bind hb
      obtain ⟨_, rfl, hb_2⟩ := asO_bind hb_1
      obtain rfl := Option.some.inj hb_2
      exact ⟨slices_Equal_Rule.out, slices_Equal_Rule.out_ok, (slices_Equal_Rule.den k _ _).trans hy⟩
    · cases hb
/-! ### slices_Equal_Op -/
def slices_Equal_Op.L4 {R : Type} (k : Nat) (x2 : Int) (xl0 : List T_impl_Op) (xl1 : List T_impl_Op) (X0 : Bool → Option R) (X1 : Unit → Option R) (rec : Int → Option R) (x3 : Int) : Option R :=
  (bif decide (x3 < x2) then (bif decide (0 ≤ x3) then (bif decide (x3 < (xl0.length : Int)) then (bif decide (0 ≤ x3) then (bif decide (x3 < (xl1.length : Int)) then (bif !((((rd_impl_Op xl0 x3).f0) == ((rd_impl_Op xl1 x3).f0)) && ((((rd_impl_Op xl0 x3).f1) == ((rd_impl_Op xl1 x3).f1)) && ((((rd_impl_Op xl0 x3).f2) == ((rd_impl_Op xl1 x3).f2)) && (((rd_impl_Op xl0 x3).f3) == ((rd_impl_Op xl1 x3).f3))))) then (X0 false) else (rec (w64 (x3 + (1 : Int))))) else none) else none) else none) else none) else (X1 ()))
def slices_Equal_Op.l4 {R : Type} (k : Nat) (x2 : Int) (xl0 : List T_impl_Op) (xl1 : List T_impl_Op) (X0 : Bool → Option R) (X1 : Unit → Option R) : Nat → Int → Option R
  | 0 => fun _ => none
  | n + 1 => slices_Equal_Op.L4 k x2 xl0 xl1 X0 X1 (slices_Equal_Op.l4 k x2 xl0 xl1 X0 X1 n)
def slices_Equal_Op.f (k : Nat) (a0 : List T_impl_Op) (a1 : List T_impl_Op) : Option Bool :=
  (bif ((a0.length : Int) != (a1.length : Int)) then some false else (slices_Equal_Op.l4 k (a0.length : Int) a0 a1 (fun (y1 : Bool) => some y1) (fun (_ : Unit) => some true) k (0 : Int)))
def slices_Equal_Op.h4 (k : Nat) {R : Type} (K : Ex → St κ → Option R) (vs : List AV) (bs : List (Blk κ)) : Option R :=
  match vs, bs with
  | [.v (.sl 0), .v (.sl 1), .v (.int .i64 x2), .v (.int .i64 x3)], [qb0, qb1] => (asO 1 false qb0).bind fun xl0 => (asO 1 false qb1).bind fun xl1 => slices_Equal_Op.l4 k x2 xl0 xl1 (fun (z0 : Bool) => K .ret (stOf [(4, [])] [.v (.bool z0)] [.rows 1 false xl0, .rows 1 false xl1])) (fun (_ : Unit) => K (.exit 0) (stOf [(4, [])] [.v .any] [.rows 1 false xl0, .rows 1 false xl1])) k x3
  | _, _ => none
def slices_Equal_Op.Γ (k : Nat) : Ct κ := assoc []
def slices_Equal_Op.LH (k : Nat) : Nat → Option (LHi κ) := assoc [(4, ⟨2, [(0, [some 1]), (1, [some 1]), (12, []), (13, [])], [(4, [])], @slices_Equal_Op.h4 k⟩)]
theorem slices_Equal_Op.hΓ (k : Nat) : ∀ f g, slices_Equal_Op.Γ k f = some g → CSound Tryz.prog f g := G_nil
theorem slices_Equal_Op.e4 {R : Type} (K : Ex → St κ → Option R) (k : Nat) (x2 : Int) (xl0 : List T_impl_Op) (xl1 : List T_impl_Op) : ∀ (n : Nat) (x3 : Int), loopN 2 (Code.den ti (slices_Equal_Op.Γ k) (slices_Equal_Op.LH k) (loopAt Tryz.f73 0)) [(0, [some 1]), (1, [some 1]), (12, []), (13, [])] [(4, [])] K n [.v (.sl 0), .v (.sl 1), .v (.int .i64 x2), .v (.int .i64 x3)] [.rows 1 false xl0, .rows 1 false xl1] = slices_Equal_Op.l4 k x2 xl0 xl1 (fun (z0 : Bool) => K .ret (stOf [(4, [])] [.v (.bool z0)] [.rows 1 false xl0, .rows 1 false xl1])) (fun (_ : Unit) => K (.exit 0) (stOf [(4, [])] [.v .any] [.rows 1 false xl0, .rows 1 false xl1])) n x3
  | 0, _ => rfl
  | n + 1, x3 => (show loopN 2 (Code.den ti (slices_Equal_Op.Γ k) (slices_Equal_Op.LH k) (loopAt Tryz.f73 0)) [(0, [some 1]), (1, [some 1]), (12, []), (13, [])] [(4, [])] K (n + 1) [.v (.sl 0), .v (.sl 1), .v (.int .i64 x2), .v (.int .i64 x3)] [.rows 1 false xl0, .rows 1 false xl1] = slices_Equal_Op.L4 k x2 xl0 xl1 (fun (z0 : Bool) => K .ret (stOf [(4, [])] [.v (.bool z0)] [.rows 1 false xl0, .rows 1 false xl1])) (fun (_ : Unit) => K (.exit 0) (stOf [(4, [])] [.v .any] [.rows 1 false xl0, .rows 1 false xl1])) (fun (x3' : Int) => loopN 2 (Code.den ti (slices_Equal_Op.Γ k) (slices_Equal_Op.LH k) (loopAt Tryz.f73 0)) [(0, [some 1]), (1, [some 1]), (12, []), (13, [])] [(4, [])] K n [.v (.sl 0), .v (.sl 1), .v (.int .i64 x2), .v (.int .i64 x3')] [.rows 1 false xl0, .rows 1 false xl1]) x3 by kernel_rfl).trans (congrArg (fun rec => slices_Equal_Op.L4 k x2 xl0 xl1 (fun (z0 : Bool) => K .ret (stOf [(4, [])] [.v (.bool z0)] [.rows 1 false xl0, .rows 1 false xl1])) (fun (_ : Unit) => K (.exit 0) (stOf [(4, [])] [.v .any] [.rows 1 false xl0, .rows 1 false xl1])) rec x3) (funext fun x3' => slices_Equal_Op.e4 K k x2 xl0 xl1 n x3'))
theorem slices_Equal_Op.q4 (k : Nat) {R : Type} (K : Ex → St κ → Option R) (vs : List AV) (bs : List (Blk κ)) (r : R) (h : slices_Equal_Op.h4 k K vs bs = some r) : ∃ n, loopN 2 (Code.den ti (slices_Equal_Op.Γ k) (slices_Equal_Op.LH k) (loopAt Tryz.f73 0)) [(0, [some 1]), (1, [some 1]), (12, []), (13, [])] [(4, [])] K n vs bs = some r := by
  unfold slices_Equal_Op.h4 at h
  split at h
  · obtain ⟨_, rfl, h_1⟩ := asO_bind h
    obtain ⟨_, rfl, h_2⟩ := asO_bind h_1
    exact ⟨k, (slices_Equal_Op.e4 K k _ _ _ k _).trans h_2⟩
  · cases h
theorem slices_Equal_Op.lok (k : Nat) : LOK ti (slices_Equal_Op.Γ k) (slices_Equal_Op.LH k) 2 (loopsOf (bodyOf Tryz.f73)) :=
  (show loopsOf (bodyOf Tryz.f73) = [loopAt Tryz.f73 0] by kernel_rfl) ▸ (LOK_cons (g := ⟨2, [(0, [some 1]), (1, [some 1]), (12, []), (13, [])], [(4, [])], @slices_Equal_Op.h4 k⟩) (by kernel_rfl) rfl (fun K vs xs r h => slices_Equal_Op.q4 k K vs xs r h) (LOK_nil))
def slices_Equal_Op.sig : List PSh := [.one (.ro 1), .one (.ro 1)]
def slices_Equal_Op.g (y : Bool) : Ret κ := ⟨.v (.bool y), [], []⟩
def slices_Equal_Op.out (r : Ret κ) : Option Bool :=
  match r with
  | ⟨.v (.bool z0), [], []⟩ => some (z0)
  | _ => none
theorem slices_Equal_Op.out_ok (r : Ret κ) (y : Bool) (h : slices_Equal_Op.out r = some y) : r = slices_Equal_Op.g y := by
  unfold slices_Equal_Op.out at h
  split at h
  · obtain rfl := Option.some.inj h
    rfl
  · cases h
def slices_Equal_Op.body (k : Nat) (vs : List AV) (bs : List (Blk κ)) : Option (Lf κ) :=
  match vs, bs with
  | [.v (.sl 0), .v (.sl 1)], [qb0, qb1] => (asO 1 false qb0).bind fun a0 => (asO 1 false qb1).bind fun a1 => some ⟨Bool, slices_Equal_Op.f k a0 a1, slices_Equal_Op.g⟩
  | _, _ => none
def slices_Equal_Op.C (k : Nat) : Nat → List AV → AP κ AV := contract slices_Equal_Op.sig (slices_Equal_Op.body k)
theorem slices_Equal_Op.den (k : Nat) (a0 : List T_impl_Op) (a1 : List T_impl_Op) : Code.den ti (slices_Equal_Op.Γ k) (slices_Equal_Op.LH k) (bodyOf Tryz.f73) (finK ti Tryz.f73.results.toList [] (flags slices_Equal_Op.sig).length (rwI (flags slices_Equal_Op.sig) 0) slices_Equal_Op.out) ⟨envOf (([.v (.sl 0), .v (.sl 1)]).zipIdx.map fun q => (q.2, q.1)), hpOf [.rows 1 false a0, .rows 1 false a1], (flags slices_Equal_Op.sig).length⟩ = slices_Equal_Op.f k a0 a1 := by kernel_rfl
theorem slices_Equal_Op.ok (k : Nat) : CSound Tryz.prog 73 (slices_Equal_Op.C k) :=
  csound κ_ok mixed tok (slices_Equal_Op.hΓ k) (LH := slices_Equal_Op.LH k) (fn := Tryz.f73) (c := bodyOf Tryz.f73) Tryz.func73 rfl Tryz.call73 slices_Equal_Op.sig [] (slices_Equal_Op.body k) (by kernel_rfl) (slices_Equal_Op.lok k) (by decide) fun vs bs lf y hl hb hy => by
    unfold slices_Equal_Op.body at hb
    split at hb
    · obtain ⟨_, rfl, hb_1⟩ := asO_bind hb
      obtain ⟨_, rfl, hb_2⟩ := asO_bind hb_1
      obtain rfl := Option.some.inj hb_2
      exact ⟨slices_Equal_Op.out, slices_Equal_Op.out_ok, (slices_Equal_Op.den k _ _).trans hy⟩
    · cases hb
/-! ### impl_EqualPackages -/
def impl_EqualPackages.f (k : Nat) (a0_0 : Int) (a0_1 : Int) (a0_2 : Int) (a0_3 : List T_impl_Grant) (a0_4 : List T_impl_Flow) (a0_5 : List T_impl_Rule) (a0_6 : List T_impl_Op) (a0_7 : Int) (a1_0 : Int) (a1_1 : Int) (a1_2 : Int) (a1_3 : List T_impl_Grant) (a1_4 : List T_impl_Flow) (a1_5 : List T_impl_Rule) (a1_6 : List T_impl_Op) (a1_7 : Int) : Option Bool :=
  (bif (a0_0 == a1_0) then (bif (a0_1 == a1_1) then (bif (a0_2 == a1_2) then (bif (a0_7 == a1_7) then (slices_Equal_Grant.f k a0_3 a1_3).bind fun t1 => (bif t1 then (slices_Equal_Flow.f k a0_4 a1_4).bind fun t2 => (bif t2 then (slices_Equal_Rule.f k a0_5 a1_5).bind fun t3 => (bif t3 then (slices_Equal_Op.f k a0_6 a1_6).bind fun t4 => some t4 else some false) else some false) else some false) else some false) else some false) else some false) else some false)
def impl_EqualPackages.Γ (k : Nat) : Ct κ := assoc [(70, slices_Equal_Grant.C k), (71, slices_Equal_Flow.C k), (72, slices_Equal_Rule.C k), (73, slices_Equal_Op.C k)]
def impl_EqualPackages.LH (k : Nat) : Nat → Option (LHi κ) := assoc []
theorem impl_EqualPackages.hΓ (k : Nat) : ∀ f g, impl_EqualPackages.Γ k f = some g → CSound Tryz.prog f g := G_cons (slices_Equal_Grant.ok k) (G_cons (slices_Equal_Flow.ok k) (G_cons (slices_Equal_Rule.ok k) (G_cons (slices_Equal_Op.ok k) G_nil)))
theorem impl_EqualPackages.lok (k : Nat) : LOK ti (impl_EqualPackages.Γ k) (impl_EqualPackages.LH k) 8 (loopsOf (bodyOf Tryz.f25)) :=
  (show loopsOf (bodyOf Tryz.f25) = [] by kernel_rfl) ▸ LOK_nil
def impl_EqualPackages.sig : List PSh := [.agg [.sc, .sc, .sc, .ro 2, .ro 3, .ro 4, .ro 1, .sc], .agg [.sc, .sc, .sc, .ro 2, .ro 3, .ro 4, .ro 1, .sc]]
def impl_EqualPackages.g (y : Bool) : Ret κ := ⟨.v (.bool y), [], []⟩
def impl_EqualPackages.out (r : Ret κ) : Option Bool :=
  match r with
  | ⟨.v (.bool z0), [], []⟩ => some (z0)
  | _ => none
theorem impl_EqualPackages.out_ok (r : Ret κ) (y : Bool) (h : impl_EqualPackages.out r = some y) : r = impl_EqualPackages.g y := by
  unfold impl_EqualPackages.out at h
  split at h
  · obtain rfl := Option.some.inj h
    rfl
  · cases h
def impl_EqualPackages.body (k : Nat) (vs : List AV) (bs : List (Blk κ)) : Option (Lf κ) :=
  match vs, bs with
  | [.agg [.int .i64 a0_0, .int .i64 a0_1, .int .i64 a0_2, .sl 0, .sl 1, .sl 2, .sl 3, .int .i64 a0_7], .agg [.int .i64 a1_0, .int .i64 a1_1, .int .i64 a1_2, .sl 4, .sl 5, .sl 6, .sl 7, .int .i64 a1_7]], [qb0, qb1, qb2, qb3, qb4, qb5, qb6, qb7] => (asO 2 false qb0).bind fun a0_3 => (asO 3 false qb1).bind fun a0_4 => (asO 4 false qb2).bind fun a0_5 => (asO 1 false qb3).bind fun a0_6 => (asO 2 false qb4).bind fun a1_3 => (asO 3 false qb5).bind fun a1_4 => (asO 4 false qb6).bind fun a1_5 => (asO 1 false qb7).bind fun a1_6 => some ⟨Bool, impl_EqualPackages.f k a0_0 a0_1 a0_2 a0_3 a0_4 a0_5 a0_6 a0_7 a1_0 a1_1 a1_2 a1_3 a1_4 a1_5 a1_6 a1_7, impl_EqualPackages.g⟩
  | _, _ => none
def impl_EqualPackages.C (k : Nat) : Nat → List AV → AP κ AV := contract impl_EqualPackages.sig (impl_EqualPackages.body k)
theorem impl_EqualPackages.den (k : Nat) (a0_0 : Int) (a0_1 : Int) (a0_2 : Int) (a0_3 : List T_impl_Grant) (a0_4 : List T_impl_Flow) (a0_5 : List T_impl_Rule) (a0_6 : List T_impl_Op) (a0_7 : Int) (a1_0 : Int) (a1_1 : Int) (a1_2 : Int) (a1_3 : List T_impl_Grant) (a1_4 : List T_impl_Flow) (a1_5 : List T_impl_Rule) (a1_6 : List T_impl_Op) (a1_7 : Int) : Code.den ti (impl_EqualPackages.Γ k) (impl_EqualPackages.LH k) (bodyOf Tryz.f25) (finK ti Tryz.f25.results.toList [] (flags impl_EqualPackages.sig).length (rwI (flags impl_EqualPackages.sig) 0) impl_EqualPackages.out) ⟨envOf (([.agg [.int .i64 a0_0, .int .i64 a0_1, .int .i64 a0_2, .sl 0, .sl 1, .sl 2, .sl 3, .int .i64 a0_7], .agg [.int .i64 a1_0, .int .i64 a1_1, .int .i64 a1_2, .sl 4, .sl 5, .sl 6, .sl 7, .int .i64 a1_7]]).zipIdx.map fun q => (q.2, q.1)), hpOf [.rows 2 false a0_3, .rows 3 false a0_4, .rows 4 false a0_5, .rows 1 false a0_6, .rows 2 false a1_3, .rows 3 false a1_4, .rows 4 false a1_5, .rows 1 false a1_6], (flags impl_EqualPackages.sig).length⟩ = impl_EqualPackages.f k a0_0 a0_1 a0_2 a0_3 a0_4 a0_5 a0_6 a0_7 a1_0 a1_1 a1_2 a1_3 a1_4 a1_5 a1_6 a1_7 := by kernel_rfl
theorem impl_EqualPackages.ok (k : Nat) : CSound Tryz.prog 25 (impl_EqualPackages.C k) :=
  csound κ_ok mixed tok (impl_EqualPackages.hΓ k) (LH := impl_EqualPackages.LH k) (fn := Tryz.f25) (c := bodyOf Tryz.f25) Tryz.func25 rfl Tryz.call25 impl_EqualPackages.sig [] (impl_EqualPackages.body k) (by kernel_rfl) (impl_EqualPackages.lok k) (by decide) fun vs bs lf y hl hb hy => by
    unfold impl_EqualPackages.body at hb
    split at hb
    · obtain ⟨_, rfl, hb_1⟩ := asO_bind hb
      obtain ⟨_, rfl, hb_2⟩ := asO_bind hb_1
      obtain ⟨_, rfl, hb_3⟩ := asO_bind hb_2
      obtain ⟨_, rfl, hb_4⟩ := asO_bind hb_3
      obtain ⟨_, rfl, hb_5⟩ := asO_bind hb_4
      obtain ⟨_, rfl, hb_6⟩ := asO_bind hb_5
      obtain ⟨_, rfl, hb_7⟩ := asO_bind hb_6
      obtain ⟨_, rfl, hb_8⟩ := asO_bind hb_7
      obtain rfl := Option.some.inj hb_8
      exact ⟨impl_EqualPackages.out, impl_EqualPackages.out_ok, (impl_EqualPackages.den k _ _ _ _ _ _ _ _ _ _ _ _ _ _ _ _).trans hy⟩
    · cases hb
/-! ### spec_DrawIsWider -/
def spec_DrawIsWider.f (k : Nat) (a0 : List Int) : Option (Int × Int × Int × Int × Int × Int × Int × Int × List T_impl_Grant × List T_impl_Flow × List T_impl_Rule × List T_impl_Op × List T_impl_Grant × List T_impl_Flow × List T_impl_Rule × List T_impl_Op) :=
  (spec_l1New.f k a0).bind fun t1 => (spec_l28Pair.f k a0 t1.1 t1.2).bind fun t2 => some (t2.1, t2.2.1, t2.2.2.1, t2.2.2.2.1, t2.2.2.2.2.1, t2.2.2.2.2.2.1, t2.2.2.2.2.2.2.1, t2.2.2.2.2.2.2.2.1, t2.2.2.2.2.2.2.2.2.2.2.1, t2.2.2.2.2.2.2.2.2.2.2.2.1, t2.2.2.2.2.2.2.2.2.2.2.2.2.1, t2.2.2.2.2.2.2.2.2.2.2.2.2.2.1, t2.2.2.2.2.2.2.2.2.2.2.2.2.2.2.1, t2.2.2.2.2.2.2.2.2.2.2.2.2.2.2.2.1, t2.2.2.2.2.2.2.2.2.2.2.2.2.2.2.2.2.1, t2.2.2.2.2.2.2.2.2.2.2.2.2.2.2.2.2.2)
def spec_DrawIsWider.Γ (k : Nat) : Ct κ := assoc [(80, spec_l1New.C k), (81, spec_l28Pair.C k)]
def spec_DrawIsWider.LH (k : Nat) : Nat → Option (LHi κ) := assoc []
theorem spec_DrawIsWider.hΓ (k : Nat) : ∀ f g, spec_DrawIsWider.Γ k f = some g → CSound Tryz.prog f g := G_cons (spec_l1New.ok k) (G_cons (spec_l28Pair.ok k) G_nil)
theorem spec_DrawIsWider.lok (k : Nat) : LOK ti (spec_DrawIsWider.Γ k) (spec_DrawIsWider.LH k) 1 (loopsOf (bodyOf Tryz.f29)) :=
  (show loopsOf (bodyOf Tryz.f29) = [] by kernel_rfl) ▸ LOK_nil
def spec_DrawIsWider.sig : List PSh := [.one (.ro 0)]
def spec_DrawIsWider.g (y : Int × Int × Int × Int × Int × Int × Int × Int × List T_impl_Grant × List T_impl_Flow × List T_impl_Rule × List T_impl_Op × List T_impl_Grant × List T_impl_Flow × List T_impl_Rule × List T_impl_Op) : Ret κ := ⟨.tup [(true, [.int .i64 y.1, .int .i64 y.2.1, .int .i64 y.2.2.1, .sl 1, .sl 2, .sl 3, .sl 4, .int .i64 y.2.2.2.1]), (true, [.int .i64 y.2.2.2.2.1, .int .i64 y.2.2.2.2.2.1, .int .i64 y.2.2.2.2.2.2.1, .sl 5, .sl 6, .sl 7, .sl 8, .int .i64 y.2.2.2.2.2.2.2.1])], [], [.rows 2 true y.2.2.2.2.2.2.2.2.1, .rows 3 true y.2.2.2.2.2.2.2.2.2.1, .rows 4 true y.2.2.2.2.2.2.2.2.2.2.1, .rows 1 true y.2.2.2.2.2.2.2.2.2.2.2.1, .rows 2 true y.2.2.2.2.2.2.2.2.2.2.2.2.1, .rows 3 true y.2.2.2.2.2.2.2.2.2.2.2.2.2.1, .rows 4 true y.2.2.2.2.2.2.2.2.2.2.2.2.2.2.1, .rows 1 true y.2.2.2.2.2.2.2.2.2.2.2.2.2.2.2]⟩
def spec_DrawIsWider.out (r : Ret κ) : Option (Int × Int × Int × Int × Int × Int × Int × Int × List T_impl_Grant × List T_impl_Flow × List T_impl_Rule × List T_impl_Op × List T_impl_Grant × List T_impl_Flow × List T_impl_Rule × List T_impl_Op) :=
  match r with
  | ⟨.tup [(true, [.int .i64 z0, .int .i64 z1, .int .i64 z2, .sl 1, .sl 2, .sl 3, .sl 4, .int .i64 z3]), (true, [.int .i64 z4, .int .i64 z5, .int .i64 z6, .sl 5, .sl 6, .sl 7, .sl 8, .int .i64 z7])], [], [q8, q9, q10, q11, q12, q13, q14, q15]⟩ => (asO 2 true q8).bind fun z8 => (asO 3 true q9).bind fun z9 => (asO 4 true q10).bind fun z10 => (asO 1 true q11).bind fun z11 => (asO 2 true q12).bind fun z12 => (asO 3 true q13).bind fun z13 => (asO 4 true q14).bind fun z14 => (asO 1 true q15).bind fun z15 => some (z0, z1, z2, z3, z4, z5, z6, z7, z8, z9, z10, z11, z12, z13, z14, z15)
  | _ => none
theorem spec_DrawIsWider.out_ok (r : Ret κ) (y : Int × Int × Int × Int × Int × Int × Int × Int × List T_impl_Grant × List T_impl_Flow × List T_impl_Rule × List T_impl_Op × List T_impl_Grant × List T_impl_Flow × List T_impl_Rule × List T_impl_Op) (h : spec_DrawIsWider.out r = some y) : r = spec_DrawIsWider.g y := by
  unfold spec_DrawIsWider.out at h
  split at h
  · obtain ⟨_, rfl, h_1⟩ := asO_bind h
    obtain ⟨_, rfl, h_2⟩ := asO_bind h_1
    obtain ⟨_, rfl, h_3⟩ := asO_bind h_2
    obtain ⟨_, rfl, h_4⟩ := asO_bind h_3
    obtain ⟨_, rfl, h_5⟩ := asO_bind h_4
    obtain ⟨_, rfl, h_6⟩ := asO_bind h_5
    obtain ⟨_, rfl, h_7⟩ := asO_bind h_6
    obtain ⟨_, rfl, h_8⟩ := asO_bind h_7
    obtain rfl := Option.some.inj h_8
    rfl
  · cases h
def spec_DrawIsWider.body (k : Nat) (vs : List AV) (bs : List (Blk κ)) : Option (Lf κ) :=
  match vs, bs with
  | [.v (.sl 0)], [qb0] => (asO 0 false qb0).bind fun a0 => some ⟨Int × Int × Int × Int × Int × Int × Int × Int × List T_impl_Grant × List T_impl_Flow × List T_impl_Rule × List T_impl_Op × List T_impl_Grant × List T_impl_Flow × List T_impl_Rule × List T_impl_Op, spec_DrawIsWider.f k a0, spec_DrawIsWider.g⟩
  | _, _ => none
def spec_DrawIsWider.C (k : Nat) : Nat → List AV → AP κ AV := contract spec_DrawIsWider.sig (spec_DrawIsWider.body k)
theorem spec_DrawIsWider.den (k : Nat) (a0 : List Int) : Code.den ti (spec_DrawIsWider.Γ k) (spec_DrawIsWider.LH k) (bodyOf Tryz.f29) (finK ti Tryz.f29.results.toList [(2, [none, none, none, some 2, some 3, some 4, some 1, none]), (3, [none, none, none, some 2, some 3, some 4, some 1, none])] (flags spec_DrawIsWider.sig).length (rwI (flags spec_DrawIsWider.sig) 0) spec_DrawIsWider.out) ⟨envOf (([.v (.sl 0)]).zipIdx.map fun q => (q.2, q.1)), hpOf [.rows 0 false a0], (flags spec_DrawIsWider.sig).length⟩ = spec_DrawIsWider.f k a0 := by kernel_rfl
theorem spec_DrawIsWider.ok (k : Nat) : CSound Tryz.prog 29 (spec_DrawIsWider.C k) :=
  csound κ_ok mixed tok (spec_DrawIsWider.hΓ k) (LH := spec_DrawIsWider.LH k) (fn := Tryz.f29) (c := bodyOf Tryz.f29) Tryz.func29 rfl Tryz.call29 spec_DrawIsWider.sig [(2, [none, none, none, some 2, some 3, some 4, some 1, none]), (3, [none, none, none, some 2, some 3, some 4, some 1, none])] (spec_DrawIsWider.body k) (by kernel_rfl) (spec_DrawIsWider.lok k) (by decide) fun vs bs lf y hl hb hy => by
    unfold spec_DrawIsWider.body at hb
    split at hb
    · obtain ⟨_, rfl, hb_1⟩ := asO_bind hb
      obtain rfl := Option.some.inj hb_1
      exact ⟨spec_DrawIsWider.out, spec_DrawIsWider.out_ok, (spec_DrawIsWider.den k _).trans hy⟩
    · cases hb
/-! ### impl_WidenedGrants -/
def impl_WidenedGrants.L3 {R : Type} (k : Nat) (x3 : Int) (xl0 : List T_impl_Grant) (xl1 : List T_impl_Flow) (xl2 : List T_impl_Rule) (xl3 : List T_impl_Op) (xl4 : List T_impl_Grant) (xl5 : List T_impl_Flow) (xl6 : List T_impl_Rule) (xl7 : List T_impl_Op) (xc8_0 : Int) (xc8_1 : Int) (xc8_2 : Int) (xc8_7 : Int) (X0 : List T_impl_Grant → Option R) (rec : Int → List T_impl_Grant → Option R) (x4 : Int) (xl9 : List T_impl_Grant) : Option R :=
  (bif decide (x4 < x3) then (bif decide (0 ≤ x4) then (bif decide (x4 < (xl4.length : Int)) then (impl_IsWithinGrants.f k ([(⟨(rd_impl_Grant xl4 x4).f0, (⟨(rd_impl_Grant xl4 x4).f1.f0, (rd_impl_Grant xl4 x4).f1.f1⟩ : T_impl_Pattern), (rd_impl_Grant xl4 x4).f2, (rd_impl_Grant xl4 x4).f3, (rd_impl_Grant xl4 x4).f4, (rd_impl_Grant xl4 x4).f5⟩ : T_impl_Grant)] : List T_impl_Grant) xl0).bind fun t1 => (bif !t1 then (bif decide ((xl9.length + ([(⟨(rd_impl_Grant xl4 x4).f0, (⟨(rd_impl_Grant xl4 x4).f1.f0, (rd_impl_Grant xl4 x4).f1.f1⟩ : T_impl_Pattern), (rd_impl_Grant xl4 x4).f2, (rd_impl_Grant xl4 x4).f3, (rd_impl_Grant xl4 x4).f4, (rd_impl_Grant xl4 x4).f5⟩ : T_impl_Grant)] : List T_impl_Grant).length) * 56 ≤ cap48) then (let l2 : List T_impl_Grant := (xl9 ++ ([(⟨(rd_impl_Grant xl4 x4).f0, (⟨(rd_impl_Grant xl4 x4).f1.f0, (rd_impl_Grant xl4 x4).f1.f1⟩ : T_impl_Pattern), (rd_impl_Grant xl4 x4).f2, (rd_impl_Grant xl4 x4).f3, (rd_impl_Grant xl4 x4).f4, (rd_impl_Grant xl4 x4).f5⟩ : T_impl_Grant)] : List T_impl_Grant)); (rec (w64 (x4 + (1 : Int))) l2)) else none) else (rec (w64 (x4 + (1 : Int))) xl9)) else none) else none) else (X0 xl9))
def impl_WidenedGrants.l3 {R : Type} (k : Nat) (x3 : Int) (xl0 : List T_impl_Grant) (xl1 : List T_impl_Flow) (xl2 : List T_impl_Rule) (xl3 : List T_impl_Op) (xl4 : List T_impl_Grant) (xl5 : List T_impl_Flow) (xl6 : List T_impl_Rule) (xl7 : List T_impl_Op) (xc8_0 : Int) (xc8_1 : Int) (xc8_2 : Int) (xc8_7 : Int) (X0 : List T_impl_Grant → Option R) : Nat → Int → List T_impl_Grant → Option R
  | 0 => fun _ _ => none
  | n + 1 => impl_WidenedGrants.L3 k x3 xl0 xl1 xl2 xl3 xl4 xl5 xl6 xl7 xc8_0 xc8_1 xc8_2 xc8_7 X0 (impl_WidenedGrants.l3 k x3 xl0 xl1 xl2 xl3 xl4 xl5 xl6 xl7 xc8_0 xc8_1 xc8_2 xc8_7 X0 n)
def impl_WidenedGrants.f (k : Nat) (a0_0 : Int) (a0_1 : Int) (a0_2 : Int) (a0_3 : List T_impl_Grant) (a0_4 : List T_impl_Flow) (a0_5 : List T_impl_Rule) (a0_6 : List T_impl_Op) (a0_7 : Int) (a1_0 : Int) (a1_1 : Int) (a1_2 : Int) (a1_3 : List T_impl_Grant) (a1_4 : List T_impl_Flow) (a1_5 : List T_impl_Rule) (a1_6 : List T_impl_Op) (a1_7 : Int) : Option (List T_impl_Grant) :=
  (impl_WidenedGrants.l3 k (a1_3.length : Int) a0_3 a0_4 a0_5 a0_6 a1_3 a1_4 a1_5 a1_6 a0_0 a0_1 a0_2 a0_7 (fun (y3 : List T_impl_Grant) => some y3) k (0 : Int) ([] : List T_impl_Grant))
def impl_WidenedGrants.h3 (k : Nat) {R : Type} (K : Ex → St κ → Option R) (vs : List AV) (bs : List (Blk κ)) : Option R :=
  match vs, bs with
  | [.v (.ptr 8 0 0), .v (.sl 9), .v (.sl 4), .v (.int .i64 x3), .v (.int .i64 x4)], [qb0, qb1, qb2, qb3, qb4, qb5, qb6, qb7, .cells 39 [.int .i64 xc8_0, .int .i64 xc8_1, .int .i64 xc8_2, .sl 0, .sl 1, .sl 2, .sl 3, .int .i64 xc8_7], qb9] => (asO 2 false qb0).bind fun xl0 => (asO 3 false qb1).bind fun xl1 => (asO 4 false qb2).bind fun xl2 => (asO 1 false qb3).bind fun xl3 => (asO 2 false qb4).bind fun xl4 => (asO 3 false qb5).bind fun xl5 => (asO 4 false qb6).bind fun xl6 => (asO 1 false qb7).bind fun xl7 => (asO 2 true qb9).bind fun xl9 => impl_WidenedGrants.l3 k x3 xl0 xl1 xl2 xl3 xl4 xl5 xl6 xl7 xc8_0 xc8_1 xc8_2 xc8_7 (fun (zl8 : List T_impl_Grant) => K (.exit 0) (stOf [(5, [some 2])] [.v (.sl 8)] [.rows 2 false xl0, .rows 3 false xl1, .rows 4 false xl2, .rows 1 false xl3, .rows 2 false xl4, .rows 3 false xl5, .rows 4 false xl6, .rows 1 false xl7, .rows 2 true zl8])) k x4 xl9
  | _, _ => none
def impl_WidenedGrants.Γ (k : Nat) : Ct κ := assoc [(27, impl_IsWithinGrants.C k)]
def impl_WidenedGrants.LH (k : Nat) : Nat → Option (LHi κ) := assoc [(3, ⟨8, [(2, [none, none, none, some 2, some 3, some 4, some 1, none]), (5, [some 2]), (10, [some 2]), (11, []), (12, [])], [(5, [some 2])], @impl_WidenedGrants.h3 k⟩)]
theorem impl_WidenedGrants.hΓ (k : Nat) : ∀ f g, impl_WidenedGrants.Γ k f = some g → CSound Tryz.prog f g := G_cons (impl_IsWithinGrants.ok k) G_nil
theorem impl_WidenedGrants.e3 {R : Type} (K : Ex → St κ → Option R) (k : Nat) (x3 : Int) (xl0 : List T_impl_Grant) (xl1 : List T_impl_Flow) (xl2 : List T_impl_Rule) (xl3 : List T_impl_Op) (xl4 : List T_impl_Grant) (xl5 : List T_impl_Flow) (xl6 : List T_impl_Rule) (xl7 : List T_impl_Op) (xc8_0 : Int) (xc8_1 : Int) (xc8_2 : Int) (xc8_7 : Int) : ∀ (n : Nat) (x4 : Int) (xl9 : List T_impl_Grant), loopN 8 (Code.den ti (impl_WidenedGrants.Γ k) (impl_WidenedGrants.LH k) (loopAt Tryz.f31 0)) [(2, [none, none, none, some 2, some 3, some 4, some 1, none]), (5, [some 2]), (10, [some 2]), (11, []), (12, [])] [(5, [some 2])] K n [.v (.ptr 8 0 0), .v (.sl 9), .v (.sl 4), .v (.int .i64 x3), .v (.int .i64 x4)] [.rows 2 false xl0, .rows 3 false xl1, .rows 4 false xl2, .rows 1 false xl3, .rows 2 false xl4, .rows 3 false xl5, .rows 4 false xl6, .rows 1 false xl7, .cells 39 [.int .i64 xc8_0, .int .i64 xc8_1, .int .i64 xc8_2, .sl 0, .sl 1, .sl 2, .sl 3, .int .i64 xc8_7], .rows 2 true xl9] = impl_WidenedGrants.l3 k x3 xl0 xl1 xl2 xl3 xl4 xl5 xl6 xl7 xc8_0 xc8_1 xc8_2 xc8_7 (fun (zl8 : List T_impl_Grant) => K (.exit 0) (stOf [(5, [some 2])] [.v (.sl 8)] [.rows 2 false xl0, .rows 3 false xl1, .rows 4 false xl2, .rows 1 false xl3, .rows 2 false xl4, .rows 3 false xl5, .rows 4 false xl6, .rows 1 false xl7, .rows 2 true zl8])) n x4 xl9
  | 0, _, _ => rfl
  | n + 1, x4, xl9 => (show loopN 8 (Code.den ti (impl_WidenedGrants.Γ k) (impl_WidenedGrants.LH k) (loopAt Tryz.f31 0)) [(2, [none, none, none, some 2, some 3, some 4, some 1, none]), (5, [some 2]), (10, [some 2]), (11, []), (12, [])] [(5, [some 2])] K (n + 1) [.v (.ptr 8 0 0), .v (.sl 9), .v (.sl 4), .v (.int .i64 x3), .v (.int .i64 x4)] [.rows 2 false xl0, .rows 3 false xl1, .rows 4 false xl2, .rows 1 false xl3, .rows 2 false xl4, .rows 3 false xl5, .rows 4 false xl6, .rows 1 false xl7, .cells 39 [.int .i64 xc8_0, .int .i64 xc8_1, .int .i64 xc8_2, .sl 0, .sl 1, .sl 2, .sl 3, .int .i64 xc8_7], .rows 2 true xl9] = impl_WidenedGrants.L3 k x3 xl0 xl1 xl2 xl3 xl4 xl5 xl6 xl7 xc8_0 xc8_1 xc8_2 xc8_7 (fun (zl8 : List T_impl_Grant) => K (.exit 0) (stOf [(5, [some 2])] [.v (.sl 8)] [.rows 2 false xl0, .rows 3 false xl1, .rows 4 false xl2, .rows 1 false xl3, .rows 2 false xl4, .rows 3 false xl5, .rows 4 false xl6, .rows 1 false xl7, .rows 2 true zl8])) (fun (x4' : Int) (xl9' : List T_impl_Grant) => loopN 8 (Code.den ti (impl_WidenedGrants.Γ k) (impl_WidenedGrants.LH k) (loopAt Tryz.f31 0)) [(2, [none, none, none, some 2, some 3, some 4, some 1, none]), (5, [some 2]), (10, [some 2]), (11, []), (12, [])] [(5, [some 2])] K n [.v (.ptr 8 0 0), .v (.sl 9), .v (.sl 4), .v (.int .i64 x3), .v (.int .i64 x4')] [.rows 2 false xl0, .rows 3 false xl1, .rows 4 false xl2, .rows 1 false xl3, .rows 2 false xl4, .rows 3 false xl5, .rows 4 false xl6, .rows 1 false xl7, .cells 39 [.int .i64 xc8_0, .int .i64 xc8_1, .int .i64 xc8_2, .sl 0, .sl 1, .sl 2, .sl 3, .int .i64 xc8_7], .rows 2 true xl9']) x4 xl9 by kernel_rfl).trans (congrArg (fun rec => impl_WidenedGrants.L3 k x3 xl0 xl1 xl2 xl3 xl4 xl5 xl6 xl7 xc8_0 xc8_1 xc8_2 xc8_7 (fun (zl8 : List T_impl_Grant) => K (.exit 0) (stOf [(5, [some 2])] [.v (.sl 8)] [.rows 2 false xl0, .rows 3 false xl1, .rows 4 false xl2, .rows 1 false xl3, .rows 2 false xl4, .rows 3 false xl5, .rows 4 false xl6, .rows 1 false xl7, .rows 2 true zl8])) rec x4 xl9) (funext fun x4' => funext fun xl9' => impl_WidenedGrants.e3 K k x3 xl0 xl1 xl2 xl3 xl4 xl5 xl6 xl7 xc8_0 xc8_1 xc8_2 xc8_7 n x4' xl9'))
theorem impl_WidenedGrants.q3 (k : Nat) {R : Type} (K : Ex → St κ → Option R) (vs : List AV) (bs : List (Blk κ)) (r : R) (h : impl_WidenedGrants.h3 k K vs bs = some r) : ∃ n, loopN 8 (Code.den ti (impl_WidenedGrants.Γ k) (impl_WidenedGrants.LH k) (loopAt Tryz.f31 0)) [(2, [none, none, none, some 2, some 3, some 4, some 1, none]), (5, [some 2]), (10, [some 2]), (11, []), (12, [])] [(5, [some 2])] K n vs bs = some r := by
  unfold impl_WidenedGrants.h3 at h
  split at h
  · obtain ⟨_, rfl, h_1⟩ := asO_bind h
    obtain ⟨_, rfl, h_2⟩ := asO_bind h_1
    obtain ⟨_, rfl, h_3⟩ := asO_bind h_2
    obtain ⟨_, rfl, h_4⟩ := asO_bind h_3
    obtain ⟨_, rfl, h_5⟩ := asO_bind h_4
    obtain ⟨_, rfl, h_6⟩ := asO_bind h_5
    obtain ⟨_, rfl, h_7⟩ := asO_bind h_6
    obtain ⟨_, rfl, h_8⟩ := asO_bind h_7
    obtain ⟨_, rfl, h_9⟩ := asO_bind h_8
    exact ⟨k, (impl_WidenedGrants.e3 K k _ _ _ _ _ _ _ _ _ _ _ _ _ k _ _).trans h_9⟩
  · cases h
theorem impl_WidenedGrants.lok (k : Nat) : LOK ti (impl_WidenedGrants.Γ k) (impl_WidenedGrants.LH k) 8 (loopsOf (bodyOf Tryz.f31)) :=
  (show loopsOf (bodyOf Tryz.f31) = [loopAt Tryz.f31 0] by kernel_rfl) ▸ (LOK_cons (g := ⟨8, [(2, [none, none, none, some 2, some 3, some 4, some 1, none]), (5, [some 2]), (10, [some 2]), (11, []), (12, [])], [(5, [some 2])], @impl_WidenedGrants.h3 k⟩) (by kernel_rfl) rfl (fun K vs xs r h => impl_WidenedGrants.q3 k K vs xs r h) (LOK_nil))
def impl_WidenedGrants.sig : List PSh := [.agg [.sc, .sc, .sc, .ro 2, .ro 3, .ro 4, .ro 1, .sc], .agg [.sc, .sc, .sc, .ro 2, .ro 3, .ro 4, .ro 1, .sc]]
def impl_WidenedGrants.g (y : List T_impl_Grant) : Ret κ := ⟨.v (.sl 8), [], [.rows 2 true y]⟩
def impl_WidenedGrants.out (r : Ret κ) : Option (List T_impl_Grant) :=
  match r with
  | ⟨.v (.sl 8), [], [q0]⟩ => (asO 2 true q0).bind fun z0 => some (z0)
  | _ => none
theorem impl_WidenedGrants.out_ok (r : Ret κ) (y : List T_impl_Grant) (h : impl_WidenedGrants.out r = some y) : r = impl_WidenedGrants.g y := by
  unfold impl_WidenedGrants.out at h
  split at h
  · obtain ⟨_, rfl, h_1⟩ := asO_bind h
    obtain rfl := Option.some.inj h_1
    rfl
  · cases h
def impl_WidenedGrants.body (k : Nat) (vs : List AV) (bs : List (Blk κ)) : Option (Lf κ) :=
  match vs, bs with
  | [.agg [.int .i64 a0_0, .int .i64 a0_1, .int .i64 a0_2, .sl 0, .sl 1, .sl 2, .sl 3, .int .i64 a0_7], .agg [.int .i64 a1_0, .int .i64 a1_1, .int .i64 a1_2, .sl 4, .sl 5, .sl 6, .sl 7, .int .i64 a1_7]], [qb0, qb1, qb2, qb3, qb4, qb5, qb6, qb7] => (asO 2 false qb0).bind fun a0_3 => (asO 3 false qb1).bind fun a0_4 => (asO 4 false qb2).bind fun a0_5 => (asO 1 false qb3).bind fun a0_6 => (asO 2 false qb4).bind fun a1_3 => (asO 3 false qb5).bind fun a1_4 => (asO 4 false qb6).bind fun a1_5 => (asO 1 false qb7).bind fun a1_6 => some ⟨List T_impl_Grant, impl_WidenedGrants.f k a0_0 a0_1 a0_2 a0_3 a0_4 a0_5 a0_6 a0_7 a1_0 a1_1 a1_2 a1_3 a1_4 a1_5 a1_6 a1_7, impl_WidenedGrants.g⟩
  | _, _ => none
def impl_WidenedGrants.C (k : Nat) : Nat → List AV → AP κ AV := contract impl_WidenedGrants.sig (impl_WidenedGrants.body k)
theorem impl_WidenedGrants.den (k : Nat) (a0_0 : Int) (a0_1 : Int) (a0_2 : Int) (a0_3 : List T_impl_Grant) (a0_4 : List T_impl_Flow) (a0_5 : List T_impl_Rule) (a0_6 : List T_impl_Op) (a0_7 : Int) (a1_0 : Int) (a1_1 : Int) (a1_2 : Int) (a1_3 : List T_impl_Grant) (a1_4 : List T_impl_Flow) (a1_5 : List T_impl_Rule) (a1_6 : List T_impl_Op) (a1_7 : Int) : Code.den ti (impl_WidenedGrants.Γ k) (impl_WidenedGrants.LH k) (bodyOf Tryz.f31) (finK ti Tryz.f31.results.toList [(4, [some 2])] (flags impl_WidenedGrants.sig).length (rwI (flags impl_WidenedGrants.sig) 0) impl_WidenedGrants.out) ⟨envOf (([.agg [.int .i64 a0_0, .int .i64 a0_1, .int .i64 a0_2, .sl 0, .sl 1, .sl 2, .sl 3, .int .i64 a0_7], .agg [.int .i64 a1_0, .int .i64 a1_1, .int .i64 a1_2, .sl 4, .sl 5, .sl 6, .sl 7, .int .i64 a1_7]]).zipIdx.map fun q => (q.2, q.1)), hpOf [.rows 2 false a0_3, .rows 3 false a0_4, .rows 4 false a0_5, .rows 1 false a0_6, .rows 2 false a1_3, .rows 3 false a1_4, .rows 4 false a1_5, .rows 1 false a1_6], (flags impl_WidenedGrants.sig).length⟩ = impl_WidenedGrants.f k a0_0 a0_1 a0_2 a0_3 a0_4 a0_5 a0_6 a0_7 a1_0 a1_1 a1_2 a1_3 a1_4 a1_5 a1_6 a1_7 := by kernel_rfl
theorem impl_WidenedGrants.ok (k : Nat) : CSound Tryz.prog 31 (impl_WidenedGrants.C k) :=
  csound κ_ok mixed tok (impl_WidenedGrants.hΓ k) (LH := impl_WidenedGrants.LH k) (fn := Tryz.f31) (c := bodyOf Tryz.f31) Tryz.func31 rfl Tryz.call31 impl_WidenedGrants.sig [(4, [some 2])] (impl_WidenedGrants.body k) (by kernel_rfl) (impl_WidenedGrants.lok k) (by decide) fun vs bs lf y hl hb hy => by
    unfold impl_WidenedGrants.body at hb
    split at hb
    · obtain ⟨_, rfl, hb_1⟩ := asO_bind hb
      obtain ⟨_, rfl, hb_2⟩ := asO_bind hb_1
      obtain ⟨_, rfl, hb_3⟩ := asO_bind hb_2
      obtain ⟨_, rfl, hb_4⟩ := asO_bind hb_3
      obtain ⟨_, rfl, hb_5⟩ := asO_bind hb_4
      obtain ⟨_, rfl, hb_6⟩ := asO_bind hb_5
      obtain ⟨_, rfl, hb_7⟩ := asO_bind hb_6
      obtain ⟨_, rfl, hb_8⟩ := asO_bind hb_7
      obtain rfl := Option.some.inj hb_8
      exact ⟨impl_WidenedGrants.out, impl_WidenedGrants.out_ok, (impl_WidenedGrants.den k _ _ _ _ _ _ _ _ _ _ _ _ _ _ _ _).trans hy⟩
    · cases hb
end Go.Proofs.YtoenilndklbceaaGreat.PFnUpdated
