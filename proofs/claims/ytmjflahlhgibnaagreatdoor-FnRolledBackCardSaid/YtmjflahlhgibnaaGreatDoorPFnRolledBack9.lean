/- What the functions that the law FnRolledBack reaches come to; no conditions. -/
import Derived.Test.YtmjflahlhgibnaaGreatDoorPFnRolledBack8
set_option linter.unusedVariables false
set_option maxRecDepth 100000
namespace Go.Proofs.YtmjflahlhgibnaaGreatDoor.PFnRolledBack
open Go Go.Eng Go.Proofs
/-! ### impl_IsGrant -/
def impl_IsGrant.f (k : Nat) (a0_0 : Int) (a0_1 : Int) (a0_2 : Int) (a0_3 : Int) (a0_4 : Int) (a0_5 : Int) (a0_6 : Bool) : Option Bool :=
  (impl_InRange.f k a0_0 (1 : Int) (5 : Int)).bind fun t1 => (bif t1 then (impl_IsPattern.f k a0_1 a0_2).bind fun t2 => (bif t2 then (impl_InRange.f k a0_3 (1 : Int) (4 : Int)).bind fun t3 => (bif t3 then (bif decide ((0 : Int) ≤ a0_4) then (bif decide (a0_4 ≤ a0_5) then some (decide (a0_5 ≤ (10000 : Int))) else some false) else some false) else some false) else some false) else some false)
def impl_IsGrant.Γ (k : Nat) : Ct κ := assoc [(27, impl_InRange.C k), (95, impl_IsPattern.C k)]
def impl_IsGrant.LH (k : Nat) : Nat → Option (LHi κ) := assoc []
theorem impl_IsGrant.hΓ (k : Nat) : ∀ f g, impl_IsGrant.Γ k f = some g → CSound Tryz.prog f g := G_cons (impl_InRange.ok k) (G_cons (impl_IsPattern.ok k) G_nil)
theorem impl_IsGrant.lok (k : Nat) : LOK ti (impl_IsGrant.Γ k) (impl_IsGrant.LH k) 0 (loopsOf (bodyOf Tryz.f58)) :=
  (show loopsOf (bodyOf Tryz.f58) = [] by kernel_rfl) ▸ LOK_nil
def impl_IsGrant.sig : List PSh := [.agg [.sc, .sc, .sc, .sc, .sc, .sc, .sc]]
def impl_IsGrant.g (y : Bool) : Ret κ := ⟨.v (.bool y), [], []⟩
def impl_IsGrant.out (r : Ret κ) : Option Bool :=
  match r with
  | ⟨.v (.bool z0), [], []⟩ => some (z0)
  | _ => none
theorem impl_IsGrant.out_ok (r : Ret κ) (y : Bool) (h : impl_IsGrant.out r = some y) : r = impl_IsGrant.g y := by
  unfold impl_IsGrant.out at h
  split at h
  · obtain rfl := Option.some.inj h
    rfl
  · cases h
def impl_IsGrant.body (k : Nat) (vs : List AV) (bs : List (Blk κ)) : Option (Lf κ) :=
  match vs, bs with
  | [.agg [.int .i64 a0_0, .int .i64 a0_1, .int .i64 a0_2, .int .i64 a0_3, .int .i64 a0_4, .int .i64 a0_5, .bool a0_6]], [] => some ⟨Bool, impl_IsGrant.f k a0_0 a0_1 a0_2 a0_3 a0_4 a0_5 a0_6, impl_IsGrant.g⟩
  | _, _ => none
def impl_IsGrant.C (k : Nat) : Nat → List AV → AP κ AV := contract impl_IsGrant.sig (impl_IsGrant.body k)
theorem impl_IsGrant.den (k : Nat) (a0_0 : Int) (a0_1 : Int) (a0_2 : Int) (a0_3 : Int) (a0_4 : Int) (a0_5 : Int) (a0_6 : Bool) : Code.den ti (impl_IsGrant.Γ k) (impl_IsGrant.LH k) (bodyOf Tryz.f58) (finK ti Tryz.f58.results.toList [] (flags impl_IsGrant.sig).length (rwI (flags impl_IsGrant.sig) 0) impl_IsGrant.out) ⟨envOf (([.agg [.int .i64 a0_0, .int .i64 a0_1, .int .i64 a0_2, .int .i64 a0_3, .int .i64 a0_4, .int .i64 a0_5, .bool a0_6]]).zipIdx.map fun q => (q.2, q.1)), hpOf [], (flags impl_IsGrant.sig).length⟩ = impl_IsGrant.f k a0_0 a0_1 a0_2 a0_3 a0_4 a0_5 a0_6 := by kernel_rfl
theorem impl_IsGrant.ok (k : Nat) : CSound Tryz.prog 58 (impl_IsGrant.C k) :=
  csound κ_ok mixed tok (impl_IsGrant.hΓ k) (LH := impl_IsGrant.LH k) (fn := Tryz.f58) (c := bodyOf Tryz.f58) Tryz.func58 rfl Tryz.call58 impl_IsGrant.sig [] (impl_IsGrant.body k) (by kernel_rfl) (impl_IsGrant.lok k) (by decide) fun vs bs lf y hl hb hy => by
    unfold impl_IsGrant.body at hb
    split at hb
    · obtain rfl := Option.some.inj hb
      exact ⟨impl_IsGrant.out, impl_IsGrant.out_ok, (impl_IsGrant.den k _ _ _ _ _ _ _).trans hy⟩
    · cases hb
/-! ### impl_IsFlow -/
def impl_IsFlow.f (k : Nat) (a0_0 : Int) (a0_1 : Int) (a0_2 : Int) : Option Bool :=
  (impl_InRange.f k a0_0 (1 : Int) (5 : Int)).bind fun t1 => (bif t1 then (impl_InRange.f k a0_1 (1 : Int) (9 : Int)).bind fun t2 => (bif t2 then (impl_InRange.f k a0_2 (1 : Int) (9 : Int)).bind fun t3 => some t3 else some false) else some false)
def impl_IsFlow.Γ (k : Nat) : Ct κ := assoc [(27, impl_InRange.C k)]
def impl_IsFlow.LH (k : Nat) : Nat → Option (LHi κ) := assoc []
theorem impl_IsFlow.hΓ (k : Nat) : ∀ f g, impl_IsFlow.Γ k f = some g → CSound Tryz.prog f g := G_cons (impl_InRange.ok k) G_nil
theorem impl_IsFlow.lok (k : Nat) : LOK ti (impl_IsFlow.Γ k) (impl_IsFlow.LH k) 0 (loopsOf (bodyOf Tryz.f59)) :=
  (show loopsOf (bodyOf Tryz.f59) = [] by kernel_rfl) ▸ LOK_nil
def impl_IsFlow.sig : List PSh := [.agg [.sc, .sc, .sc]]
def impl_IsFlow.g (y : Bool) : Ret κ := ⟨.v (.bool y), [], []⟩
def impl_IsFlow.out (r : Ret κ) : Option Bool :=
  match r with
  | ⟨.v (.bool z0), [], []⟩ => some (z0)
  | _ => none
theorem impl_IsFlow.out_ok (r : Ret κ) (y : Bool) (h : impl_IsFlow.out r = some y) : r = impl_IsFlow.g y := by
  unfold impl_IsFlow.out at h
  split at h
  · obtain rfl := Option.some.inj h
    rfl
  · cases h
def impl_IsFlow.body (k : Nat) (vs : List AV) (bs : List (Blk κ)) : Option (Lf κ) :=
  match vs, bs with
  | [.agg [.int .i64 a0_0, .int .i64 a0_1, .int .i64 a0_2]], [] => some ⟨Bool, impl_IsFlow.f k a0_0 a0_1 a0_2, impl_IsFlow.g⟩
  | _, _ => none
def impl_IsFlow.C (k : Nat) : Nat → List AV → AP κ AV := contract impl_IsFlow.sig (impl_IsFlow.body k)
theorem impl_IsFlow.den (k : Nat) (a0_0 : Int) (a0_1 : Int) (a0_2 : Int) : Code.den ti (impl_IsFlow.Γ k) (impl_IsFlow.LH k) (bodyOf Tryz.f59) (finK ti Tryz.f59.results.toList [] (flags impl_IsFlow.sig).length (rwI (flags impl_IsFlow.sig) 0) impl_IsFlow.out) ⟨envOf (([.agg [.int .i64 a0_0, .int .i64 a0_1, .int .i64 a0_2]]).zipIdx.map fun q => (q.2, q.1)), hpOf [], (flags impl_IsFlow.sig).length⟩ = impl_IsFlow.f k a0_0 a0_1 a0_2 := by kernel_rfl
theorem impl_IsFlow.ok (k : Nat) : CSound Tryz.prog 59 (impl_IsFlow.C k) :=
  csound κ_ok mixed tok (impl_IsFlow.hΓ k) (LH := impl_IsFlow.LH k) (fn := Tryz.f59) (c := bodyOf Tryz.f59) Tryz.func59 rfl Tryz.call59 impl_IsFlow.sig [] (impl_IsFlow.body k) (by kernel_rfl) (impl_IsFlow.lok k) (by decide) fun vs bs lf y hl hb hy => by
    unfold impl_IsFlow.body at hb
    split at hb
    · obtain rfl := Option.some.inj hb
      exact ⟨impl_IsFlow.out, impl_IsFlow.out_ok, (impl_IsFlow.den k _ _ _).trans hy⟩
    · cases hb
/-! ### impl_IsSite -/
def impl_IsSite.f (k : Nat) (a0_0 : Int) (a0_1 : Int) : Option Bool :=
  (impl_InRange.f k a0_0 (1 : Int) (9 : Int)).bind fun t1 => (bif t1 then (impl_InRange.f k a0_1 (0 : Int) (9 : Int)).bind fun t2 => some t2 else some false)
def impl_IsSite.Γ (k : Nat) : Ct κ := assoc [(27, impl_InRange.C k)]
def impl_IsSite.LH (k : Nat) : Nat → Option (LHi κ) := assoc []
theorem impl_IsSite.hΓ (k : Nat) : ∀ f g, impl_IsSite.Γ k f = some g → CSound Tryz.prog f g := G_cons (impl_InRange.ok k) G_nil
theorem impl_IsSite.lok (k : Nat) : LOK ti (impl_IsSite.Γ k) (impl_IsSite.LH k) 0 (loopsOf (bodyOf Tryz.f96)) :=
  (show loopsOf (bodyOf Tryz.f96) = [] by kernel_rfl) ▸ LOK_nil
def impl_IsSite.sig : List PSh := [.agg [.sc, .sc]]
def impl_IsSite.g (y : Bool) : Ret κ := ⟨.v (.bool y), [], []⟩
def impl_IsSite.out (r : Ret κ) : Option Bool :=
  match r with
  | ⟨.v (.bool z0), [], []⟩ => some (z0)
  | _ => none
theorem impl_IsSite.out_ok (r : Ret κ) (y : Bool) (h : impl_IsSite.out r = some y) : r = impl_IsSite.g y := by
  unfold impl_IsSite.out at h
  split at h
  · obtain rfl := Option.some.inj h
    rfl
  · cases h
def impl_IsSite.body (k : Nat) (vs : List AV) (bs : List (Blk κ)) : Option (Lf κ) :=
  match vs, bs with
  | [.agg [.int .i64 a0_0, .int .i64 a0_1]], [] => some ⟨Bool, impl_IsSite.f k a0_0 a0_1, impl_IsSite.g⟩
  | _, _ => none
def impl_IsSite.C (k : Nat) : Nat → List AV → AP κ AV := contract impl_IsSite.sig (impl_IsSite.body k)
theorem impl_IsSite.den (k : Nat) (a0_0 : Int) (a0_1 : Int) : Code.den ti (impl_IsSite.Γ k) (impl_IsSite.LH k) (bodyOf Tryz.f96) (finK ti Tryz.f96.results.toList [] (flags impl_IsSite.sig).length (rwI (flags impl_IsSite.sig) 0) impl_IsSite.out) ⟨envOf (([.agg [.int .i64 a0_0, .int .i64 a0_1]]).zipIdx.map fun q => (q.2, q.1)), hpOf [], (flags impl_IsSite.sig).length⟩ = impl_IsSite.f k a0_0 a0_1 := by kernel_rfl
theorem impl_IsSite.ok (k : Nat) : CSound Tryz.prog 96 (impl_IsSite.C k) :=
  csound κ_ok mixed tok (impl_IsSite.hΓ k) (LH := impl_IsSite.LH k) (fn := Tryz.f96) (c := bodyOf Tryz.f96) Tryz.func96 rfl Tryz.call96 impl_IsSite.sig [] (impl_IsSite.body k) (by kernel_rfl) (impl_IsSite.lok k) (by decide) fun vs bs lf y hl hb hy => by
    unfold impl_IsSite.body at hb
    split at hb
    · obtain rfl := Option.some.inj hb
      exact ⟨impl_IsSite.out, impl_IsSite.out_ok, (impl_IsSite.den k _ _).trans hy⟩
    · cases hb
/-! ### impl_IsRule -/
def impl_IsRule.f (k : Nat) (a0_0 : Int) (a0_1 : Int) (a0_2 : Int) (a0_3 : Int) (a0_4 : Int) (a0_5 : Int) (a0_6 : Int) (a0_7 : Int) : Option Bool :=
  (impl_InRange.f k a0_0 (1 : Int) (5 : Int)).bind fun t1 => (bif !t1 then some false else (impl_InRange.f k a0_1 (1 : Int) (9 : Int)).bind fun t2 => (bif !t2 then some false else (impl_IsPattern.f k a0_2 a0_3).bind fun t3 => (bif !t3 then some false else (impl_InRange.f k a0_4 (0 : Int) (4 : Int)).bind fun t4 => (bif !t4 then some false else (bif (a0_5 == (1 : Int)) then some ((a0_6 == (0 : Int)) && (a0_7 == (0 : Int))) else (bif (a0_5 == (2 : Int)) then some ((a0_6 == (0 : Int)) && (a0_7 == (0 : Int))) else (bif (a0_5 == (3 : Int)) then (impl_IsSite.f k a0_6 a0_7).bind fun t5 => some t5 else some false)))))))
def impl_IsRule.Γ (k : Nat) : Ct κ := assoc [(27, impl_InRange.C k), (95, impl_IsPattern.C k), (96, impl_IsSite.C k)]
def impl_IsRule.LH (k : Nat) : Nat → Option (LHi κ) := assoc []
theorem impl_IsRule.hΓ (k : Nat) : ∀ f g, impl_IsRule.Γ k f = some g → CSound Tryz.prog f g := G_cons (impl_InRange.ok k) (G_cons (impl_IsPattern.ok k) (G_cons (impl_IsSite.ok k) G_nil))
theorem impl_IsRule.lok (k : Nat) : LOK ti (impl_IsRule.Γ k) (impl_IsRule.LH k) 0 (loopsOf (bodyOf Tryz.f60)) :=
  (show loopsOf (bodyOf Tryz.f60) = [] by kernel_rfl) ▸ LOK_nil
def impl_IsRule.sig : List PSh := [.agg [.sc, .sc, .sc, .sc, .sc, .sc, .sc, .sc]]
def impl_IsRule.g (y : Bool) : Ret κ := ⟨.v (.bool y), [], []⟩
def impl_IsRule.out (r : Ret κ) : Option Bool :=
  match r with
  | ⟨.v (.bool z0), [], []⟩ => some (z0)
  | _ => none
theorem impl_IsRule.out_ok (r : Ret κ) (y : Bool) (h : impl_IsRule.out r = some y) : r = impl_IsRule.g y := by
  unfold impl_IsRule.out at h
  split at h
  · obtain rfl := Option.some.inj h
    rfl
  · cases h
def impl_IsRule.body (k : Nat) (vs : List AV) (bs : List (Blk κ)) : Option (Lf κ) :=
  match vs, bs with
  | [.agg [.int .i64 a0_0, .int .i64 a0_1, .int .i64 a0_2, .int .i64 a0_3, .int .i64 a0_4, .int .i64 a0_5, .int .i64 a0_6, .int .i64 a0_7]], [] => some ⟨Bool, impl_IsRule.f k a0_0 a0_1 a0_2 a0_3 a0_4 a0_5 a0_6 a0_7, impl_IsRule.g⟩
  | _, _ => none
def impl_IsRule.C (k : Nat) : Nat → List AV → AP κ AV := contract impl_IsRule.sig (impl_IsRule.body k)
theorem impl_IsRule.den (k : Nat) (a0_0 : Int) (a0_1 : Int) (a0_2 : Int) (a0_3 : Int) (a0_4 : Int) (a0_5 : Int) (a0_6 : Int) (a0_7 : Int) : Code.den ti (impl_IsRule.Γ k) (impl_IsRule.LH k) (bodyOf Tryz.f60) (finK ti Tryz.f60.results.toList [] (flags impl_IsRule.sig).length (rwI (flags impl_IsRule.sig) 0) impl_IsRule.out) ⟨envOf (([.agg [.int .i64 a0_0, .int .i64 a0_1, .int .i64 a0_2, .int .i64 a0_3, .int .i64 a0_4, .int .i64 a0_5, .int .i64 a0_6, .int .i64 a0_7]]).zipIdx.map fun q => (q.2, q.1)), hpOf [], (flags impl_IsRule.sig).length⟩ = impl_IsRule.f k a0_0 a0_1 a0_2 a0_3 a0_4 a0_5 a0_6 a0_7 := by kernel_rfl
theorem impl_IsRule.ok (k : Nat) : CSound Tryz.prog 60 (impl_IsRule.C k) :=
  csound κ_ok mixed tok (impl_IsRule.hΓ k) (LH := impl_IsRule.LH k) (fn := Tryz.f60) (c := bodyOf Tryz.f60) Tryz.func60 rfl Tryz.call60 impl_IsRule.sig [] (impl_IsRule.body k) (by kernel_rfl) (impl_IsRule.lok k) (by decide) fun vs bs lf y hl hb hy => by
    unfold impl_IsRule.body at hb
    split at hb
    · obtain rfl := Option.some.inj hb
      exact ⟨impl_IsRule.out, impl_IsRule.out_ok, (impl_IsRule.den k _ _ _ _ _ _ _ _).trans hy⟩
    · cases hb
/-! ### impl_isRegister -/
def impl_isRegister.f (k : Nat) (a0 : Int) : Option Bool :=
  (impl_InRange.f k a0 (0 : Int) (5 : Int)).bind fun t1 => some t1
def impl_isRegister.Γ (k : Nat) : Ct κ := assoc [(27, impl_InRange.C k)]
def impl_isRegister.LH (k : Nat) : Nat → Option (LHi κ) := assoc []
theorem impl_isRegister.hΓ (k : Nat) : ∀ f g, impl_isRegister.Γ k f = some g → CSound Tryz.prog f g := G_cons (impl_InRange.ok k) G_nil
theorem impl_isRegister.lok (k : Nat) : LOK ti (impl_isRegister.Γ k) (impl_isRegister.LH k) 0 (loopsOf (bodyOf Tryz.f124)) :=
  (show loopsOf (bodyOf Tryz.f124) = [] by kernel_rfl) ▸ LOK_nil
def impl_isRegister.sig : List PSh := [.one .sc]
def impl_isRegister.g (y : Bool) : Ret κ := ⟨.v (.bool y), [], []⟩
def impl_isRegister.out (r : Ret κ) : Option Bool :=
  match r with
  | ⟨.v (.bool z0), [], []⟩ => some (z0)
  | _ => none
theorem impl_isRegister.out_ok (r : Ret κ) (y : Bool) (h : impl_isRegister.out r = some y) : r = impl_isRegister.g y := by
  unfold impl_isRegister.out at h
  split at h
  · obtain rfl := Option.some.inj h
    rfl
  · cases h
def impl_isRegister.body (k : Nat) (vs : List AV) (bs : List (Blk κ)) : Option (Lf κ) :=
  match vs, bs with
  | [.v (.int .i64 a0)], [] => some ⟨Bool, impl_isRegister.f k a0, impl_isRegister.g⟩
  | _, _ => none
def impl_isRegister.C (k : Nat) : Nat → List AV → AP κ AV := contract impl_isRegister.sig (impl_isRegister.body k)
theorem impl_isRegister.den (k : Nat) (a0 : Int) : Code.den ti (impl_isRegister.Γ k) (impl_isRegister.LH k) (bodyOf Tryz.f124) (finK ti Tryz.f124.results.toList [] (flags impl_isRegister.sig).length (rwI (flags impl_isRegister.sig) 0) impl_isRegister.out) ⟨envOf (([.v (.int .i64 a0)]).zipIdx.map fun q => (q.2, q.1)), hpOf [], (flags impl_isRegister.sig).length⟩ = impl_isRegister.f k a0 := by kernel_rfl
theorem impl_isRegister.ok (k : Nat) : CSound Tryz.prog 124 (impl_isRegister.C k) :=
  csound κ_ok mixed tok (impl_isRegister.hΓ k) (LH := impl_isRegister.LH k) (fn := Tryz.f124) (c := bodyOf Tryz.f124) Tryz.func124 rfl Tryz.call124 impl_isRegister.sig [] (impl_isRegister.body k) (by kernel_rfl) (impl_isRegister.lok k) (by decide) fun vs bs lf y hl hb hy => by
    unfold impl_isRegister.body at hb
    split at hb
    · obtain rfl := Option.some.inj hb
      exact ⟨impl_isRegister.out, impl_isRegister.out_ok, (impl_isRegister.den k _).trans hy⟩
    · cases hb
/-! ### impl_isOp -/
def impl_isOp.f (k : Nat) (a0_0 : Int) (a0_1 : Int) (a0_2 : Int) (a0_3 : Int) : Option Bool :=
  (impl_isRegister.f k a0_1).bind fun t1 => (bif !t1 then some false else (bif (a0_0 == (1 : Int)) then (impl_InRange.f k a0_2 (1 : Int) (9 : Int)).bind fun t2 => (bif t2 then some (a0_3 == (0 : Int)) else some false) else (bif (a0_0 == (5 : Int)) then (impl_InRange.f k a0_2 (1 : Int) (9 : Int)).bind fun t3 => (bif t3 then some (a0_3 == (0 : Int)) else some false) else (bif (a0_0 == (2 : Int)) then (impl_InRange.f k a0_2 (0 : Int) (999 : Int)).bind fun t4 => (bif t4 then some (a0_3 == (0 : Int)) else some false) else (bif (a0_0 == (3 : Int)) then (impl_isRegister.f k a0_2).bind fun t5 => (bif t5 then (impl_isRegister.f k a0_3).bind fun t6 => some t6 else some false) else (bif (a0_0 == (4 : Int)) then (impl_isRegister.f k a0_2).bind fun t7 => (bif t7 then (impl_isRegister.f k a0_3).bind fun t8 => some t8 else some false) else some false))))))
def impl_isOp.Γ (k : Nat) : Ct κ := assoc [(124, impl_isRegister.C k), (27, impl_InRange.C k)]
def impl_isOp.LH (k : Nat) : Nat → Option (LHi κ) := assoc []
theorem impl_isOp.hΓ (k : Nat) : ∀ f g, impl_isOp.Γ k f = some g → CSound Tryz.prog f g := G_cons (impl_isRegister.ok k) (G_cons (impl_InRange.ok k) G_nil)
theorem impl_isOp.lok (k : Nat) : LOK ti (impl_isOp.Γ k) (impl_isOp.LH k) 0 (loopsOf (bodyOf Tryz.f97)) :=
  (show loopsOf (bodyOf Tryz.f97) = [] by kernel_rfl) ▸ LOK_nil
def impl_isOp.sig : List PSh := [.agg [.sc, .sc, .sc, .sc]]
def impl_isOp.g (y : Bool) : Ret κ := ⟨.v (.bool y), [], []⟩
def impl_isOp.out (r : Ret κ) : Option Bool :=
  match r with
  | ⟨.v (.bool z0), [], []⟩ => some (z0)
  | _ => none
theorem impl_isOp.out_ok (r : Ret κ) (y : Bool) (h : impl_isOp.out r = some y) : r = impl_isOp.g y := by
  unfold impl_isOp.out at h
  split at h
  · obtain rfl := Option.some.inj h
    rfl
  · cases h
def impl_isOp.body (k : Nat) (vs : List AV) (bs : List (Blk κ)) : Option (Lf κ) :=
  match vs, bs with
  | [.agg [.int .i64 a0_0, .int .i64 a0_1, .int .i64 a0_2, .int .i64 a0_3]], [] => some ⟨Bool, impl_isOp.f k a0_0 a0_1 a0_2 a0_3, impl_isOp.g⟩
  | _, _ => none
def impl_isOp.C (k : Nat) : Nat → List AV → AP κ AV := contract impl_isOp.sig (impl_isOp.body k)
theorem impl_isOp.den (k : Nat) (a0_0 : Int) (a0_1 : Int) (a0_2 : Int) (a0_3 : Int) : Code.den ti (impl_isOp.Γ k) (impl_isOp.LH k) (bodyOf Tryz.f97) (finK ti Tryz.f97.results.toList [] (flags impl_isOp.sig).length (rwI (flags impl_isOp.sig) 0) impl_isOp.out) ⟨envOf (([.agg [.int .i64 a0_0, .int .i64 a0_1, .int .i64 a0_2, .int .i64 a0_3]]).zipIdx.map fun q => (q.2, q.1)), hpOf [], (flags impl_isOp.sig).length⟩ = impl_isOp.f k a0_0 a0_1 a0_2 a0_3 := by kernel_rfl
theorem impl_isOp.ok (k : Nat) : CSound Tryz.prog 97 (impl_isOp.C k) :=
  csound κ_ok mixed tok (impl_isOp.hΓ k) (LH := impl_isOp.LH k) (fn := Tryz.f97) (c := bodyOf Tryz.f97) Tryz.func97 rfl Tryz.call97 impl_isOp.sig [] (impl_isOp.body k) (by kernel_rfl) (impl_isOp.lok k) (by decide) fun vs bs lf y hl hb hy => by
    unfold impl_isOp.body at hb
    split at hb
    · obtain rfl := Option.some.inj hb
      exact ⟨impl_isOp.out, impl_isOp.out_ok, (impl_isOp.den k _ _ _ _).trans hy⟩
    · cases hb
/-! ### impl_AreOps -/
def impl_AreOps.L4 {R : Type} (k : Nat) (x1 : Int) (xl0 : List T_impl_Op) (X0 : Bool → Option R) (X1 : Unit → Option R) (rec : Int → Option R) (x2 : Int) : Option R :=
  (bif decide (x2 < x1) then (bif decide (0 ≤ x2) then (bif decide (x2 < (xl0.length : Int)) then (impl_isOp.f k ((rd_impl_Op xl0 x2).f0) ((rd_impl_Op xl0 x2).f1) ((rd_impl_Op xl0 x2).f2) ((rd_impl_Op xl0 x2).f3)).bind fun t1 => (bif !t1 then (X0 false) else (rec (w64 (x2 + (1 : Int))))) else none) else none) else (X1 ()))
def impl_AreOps.l4 {R : Type} (k : Nat) (x1 : Int) (xl0 : List T_impl_Op) (X0 : Bool → Option R) (X1 : Unit → Option R) : Nat → Int → Option R
  | 0 => fun _ => none
  | n + 1 => impl_AreOps.L4 k x1 xl0 X0 X1 (impl_AreOps.l4 k x1 xl0 X0 X1 n)
def impl_AreOps.f (k : Nat) (a0 : List T_impl_Op) : Option Bool :=
  (bif decide ((a0.length : Int) > (16 : Int)) then some false else (impl_AreOps.l4 k (a0.length : Int) a0 (fun (y2 : Bool) => some y2) (fun (_ : Unit) => some true) k (0 : Int)))
def impl_AreOps.h4 (k : Nat) {R : Type} (K : Ex → St κ → Option R) (vs : List AV) (bs : List (Blk κ)) : Option R :=
  match vs, bs with
  | [.v (.sl 0), .v (.int .i64 x1), .v (.int .i64 x2)], [qb0] => (asO 1 false qb0).bind fun xl0 => impl_AreOps.l4 k x1 xl0 (fun (z0 : Bool) => K .ret (stOf [(2, [])] [.v (.bool z0)] [.rows 1 false xl0])) (fun (_ : Unit) => K (.exit 0) (stOf [(2, [])] [.v .any] [.rows 1 false xl0])) k x2
  | _, _ => none
def impl_AreOps.Γ (k : Nat) : Ct κ := assoc [(97, impl_isOp.C k)]
def impl_AreOps.LH (k : Nat) : Nat → Option (LHi κ) := assoc [(4, ⟨1, [(8, [some 1]), (9, []), (10, [])], [(2, [])], @impl_AreOps.h4 k⟩)]
theorem impl_AreOps.hΓ (k : Nat) : ∀ f g, impl_AreOps.Γ k f = some g → CSound Tryz.prog f g := G_cons (impl_isOp.ok k) G_nil
theorem impl_AreOps.e4 {R : Type} (K : Ex → St κ → Option R) (k : Nat) (x1 : Int) (xl0 : List T_impl_Op) : ∀ (n : Nat) (x2 : Int), loopN 1 (Code.den ti (impl_AreOps.Γ k) (impl_AreOps.LH k) (loopAt Tryz.f61 0)) [(8, [some 1]), (9, []), (10, [])] [(2, [])] K n [.v (.sl 0), .v (.int .i64 x1), .v (.int .i64 x2)] [.rows 1 false xl0] = impl_AreOps.l4 k x1 xl0 (fun (z0 : Bool) => K .ret (stOf [(2, [])] [.v (.bool z0)] [.rows 1 false xl0])) (fun (_ : Unit) => K (.exit 0) (stOf [(2, [])] [.v .any] [.rows 1 false xl0])) n x2
  | 0, _ => rfl
  | n + 1, x2 => (show loopN 1 (Code.den ti (impl_AreOps.Γ k) (impl_AreOps.LH k) (loopAt Tryz.f61 0)) [(8, [some 1]), (9, []), (10, [])] [(2, [])] K (n + 1) [.v (.sl 0), .v (.int .i64 x1), .v (.int .i64 x2)] [.rows 1 false xl0] = impl_AreOps.L4 k x1 xl0 (fun (z0 : Bool) => K .ret (stOf [(2, [])] [.v (.bool z0)] [.rows 1 false xl0])) (fun (_ : Unit) => K (.exit 0) (stOf [(2, [])] [.v .any] [.rows 1 false xl0])) (fun (x2' : Int) => loopN 1 (Code.den ti (impl_AreOps.Γ k) (impl_AreOps.LH k) (loopAt Tryz.f61 0)) [(8, [some 1]), (9, []), (10, [])] [(2, [])] K n [.v (.sl 0), .v (.int .i64 x1), .v (.int .i64 x2')] [.rows 1 false xl0]) x2 by kernel_rfl).trans (congrArg (fun rec => impl_AreOps.L4 k x1 xl0 (fun (z0 : Bool) => K .ret (stOf [(2, [])] [.v (.bool z0)] [.rows 1 false xl0])) (fun (_ : Unit) => K (.exit 0) (stOf [(2, [])] [.v .any] [.rows 1 false xl0])) rec x2) (funext fun x2' => impl_AreOps.e4 K k x1 xl0 n x2'))
theorem impl_AreOps.q4 (k : Nat) {R : Type} (K : Ex → St κ → Option R) (vs : List AV) (bs : List (Blk κ)) (r : R) (h : impl_AreOps.h4 k K vs bs = some r) : ∃ n, loopN 1 (Code.den ti (impl_AreOps.Γ k) (impl_AreOps.LH k) (loopAt Tryz.f61 0)) [(8, [some 1]), (9, []), (10, [])] [(2, [])] K n vs bs = some r := by
  unfold impl_AreOps.h4 at h
  split at h
  · obtain ⟨_, rfl, h_1⟩ := asO_bind h
    exact ⟨k, (impl_AreOps.e4 K k _ _ k _).trans h_1⟩
  · cases h
theorem impl_AreOps.lok (k : Nat) : LOK ti (impl_AreOps.Γ k) (impl_AreOps.LH k) 1 (loopsOf (bodyOf Tryz.f61)) :=
  (show loopsOf (bodyOf Tryz.f61) = [loopAt Tryz.f61 0] by kernel_rfl) ▸ (LOK_cons (g := ⟨1, [(8, [some 1]), (9, []), (10, [])], [(2, [])], @impl_AreOps.h4 k⟩) (by kernel_rfl) rfl (fun K vs xs r h => impl_AreOps.q4 k K vs xs r h) (LOK_nil))
def impl_AreOps.sig : List PSh := [.one (.ro 1)]
def impl_AreOps.g (y : Bool) : Ret κ := ⟨.v (.bool y), [], []⟩
def impl_AreOps.out (r : Ret κ) : Option Bool :=
  match r with
  | ⟨.v (.bool z0), [], []⟩ => some (z0)
  | _ => none
theorem impl_AreOps.out_ok (r : Ret κ) (y : Bool) (h : impl_AreOps.out r = some y) : r = impl_AreOps.g y := by
  unfold impl_AreOps.out at h
  split at h
  · obtain rfl := Option.some.inj h
    rfl
  · cases h
def impl_AreOps.body (k : Nat) (vs : List AV) (bs : List (Blk κ)) : Option (Lf κ) :=
  match vs, bs with
  | [.v (.sl 0)], [qb0] => (asO 1 false qb0).bind fun a0 => some ⟨Bool, impl_AreOps.f k a0, impl_AreOps.g⟩
  | _, _ => none
def impl_AreOps.C (k : Nat) : Nat → List AV → AP κ AV := contract impl_AreOps.sig (impl_AreOps.body k)
theorem impl_AreOps.den (k : Nat) (a0 : List T_impl_Op) : Code.den ti (impl_AreOps.Γ k) (impl_AreOps.LH k) (bodyOf Tryz.f61) (finK ti Tryz.f61.results.toList [] (flags impl_AreOps.sig).length (rwI (flags impl_AreOps.sig) 0) impl_AreOps.out) ⟨envOf (([.v (.sl 0)]).zipIdx.map fun q => (q.2, q.1)), hpOf [.rows 1 false a0], (flags impl_AreOps.sig).length⟩ = impl_AreOps.f k a0 := by kernel_rfl
theorem impl_AreOps.ok (k : Nat) : CSound Tryz.prog 61 (impl_AreOps.C k) :=
  csound κ_ok mixed tok (impl_AreOps.hΓ k) (LH := impl_AreOps.LH k) (fn := Tryz.f61) (c := bodyOf Tryz.f61) Tryz.func61 rfl Tryz.call61 impl_AreOps.sig [] (impl_AreOps.body k) (by kernel_rfl) (impl_AreOps.lok k) (by decide) fun vs bs lf y hl hb hy => by
    unfold impl_AreOps.body at hb
    split at hb
    · obtain ⟨_, rfl, hb_1⟩ := asO_bind hb
      obtain rfl := Option.some.inj hb_1
      exact ⟨impl_AreOps.out, impl_AreOps.out_ok, (impl_AreOps.den k _).trans hy⟩
    · cases hb
/-! ### impl_IsPackage -/
def impl_IsPackage.L4 {R : Type} (k : Nat) (x2 : Int) (xl0 : List T_impl_Grant) (xl1 : List T_impl_Flow) (xl2 : List T_impl_Rule) (xl3 : List T_impl_Op) (xc4_0 : Int) (xc4_1 : Int) (xc4_2 : Int) (xc4_7 : Int) (X0 : Bool → Option R) (X1 : Unit → Option R) (rec : Int → Option R) (x3 : Int) : Option R :=
  (bif decide (x3 < x2) then (bif decide (0 ≤ x3) then (bif decide (x3 < (xl0.length : Int)) then (impl_IsGrant.f k ((rd_impl_Grant xl0 x3).f0) ((rd_impl_Grant xl0 x3).f1.f0) ((rd_impl_Grant xl0 x3).f1.f1) ((rd_impl_Grant xl0 x3).f2) ((rd_impl_Grant xl0 x3).f3) ((rd_impl_Grant xl0 x3).f4) ((rd_impl_Grant xl0 x3).f5)).bind fun t4 => (bif !t4 then (X0 false) else (bif ((rd_impl_Grant xl0 x3).f0 != xc4_0) then (X0 false) else (rec (w64 (x3 + (1 : Int)))))) else none) else none) else (X1 ()))
def impl_IsPackage.l4 {R : Type} (k : Nat) (x2 : Int) (xl0 : List T_impl_Grant) (xl1 : List T_impl_Flow) (xl2 : List T_impl_Rule) (xl3 : List T_impl_Op) (xc4_0 : Int) (xc4_1 : Int) (xc4_2 : Int) (xc4_7 : Int) (X0 : Bool → Option R) (X1 : Unit → Option R) : Nat → Int → Option R
  | 0 => fun _ => none
  | n + 1 => impl_IsPackage.L4 k x2 xl0 xl1 xl2 xl3 xc4_0 xc4_1 xc4_2 xc4_7 X0 X1 (impl_IsPackage.l4 k x2 xl0 xl1 xl2 xl3 xc4_0 xc4_1 xc4_2 xc4_7 X0 X1 n)
def impl_IsPackage.L10 {R : Type} (k : Nat) (x2 : Int) (xl0 : List T_impl_Grant) (xl1 : List T_impl_Flow) (xl2 : List T_impl_Rule) (xl3 : List T_impl_Op) (xc4_0 : Int) (xc4_1 : Int) (xc4_2 : Int) (xc4_7 : Int) (X0 : Bool → Option R) (X1 : Unit → Option R) (rec : Int → Option R) (x3 : Int) : Option R :=
  (bif decide (x3 < x2) then (bif decide (0 ≤ x3) then (bif decide (x3 < (xl1.length : Int)) then (impl_IsFlow.f k ((rd_impl_Flow xl1 x3).f0) ((rd_impl_Flow xl1 x3).f1) ((rd_impl_Flow xl1 x3).f2)).bind fun t6 => (bif !t6 then (X0 false) else (bif ((rd_impl_Flow xl1 x3).f0 != xc4_0) then (X0 false) else (rec (w64 (x3 + (1 : Int)))))) else none) else none) else (X1 ()))
def impl_IsPackage.l10 {R : Type} (k : Nat) (x2 : Int) (xl0 : List T_impl_Grant) (xl1 : List T_impl_Flow) (xl2 : List T_impl_Rule) (xl3 : List T_impl_Op) (xc4_0 : Int) (xc4_1 : Int) (xc4_2 : Int) (xc4_7 : Int) (X0 : Bool → Option R) (X1 : Unit → Option R) : Nat → Int → Option R
  | 0 => fun _ => none
  | n + 1 => impl_IsPackage.L10 k x2 xl0 xl1 xl2 xl3 xc4_0 xc4_1 xc4_2 xc4_7 X0 X1 (impl_IsPackage.l10 k x2 xl0 xl1 xl2 xl3 xc4_0 xc4_1 xc4_2 xc4_7 X0 X1 n)
def impl_IsPackage.L16 {R : Type} (k : Nat) (x2 : Int) (xl0 : List T_impl_Grant) (xl1 : List T_impl_Flow) (xl2 : List T_impl_Rule) (xl3 : List T_impl_Op) (xc4_0 : Int) (xc4_1 : Int) (xc4_2 : Int) (xc4_7 : Int) (X0 : Bool → Option R) (X1 : Unit → Option R) (rec : Int → Option R) (x3 : Int) : Option R :=
  (bif decide (x3 < x2) then (bif decide (0 ≤ x3) then (bif decide (x3 < (xl2.length : Int)) then (impl_IsRule.f k ((rd_impl_Rule xl2 x3).f0) ((rd_impl_Rule xl2 x3).f1) ((rd_impl_Rule xl2 x3).f2.f0) ((rd_impl_Rule xl2 x3).f2.f1) ((rd_impl_Rule xl2 x3).f3) ((rd_impl_Rule xl2 x3).f4) ((rd_impl_Rule xl2 x3).f5.f0) ((rd_impl_Rule xl2 x3).f5.f1)).bind fun t8 => (bif !t8 then (X0 false) else (bif ((rd_impl_Rule xl2 x3).f0 != xc4_0) then (X0 false) else (rec (w64 (x3 + (1 : Int)))))) else none) else none) else (X1 ()))
def impl_IsPackage.l16 {R : Type} (k : Nat) (x2 : Int) (xl0 : List T_impl_Grant) (xl1 : List T_impl_Flow) (xl2 : List T_impl_Rule) (xl3 : List T_impl_Op) (xc4_0 : Int) (xc4_1 : Int) (xc4_2 : Int) (xc4_7 : Int) (X0 : Bool → Option R) (X1 : Unit → Option R) : Nat → Int → Option R
  | 0 => fun _ => none
  | n + 1 => impl_IsPackage.L16 k x2 xl0 xl1 xl2 xl3 xc4_0 xc4_1 xc4_2 xc4_7 X0 X1 (impl_IsPackage.l16 k x2 xl0 xl1 xl2 xl3 xc4_0 xc4_1 xc4_2 xc4_7 X0 X1 n)
def impl_IsPackage.f (k : Nat) (a0_0 : Int) (a0_1 : Int) (a0_2 : Int) (a0_3 : List T_impl_Grant) (a0_4 : List T_impl_Flow) (a0_5 : List T_impl_Rule) (a0_6 : List T_impl_Op) (a0_7 : Int) : Option Bool :=
  (impl_InRange.f k a0_0 (1 : Int) (5 : Int)).bind fun t1 => (bif !t1 then some false else (impl_InRange.f k a0_1 (1 : Int) (9 : Int)).bind fun t2 => (bif !t2 then some false else (impl_InRange.f k a0_2 (1 : Int) (999 : Int)).bind fun t3 => (bif !t3 then some false else (bif decide ((a0_3.length : Int) > (6 : Int)) then some false else (bif decide ((a0_4.length : Int) > (6 : Int)) then some false else (bif decide ((a0_5.length : Int) > (6 : Int)) then some false else (impl_IsPackage.l4 k (a0_3.length : Int) a0_3 a0_4 a0_5 a0_6 a0_0 a0_1 a0_2 a0_7 (fun (y5 : Bool) => some y5) (fun (_ : Unit) => (impl_IsPackage.l10 k (a0_4.length : Int) a0_3 a0_4 a0_5 a0_6 a0_0 a0_1 a0_2 a0_7 (fun (y7 : Bool) => some y7) (fun (_ : Unit) => (impl_IsPackage.l16 k (a0_5.length : Int) a0_3 a0_4 a0_5 a0_6 a0_0 a0_1 a0_2 a0_7 (fun (y9 : Bool) => some y9) (fun (_ : Unit) => (impl_AreOps.f k a0_6).bind fun t10 => some t10) k (0 : Int))) k (0 : Int))) k (0 : Int))))))))
def impl_IsPackage.h4 (k : Nat) {R : Type} (K : Ex → St κ → Option R) (vs : List AV) (bs : List (Blk κ)) : Option R :=
  match vs, bs with
  | [.v (.ptr 4 0 0), .v (.sl 0), .v (.int .i64 x2), .v (.int .i64 x3)], [qb0, qb1, qb2, qb3, .cells 30 [.int .i64 xc4_0, .int .i64 xc4_1, .int .i64 xc4_2, .sl 0, .sl 1, .sl 2, .sl 3, .int .i64 xc4_7]] => (asO 2 false qb0).bind fun xl0 => (asO 3 false qb1).bind fun xl1 => (asO 4 false qb2).bind fun xl2 => (asO 1 false qb3).bind fun xl3 => impl_IsPackage.l4 k x2 xl0 xl1 xl2 xl3 xc4_0 xc4_1 xc4_2 xc4_7 (fun (z1 : Bool) => K .ret (stOf [(1, [none, none, none, some 2, some 3, some 4, some 1, none]), (2, [])] [.v (.ptr 4 0 0), .v (.bool z1)] [.rows 2 false xl0, .rows 3 false xl1, .rows 4 false xl2, .rows 1 false xl3, .cells 30 [.int .i64 xc4_0, .int .i64 xc4_1, .int .i64 xc4_2, .sl 0, .sl 1, .sl 2, .sl 3, .int .i64 xc4_7]])) (fun (_ : Unit) => K (.exit 0) (stOf [(1, [none, none, none, some 2, some 3, some 4, some 1, none]), (2, [])] [.v (.ptr 4 0 0), .v .any] [.rows 2 false xl0, .rows 3 false xl1, .rows 4 false xl2, .rows 1 false xl3, .cells 30 [.int .i64 xc4_0, .int .i64 xc4_1, .int .i64 xc4_2, .sl 0, .sl 1, .sl 2, .sl 3, .int .i64 xc4_7]])) k x3
  | _, _ => none
def impl_IsPackage.h10 (k : Nat) {R : Type} (K : Ex → St κ → Option R) (vs : List AV) (bs : List (Blk κ)) : Option R :=
  match vs, bs with
  | [.v (.ptr 4 0 0), .v (.sl 1), .v (.int .i64 x2), .v (.int .i64 x3)], [qb0, qb1, qb2, qb3, .cells 30 [.int .i64 xc4_0, .int .i64 xc4_1, .int .i64 xc4_2, .sl 0, .sl 1, .sl 2, .sl 3, .int .i64 xc4_7]] => (asO 2 false qb0).bind fun xl0 => (asO 3 false qb1).bind fun xl1 => (asO 4 false qb2).bind fun xl2 => (asO 1 false qb3).bind fun xl3 => impl_IsPackage.l10 k x2 xl0 xl1 xl2 xl3 xc4_0 xc4_1 xc4_2 xc4_7 (fun (z1 : Bool) => K .ret (stOf [(1, [none, none, none, some 2, some 3, some 4, some 1, none]), (2, [])] [.v (.ptr 4 0 0), .v (.bool z1)] [.rows 2 false xl0, .rows 3 false xl1, .rows 4 false xl2, .rows 1 false xl3, .cells 30 [.int .i64 xc4_0, .int .i64 xc4_1, .int .i64 xc4_2, .sl 0, .sl 1, .sl 2, .sl 3, .int .i64 xc4_7]])) (fun (_ : Unit) => K (.exit 2) (stOf [(1, [none, none, none, some 2, some 3, some 4, some 1, none]), (2, [])] [.v (.ptr 4 0 0), .v .any] [.rows 2 false xl0, .rows 3 false xl1, .rows 4 false xl2, .rows 1 false xl3, .cells 30 [.int .i64 xc4_0, .int .i64 xc4_1, .int .i64 xc4_2, .sl 0, .sl 1, .sl 2, .sl 3, .int .i64 xc4_7]])) k x3
  | _, _ => none
def impl_IsPackage.h16 (k : Nat) {R : Type} (K : Ex → St κ → Option R) (vs : List AV) (bs : List (Blk κ)) : Option R :=
  match vs, bs with
  | [.v (.ptr 4 0 0), .v (.sl 2), .v (.int .i64 x2), .v (.int .i64 x3)], [qb0, qb1, qb2, qb3, .cells 30 [.int .i64 xc4_0, .int .i64 xc4_1, .int .i64 xc4_2, .sl 0, .sl 1, .sl 2, .sl 3, .int .i64 xc4_7]] => (asO 2 false qb0).bind fun xl0 => (asO 3 false qb1).bind fun xl1 => (asO 4 false qb2).bind fun xl2 => (asO 1 false qb3).bind fun xl3 => impl_IsPackage.l16 k x2 xl0 xl1 xl2 xl3 xc4_0 xc4_1 xc4_2 xc4_7 (fun (z1 : Bool) => K .ret (stOf [(1, [none, none, none, some 2, some 3, some 4, some 1, none]), (2, [])] [.v (.ptr 4 0 0), .v (.bool z1)] [.rows 2 false xl0, .rows 3 false xl1, .rows 4 false xl2, .rows 1 false xl3, .cells 30 [.int .i64 xc4_0, .int .i64 xc4_1, .int .i64 xc4_2, .sl 0, .sl 1, .sl 2, .sl 3, .int .i64 xc4_7]])) (fun (_ : Unit) => K (.exit 4) (stOf [(1, [none, none, none, some 2, some 3, some 4, some 1, none]), (2, [])] [.v (.ptr 4 0 0), .v .any] [.rows 2 false xl0, .rows 3 false xl1, .rows 4 false xl2, .rows 1 false xl3, .cells 30 [.int .i64 xc4_0, .int .i64 xc4_1, .int .i64 xc4_2, .sl 0, .sl 1, .sl 2, .sl 3, .int .i64 xc4_7]])) k x3
  | _, _ => none
def impl_IsPackage.Γ (k : Nat) : Ct κ := assoc [(27, impl_InRange.C k), (58, impl_IsGrant.C k), (59, impl_IsFlow.C k), (60, impl_IsRule.C k), (61, impl_AreOps.C k)]
def impl_IsPackage.LH (k : Nat) : Nat → Option (LHi κ) := assoc [(4, ⟨4, [(1, [none, none, none, some 2, some 3, some 4, some 1, none]), (44, [some 2]), (45, []), (46, [])], [(1, [none, none, none, some 2, some 3, some 4, some 1, none]), (2, [])], @impl_IsPackage.h4 k⟩), (10, ⟨4, [(1, [none, none, none, some 2, some 3, some 4, some 1, none]), (62, [some 3]), (63, []), (64, [])], [(1, [none, none, none, some 2, some 3, some 4, some 1, none]), (2, [])], @impl_IsPackage.h10 k⟩), (16, ⟨4, [(1, [none, none, none, some 2, some 3, some 4, some 1, none]), (80, [some 4]), (81, []), (82, [])], [(1, [none, none, none, some 2, some 3, some 4, some 1, none]), (2, [])], @impl_IsPackage.h16 k⟩)]
theorem impl_IsPackage.hΓ (k : Nat) : ∀ f g, impl_IsPackage.Γ k f = some g → CSound Tryz.prog f g := G_cons (impl_InRange.ok k) (G_cons (impl_IsGrant.ok k) (G_cons (impl_IsFlow.ok k) (G_cons (impl_IsRule.ok k) (G_cons (impl_AreOps.ok k) G_nil))))
theorem impl_IsPackage.e4 {R : Type} (K : Ex → St κ → Option R) (k : Nat) (x2 : Int) (xl0 : List T_impl_Grant) (xl1 : List T_impl_Flow) (xl2 : List T_impl_Rule) (xl3 : List T_impl_Op) (xc4_0 : Int) (xc4_1 : Int) (xc4_2 : Int) (xc4_7 : Int) : ∀ (n : Nat) (x3 : Int), loopN 4 (Code.den ti (impl_IsPackage.Γ k) (impl_IsPackage.LH k) (loopAt Tryz.f31 0)) [(1, [none, none, none, some 2, some 3, some 4, some 1, none]), (44, [some 2]), (45, []), (46, [])] [(1, [none, none, none, some 2, some 3, some 4, some 1, none]), (2, [])] K n [.v (.ptr 4 0 0), .v (.sl 0), .v (.int .i64 x2), .v (.int .i64 x3)] [.rows 2 false xl0, .rows 3 false xl1, .rows 4 false xl2, .rows 1 false xl3, .cells 30 [.int .i64 xc4_0, .int .i64 xc4_1, .int .i64 xc4_2, .sl 0, .sl 1, .sl 2, .sl 3, .int .i64 xc4_7]] = impl_IsPackage.l4 k x2 xl0 xl1 xl2 xl3 xc4_0 xc4_1 xc4_2 xc4_7 (fun (z1 : Bool) => K .ret (stOf [(1, [none, none, none, some 2, some 3, some 4, some 1, none]), (2, [])] [.v (.ptr 4 0 0), .v (.bool z1)] [.rows 2 false xl0, .rows 3 false xl1, .rows 4 false xl2, .rows 1 false xl3, .cells 30 [.int .i64 xc4_0, .int .i64 xc4_1, .int .i64 xc4_2, .sl 0, .sl 1, .sl 2, .sl 3, .int .i64 xc4_7]])) (fun (_ : Unit) => K (.exit 0) (stOf [(1, [none, none, none, some 2, some 3, some 4, some 1, none]), (2, [])] [.v (.ptr 4 0 0), .v .any] [.rows 2 false xl0, .rows 3 false xl1, .rows 4 false xl2, .rows 1 false xl3, .cells 30 [.int .i64 xc4_0, .int .i64 xc4_1, .int .i64 xc4_2, .sl 0, .sl 1, .sl 2, .sl 3, .int .i64 xc4_7]])) n x3
  | 0, _ => rfl
  | n + 1, x3 => (show loopN 4 (Code.den ti (impl_IsPackage.Γ k) (impl_IsPackage.LH k) (loopAt Tryz.f31 0)) [(1, [none, none, none, some 2, some 3, some 4, some 1, none]), (44, [some 2]), (45, []), (46, [])] [(1, [none, none, none, some 2, some 3, some 4, some 1, none]), (2, [])] K (n + 1) [.v (.ptr 4 0 0), .v (.sl 0), .v (.int .i64 x2), .v (.int .i64 x3)] [.rows 2 false xl0, .rows 3 false xl1, .rows 4 false xl2, .rows 1 false xl3, .cells 30 [.int .i64 xc4_0, .int .i64 xc4_1, .int .i64 xc4_2, .sl 0, .sl 1, .sl 2, .sl 3, .int .i64 xc4_7]] = impl_IsPackage.L4 k x2 xl0 xl1 xl2 xl3 xc4_0 xc4_1 xc4_2 xc4_7 (fun (z1 : Bool) => K .ret (stOf [(1, [none, none, none, some 2, some 3, some 4, some 1, none]), (2, [])] [.v (.ptr 4 0 0), .v (.bool z1)] [.rows 2 false xl0, .rows 3 false xl1, .rows 4 false xl2, .rows 1 false xl3, .cells 30 [.int .i64 xc4_0, .int .i64 xc4_1, .int .i64 xc4_2, .sl 0, .sl 1, .sl 2, .sl 3, .int .i64 xc4_7]])) (fun (_ : Unit) => K (.exit 0) (stOf [(1, [none, none, none, some 2, some 3, some 4, some 1, none]), (2, [])] [.v (.ptr 4 0 0), .v .any] [.rows 2 false xl0, .rows 3 false xl1, .rows 4 false xl2, .rows 1 false xl3, .cells 30 [.int .i64 xc4_0, .int .i64 xc4_1, .int .i64 xc4_2, .sl 0, .sl 1, .sl 2, .sl 3, .int .i64 xc4_7]])) (fun (x3' : Int) => loopN 4 (Code.den ti (impl_IsPackage.Γ k) (impl_IsPackage.LH k) (loopAt Tryz.f31 0)) [(1, [none, none, none, some 2, some 3, some 4, some 1, none]), (44, [some 2]), (45, []), (46, [])] [(1, [none, none, none, some 2, some 3, some 4, some 1, none]), (2, [])] K n [.v (.ptr 4 0 0), .v (.sl 0), .v (.int .i64 x2), .v (.int .i64 x3')] [.rows 2 false xl0, .rows 3 false xl1, .rows 4 false xl2, .rows 1 false xl3, .cells 30 [.int .i64 xc4_0, .int .i64 xc4_1, .int .i64 xc4_2, .sl 0, .sl 1, .sl 2, .sl 3, .int .i64 xc4_7]]) x3 by kernel_rfl).trans (congrArg (fun rec => impl_IsPackage.L4 k x2 xl0 xl1 xl2 xl3 xc4_0 xc4_1 xc4_2 xc4_7 (fun (z1 : Bool) => K .ret (stOf [(1, [none, none, none, some 2, some 3, some 4, some 1, none]), (2, [])] [.v (.ptr 4 0 0), .v (.bool z1)] [.rows 2 false xl0, .rows 3 false xl1, .rows 4 false xl2, .rows 1 false xl3, .cells 30 [.int .i64 xc4_0, .int .i64 xc4_1, .int .i64 xc4_2, .sl 0, .sl 1, .sl 2, .sl 3, .int .i64 xc4_7]])) (fun (_ : Unit) => K (.exit 0) (stOf [(1, [none, none, none, some 2, some 3, some 4, some 1, none]), (2, [])] [.v (.ptr 4 0 0), .v .any] [.rows 2 false xl0, .rows 3 false xl1, .rows 4 false xl2, .rows 1 false xl3, .cells 30 [.int .i64 xc4_0, .int .i64 xc4_1, .int .i64 xc4_2, .sl 0, .sl 1, .sl 2, .sl 3, .int .i64 xc4_7]])) rec x3) (funext fun x3' => impl_IsPackage.e4 K k x2 xl0 xl1 xl2 xl3 xc4_0 xc4_1 xc4_2 xc4_7 n x3'))
theorem impl_IsPackage.q4 (k : Nat) {R : Type} (K : Ex → St κ → Option R) (vs : List AV) (bs : List (Blk κ)) (r : R) (h : impl_IsPackage.h4 k K vs bs = some r) : ∃ n, loopN 4 (Code.den ti (impl_IsPackage.Γ k) (impl_IsPackage.LH k) (loopAt Tryz.f31 0)) [(1, [none, none, none, some 2, some 3, some 4, some 1, none]), (44, [some 2]), (45, []), (46, [])] [(1, [none, none, none, some 2, some 3, some 4, some 1, none]), (2, [])] K n vs bs = some r := by
  unfold impl_IsPackage.h4 at h
  split at h
  · obtain ⟨_, rfl, h_1⟩ := asO_bind h
    obtain ⟨_, rfl, h_2⟩ := asO_bind h_1
    obtain ⟨_, rfl, h_3⟩ := asO_bind h_2
    obtain ⟨_, rfl, h_4⟩ := asO_bind h_3
    exact ⟨k, (impl_IsPackage.e4 K k _ _ _ _ _ _ _ _ _ k _).trans h_4⟩
  · cases h
theorem impl_IsPackage.e10 {R : Type} (K : Ex → St κ → Option R) (k : Nat) (x2 : Int) (xl0 : List T_impl_Grant) (xl1 : List T_impl_Flow) (xl2 : List T_impl_Rule) (xl3 : List T_impl_Op) (xc4_0 : Int) (xc4_1 : Int) (xc4_2 : Int) (xc4_7 : Int) : ∀ (n : Nat) (x3 : Int), loopN 4 (Code.den ti (impl_IsPackage.Γ k) (impl_IsPackage.LH k) (loopAt Tryz.f31 1)) [(1, [none, none, none, some 2, some 3, some 4, some 1, none]), (62, [some 3]), (63, []), (64, [])] [(1, [none, none, none, some 2, some 3, some 4, some 1, none]), (2, [])] K n [.v (.ptr 4 0 0), .v (.sl 1), .v (.int .i64 x2), .v (.int .i64 x3)] [.rows 2 false xl0, .rows 3 false xl1, .rows 4 false xl2, .rows 1 false xl3, .cells 30 [.int .i64 xc4_0, .int .i64 xc4_1, .int .i64 xc4_2, .sl 0, .sl 1, .sl 2, .sl 3, .int .i64 xc4_7]] = impl_IsPackage.l10 k x2 xl0 xl1 xl2 xl3 xc4_0 xc4_1 xc4_2 xc4_7 (fun (z1 : Bool) => K .ret (stOf [(1, [none, none, none, some 2, some 3, some 4, some 1, none]), (2, [])] [.v (.ptr 4 0 0), .v (.bool z1)] [.rows 2 false xl0, .rows 3 false xl1, .rows 4 false xl2, .rows 1 false xl3, .cells 30 [.int .i64 xc4_0, .int .i64 xc4_1, .int .i64 xc4_2, .sl 0, .sl 1, .sl 2, .sl 3, .int .i64 xc4_7]])) (fun (_ : Unit) => K (.exit 2) (stOf [(1, [none, none, none, some 2, some 3, some 4, some 1, none]), (2, [])] [.v (.ptr 4 0 0), .v .any] [.rows 2 false xl0, .rows 3 false xl1, .rows 4 false xl2, .rows 1 false xl3, .cells 30 [.int .i64 xc4_0, .int .i64 xc4_1, .int .i64 xc4_2, .sl 0, .sl 1, .sl 2, .sl 3, .int .i64 xc4_7]])) n x3
  | 0, _ => rfl
  | n + 1, x3 => (show loopN 4 (Code.den ti (impl_IsPackage.Γ k) (impl_IsPackage.LH k) (loopAt Tryz.f31 1)) [(1, [none, none, none, some 2, some 3, some 4, some 1, none]), (62, [some 3]), (63, []), (64, [])] [(1, [none, none, none, some 2, some 3, some 4, some 1, none]), (2, [])] K (n + 1) [.v (.ptr 4 0 0), .v (.sl 1), .v (.int .i64 x2), .v (.int .i64 x3)] [.rows 2 false xl0, .rows 3 false xl1, .rows 4 false xl2, .rows 1 false xl3, .cells 30 [.int .i64 xc4_0, .int .i64 xc4_1, .int .i64 xc4_2, .sl 0, .sl 1, .sl 2, .sl 3, .int .i64 xc4_7]] = impl_IsPackage.L10 k x2 xl0 xl1 xl2 xl3 xc4_0 xc4_1 xc4_2 xc4_7 (fun (z1 : Bool) => K .ret (stOf [(1, [none, none, none, some 2, some 3, some 4, some 1, none]), (2, [])] [.v (.ptr 4 0 0), .v (.bool z1)] [.rows 2 false xl0, .rows 3 false xl1, .rows 4 false xl2, .rows 1 false xl3, .cells 30 [.int .i64 xc4_0, .int .i64 xc4_1, .int .i64 xc4_2, .sl 0, .sl 1, .sl 2, .sl 3, .int .i64 xc4_7]])) (fun (_ : Unit) => K (.exit 2) (stOf [(1, [none, none, none, some 2, some 3, some 4, some 1, none]), (2, [])] [.v (.ptr 4 0 0), .v .any] [.rows 2 false xl0, .rows 3 false xl1, .rows 4 false xl2, .rows 1 false xl3, .cells 30 [.int .i64 xc4_0, .int .i64 xc4_1, .int .i64 xc4_2, .sl 0, .sl 1, .sl 2, .sl 3, .int .i64 xc4_7]])) (fun (x3' : Int) => loopN 4 (Code.den ti (impl_IsPackage.Γ k) (impl_IsPackage.LH k) (loopAt Tryz.f31 1)) [(1, [none, none, none, some 2, some 3, some 4, some 1, none]), (62, [some 3]), (63, []), (64, [])] [(1, [none, none, none, some 2, some 3, some 4, some 1, none]), (2, [])] K n [.v (.ptr 4 0 0), .v (.sl 1), .v (.int .i64 x2), .v (.int .i64 x3')] [.rows 2 false xl0, .rows 3 false xl1, .rows 4 false xl2, .rows 1 false xl3, .cells 30 [.int .i64 xc4_0, .int .i64 xc4_1, .int .i64 xc4_2, .sl 0, .sl 1, .sl 2, .sl 3, .int .i64 xc4_7]]) x3 by kernel_rfl).trans (congrArg (fun rec => impl_IsPackage.L10 k x2 xl0 xl1 xl2 xl3 xc4_0 xc4_1 xc4_2 xc4_7 (fun (z1 : Bool) => K .ret (stOf [(1, [none, none, none, some 2, some 3, some 4, some 1, none]), (2, [])] [.v (.ptr 4 0 0), .v (.bool z1)] [.rows 2 false xl0, .rows 3 false xl1, .rows 4 false xl2, .rows 1 false xl3, .cells 30 [.int .i64 xc4_0, .int .i64 xc4_1, .int .i64 xc4_2, .sl 0, .sl 1, .sl 2, .sl 3, .int .i64 xc4_7]])) (fun (_ : Unit) => K (.exit 2) (stOf [(1, [none, none, none, some 2, some 3, some 4, some 1, none]), (2, [])] [.v (.ptr 4 0 0), .v .any] [.rows 2 false xl0, .rows 3 false xl1, .rows 4 false xl2, .rows 1 false xl3, .cells 30 [.int .i64 xc4_0, .int .i64 xc4_1, .int .i64 xc4_2, .sl 0, .sl 1, .sl 2, .sl 3, .int .i64 xc4_7]])) rec x3) (funext fun x3' => impl_IsPackage.e10 K k x2 xl0 xl1 xl2 xl3 xc4_0 xc4_1 xc4_2 xc4_7 n x3'))
theorem impl_IsPackage.q10 (k : Nat) {R : Type} (K : Ex → St κ → Option R) (vs : List AV) (bs : List (Blk κ)) (r : R) (h : impl_IsPackage.h10 k K vs bs = some r) : ∃ n, loopN 4 (Code.den ti (impl_IsPackage.Γ k) (impl_IsPackage.LH k) (loopAt Tryz.f31 1)) [(1, [none, none, none, some 2, some 3, some 4, some 1, none]), (62, [some 3]), (63, []), (64, [])] [(1, [none, none, none, some 2, some 3, some 4, some 1, none]), (2, [])] K n vs bs = some r := by
  unfold impl_IsPackage.h10 at h
  split at h
  · obtain ⟨_, rfl, h_1⟩ := asO_bind h
    obtain ⟨_, rfl, h_2⟩ := asO_bind h_1
    obtain ⟨_, rfl, h_3⟩ := asO_bind h_2
    obtain ⟨_, rfl, h_4⟩ := asO_bind h_3
    exact ⟨k, (impl_IsPackage.e10 K k _ _ _ _ _ _ _ _ _ k _).trans h_4⟩
  · cases h
theorem impl_IsPackage.e16 {R : Type} (K : Ex → St κ → Option R) (k : Nat) (x2 : Int) (xl0 : List T_impl_Grant) (xl1 : List T_impl_Flow) (xl2 : List T_impl_Rule) (xl3 : List T_impl_Op) (xc4_0 : Int) (xc4_1 : Int) (xc4_2 : Int) (xc4_7 : Int) : ∀ (n : Nat) (x3 : Int), loopN 4 (Code.den ti (impl_IsPackage.Γ k) (impl_IsPackage.LH k) (loopAt Tryz.f31 2)) [(1, [none, none, none, some 2, some 3, some 4, some 1, none]), (80, [some 4]), (81, []), (82, [])] [(1, [none, none, none, some 2, some 3, some 4, some 1, none]), (2, [])] K n [.v (.ptr 4 0 0), .v (.sl 2), .v (.int .i64 x2), .v (.int .i64 x3)] [.rows 2 false xl0, .rows 3 false xl1, .rows 4 false xl2, .rows 1 false xl3, .cells 30 [.int .i64 xc4_0, .int .i64 xc4_1, .int .i64 xc4_2, .sl 0, .sl 1, .sl 2, .sl 3, .int .i64 xc4_7]] = impl_IsPackage.l16 k x2 xl0 xl1 xl2 xl3 xc4_0 xc4_1 xc4_2 xc4_7 (fun (z1 : Bool) => K .ret (stOf [(1, [none, none, none, some 2, some 3, some 4, some 1, none]), (2, [])] [.v (.ptr 4 0 0), .v (.bool z1)] [.rows 2 false xl0, .rows 3 false xl1, .rows 4 false xl2, .rows 1 false xl3, .cells 30 [.int .i64 xc4_0, .int .i64 xc4_1, .int .i64 xc4_2, .sl 0, .sl 1, .sl 2, .sl 3, .int .i64 xc4_7]])) (fun (_ : Unit) => K (.exit 4) (stOf [(1, [none, none, none, some 2, some 3, some 4, some 1, none]), (2, [])] [.v (.ptr 4 0 0), .v .any] [.rows 2 false xl0, .rows 3 false xl1, .rows 4 false xl2, .rows 1 false xl3, .cells 30 [.int .i64 xc4_0, .int .i64 xc4_1, .int .i64 xc4_2, .sl 0, .sl 1, .sl 2, .sl 3, .int .i64 xc4_7]])) n x3
  | 0, _ => rfl
  | n + 1, x3 => (show loopN 4 (Code.den ti (impl_IsPackage.Γ k) (impl_IsPackage.LH k) (loopAt Tryz.f31 2)) [(1, [none, none, none, some 2, some 3, some 4, some 1, none]), (80, [some 4]), (81, []), (82, [])] [(1, [none, none, none, some 2, some 3, some 4, some 1, none]), (2, [])] K (n + 1) [.v (.ptr 4 0 0), .v (.sl 2), .v (.int .i64 x2), .v (.int .i64 x3)] [.rows 2 false xl0, .rows 3 false xl1, .rows 4 false xl2, .rows 1 false xl3, .cells 30 [.int .i64 xc4_0, .int .i64 xc4_1, .int .i64 xc4_2, .sl 0, .sl 1, .sl 2, .sl 3, .int .i64 xc4_7]] = impl_IsPackage.L16 k x2 xl0 xl1 xl2 xl3 xc4_0 xc4_1 xc4_2 xc4_7 (fun (z1 : Bool) => K .ret (stOf [(1, [none, none, none, some 2, some 3, some 4, some 1, none]), (2, [])] [.v (.ptr 4 0 0), .v (.bool z1)] [.rows 2 false xl0, .rows 3 false xl1, .rows 4 false xl2, .rows 1 false xl3, .cells 30 [.int .i64 xc4_0, .int .i64 xc4_1, .int .i64 xc4_2, .sl 0, .sl 1, .sl 2, .sl 3, .int .i64 xc4_7]])) (fun (_ : Unit) => K (.exit 4) (stOf [(1, [none, none, none, some 2, some 3, some 4, some 1, none]), (2, [])] [.v (.ptr 4 0 0), .v .any] [.rows 2 false xl0, .rows 3 false xl1, .rows 4 false xl2, .rows 1 false xl3, .cells 30 [.int .i64 xc4_0, .int .i64 xc4_1, .int .i64 xc4_2, .sl 0, .sl 1, .sl 2, .sl 3, .int .i64 xc4_7]])) (fun (x3' : Int) => loopN 4 (Code.den ti (impl_IsPackage.Γ k) (impl_IsPackage.LH k) (loopAt Tryz.f31 2)) [(1, [none, none, none, some 2, some 3, some 4, some 1, none]), (80, [some 4]), (81, []), (82, [])] [(1, [none, none, none, some 2, some 3, some 4, some 1, none]), (2, [])] K n [.v (.ptr 4 0 0), .v (.sl 2), .v (.int .i64 x2), .v (.int .i64 x3')] [.rows 2 false xl0, .rows 3 false xl1, .rows 4 false xl2, .rows 1 false xl3, .cells 30 [.int .i64 xc4_0, .int .i64 xc4_1, .int .i64 xc4_2, .sl 0, .sl 1, .sl 2, .sl 3, .int .i64 xc4_7]]) x3 by kernel_rfl).trans (congrArg (fun rec => impl_IsPackage.L16 k x2 xl0 xl1 xl2 xl3 xc4_0 xc4_1 xc4_2 xc4_7 (fun (z1 : Bool) => K .ret (stOf [(1, [none, none, none, some 2, some 3, some 4, some 1, none]), (2, [])] [.v (.ptr 4 0 0), .v (.bool z1)] [.rows 2 false xl0, .rows 3 false xl1, .rows 4 false xl2, .rows 1 false xl3, .cells 30 [.int .i64 xc4_0, .int .i64 xc4_1, .int .i64 xc4_2, .sl 0, .sl 1, .sl 2, .sl 3, .int .i64 xc4_7]])) (fun (_ : Unit) => K (.exit 4) (stOf [(1, [none, none, none, some 2, some 3, some 4, some 1, none]), (2, [])] [.v (.ptr 4 0 0), .v .any] [.rows 2 false xl0, .rows 3 false xl1, .rows 4 false xl2, .rows 1 false xl3, .cells 30 [.int .i64 xc4_0, .int .i64 xc4_1, .int .i64 xc4_2, .sl 0, .sl 1, .sl 2, .sl 3, .int .i64 xc4_7]])) rec x3) (funext fun x3' => impl_IsPackage.e16 K k x2 xl0 xl1 xl2 xl3 xc4_0 xc4_1 xc4_2 xc4_7 n x3'))
theorem impl_IsPackage.q16 (k : Nat) {R : Type} (K : Ex → St κ → Option R) (vs : List AV) (bs : List (Blk κ)) (r : R) (h : impl_IsPackage.h16 k K vs bs = some r) : ∃ n, loopN 4 (Code.den ti (impl_IsPackage.Γ k) (impl_IsPackage.LH k) (loopAt Tryz.f31 2)) [(1, [none, none, none, some 2, some 3, some 4, some 1, none]), (80, [some 4]), (81, []), (82, [])] [(1, [none, none, none, some 2, some 3, some 4, some 1, none]), (2, [])] K n vs bs = some r := by
  unfold impl_IsPackage.h16 at h
  split at h
  · obtain ⟨_, rfl, h_1⟩ := asO_bind h
    obtain ⟨_, rfl, h_2⟩ := asO_bind h_1
    obtain ⟨_, rfl, h_3⟩ := asO_bind h_2
    obtain ⟨_, rfl, h_4⟩ := asO_bind h_3
    exact ⟨k, (impl_IsPackage.e16 K k _ _ _ _ _ _ _ _ _ k _).trans h_4⟩
  · cases h
theorem impl_IsPackage.lok (k : Nat) : LOK ti (impl_IsPackage.Γ k) (impl_IsPackage.LH k) 4 (loopsOf (bodyOf Tryz.f31)) :=
  (show loopsOf (bodyOf Tryz.f31) = [loopAt Tryz.f31 0, loopAt Tryz.f31 1, loopAt Tryz.f31 2] by kernel_rfl) ▸ (LOK_cons (g := ⟨4, [(1, [none, none, none, some 2, some 3, some 4, some 1, none]), (44, [some 2]), (45, []), (46, [])], [(1, [none, none, none, some 2, some 3, some 4, some 1, none]), (2, [])], @impl_IsPackage.h4 k⟩) (by kernel_rfl) rfl (fun K vs xs r h => impl_IsPackage.q4 k K vs xs r h) (LOK_cons (g := ⟨4, [(1, [none, none, none, some 2, some 3, some 4, some 1, none]), (62, [some 3]), (63, []), (64, [])], [(1, [none, none, none, some 2, some 3, some 4, some 1, none]), (2, [])], @impl_IsPackage.h10 k⟩) (by kernel_rfl) rfl (fun K vs xs r h => impl_IsPackage.q10 k K vs xs r h) (LOK_cons (g := ⟨4, [(1, [none, none, none, some 2, some 3, some 4, some 1, none]), (80, [some 4]), (81, []), (82, [])], [(1, [none, none, none, some 2, some 3, some 4, some 1, none]), (2, [])], @impl_IsPackage.h16 k⟩) (by kernel_rfl) rfl (fun K vs xs r h => impl_IsPackage.q16 k K vs xs r h) (LOK_nil))))
def impl_IsPackage.sig : List PSh := [.agg [.sc, .sc, .sc, .ro 2, .ro 3, .ro 4, .ro 1, .sc]]
def impl_IsPackage.g (y : Bool) : Ret κ := ⟨.v (.bool y), [], []⟩
def impl_IsPackage.out (r : Ret κ) : Option Bool :=
  match r with
  | ⟨.v (.bool z0), [], []⟩ => some (z0)
  | _ => none
theorem impl_IsPackage.out_ok (r : Ret κ) (y : Bool) (h : impl_IsPackage.out r = some y) : r = impl_IsPackage.g y := by
  unfold impl_IsPackage.out at h
  split at h
  · obtain rfl := Option.some.inj h
    rfl
  · cases h
def impl_IsPackage.body (k : Nat) (vs : List AV) (bs : List (Blk κ)) : Option (Lf κ) :=
  match vs, bs with
  | [.agg [.int .i64 a0_0, .int .i64 a0_1, .int .i64 a0_2, .sl 0, .sl 1, .sl 2, .sl 3, .int .i64 a0_7]], [qb0, qb1, qb2, qb3] => (asO 2 false qb0).bind fun a0_3 => (asO 3 false qb1).bind fun a0_4 => (asO 4 false qb2).bind fun a0_5 => (asO 1 false qb3).bind fun a0_6 => some ⟨Bool, impl_IsPackage.f k a0_0 a0_1 a0_2 a0_3 a0_4 a0_5 a0_6 a0_7, impl_IsPackage.g⟩
  | _, _ => none
def impl_IsPackage.C (k : Nat) : Nat → List AV → AP κ AV := contract impl_IsPackage.sig (impl_IsPackage.body k)
theorem impl_IsPackage.den (k : Nat) (a0_0 : Int) (a0_1 : Int) (a0_2 : Int) (a0_3 : List T_impl_Grant) (a0_4 : List T_impl_Flow) (a0_5 : List T_impl_Rule) (a0_6 : List T_impl_Op) (a0_7 : Int) : Code.den ti (impl_IsPackage.Γ k) (impl_IsPackage.LH k) (bodyOf Tryz.f31) (finK ti Tryz.f31.results.toList [] (flags impl_IsPackage.sig).length (rwI (flags impl_IsPackage.sig) 0) impl_IsPackage.out) ⟨envOf (([.agg [.int .i64 a0_0, .int .i64 a0_1, .int .i64 a0_2, .sl 0, .sl 1, .sl 2, .sl 3, .int .i64 a0_7]]).zipIdx.map fun q => (q.2, q.1)), hpOf [.rows 2 false a0_3, .rows 3 false a0_4, .rows 4 false a0_5, .rows 1 false a0_6], (flags impl_IsPackage.sig).length⟩ = impl_IsPackage.f k a0_0 a0_1 a0_2 a0_3 a0_4 a0_5 a0_6 a0_7 := by kernel_rfl
theorem impl_IsPackage.ok (k : Nat) : CSound Tryz.prog 31 (impl_IsPackage.C k) :=
  csound κ_ok mixed tok (impl_IsPackage.hΓ k) (LH := impl_IsPackage.LH k) (fn := Tryz.f31) (c := bodyOf Tryz.f31) Tryz.func31 rfl Tryz.call31 impl_IsPackage.sig [] (impl_IsPackage.body k) (by kernel_rfl) (impl_IsPackage.lok k) (by decide) fun vs bs lf y hl hb hy => by
    unfold impl_IsPackage.body at hb
    split at hb
    · obtain ⟨_, rfl, hb_1⟩ := asO_bind hb
      obtain ⟨_, rfl, hb_2⟩ := asO_bind hb_1
      obtain ⟨_, rfl, hb_3⟩ := asO_bind hb_2
      obtain ⟨_, rfl, hb_4⟩ := asO_bind hb_3
      obtain rfl := Option.some.inj hb_4
      exact ⟨impl_IsPackage.out, impl_IsPackage.out_ok, (impl_IsPackage.den k _ _ _ _ _ _ _ _).trans hy⟩
    · cases hb
/-! ### impl_IsValidKey -/
def impl_IsValidKey.f (k : Nat) (a0 : Int) : Option Bool :=
  (impl_InRange.f k a0 (1 : Int) (2147483646 : Int)).bind fun t1 => some t1
def impl_IsValidKey.Γ (k : Nat) : Ct κ := assoc [(27, impl_InRange.C k)]
def impl_IsValidKey.LH (k : Nat) : Nat → Option (LHi κ) := assoc []
theorem impl_IsValidKey.hΓ (k : Nat) : ∀ f g, impl_IsValidKey.Γ k f = some g → CSound Tryz.prog f g := G_cons (impl_InRange.ok k) G_nil
theorem impl_IsValidKey.lok (k : Nat) : LOK ti (impl_IsValidKey.Γ k) (impl_IsValidKey.LH k) 0 (loopsOf (bodyOf Tryz.f62)) :=
  (show loopsOf (bodyOf Tryz.f62) = [] by kernel_rfl) ▸ LOK_nil
def impl_IsValidKey.sig : List PSh := [.one .sc]
def impl_IsValidKey.g (y : Bool) : Ret κ := ⟨.v (.bool y), [], []⟩
def impl_IsValidKey.out (r : Ret κ) : Option Bool :=
  match r with
  | ⟨.v (.bool z0), [], []⟩ => some (z0)
  | _ => none
theorem impl_IsValidKey.out_ok (r : Ret κ) (y : Bool) (h : impl_IsValidKey.out r = some y) : r = impl_IsValidKey.g y := by
  unfold impl_IsValidKey.out at h
  split at h
  · obtain rfl := Option.some.inj h
    rfl
  · cases h
def impl_IsValidKey.body (k : Nat) (vs : List AV) (bs : List (Blk κ)) : Option (Lf κ) :=
  match vs, bs with
  | [.v (.int .i64 a0)], [] => some ⟨Bool, impl_IsValidKey.f k a0, impl_IsValidKey.g⟩
  | _, _ => none
def impl_IsValidKey.C (k : Nat) : Nat → List AV → AP κ AV := contract impl_IsValidKey.sig (impl_IsValidKey.body k)
theorem impl_IsValidKey.den (k : Nat) (a0 : Int) : Code.den ti (impl_IsValidKey.Γ k) (impl_IsValidKey.LH k) (bodyOf Tryz.f62) (finK ti Tryz.f62.results.toList [] (flags impl_IsValidKey.sig).length (rwI (flags impl_IsValidKey.sig) 0) impl_IsValidKey.out) ⟨envOf (([.v (.int .i64 a0)]).zipIdx.map fun q => (q.2, q.1)), hpOf [], (flags impl_IsValidKey.sig).length⟩ = impl_IsValidKey.f k a0 := by kernel_rfl
theorem impl_IsValidKey.ok (k : Nat) : CSound Tryz.prog 62 (impl_IsValidKey.C k) :=
  csound κ_ok mixed tok (impl_IsValidKey.hΓ k) (LH := impl_IsValidKey.LH k) (fn := Tryz.f62) (c := bodyOf Tryz.f62) Tryz.func62 rfl Tryz.call62 impl_IsValidKey.sig [] (impl_IsValidKey.body k) (by kernel_rfl) (impl_IsValidKey.lok k) (by decide) fun vs bs lf y hl hb hy => by
    unfold impl_IsValidKey.body at hb
    split at hb
    · obtain rfl := Option.some.inj hb
      exact ⟨impl_IsValidKey.out, impl_IsValidKey.out_ok, (impl_IsValidKey.den k _).trans hy⟩
    · cases hb
/-! ### impl_bit -/
def impl_bit.f (k : Nat) (a0 : Bool) : Option Int :=
  (bif a0 then some (1 : Int) else some (0 : Int))
def impl_bit.Γ (k : Nat) : Ct κ := assoc []
def impl_bit.LH (k : Nat) : Nat → Option (LHi κ) := assoc []
theorem impl_bit.hΓ (k : Nat) : ∀ f g, impl_bit.Γ k f = some g → CSound Tryz.prog f g := G_nil
theorem impl_bit.lok (k : Nat) : LOK ti (impl_bit.Γ k) (impl_bit.LH k) 0 (loopsOf (bodyOf Tryz.f126)) :=
  (show loopsOf (bodyOf Tryz.f126) = [] by kernel_rfl) ▸ LOK_nil
def impl_bit.sig : List PSh := [.one .sc]
def impl_bit.g (y : Int) : Ret κ := ⟨.v (.int .i64 y), [], []⟩
def impl_bit.out (r : Ret κ) : Option Int :=
  match r with
  | ⟨.v (.int .i64 z0), [], []⟩ => some (z0)
  | _ => none
theorem impl_bit.out_ok (r : Ret κ) (y : Int) (h : impl_bit.out r = some y) : r = impl_bit.g y := by
  unfold impl_bit.out at h
  split at h
  · obtain rfl := Option.some.inj h
    rfl
  · cases h
def impl_bit.body (k : Nat) (vs : List AV) (bs : List (Blk κ)) : Option (Lf κ) :=
  match vs, bs with
  | [.v (.bool a0)], [] => some ⟨Int, impl_bit.f k a0, impl_bit.g⟩
  | _, _ => none
def impl_bit.C (k : Nat) : Nat → List AV → AP κ AV := contract impl_bit.sig (impl_bit.body k)
theorem impl_bit.den (k : Nat) (a0 : Bool) : Code.den ti (impl_bit.Γ k) (impl_bit.LH k) (bodyOf Tryz.f126) (finK ti Tryz.f126.results.toList [] (flags impl_bit.sig).length (rwI (flags impl_bit.sig) 0) impl_bit.out) ⟨envOf (([.v (.bool a0)]).zipIdx.map fun q => (q.2, q.1)), hpOf [], (flags impl_bit.sig).length⟩ = impl_bit.f k a0 := by kernel_rfl
theorem impl_bit.ok (k : Nat) : CSound Tryz.prog 126 (impl_bit.C k) :=
  csound κ_ok mixed tok (impl_bit.hΓ k) (LH := impl_bit.LH k) (fn := Tryz.f126) (c := bodyOf Tryz.f126) Tryz.func126 rfl Tryz.call126 impl_bit.sig [] (impl_bit.body k) (by kernel_rfl) (impl_bit.lok k) (by decide) fun vs bs lf y hl hb hy => by
    unfold impl_bit.body at hb
    split at hb
    · obtain rfl := Option.some.inj hb
      exact ⟨impl_bit.out, impl_bit.out_ok, (impl_bit.den k _).trans hy⟩
    · cases hb
/-! ### impl_PackageInts -/
def impl_PackageInts.L5 {R : Type} (k : Nat) (x3 : Int) (xl0 : List T_impl_Grant) (xl1 : List T_impl_Flow) (xl2 : List T_impl_Rule) (xl3 : List T_impl_Op) (xc4_0 : Int) (xc4_1 : Int) (xc4_2 : Int) (xc4_7 : Int) (X0 : List Int → Option R) (rec : Int → List Int → Option R) (x4 : Int) (xl5 : List Int) : Option R :=
  (bif decide (x4 < x3) then (bif decide (0 ≤ x4) then (bif decide (x4 < (xl0.length : Int)) then (impl_bit.f k ((rd_impl_Grant xl0 x4).f5)).bind fun t2 => (bif decide ((xl5.length + ([(rd_impl_Grant xl0 x4).f1.f0, (rd_impl_Grant xl0 x4).f1.f1, (rd_impl_Grant xl0 x4).f2, (rd_impl_Grant xl0 x4).f3, (rd_impl_Grant xl0 x4).f4, t2] : List Int).length) * 8 ≤ cap48) then (let l3 : List Int := (xl5 ++ ([(rd_impl_Grant xl0 x4).f1.f0, (rd_impl_Grant xl0 x4).f1.f1, (rd_impl_Grant xl0 x4).f2, (rd_impl_Grant xl0 x4).f3, (rd_impl_Grant xl0 x4).f4, t2] : List Int)); (rec (w64 (x4 + (1 : Int))) l3)) else none) else none) else none) else (X0 xl5))
def impl_PackageInts.l5 {R : Type} (k : Nat) (x3 : Int) (xl0 : List T_impl_Grant) (xl1 : List T_impl_Flow) (xl2 : List T_impl_Rule) (xl3 : List T_impl_Op) (xc4_0 : Int) (xc4_1 : Int) (xc4_2 : Int) (xc4_7 : Int) (X0 : List Int → Option R) : Nat → Int → List Int → Option R
  | 0 => fun _ _ => none
  | n + 1 => impl_PackageInts.L5 k x3 xl0 xl1 xl2 xl3 xc4_0 xc4_1 xc4_2 xc4_7 X0 (impl_PackageInts.l5 k x3 xl0 xl1 xl2 xl3 xc4_0 xc4_1 xc4_2 xc4_7 X0 n)
def impl_PackageInts.L11 {R : Type} (k : Nat) (x3 : Int) (xl0 : List T_impl_Grant) (xl1 : List T_impl_Flow) (xl2 : List T_impl_Rule) (xl3 : List T_impl_Op) (xc4_0 : Int) (xc4_1 : Int) (xc4_2 : Int) (xc4_7 : Int) (X0 : List Int → Option R) (rec : Int → List Int → Option R) (x4 : Int) (xl5 : List Int) : Option R :=
  (bif decide (x4 < x3) then (bif decide (0 ≤ x4) then (bif decide (x4 < (xl1.length : Int)) then (bif decide ((xl5.length + ([(rd_impl_Flow xl1 x4).f1, (rd_impl_Flow xl1 x4).f2] : List Int).length) * 8 ≤ cap48) then (let l5 : List Int := (xl5 ++ ([(rd_impl_Flow xl1 x4).f1, (rd_impl_Flow xl1 x4).f2] : List Int)); (rec (w64 (x4 + (1 : Int))) l5)) else none) else none) else none) else (X0 xl5))
def impl_PackageInts.l11 {R : Type} (k : Nat) (x3 : Int) (xl0 : List T_impl_Grant) (xl1 : List T_impl_Flow) (xl2 : List T_impl_Rule) (xl3 : List T_impl_Op) (xc4_0 : Int) (xc4_1 : Int) (xc4_2 : Int) (xc4_7 : Int) (X0 : List Int → Option R) : Nat → Int → List Int → Option R
  | 0 => fun _ _ => none
  | n + 1 => impl_PackageInts.L11 k x3 xl0 xl1 xl2 xl3 xc4_0 xc4_1 xc4_2 xc4_7 X0 (impl_PackageInts.l11 k x3 xl0 xl1 xl2 xl3 xc4_0 xc4_1 xc4_2 xc4_7 X0 n)
def impl_PackageInts.L17 {R : Type} (k : Nat) (x3 : Int) (xl0 : List T_impl_Grant) (xl1 : List T_impl_Flow) (xl2 : List T_impl_Rule) (xl3 : List T_impl_Op) (xc4_0 : Int) (xc4_1 : Int) (xc4_2 : Int) (xc4_7 : Int) (X0 : List Int → Option R) (rec : Int → List Int → Option R) (x4 : Int) (xl5 : List Int) : Option R :=
  (bif decide (x4 < x3) then (bif decide (0 ≤ x4) then (bif decide (x4 < (xl2.length : Int)) then (bif decide ((xl5.length + ([(rd_impl_Rule xl2 x4).f1, (rd_impl_Rule xl2 x4).f2.f0, (rd_impl_Rule xl2 x4).f2.f1, (rd_impl_Rule xl2 x4).f3, (rd_impl_Rule xl2 x4).f4, (rd_impl_Rule xl2 x4).f5.f0, (rd_impl_Rule xl2 x4).f5.f1] : List Int).length) * 8 ≤ cap48) then (let l7 : List Int := (xl5 ++ ([(rd_impl_Rule xl2 x4).f1, (rd_impl_Rule xl2 x4).f2.f0, (rd_impl_Rule xl2 x4).f2.f1, (rd_impl_Rule xl2 x4).f3, (rd_impl_Rule xl2 x4).f4, (rd_impl_Rule xl2 x4).f5.f0, (rd_impl_Rule xl2 x4).f5.f1] : List Int)); (rec (w64 (x4 + (1 : Int))) l7)) else none) else none) else none) else (X0 xl5))
def impl_PackageInts.l17 {R : Type} (k : Nat) (x3 : Int) (xl0 : List T_impl_Grant) (xl1 : List T_impl_Flow) (xl2 : List T_impl_Rule) (xl3 : List T_impl_Op) (xc4_0 : Int) (xc4_1 : Int) (xc4_2 : Int) (xc4_7 : Int) (X0 : List Int → Option R) : Nat → Int → List Int → Option R
  | 0 => fun _ _ => none
  | n + 1 => impl_PackageInts.L17 k x3 xl0 xl1 xl2 xl3 xc4_0 xc4_1 xc4_2 xc4_7 X0 (impl_PackageInts.l17 k x3 xl0 xl1 xl2 xl3 xc4_0 xc4_1 xc4_2 xc4_7 X0 n)
def impl_PackageInts.L23 {R : Type} (k : Nat) (x2 : Int) (xl0 : List T_impl_Grant) (xl1 : List T_impl_Flow) (xl2 : List T_impl_Rule) (xl3 : List T_impl_Op) (X0 : List Int → Option R) (rec : Int → List Int → Option R) (x3 : Int) (xl4 : List Int) : Option R :=
  (bif decide (x3 < x2) then (bif decide (0 ≤ x3) then (bif decide (x3 < (xl3.length : Int)) then (bif decide ((xl4.length + ([(rd_impl_Op xl3 x3).f0, (rd_impl_Op xl3 x3).f1, (rd_impl_Op xl3 x3).f2, (rd_impl_Op xl3 x3).f3] : List Int).length) * 8 ≤ cap48) then (let l9 : List Int := (xl4 ++ ([(rd_impl_Op xl3 x3).f0, (rd_impl_Op xl3 x3).f1, (rd_impl_Op xl3 x3).f2, (rd_impl_Op xl3 x3).f3] : List Int)); (rec (w64 (x3 + (1 : Int))) l9)) else none) else none) else none) else (X0 xl4))
def impl_PackageInts.l23 {R : Type} (k : Nat) (x2 : Int) (xl0 : List T_impl_Grant) (xl1 : List T_impl_Flow) (xl2 : List T_impl_Rule) (xl3 : List T_impl_Op) (X0 : List Int → Option R) : Nat → Int → List Int → Option R
  | 0 => fun _ _ => none
  | n + 1 => impl_PackageInts.L23 k x2 xl0 xl1 xl2 xl3 X0 (impl_PackageInts.l23 k x2 xl0 xl1 xl2 xl3 X0 n)
def impl_PackageInts.f (k : Nat) (a0_0 : Int) (a0_1 : Int) (a0_2 : Int) (a0_3 : List T_impl_Grant) (a0_4 : List T_impl_Flow) (a0_5 : List T_impl_Rule) (a0_6 : List T_impl_Op) (a0_7 : Int) : Option (List Int) :=
  (impl_IsPackage.f k a0_0 a0_1 a0_2 a0_3 a0_4 a0_5 a0_6 a0_7).bind fun t1 => (bif !t1 then some ([] : List Int) else (impl_PackageInts.l5 k (a0_3.length : Int) a0_3 a0_4 a0_5 a0_6 a0_0 a0_1 a0_2 a0_7 (fun (y4 : List Int) => (bif decide ((y4.length + ([(a0_4.length : Int)] : List Int).length) * 8 ≤ cap48) then (impl_PackageInts.l11 k (a0_4.length : Int) a0_3 a0_4 a0_5 a0_6 a0_0 a0_1 a0_2 a0_7 (fun (y6 : List Int) => (bif decide ((y6.length + ([(a0_5.length : Int)] : List Int).length) * 8 ≤ cap48) then (impl_PackageInts.l17 k (a0_5.length : Int) a0_3 a0_4 a0_5 a0_6 a0_0 a0_1 a0_2 a0_7 (fun (y8 : List Int) => (bif decide ((y8.length + ([(a0_6.length : Int)] : List Int).length) * 8 ≤ cap48) then (impl_PackageInts.l23 k (a0_6.length : Int) a0_3 a0_4 a0_5 a0_6 (fun (y10 : List Int) => some y10) k (0 : Int) (y8 ++ ([(a0_6.length : Int)] : List Int))) else none)) k (0 : Int) (y6 ++ ([(a0_5.length : Int)] : List Int))) else none)) k (0 : Int) (y4 ++ ([(a0_4.length : Int)] : List Int))) else none)) k (0 : Int) ([a0_0, a0_1, a0_2, (a0_3.length : Int)] : List Int)))
def impl_PackageInts.h5 (k : Nat) {R : Type} (K : Ex → St κ → Option R) (vs : List AV) (bs : List (Blk κ)) : Option R :=
  match vs, bs with
  | [.v (.ptr 4 0 0), .v (.sl 5), .v (.sl 0), .v (.int .i64 x3), .v (.int .i64 x4)], [qb0, qb1, qb2, qb3, .cells 30 [.int .i64 xc4_0, .int .i64 xc4_1, .int .i64 xc4_2, .sl 0, .sl 1, .sl 2, .sl 3, .int .i64 xc4_7], qb5] => (asO 2 false qb0).bind fun xl0 => (asO 3 false qb1).bind fun xl1 => (asO 4 false qb2).bind fun xl2 => (asO 1 false qb3).bind fun xl3 => (asO 5 true qb5).bind fun xl5 => impl_PackageInts.l5 k x3 xl0 xl1 xl2 xl3 xc4_0 xc4_1 xc4_2 xc4_7 (fun (zl5 : List Int) => K (.exit 0) (stOf [(1, [none, none, none, some 2, some 3, some 4, some 1, none]), (3, [some 5])] [.v (.ptr 4 0 0), .v (.sl 5)] [.rows 2 false xl0, .rows 3 false xl1, .rows 4 false xl2, .rows 1 false xl3, .cells 30 [.int .i64 xc4_0, .int .i64 xc4_1, .int .i64 xc4_2, .sl 0, .sl 1, .sl 2, .sl 3, .int .i64 xc4_7], .rows 5 true zl5])) k x4 xl5
  | _, _ => none
def impl_PackageInts.h11 (k : Nat) {R : Type} (K : Ex → St κ → Option R) (vs : List AV) (bs : List (Blk κ)) : Option R :=
  match vs, bs with
  | [.v (.ptr 4 0 0), .v (.sl 5), .v (.sl 1), .v (.int .i64 x3), .v (.int .i64 x4)], [qb0, qb1, qb2, qb3, .cells 30 [.int .i64 xc4_0, .int .i64 xc4_1, .int .i64 xc4_2, .sl 0, .sl 1, .sl 2, .sl 3, .int .i64 xc4_7], qb5] => (asO 2 false qb0).bind fun xl0 => (asO 3 false qb1).bind fun xl1 => (asO 4 false qb2).bind fun xl2 => (asO 1 false qb3).bind fun xl3 => (asO 5 true qb5).bind fun xl5 => impl_PackageInts.l11 k x3 xl0 xl1 xl2 xl3 xc4_0 xc4_1 xc4_2 xc4_7 (fun (zl5 : List Int) => K (.exit 2) (stOf [(1, [none, none, none, some 2, some 3, some 4, some 1, none]), (3, [some 5])] [.v (.ptr 4 0 0), .v (.sl 5)] [.rows 2 false xl0, .rows 3 false xl1, .rows 4 false xl2, .rows 1 false xl3, .cells 30 [.int .i64 xc4_0, .int .i64 xc4_1, .int .i64 xc4_2, .sl 0, .sl 1, .sl 2, .sl 3, .int .i64 xc4_7], .rows 5 true zl5])) k x4 xl5
  | _, _ => none
def impl_PackageInts.h17 (k : Nat) {R : Type} (K : Ex → St κ → Option R) (vs : List AV) (bs : List (Blk κ)) : Option R :=
  match vs, bs with
  | [.v (.ptr 4 0 0), .v (.sl 5), .v (.sl 2), .v (.int .i64 x3), .v (.int .i64 x4)], [qb0, qb1, qb2, qb3, .cells 30 [.int .i64 xc4_0, .int .i64 xc4_1, .int .i64 xc4_2, .sl 0, .sl 1, .sl 2, .sl 3, .int .i64 xc4_7], qb5] => (asO 2 false qb0).bind fun xl0 => (asO 3 false qb1).bind fun xl1 => (asO 4 false qb2).bind fun xl2 => (asO 1 false qb3).bind fun xl3 => (asO 5 true qb5).bind fun xl5 => impl_PackageInts.l17 k x3 xl0 xl1 xl2 xl3 xc4_0 xc4_1 xc4_2 xc4_7 (fun (zl5 : List Int) => K (.exit 4) (stOf [(1, [none, none, none, some 2, some 3, some 4, some 1, none]), (3, [some 5])] [.v (.ptr 4 0 0), .v (.sl 5)] [.rows 2 false xl0, .rows 3 false xl1, .rows 4 false xl2, .rows 1 false xl3, .cells 30 [.int .i64 xc4_0, .int .i64 xc4_1, .int .i64 xc4_2, .sl 0, .sl 1, .sl 2, .sl 3, .int .i64 xc4_7], .rows 5 true zl5])) k x4 xl5
  | _, _ => none
def impl_PackageInts.h23 (k : Nat) {R : Type} (K : Ex → St κ → Option R) (vs : List AV) (bs : List (Blk κ)) : Option R :=
  match vs, bs with
  | [.v (.sl 4), .v (.sl 3), .v (.int .i64 x2), .v (.int .i64 x3)], [qb0, qb1, qb2, qb3, qb4] => (asO 2 false qb0).bind fun xl0 => (asO 3 false qb1).bind fun xl1 => (asO 4 false qb2).bind fun xl2 => (asO 1 false qb3).bind fun xl3 => (asO 5 true qb4).bind fun xl4 => impl_PackageInts.l23 k x2 xl0 xl1 xl2 xl3 (fun (zl4 : List Int) => K (.exit 6) (stOf [(3, [some 5])] [.v (.sl 4)] [.rows 2 false xl0, .rows 3 false xl1, .rows 4 false xl2, .rows 1 false xl3, .rows 5 true zl4])) k x3 xl4
  | _, _ => none
def impl_PackageInts.Γ (k : Nat) : Ct κ := assoc [(31, impl_IsPackage.C k), (126, impl_bit.C k)]
def impl_PackageInts.LH (k : Nat) : Nat → Option (LHi κ) := assoc [(5, ⟨4, [(1, [none, none, none, some 2, some 3, some 4, some 1, none]), (3, [some 5]), (27, [some 2]), (28, []), (29, [])], [(1, [none, none, none, some 2, some 3, some 4, some 1, none]), (3, [some 5])], @impl_PackageInts.h5 k⟩), (11, ⟨4, [(1, [none, none, none, some 2, some 3, some 4, some 1, none]), (3, [some 5]), (59, [some 3]), (60, []), (61, [])], [(1, [none, none, none, some 2, some 3, some 4, some 1, none]), (3, [some 5])], @impl_PackageInts.h11 k⟩), (17, ⟨4, [(1, [none, none, none, some 2, some 3, some 4, some 1, none]), (3, [some 5]), (80, [some 4]), (81, []), (82, [])], [(1, [none, none, none, some 2, some 3, some 4, some 1, none]), (3, [some 5])], @impl_PackageInts.h17 k⟩), (23, ⟨4, [(3, [some 5]), (115, [some 1]), (116, []), (117, [])], [(3, [some 5])], @impl_PackageInts.h23 k⟩)]
theorem impl_PackageInts.hΓ (k : Nat) : ∀ f g, impl_PackageInts.Γ k f = some g → CSound Tryz.prog f g := G_cons (impl_IsPackage.ok k) (G_cons (impl_bit.ok k) G_nil)
theorem impl_PackageInts.e5 {R : Type} (K : Ex → St κ → Option R) (k : Nat) (x3 : Int) (xl0 : List T_impl_Grant) (xl1 : List T_impl_Flow) (xl2 : List T_impl_Rule) (xl3 : List T_impl_Op) (xc4_0 : Int) (xc4_1 : Int) (xc4_2 : Int) (xc4_7 : Int) : ∀ (n : Nat) (x4 : Int) (xl5 : List Int), loopN 4 (Code.den ti (impl_PackageInts.Γ k) (impl_PackageInts.LH k) (loopAt Tryz.f99 0)) [(1, [none, none, none, some 2, some 3, some 4, some 1, none]), (3, [some 5]), (27, [some 2]), (28, []), (29, [])] [(1, [none, none, none, some 2, some 3, some 4, some 1, none]), (3, [some 5])] K n [.v (.ptr 4 0 0), .v (.sl 5), .v (.sl 0), .v (.int .i64 x3), .v (.int .i64 x4)] [.rows 2 false xl0, .rows 3 false xl1, .rows 4 false xl2, .rows 1 false xl3, .cells 30 [.int .i64 xc4_0, .int .i64 xc4_1, .int .i64 xc4_2, .sl 0, .sl 1, .sl 2, .sl 3, .int .i64 xc4_7], .rows 5 true xl5] = impl_PackageInts.l5 k x3 xl0 xl1 xl2 xl3 xc4_0 xc4_1 xc4_2 xc4_7 (fun (zl5 : List Int) => K (.exit 0) (stOf [(1, [none, none, none, some 2, some 3, some 4, some 1, none]), (3, [some 5])] [.v (.ptr 4 0 0), .v (.sl 5)] [.rows 2 false xl0, .rows 3 false xl1, .rows 4 false xl2, .rows 1 false xl3, .cells 30 [.int .i64 xc4_0, .int .i64 xc4_1, .int .i64 xc4_2, .sl 0, .sl 1, .sl 2, .sl 3, .int .i64 xc4_7], .rows 5 true zl5])) n x4 xl5
  | 0, _, _ => rfl
  | n + 1, x4, xl5 => (show loopN 4 (Code.den ti (impl_PackageInts.Γ k) (impl_PackageInts.LH k) (loopAt Tryz.f99 0)) [(1, [none, none, none, some 2, some 3, some 4, some 1, none]), (3, [some 5]), (27, [some 2]), (28, []), (29, [])] [(1, [none, none, none, some 2, some 3, some 4, some 1, none]), (3, [some 5])] K (n + 1) [.v (.ptr 4 0 0), .v (.sl 5), .v (.sl 0), .v (.int .i64 x3), .v (.int .i64 x4)] [.rows 2 false xl0, .rows 3 false xl1, .rows 4 false xl2, .rows 1 false xl3, .cells 30 [.int .i64 xc4_0, .int .i64 xc4_1, .int .i64 xc4_2, .sl 0, .sl 1, .sl 2, .sl 3, .int .i64 xc4_7], .rows 5 true xl5] = impl_PackageInts.L5 k x3 xl0 xl1 xl2 xl3 xc4_0 xc4_1 xc4_2 xc4_7 (fun (zl5 : List Int) => K (.exit 0) (stOf [(1, [none, none, none, some 2, some 3, some 4, some 1, none]), (3, [some 5])] [.v (.ptr 4 0 0), .v (.sl 5)] [.rows 2 false xl0, .rows 3 false xl1, .rows 4 false xl2, .rows 1 false xl3, .cells 30 [.int .i64 xc4_0, .int .i64 xc4_1, .int .i64 xc4_2, .sl 0, .sl 1, .sl 2, .sl 3, .int .i64 xc4_7], .rows 5 true zl5])) (fun (x4' : Int) (xl5' : List Int) => loopN 4 (Code.den ti (impl_PackageInts.Γ k) (impl_PackageInts.LH k) (loopAt Tryz.f99 0)) [(1, [none, none, none, some 2, some 3, some 4, some 1, none]), (3, [some 5]), (27, [some 2]), (28, []), (29, [])] [(1, [none, none, none, some 2, some 3, some 4, some 1, none]), (3, [some 5])] K n [.v (.ptr 4 0 0), .v (.sl 5), .v (.sl 0), .v (.int .i64 x3), .v (.int .i64 x4')] [.rows 2 false xl0, .rows 3 false xl1, .rows 4 false xl2, .rows 1 false xl3, .cells 30 [.int .i64 xc4_0, .int .i64 xc4_1, .int .i64 xc4_2, .sl 0, .sl 1, .sl 2, .sl 3, .int .i64 xc4_7], .rows 5 true xl5']) x4 xl5 by kernel_rfl).trans (congrArg (fun rec => impl_PackageInts.L5 k x3 xl0 xl1 xl2 xl3 xc4_0 xc4_1 xc4_2 xc4_7 (fun (zl5 : List Int) => K (.exit 0) (stOf [(1, [none, none, none, some 2, some 3, some 4, some 1, none]), (3, [some 5])] [.v (.ptr 4 0 0), .v (.sl 5)] [.rows 2 false xl0, .rows 3 false xl1, .rows 4 false xl2, .rows 1 false xl3, .cells 30 [.int .i64 xc4_0, .int .i64 xc4_1, .int .i64 xc4_2, .sl 0, .sl 1, .sl 2, .sl 3, .int .i64 xc4_7], .rows 5 true zl5])) rec x4 xl5) (funext fun x4' => funext fun xl5' => impl_PackageInts.e5 K k x3 xl0 xl1 xl2 xl3 xc4_0 xc4_1 xc4_2 xc4_7 n x4' xl5'))
theorem impl_PackageInts.q5 (k : Nat) {R : Type} (K : Ex → St κ → Option R) (vs : List AV) (bs : List (Blk κ)) (r : R) (h : impl_PackageInts.h5 k K vs bs = some r) : ∃ n, loopN 4 (Code.den ti (impl_PackageInts.Γ k) (impl_PackageInts.LH k) (loopAt Tryz.f99 0)) [(1, [none, none, none, some 2, some 3, some 4, some 1, none]), (3, [some 5]), (27, [some 2]), (28, []), (29, [])] [(1, [none, none, none, some 2, some 3, some 4, some 1, none]), (3, [some 5])] K n vs bs = some r := by
  unfold impl_PackageInts.h5 at h
  split at h
  · obtain ⟨_, rfl, h_1⟩ := asO_bind h
    obtain ⟨_, rfl, h_2⟩ := asO_bind h_1
    obtain ⟨_, rfl, h_3⟩ := asO_bind h_2
    obtain ⟨_, rfl, h_4⟩ := asO_bind h_3
    obtain ⟨_, rfl, h_5⟩ := asO_bind h_4
    exact ⟨k, (impl_PackageInts.e5 K k _ _ _ _ _ _ _ _ _ k _ _).trans h_5⟩
  · cases h
theorem impl_PackageInts.e11 {R : Type} (K : Ex → St κ → Option R) (k : Nat) (x3 : Int) (xl0 : List T_impl_Grant) (xl1 : List T_impl_Flow) (xl2 : List T_impl_Rule) (xl3 : List T_impl_Op) (xc4_0 : Int) (xc4_1 : Int) (xc4_2 : Int) (xc4_7 : Int) : ∀ (n : Nat) (x4 : Int) (xl5 : List Int), loopN 4 (Code.den ti (impl_PackageInts.Γ k) (impl_PackageInts.LH k) (loopAt Tryz.f99 1)) [(1, [none, none, none, some 2, some 3, some 4, some 1, none]), (3, [some 5]), (59, [some 3]), (60, []), (61, [])] [(1, [none, none, none, some 2, some 3, some 4, some 1, none]), (3, [some 5])] K n [.v (.ptr 4 0 0), .v (.sl 5), .v (.sl 1), .v (.int .i64 x3), .v (.int .i64 x4)] [.rows 2 false xl0, .rows 3 false xl1, .rows 4 false xl2, .rows 1 false xl3, .cells 30 [.int .i64 xc4_0, .int .i64 xc4_1, .int .i64 xc4_2, .sl 0, .sl 1, .sl 2, .sl 3, .int .i64 xc4_7], .rows 5 true xl5] = impl_PackageInts.l11 k x3 xl0 xl1 xl2 xl3 xc4_0 xc4_1 xc4_2 xc4_7 (fun (zl5 : List Int) => K (.exit 2) (stOf [(1, [none, none, none, some 2, some 3, some 4, some 1, none]), (3, [some 5])] [.v (.ptr 4 0 0), .v (.sl 5)] [.rows 2 false xl0, .rows 3 false xl1, .rows 4 false xl2, .rows 1 false xl3, .cells 30 [.int .i64 xc4_0, .int .i64 xc4_1, .int .i64 xc4_2, .sl 0, .sl 1, .sl 2, .sl 3, .int .i64 xc4_7], .rows 5 true zl5])) n x4 xl5
  | 0, _, _ => rfl
  | n + 1, x4, xl5 => (show loopN 4 (Code.den ti (impl_PackageInts.Γ k) (impl_PackageInts.LH k) (loopAt Tryz.f99 1)) [(1, [none, none, none, some 2, some 3, some 4, some 1, none]), (3, [some 5]), (59, [some 3]), (60, []), (61, [])] [(1, [none, none, none, some 2, some 3, some 4, some 1, none]), (3, [some 5])] K (n + 1) [.v (.ptr 4 0 0), .v (.sl 5), .v (.sl 1), .v (.int .i64 x3), .v (.int .i64 x4)] [.rows 2 false xl0, .rows 3 false xl1, .rows 4 false xl2, .rows 1 false xl3, .cells 30 [.int .i64 xc4_0, .int .i64 xc4_1, .int .i64 xc4_2, .sl 0, .sl 1, .sl 2, .sl 3, .int .i64 xc4_7], .rows 5 true xl5] = impl_PackageInts.L11 k x3 xl0 xl1 xl2 xl3 xc4_0 xc4_1 xc4_2 xc4_7 (fun (zl5 : List Int) => K (.exit 2) (stOf [(1, [none, none, none, some 2, some 3, some 4, some 1, none]), (3, [some 5])] [.v (.ptr 4 0 0), .v (.sl 5)] [.rows 2 false xl0, .rows 3 false xl1, .rows 4 false xl2, .rows 1 false xl3, .cells 30 [.int .i64 xc4_0, .int .i64 xc4_1, .int .i64 xc4_2, .sl 0, .sl 1, .sl 2, .sl 3, .int .i64 xc4_7], .rows 5 true zl5])) (fun (x4' : Int) (xl5' : List Int) => loopN 4 (Code.den ti (impl_PackageInts.Γ k) (impl_PackageInts.LH k) (loopAt Tryz.f99 1)) [(1, [none, none, none, some 2, some 3, some 4, some 1, none]), (3, [some 5]), (59, [some 3]), (60, []), (61, [])] [(1, [none, none, none, some 2, some 3, some 4, some 1, none]), (3, [some 5])] K n [.v (.ptr 4 0 0), .v (.sl 5), .v (.sl 1), .v (.int .i64 x3), .v (.int .i64 x4')] [.rows 2 false xl0, .rows 3 false xl1, .rows 4 false xl2, .rows 1 false xl3, .cells 30 [.int .i64 xc4_0, .int .i64 xc4_1, .int .i64 xc4_2, .sl 0, .sl 1, .sl 2, .sl 3, .int .i64 xc4_7], .rows 5 true xl5']) x4 xl5 by kernel_rfl).trans (congrArg (fun rec => impl_PackageInts.L11 k x3 xl0 xl1 xl2 xl3 xc4_0 xc4_1 xc4_2 xc4_7 (fun (zl5 : List Int) => K (.exit 2) (stOf [(1, [none, none, none, some 2, some 3, some 4, some 1, none]), (3, [some 5])] [.v (.ptr 4 0 0), .v (.sl 5)] [.rows 2 false xl0, .rows 3 false xl1, .rows 4 false xl2, .rows 1 false xl3, .cells 30 [.int .i64 xc4_0, .int .i64 xc4_1, .int .i64 xc4_2, .sl 0, .sl 1, .sl 2, .sl 3, .int .i64 xc4_7], .rows 5 true zl5])) rec x4 xl5) (funext fun x4' => funext fun xl5' => impl_PackageInts.e11 K k x3 xl0 xl1 xl2 xl3 xc4_0 xc4_1 xc4_2 xc4_7 n x4' xl5'))
theorem impl_PackageInts.q11 (k : Nat) {R : Type} (K : Ex → St κ → Option R) (vs : List AV) (bs : List (Blk κ)) (r : R) (h : impl_PackageInts.h11 k K vs bs = some r) : ∃ n, loopN 4 (Code.den ti (impl_PackageInts.Γ k) (impl_PackageInts.LH k) (loopAt Tryz.f99 1)) [(1, [none, none, none, some 2, some 3, some 4, some 1, none]), (3, [some 5]), (59, [some 3]), (60, []), (61, [])] [(1, [none, none, none, some 2, some 3, some 4, some 1, none]), (3, [some 5])] K n vs bs = some r := by
  unfold impl_PackageInts.h11 at h
  split at h
  · obtain ⟨_, rfl, h_1⟩ := asO_bind h
    obtain ⟨_, rfl, h_2⟩ := asO_bind h_1
    obtain ⟨_, rfl, h_3⟩ := asO_bind h_2
    obtain ⟨_, rfl, h_4⟩ := asO_bind h_3
    obtain ⟨_, rfl, h_5⟩ := asO_bind h_4
    exact ⟨k, (impl_PackageInts.e11 K k _ _ _ _ _ _ _ _ _ k _ _).trans h_5⟩
  · cases h
theorem impl_PackageInts.e17 {R : Type} (K : Ex → St κ → Option R) (k : Nat) (x3 : Int) (xl0 : List T_impl_Grant) (xl1 : List T_impl_Flow) (xl2 : List T_impl_Rule) (xl3 : List T_impl_Op) (xc4_0 : Int) (xc4_1 : Int) (xc4_2 : Int) (xc4_7 : Int) : ∀ (n : Nat) (x4 : Int) (xl5 : List Int), loopN 4 (Code.den ti (impl_PackageInts.Γ k) (impl_PackageInts.LH k) (loopAt Tryz.f99 2)) [(1, [none, none, none, some 2, some 3, some 4, some 1, none]), (3, [some 5]), (80, [some 4]), (81, []), (82, [])] [(1, [none, none, none, some 2, some 3, some 4, some 1, none]), (3, [some 5])] K n [.v (.ptr 4 0 0), .v (.sl 5), .v (.sl 2), .v (.int .i64 x3), .v (.int .i64 x4)] [.rows 2 false xl0, .rows 3 false xl1, .rows 4 false xl2, .rows 1 false xl3, .cells 30 [.int .i64 xc4_0, .int .i64 xc4_1, .int .i64 xc4_2, .sl 0, .sl 1, .sl 2, .sl 3, .int .i64 xc4_7], .rows 5 true xl5] = impl_PackageInts.l17 k x3 xl0 xl1 xl2 xl3 xc4_0 xc4_1 xc4_2 xc4_7 (fun (zl5 : List Int) => K (.exit 4) (stOf [(1, [none, none, none, some 2, some 3, some 4, some 1, none]), (3, [some 5])] [.v (.ptr 4 0 0), .v (.sl 5)] [.rows 2 false xl0, .rows 3 false xl1, .rows 4 false xl2, .rows 1 false xl3, .cells 30 [.int .i64 xc4_0, .int .i64 xc4_1, .int .i64 xc4_2, .sl 0, .sl 1, .sl 2, .sl 3, .int .i64 xc4_7], .rows 5 true zl5])) n x4 xl5
  | 0, _, _ => rfl
  | n + 1, x4, xl5 => (show loopN 4 (Code.den ti (impl_PackageInts.Γ k) (impl_PackageInts.LH k) (loopAt Tryz.f99 2)) [(1, [none, none, none, some 2, some 3, some 4, some 1, none]), (3, [some 5]), (80, [some 4]), (81, []), (82, [])] [(1, [none, none, none, some 2, some 3, some 4, some 1, none]), (3, [some 5])] K (n + 1) [.v (.ptr 4 0 0), .v (.sl 5), .v (.sl 2), .v (.int .i64 x3), .v (.int .i64 x4)] [.rows 2 false xl0, .rows 3 false xl1, .rows 4 false xl2, .rows 1 false xl3, .cells 30 [.int .i64 xc4_0, .int .i64 xc4_1, .int .i64 xc4_2, .sl 0, .sl 1, .sl 2, .sl 3, .int .i64 xc4_7], .rows 5 true xl5] = impl_PackageInts.L17 k x3 xl0 xl1 xl2 xl3 xc4_0 xc4_1 xc4_2 xc4_7 (fun (zl5 : List Int) => K (.exit 4) (stOf [(1, [none, none, none, some 2, some 3, some 4, some 1, none]), (3, [some 5])] [.v (.ptr 4 0 0), .v (.sl 5)] [.rows 2 false xl0, .rows 3 false xl1, .rows 4 false xl2, .rows 1 false xl3, .cells 30 [.int .i64 xc4_0, .int .i64 xc4_1, .int .i64 xc4_2, .sl 0, .sl 1, .sl 2, .sl 3, .int .i64 xc4_7], .rows 5 true zl5])) (fun (x4' : Int) (xl5' : List Int) => loopN 4 (Code.den ti (impl_PackageInts.Γ k) (impl_PackageInts.LH k) (loopAt Tryz.f99 2)) [(1, [none, none, none, some 2, some 3, some 4, some 1, none]), (3, [some 5]), (80, [some 4]), (81, []), (82, [])] [(1, [none, none, none, some 2, some 3, some 4, some 1, none]), (3, [some 5])] K n [.v (.ptr 4 0 0), .v (.sl 5), .v (.sl 2), .v (.int .i64 x3), .v (.int .i64 x4')] [.rows 2 false xl0, .rows 3 false xl1, .rows 4 false xl2, .rows 1 false xl3, .cells 30 [.int .i64 xc4_0, .int .i64 xc4_1, .int .i64 xc4_2, .sl 0, .sl 1, .sl 2, .sl 3, .int .i64 xc4_7], .rows 5 true xl5']) x4 xl5 by kernel_rfl).trans (congrArg (fun rec => impl_PackageInts.L17 k x3 xl0 xl1 xl2 xl3 xc4_0 xc4_1 xc4_2 xc4_7 (fun (zl5 : List Int) => K (.exit 4) (stOf [(1, [none, none, none, some 2, some 3, some 4, some 1, none]), (3, [some 5])] [.v (.ptr 4 0 0), .v (.sl 5)] [.rows 2 false xl0, .rows 3 false xl1, .rows 4 false xl2, .rows 1 false xl3, .cells 30 [.int .i64 xc4_0, .int .i64 xc4_1, .int .i64 xc4_2, .sl 0, .sl 1, .sl 2, .sl 3, .int .i64 xc4_7], .rows 5 true zl5])) rec x4 xl5) (funext fun x4' => funext fun xl5' => impl_PackageInts.e17 K k x3 xl0 xl1 xl2 xl3 xc4_0 xc4_1 xc4_2 xc4_7 n x4' xl5'))
theorem impl_PackageInts.q17 (k : Nat) {R : Type} (K : Ex → St κ → Option R) (vs : List AV) (bs : List (Blk κ)) (r : R) (h : impl_PackageInts.h17 k K vs bs = some r) : ∃ n, loopN 4 (Code.den ti (impl_PackageInts.Γ k) (impl_PackageInts.LH k) (loopAt Tryz.f99 2)) [(1, [none, none, none, some 2, some 3, some 4, some 1, none]), (3, [some 5]), (80, [some 4]), (81, []), (82, [])] [(1, [none, none, none, some 2, some 3, some 4, some 1, none]), (3, [some 5])] K n vs bs = some r := by
  unfold impl_PackageInts.h17 at h
  split at h
  · obtain ⟨_, rfl, h_1⟩ := asO_bind h
    obtain ⟨_, rfl, h_2⟩ := asO_bind h_1
    obtain ⟨_, rfl, h_3⟩ := asO_bind h_2
    obtain ⟨_, rfl, h_4⟩ := asO_bind h_3
    obtain ⟨_, rfl, h_5⟩ := asO_bind h_4
    exact ⟨k, (impl_PackageInts.e17 K k _ _ _ _ _ _ _ _ _ k _ _).trans h_5⟩
  · cases h
theorem impl_PackageInts.e23 {R : Type} (K : Ex → St κ → Option R) (k : Nat) (x2 : Int) (xl0 : List T_impl_Grant) (xl1 : List T_impl_Flow) (xl2 : List T_impl_Rule) (xl3 : List T_impl_Op) : ∀ (n : Nat) (x3 : Int) (xl4 : List Int), loopN 4 (Code.den ti (impl_PackageInts.Γ k) (impl_PackageInts.LH k) (loopAt Tryz.f99 3)) [(3, [some 5]), (115, [some 1]), (116, []), (117, [])] [(3, [some 5])] K n [.v (.sl 4), .v (.sl 3), .v (.int .i64 x2), .v (.int .i64 x3)] [.rows 2 false xl0, .rows 3 false xl1, .rows 4 false xl2, .rows 1 false xl3, .rows 5 true xl4] = impl_PackageInts.l23 k x2 xl0 xl1 xl2 xl3 (fun (zl4 : List Int) => K (.exit 6) (stOf [(3, [some 5])] [.v (.sl 4)] [.rows 2 false xl0, .rows 3 false xl1, .rows 4 false xl2, .rows 1 false xl3, .rows 5 true zl4])) n x3 xl4
  | 0, _, _ => rfl
  | n + 1, x3, xl4 => (show loopN 4 (Code.den ti (impl_PackageInts.Γ k) (impl_PackageInts.LH k) (loopAt Tryz.f99 3)) [(3, [some 5]), (115, [some 1]), (116, []), (117, [])] [(3, [some 5])] K (n + 1) [.v (.sl 4), .v (.sl 3), .v (.int .i64 x2), .v (.int .i64 x3)] [.rows 2 false xl0, .rows 3 false xl1, .rows 4 false xl2, .rows 1 false xl3, .rows 5 true xl4] = impl_PackageInts.L23 k x2 xl0 xl1 xl2 xl3 (fun (zl4 : List Int) => K (.exit 6) (stOf [(3, [some 5])] [.v (.sl 4)] [.rows 2 false xl0, .rows 3 false xl1, .rows 4 false xl2, .rows 1 false xl3, .rows 5 true zl4])) (fun (x3' : Int) (xl4' : List Int) => loopN 4 (Code.den ti (impl_PackageInts.Γ k) (impl_PackageInts.LH k) (loopAt Tryz.f99 3)) [(3, [some 5]), (115, [some 1]), (116, []), (117, [])] [(3, [some 5])] K n [.v (.sl 4), .v (.sl 3), .v (.int .i64 x2), .v (.int .i64 x3')] [.rows 2 false xl0, .rows 3 false xl1, .rows 4 false xl2, .rows 1 false xl3, .rows 5 true xl4']) x3 xl4 by kernel_rfl).trans (congrArg (fun rec => impl_PackageInts.L23 k x2 xl0 xl1 xl2 xl3 (fun (zl4 : List Int) => K (.exit 6) (stOf [(3, [some 5])] [.v (.sl 4)] [.rows 2 false xl0, .rows 3 false xl1, .rows 4 false xl2, .rows 1 false xl3, .rows 5 true zl4])) rec x3 xl4) (funext fun x3' => funext fun xl4' => impl_PackageInts.e23 K k x2 xl0 xl1 xl2 xl3 n x3' xl4'))
theorem impl_PackageInts.q23 (k : Nat) {R : Type} (K : Ex → St κ → Option R) (vs : List AV) (bs : List (Blk κ)) (r : R) (h : impl_PackageInts.h23 k K vs bs = some r) : ∃ n, loopN 4 (Code.den ti (impl_PackageInts.Γ k) (impl_PackageInts.LH k) (loopAt Tryz.f99 3)) [(3, [some 5]), (115, [some 1]), (116, []), (117, [])] [(3, [some 5])] K n vs bs = some r := by
  unfold impl_PackageInts.h23 at h
  split at h
  · obtain ⟨_, rfl, h_1⟩ := asO_bind h
    obtain ⟨_, rfl, h_2⟩ := asO_bind h_1
    obtain ⟨_, rfl, h_3⟩ := asO_bind h_2
    obtain ⟨_, rfl, h_4⟩ := asO_bind h_3
    obtain ⟨_, rfl, h_5⟩ := asO_bind h_4
    exact ⟨k, (impl_PackageInts.e23 K k _ _ _ _ _ k _ _).trans h_5⟩
  · cases h
theorem impl_PackageInts.lok (k : Nat) : LOK ti (impl_PackageInts.Γ k) (impl_PackageInts.LH k) 4 (loopsOf (bodyOf Tryz.f99)) :=
  (show loopsOf (bodyOf Tryz.f99) = [loopAt Tryz.f99 0, loopAt Tryz.f99 1, loopAt Tryz.f99 2, loopAt Tryz.f99 3] by kernel_rfl) ▸ (LOK_cons (g := ⟨4, [(1, [none, none, none, some 2, some 3, some 4, some 1, none]), (3, [some 5]), (27, [some 2]), (28, []), (29, [])], [(1, [none, none, none, some 2, some 3, some 4, some 1, none]), (3, [some 5])], @impl_PackageInts.h5 k⟩) (by kernel_rfl) rfl (fun K vs xs r h => impl_PackageInts.q5 k K vs xs r h) (LOK_cons (g := ⟨4, [(1, [none, none, none, some 2, some 3, some 4, some 1, none]), (3, [some 5]), (59, [some 3]), (60, []), (61, [])], [(1, [none, none, none, some 2, some 3, some 4, some 1, none]), (3, [some 5])], @impl_PackageInts.h11 k⟩) (by kernel_rfl) rfl (fun K vs xs r h => impl_PackageInts.q11 k K vs xs r h) (LOK_cons (g := ⟨4, [(1, [none, none, none, some 2, some 3, some 4, some 1, none]), (3, [some 5]), (80, [some 4]), (81, []), (82, [])], [(1, [none, none, none, some 2, some 3, some 4, some 1, none]), (3, [some 5])], @impl_PackageInts.h17 k⟩) (by kernel_rfl) rfl (fun K vs xs r h => impl_PackageInts.q17 k K vs xs r h) (LOK_cons (g := ⟨4, [(3, [some 5]), (115, [some 1]), (116, []), (117, [])], [(3, [some 5])], @impl_PackageInts.h23 k⟩) (by kernel_rfl) rfl (fun K vs xs r h => impl_PackageInts.q23 k K vs xs r h) (LOK_nil)))))
def impl_PackageInts.sig : List PSh := [.agg [.sc, .sc, .sc, .ro 2, .ro 3, .ro 4, .ro 1, .sc]]
def impl_PackageInts.g (y : List Int) : Ret κ := ⟨.v (.sl 4), [], [.rows 5 true y]⟩
def impl_PackageInts.out (r : Ret κ) : Option (List Int) :=
  match r with
  | ⟨.v (.sl 4), [], [q0]⟩ => (asO 5 true q0).bind fun z0 => some (z0)
  | _ => none
theorem impl_PackageInts.out_ok (r : Ret κ) (y : List Int) (h : impl_PackageInts.out r = some y) : r = impl_PackageInts.g y := by
  unfold impl_PackageInts.out at h
  split at h
  · obtain ⟨_, rfl, h_1⟩ := asO_bind h
    obtain rfl := Option.some.inj h_1
    rfl
  · cases h
def impl_PackageInts.body (k : Nat) (vs : List AV) (bs : List (Blk κ)) : Option (Lf κ) :=
  match vs, bs with
  | [.agg [.int .i64 a0_0, .int .i64 a0_1, .int .i64 a0_2, .sl 0, .sl 1, .sl 2, .sl 3, .int .i64 a0_7]], [qb0, qb1, qb2, qb3] => (asO 2 false qb0).bind fun a0_3 => (asO 3 false qb1).bind fun a0_4 => (asO 4 false qb2).bind fun a0_5 => (asO 1 false qb3).bind fun a0_6 => some ⟨List Int, impl_PackageInts.f k a0_0 a0_1 a0_2 a0_3 a0_4 a0_5 a0_6 a0_7, impl_PackageInts.g⟩
  | _, _ => none
def impl_PackageInts.C (k : Nat) : Nat → List AV → AP κ AV := contract impl_PackageInts.sig (impl_PackageInts.body k)
theorem impl_PackageInts.den (k : Nat) (a0_0 : Int) (a0_1 : Int) (a0_2 : Int) (a0_3 : List T_impl_Grant) (a0_4 : List T_impl_Flow) (a0_5 : List T_impl_Rule) (a0_6 : List T_impl_Op) (a0_7 : Int) : Code.den ti (impl_PackageInts.Γ k) (impl_PackageInts.LH k) (bodyOf Tryz.f99) (finK ti Tryz.f99.results.toList [(2, [some 5])] (flags impl_PackageInts.sig).length (rwI (flags impl_PackageInts.sig) 0) impl_PackageInts.out) ⟨envOf (([.agg [.int .i64 a0_0, .int .i64 a0_1, .int .i64 a0_2, .sl 0, .sl 1, .sl 2, .sl 3, .int .i64 a0_7]]).zipIdx.map fun q => (q.2, q.1)), hpOf [.rows 2 false a0_3, .rows 3 false a0_4, .rows 4 false a0_5, .rows 1 false a0_6], (flags impl_PackageInts.sig).length⟩ = impl_PackageInts.f k a0_0 a0_1 a0_2 a0_3 a0_4 a0_5 a0_6 a0_7 := by kernel_rfl
theorem impl_PackageInts.ok (k : Nat) : CSound Tryz.prog 99 (impl_PackageInts.C k) :=
  csound κ_ok mixed tok (impl_PackageInts.hΓ k) (LH := impl_PackageInts.LH k) (fn := Tryz.f99) (c := bodyOf Tryz.f99) Tryz.func99 rfl Tryz.call99 impl_PackageInts.sig [(2, [some 5])] (impl_PackageInts.body k) (by kernel_rfl) (impl_PackageInts.lok k) (by decide) fun vs bs lf y hl hb hy => by
    unfold impl_PackageInts.body at hb
    split at hb
    · obtain ⟨_, rfl, hb_1⟩ := asO_bind hb
      obtain ⟨_, rfl, hb_2⟩ := asO_bind hb_1
      obtain ⟨_, rfl, hb_3⟩ := asO_bind hb_2
      obtain ⟨_, rfl, hb_4⟩ := asO_bind hb_3
      obtain rfl := Option.some.inj hb_4
      exact ⟨impl_PackageInts.out, impl_PackageInts.out_ok, (impl_PackageInts.den k _ _ _ _ _ _ _ _).trans hy⟩
    · cases hb
end Go.Proofs.YtmjflahlhgibnaaGreatDoor.PFnRolledBack
