/- What the functions that the law FnRolledBack reaches come to; no conditions. -/
import Derived.Test.YtmjflahlhgibnaaGreatDoorPFnRolledBack1
set_option linter.unusedVariables false
set_option maxRecDepth 100000
namespace Go.Proofs.YtmjflahlhgibnaaGreatDoor.PFnRolledBack
open Go Go.Eng Go.Proofs
/-! ### spec_IsPattern -/
def spec_IsPattern.f (k : Nat) (a0_0 : Int) (a0_1 : Int) : Option Bool :=
  (spec_l1In.f k a0_0 (0 : Int) (9 : Int)).bind fun t1 => (bif t1 then (spec_l1In.f k a0_1 (-1 : Int) (9 : Int)).bind fun t2 => some t2 else some false)
def spec_IsPattern.Γ (k : Nat) : Ct κ := assoc [(74, spec_l1In.C k)]
def spec_IsPattern.LH (k : Nat) : Nat → Option (LHi κ) := assoc []
theorem spec_IsPattern.hΓ (k : Nat) : ∀ f g, spec_IsPattern.Γ k f = some g → CSound Tryz.prog f g := G_cons (spec_l1In.ok k) G_nil
theorem spec_IsPattern.lok (k : Nat) : LOK ti (spec_IsPattern.Γ k) (spec_IsPattern.LH k) 0 (loopsOf (bodyOf Tryz.f139)) :=
  (show loopsOf (bodyOf Tryz.f139) = [] by kernel_rfl) ▸ LOK_nil
def spec_IsPattern.sig : List PSh := [.agg [.sc, .sc]]
def spec_IsPattern.g (y : Bool) : Ret κ := ⟨.v (.bool y), [], []⟩
def spec_IsPattern.out (r : Ret κ) : Option Bool :=
  match r with
  | ⟨.v (.bool z0), [], []⟩ => some (z0)
  | _ => none
theorem spec_IsPattern.out_ok (r : Ret κ) (y : Bool) (h : spec_IsPattern.out r = some y) : r = spec_IsPattern.g y := by
  unfold spec_IsPattern.out at h
  split at h
  · obtain rfl := Option.some.inj h
    rfl
  · cases h
def spec_IsPattern.body (k : Nat) (vs : List AV) (bs : List (Blk κ)) : Option (Lf κ) :=
  match vs, bs with
  | [.agg [.int .i64 a0_0, .int .i64 a0_1]], [] => some ⟨Bool, spec_IsPattern.f k a0_0 a0_1, spec_IsPattern.g⟩
  | _, _ => none
def spec_IsPattern.C (k : Nat) : Nat → List AV → AP κ AV := contract spec_IsPattern.sig (spec_IsPattern.body k)
theorem spec_IsPattern.den (k : Nat) (a0_0 : Int) (a0_1 : Int) : Code.den ti (spec_IsPattern.Γ k) (spec_IsPattern.LH k) (bodyOf Tryz.f139) (finK ti Tryz.f139.results.toList [] (flags spec_IsPattern.sig).length (rwI (flags spec_IsPattern.sig) 0) spec_IsPattern.out) ⟨envOf (([.agg [.int .i64 a0_0, .int .i64 a0_1]]).zipIdx.map fun q => (q.2, q.1)), hpOf [], (flags spec_IsPattern.sig).length⟩ = spec_IsPattern.f k a0_0 a0_1 := by kernel_rfl
theorem spec_IsPattern.ok (k : Nat) : CSound Tryz.prog 139 (spec_IsPattern.C k) :=
  csound κ_ok mixed tok (spec_IsPattern.hΓ k) (LH := spec_IsPattern.LH k) (fn := Tryz.f139) (c := bodyOf Tryz.f139) Tryz.func139 rfl Tryz.call139 spec_IsPattern.sig [] (spec_IsPattern.body k) (by kernel_rfl) (spec_IsPattern.lok k) (by decide) fun vs bs lf y hl hb hy => by
    unfold spec_IsPattern.body at hb
    split at hb
    · obtain rfl := Option.some.inj hb
      exact ⟨spec_IsPattern.out, spec_IsPattern.out_ok, (spec_IsPattern.den k _ _).trans hy⟩
    · cases hb
/-! ### spec_IsGrant -/
def spec_IsGrant.f (k : Nat) (a0_0 : Int) (a0_1 : Int) (a0_2 : Int) (a0_3 : Int) (a0_4 : Int) (a0_5 : Int) (a0_6 : Bool) : Option Bool :=
  (spec_l1In.f k a0_0 (1 : Int) (5 : Int)).bind fun t1 => (bif t1 then (spec_IsPattern.f k a0_1 a0_2).bind fun t2 => (bif t2 then (spec_l1In.f k a0_3 (1 : Int) (4 : Int)).bind fun t3 => (bif t3 then (bif decide (a0_4 ≥ (0 : Int)) then (bif decide (a0_4 ≤ a0_5) then some (decide (a0_5 ≤ (10000 : Int))) else some false) else some false) else some false) else some false) else some false)
def spec_IsGrant.Γ (k : Nat) : Ct κ := assoc [(74, spec_l1In.C k), (139, spec_IsPattern.C k)]
def spec_IsGrant.LH (k : Nat) : Nat → Option (LHi κ) := assoc []
theorem spec_IsGrant.hΓ (k : Nat) : ∀ f g, spec_IsGrant.Γ k f = some g → CSound Tryz.prog f g := G_cons (spec_l1In.ok k) (G_cons (spec_IsPattern.ok k) G_nil)
theorem spec_IsGrant.lok (k : Nat) : LOK ti (spec_IsGrant.Γ k) (spec_IsGrant.LH k) 0 (loopsOf (bodyOf Tryz.f119)) :=
  (show loopsOf (bodyOf Tryz.f119) = [] by kernel_rfl) ▸ LOK_nil
def spec_IsGrant.sig : List PSh := [.agg [.sc, .sc, .sc, .sc, .sc, .sc, .sc]]
def spec_IsGrant.g (y : Bool) : Ret κ := ⟨.v (.bool y), [], []⟩
def spec_IsGrant.out (r : Ret κ) : Option Bool :=
  match r with
  | ⟨.v (.bool z0), [], []⟩ => some (z0)
  | _ => none
theorem spec_IsGrant.out_ok (r : Ret κ) (y : Bool) (h : spec_IsGrant.out r = some y) : r = spec_IsGrant.g y := by
  unfold spec_IsGrant.out at h
  split at h
  · obtain rfl := Option.some.inj h
    rfl
  · cases h
def spec_IsGrant.body (k : Nat) (vs : List AV) (bs : List (Blk κ)) : Option (Lf κ) :=
  match vs, bs with
  | [.agg [.int .i64 a0_0, .int .i64 a0_1, .int .i64 a0_2, .int .i64 a0_3, .int .i64 a0_4, .int .i64 a0_5, .bool a0_6]], [] => some ⟨Bool, spec_IsGrant.f k a0_0 a0_1 a0_2 a0_3 a0_4 a0_5 a0_6, spec_IsGrant.g⟩
  | _, _ => none
def spec_IsGrant.C (k : Nat) : Nat → List AV → AP κ AV := contract spec_IsGrant.sig (spec_IsGrant.body k)
theorem spec_IsGrant.den (k : Nat) (a0_0 : Int) (a0_1 : Int) (a0_2 : Int) (a0_3 : Int) (a0_4 : Int) (a0_5 : Int) (a0_6 : Bool) : Code.den ti (spec_IsGrant.Γ k) (spec_IsGrant.LH k) (bodyOf Tryz.f119) (finK ti Tryz.f119.results.toList [] (flags spec_IsGrant.sig).length (rwI (flags spec_IsGrant.sig) 0) spec_IsGrant.out) ⟨envOf (([.agg [.int .i64 a0_0, .int .i64 a0_1, .int .i64 a0_2, .int .i64 a0_3, .int .i64 a0_4, .int .i64 a0_5, .bool a0_6]]).zipIdx.map fun q => (q.2, q.1)), hpOf [], (flags spec_IsGrant.sig).length⟩ = spec_IsGrant.f k a0_0 a0_1 a0_2 a0_3 a0_4 a0_5 a0_6 := by kernel_rfl
theorem spec_IsGrant.ok (k : Nat) : CSound Tryz.prog 119 (spec_IsGrant.C k) :=
  csound κ_ok mixed tok (spec_IsGrant.hΓ k) (LH := spec_IsGrant.LH k) (fn := Tryz.f119) (c := bodyOf Tryz.f119) Tryz.func119 rfl Tryz.call119 spec_IsGrant.sig [] (spec_IsGrant.body k) (by kernel_rfl) (spec_IsGrant.lok k) (by decide) fun vs bs lf y hl hb hy => by
    unfold spec_IsGrant.body at hb
    split at hb
    · obtain rfl := Option.some.inj hb
      exact ⟨spec_IsGrant.out, spec_IsGrant.out_ok, (spec_IsGrant.den k _ _ _ _ _ _ _).trans hy⟩
    · cases hb
/-! ### spec_IsFlow -/
def spec_IsFlow.f (k : Nat) (a0_0 : Int) (a0_1 : Int) (a0_2 : Int) : Option Bool :=
  (spec_l1In.f k a0_0 (1 : Int) (5 : Int)).bind fun t1 => (bif t1 then (spec_l1In.f k a0_1 (1 : Int) (9 : Int)).bind fun t2 => (bif t2 then (spec_l1In.f k a0_2 (1 : Int) (9 : Int)).bind fun t3 => some t3 else some false) else some false)
def spec_IsFlow.Γ (k : Nat) : Ct κ := assoc [(74, spec_l1In.C k)]
def spec_IsFlow.LH (k : Nat) : Nat → Option (LHi κ) := assoc []
theorem spec_IsFlow.hΓ (k : Nat) : ∀ f g, spec_IsFlow.Γ k f = some g → CSound Tryz.prog f g := G_cons (spec_l1In.ok k) G_nil
theorem spec_IsFlow.lok (k : Nat) : LOK ti (spec_IsFlow.Γ k) (spec_IsFlow.LH k) 0 (loopsOf (bodyOf Tryz.f120)) :=
  (show loopsOf (bodyOf Tryz.f120) = [] by kernel_rfl) ▸ LOK_nil
def spec_IsFlow.sig : List PSh := [.agg [.sc, .sc, .sc]]
def spec_IsFlow.g (y : Bool) : Ret κ := ⟨.v (.bool y), [], []⟩
def spec_IsFlow.out (r : Ret κ) : Option Bool :=
  match r with
  | ⟨.v (.bool z0), [], []⟩ => some (z0)
  | _ => none
theorem spec_IsFlow.out_ok (r : Ret κ) (y : Bool) (h : spec_IsFlow.out r = some y) : r = spec_IsFlow.g y := by
  unfold spec_IsFlow.out at h
  split at h
  · obtain rfl := Option.some.inj h
    rfl
  · cases h
def spec_IsFlow.body (k : Nat) (vs : List AV) (bs : List (Blk κ)) : Option (Lf κ) :=
  match vs, bs with
  | [.agg [.int .i64 a0_0, .int .i64 a0_1, .int .i64 a0_2]], [] => some ⟨Bool, spec_IsFlow.f k a0_0 a0_1 a0_2, spec_IsFlow.g⟩
  | _, _ => none
def spec_IsFlow.C (k : Nat) : Nat → List AV → AP κ AV := contract spec_IsFlow.sig (spec_IsFlow.body k)
theorem spec_IsFlow.den (k : Nat) (a0_0 : Int) (a0_1 : Int) (a0_2 : Int) : Code.den ti (spec_IsFlow.Γ k) (spec_IsFlow.LH k) (bodyOf Tryz.f120) (finK ti Tryz.f120.results.toList [] (flags spec_IsFlow.sig).length (rwI (flags spec_IsFlow.sig) 0) spec_IsFlow.out) ⟨envOf (([.agg [.int .i64 a0_0, .int .i64 a0_1, .int .i64 a0_2]]).zipIdx.map fun q => (q.2, q.1)), hpOf [], (flags spec_IsFlow.sig).length⟩ = spec_IsFlow.f k a0_0 a0_1 a0_2 := by kernel_rfl
theorem spec_IsFlow.ok (k : Nat) : CSound Tryz.prog 120 (spec_IsFlow.C k) :=
  csound κ_ok mixed tok (spec_IsFlow.hΓ k) (LH := spec_IsFlow.LH k) (fn := Tryz.f120) (c := bodyOf Tryz.f120) Tryz.func120 rfl Tryz.call120 spec_IsFlow.sig [] (spec_IsFlow.body k) (by kernel_rfl) (spec_IsFlow.lok k) (by decide) fun vs bs lf y hl hb hy => by
    unfold spec_IsFlow.body at hb
    split at hb
    · obtain rfl := Option.some.inj hb
      exact ⟨spec_IsFlow.out, spec_IsFlow.out_ok, (spec_IsFlow.den k _ _ _).trans hy⟩
    · cases hb
/-! ### spec_IsSite -/
def spec_IsSite.f (k : Nat) (a0_0 : Int) (a0_1 : Int) : Option Bool :=
  (spec_l1In.f k a0_0 (1 : Int) (9 : Int)).bind fun t1 => (bif t1 then (spec_l1In.f k a0_1 (0 : Int) (9 : Int)).bind fun t2 => some t2 else some false)
def spec_IsSite.Γ (k : Nat) : Ct κ := assoc [(74, spec_l1In.C k)]
def spec_IsSite.LH (k : Nat) : Nat → Option (LHi κ) := assoc []
theorem spec_IsSite.hΓ (k : Nat) : ∀ f g, spec_IsSite.Γ k f = some g → CSound Tryz.prog f g := G_cons (spec_l1In.ok k) G_nil
theorem spec_IsSite.lok (k : Nat) : LOK ti (spec_IsSite.Γ k) (spec_IsSite.LH k) 0 (loopsOf (bodyOf Tryz.f140)) :=
  (show loopsOf (bodyOf Tryz.f140) = [] by kernel_rfl) ▸ LOK_nil
def spec_IsSite.sig : List PSh := [.agg [.sc, .sc]]
def spec_IsSite.g (y : Bool) : Ret κ := ⟨.v (.bool y), [], []⟩
def spec_IsSite.out (r : Ret κ) : Option Bool :=
  match r with
  | ⟨.v (.bool z0), [], []⟩ => some (z0)
  | _ => none
theorem spec_IsSite.out_ok (r : Ret κ) (y : Bool) (h : spec_IsSite.out r = some y) : r = spec_IsSite.g y := by
  unfold spec_IsSite.out at h
  split at h
  · obtain rfl := Option.some.inj h
    rfl
  · cases h
def spec_IsSite.body (k : Nat) (vs : List AV) (bs : List (Blk κ)) : Option (Lf κ) :=
  match vs, bs with
  | [.agg [.int .i64 a0_0, .int .i64 a0_1]], [] => some ⟨Bool, spec_IsSite.f k a0_0 a0_1, spec_IsSite.g⟩
  | _, _ => none
def spec_IsSite.C (k : Nat) : Nat → List AV → AP κ AV := contract spec_IsSite.sig (spec_IsSite.body k)
theorem spec_IsSite.den (k : Nat) (a0_0 : Int) (a0_1 : Int) : Code.den ti (spec_IsSite.Γ k) (spec_IsSite.LH k) (bodyOf Tryz.f140) (finK ti Tryz.f140.results.toList [] (flags spec_IsSite.sig).length (rwI (flags spec_IsSite.sig) 0) spec_IsSite.out) ⟨envOf (([.agg [.int .i64 a0_0, .int .i64 a0_1]]).zipIdx.map fun q => (q.2, q.1)), hpOf [], (flags spec_IsSite.sig).length⟩ = spec_IsSite.f k a0_0 a0_1 := by kernel_rfl
theorem spec_IsSite.ok (k : Nat) : CSound Tryz.prog 140 (spec_IsSite.C k) :=
  csound κ_ok mixed tok (spec_IsSite.hΓ k) (LH := spec_IsSite.LH k) (fn := Tryz.f140) (c := bodyOf Tryz.f140) Tryz.func140 rfl Tryz.call140 spec_IsSite.sig [] (spec_IsSite.body k) (by kernel_rfl) (spec_IsSite.lok k) (by decide) fun vs bs lf y hl hb hy => by
    unfold spec_IsSite.body at hb
    split at hb
    · obtain rfl := Option.some.inj hb
      exact ⟨spec_IsSite.out, spec_IsSite.out_ok, (spec_IsSite.den k _ _).trans hy⟩
    · cases hb
/-! ### spec_IsRule -/
def spec_IsRule.f (k : Nat) (a0_0 : Int) (a0_1 : Int) (a0_2 : Int) (a0_3 : Int) (a0_4 : Int) (a0_5 : Int) (a0_6 : Int) (a0_7 : Int) : Option Bool :=
  (spec_l1In.f k a0_0 (1 : Int) (5 : Int)).bind fun t1 => (bif !t1 then some false else (spec_l1In.f k a0_1 (1 : Int) (9 : Int)).bind fun t2 => (bif !t2 then some false else (spec_IsPattern.f k a0_2 a0_3).bind fun t3 => (bif !t3 then some false else (spec_l1In.f k a0_4 (0 : Int) (4 : Int)).bind fun t4 => (bif !t4 then some false else (spec_l1In.f k a0_5 (1 : Int) (3 : Int)).bind fun t5 => (bif !t5 then some false else (bif (a0_5 == (3 : Int)) then (spec_IsSite.f k a0_6 a0_7).bind fun t6 => (bif t6 then some true else (bif (a0_5 != (3 : Int)) then some ((a0_6 == (0 : Int)) && (a0_7 == (0 : Int))) else some false)) else (bif (a0_5 != (3 : Int)) then some ((a0_6 == (0 : Int)) && (a0_7 == (0 : Int))) else some false)))))))
def spec_IsRule.Γ (k : Nat) : Ct κ := assoc [(74, spec_l1In.C k), (139, spec_IsPattern.C k), (140, spec_IsSite.C k)]
def spec_IsRule.LH (k : Nat) : Nat → Option (LHi κ) := assoc []
theorem spec_IsRule.hΓ (k : Nat) : ∀ f g, spec_IsRule.Γ k f = some g → CSound Tryz.prog f g := G_cons (spec_l1In.ok k) (G_cons (spec_IsPattern.ok k) (G_cons (spec_IsSite.ok k) G_nil))
theorem spec_IsRule.lok (k : Nat) : LOK ti (spec_IsRule.Γ k) (spec_IsRule.LH k) 0 (loopsOf (bodyOf Tryz.f121)) :=
  (show loopsOf (bodyOf Tryz.f121) = [] by kernel_rfl) ▸ LOK_nil
def spec_IsRule.sig : List PSh := [.agg [.sc, .sc, .sc, .sc, .sc, .sc, .sc, .sc]]
def spec_IsRule.g (y : Bool) : Ret κ := ⟨.v (.bool y), [], []⟩
def spec_IsRule.out (r : Ret κ) : Option Bool :=
  match r with
  | ⟨.v (.bool z0), [], []⟩ => some (z0)
  | _ => none
theorem spec_IsRule.out_ok (r : Ret κ) (y : Bool) (h : spec_IsRule.out r = some y) : r = spec_IsRule.g y := by
  unfold spec_IsRule.out at h
  split at h
  · obtain rfl := Option.some.inj h
    rfl
  · cases h
def spec_IsRule.body (k : Nat) (vs : List AV) (bs : List (Blk κ)) : Option (Lf κ) :=
  match vs, bs with
  | [.agg [.int .i64 a0_0, .int .i64 a0_1, .int .i64 a0_2, .int .i64 a0_3, .int .i64 a0_4, .int .i64 a0_5, .int .i64 a0_6, .int .i64 a0_7]], [] => some ⟨Bool, spec_IsRule.f k a0_0 a0_1 a0_2 a0_3 a0_4 a0_5 a0_6 a0_7, spec_IsRule.g⟩
  | _, _ => none
def spec_IsRule.C (k : Nat) : Nat → List AV → AP κ AV := contract spec_IsRule.sig (spec_IsRule.body k)
theorem spec_IsRule.den (k : Nat) (a0_0 : Int) (a0_1 : Int) (a0_2 : Int) (a0_3 : Int) (a0_4 : Int) (a0_5 : Int) (a0_6 : Int) (a0_7 : Int) : Code.den ti (spec_IsRule.Γ k) (spec_IsRule.LH k) (bodyOf Tryz.f121) (finK ti Tryz.f121.results.toList [] (flags spec_IsRule.sig).length (rwI (flags spec_IsRule.sig) 0) spec_IsRule.out) ⟨envOf (([.agg [.int .i64 a0_0, .int .i64 a0_1, .int .i64 a0_2, .int .i64 a0_3, .int .i64 a0_4, .int .i64 a0_5, .int .i64 a0_6, .int .i64 a0_7]]).zipIdx.map fun q => (q.2, q.1)), hpOf [], (flags spec_IsRule.sig).length⟩ = spec_IsRule.f k a0_0 a0_1 a0_2 a0_3 a0_4 a0_5 a0_6 a0_7 := by kernel_rfl
theorem spec_IsRule.ok (k : Nat) : CSound Tryz.prog 121 (spec_IsRule.C k) :=
  csound κ_ok mixed tok (spec_IsRule.hΓ k) (LH := spec_IsRule.LH k) (fn := Tryz.f121) (c := bodyOf Tryz.f121) Tryz.func121 rfl Tryz.call121 spec_IsRule.sig [] (spec_IsRule.body k) (by kernel_rfl) (spec_IsRule.lok k) (by decide) fun vs bs lf y hl hb hy => by
    unfold spec_IsRule.body at hb
    split at hb
    · obtain rfl := Option.some.inj hb
      exact ⟨spec_IsRule.out, spec_IsRule.out_ok, (spec_IsRule.den k _ _ _ _ _ _ _ _).trans hy⟩
    · cases hb
/-! ### spec_IsPackage -/
def spec_IsPackage.L4 {R : Type} (k : Nat) (xl0 : List T_impl_Grant) (xl1 : List T_impl_Flow) (xl2 : List T_impl_Rule) (xl3 : List T_impl_Op) (xc4_0 : Int) (xc4_1 : Int) (xc4_2 : Int) (xc4_7 : Int) (X0 : Bool → Option R) (X1 : Unit → Option R) (rec : Int → Option R) (x1 : Int) : Option R :=
  (bif decide (x1 < (xl0.length : Int)) then (bif decide (0 ≤ x1) then (bif decide (x1 < (xl0.length : Int)) then (spec_IsGrant.f k ((rd_impl_Grant xl0 x1).f0) ((rd_impl_Grant xl0 x1).f1.f0) ((rd_impl_Grant xl0 x1).f1.f1) ((rd_impl_Grant xl0 x1).f2) ((rd_impl_Grant xl0 x1).f3) ((rd_impl_Grant xl0 x1).f4) ((rd_impl_Grant xl0 x1).f5)).bind fun t5 => (bif !t5 then (X0 false) else (bif decide (0 ≤ x1) then (bif decide (x1 < (xl0.length : Int)) then (bif ((rd_impl_Grant xl0 x1).f0 != xc4_0) then (X0 false) else (rec (w64 (x1 + (1 : Int))))) else none) else none)) else none) else none) else (X1 ()))
def spec_IsPackage.l4 {R : Type} (k : Nat) (xl0 : List T_impl_Grant) (xl1 : List T_impl_Flow) (xl2 : List T_impl_Rule) (xl3 : List T_impl_Op) (xc4_0 : Int) (xc4_1 : Int) (xc4_2 : Int) (xc4_7 : Int) (X0 : Bool → Option R) (X1 : Unit → Option R) : Nat → Int → Option R
  | 0 => fun _ => none
  | n + 1 => spec_IsPackage.L4 k xl0 xl1 xl2 xl3 xc4_0 xc4_1 xc4_2 xc4_7 X0 X1 (spec_IsPackage.l4 k xl0 xl1 xl2 xl3 xc4_0 xc4_1 xc4_2 xc4_7 X0 X1 n)
def spec_IsPackage.L9 {R : Type} (k : Nat) (xl0 : List T_impl_Grant) (xl1 : List T_impl_Flow) (xl2 : List T_impl_Rule) (xl3 : List T_impl_Op) (xc4_0 : Int) (xc4_1 : Int) (xc4_2 : Int) (xc4_7 : Int) (X0 : Bool → Option R) (X1 : Unit → Option R) (rec : Int → Option R) (x1 : Int) : Option R :=
  (bif decide (x1 < (xl1.length : Int)) then (bif decide (0 ≤ x1) then (bif decide (x1 < (xl1.length : Int)) then (spec_IsFlow.f k ((rd_impl_Flow xl1 x1).f0) ((rd_impl_Flow xl1 x1).f1) ((rd_impl_Flow xl1 x1).f2)).bind fun t7 => (bif !t7 then (X0 false) else (bif decide (0 ≤ x1) then (bif decide (x1 < (xl1.length : Int)) then (bif ((rd_impl_Flow xl1 x1).f0 != xc4_0) then (X0 false) else (rec (w64 (x1 + (1 : Int))))) else none) else none)) else none) else none) else (X1 ()))
def spec_IsPackage.l9 {R : Type} (k : Nat) (xl0 : List T_impl_Grant) (xl1 : List T_impl_Flow) (xl2 : List T_impl_Rule) (xl3 : List T_impl_Op) (xc4_0 : Int) (xc4_1 : Int) (xc4_2 : Int) (xc4_7 : Int) (X0 : Bool → Option R) (X1 : Unit → Option R) : Nat → Int → Option R
  | 0 => fun _ => none
  | n + 1 => spec_IsPackage.L9 k xl0 xl1 xl2 xl3 xc4_0 xc4_1 xc4_2 xc4_7 X0 X1 (spec_IsPackage.l9 k xl0 xl1 xl2 xl3 xc4_0 xc4_1 xc4_2 xc4_7 X0 X1 n)
def spec_IsPackage.L14 {R : Type} (k : Nat) (xl0 : List T_impl_Grant) (xl1 : List T_impl_Flow) (xl2 : List T_impl_Rule) (xl3 : List T_impl_Op) (xc4_0 : Int) (xc4_1 : Int) (xc4_2 : Int) (xc4_7 : Int) (X0 : Bool → Option R) (X1 : Unit → Option R) (rec : Int → Option R) (x1 : Int) : Option R :=
  (bif decide (x1 < (xl2.length : Int)) then (bif decide (0 ≤ x1) then (bif decide (x1 < (xl2.length : Int)) then (spec_IsRule.f k ((rd_impl_Rule xl2 x1).f0) ((rd_impl_Rule xl2 x1).f1) ((rd_impl_Rule xl2 x1).f2.f0) ((rd_impl_Rule xl2 x1).f2.f1) ((rd_impl_Rule xl2 x1).f3) ((rd_impl_Rule xl2 x1).f4) ((rd_impl_Rule xl2 x1).f5.f0) ((rd_impl_Rule xl2 x1).f5.f1)).bind fun t9 => (bif !t9 then (X0 false) else (bif decide (0 ≤ x1) then (bif decide (x1 < (xl2.length : Int)) then (bif ((rd_impl_Rule xl2 x1).f0 != xc4_0) then (X0 false) else (rec (w64 (x1 + (1 : Int))))) else none) else none)) else none) else none) else (X1 ()))
def spec_IsPackage.l14 {R : Type} (k : Nat) (xl0 : List T_impl_Grant) (xl1 : List T_impl_Flow) (xl2 : List T_impl_Rule) (xl3 : List T_impl_Op) (xc4_0 : Int) (xc4_1 : Int) (xc4_2 : Int) (xc4_7 : Int) (X0 : Bool → Option R) (X1 : Unit → Option R) : Nat → Int → Option R
  | 0 => fun _ => none
  | n + 1 => spec_IsPackage.L14 k xl0 xl1 xl2 xl3 xc4_0 xc4_1 xc4_2 xc4_7 X0 X1 (spec_IsPackage.l14 k xl0 xl1 xl2 xl3 xc4_0 xc4_1 xc4_2 xc4_7 X0 X1 n)
def spec_IsPackage.f (k : Nat) (a0_0 : Int) (a0_1 : Int) (a0_2 : Int) (a0_3 : List T_impl_Grant) (a0_4 : List T_impl_Flow) (a0_5 : List T_impl_Rule) (a0_6 : List T_impl_Op) (a0_7 : Int) : Option Bool :=
  (spec_l1In.f k a0_0 (1 : Int) (5 : Int)).bind fun t1 => (bif !t1 then some false else (spec_l1In.f k a0_1 (1 : Int) (9 : Int)).bind fun t2 => (bif !t2 then some false else (spec_l1In.f k a0_2 (1 : Int) (999 : Int)).bind fun t3 => (bif !t3 then some false else (bif decide ((a0_3.length : Int) > (6 : Int)) then some false else (bif decide ((a0_4.length : Int) > (6 : Int)) then some false else (bif decide ((a0_5.length : Int) > (6 : Int)) then some false else (spec_AreOps.f k a0_6).bind fun t4 => (bif !t4 then some false else (spec_IsPackage.l4 k a0_3 a0_4 a0_5 a0_6 a0_0 a0_1 a0_2 a0_7 (fun (y6 : Bool) => some y6) (fun (_ : Unit) => (spec_IsPackage.l9 k a0_3 a0_4 a0_5 a0_6 a0_0 a0_1 a0_2 a0_7 (fun (y8 : Bool) => some y8) (fun (_ : Unit) => (spec_IsPackage.l14 k a0_3 a0_4 a0_5 a0_6 a0_0 a0_1 a0_2 a0_7 (fun (y10 : Bool) => some y10) (fun (_ : Unit) => some true) k (0 : Int))) k (0 : Int))) k (0 : Int)))))))))
def spec_IsPackage.h4 (k : Nat) {R : Type} (K : Ex → St κ → Option R) (vs : List AV) (bs : List (Blk κ)) : Option R :=
  match vs, bs with
  | [.v (.ptr 4 0 0), .v (.int .i64 x1)], [qb0, qb1, qb2, qb3, .cells 30 [.int .i64 xc4_0, .int .i64 xc4_1, .int .i64 xc4_2, .sl 0, .sl 1, .sl 2, .sl 3, .int .i64 xc4_7]] => (asO 2 false qb0).bind fun xl0 => (asO 3 false qb1).bind fun xl1 => (asO 4 false qb2).bind fun xl2 => (asO 1 false qb3).bind fun xl3 => spec_IsPackage.l4 k xl0 xl1 xl2 xl3 xc4_0 xc4_1 xc4_2 xc4_7 (fun (z1 : Bool) => K .ret (stOf [(1, [none, none, none, some 2, some 3, some 4, some 1, none]), (2, [])] [.v (.ptr 4 0 0), .v (.bool z1)] [.rows 2 false xl0, .rows 3 false xl1, .rows 4 false xl2, .rows 1 false xl3, .cells 30 [.int .i64 xc4_0, .int .i64 xc4_1, .int .i64 xc4_2, .sl 0, .sl 1, .sl 2, .sl 3, .int .i64 xc4_7]])) (fun (_ : Unit) => K (.exit 0) (stOf [(1, [none, none, none, some 2, some 3, some 4, some 1, none]), (2, [])] [.v (.ptr 4 0 0), .v .any] [.rows 2 false xl0, .rows 3 false xl1, .rows 4 false xl2, .rows 1 false xl3, .cells 30 [.int .i64 xc4_0, .int .i64 xc4_1, .int .i64 xc4_2, .sl 0, .sl 1, .sl 2, .sl 3, .int .i64 xc4_7]])) k x1
  | _, _ => none
def spec_IsPackage.h9 (k : Nat) {R : Type} (K : Ex → St κ → Option R) (vs : List AV) (bs : List (Blk κ)) : Option R :=
  match vs, bs with
  | [.v (.ptr 4 0 0), .v (.int .i64 x1)], [qb0, qb1, qb2, qb3, .cells 30 [.int .i64 xc4_0, .int .i64 xc4_1, .int .i64 xc4_2, .sl 0, .sl 1, .sl 2, .sl 3, .int .i64 xc4_7]] => (asO 2 false qb0).bind fun xl0 => (asO 3 false qb1).bind fun xl1 => (asO 4 false qb2).bind fun xl2 => (asO 1 false qb3).bind fun xl3 => spec_IsPackage.l9 k xl0 xl1 xl2 xl3 xc4_0 xc4_1 xc4_2 xc4_7 (fun (z1 : Bool) => K .ret (stOf [(1, [none, none, none, some 2, some 3, some 4, some 1, none]), (2, [])] [.v (.ptr 4 0 0), .v (.bool z1)] [.rows 2 false xl0, .rows 3 false xl1, .rows 4 false xl2, .rows 1 false xl3, .cells 30 [.int .i64 xc4_0, .int .i64 xc4_1, .int .i64 xc4_2, .sl 0, .sl 1, .sl 2, .sl 3, .int .i64 xc4_7]])) (fun (_ : Unit) => K (.exit 2) (stOf [(1, [none, none, none, some 2, some 3, some 4, some 1, none]), (2, [])] [.v (.ptr 4 0 0), .v .any] [.rows 2 false xl0, .rows 3 false xl1, .rows 4 false xl2, .rows 1 false xl3, .cells 30 [.int .i64 xc4_0, .int .i64 xc4_1, .int .i64 xc4_2, .sl 0, .sl 1, .sl 2, .sl 3, .int .i64 xc4_7]])) k x1
  | _, _ => none
def spec_IsPackage.h14 (k : Nat) {R : Type} (K : Ex → St κ → Option R) (vs : List AV) (bs : List (Blk κ)) : Option R :=
  match vs, bs with
  | [.v (.ptr 4 0 0), .v (.int .i64 x1)], [qb0, qb1, qb2, qb3, .cells 30 [.int .i64 xc4_0, .int .i64 xc4_1, .int .i64 xc4_2, .sl 0, .sl 1, .sl 2, .sl 3, .int .i64 xc4_7]] => (asO 2 false qb0).bind fun xl0 => (asO 3 false qb1).bind fun xl1 => (asO 4 false qb2).bind fun xl2 => (asO 1 false qb3).bind fun xl3 => spec_IsPackage.l14 k xl0 xl1 xl2 xl3 xc4_0 xc4_1 xc4_2 xc4_7 (fun (z0 : Bool) => K .ret (stOf [(2, [])] [.v (.bool z0)] [.rows 2 false xl0, .rows 3 false xl1, .rows 4 false xl2, .rows 1 false xl3])) (fun (_ : Unit) => K (.exit 4) (stOf [(2, [])] [.v .any] [.rows 2 false xl0, .rows 3 false xl1, .rows 4 false xl2, .rows 1 false xl3])) k x1
  | _, _ => none
def spec_IsPackage.Γ (k : Nat) : Ct κ := assoc [(74, spec_l1In.C k), (115, spec_AreOps.C k), (119, spec_IsGrant.C k), (120, spec_IsFlow.C k), (121, spec_IsRule.C k)]
def spec_IsPackage.LH (k : Nat) : Nat → Option (LHi κ) := assoc [(4, ⟨4, [(1, [none, none, none, some 2, some 3, some 4, some 1, none]), (3, [])], [(1, [none, none, none, some 2, some 3, some 4, some 1, none]), (2, [])], @spec_IsPackage.h4 k⟩), (9, ⟨4, [(1, [none, none, none, some 2, some 3, some 4, some 1, none]), (4, [])], [(1, [none, none, none, some 2, some 3, some 4, some 1, none]), (2, [])], @spec_IsPackage.h9 k⟩), (14, ⟨4, [(1, [none, none, none, some 2, some 3, some 4, some 1, none]), (5, [])], [(2, [])], @spec_IsPackage.h14 k⟩)]
theorem spec_IsPackage.hΓ (k : Nat) : ∀ f g, spec_IsPackage.Γ k f = some g → CSound Tryz.prog f g := G_cons (spec_l1In.ok k) (G_cons (spec_AreOps.ok k) (G_cons (spec_IsGrant.ok k) (G_cons (spec_IsFlow.ok k) (G_cons (spec_IsRule.ok k) G_nil))))
theorem spec_IsPackage.e4 {R : Type} (K : Ex → St κ → Option R) (k : Nat) (xl0 : List T_impl_Grant) (xl1 : List T_impl_Flow) (xl2 : List T_impl_Rule) (xl3 : List T_impl_Op) (xc4_0 : Int) (xc4_1 : Int) (xc4_2 : Int) (xc4_7 : Int) : ∀ (n : Nat) (x1 : Int), loopN 4 (Code.den ti (spec_IsPackage.Γ k) (spec_IsPackage.LH k) (loopAt Tryz.f91 0)) [(1, [none, none, none, some 2, some 3, some 4, some 1, none]), (3, [])] [(1, [none, none, none, some 2, some 3, some 4, some 1, none]), (2, [])] K n [.v (.ptr 4 0 0), .v (.int .i64 x1)] [.rows 2 false xl0, .rows 3 false xl1, .rows 4 false xl2, .rows 1 false xl3, .cells 30 [.int .i64 xc4_0, .int .i64 xc4_1, .int .i64 xc4_2, .sl 0, .sl 1, .sl 2, .sl 3, .int .i64 xc4_7]] = spec_IsPackage.l4 k xl0 xl1 xl2 xl3 xc4_0 xc4_1 xc4_2 xc4_7 (fun (z1 : Bool) => K .ret (stOf [(1, [none, none, none, some 2, some 3, some 4, some 1, none]), (2, [])] [.v (.ptr 4 0 0), .v (.bool z1)] [.rows 2 false xl0, .rows 3 false xl1, .rows 4 false xl2, .rows 1 false xl3, .cells 30 [.int .i64 xc4_0, .int .i64 xc4_1, .int .i64 xc4_2, .sl 0, .sl 1, .sl 2, .sl 3, .int .i64 xc4_7]])) (fun (_ : Unit) => K (.exit 0) (stOf [(1, [none, none, none, some 2, some 3, some 4, some 1, none]), (2, [])] [.v (.ptr 4 0 0), .v .any] [.rows 2 false xl0, .rows 3 false xl1, .rows 4 false xl2, .rows 1 false xl3, .cells 30 [.int .i64 xc4_0, .int .i64 xc4_1, .int .i64 xc4_2, .sl 0, .sl 1, .sl 2, .sl 3, .int .i64 xc4_7]])) n x1
  | 0, _ => rfl
  | n + 1, x1 => (show loopN 4 (Code.den ti (spec_IsPackage.Γ k) (spec_IsPackage.LH k) (loopAt Tryz.f91 0)) [(1, [none, none, none, some 2, some 3, some 4, some 1, none]), (3, [])] [(1, [none, none, none, some 2, some 3, some 4, some 1, none]), (2, [])] K (n + 1) [.v (.ptr 4 0 0), .v (.int .i64 x1)] [.rows 2 false xl0, .rows 3 false xl1, .rows 4 false xl2, .rows 1 false xl3, .cells 30 [.int .i64 xc4_0, .int .i64 xc4_1, .int .i64 xc4_2, .sl 0, .sl 1, .sl 2, .sl 3, .int .i64 xc4_7]] = spec_IsPackage.L4 k xl0 xl1 xl2 xl3 xc4_0 xc4_1 xc4_2 xc4_7 (fun (z1 : Bool) => K .ret (stOf [(1, [none, none, none, some 2, some 3, some 4, some 1, none]), (2, [])] [.v (.ptr 4 0 0), .v (.bool z1)] [.rows 2 false xl0, .rows 3 false xl1, .rows 4 false xl2, .rows 1 false xl3, .cells 30 [.int .i64 xc4_0, .int .i64 xc4_1, .int .i64 xc4_2, .sl 0, .sl 1, .sl 2, .sl 3, .int .i64 xc4_7]])) (fun (_ : Unit) => K (.exit 0) (stOf [(1, [none, none, none, some 2, some 3, some 4, some 1, none]), (2, [])] [.v (.ptr 4 0 0), .v .any] [.rows 2 false xl0, .rows 3 false xl1, .rows 4 false xl2, .rows 1 false xl3, .cells 30 [.int .i64 xc4_0, .int .i64 xc4_1, .int .i64 xc4_2, .sl 0, .sl 1, .sl 2, .sl 3, .int .i64 xc4_7]])) (fun (x1' : Int) => loopN 4 (Code.den ti (spec_IsPackage.Γ k) (spec_IsPackage.LH k) (loopAt Tryz.f91 0)) [(1, [none, none, none, some 2, some 3, some 4, some 1, none]), (3, [])] [(1, [none, none, none, some 2, some 3, some 4, some 1, none]), (2, [])] K n [.v (.ptr 4 0 0), .v (.int .i64 x1')] [.rows 2 false xl0, .rows 3 false xl1, .rows 4 false xl2, .rows 1 false xl3, .cells 30 [.int .i64 xc4_0, .int .i64 xc4_1, .int .i64 xc4_2, .sl 0, .sl 1, .sl 2, .sl 3, .int .i64 xc4_7]]) x1 by kernel_rfl).trans (congrArg (fun rec => spec_IsPackage.L4 k xl0 xl1 xl2 xl3 xc4_0 xc4_1 xc4_2 xc4_7 (fun (z1 : Bool) => K .ret (stOf [(1, [none, none, none, some 2, some 3, some 4, some 1, none]), (2, [])] [.v (.ptr 4 0 0), .v (.bool z1)] [.rows 2 false xl0, .rows 3 false xl1, .rows 4 false xl2, .rows 1 false xl3, .cells 30 [.int .i64 xc4_0, .int .i64 xc4_1, .int .i64 xc4_2, .sl 0, .sl 1, .sl 2, .sl 3, .int .i64 xc4_7]])) (fun (_ : Unit) => K (.exit 0) (stOf [(1, [none, none, none, some 2, some 3, some 4, some 1, none]), (2, [])] [.v (.ptr 4 0 0), .v .any] [.rows 2 false xl0, .rows 3 false xl1, .rows 4 false xl2, .rows 1 false xl3, .cells 30 [.int .i64 xc4_0, .int .i64 xc4_1, .int .i64 xc4_2, .sl 0, .sl 1, .sl 2, .sl 3, .int .i64 xc4_7]])) rec x1) (funext fun x1' => spec_IsPackage.e4 K k xl0 xl1 xl2 xl3 xc4_0 xc4_1 xc4_2 xc4_7 n x1'))
theorem spec_IsPackage.q4 (k : Nat) {R : Type} (K : Ex → St κ → Option R) (vs : List AV) (bs : List (Blk κ)) (r : R) (h : spec_IsPackage.h4 k K vs bs = some r) : ∃ n, loopN 4 (Code.den ti (spec_IsPackage.Γ k) (spec_IsPackage.LH k) (loopAt Tryz.f91 0)) [(1, [none, none, none, some 2, some 3, some 4, some 1, none]), (3, [])] [(1, [none, none, none, some 2, some 3, some 4, some 1, none]), (2, [])] K n vs bs = some r := by
  unfold spec_IsPackage.h4 at h
  split at h
  · obtain ⟨_, rfl, h_1⟩ := asO_bind h
    obtain ⟨_, rfl, h_2⟩ := asO_bind h_1
    obtain ⟨_, rfl, h_3⟩ := asO_bind h_2
    obtain ⟨_, rfl, h_4⟩ := asO_bind h_3
    exact ⟨k, (spec_IsPackage.e4 K k _ _ _ _ _ _ _ _ k _).trans h_4⟩
  · cases h
theorem spec_IsPackage.e9 {R : Type} (K : Ex → St κ → Option R) (k : Nat) (xl0 : List T_impl_Grant) (xl1 : List T_impl_Flow) (xl2 : List T_impl_Rule) (xl3 : List T_impl_Op) (xc4_0 : Int) (xc4_1 : Int) (xc4_2 : Int) (xc4_7 : Int) : ∀ (n : Nat) (x1 : Int), loopN 4 (Code.den ti (spec_IsPackage.Γ k) (spec_IsPackage.LH k) (loopAt Tryz.f91 1)) [(1, [none, none, none, some 2, some 3, some 4, some 1, none]), (4, [])] [(1, [none, none, none, some 2, some 3, some 4, some 1, none]), (2, [])] K n [.v (.ptr 4 0 0), .v (.int .i64 x1)] [.rows 2 false xl0, .rows 3 false xl1, .rows 4 false xl2, .rows 1 false xl3, .cells 30 [.int .i64 xc4_0, .int .i64 xc4_1, .int .i64 xc4_2, .sl 0, .sl 1, .sl 2, .sl 3, .int .i64 xc4_7]] = spec_IsPackage.l9 k xl0 xl1 xl2 xl3 xc4_0 xc4_1 xc4_2 xc4_7 (fun (z1 : Bool) => K .ret (stOf [(1, [none, none, none, some 2, some 3, some 4, some 1, none]), (2, [])] [.v (.ptr 4 0 0), .v (.bool z1)] [.rows 2 false xl0, .rows 3 false xl1, .rows 4 false xl2, .rows 1 false xl3, .cells 30 [.int .i64 xc4_0, .int .i64 xc4_1, .int .i64 xc4_2, .sl 0, .sl 1, .sl 2, .sl 3, .int .i64 xc4_7]])) (fun (_ : Unit) => K (.exit 2) (stOf [(1, [none, none, none, some 2, some 3, some 4, some 1, none]), (2, [])] [.v (.ptr 4 0 0), .v .any] [.rows 2 false xl0, .rows 3 false xl1, .rows 4 false xl2, .rows 1 false xl3, .cells 30 [.int .i64 xc4_0, .int .i64 xc4_1, .int .i64 xc4_2, .sl 0, .sl 1, .sl 2, .sl 3, .int .i64 xc4_7]])) n x1
  | 0, _ => rfl
  | n + 1, x1 => (show loopN 4 (Code.den ti (spec_IsPackage.Γ k) (spec_IsPackage.LH k) (loopAt Tryz.f91 1)) [(1, [none, none, none, some 2, some 3, some 4, some 1, none]), (4, [])] [(1, [none, none, none, some 2, some 3, some 4, some 1, none]), (2, [])] K (n + 1) [.v (.ptr 4 0 0), .v (.int .i64 x1)] [.rows 2 false xl0, .rows 3 false xl1, .rows 4 false xl2, .rows 1 false xl3, .cells 30 [.int .i64 xc4_0, .int .i64 xc4_1, .int .i64 xc4_2, .sl 0, .sl 1, .sl 2, .sl 3, .int .i64 xc4_7]] = spec_IsPackage.L9 k xl0 xl1 xl2 xl3 xc4_0 xc4_1 xc4_2 xc4_7 (fun (z1 : Bool) => K .ret (stOf [(1, [none, none, none, some 2, some 3, some 4, some 1, none]), (2, [])] [.v (.ptr 4 0 0), .v (.bool z1)] [.rows 2 false xl0, .rows 3 false xl1, .rows 4 false xl2, .rows 1 false xl3, .cells 30 [.int .i64 xc4_0, .int .i64 xc4_1, .int .i64 xc4_2, .sl 0, .sl 1, .sl 2, .sl 3, .int .i64 xc4_7]])) (fun (_ : Unit) => K (.exit 2) (stOf [(1, [none, none, none, some 2, some 3, some 4, some 1, none]), (2, [])] [.v (.ptr 4 0 0), .v .any] [.rows 2 false xl0, .rows 3 false xl1, .rows 4 false xl2, .rows 1 false xl3, .cells 30 [.int .i64 xc4_0, .int .i64 xc4_1, .int .i64 xc4_2, .sl 0, .sl 1, .sl 2, .sl 3, .int .i64 xc4_7]])) (fun (x1' : Int) => loopN 4 (Code.den ti (spec_IsPackage.Γ k) (spec_IsPackage.LH k) (loopAt Tryz.f91 1)) [(1, [none, none, none, some 2, some 3, some 4, some 1, none]), (4, [])] [(1, [none, none, none, some 2, some 3, some 4, some 1, none]), (2, [])] K n [.v (.ptr 4 0 0), .v (.int .i64 x1')] [.rows 2 false xl0, .rows 3 false xl1, .rows 4 false xl2, .rows 1 false xl3, .cells 30 [.int .i64 xc4_0, .int .i64 xc4_1, .int .i64 xc4_2, .sl 0, .sl 1, .sl 2, .sl 3, .int .i64 xc4_7]]) x1 by kernel_rfl).trans (congrArg (fun rec => spec_IsPackage.L9 k xl0 xl1 xl2 xl3 xc4_0 xc4_1 xc4_2 xc4_7 (fun (z1 : Bool) => K .ret (stOf [(1, [none, none, none, some 2, some 3, some 4, some 1, none]), (2, [])] [.v (.ptr 4 0 0), .v (.bool z1)] [.rows 2 false xl0, .rows 3 false xl1, .rows 4 false xl2, .rows 1 false xl3, .cells 30 [.int .i64 xc4_0, .int .i64 xc4_1, .int .i64 xc4_2, .sl 0, .sl 1, .sl 2, .sl 3, .int .i64 xc4_7]])) (fun (_ : Unit) => K (.exit 2) (stOf [(1, [none, none, none, some 2, some 3, some 4, some 1, none]), (2, [])] [.v (.ptr 4 0 0), .v .any] [.rows 2 false xl0, .rows 3 false xl1, .rows 4 false xl2, .rows 1 false xl3, .cells 30 [.int .i64 xc4_0, .int .i64 xc4_1, .int .i64 xc4_2, .sl 0, .sl 1, .sl 2, .sl 3, .int .i64 xc4_7]])) rec x1) (funext fun x1' => spec_IsPackage.e9 K k xl0 xl1 xl2 xl3 xc4_0 xc4_1 xc4_2 xc4_7 n x1'))
theorem spec_IsPackage.q9 (k : Nat) {R : Type} (K : Ex → St κ → Option R) (vs : List AV) (bs : List (Blk κ)) (r : R) (h : spec_IsPackage.h9 k K vs bs = some r) : ∃ n, loopN 4 (Code.den ti (spec_IsPackage.Γ k) (spec_IsPackage.LH k) (loopAt Tryz.f91 1)) [(1, [none, none, none, some 2, some 3, some 4, some 1, none]), (4, [])] [(1, [none, none, none, some 2, some 3, some 4, some 1, none]), (2, [])] K n vs bs = some r := by
  unfold spec_IsPackage.h9 at h
  split at h
  · obtain ⟨_, rfl, h_1⟩ := asO_bind h
    obtain ⟨_, rfl, h_2⟩ := asO_bind h_1
    obtain ⟨_, rfl, h_3⟩ := asO_bind h_2
    obtain ⟨_, rfl, h_4⟩ := asO_bind h_3
    exact ⟨k, (spec_IsPackage.e9 K k _ _ _ _ _ _ _ _ k _).trans h_4⟩
  · cases h
theorem spec_IsPackage.e14 {R : Type} (K : Ex → St κ → Option R) (k : Nat) (xl0 : List T_impl_Grant) (xl1 : List T_impl_Flow) (xl2 : List T_impl_Rule) (xl3 : List T_impl_Op) (xc4_0 : Int) (xc4_1 : Int) (xc4_2 : Int) (xc4_7 : Int) : ∀ (n : Nat) (x1 : Int), loopN 4 (Code.den ti (spec_IsPackage.Γ k) (spec_IsPackage.LH k) (loopAt Tryz.f91 2)) [(1, [none, none, none, some 2, some 3, some 4, some 1, none]), (5, [])] [(2, [])] K n [.v (.ptr 4 0 0), .v (.int .i64 x1)] [.rows 2 false xl0, .rows 3 false xl1, .rows 4 false xl2, .rows 1 false xl3, .cells 30 [.int .i64 xc4_0, .int .i64 xc4_1, .int .i64 xc4_2, .sl 0, .sl 1, .sl 2, .sl 3, .int .i64 xc4_7]] = spec_IsPackage.l14 k xl0 xl1 xl2 xl3 xc4_0 xc4_1 xc4_2 xc4_7 (fun (z0 : Bool) => K .ret (stOf [(2, [])] [.v (.bool z0)] [.rows 2 false xl0, .rows 3 false xl1, .rows 4 false xl2, .rows 1 false xl3])) (fun (_ : Unit) => K (.exit 4) (stOf [(2, [])] [.v .any] [.rows 2 false xl0, .rows 3 false xl1, .rows 4 false xl2, .rows 1 false xl3])) n x1
  | 0, _ => rfl
  | n + 1, x1 => (show loopN 4 (Code.den ti (spec_IsPackage.Γ k) (spec_IsPackage.LH k) (loopAt Tryz.f91 2)) [(1, [none, none, none, some 2, some 3, some 4, some 1, none]), (5, [])] [(2, [])] K (n + 1) [.v (.ptr 4 0 0), .v (.int .i64 x1)] [.rows 2 false xl0, .rows 3 false xl1, .rows 4 false xl2, .rows 1 false xl3, .cells 30 [.int .i64 xc4_0, .int .i64 xc4_1, .int .i64 xc4_2, .sl 0, .sl 1, .sl 2, .sl 3, .int .i64 xc4_7]] = spec_IsPackage.L14 k xl0 xl1 xl2 xl3 xc4_0 xc4_1 xc4_2 xc4_7 (fun (z0 : Bool) => K .ret (stOf [(2, [])] [.v (.bool z0)] [.rows 2 false xl0, .rows 3 false xl1, .rows 4 false xl2, .rows 1 false xl3])) (fun (_ : Unit) => K (.exit 4) (stOf [(2, [])] [.v .any] [.rows 2 false xl0, .rows 3 false xl1, .rows 4 false xl2, .rows 1 false xl3])) (fun (x1' : Int) => loopN 4 (Code.den ti (spec_IsPackage.Γ k) (spec_IsPackage.LH k) (loopAt Tryz.f91 2)) [(1, [none, none, none, some 2, some 3, some 4, some 1, none]), (5, [])] [(2, [])] K n [.v (.ptr 4 0 0), .v (.int .i64 x1')] [.rows 2 false xl0, .rows 3 false xl1, .rows 4 false xl2, .rows 1 false xl3, .cells 30 [.int .i64 xc4_0, .int .i64 xc4_1, .int .i64 xc4_2, .sl 0, .sl 1, .sl 2, .sl 3, .int .i64 xc4_7]]) x1 by kernel_rfl).trans (congrArg (fun rec => spec_IsPackage.L14 k xl0 xl1 xl2 xl3 xc4_0 xc4_1 xc4_2 xc4_7 (fun (z0 : Bool) => K .ret (stOf [(2, [])] [.v (.bool z0)] [.rows 2 false xl0, .rows 3 false xl1, .rows 4 false xl2, .rows 1 false xl3])) (fun (_ : Unit) => K (.exit 4) (stOf [(2, [])] [.v .any] [.rows 2 false xl0, .rows 3 false xl1, .rows 4 false xl2, .rows 1 false xl3])) rec x1) (funext fun x1' => spec_IsPackage.e14 K k xl0 xl1 xl2 xl3 xc4_0 xc4_1 xc4_2 xc4_7 n x1'))
theorem spec_IsPackage.q14 (k : Nat) {R : Type} (K : Ex → St κ → Option R) (vs : List AV) (bs : List (Blk κ)) (r : R) (h : spec_IsPackage.h14 k K vs bs = some r) : ∃ n, loopN 4 (Code.den ti (spec_IsPackage.Γ k) (spec_IsPackage.LH k) (loopAt Tryz.f91 2)) [(1, [none, none, none, some 2, some 3, some 4, some 1, none]), (5, [])] [(2, [])] K n vs bs = some r := by
  unfold spec_IsPackage.h14 at h
  split at h
  · obtain ⟨_, rfl, h_1⟩ := asO_bind h
    obtain ⟨_, rfl, h_2⟩ := asO_bind h_1
    obtain ⟨_, rfl, h_3⟩ := asO_bind h_2
    obtain ⟨_, rfl, h_4⟩ := asO_bind h_3
    exact ⟨k, (spec_IsPackage.e14 K k _ _ _ _ _ _ _ _ k _).trans h_4⟩
  · cases h
theorem spec_IsPackage.lok (k : Nat) : LOK ti (spec_IsPackage.Γ k) (spec_IsPackage.LH k) 4 (loopsOf (bodyOf Tryz.f91)) :=
  (show loopsOf (bodyOf Tryz.f91) = [loopAt Tryz.f91 0, loopAt Tryz.f91 1, loopAt Tryz.f91 2] by kernel_rfl) ▸ (LOK_cons (g := ⟨4, [(1, [none, none, none, some 2, some 3, some 4, some 1, none]), (3, [])], [(1, [none, none, none, some 2, some 3, some 4, some 1, none]), (2, [])], @spec_IsPackage.h4 k⟩) (by kernel_rfl) rfl (fun K vs xs r h => spec_IsPackage.q4 k K vs xs r h) (LOK_cons (g := ⟨4, [(1, [none, none, none, some 2, some 3, some 4, some 1, none]), (4, [])], [(1, [none, none, none, some 2, some 3, some 4, some 1, none]), (2, [])], @spec_IsPackage.h9 k⟩) (by kernel_rfl) rfl (fun K vs xs r h => spec_IsPackage.q9 k K vs xs r h) (LOK_cons (g := ⟨4, [(1, [none, none, none, some 2, some 3, some 4, some 1, none]), (5, [])], [(2, [])], @spec_IsPackage.h14 k⟩) (by kernel_rfl) rfl (fun K vs xs r h => spec_IsPackage.q14 k K vs xs r h) (LOK_nil))))
def spec_IsPackage.sig : List PSh := [.agg [.sc, .sc, .sc, .ro 2, .ro 3, .ro 4, .ro 1, .sc]]
def spec_IsPackage.g (y : Bool) : Ret κ := ⟨.v (.bool y), [], []⟩
def spec_IsPackage.out (r : Ret κ) : Option Bool :=
  match r with
  | ⟨.v (.bool z0), [], []⟩ => some (z0)
  | _ => none
theorem spec_IsPackage.out_ok (r : Ret κ) (y : Bool) (h : spec_IsPackage.out r = some y) : r = spec_IsPackage.g y := by
  unfold spec_IsPackage.out at h
  split at h
  · obtain rfl := Option.some.inj h
    rfl
  · cases h
def spec_IsPackage.body (k : Nat) (vs : List AV) (bs : List (Blk κ)) : Option (Lf κ) :=
  match vs, bs with
  | [.agg [.int .i64 a0_0, .int .i64 a0_1, .int .i64 a0_2, .sl 0, .sl 1, .sl 2, .sl 3, .int .i64 a0_7]], [qb0, qb1, qb2, qb3] => (asO 2 false qb0).bind fun a0_3 => (asO 3 false qb1).bind fun a0_4 => (asO 4 false qb2).bind fun a0_5 => (asO 1 false qb3).bind fun a0_6 => some ⟨Bool, spec_IsPackage.f k a0_0 a0_1 a0_2 a0_3 a0_4 a0_5 a0_6 a0_7, spec_IsPackage.g⟩
  | _, _ => none
def spec_IsPackage.C (k : Nat) : Nat → List AV → AP κ AV := contract spec_IsPackage.sig (spec_IsPackage.body k)
theorem spec_IsPackage.den (k : Nat) (a0_0 : Int) (a0_1 : Int) (a0_2 : Int) (a0_3 : List T_impl_Grant) (a0_4 : List T_impl_Flow) (a0_5 : List T_impl_Rule) (a0_6 : List T_impl_Op) (a0_7 : Int) : Code.den ti (spec_IsPackage.Γ k) (spec_IsPackage.LH k) (bodyOf Tryz.f91) (finK ti Tryz.f91.results.toList [] (flags spec_IsPackage.sig).length (rwI (flags spec_IsPackage.sig) 0) spec_IsPackage.out) ⟨envOf (([.agg [.int .i64 a0_0, .int .i64 a0_1, .int .i64 a0_2, .sl 0, .sl 1, .sl 2, .sl 3, .int .i64 a0_7]]).zipIdx.map fun q => (q.2, q.1)), hpOf [.rows 2 false a0_3, .rows 3 false a0_4, .rows 4 false a0_5, .rows 1 false a0_6], (flags spec_IsPackage.sig).length⟩ = spec_IsPackage.f k a0_0 a0_1 a0_2 a0_3 a0_4 a0_5 a0_6 a0_7 := by kernel_rfl
theorem spec_IsPackage.ok (k : Nat) : CSound Tryz.prog 91 (spec_IsPackage.C k) :=
  csound κ_ok mixed tok (spec_IsPackage.hΓ k) (LH := spec_IsPackage.LH k) (fn := Tryz.f91) (c := bodyOf Tryz.f91) Tryz.func91 rfl Tryz.call91 spec_IsPackage.sig [] (spec_IsPackage.body k) (by kernel_rfl) (spec_IsPackage.lok k) (by decide) fun vs bs lf y hl hb hy => by
    unfold spec_IsPackage.body at hb
    split at hb
    · obtain ⟨_, rfl, hb_1⟩ := asO_bind hb
      obtain ⟨_, rfl, hb_2⟩ := asO_bind hb_1
      obtain ⟨_, rfl, hb_3⟩ := asO_bind hb_2
      obtain ⟨_, rfl, hb_4⟩ := asO_bind hb_3
      obtain rfl := Option.some.inj hb_4
      exact ⟨spec_IsPackage.out, spec_IsPackage.out_ok, (spec_IsPackage.den k _ _ _ _ _ _ _ _).trans hy⟩
    · cases hb
/-! ### spec_PackageInts -/
def spec_PackageInts.L5 {R : Type} (k : Nat) (xl0 : List T_impl_Grant) (xl1 : List T_impl_Flow) (xl2 : List T_impl_Rule) (xl3 : List T_impl_Op) (xc4_0 : Int) (xc4_1 : Int) (xc4_2 : Int) (xc4_7 : Int) (X0 : List Int → Option R) (rec : Int → List Int → Option R) (x2 : Int) (xl5 : List Int) : Option R :=
  (bif decide (x2 < (xl0.length : Int)) then (bif decide (0 ≤ x2) then (bif decide (x2 < (xl0.length : Int)) then (bif (rd_impl_Grant xl0 x2).f5 then (bif decide ((xl5.length + ([(rd_impl_Grant xl0 x2).f1.f0, (rd_impl_Grant xl0 x2).f1.f1, (rd_impl_Grant xl0 x2).f2, (rd_impl_Grant xl0 x2).f3, (rd_impl_Grant xl0 x2).f4, (1 : Int)] : List Int).length) * 8 ≤ cap48) then (let l2 : List Int := (xl5 ++ ([(rd_impl_Grant xl0 x2).f1.f0, (rd_impl_Grant xl0 x2).f1.f1, (rd_impl_Grant xl0 x2).f2, (rd_impl_Grant xl0 x2).f3, (rd_impl_Grant xl0 x2).f4, (1 : Int)] : List Int)); (rec (w64 (x2 + (1 : Int))) l2)) else none) else (bif decide ((xl5.length + ([(rd_impl_Grant xl0 x2).f1.f0, (rd_impl_Grant xl0 x2).f1.f1, (rd_impl_Grant xl0 x2).f2, (rd_impl_Grant xl0 x2).f3, (rd_impl_Grant xl0 x2).f4, (0 : Int)] : List Int).length) * 8 ≤ cap48) then (let l3 : List Int := (xl5 ++ ([(rd_impl_Grant xl0 x2).f1.f0, (rd_impl_Grant xl0 x2).f1.f1, (rd_impl_Grant xl0 x2).f2, (rd_impl_Grant xl0 x2).f3, (rd_impl_Grant xl0 x2).f4, (0 : Int)] : List Int)); (rec (w64 (x2 + (1 : Int))) l3)) else none)) else none) else none) else (X0 xl5))
def spec_PackageInts.l5 {R : Type} (k : Nat) (xl0 : List T_impl_Grant) (xl1 : List T_impl_Flow) (xl2 : List T_impl_Rule) (xl3 : List T_impl_Op) (xc4_0 : Int) (xc4_1 : Int) (xc4_2 : Int) (xc4_7 : Int) (X0 : List Int → Option R) : Nat → Int → List Int → Option R
  | 0 => fun _ _ => none
  | n + 1 => spec_PackageInts.L5 k xl0 xl1 xl2 xl3 xc4_0 xc4_1 xc4_2 xc4_7 X0 (spec_PackageInts.l5 k xl0 xl1 xl2 xl3 xc4_0 xc4_1 xc4_2 xc4_7 X0 n)
def spec_PackageInts.L14 {R : Type} (k : Nat) (xl0 : List T_impl_Grant) (xl1 : List T_impl_Flow) (xl2 : List T_impl_Rule) (xl3 : List T_impl_Op) (xc4_0 : Int) (xc4_1 : Int) (xc4_2 : Int) (xc4_7 : Int) (X0 : List Int → Option R) (rec : Int → List Int → Option R) (x2 : Int) (xl5 : List Int) : Option R :=
  (bif decide (x2 < (xl1.length : Int)) then (bif decide (0 ≤ x2) then (bif decide (x2 < (xl1.length : Int)) then (bif decide (0 ≤ x2) then (bif decide (x2 < (xl1.length : Int)) then (bif decide ((xl5.length + ([(rd_impl_Flow xl1 x2).f1, (rd_impl_Flow xl1 x2).f2] : List Int).length) * 8 ≤ cap48) then (let l5 : List Int := (xl5 ++ ([(rd_impl_Flow xl1 x2).f1, (rd_impl_Flow xl1 x2).f2] : List Int)); (rec (w64 (x2 + (1 : Int))) l5)) else none) else none) else none) else none) else none) else (X0 xl5))
def spec_PackageInts.l14 {R : Type} (k : Nat) (xl0 : List T_impl_Grant) (xl1 : List T_impl_Flow) (xl2 : List T_impl_Rule) (xl3 : List T_impl_Op) (xc4_0 : Int) (xc4_1 : Int) (xc4_2 : Int) (xc4_7 : Int) (X0 : List Int → Option R) : Nat → Int → List Int → Option R
  | 0 => fun _ _ => none
  | n + 1 => spec_PackageInts.L14 k xl0 xl1 xl2 xl3 xc4_0 xc4_1 xc4_2 xc4_7 X0 (spec_PackageInts.l14 k xl0 xl1 xl2 xl3 xc4_0 xc4_1 xc4_2 xc4_7 X0 n)
def spec_PackageInts.L19 {R : Type} (k : Nat) (xl0 : List T_impl_Grant) (xl1 : List T_impl_Flow) (xl2 : List T_impl_Rule) (xl3 : List T_impl_Op) (xc4_0 : Int) (xc4_1 : Int) (xc4_2 : Int) (xc4_7 : Int) (X0 : List Int → Option R) (rec : Int → List Int → Option R) (x2 : Int) (xl5 : List Int) : Option R :=
  (bif decide (x2 < (xl2.length : Int)) then (bif decide (0 ≤ x2) then (bif decide (x2 < (xl2.length : Int)) then (bif decide ((xl5.length + ([(rd_impl_Rule xl2 x2).f1, (rd_impl_Rule xl2 x2).f2.f0, (rd_impl_Rule xl2 x2).f2.f1, (rd_impl_Rule xl2 x2).f3, (rd_impl_Rule xl2 x2).f4, (rd_impl_Rule xl2 x2).f5.f0, (rd_impl_Rule xl2 x2).f5.f1] : List Int).length) * 8 ≤ cap48) then (let l7 : List Int := (xl5 ++ ([(rd_impl_Rule xl2 x2).f1, (rd_impl_Rule xl2 x2).f2.f0, (rd_impl_Rule xl2 x2).f2.f1, (rd_impl_Rule xl2 x2).f3, (rd_impl_Rule xl2 x2).f4, (rd_impl_Rule xl2 x2).f5.f0, (rd_impl_Rule xl2 x2).f5.f1] : List Int)); (rec (w64 (x2 + (1 : Int))) l7)) else none) else none) else none) else (X0 xl5))
def spec_PackageInts.l19 {R : Type} (k : Nat) (xl0 : List T_impl_Grant) (xl1 : List T_impl_Flow) (xl2 : List T_impl_Rule) (xl3 : List T_impl_Op) (xc4_0 : Int) (xc4_1 : Int) (xc4_2 : Int) (xc4_7 : Int) (X0 : List Int → Option R) : Nat → Int → List Int → Option R
  | 0 => fun _ _ => none
  | n + 1 => spec_PackageInts.L19 k xl0 xl1 xl2 xl3 xc4_0 xc4_1 xc4_2 xc4_7 X0 (spec_PackageInts.l19 k xl0 xl1 xl2 xl3 xc4_0 xc4_1 xc4_2 xc4_7 X0 n)
def spec_PackageInts.L25 {R : Type} (k : Nat) (xl0 : List T_impl_Grant) (xl1 : List T_impl_Flow) (xl2 : List T_impl_Rule) (xl3 : List T_impl_Op) (xc4_0 : Int) (xc4_1 : Int) (xc4_2 : Int) (xc4_7 : Int) (X0 : List Int → Option R) (rec : Int → List Int → Option R) (x2 : Int) (xl5 : List Int) : Option R :=
  (bif decide (x2 < (xl3.length : Int)) then (bif decide (0 ≤ x2) then (bif decide (x2 < (xl3.length : Int)) then (bif decide (0 ≤ x2) then (bif decide (x2 < (xl3.length : Int)) then (bif decide (0 ≤ x2) then (bif decide (x2 < (xl3.length : Int)) then (bif decide (0 ≤ x2) then (bif decide (x2 < (xl3.length : Int)) then (bif decide ((xl5.length + ([(rd_impl_Op xl3 x2).f0, (rd_impl_Op xl3 x2).f1, (rd_impl_Op xl3 x2).f2, (rd_impl_Op xl3 x2).f3] : List Int).length) * 8 ≤ cap48) then (let l9 : List Int := (xl5 ++ ([(rd_impl_Op xl3 x2).f0, (rd_impl_Op xl3 x2).f1, (rd_impl_Op xl3 x2).f2, (rd_impl_Op xl3 x2).f3] : List Int)); (rec (w64 (x2 + (1 : Int))) l9)) else none) else none) else none) else none) else none) else none) else none) else none) else none) else (X0 xl5))
def spec_PackageInts.l25 {R : Type} (k : Nat) (xl0 : List T_impl_Grant) (xl1 : List T_impl_Flow) (xl2 : List T_impl_Rule) (xl3 : List T_impl_Op) (xc4_0 : Int) (xc4_1 : Int) (xc4_2 : Int) (xc4_7 : Int) (X0 : List Int → Option R) : Nat → Int → List Int → Option R
  | 0 => fun _ _ => none
  | n + 1 => spec_PackageInts.L25 k xl0 xl1 xl2 xl3 xc4_0 xc4_1 xc4_2 xc4_7 X0 (spec_PackageInts.l25 k xl0 xl1 xl2 xl3 xc4_0 xc4_1 xc4_2 xc4_7 X0 n)
def spec_PackageInts.f (k : Nat) (a0_0 : Int) (a0_1 : Int) (a0_2 : Int) (a0_3 : List T_impl_Grant) (a0_4 : List T_impl_Flow) (a0_5 : List T_impl_Rule) (a0_6 : List T_impl_Op) (a0_7 : Int) : Option (List Int) :=
  (spec_IsPackage.f k a0_0 a0_1 a0_2 a0_3 a0_4 a0_5 a0_6 a0_7).bind fun t1 => (bif !t1 then some ([] : List Int) else (spec_PackageInts.l5 k a0_3 a0_4 a0_5 a0_6 a0_0 a0_1 a0_2 a0_7 (fun (y4 : List Int) => (bif decide ((y4.length + ([(a0_4.length : Int)] : List Int).length) * 8 ≤ cap48) then (spec_PackageInts.l14 k a0_3 a0_4 a0_5 a0_6 a0_0 a0_1 a0_2 a0_7 (fun (y6 : List Int) => (bif decide ((y6.length + ([(a0_5.length : Int)] : List Int).length) * 8 ≤ cap48) then (spec_PackageInts.l19 k a0_3 a0_4 a0_5 a0_6 a0_0 a0_1 a0_2 a0_7 (fun (y8 : List Int) => (bif decide ((y8.length + ([(a0_6.length : Int)] : List Int).length) * 8 ≤ cap48) then (spec_PackageInts.l25 k a0_3 a0_4 a0_5 a0_6 a0_0 a0_1 a0_2 a0_7 (fun (y10 : List Int) => some y10) k (0 : Int) (y8 ++ ([(a0_6.length : Int)] : List Int))) else none)) k (0 : Int) (y6 ++ ([(a0_5.length : Int)] : List Int))) else none)) k (0 : Int) (y4 ++ ([(a0_4.length : Int)] : List Int))) else none)) k (0 : Int) ([a0_0, a0_1, a0_2, (a0_3.length : Int)] : List Int)))
def spec_PackageInts.h5 (k : Nat) {R : Type} (K : Ex → St κ → Option R) (vs : List AV) (bs : List (Blk κ)) : Option R :=
  match vs, bs with
  | [.v (.ptr 4 0 0), .v (.sl 5), .v (.int .i64 x2)], [qb0, qb1, qb2, qb3, .cells 30 [.int .i64 xc4_0, .int .i64 xc4_1, .int .i64 xc4_2, .sl 0, .sl 1, .sl 2, .sl 3, .int .i64 xc4_7], qb5] => (asO 2 false qb0).bind fun xl0 => (asO 3 false qb1).bind fun xl1 => (asO 4 false qb2).bind fun xl2 => (asO 1 false qb3).bind fun xl3 => (asO 5 true qb5).bind fun xl5 => spec_PackageInts.l5 k xl0 xl1 xl2 xl3 xc4_0 xc4_1 xc4_2 xc4_7 (fun (zl5 : List Int) => K (.exit 0) (stOf [(1, [none, none, none, some 2, some 3, some 4, some 1, none]), (3, [some 5])] [.v (.ptr 4 0 0), .v (.sl 5)] [.rows 2 false xl0, .rows 3 false xl1, .rows 4 false xl2, .rows 1 false xl3, .cells 30 [.int .i64 xc4_0, .int .i64 xc4_1, .int .i64 xc4_2, .sl 0, .sl 1, .sl 2, .sl 3, .int .i64 xc4_7], .rows 5 true zl5])) k x2 xl5
  | _, _ => none
def spec_PackageInts.h14 (k : Nat) {R : Type} (K : Ex → St κ → Option R) (vs : List AV) (bs : List (Blk κ)) : Option R :=
  match vs, bs with
  | [.v (.ptr 4 0 0), .v (.sl 5), .v (.int .i64 x2)], [qb0, qb1, qb2, qb3, .cells 30 [.int .i64 xc4_0, .int .i64 xc4_1, .int .i64 xc4_2, .sl 0, .sl 1, .sl 2, .sl 3, .int .i64 xc4_7], qb5] => (asO 2 false qb0).bind fun xl0 => (asO 3 false qb1).bind fun xl1 => (asO 4 false qb2).bind fun xl2 => (asO 1 false qb3).bind fun xl3 => (asO 5 true qb5).bind fun xl5 => spec_PackageInts.l14 k xl0 xl1 xl2 xl3 xc4_0 xc4_1 xc4_2 xc4_7 (fun (zl5 : List Int) => K (.exit 2) (stOf [(1, [none, none, none, some 2, some 3, some 4, some 1, none]), (3, [some 5])] [.v (.ptr 4 0 0), .v (.sl 5)] [.rows 2 false xl0, .rows 3 false xl1, .rows 4 false xl2, .rows 1 false xl3, .cells 30 [.int .i64 xc4_0, .int .i64 xc4_1, .int .i64 xc4_2, .sl 0, .sl 1, .sl 2, .sl 3, .int .i64 xc4_7], .rows 5 true zl5])) k x2 xl5
  | _, _ => none
def spec_PackageInts.h19 (k : Nat) {R : Type} (K : Ex → St κ → Option R) (vs : List AV) (bs : List (Blk κ)) : Option R :=
  match vs, bs with
  | [.v (.ptr 4 0 0), .v (.sl 5), .v (.int .i64 x2)], [qb0, qb1, qb2, qb3, .cells 30 [.int .i64 xc4_0, .int .i64 xc4_1, .int .i64 xc4_2, .sl 0, .sl 1, .sl 2, .sl 3, .int .i64 xc4_7], qb5] => (asO 2 false qb0).bind fun xl0 => (asO 3 false qb1).bind fun xl1 => (asO 4 false qb2).bind fun xl2 => (asO 1 false qb3).bind fun xl3 => (asO 5 true qb5).bind fun xl5 => spec_PackageInts.l19 k xl0 xl1 xl2 xl3 xc4_0 xc4_1 xc4_2 xc4_7 (fun (zl5 : List Int) => K (.exit 4) (stOf [(1, [none, none, none, some 2, some 3, some 4, some 1, none]), (3, [some 5])] [.v (.ptr 4 0 0), .v (.sl 5)] [.rows 2 false xl0, .rows 3 false xl1, .rows 4 false xl2, .rows 1 false xl3, .cells 30 [.int .i64 xc4_0, .int .i64 xc4_1, .int .i64 xc4_2, .sl 0, .sl 1, .sl 2, .sl 3, .int .i64 xc4_7], .rows 5 true zl5])) k x2 xl5
  | _, _ => none
def spec_PackageInts.h25 (k : Nat) {R : Type} (K : Ex → St κ → Option R) (vs : List AV) (bs : List (Blk κ)) : Option R :=
  match vs, bs with
  | [.v (.ptr 4 0 0), .v (.sl 5), .v (.int .i64 x2)], [qb0, qb1, qb2, qb3, .cells 30 [.int .i64 xc4_0, .int .i64 xc4_1, .int .i64 xc4_2, .sl 0, .sl 1, .sl 2, .sl 3, .int .i64 xc4_7], qb5] => (asO 2 false qb0).bind fun xl0 => (asO 3 false qb1).bind fun xl1 => (asO 4 false qb2).bind fun xl2 => (asO 1 false qb3).bind fun xl3 => (asO 5 true qb5).bind fun xl5 => spec_PackageInts.l25 k xl0 xl1 xl2 xl3 xc4_0 xc4_1 xc4_2 xc4_7 (fun (zl4 : List Int) => K (.exit 6) (stOf [(3, [some 5])] [.v (.sl 4)] [.rows 2 false xl0, .rows 3 false xl1, .rows 4 false xl2, .rows 1 false xl3, .rows 5 true zl4])) k x2 xl5
  | _, _ => none
def spec_PackageInts.Γ (k : Nat) : Ct κ := assoc [(91, spec_IsPackage.C k)]
def spec_PackageInts.LH (k : Nat) : Nat → Option (LHi κ) := assoc [(5, ⟨4, [(1, [none, none, none, some 2, some 3, some 4, some 1, none]), (3, [some 5]), (4, [])], [(1, [none, none, none, some 2, some 3, some 4, some 1, none]), (3, [some 5])], @spec_PackageInts.h5 k⟩), (14, ⟨4, [(1, [none, none, none, some 2, some 3, some 4, some 1, none]), (3, [some 5]), (7, [])], [(1, [none, none, none, some 2, some 3, some 4, some 1, none]), (3, [some 5])], @spec_PackageInts.h14 k⟩), (19, ⟨4, [(1, [none, none, none, some 2, some 3, some 4, some 1, none]), (3, [some 5]), (8, [])], [(1, [none, none, none, some 2, some 3, some 4, some 1, none]), (3, [some 5])], @spec_PackageInts.h19 k⟩), (25, ⟨4, [(1, [none, none, none, some 2, some 3, some 4, some 1, none]), (3, [some 5]), (10, [])], [(3, [some 5])], @spec_PackageInts.h25 k⟩)]
theorem spec_PackageInts.hΓ (k : Nat) : ∀ f g, spec_PackageInts.Γ k f = some g → CSound Tryz.prog f g := G_cons (spec_IsPackage.ok k) G_nil
theorem spec_PackageInts.e5 {R : Type} (K : Ex → St κ → Option R) (k : Nat) (xl0 : List T_impl_Grant) (xl1 : List T_impl_Flow) (xl2 : List T_impl_Rule) (xl3 : List T_impl_Op) (xc4_0 : Int) (xc4_1 : Int) (xc4_2 : Int) (xc4_7 : Int) : ∀ (n : Nat) (x2 : Int) (xl5 : List Int), loopN 4 (Code.den ti (spec_PackageInts.Γ k) (spec_PackageInts.LH k) (loopAt Tryz.f93 0)) [(1, [none, none, none, some 2, some 3, some 4, some 1, none]), (3, [some 5]), (4, [])] [(1, [none, none, none, some 2, some 3, some 4, some 1, none]), (3, [some 5])] K n [.v (.ptr 4 0 0), .v (.sl 5), .v (.int .i64 x2)] [.rows 2 false xl0, .rows 3 false xl1, .rows 4 false xl2, .rows 1 false xl3, .cells 30 [.int .i64 xc4_0, .int .i64 xc4_1, .int .i64 xc4_2, .sl 0, .sl 1, .sl 2, .sl 3, .int .i64 xc4_7], .rows 5 true xl5] = spec_PackageInts.l5 k xl0 xl1 xl2 xl3 xc4_0 xc4_1 xc4_2 xc4_7 (fun (zl5 : List Int) => K (.exit 0) (stOf [(1, [none, none, none, some 2, some 3, some 4, some 1, none]), (3, [some 5])] [.v (.ptr 4 0 0), .v (.sl 5)] [.rows 2 false xl0, .rows 3 false xl1, .rows 4 false xl2, .rows 1 false xl3, .cells 30 [.int .i64 xc4_0, .int .i64 xc4_1, .int .i64 xc4_2, .sl 0, .sl 1, .sl 2, .sl 3, .int .i64 xc4_7], .rows 5 true zl5])) n x2 xl5
  | 0, _, _ => rfl
  | n + 1, x2, xl5 => (show loopN 4 (Code.den ti (spec_PackageInts.Γ k) (spec_PackageInts.LH k) (loopAt Tryz.f93 0)) [(1, [none, none, none, some 2, some 3, some 4, some 1, none]), (3, [some 5]), (4, [])] [(1, [none, none, none, some 2, some 3, some 4, some 1, none]), (3, [some 5])] K (n + 1) [.v (.ptr 4 0 0), .v (.sl 5), .v (.int .i64 x2)] [.rows 2 false xl0, .rows 3 false xl1, .rows 4 false xl2, .rows 1 false xl3, .cells 30 [.int .i64 xc4_0, .int .i64 xc4_1, .int .i64 xc4_2, .sl 0, .sl 1, .sl 2, .sl 3, .int .i64 xc4_7], .rows 5 true xl5] = spec_PackageInts.L5 k xl0 xl1 xl2 xl3 xc4_0 xc4_1 xc4_2 xc4_7 (fun (zl5 : List Int) => K (.exit 0) (stOf [(1, [none, none, none, some 2, some 3, some 4, some 1, none]), (3, [some 5])] [.v (.ptr 4 0 0), .v (.sl 5)] [.rows 2 false xl0, .rows 3 false xl1, .rows 4 false xl2, .rows 1 false xl3, .cells 30 [.int .i64 xc4_0, .int .i64 xc4_1, .int .i64 xc4_2, .sl 0, .sl 1, .sl 2, .sl 3, .int .i64 xc4_7], .rows 5 true zl5])) (fun (x2' : Int) (xl5' : List Int) => loopN 4 (Code.den ti (spec_PackageInts.Γ k) (spec_PackageInts.LH k) (loopAt Tryz.f93 0)) [(1, [none, none, none, some 2, some 3, some 4, some 1, none]), (3, [some 5]), (4, [])] [(1, [none, none, none, some 2, some 3, some 4, some 1, none]), (3, [some 5])] K n [.v (.ptr 4 0 0), .v (.sl 5), .v (.int .i64 x2')] [.rows 2 false xl0, .rows 3 false xl1, .rows 4 false xl2, .rows 1 false xl3, .cells 30 [.int .i64 xc4_0, .int .i64 xc4_1, .int .i64 xc4_2, .sl 0, .sl 1, .sl 2, .sl 3, .int .i64 xc4_7], .rows 5 true xl5']) x2 xl5 by kernel_rfl).trans (congrArg (fun rec => spec_PackageInts.L5 k xl0 xl1 xl2 xl3 xc4_0 xc4_1 xc4_2 xc4_7 (fun (zl5 : List Int) => K (.exit 0) (stOf [(1, [none, none, none, some 2, some 3, some 4, some 1, none]), (3, [some 5])] [.v (.ptr 4 0 0), .v (.sl 5)] [.rows 2 false xl0, .rows 3 false xl1, .rows 4 false xl2, .rows 1 false xl3, .cells 30 [.int .i64 xc4_0, .int .i64 xc4_1, .int .i64 xc4_2, .sl 0, .sl 1, .sl 2, .sl 3, .int .i64 xc4_7], .rows 5 true zl5])) rec x2 xl5) (funext fun x2' => funext fun xl5' => spec_PackageInts.e5 K k xl0 xl1 xl2 xl3 xc4_0 xc4_1 xc4_2 xc4_7 n x2' xl5'))
theorem spec_PackageInts.q5 (k : Nat) {R : Type} (K : Ex → St κ → Option R) (vs : List AV) (bs : List (Blk κ)) (r : R) (h : spec_PackageInts.h5 k K vs bs = some r) : ∃ n, loopN 4 (Code.den ti (spec_PackageInts.Γ k) (spec_PackageInts.LH k) (loopAt Tryz.f93 0)) [(1, [none, none, none, some 2, some 3, some 4, some 1, none]), (3, [some 5]), (4, [])] [(1, [none, none, none, some 2, some 3, some 4, some 1, none]), (3, [some 5])] K n vs bs = some r := by
  unfold spec_PackageInts.h5 at h
  split at h
  · obtain ⟨_, rfl, h_1⟩ := asO_bind h
    obtain ⟨_, rfl, h_2⟩ := asO_bind h_1
    obtain ⟨_, rfl, h_3⟩ := asO_bind h_2
    obtain ⟨_, rfl, h_4⟩ := asO_bind h_3
    obtain ⟨_, rfl, h_5⟩ := asO_bind h_4
    exact ⟨k, (spec_PackageInts.e5 K k _ _ _ _ _ _ _ _ k _ _).trans h_5⟩
  · cases h
theorem spec_PackageInts.e14 {R : Type} (K : Ex → St κ → Option R) (k : Nat) (xl0 : List T_impl_Grant) (xl1 : List T_impl_Flow) (xl2 : List T_impl_Rule) (xl3 : List T_impl_Op) (xc4_0 : Int) (xc4_1 : Int) (xc4_2 : Int) (xc4_7 : Int) : ∀ (n : Nat) (x2 : Int) (xl5 : List Int), loopN 4 (Code.den ti (spec_PackageInts.Γ k) (spec_PackageInts.LH k) (loopAt Tryz.f93 1)) [(1, [none, none, none, some 2, some 3, some 4, some 1, none]), (3, [some 5]), (7, [])] [(1, [none, none, none, some 2, some 3, some 4, some 1, none]), (3, [some 5])] K n [.v (.ptr 4 0 0), .v (.sl 5), .v (.int .i64 x2)] [.rows 2 false xl0, .rows 3 false xl1, .rows 4 false xl2, .rows 1 false xl3, .cells 30 [.int .i64 xc4_0, .int .i64 xc4_1, .int .i64 xc4_2, .sl 0, .sl 1, .sl 2, .sl 3, .int .i64 xc4_7], .rows 5 true xl5] = spec_PackageInts.l14 k xl0 xl1 xl2 xl3 xc4_0 xc4_1 xc4_2 xc4_7 (fun (zl5 : List Int) => K (.exit 2) (stOf [(1, [none, none, none, some 2, some 3, some 4, some 1, none]), (3, [some 5])] [.v (.ptr 4 0 0), .v (.sl 5)] [.rows 2 false xl0, .rows 3 false xl1, .rows 4 false xl2, .rows 1 false xl3, .cells 30 [.int .i64 xc4_0, .int .i64 xc4_1, .int .i64 xc4_2, .sl 0, .sl 1, .sl 2, .sl 3, .int .i64 xc4_7], .rows 5 true zl5])) n x2 xl5
  | 0, _, _ => rfl
  | n + 1, x2, xl5 => (show loopN 4 (Code.den ti (spec_PackageInts.Γ k) (spec_PackageInts.LH k) (loopAt Tryz.f93 1)) [(1, [none, none, none, some 2, some 3, some 4, some 1, none]), (3, [some 5]), (7, [])] [(1, [none, none, none, some 2, some 3, some 4, some 1, none]), (3, [some 5])] K (n + 1) [.v (.ptr 4 0 0), .v (.sl 5), .v (.int .i64 x2)] [.rows 2 false xl0, .rows 3 false xl1, .rows 4 false xl2, .rows 1 false xl3, .cells 30 [.int .i64 xc4_0, .int .i64 xc4_1, .int .i64 xc4_2, .sl 0, .sl 1, .sl 2, .sl 3, .int .i64 xc4_7], .rows 5 true xl5] = spec_PackageInts.L14 k xl0 xl1 xl2 xl3 xc4_0 xc4_1 xc4_2 xc4_7 (fun (zl5 : List Int) => K (.exit 2) (stOf [(1, [none, none, none, some 2, some 3, some 4, some 1, none]), (3, [some 5])] [.v (.ptr 4 0 0), .v (.sl 5)] [.rows 2 false xl0, .rows 3 false xl1, .rows 4 false xl2, .rows 1 false xl3, .cells 30 [.int .i64 xc4_0, .int .i64 xc4_1, .int .i64 xc4_2, .sl 0, .sl 1, .sl 2, .sl 3, .int .i64 xc4_7], .rows 5 true zl5])) (fun (x2' : Int) (xl5' : List Int) => loopN 4 (Code.den ti (spec_PackageInts.Γ k) (spec_PackageInts.LH k) (loopAt Tryz.f93 1)) [(1, [none, none, none, some 2, some 3, some 4, some 1, none]), (3, [some 5]), (7, [])] [(1, [none, none, none, some 2, some 3, some 4, some 1, none]), (3, [some 5])] K n [.v (.ptr 4 0 0), .v (.sl 5), .v (.int .i64 x2')] [.rows 2 false xl0, .rows 3 false xl1, .rows 4 false xl2, .rows 1 false xl3, .cells 30 [.int .i64 xc4_0, .int .i64 xc4_1, .int .i64 xc4_2, .sl 0, .sl 1, .sl 2, .sl 3, .int .i64 xc4_7], .rows 5 true xl5']) x2 xl5 by kernel_rfl).trans (congrArg (fun rec => spec_PackageInts.L14 k xl0 xl1 xl2 xl3 xc4_0 xc4_1 xc4_2 xc4_7 (fun (zl5 : List Int) => K (.exit 2) (stOf [(1, [none, none, none, some 2, some 3, some 4, some 1, none]), (3, [some 5])] [.v (.ptr 4 0 0), .v (.sl 5)] [.rows 2 false xl0, .rows 3 false xl1, .rows 4 false xl2, .rows 1 false xl3, .cells 30 [.int .i64 xc4_0, .int .i64 xc4_1, .int .i64 xc4_2, .sl 0, .sl 1, .sl 2, .sl 3, .int .i64 xc4_7], .rows 5 true zl5])) rec x2 xl5) (funext fun x2' => funext fun xl5' => spec_PackageInts.e14 K k xl0 xl1 xl2 xl3 xc4_0 xc4_1 xc4_2 xc4_7 n x2' xl5'))
theorem spec_PackageInts.q14 (k : Nat) {R : Type} (K : Ex → St κ → Option R) (vs : List AV) (bs : List (Blk κ)) (r : R) (h : spec_PackageInts.h14 k K vs bs = some r) : ∃ n, loopN 4 (Code.den ti (spec_PackageInts.Γ k) (spec_PackageInts.LH k) (loopAt Tryz.f93 1)) [(1, [none, none, none, some 2, some 3, some 4, some 1, none]), (3, [some 5]), (7, [])] [(1, [none, none, none, some 2, some 3, some 4, some 1, none]), (3, [some 5])] K n vs bs = some r := by
  unfold spec_PackageInts.h14 at h
  split at h
  · obtain ⟨_, rfl, h_1⟩ := asO_bind h
    obtain ⟨_, rfl, h_2⟩ := asO_bind h_1
    obtain ⟨_, rfl, h_3⟩ := asO_bind h_2
    obtain ⟨_, rfl, h_4⟩ := asO_bind h_3
    obtain ⟨_, rfl, h_5⟩ := asO_bind h_4
    exact ⟨k, (spec_PackageInts.e14 K k _ _ _ _ _ _ _ _ k _ _).trans h_5⟩
  · cases h
theorem spec_PackageInts.e19 {R : Type} (K : Ex → St κ → Option R) (k : Nat) (xl0 : List T_impl_Grant) (xl1 : List T_impl_Flow) (xl2 : List T_impl_Rule) (xl3 : List T_impl_Op) (xc4_0 : Int) (xc4_1 : Int) (xc4_2 : Int) (xc4_7 : Int) : ∀ (n : Nat) (x2 : Int) (xl5 : List Int), loopN 4 (Code.den ti (spec_PackageInts.Γ k) (spec_PackageInts.LH k) (loopAt Tryz.f93 2)) [(1, [none, none, none, some 2, some 3, some 4, some 1, none]), (3, [some 5]), (8, [])] [(1, [none, none, none, some 2, some 3, some 4, some 1, none]), (3, [some 5])] K n [.v (.ptr 4 0 0), .v (.sl 5), .v (.int .i64 x2)] [.rows 2 false xl0, .rows 3 false xl1, .rows 4 false xl2, .rows 1 false xl3, .cells 30 [.int .i64 xc4_0, .int .i64 xc4_1, .int .i64 xc4_2, .sl 0, .sl 1, .sl 2, .sl 3, .int .i64 xc4_7], .rows 5 true xl5] = spec_PackageInts.l19 k xl0 xl1 xl2 xl3 xc4_0 xc4_1 xc4_2 xc4_7 (fun (zl5 : List Int) => K (.exit 4) (stOf [(1, [none, none, none, some 2, some 3, some 4, some 1, none]), (3, [some 5])] [.v (.ptr 4 0 0), .v (.sl 5)] [.rows 2 false xl0, .rows 3 false xl1, .rows 4 false xl2, .rows 1 false xl3, .cells 30 [.int .i64 xc4_0, .int .i64 xc4_1, .int .i64 xc4_2, .sl 0, .sl 1, .sl 2, .sl 3, .int .i64 xc4_7], .rows 5 true zl5])) n x2 xl5
  | 0, _, _ => rfl
  | n + 1, x2, xl5 => (show loopN 4 (Code.den ti (spec_PackageInts.Γ k) (spec_PackageInts.LH k) (loopAt Tryz.f93 2)) [(1, [none, none, none, some 2, some 3, some 4, some 1, none]), (3, [some 5]), (8, [])] [(1, [none, none, none, some 2, some 3, some 4, some 1, none]), (3, [some 5])] K (n + 1) [.v (.ptr 4 0 0), .v (.sl 5), .v (.int .i64 x2)] [.rows 2 false xl0, .rows 3 false xl1, .rows 4 false xl2, .rows 1 false xl3, .cells 30 [.int .i64 xc4_0, .int .i64 xc4_1, .int .i64 xc4_2, .sl 0, .sl 1, .sl 2, .sl 3, .int .i64 xc4_7], .rows 5 true xl5] = spec_PackageInts.L19 k xl0 xl1 xl2 xl3 xc4_0 xc4_1 xc4_2 xc4_7 (fun (zl5 : List Int) => K (.exit 4) (stOf [(1, [none, none, none, some 2, some 3, some 4, some 1, none]), (3, [some 5])] [.v (.ptr 4 0 0), .v (.sl 5)] [.rows 2 false xl0, .rows 3 false xl1, .rows 4 false xl2, .rows 1 false xl3, .cells 30 [.int .i64 xc4_0, .int .i64 xc4_1, .int .i64 xc4_2, .sl 0, .sl 1, .sl 2, .sl 3, .int .i64 xc4_7], .rows 5 true zl5])) (fun (x2' : Int) (xl5' : List Int) => loopN 4 (Code.den ti (spec_PackageInts.Γ k) (spec_PackageInts.LH k) (loopAt Tryz.f93 2)) [(1, [none, none, none, some 2, some 3, some 4, some 1, none]), (3, [some 5]), (8, [])] [(1, [none, none, none, some 2, some 3, some 4, some 1, none]), (3, [some 5])] K n [.v (.ptr 4 0 0), .v (.sl 5), .v (.int .i64 x2')] [.rows 2 false xl0, .rows 3 false xl1, .rows 4 false xl2, .rows 1 false xl3, .cells 30 [.int .i64 xc4_0, .int .i64 xc4_1, .int .i64 xc4_2, .sl 0, .sl 1, .sl 2, .sl 3, .int .i64 xc4_7], .rows 5 true xl5']) x2 xl5 by kernel_rfl).trans (congrArg (fun rec => spec_PackageInts.L19 k xl0 xl1 xl2 xl3 xc4_0 xc4_1 xc4_2 xc4_7 (fun (zl5 : List Int) => K (.exit 4) (stOf [(1, [none, none, none, some 2, some 3, some 4, some 1, none]), (3, [some 5])] [.v (.ptr 4 0 0), .v (.sl 5)] [.rows 2 false xl0, .rows 3 false xl1, .rows 4 false xl2, .rows 1 false xl3, .cells 30 [.int .i64 xc4_0, .int .i64 xc4_1, .int .i64 xc4_2, .sl 0, .sl 1, .sl 2, .sl 3, .int .i64 xc4_7], .rows 5 true zl5])) rec x2 xl5) (funext fun x2' => funext fun xl5' => spec_PackageInts.e19 K k xl0 xl1 xl2 xl3 xc4_0 xc4_1 xc4_2 xc4_7 n x2' xl5'))
theorem spec_PackageInts.q19 (k : Nat) {R : Type} (K : Ex → St κ → Option R) (vs : List AV) (bs : List (Blk κ)) (r : R) (h : spec_PackageInts.h19 k K vs bs = some r) : ∃ n, loopN 4 (Code.den ti (spec_PackageInts.Γ k) (spec_PackageInts.LH k) (loopAt Tryz.f93 2)) [(1, [none, none, none, some 2, some 3, some 4, some 1, none]), (3, [some 5]), (8, [])] [(1, [none, none, none, some 2, some 3, some 4, some 1, none]), (3, [some 5])] K n vs bs = some r := by
  unfold spec_PackageInts.h19 at h
  split at h
  · obtain ⟨_, rfl, h_1⟩ := asO_bind h
    obtain ⟨_, rfl, h_2⟩ := asO_bind h_1
    obtain ⟨_, rfl, h_3⟩ := asO_bind h_2
    obtain ⟨_, rfl, h_4⟩ := asO_bind h_3
    obtain ⟨_, rfl, h_5⟩ := asO_bind h_4
    exact ⟨k, (spec_PackageInts.e19 K k _ _ _ _ _ _ _ _ k _ _).trans h_5⟩
  · cases h
theorem spec_PackageInts.e25 {R : Type} (K : Ex → St κ → Option R) (k : Nat) (xl0 : List T_impl_Grant) (xl1 : List T_impl_Flow) (xl2 : List T_impl_Rule) (xl3 : List T_impl_Op) (xc4_0 : Int) (xc4_1 : Int) (xc4_2 : Int) (xc4_7 : Int) : ∀ (n : Nat) (x2 : Int) (xl5 : List Int), loopN 4 (Code.den ti (spec_PackageInts.Γ k) (spec_PackageInts.LH k) (loopAt Tryz.f93 3)) [(1, [none, none, none, some 2, some 3, some 4, some 1, none]), (3, [some 5]), (10, [])] [(3, [some 5])] K n [.v (.ptr 4 0 0), .v (.sl 5), .v (.int .i64 x2)] [.rows 2 false xl0, .rows 3 false xl1, .rows 4 false xl2, .rows 1 false xl3, .cells 30 [.int .i64 xc4_0, .int .i64 xc4_1, .int .i64 xc4_2, .sl 0, .sl 1, .sl 2, .sl 3, .int .i64 xc4_7], .rows 5 true xl5] = spec_PackageInts.l25 k xl0 xl1 xl2 xl3 xc4_0 xc4_1 xc4_2 xc4_7 (fun (zl4 : List Int) => K (.exit 6) (stOf [(3, [some 5])] [.v (.sl 4)] [.rows 2 false xl0, .rows 3 false xl1, .rows 4 false xl2, .rows 1 false xl3, .rows 5 true zl4])) n x2 xl5
  | 0, _, _ => rfl
  | n + 1, x2, xl5 => (show loopN 4 (Code.den ti (spec_PackageInts.Γ k) (spec_PackageInts.LH k) (loopAt Tryz.f93 3)) [(1, [none, none, none, some 2, some 3, some 4, some 1, none]), (3, [some 5]), (10, [])] [(3, [some 5])] K (n + 1) [.v (.ptr 4 0 0), .v (.sl 5), .v (.int .i64 x2)] [.rows 2 false xl0, .rows 3 false xl1, .rows 4 false xl2, .rows 1 false xl3, .cells 30 [.int .i64 xc4_0, .int .i64 xc4_1, .int .i64 xc4_2, .sl 0, .sl 1, .sl 2, .sl 3, .int .i64 xc4_7], .rows 5 true xl5] = spec_PackageInts.L25 k xl0 xl1 xl2 xl3 xc4_0 xc4_1 xc4_2 xc4_7 (fun (zl4 : List Int) => K (.exit 6) (stOf [(3, [some 5])] [.v (.sl 4)] [.rows 2 false xl0, .rows 3 false xl1, .rows 4 false xl2, .rows 1 false xl3, .rows 5 true zl4])) (fun (x2' : Int) (xl5' : List Int) => loopN 4 (Code.den ti (spec_PackageInts.Γ k) (spec_PackageInts.LH k) (loopAt Tryz.f93 3)) [(1, [none, none, none, some 2, some 3, some 4, some 1, none]), (3, [some 5]), (10, [])] [(3, [some 5])] K n [.v (.ptr 4 0 0), .v (.sl 5), .v (.int .i64 x2')] [.rows 2 false xl0, .rows 3 false xl1, .rows 4 false xl2, .rows 1 false xl3, .cells 30 [.int .i64 xc4_0, .int .i64 xc4_1, .int .i64 xc4_2, .sl 0, .sl 1, .sl 2, .sl 3, .int .i64 xc4_7], .rows 5 true xl5']) x2 xl5 by kernel_rfl).trans (congrArg (fun rec => spec_PackageInts.L25 k xl0 xl1 xl2 xl3 xc4_0 xc4_1 xc4_2 xc4_7 (fun (zl4 : List Int) => K (.exit 6) (stOf [(3, [some 5])] [.v (.sl 4)] [.rows 2 false xl0, .rows 3 false xl1, .rows 4 false xl2, .rows 1 false xl3, .rows 5 true zl4])) rec x2 xl5) (funext fun x2' => funext fun xl5' => spec_PackageInts.e25 K k xl0 xl1 xl2 xl3 xc4_0 xc4_1 xc4_2 xc4_7 n x2' xl5'))
theorem spec_PackageInts.q25 (k : Nat) {R : Type} (K : Ex → St κ → Option R) (vs : List AV) (bs : List (Blk κ)) (r : R) (h : spec_PackageInts.h25 k K vs bs = some r) : ∃ n, loopN 4 (Code.den ti (spec_PackageInts.Γ k) (spec_PackageInts.LH k) (loopAt Tryz.f93 3)) [(1, [none, none, none, some 2, some 3, some 4, some 1, none]), (3, [some 5]), (10, [])] [(3, [some 5])] K n vs bs = some r := by
  unfold spec_PackageInts.h25 at h
  split at h
  · obtain ⟨_, rfl, h_1⟩ := asO_bind h
    obtain ⟨_, rfl, h_2⟩ := asO_bind h_1
    obtain ⟨_, rfl, h_3⟩ := asO_bind h_2
    obtain ⟨_, rfl, h_4⟩ := asO_bind h_3
    obtain ⟨_, rfl, h_5⟩ := asO_bind h_4
    exact ⟨k, (spec_PackageInts.e25 K k _ _ _ _ _ _ _ _ k _ _).trans h_5⟩
  · cases h
theorem spec_PackageInts.lok (k : Nat) : LOK ti (spec_PackageInts.Γ k) (spec_PackageInts.LH k) 4 (loopsOf (bodyOf Tryz.f93)) :=
  (show loopsOf (bodyOf Tryz.f93) = [loopAt Tryz.f93 0, loopAt Tryz.f93 1, loopAt Tryz.f93 2, loopAt Tryz.f93 3] by kernel_rfl) ▸ (LOK_cons (g := ⟨4, [(1, [none, none, none, some 2, some 3, some 4, some 1, none]), (3, [some 5]), (4, [])], [(1, [none, none, none, some 2, some 3, some 4, some 1, none]), (3, [some 5])], @spec_PackageInts.h5 k⟩) (by kernel_rfl) rfl (fun K vs xs r h => spec_PackageInts.q5 k K vs xs r h) (LOK_cons (g := ⟨4, [(1, [none, none, none, some 2, some 3, some 4, some 1, none]), (3, [some 5]), (7, [])], [(1, [none, none, none, some 2, some 3, some 4, some 1, none]), (3, [some 5])], @spec_PackageInts.h14 k⟩) (by kernel_rfl) rfl (fun K vs xs r h => spec_PackageInts.q14 k K vs xs r h) (LOK_cons (g := ⟨4, [(1, [none, none, none, some 2, some 3, some 4, some 1, none]), (3, [some 5]), (8, [])], [(1, [none, none, none, some 2, some 3, some 4, some 1, none]), (3, [some 5])], @spec_PackageInts.h19 k⟩) (by kernel_rfl) rfl (fun K vs xs r h => spec_PackageInts.q19 k K vs xs r h) (LOK_cons (g := ⟨4, [(1, [none, none, none, some 2, some 3, some 4, some 1, none]), (3, [some 5]), (10, [])], [(3, [some 5])], @spec_PackageInts.h25 k⟩) (by kernel_rfl) rfl (fun K vs xs r h => spec_PackageInts.q25 k K vs xs r h) (LOK_nil)))))
def spec_PackageInts.sig : List PSh := [.agg [.sc, .sc, .sc, .ro 2, .ro 3, .ro 4, .ro 1, .sc]]
def spec_PackageInts.g (y : List Int) : Ret κ := ⟨.v (.sl 4), [], [.rows 5 true y]⟩
def spec_PackageInts.out (r : Ret κ) : Option (List Int) :=
  match r with
  | ⟨.v (.sl 4), [], [q0]⟩ => (asO 5 true q0).bind fun z0 => some (z0)
  | _ => none
theorem spec_PackageInts.out_ok (r : Ret κ) (y : List Int) (h : spec_PackageInts.out r = some y) : r = spec_PackageInts.g y := by
  unfold spec_PackageInts.out at h
  split at h
  · obtain ⟨_, rfl, h_1⟩ := asO_bind h
    obtain rfl := Option.some.inj h_1
    rfl
  · cases h
def spec_PackageInts.body (k : Nat) (vs : List AV) (bs : List (Blk κ)) : Option (Lf κ) :=
  match vs, bs with
  | [.agg [.int .i64 a0_0, .int .i64 a0_1, .int .i64 a0_2, .sl 0, .sl 1, .sl 2, .sl 3, .int .i64 a0_7]], [qb0, qb1, qb2, qb3] => (asO 2 false qb0).bind fun a0_3 => (asO 3 false qb1).bind fun a0_4 => (asO 4 false qb2).bind fun a0_5 => (asO 1 false qb3).bind fun a0_6 => some ⟨List Int, spec_PackageInts.f k a0_0 a0_1 a0_2 a0_3 a0_4 a0_5 a0_6 a0_7, spec_PackageInts.g⟩
  | _, _ => none
def spec_PackageInts.C (k : Nat) : Nat → List AV → AP κ AV := contract spec_PackageInts.sig (spec_PackageInts.body k)
theorem spec_PackageInts.den (k : Nat) (a0_0 : Int) (a0_1 : Int) (a0_2 : Int) (a0_3 : List T_impl_Grant) (a0_4 : List T_impl_Flow) (a0_5 : List T_impl_Rule) (a0_6 : List T_impl_Op) (a0_7 : Int) : Code.den ti (spec_PackageInts.Γ k) (spec_PackageInts.LH k) (bodyOf Tryz.f93) (finK ti Tryz.f93.results.toList [(2, [some 5])] (flags spec_PackageInts.sig).length (rwI (flags spec_PackageInts.sig) 0) spec_PackageInts.out) ⟨envOf (([.agg [.int .i64 a0_0, .int .i64 a0_1, .int .i64 a0_2, .sl 0, .sl 1, .sl 2, .sl 3, .int .i64 a0_7]]).zipIdx.map fun q => (q.2, q.1)), hpOf [.rows 2 false a0_3, .rows 3 false a0_4, .rows 4 false a0_5, .rows 1 false a0_6], (flags spec_PackageInts.sig).length⟩ = spec_PackageInts.f k a0_0 a0_1 a0_2 a0_3 a0_4 a0_5 a0_6 a0_7 := by kernel_rfl
theorem spec_PackageInts.ok (k : Nat) : CSound Tryz.prog 93 (spec_PackageInts.C k) :=
  csound κ_ok mixed tok (spec_PackageInts.hΓ k) (LH := spec_PackageInts.LH k) (fn := Tryz.f93) (c := bodyOf Tryz.f93) Tryz.func93 rfl Tryz.call93 spec_PackageInts.sig [(2, [some 5])] (spec_PackageInts.body k) (by kernel_rfl) (spec_PackageInts.lok k) (by decide) fun vs bs lf y hl hb hy => by
    unfold spec_PackageInts.body at hb
    split at hb
    · obtain ⟨_, rfl, hb_1⟩ := asO_bind hb
      obtain ⟨_, rfl, hb_2⟩ := asO_bind hb_1
      obtain ⟨_, rfl, hb_3⟩ := asO_bind hb_2
      obtain ⟨_, rfl, hb_4⟩ := asO_bind hb_3
      obtain rfl := Option.some.inj hb_4
      exact ⟨spec_PackageInts.out, spec_PackageInts.out_ok, (spec_PackageInts.den k _ _ _ _ _ _ _ _).trans hy⟩
    · cases hb
end Go.Proofs.YtmjflahlhgibnaaGreatDoor.PFnRolledBack
