/- What the functions that the law FnExactWidenedGrants reaches come to; no conditions. -/
import Derived.Test.YtghflohdmnaopaaPFnExactWidenedGrants1
set_option linter.unusedVariables false
set_option maxRecDepth 100000
namespace Go.Proofs.Ytghflohdmnaopaa.PFnExactWidenedGrants
open Go Go.Eng Go.Proofs
/-! ### spec_l1In -/
def spec_l1In.f (k : Nat) (a0 : Int) (a1 : Int) (a2 : Int) : Option Bool :=
  (bif decide (a0 ≥ a1) then some (decide (a0 ≤ a2)) else some false)
def spec_l1In.Γ (k : Nat) : Ct κ := assoc []
def spec_l1In.LH (k : Nat) : Nat → Option (LHi κ) := assoc []
theorem spec_l1In.hΓ (k : Nat) : ∀ f g, spec_l1In.Γ k f = some g → CSound Try.prog f g := G_nil
theorem spec_l1In.lok (k : Nat) : LOK ti (spec_l1In.Γ k) (spec_l1In.LH k) 0 (loopsOf (bodyOf Try.f104)) :=
  (show loopsOf (bodyOf Try.f104) = [] by kernel_rfl) ▸ LOK_nil
def spec_l1In.sig : List PSh := [.one .sc, .one .sc, .one .sc]
def spec_l1In.g (y : Bool) : Ret κ := ⟨.v (.bool y), [], []⟩
def spec_l1In.out (r : Ret κ) : Option Bool :=
  match r with
  | ⟨.v (.bool z0), [], []⟩ => some (z0)
  | _ => none
theorem spec_l1In.out_ok (r : Ret κ) (y : Bool) (h : spec_l1In.out r = some y) : r = spec_l1In.g y := by
  unfold spec_l1In.out at h
  split at h
  · obtain rfl := Option.some.inj h
    rfl
  · cases h
def spec_l1In.body (k : Nat) (vs : List AV) (bs : List (Blk κ)) : Option (Lf κ) :=
  match vs, bs with
  | [.v (.int .i64 a0), .v (.int .i64 a1), .v (.int .i64 a2)], [] => some ⟨Bool, spec_l1In.f k a0 a1 a2, spec_l1In.g⟩
  | _, _ => none
def spec_l1In.C (k : Nat) : Nat → List AV → AP κ AV := contract spec_l1In.sig (spec_l1In.body k)
theorem spec_l1In.den (k : Nat) (a0 : Int) (a1 : Int) (a2 : Int) : Code.den ti (spec_l1In.Γ k) (spec_l1In.LH k) (bodyOf Try.f104) (finK ti Try.f104.results.toList [] (flags spec_l1In.sig).length (rwI (flags spec_l1In.sig) 0) spec_l1In.out) ⟨envOf (([.v (.int .i64 a0), .v (.int .i64 a1), .v (.int .i64 a2)]).zipIdx.map fun q => (q.2, q.1)), hpOf [], (flags spec_l1In.sig).length⟩ = spec_l1In.f k a0 a1 a2 := by kernel_rfl
theorem spec_l1In.ok (k : Nat) : CSound Try.prog 104 (spec_l1In.C k) :=
  csound κ_ok mixed tok (spec_l1In.hΓ k) (LH := spec_l1In.LH k) (fn := Try.f104) (c := bodyOf Try.f104) Try.func104 rfl Try.call104 spec_l1In.sig [] (spec_l1In.body k) (by kernel_rfl) (spec_l1In.lok k) (by decide) fun vs bs lf y hl hb hy => by
    unfold spec_l1In.body at hb
    split at hb
    · obtain rfl := Option.some.inj hb
      exact ⟨spec_l1In.out, spec_l1In.out_ok, (spec_l1In.den k _ _ _).trans hy⟩
    · cases hb
/-! ### spec_IsPattern -/
def spec_IsPattern.f (k : Nat) (a0_0 : Int) (a0_1 : Int) : Option Bool :=
  (spec_l1In.f k a0_0 (0 : Int) (9 : Int)).bind fun t1 => (bif t1 then (spec_l1In.f k a0_1 (-1 : Int) (9 : Int)).bind fun t2 => some t2 else some false)
def spec_IsPattern.Γ (k : Nat) : Ct κ := assoc [(104, spec_l1In.C k)]
def spec_IsPattern.LH (k : Nat) : Nat → Option (LHi κ) := assoc []
theorem spec_IsPattern.hΓ (k : Nat) : ∀ f g, spec_IsPattern.Γ k f = some g → CSound Try.prog f g := G_cons (spec_l1In.ok k) G_nil
theorem spec_IsPattern.lok (k : Nat) : LOK ti (spec_IsPattern.Γ k) (spec_IsPattern.LH k) 0 (loopsOf (bodyOf Try.f138)) :=
  (show loopsOf (bodyOf Try.f138) = [] by kernel_rfl) ▸ LOK_nil
def spec_IsPattern.sig : List PSh := [.agg [.sc, .sc]]
def spec_IsPattern.g (y : Bool) : Ret κ := ⟨.v (.bool y), [], []⟩
def spec_IsPattern.out (r : Ret κ) : Option Bool :=
  match r with
  | ⟨.v (.bool z0), [], []⟩ => some (z0)
  | _ => none
theorem spec_IsPattern.out_ok (r : Ret κ) (y : Bool) (h : spec_IsPattern.out r = some y) : r = spec_IsPattern.g y := by
  unfold spec_IsPattern.out at h
  split at h
  · obtain rfl := Option.some.inj h
    rfl
  · cases h
def spec_IsPattern.body (k : Nat) (vs : List AV) (bs : List (Blk κ)) : Option (Lf κ) :=
  match vs, bs with
  | [.agg [.int .i64 a0_0, .int .i64 a0_1]], [] => some ⟨Bool, spec_IsPattern.f k a0_0 a0_1, spec_IsPattern.g⟩
  | _, _ => none
def spec_IsPattern.C (k : Nat) : Nat → List AV → AP κ AV := contract spec_IsPattern.sig (spec_IsPattern.body k)
theorem spec_IsPattern.den (k : Nat) (a0_0 : Int) (a0_1 : Int) : Code.den ti (spec_IsPattern.Γ k) (spec_IsPattern.LH k) (bodyOf Try.f138) (finK ti Try.f138.results.toList [] (flags spec_IsPattern.sig).length (rwI (flags spec_IsPattern.sig) 0) spec_IsPattern.out) ⟨envOf (([.agg [.int .i64 a0_0, .int .i64 a0_1]]).zipIdx.map fun q => (q.2, q.1)), hpOf [], (flags spec_IsPattern.sig).length⟩ = spec_IsPattern.f k a0_0 a0_1 := by kernel_rfl
theorem spec_IsPattern.ok (k : Nat) : CSound Try.prog 138 (spec_IsPattern.C k) :=
  csound κ_ok mixed tok (spec_IsPattern.hΓ k) (LH := spec_IsPattern.LH k) (fn := Try.f138) (c := bodyOf Try.f138) Try.func138 rfl Try.call138 spec_IsPattern.sig [] (spec_IsPattern.body k) (by kernel_rfl) (spec_IsPattern.lok k) (by decide) fun vs bs lf y hl hb hy => by
    unfold spec_IsPattern.body at hb
    split at hb
    · obtain rfl := Option.some.inj hb
      exact ⟨spec_IsPattern.out, spec_IsPattern.out_ok, (spec_IsPattern.den k _ _).trans hy⟩
    · cases hb
/-! ### spec_IsGrant -/
def spec_IsGrant.f (k : Nat) (a0_0 : Int) (a0_1 : Int) (a0_2 : Int) (a0_3 : Int) (a0_4 : Int) (a0_5 : Int) (a0_6 : Bool) : Option Bool :=
  (spec_l1In.f k a0_0 (1 : Int) (5 : Int)).bind fun t1 => (bif t1 then (spec_IsPattern.f k a0_1 a0_2).bind fun t2 => (bif t2 then (spec_l1In.f k a0_3 (1 : Int) (4 : Int)).bind fun t3 => (bif t3 then (bif decide (a0_4 ≥ (0 : Int)) then (bif decide (a0_4 ≤ a0_5) then some (decide (a0_5 ≤ (10000 : Int))) else some false) else some false) else some false) else some false) else some false)
def spec_IsGrant.Γ (k : Nat) : Ct κ := assoc [(104, spec_l1In.C k), (138, spec_IsPattern.C k)]
def spec_IsGrant.LH (k : Nat) : Nat → Option (LHi κ) := assoc []
theorem spec_IsGrant.hΓ (k : Nat) : ∀ f g, spec_IsGrant.Γ k f = some g → CSound Try.prog f g := G_cons (spec_l1In.ok k) (G_cons (spec_IsPattern.ok k) G_nil)
theorem spec_IsGrant.lok (k : Nat) : LOK ti (spec_IsGrant.Γ k) (spec_IsGrant.LH k) 0 (loopsOf (bodyOf Try.f106)) :=
  (show loopsOf (bodyOf Try.f106) = [] by kernel_rfl) ▸ LOK_nil
def spec_IsGrant.sig : List PSh := [.agg [.sc, .sc, .sc, .sc, .sc, .sc, .sc]]
def spec_IsGrant.g (y : Bool) : Ret κ := ⟨.v (.bool y), [], []⟩
def spec_IsGrant.out (r : Ret κ) : Option Bool :=
  match r with
  | ⟨.v (.bool z0), [], []⟩ => some (z0)
  | _ => none
theorem spec_IsGrant.out_ok (r : Ret κ) (y : Bool) (h : spec_IsGrant.out r = some y) : r = spec_IsGrant.g y := by
  unfold spec_IsGrant.out at h
  split at h
  · obtain rfl := Option.some.inj h
    rfl
  · cases h
def spec_IsGrant.body (k : Nat) (vs : List AV) (bs : List (Blk κ)) : Option (Lf κ) :=
  match vs, bs with
  | [.agg [.int .i64 a0_0, .int .i64 a0_1, .int .i64 a0_2, .int .i64 a0_3, .int .i64 a0_4, .int .i64 a0_5, .bool a0_6]], [] => some ⟨Bool, spec_IsGrant.f k a0_0 a0_1 a0_2 a0_3 a0_4 a0_5 a0_6, spec_IsGrant.g⟩
  | _, _ => none
def spec_IsGrant.C (k : Nat) : Nat → List AV → AP κ AV := contract spec_IsGrant.sig (spec_IsGrant.body k)
theorem spec_IsGrant.den (k : Nat) (a0_0 : Int) (a0_1 : Int) (a0_2 : Int) (a0_3 : Int) (a0_4 : Int) (a0_5 : Int) (a0_6 : Bool) : Code.den ti (spec_IsGrant.Γ k) (spec_IsGrant.LH k) (bodyOf Try.f106) (finK ti Try.f106.results.toList [] (flags spec_IsGrant.sig).length (rwI (flags spec_IsGrant.sig) 0) spec_IsGrant.out) ⟨envOf (([.agg [.int .i64 a0_0, .int .i64 a0_1, .int .i64 a0_2, .int .i64 a0_3, .int .i64 a0_4, .int .i64 a0_5, .bool a0_6]]).zipIdx.map fun q => (q.2, q.1)), hpOf [], (flags spec_IsGrant.sig).length⟩ = spec_IsGrant.f k a0_0 a0_1 a0_2 a0_3 a0_4 a0_5 a0_6 := by kernel_rfl
theorem spec_IsGrant.ok (k : Nat) : CSound Try.prog 106 (spec_IsGrant.C k) :=
  csound κ_ok mixed tok (spec_IsGrant.hΓ k) (LH := spec_IsGrant.LH k) (fn := Try.f106) (c := bodyOf Try.f106) Try.func106 rfl Try.call106 spec_IsGrant.sig [] (spec_IsGrant.body k) (by kernel_rfl) (spec_IsGrant.lok k) (by decide) fun vs bs lf y hl hb hy => by
    unfold spec_IsGrant.body at hb
    split at hb
    · obtain rfl := Option.some.inj hb
      exact ⟨spec_IsGrant.out, spec_IsGrant.out_ok, (spec_IsGrant.den k _ _ _ _ _ _ _).trans hy⟩
    · cases hb
/-! ### spec_IsNarrower -/
def spec_IsNarrower.f (k : Nat) (a0_0 : Int) (a0_1 : Int) (a1_0 : Int) (a1_1 : Int) : Option Bool :=
  (spec_IsPattern.f k a0_0 a0_1).bind fun t1 => (bif t1 then (spec_IsPattern.f k a1_0 a1_1).bind fun t2 => (bif t2 then (bif (a1_0 == (0 : Int)) then (bif (a1_1 == (-1 : Int)) then some true else some (a0_1 == a1_1)) else (bif (a0_0 == a1_0) then (bif (a1_1 == (-1 : Int)) then some true else some (a0_1 == a1_1)) else some false)) else some false) else some false)
def spec_IsNarrower.Γ (k : Nat) : Ct κ := assoc [(138, spec_IsPattern.C k)]
def spec_IsNarrower.LH (k : Nat) : Nat → Option (LHi κ) := assoc []
theorem spec_IsNarrower.hΓ (k : Nat) : ∀ f g, spec_IsNarrower.Γ k f = some g → CSound Try.prog f g := G_cons (spec_IsPattern.ok k) G_nil
theorem spec_IsNarrower.lok (k : Nat) : LOK ti (spec_IsNarrower.Γ k) (spec_IsNarrower.LH k) 0 (loopsOf (bodyOf Try.f150)) :=
  (show loopsOf (bodyOf Try.f150) = [] by kernel_rfl) ▸ LOK_nil
def spec_IsNarrower.sig : List PSh := [.agg [.sc, .sc], .agg [.sc, .sc]]
def spec_IsNarrower.g (y : Bool) : Ret κ := ⟨.v (.bool y), [], []⟩
def spec_IsNarrower.out (r : Ret κ) : Option Bool :=
  match r with
  | ⟨.v (.bool z0), [], []⟩ => some (z0)
  | _ => none
theorem spec_IsNarrower.out_ok (r : Ret κ) (y : Bool) (h : spec_IsNarrower.out r = some y) : r = spec_IsNarrower.g y := by
  unfold spec_IsNarrower.out at h
  split at h
  · obtain rfl := Option.some.inj h
    rfl
  · cases h
def spec_IsNarrower.body (k : Nat) (vs : List AV) (bs : List (Blk κ)) : Option (Lf κ) :=
  match vs, bs with
  | [.agg [.int .i64 a0_0, .int .i64 a0_1], .agg [.int .i64 a1_0, .int .i64 a1_1]], [] => some ⟨Bool, spec_IsNarrower.f k a0_0 a0_1 a1_0 a1_1, spec_IsNarrower.g⟩
  | _, _ => none
def spec_IsNarrower.C (k : Nat) : Nat → List AV → AP κ AV := contract spec_IsNarrower.sig (spec_IsNarrower.body k)
theorem spec_IsNarrower.den (k : Nat) (a0_0 : Int) (a0_1 : Int) (a1_0 : Int) (a1_1 : Int) : Code.den ti (spec_IsNarrower.Γ k) (spec_IsNarrower.LH k) (bodyOf Try.f150) (finK ti Try.f150.results.toList [] (flags spec_IsNarrower.sig).length (rwI (flags spec_IsNarrower.sig) 0) spec_IsNarrower.out) ⟨envOf (([.agg [.int .i64 a0_0, .int .i64 a0_1], .agg [.int .i64 a1_0, .int .i64 a1_1]]).zipIdx.map fun q => (q.2, q.1)), hpOf [], (flags spec_IsNarrower.sig).length⟩ = spec_IsNarrower.f k a0_0 a0_1 a1_0 a1_1 := by kernel_rfl
theorem spec_IsNarrower.ok (k : Nat) : CSound Try.prog 150 (spec_IsNarrower.C k) :=
  csound κ_ok mixed tok (spec_IsNarrower.hΓ k) (LH := spec_IsNarrower.LH k) (fn := Try.f150) (c := bodyOf Try.f150) Try.func150 rfl Try.call150 spec_IsNarrower.sig [] (spec_IsNarrower.body k) (by kernel_rfl) (spec_IsNarrower.lok k) (by decide) fun vs bs lf y hl hb hy => by
    unfold spec_IsNarrower.body at hb
    split at hb
    · obtain rfl := Option.some.inj hb
      exact ⟨spec_IsNarrower.out, spec_IsNarrower.out_ok, (spec_IsNarrower.den k _ _ _ _).trans hy⟩
    · cases hb
/-! ### spec_l11Within -/
def spec_l11Within.f (k : Nat) (a0_0 : Int) (a0_1 : Int) (a0_2 : Int) (a0_3 : Int) (a0_4 : Int) (a0_5 : Int) (a0_6 : Bool) (a1_0 : Int) (a1_1 : Int) (a1_2 : Int) (a1_3 : Int) (a1_4 : Int) (a1_5 : Int) (a1_6 : Bool) : Option Bool :=
  (spec_IsGrant.f k a0_0 a0_1 a0_2 a0_3 a0_4 a0_5 a0_6).bind fun t1 => (bif t1 then (spec_IsGrant.f k a1_0 a1_1 a1_2 a1_3 a1_4 a1_5 a1_6).bind fun t2 => (bif t2 then (bif (a0_0 == a1_0) then (bif (a0_3 == a1_3) then (spec_IsNarrower.f k a0_1 a0_2 a1_1 a1_2).bind fun t3 => (bif t3 then (bif decide (a1_4 ≤ a0_4) then (bif decide (a1_5 ≥ a0_5) then (bif a0_6 then some true else some (!a1_6)) else some false) else some false) else some false) else some false) else some false) else some false) else some false)
def spec_l11Within.Γ (k : Nat) : Ct κ := assoc [(106, spec_IsGrant.C k), (150, spec_IsNarrower.C k)]
def spec_l11Within.LH (k : Nat) : Nat → Option (LHi κ) := assoc []
theorem spec_l11Within.hΓ (k : Nat) : ∀ f g, spec_l11Within.Γ k f = some g → CSound Try.prog f g := G_cons (spec_IsGrant.ok k) (G_cons (spec_IsNarrower.ok k) G_nil)
theorem spec_l11Within.lok (k : Nat) : LOK ti (spec_l11Within.Γ k) (spec_l11Within.LH k) 0 (loopsOf (bodyOf Try.f134)) :=
  (show loopsOf (bodyOf Try.f134) = [] by kernel_rfl) ▸ LOK_nil
def spec_l11Within.sig : List PSh := [.agg [.sc, .sc, .sc, .sc, .sc, .sc, .sc], .agg [.sc, .sc, .sc, .sc, .sc, .sc, .sc]]
def spec_l11Within.g (y : Bool) : Ret κ := ⟨.v (.bool y), [], []⟩
def spec_l11Within.out (r : Ret κ) : Option Bool :=
  match r with
  | ⟨.v (.bool z0), [], []⟩ => some (z0)
  | _ => none
theorem spec_l11Within.out_ok (r : Ret κ) (y : Bool) (h : spec_l11Within.out r = some y) : r = spec_l11Within.g y := by
  unfold spec_l11Within.out at h
  split at h
  · obtain rfl := Option.some.inj h
    rfl
  · cases h
def spec_l11Within.body (k : Nat) (vs : List AV) (bs : List (Blk κ)) : Option (Lf κ) :=
  match vs, bs with
  | [.agg [.int .i64 a0_0, .int .i64 a0_1, .int .i64 a0_2, .int .i64 a0_3, .int .i64 a0_4, .int .i64 a0_5, .bool a0_6], .agg [.int .i64 a1_0, .int .i64 a1_1, .int .i64 a1_2, .int .i64 a1_3, .int .i64 a1_4, .int .i64 a1_5, .bool a1_6]], [] => some ⟨Bool, spec_l11Within.f k a0_0 a0_1 a0_2 a0_3 a0_4 a0_5 a0_6 a1_0 a1_1 a1_2 a1_3 a1_4 a1_5 a1_6, spec_l11Within.g⟩
  | _, _ => none
def spec_l11Within.C (k : Nat) : Nat → List AV → AP κ AV := contract spec_l11Within.sig (spec_l11Within.body k)
theorem spec_l11Within.den (k : Nat) (a0_0 : Int) (a0_1 : Int) (a0_2 : Int) (a0_3 : Int) (a0_4 : Int) (a0_5 : Int) (a0_6 : Bool) (a1_0 : Int) (a1_1 : Int) (a1_2 : Int) (a1_3 : Int) (a1_4 : Int) (a1_5 : Int) (a1_6 : Bool) : Code.den ti (spec_l11Within.Γ k) (spec_l11Within.LH k) (bodyOf Try.f134) (finK ti Try.f134.results.toList [] (flags spec_l11Within.sig).length (rwI (flags spec_l11Within.sig) 0) spec_l11Within.out) ⟨envOf (([.agg [.int .i64 a0_0, .int .i64 a0_1, .int .i64 a0_2, .int .i64 a0_3, .int .i64 a0_4, .int .i64 a0_5, .bool a0_6], .agg [.int .i64 a1_0, .int .i64 a1_1, .int .i64 a1_2, .int .i64 a1_3, .int .i64 a1_4, .int .i64 a1_5, .bool a1_6]]).zipIdx.map fun q => (q.2, q.1)), hpOf [], (flags spec_l11Within.sig).length⟩ = spec_l11Within.f k a0_0 a0_1 a0_2 a0_3 a0_4 a0_5 a0_6 a1_0 a1_1 a1_2 a1_3 a1_4 a1_5 a1_6 := by kernel_rfl
theorem spec_l11Within.ok (k : Nat) : CSound Try.prog 134 (spec_l11Within.C k) :=
  csound κ_ok mixed tok (spec_l11Within.hΓ k) (LH := spec_l11Within.LH k) (fn := Try.f134) (c := bodyOf Try.f134) Try.func134 rfl Try.call134 spec_l11Within.sig [] (spec_l11Within.body k) (by kernel_rfl) (spec_l11Within.lok k) (by decide) fun vs bs lf y hl hb hy => by
    unfold spec_l11Within.body at hb
    split at hb
    · obtain rfl := Option.some.inj hb
      exact ⟨spec_l11Within.out, spec_l11Within.out_ok, (spec_l11Within.den k _ _ _ _ _ _ _ _ _ _ _ _ _ _).trans hy⟩
    · cases hb
/-! ### spec_IsWithinGrants -/
def spec_IsWithinGrants.L6 {R : Type} (k : Nat) (x2 : Int) (xl0 : List T_impl_Grant) (xl1 : List T_impl_Grant) (X0 : Bool → Option R) (rec : Bool → Int → Option R) (x3 : Bool) (x4 : Int) : Option R :=
  (bif decide (x4 < (xl1.length : Int)) then (bif x3 then (rec true (w64 (x4 + (1 : Int)))) else (bif decide (0 ≤ x2) then (bif decide (x2 < (xl0.length : Int)) then (bif decide (0 ≤ x4) then (bif decide (x4 < (xl1.length : Int)) then (spec_l11Within.f k ((rd_impl_Grant xl0 x2).f0) ((rd_impl_Grant xl0 x2).f1.f0) ((rd_impl_Grant xl0 x2).f1.f1) ((rd_impl_Grant xl0 x2).f2) ((rd_impl_Grant xl0 x2).f3) ((rd_impl_Grant xl0 x2).f4) ((rd_impl_Grant xl0 x2).f5) ((rd_impl_Grant xl1 x4).f0) ((rd_impl_Grant xl1 x4).f1.f0) ((rd_impl_Grant xl1 x4).f1.f1) ((rd_impl_Grant xl1 x4).f2) ((rd_impl_Grant xl1 x4).f3) ((rd_impl_Grant xl1 x4).f4) ((rd_impl_Grant xl1 x4).f5)).bind fun t1 => (rec t1 (w64 (x4 + (1 : Int)))) else none) else none) else none) else none)) else (X0 x3))
def spec_IsWithinGrants.l6 {R : Type} (k : Nat) (x2 : Int) (xl0 : List T_impl_Grant) (xl1 : List T_impl_Grant) (X0 : Bool → Option R) : Nat → Bool → Int → Option R
  | 0 => fun _ _ => none
  | n + 1 => spec_IsWithinGrants.L6 k x2 xl0 xl1 X0 (spec_IsWithinGrants.l6 k x2 xl0 xl1 X0 n)
def spec_IsWithinGrants.L2 {R : Type} (k : Nat) (xl0 : List T_impl_Grant) (xl1 : List T_impl_Grant) (X0 : Bool → Option R) (X1 : Unit → Option R) (rec : Int → Option R) (x2 : Int) : Option R :=
  (bif decide (x2 < (xl0.length : Int)) then (spec_IsWithinGrants.l6 k x2 xl0 xl1 (fun (y1 : Bool) => (bif !y1 then (X0 false) else (rec (w64 (x2 + (1 : Int)))))) k false (0 : Int)) else (X1 ()))
def spec_IsWithinGrants.l2 {R : Type} (k : Nat) (xl0 : List T_impl_Grant) (xl1 : List T_impl_Grant) (X0 : Bool → Option R) (X1 : Unit → Option R) : Nat → Int → Option R
  | 0 => fun _ => none
  | n + 1 => spec_IsWithinGrants.L2 k xl0 xl1 X0 X1 (spec_IsWithinGrants.l2 k xl0 xl1 X0 X1 n)
def spec_IsWithinGrants.f (k : Nat) (a0 : List T_impl_Grant) (a1 : List T_impl_Grant) : Option Bool :=
  (spec_IsWithinGrants.l2 k a0 a1 (fun (y2 : Bool) => some y2) (fun (_ : Unit) => some true) k (0 : Int))
def spec_IsWithinGrants.h6 (k : Nat) {R : Type} (K : Ex → St κ → Option R) (vs : List AV) (bs : List (Blk κ)) : Option R :=
  match vs, bs with
  | [.v (.sl 0), .v (.sl 1), .v (.int .i64 x2), .v (.bool x3), .v (.int .i64 x4)], [qb0, qb1] => (asO 4 false qb0).bind fun xl0 => (asO 4 false qb1).bind fun xl1 => spec_IsWithinGrants.l6 k x2 xl0 xl1 (fun (z3 : Bool) => K (.exit 2) (stOf [(0, [some 4]), (1, [some 4]), (5, []), (6, [])] [.v (.sl 0), .v (.sl 1), .v (.int .i64 x2), .v (.bool z3)] [.rows 4 false xl0, .rows 4 false xl1])) k x3 x4
  | _, _ => none
def spec_IsWithinGrants.h2 (k : Nat) {R : Type} (K : Ex → St κ → Option R) (vs : List AV) (bs : List (Blk κ)) : Option R :=
  match vs, bs with
  | [.v (.sl 0), .v (.sl 1), .v (.int .i64 x2)], [qb0, qb1] => (asO 4 false qb0).bind fun xl0 => (asO 4 false qb1).bind fun xl1 => spec_IsWithinGrants.l2 k xl0 xl1 (fun (z0 : Bool) => K .ret (stOf [(4, [])] [.v (.bool z0)] [.rows 4 false xl0, .rows 4 false xl1])) (fun (_ : Unit) => K (.exit 0) (stOf [(4, [])] [.v .any] [.rows 4 false xl0, .rows 4 false xl1])) k x2
  | _, _ => none
def spec_IsWithinGrants.Γ (k : Nat) : Ct κ := assoc [(134, spec_l11Within.C k)]
def spec_IsWithinGrants.LH (k : Nat) : Nat → Option (LHi κ) := assoc [(6, ⟨2, [(0, [some 4]), (1, [some 4]), (5, []), (6, []), (7, [])], [(0, [some 4]), (1, [some 4]), (5, []), (6, [])], @spec_IsWithinGrants.h6 k⟩), (2, ⟨2, [(0, [some 4]), (1, [some 4]), (5, [])], [(4, [])], @spec_IsWithinGrants.h2 k⟩)]
theorem spec_IsWithinGrants.hΓ (k : Nat) : ∀ f g, spec_IsWithinGrants.Γ k f = some g → CSound Try.prog f g := G_cons (spec_l11Within.ok k) G_nil
theorem spec_IsWithinGrants.e6 {R : Type} (K : Ex → St κ → Option R) (k : Nat) (x2 : Int) (xl0 : List T_impl_Grant) (xl1 : List T_impl_Grant) : ∀ (n : Nat) (x3 : Bool) (x4 : Int), loopN 2 (Code.den ti (spec_IsWithinGrants.Γ k) (spec_IsWithinGrants.LH k) (loopAt Try.f100 1)) [(0, [some 4]), (1, [some 4]), (5, []), (6, []), (7, [])] [(0, [some 4]), (1, [some 4]), (5, []), (6, [])] K n [.v (.sl 0), .v (.sl 1), .v (.int .i64 x2), .v (.bool x3), .v (.int .i64 x4)] [.rows 4 false xl0, .rows 4 false xl1] = spec_IsWithinGrants.l6 k x2 xl0 xl1 (fun (z3 : Bool) => K (.exit 2) (stOf [(0, [some 4]), (1, [some 4]), (5, []), (6, [])] [.v (.sl 0), .v (.sl 1), .v (.int .i64 x2), .v (.bool z3)] [.rows 4 false xl0, .rows 4 false xl1])) n x3 x4
  | 0, _, _ => rfl
  | n + 1, x3, x4 => (show loopN 2 (Code.den ti (spec_IsWithinGrants.Γ k) (spec_IsWithinGrants.LH k) (loopAt Try.f100 1)) [(0, [some 4]), (1, [some 4]), (5, []), (6, []), (7, [])] [(0, [some 4]), (1, [some 4]), (5, []), (6, [])] K (n + 1) [.v (.sl 0), .v (.sl 1), .v (.int .i64 x2), .v (.bool x3), .v (.int .i64 x4)] [.rows 4 false xl0, .rows 4 false xl1] = spec_IsWithinGrants.L6 k x2 xl0 xl1 (fun (z3 : Bool) => K (.exit 2) (stOf [(0, [some 4]), (1, [some 4]), (5, []), (6, [])] [.v (.sl 0), .v (.sl 1), .v (.int .i64 x2), .v (.bool z3)] [.rows 4 false xl0, .rows 4 false xl1])) (fun (x3' : Bool) (x4' : Int) => loopN 2 (Code.den ti (spec_IsWithinGrants.Γ k) (spec_IsWithinGrants.LH k) (loopAt Try.f100 1)) [(0, [some 4]), (1, [some 4]), (5, []), (6, []), (7, [])] [(0, [some 4]), (1, [some 4]), (5, []), (6, [])] K n [.v (.sl 0), .v (.sl 1), .v (.int .i64 x2), .v (.bool x3'), .v (.int .i64 x4')] [.rows 4 false xl0, .rows 4 false xl1]) x3 x4 by kernel_rfl).trans (congrArg (fun rec => spec_IsWithinGrants.L6 k x2 xl0 xl1 (fun (z3 : Bool) => K (.exit 2) (stOf [(0, [some 4]), (1, [some 4]), (5, []), (6, [])] [.v (.sl 0), .v (.sl 1), .v (.int .i64 x2), .v (.bool z3)] [.rows 4 false xl0, .rows 4 false xl1])) rec x3 x4) (funext fun x3' => funext fun x4' => spec_IsWithinGrants.e6 K k x2 xl0 xl1 n x3' x4'))
theorem spec_IsWithinGrants.q6 (k : Nat) {R : Type} (K : Ex → St κ → Option R) (vs : List AV) (bs : List (Blk κ)) (r : R) (h : spec_IsWithinGrants.h6 k K vs bs = some r) : ∃ n, loopN 2 (Code.den ti (spec_IsWithinGrants.Γ k) (spec_IsWithinGrants.LH k) (loopAt Try.f100 1)) [(0, [some 4]), (1, [some 4]), (5, []), (6, []), (7, [])] [(0, [some 4]), (1, [some 4]), (5, []), (6, [])] K n vs bs = some r := by
  unfold spec_IsWithinGrants.h6 at h
  split at h
  · obtain ⟨_, rfl, h_1⟩ := asO_bind h
    obtain ⟨_, rfl, h_2⟩ := asO_bind h_1
    exact ⟨k, (spec_IsWithinGrants.e6 K k _ _ _ k _ _).trans h_2⟩
  · cases h
theorem spec_IsWithinGrants.e2 {R : Type} (K : Ex → St κ → Option R) (k : Nat) (xl0 : List T_impl_Grant) (xl1 : List T_impl_Grant) : ∀ (n : Nat) (x2 : Int), loopN 2 (Code.den ti (spec_IsWithinGrants.Γ k) (spec_IsWithinGrants.LH k) (loopAt Try.f100 0)) [(0, [some 4]), (1, [some 4]), (5, [])] [(4, [])] K n [.v (.sl 0), .v (.sl 1), .v (.int .i64 x2)] [.rows 4 false xl0, .rows 4 false xl1] = spec_IsWithinGrants.l2 k xl0 xl1 (fun (z0 : Bool) => K .ret (stOf [(4, [])] [.v (.bool z0)] [.rows 4 false xl0, .rows 4 false xl1])) (fun (_ : Unit) => K (.exit 0) (stOf [(4, [])] [.v .any] [.rows 4 false xl0, .rows 4 false xl1])) n x2
  | 0, _ => rfl
  | n + 1, x2 => (show loopN 2 (Code.den ti (spec_IsWithinGrants.Γ k) (spec_IsWithinGrants.LH k) (loopAt Try.f100 0)) [(0, [some 4]), (1, [some 4]), (5, [])] [(4, [])] K (n + 1) [.v (.sl 0), .v (.sl 1), .v (.int .i64 x2)] [.rows 4 false xl0, .rows 4 false xl1] = spec_IsWithinGrants.L2 k xl0 xl1 (fun (z0 : Bool) => K .ret (stOf [(4, [])] [.v (.bool z0)] [.rows 4 false xl0, .rows 4 false xl1])) (fun (_ : Unit) => K (.exit 0) (stOf [(4, [])] [.v .any] [.rows 4 false xl0, .rows 4 false xl1])) (fun (x2' : Int) => loopN 2 (Code.den ti (spec_IsWithinGrants.Γ k) (spec_IsWithinGrants.LH k) (loopAt Try.f100 0)) [(0, [some 4]), (1, [some 4]), (5, [])] [(4, [])] K n [.v (.sl 0), .v (.sl 1), .v (.int .i64 x2')] [.rows 4 false xl0, .rows 4 false xl1]) x2 by kernel_rfl).trans (congrArg (fun rec => spec_IsWithinGrants.L2 k xl0 xl1 (fun (z0 : Bool) => K .ret (stOf [(4, [])] [.v (.bool z0)] [.rows 4 false xl0, .rows 4 false xl1])) (fun (_ : Unit) => K (.exit 0) (stOf [(4, [])] [.v .any] [.rows 4 false xl0, .rows 4 false xl1])) rec x2) (funext fun x2' => spec_IsWithinGrants.e2 K k xl0 xl1 n x2'))
theorem spec_IsWithinGrants.q2 (k : Nat) {R : Type} (K : Ex → St κ → Option R) (vs : List AV) (bs : List (Blk κ)) (r : R) (h : spec_IsWithinGrants.h2 k K vs bs = some r) : ∃ n, loopN 2 (Code.den ti (spec_IsWithinGrants.Γ k) (spec_IsWithinGrants.LH k) (loopAt Try.f100 0)) [(0, [some 4]), (1, [some 4]), (5, [])] [(4, [])] K n vs bs = some r := by
  unfold spec_IsWithinGrants.h2 at h
  split at h
  · obtain ⟨_, rfl, h_1⟩ := asO_bind h
    obtain ⟨_, rfl, h_2⟩ := asO_bind h_1
    exact ⟨k, (spec_IsWithinGrants.e2 K k _ _ k _).trans h_2⟩
  · cases h
theorem spec_IsWithinGrants.lok (k : Nat) : LOK ti (spec_IsWithinGrants.Γ k) (spec_IsWithinGrants.LH k) 2 (loopsOf (bodyOf Try.f100)) :=
  (show loopsOf (bodyOf Try.f100) = [loopAt Try.f100 0, loopAt Try.f100 1] by kernel_rfl) ▸ (LOK_cons (g := ⟨2, [(0, [some 4]), (1, [some 4]), (5, [])], [(4, [])], @spec_IsWithinGrants.h2 k⟩) (by kernel_rfl) rfl (fun K vs xs r h => spec_IsWithinGrants.q2 k K vs xs r h) (LOK_cons (g := ⟨2, [(0, [some 4]), (1, [some 4]), (5, []), (6, []), (7, [])], [(0, [some 4]), (1, [some 4]), (5, []), (6, [])], @spec_IsWithinGrants.h6 k⟩) (by kernel_rfl) rfl (fun K vs xs r h => spec_IsWithinGrants.q6 k K vs xs r h) (LOK_nil)))
def spec_IsWithinGrants.sig : List PSh := [.one (.ro 4), .one (.ro 4)]
def spec_IsWithinGrants.g (y : Bool) : Ret κ := ⟨.v (.bool y), [], []⟩
def spec_IsWithinGrants.out (r : Ret κ) : Option Bool :=
  match r with
  | ⟨.v (.bool z0), [], []⟩ => some (z0)
  | _ => none
theorem spec_IsWithinGrants.out_ok (r : Ret κ) (y : Bool) (h : spec_IsWithinGrants.out r = some y) : r = spec_IsWithinGrants.g y := by
  unfold spec_IsWithinGrants.out at h
  split at h
  · obtain rfl := Option.some.inj h
    rfl
  · cases h
def spec_IsWithinGrants.body (k : Nat) (vs : List AV) (bs : List (Blk κ)) : Option (Lf κ) :=
  match vs, bs with
  | [.v (.sl 0), .v (.sl 1)], [qb0, qb1] => (asO 4 false qb0).bind fun a0 => (asO 4 false qb1).bind fun a1 => some ⟨Bool, spec_IsWithinGrants.f k a0 a1, spec_IsWithinGrants.g⟩
  | _, _ => none
def spec_IsWithinGrants.C (k : Nat) : Nat → List AV → AP κ AV := contract spec_IsWithinGrants.sig (spec_IsWithinGrants.body k)
theorem spec_IsWithinGrants.den (k : Nat) (a0 : List T_impl_Grant) (a1 : List T_impl_Grant) : Code.den ti (spec_IsWithinGrants.Γ k) (spec_IsWithinGrants.LH k) (bodyOf Try.f100) (finK ti Try.f100.results.toList [] (flags spec_IsWithinGrants.sig).length (rwI (flags spec_IsWithinGrants.sig) 0) spec_IsWithinGrants.out) ⟨envOf (([.v (.sl 0), .v (.sl 1)]).zipIdx.map fun q => (q.2, q.1)), hpOf [.rows 4 false a0, .rows 4 false a1], (flags spec_IsWithinGrants.sig).length⟩ = spec_IsWithinGrants.f k a0 a1 := by kernel_rfl
theorem spec_IsWithinGrants.ok (k : Nat) : CSound Try.prog 100 (spec_IsWithinGrants.C k) :=
  csound κ_ok mixed tok (spec_IsWithinGrants.hΓ k) (LH := spec_IsWithinGrants.LH k) (fn := Try.f100) (c := bodyOf Try.f100) Try.func100 rfl Try.call100 spec_IsWithinGrants.sig [] (spec_IsWithinGrants.body k) (by kernel_rfl) (spec_IsWithinGrants.lok k) (by decide) fun vs bs lf y hl hb hy => by
    unfold spec_IsWithinGrants.body at hb
    split at hb
    · obtain ⟨_, rfl, hb_1⟩ := asO_bind hb
      obtain ⟨_, rfl, hb_2⟩ := asO_bind hb_1
      obtain rfl := Option.some.inj hb_2
      exact ⟨spec_IsWithinGrants.out, spec_IsWithinGrants.out_ok, (spec_IsWithinGrants.den k _ _).trans hy⟩
    · cases hb
/-! ### spec_WidenedGrants -/
def spec_WidenedGrants.L3 {R : Type} (k : Nat) (xl0 : List T_impl_Grant) (xl1 : List T_impl_Flow) (xl2 : List T_impl_Rule) (xl3 : List T_impl_Op) (xl4 : List T_impl_Grant) (xl5 : List T_impl_Flow) (xl6 : List T_impl_Rule) (xl7 : List T_impl_Op) (xc8_0 : Int) (xc8_1 : Int) (xc8_2 : Int) (xc8_7 : Int) (xc9_0 : Int) (xc9_1 : Int) (xc9_2 : Int) (xc9_7 : Int) (X0 : List T_impl_Grant → Option R) (rec : Int → List T_impl_Grant → Option R) (x3 : Int) (xl10 : List T_impl_Grant) : Option R :=
  (bif decide (x3 < (xl4.length : Int)) then (bif decide (0 ≤ (w64 (x3 + (1 : Int)))) then (bif decide ((w64 (x3 + (1 : Int))) ≤ (xl4.length : Int)) then (bif decide (0 ≤ x3) then (bif decide (x3 ≤ (w64 (x3 + (1 : Int)))) then (spec_IsWithinGrants.f k ((xl4.take ((w64 (x3 + (1 : Int)))).toNat).drop (x3).toNat) xl0).bind fun t1 => (bif !t1 then (bif decide (0 ≤ x3) then (bif decide (x3 < (xl4.length : Int)) then (bif decide ((xl10.length + ([(⟨(rd_impl_Grant xl4 x3).f0, (⟨(rd_impl_Grant xl4 x3).f1.f0, (rd_impl_Grant xl4 x3).f1.f1⟩ : T_impl_Pattern), (rd_impl_Grant xl4 x3).f2, (rd_impl_Grant xl4 x3).f3, (rd_impl_Grant xl4 x3).f4, (rd_impl_Grant xl4 x3).f5⟩ : T_impl_Grant)] : List T_impl_Grant).length) * 56 ≤ cap48) then (let l2 : List T_impl_Grant := (xl10 ++ ([(⟨(rd_impl_Grant xl4 x3).f0, (⟨(rd_impl_Grant xl4 x3).f1.f0, (rd_impl_Grant xl4 x3).f1.f1⟩ : T_impl_Pattern), (rd_impl_Grant xl4 x3).f2, (rd_impl_Grant xl4 x3).f3, (rd_impl_Grant xl4 x3).f4, (rd_impl_Grant xl4 x3).f5⟩ : T_impl_Grant)] : List T_impl_Grant)); (rec (w64 (x3 + (1 : Int))) l2)) else none) else none) else none) else (rec (w64 (x3 + (1 : Int))) xl10)) else none) else none) else none) else none) else (X0 xl10))
def spec_WidenedGrants.l3 {R : Type} (k : Nat) (xl0 : List T_impl_Grant) (xl1 : List T_impl_Flow) (xl2 : List T_impl_Rule) (xl3 : List T_impl_Op) (xl4 : List T_impl_Grant) (xl5 : List T_impl_Flow) (xl6 : List T_impl_Rule) (xl7 : List T_impl_Op) (xc8_0 : Int) (xc8_1 : Int) (xc8_2 : Int) (xc8_7 : Int) (xc9_0 : Int) (xc9_1 : Int) (xc9_2 : Int) (xc9_7 : Int) (X0 : List T_impl_Grant → Option R) : Nat → Int → List T_impl_Grant → Option R
  | 0 => fun _ _ => none
  | n + 1 => spec_WidenedGrants.L3 k xl0 xl1 xl2 xl3 xl4 xl5 xl6 xl7 xc8_0 xc8_1 xc8_2 xc8_7 xc9_0 xc9_1 xc9_2 xc9_7 X0 (spec_WidenedGrants.l3 k xl0 xl1 xl2 xl3 xl4 xl5 xl6 xl7 xc8_0 xc8_1 xc8_2 xc8_7 xc9_0 xc9_1 xc9_2 xc9_7 X0 n)
def spec_WidenedGrants.f (k : Nat) (a0_0 : Int) (a0_1 : Int) (a0_2 : Int) (a0_3 : List T_impl_Grant) (a0_4 : List T_impl_Flow) (a0_5 : List T_impl_Rule) (a0_6 : List T_impl_Op) (a0_7 : Int) (a1_0 : Int) (a1_1 : Int) (a1_2 : Int) (a1_3 : List T_impl_Grant) (a1_4 : List T_impl_Flow) (a1_5 : List T_impl_Rule) (a1_6 : List T_impl_Op) (a1_7 : Int) : Option (List T_impl_Grant) :=
  (spec_WidenedGrants.l3 k a0_3 a0_4 a0_5 a0_6 a1_3 a1_4 a1_5 a1_6 a0_0 a0_1 a0_2 a0_7 a1_0 a1_1 a1_2 a1_7 (fun (y3 : List T_impl_Grant) => some y3) k (0 : Int) ([] : List T_impl_Grant))
def spec_WidenedGrants.h3 (k : Nat) {R : Type} (K : Ex → St κ → Option R) (vs : List AV) (bs : List (Blk κ)) : Option R :=
  match vs, bs with
  | [.v (.ptr 8 0 0), .v (.ptr 9 0 0), .v (.sl 10), .v (.int .i64 x3)], [qb0, qb1, qb2, qb3, qb4, qb5, qb6, qb7, .cells 35 [.int .i64 xc8_0, .int .i64 xc8_1, .int .i64 xc8_2, .sl 0, .sl 1, .sl 2, .sl 3, .int .i64 xc8_7], .cells 35 [.int .i64 xc9_0, .int .i64 xc9_1, .int .i64 xc9_2, .sl 4, .sl 5, .sl 6, .sl 7, .int .i64 xc9_7], qb10] => (asO 4 false qb0).bind fun xl0 => (asO 5 false qb1).bind fun xl1 => (asO 6 false qb2).bind fun xl2 => (asO 7 false qb3).bind fun xl3 => (asO 4 false qb4).bind fun xl4 => (asO 5 false qb5).bind fun xl5 => (asO 6 false qb6).bind fun xl6 => (asO 7 false qb7).bind fun xl7 => (asO 4 true qb10).bind fun xl10 => spec_WidenedGrants.l3 k xl0 xl1 xl2 xl3 xl4 xl5 xl6 xl7 xc8_0 xc8_1 xc8_2 xc8_7 xc9_0 xc9_1 xc9_2 xc9_7 (fun (zl8 : List T_impl_Grant) => K (.exit 0) (stOf [(5, [some 4])] [.v (.sl 8)] [.rows 4 false xl0, .rows 5 false xl1, .rows 6 false xl2, .rows 7 false xl3, .rows 4 false xl4, .rows 5 false xl5, .rows 6 false xl6, .rows 7 false xl7, .rows 4 true zl8])) k x3 xl10
  | _, _ => none
def spec_WidenedGrants.Γ (k : Nat) : Ct κ := assoc [(100, spec_IsWithinGrants.C k)]
def spec_WidenedGrants.LH (k : Nat) : Nat → Option (LHi κ) := assoc [(3, ⟨8, [(2, [none, none, none, some 4, some 5, some 6, some 7, none]), (3, [none, none, none, some 4, some 5, some 6, some 7, none]), (5, [some 4]), (6, [])], [(5, [some 4])], @spec_WidenedGrants.h3 k⟩)]
theorem spec_WidenedGrants.hΓ (k : Nat) : ∀ f g, spec_WidenedGrants.Γ k f = some g → CSound Try.prog f g := G_cons (spec_IsWithinGrants.ok k) G_nil
theorem spec_WidenedGrants.e3 {R : Type} (K : Ex → St κ → Option R) (k : Nat) (xl0 : List T_impl_Grant) (xl1 : List T_impl_Flow) (xl2 : List T_impl_Rule) (xl3 : List T_impl_Op) (xl4 : List T_impl_Grant) (xl5 : List T_impl_Flow) (xl6 : List T_impl_Rule) (xl7 : List T_impl_Op) (xc8_0 : Int) (xc8_1 : Int) (xc8_2 : Int) (xc8_7 : Int) (xc9_0 : Int) (xc9_1 : Int) (xc9_2 : Int) (xc9_7 : Int) : ∀ (n : Nat) (x3 : Int) (xl10 : List T_impl_Grant), loopN 8 (Code.den ti (spec_WidenedGrants.Γ k) (spec_WidenedGrants.LH k) (loopAt Try.f47 0)) [(2, [none, none, none, some 4, some 5, some 6, some 7, none]), (3, [none, none, none, some 4, some 5, some 6, some 7, none]), (5, [some 4]), (6, [])] [(5, [some 4])] K n [.v (.ptr 8 0 0), .v (.ptr 9 0 0), .v (.sl 10), .v (.int .i64 x3)] [.rows 4 false xl0, .rows 5 false xl1, .rows 6 false xl2, .rows 7 false xl3, .rows 4 false xl4, .rows 5 false xl5, .rows 6 false xl6, .rows 7 false xl7, .cells 35 [.int .i64 xc8_0, .int .i64 xc8_1, .int .i64 xc8_2, .sl 0, .sl 1, .sl 2, .sl 3, .int .i64 xc8_7], .cells 35 [.int .i64 xc9_0, .int .i64 xc9_1, .int .i64 xc9_2, .sl 4, .sl 5, .sl 6, .sl 7, .int .i64 xc9_7], .rows 4 true xl10] = spec_WidenedGrants.l3 k xl0 xl1 xl2 xl3 xl4 xl5 xl6 xl7 xc8_0 xc8_1 xc8_2 xc8_7 xc9_0 xc9_1 xc9_2 xc9_7 (fun (zl8 : List T_impl_Grant) => K (.exit 0) (stOf [(5, [some 4])] [.v (.sl 8)] [.rows 4 false xl0, .rows 5 false xl1, .rows 6 false xl2, .rows 7 false xl3, .rows 4 false xl4, .rows 5 false xl5, .rows 6 false xl6, .rows 7 false xl7, .rows 4 true zl8])) n x3 xl10
  | 0, _, _ => rfl
  | n + 1, x3, xl10 => (show loopN 8 (Code.den ti (spec_WidenedGrants.Γ k) (spec_WidenedGrants.LH k) (loopAt Try.f47 0)) [(2, [none, none, none, some 4, some 5, some 6, some 7, none]), (3, [none, none, none, some 4, some 5, some 6, some 7, none]), (5, [some 4]), (6, [])] [(5, [some 4])] K (n + 1) [.v (.ptr 8 0 0), .v (.ptr 9 0 0), .v (.sl 10), .v (.int .i64 x3)] [.rows 4 false xl0, .rows 5 false xl1, .rows 6 false xl2, .rows 7 false xl3, .rows 4 false xl4, .rows 5 false xl5, .rows 6 false xl6, .rows 7 false xl7, .cells 35 [.int .i64 xc8_0, .int .i64 xc8_1, .int .i64 xc8_2, .sl 0, .sl 1, .sl 2, .sl 3, .int .i64 xc8_7], .cells 35 [.int .i64 xc9_0, .int .i64 xc9_1, .int .i64 xc9_2, .sl 4, .sl 5, .sl 6, .sl 7, .int .i64 xc9_7], .rows 4 true xl10] = spec_WidenedGrants.L3 k xl0 xl1 xl2 xl3 xl4 xl5 xl6 xl7 xc8_0 xc8_1 xc8_2 xc8_7 xc9_0 xc9_1 xc9_2 xc9_7 (fun (zl8 : List T_impl_Grant) => K (.exit 0) (stOf [(5, [some 4])] [.v (.sl 8)] [.rows 4 false xl0, .rows 5 false xl1, .rows 6 false xl2, .rows 7 false xl3, .rows 4 false xl4, .rows 5 false xl5, .rows 6 false xl6, .rows 7 false xl7, .rows 4 true zl8])) (fun (x3' : Int) (xl10' : List T_impl_Grant) => loopN 8 (Code.den ti (spec_WidenedGrants.Γ k) (spec_WidenedGrants.LH k) (loopAt Try.f47 0)) [(2, [none, none, none, some 4, some 5, some 6, some 7, none]), (3, [none, none, none, some 4, some 5, some 6, some 7, none]), (5, [some 4]), (6, [])] [(5, [some 4])] K n [.v (.ptr 8 0 0), .v (.ptr 9 0 0), .v (.sl 10), .v (.int .i64 x3')] [.rows 4 false xl0, .rows 5 false xl1, .rows 6 false xl2, .rows 7 false xl3, .rows 4 false xl4, .rows 5 false xl5, .rows 6 false xl6, .rows 7 false xl7, .cells 35 [.int .i64 xc8_0, .int .i64 xc8_1, .int .i64 xc8_2, .sl 0, .sl 1, .sl 2, .sl 3, .int .i64 xc8_7], .cells 35 [.int .i64 xc9_0, .int .i64 xc9_1, .int .i64 xc9_2, .sl 4, .sl 5, .sl 6, .sl 7, .int .i64 xc9_7], .rows 4 true xl10']) x3 xl10 by kernel_rfl).trans (congrArg (fun rec => spec_WidenedGrants.L3 k xl0 xl1 xl2 xl3 xl4 xl5 xl6 xl7 xc8_0 xc8_1 xc8_2 xc8_7 xc9_0 xc9_1 xc9_2 xc9_7 (fun (zl8 : List T_impl_Grant) => K (.exit 0) (stOf [(5, [some 4])] [.v (.sl 8)] [.rows 4 false xl0, .rows 5 false xl1, .rows 6 false xl2, .rows 7 false xl3, .rows 4 false xl4, .rows 5 false xl5, .rows 6 false xl6, .rows 7 false xl7, .rows 4 true zl8])) rec x3 xl10) (funext fun x3' => funext fun xl10' => spec_WidenedGrants.e3 K k xl0 xl1 xl2 xl3 xl4 xl5 xl6 xl7 xc8_0 xc8_1 xc8_2 xc8_7 xc9_0 xc9_1 xc9_2 xc9_7 n x3' xl10'))
theorem spec_WidenedGrants.q3 (k : Nat) {R : Type} (K : Ex → St κ → Option R) (vs : List AV) (bs : List (Blk κ)) (r : R) (h : spec_WidenedGrants.h3 k K vs bs = some r) : ∃ n, loopN 8 (Code.den ti (spec_WidenedGrants.Γ k) (spec_WidenedGrants.LH k) (loopAt Try.f47 0)) [(2, [none, none, none, some 4, some 5, some 6, some 7, none]), (3, [none, none, none, some 4, some 5, some 6, some 7, none]), (5, [some 4]), (6, [])] [(5, [some 4])] K n vs bs = some r := by
  unfold spec_WidenedGrants.h3 at h
  split at h
  · obtain ⟨_, rfl, h_1⟩ := asO_bind h
    obtain ⟨_, rfl, h_2⟩ := asO_bind h_1
    obtain ⟨_, rfl, h_3⟩ := asO_bind h_2
    obtain ⟨_, rfl, h_4⟩ := asO_bind h_3
    obtain ⟨_, rfl, h_5⟩ := asO_bind h_4
    obtain ⟨_, rfl, h_6⟩ := asO_bind h_5
    obtain ⟨_, rfl, h_7⟩ := asO_bind h_6
    obtain ⟨_, rfl, h_8⟩ := asO_bind h_7
    obtain ⟨_, rfl, h_9⟩ := asO_bind h_8
    exact ⟨k, (spec_WidenedGrants.e3 K k _ _ _ _ _ _ _ _ _ _ _ _ _ _ _ _ k _ _).trans h_9⟩
  · cases h
theorem spec_WidenedGrants.lok (k : Nat) : LOK ti (spec_WidenedGrants.Γ k) (spec_WidenedGrants.LH k) 8 (loopsOf (bodyOf Try.f47)) :=
  (show loopsOf (bodyOf Try.f47) = [loopAt Try.f47 0] by kernel_rfl) ▸ (LOK_cons (g := ⟨8, [(2, [none, none, none, some 4, some 5, some 6, some 7, none]), (3, [none, none, none, some 4, some 5, some 6, some 7, none]), (5, [some 4]), (6, [])], [(5, [some 4])], @spec_WidenedGrants.h3 k⟩) (by kernel_rfl) rfl (fun K vs xs r h => spec_WidenedGrants.q3 k K vs xs r h) (LOK_nil))
def spec_WidenedGrants.sig : List PSh := [.agg [.sc, .sc, .sc, .ro 4, .ro 5, .ro 6, .ro 7, .sc], .agg [.sc, .sc, .sc, .ro 4, .ro 5, .ro 6, .ro 7, .sc]]
def spec_WidenedGrants.g (y : List T_impl_Grant) : Ret κ := ⟨.v (.sl 8), [], [.rows 4 true y]⟩
def spec_WidenedGrants.out (r : Ret κ) : Option (List T_impl_Grant) :=
  match r with
  | ⟨.v (.sl 8), [], [q0]⟩ => (asO 4 true q0).bind fun z0 => some (z0)
  | _ => none
theorem spec_WidenedGrants.out_ok (r : Ret κ) (y : List T_impl_Grant) (h : spec_WidenedGrants.out r = some y) : r = spec_WidenedGrants.g y := by
  unfold spec_WidenedGrants.out at h
  split at h
  · obtain ⟨_, rfl, h_1⟩ := asO_bind h
    obtain rfl := Option.some.inj h_1
    rfl
  · cases h
def spec_WidenedGrants.body (k : Nat) (vs : List AV) (bs : List (Blk κ)) : Option (Lf κ) :=
  match vs, bs with
  | [.agg [.int .i64 a0_0, .int .i64 a0_1, .int .i64 a0_2, .sl 0, .sl 1, .sl 2, .sl 3, .int .i64 a0_7], .agg [.int .i64 a1_0, .int .i64 a1_1, .int .i64 a1_2, .sl 4, .sl 5, .sl 6, .sl 7, .int .i64 a1_7]], [qb0, qb1, qb2, qb3, qb4, qb5, qb6, qb7] => (asO 4 false qb0).bind fun a0_3 => (asO 5 false qb1).bind fun a0_4 => (asO 6 false qb2).bind fun a0_5 => (asO 7 false qb3).bind fun a0_6 => (asO 4 false qb4).bind fun a1_3 => (asO 5 false qb5).bind fun a1_4 => (asO 6 false qb6).bind fun a1_5 => (asO 7 false qb7).bind fun a1_6 => some ⟨List T_impl_Grant, spec_WidenedGrants.f k a0_0 a0_1 a0_2 a0_3 a0_4 a0_5 a0_6 a0_7 a1_0 a1_1 a1_2 a1_3 a1_4 a1_5 a1_6 a1_7, spec_WidenedGrants.g⟩
  | _, _ => none
def spec_WidenedGrants.C (k : Nat) : Nat → List AV → AP κ AV := contract spec_WidenedGrants.sig (spec_WidenedGrants.body k)
theorem spec_WidenedGrants.den (k : Nat) (a0_0 : Int) (a0_1 : Int) (a0_2 : Int) (a0_3 : List T_impl_Grant) (a0_4 : List T_impl_Flow) (a0_5 : List T_impl_Rule) (a0_6 : List T_impl_Op) (a0_7 : Int) (a1_0 : Int) (a1_1 : Int) (a1_2 : Int) (a1_3 : List T_impl_Grant) (a1_4 : List T_impl_Flow) (a1_5 : List T_impl_Rule) (a1_6 : List T_impl_Op) (a1_7 : Int) : Code.den ti (spec_WidenedGrants.Γ k) (spec_WidenedGrants.LH k) (bodyOf Try.f47) (finK ti Try.f47.results.toList [(4, [some 4])] (flags spec_WidenedGrants.sig).length (rwI (flags spec_WidenedGrants.sig) 0) spec_WidenedGrants.out) ⟨envOf (([.agg [.int .i64 a0_0, .int .i64 a0_1, .int .i64 a0_2, .sl 0, .sl 1, .sl 2, .sl 3, .int .i64 a0_7], .agg [.int .i64 a1_0, .int .i64 a1_1, .int .i64 a1_2, .sl 4, .sl 5, .sl 6, .sl 7, .int .i64 a1_7]]).zipIdx.map fun q => (q.2, q.1)), hpOf [.rows 4 false a0_3, .rows 5 false a0_4, .rows 6 false a0_5, .rows 7 false a0_6, .rows 4 false a1_3, .rows 5 false a1_4, .rows 6 false a1_5, .rows 7 false a1_6], (flags spec_WidenedGrants.sig).length⟩ = spec_WidenedGrants.f k a0_0 a0_1 a0_2 a0_3 a0_4 a0_5 a0_6 a0_7 a1_0 a1_1 a1_2 a1_3 a1_4 a1_5 a1_6 a1_7 := by kernel_rfl
theorem spec_WidenedGrants.ok (k : Nat) : CSound Try.prog 47 (spec_WidenedGrants.C k) :=
  csound κ_ok mixed tok (spec_WidenedGrants.hΓ k) (LH := spec_WidenedGrants.LH k) (fn := Try.f47) (c := bodyOf Try.f47) Try.func47 rfl Try.call47 spec_WidenedGrants.sig [(4, [some 4])] (spec_WidenedGrants.body k) (by kernel_rfl) (spec_WidenedGrants.lok k) (by decide) fun vs bs lf y hl hb hy => by
    unfold spec_WidenedGrants.body at hb
    split at hb
    · obtain ⟨_, rfl, hb_1⟩ := asO_bind hb
      obtain ⟨_, rfl, hb_2⟩ := asO_bind hb_1
      obtain ⟨_, rfl, hb_3⟩ := asO_bind hb_2
      obtain ⟨_, rfl, hb_4⟩ := asO_bind hb_3
      obtain ⟨_, rfl, hb_5⟩ := asO_bind hb_4
      obtain ⟨_, rfl, hb_6⟩ := asO_bind hb_5
      obtain ⟨_, rfl, hb_7⟩ := asO_bind hb_6
      obtain ⟨_, rfl, hb_8⟩ := asO_bind hb_7
      obtain rfl := Option.some.inj hb_8
      exact ⟨spec_WidenedGrants.out, spec_WidenedGrants.out_ok, (spec_WidenedGrants.den k _ _ _ _ _ _ _ _ _ _ _ _ _ _ _ _).trans hy⟩
    · cases hb
/-! ### impl_InRange -/
def impl_InRange.f (k : Nat) (a0 : Int) (a1 : Int) (a2 : Int) : Option Bool :=
  (bif decide (a1 ≤ a0) then some (decide (a0 ≤ a2)) else some false)
def impl_InRange.Γ (k : Nat) : Ct κ := assoc []
def impl_InRange.LH (k : Nat) : Nat → Option (LHi κ) := assoc []
theorem impl_InRange.hΓ (k : Nat) : ∀ f g, impl_InRange.Γ k f = some g → CSound Try.prog f g := G_nil
theorem impl_InRange.lok (k : Nat) : LOK ti (impl_InRange.Γ k) (impl_InRange.LH k) 0 (loopsOf (bodyOf Try.f72)) :=
  (show loopsOf (bodyOf Try.f72) = [] by kernel_rfl) ▸ LOK_nil
def impl_InRange.sig : List PSh := [.one .sc, .one .sc, .one .sc]
def impl_InRange.g (y : Bool) : Ret κ := ⟨.v (.bool y), [], []⟩
def impl_InRange.out (r : Ret κ) : Option Bool :=
  match r with
  | ⟨.v (.bool z0), [], []⟩ => some (z0)
  | _ => none
theorem impl_InRange.out_ok (r : Ret κ) (y : Bool) (h : impl_InRange.out r = some y) : r = impl_InRange.g y := by
  unfold impl_InRange.out at h
  split at h
  · obtain rfl := Option.some.inj h
    rfl
  · cases h
def impl_InRange.body (k : Nat) (vs : List AV) (bs : List (Blk κ)) : Option (Lf κ) :=
  match vs, bs with
  | [.v (.int .i64 a0), .v (.int .i64 a1), .v (.int .i64 a2)], [] => some ⟨Bool, impl_InRange.f k a0 a1 a2, impl_InRange.g⟩
  | _, _ => none
def impl_InRange.C (k : Nat) : Nat → List AV → AP κ AV := contract impl_InRange.sig (impl_InRange.body k)
theorem impl_InRange.den (k : Nat) (a0 : Int) (a1 : Int) (a2 : Int) : Code.den ti (impl_InRange.Γ k) (impl_InRange.LH k) (bodyOf Try.f72) (finK ti Try.f72.results.toList [] (flags impl_InRange.sig).length (rwI (flags impl_InRange.sig) 0) impl_InRange.out) ⟨envOf (([.v (.int .i64 a0), .v (.int .i64 a1), .v (.int .i64 a2)]).zipIdx.map fun q => (q.2, q.1)), hpOf [], (flags impl_InRange.sig).length⟩ = impl_InRange.f k a0 a1 a2 := by kernel_rfl
theorem impl_InRange.ok (k : Nat) : CSound Try.prog 72 (impl_InRange.C k) :=
  csound κ_ok mixed tok (impl_InRange.hΓ k) (LH := impl_InRange.LH k) (fn := Try.f72) (c := bodyOf Try.f72) Try.func72 rfl Try.call72 impl_InRange.sig [] (impl_InRange.body k) (by kernel_rfl) (impl_InRange.lok k) (by decide) fun vs bs lf y hl hb hy => by
    unfold impl_InRange.body at hb
    split at hb
    · obtain rfl := Option.some.inj hb
      exact ⟨impl_InRange.out, impl_InRange.out_ok, (impl_InRange.den k _ _ _).trans hy⟩
    · cases hb
/-! ### impl_IsPattern -/
def impl_IsPattern.f (k : Nat) (a0_0 : Int) (a0_1 : Int) : Option Bool :=
  (impl_InRange.f k a0_0 (0 : Int) (9 : Int)).bind fun t1 => (bif t1 then (impl_InRange.f k a0_1 (-1 : Int) (9 : Int)).bind fun t2 => some t2 else some false)
def impl_IsPattern.Γ (k : Nat) : Ct κ := assoc [(72, impl_InRange.C k)]
def impl_IsPattern.LH (k : Nat) : Nat → Option (LHi κ) := assoc []
theorem impl_IsPattern.hΓ (k : Nat) : ∀ f g, impl_IsPattern.Γ k f = some g → CSound Try.prog f g := G_cons (impl_InRange.ok k) G_nil
theorem impl_IsPattern.lok (k : Nat) : LOK ti (impl_IsPattern.Γ k) (impl_IsPattern.LH k) 0 (loopsOf (bodyOf Try.f126)) :=
  (show loopsOf (bodyOf Try.f126) = [] by kernel_rfl) ▸ LOK_nil
def impl_IsPattern.sig : List PSh := [.agg [.sc, .sc]]
def impl_IsPattern.g (y : Bool) : Ret κ := ⟨.v (.bool y), [], []⟩
def impl_IsPattern.out (r : Ret κ) : Option Bool :=
  match r with
  | ⟨.v (.bool z0), [], []⟩ => some (z0)
  | _ => none
theorem impl_IsPattern.out_ok (r : Ret κ) (y : Bool) (h : impl_IsPattern.out r = some y) : r = impl_IsPattern.g y := by
  unfold impl_IsPattern.out at h
  split at h
  · obtain rfl := Option.some.inj h
    rfl
  · cases h
def impl_IsPattern.body (k : Nat) (vs : List AV) (bs : List (Blk κ)) : Option (Lf κ) :=
  match vs, bs with
  | [.agg [.int .i64 a0_0, .int .i64 a0_1]], [] => some ⟨Bool, impl_IsPattern.f k a0_0 a0_1, impl_IsPattern.g⟩
  | _, _ => none
def impl_IsPattern.C (k : Nat) : Nat → List AV → AP κ AV := contract impl_IsPattern.sig (impl_IsPattern.body k)
theorem impl_IsPattern.den (k : Nat) (a0_0 : Int) (a0_1 : Int) : Code.den ti (impl_IsPattern.Γ k) (impl_IsPattern.LH k) (bodyOf Try.f126) (finK ti Try.f126.results.toList [] (flags impl_IsPattern.sig).length (rwI (flags impl_IsPattern.sig) 0) impl_IsPattern.out) ⟨envOf (([.agg [.int .i64 a0_0, .int .i64 a0_1]]).zipIdx.map fun q => (q.2, q.1)), hpOf [], (flags impl_IsPattern.sig).length⟩ = impl_IsPattern.f k a0_0 a0_1 := by kernel_rfl
theorem impl_IsPattern.ok (k : Nat) : CSound Try.prog 126 (impl_IsPattern.C k) :=
  csound κ_ok mixed tok (impl_IsPattern.hΓ k) (LH := impl_IsPattern.LH k) (fn := Try.f126) (c := bodyOf Try.f126) Try.func126 rfl Try.call126 impl_IsPattern.sig [] (impl_IsPattern.body k) (by kernel_rfl) (impl_IsPattern.lok k) (by decide) fun vs bs lf y hl hb hy => by
    unfold impl_IsPattern.body at hb
    split at hb
    · obtain rfl := Option.some.inj hb
      exact ⟨impl_IsPattern.out, impl_IsPattern.out_ok, (impl_IsPattern.den k _ _).trans hy⟩
    · cases hb
/-! ### impl_IsGrant -/
def impl_IsGrant.f (k : Nat) (a0_0 : Int) (a0_1 : Int) (a0_2 : Int) (a0_3 : Int) (a0_4 : Int) (a0_5 : Int) (a0_6 : Bool) : Option Bool :=
  (impl_InRange.f k a0_0 (1 : Int) (5 : Int)).bind fun t1 => (bif t1 then (impl_IsPattern.f k a0_1 a0_2).bind fun t2 => (bif t2 then (impl_InRange.f k a0_3 (1 : Int) (4 : Int)).bind fun t3 => (bif t3 then (bif decide ((0 : Int) ≤ a0_4) then (bif decide (a0_4 ≤ a0_5) then some (decide (a0_5 ≤ (10000 : Int))) else some false) else some false) else some false) else some false) else some false)
def impl_IsGrant.Γ (k : Nat) : Ct κ := assoc [(72, impl_InRange.C k), (126, impl_IsPattern.C k)]
def impl_IsGrant.LH (k : Nat) : Nat → Option (LHi κ) := assoc []
theorem impl_IsGrant.hΓ (k : Nat) : ∀ f g, impl_IsGrant.Γ k f = some g → CSound Try.prog f g := G_cons (impl_InRange.ok k) (G_cons (impl_IsPattern.ok k) G_nil)
theorem impl_IsGrant.lok (k : Nat) : LOK ti (impl_IsGrant.Γ k) (impl_IsGrant.LH k) 0 (loopsOf (bodyOf Try.f73)) :=
  (show loopsOf (bodyOf Try.f73) = [] by kernel_rfl) ▸ LOK_nil
def impl_IsGrant.sig : List PSh := [.agg [.sc, .sc, .sc, .sc, .sc, .sc, .sc]]
def impl_IsGrant.g (y : Bool) : Ret κ := ⟨.v (.bool y), [], []⟩
def impl_IsGrant.out (r : Ret κ) : Option Bool :=
  match r with
  | ⟨.v (.bool z0), [], []⟩ => some (z0)
  | _ => none
theorem impl_IsGrant.out_ok (r : Ret κ) (y : Bool) (h : impl_IsGrant.out r = some y) : r = impl_IsGrant.g y := by
  unfold impl_IsGrant.out at h
  split at h
  · obtain rfl := Option.some.inj h
    rfl
  · cases h
def impl_IsGrant.body (k : Nat) (vs : List AV) (bs : List (Blk κ)) : Option (Lf κ) :=
  match vs, bs with
  | [.agg [.int .i64 a0_0, .int .i64 a0_1, .int .i64 a0_2, .int .i64 a0_3, .int .i64 a0_4, .int .i64 a0_5, .bool a0_6]], [] => some ⟨Bool, impl_IsGrant.f k a0_0 a0_1 a0_2 a0_3 a0_4 a0_5 a0_6, impl_IsGrant.g⟩
  | _, _ => none
def impl_IsGrant.C (k : Nat) : Nat → List AV → AP κ AV := contract impl_IsGrant.sig (impl_IsGrant.body k)
theorem impl_IsGrant.den (k : Nat) (a0_0 : Int) (a0_1 : Int) (a0_2 : Int) (a0_3 : Int) (a0_4 : Int) (a0_5 : Int) (a0_6 : Bool) : Code.den ti (impl_IsGrant.Γ k) (impl_IsGrant.LH k) (bodyOf Try.f73) (finK ti Try.f73.results.toList [] (flags impl_IsGrant.sig).length (rwI (flags impl_IsGrant.sig) 0) impl_IsGrant.out) ⟨envOf (([.agg [.int .i64 a0_0, .int .i64 a0_1, .int .i64 a0_2, .int .i64 a0_3, .int .i64 a0_4, .int .i64 a0_5, .bool a0_6]]).zipIdx.map fun q => (q.2, q.1)), hpOf [], (flags impl_IsGrant.sig).length⟩ = impl_IsGrant.f k a0_0 a0_1 a0_2 a0_3 a0_4 a0_5 a0_6 := by kernel_rfl
theorem impl_IsGrant.ok (k : Nat) : CSound Try.prog 73 (impl_IsGrant.C k) :=
  csound κ_ok mixed tok (impl_IsGrant.hΓ k) (LH := impl_IsGrant.LH k) (fn := Try.f73) (c := bodyOf Try.f73) Try.func73 rfl Try.call73 impl_IsGrant.sig [] (impl_IsGrant.body k) (by kernel_rfl) (impl_IsGrant.lok k) (by decide) fun vs bs lf y hl hb hy => by
    unfold impl_IsGrant.body at hb
    split at hb
    · obtain rfl := Option.some.inj hb
      exact ⟨impl_IsGrant.out, impl_IsGrant.out_ok, (impl_IsGrant.den k _ _ _ _ _ _ _).trans hy⟩
    · cases hb
/-! ### impl_IsNarrower -/
def impl_IsNarrower.f (k : Nat) (a0_0 : Int) (a0_1 : Int) (a1_0 : Int) (a1_1 : Int) : Option Bool :=
  (impl_IsPattern.f k a0_0 a0_1).bind fun t1 => (bif t1 then (impl_IsPattern.f k a1_0 a1_1).bind fun t2 => (bif t2 then (bif (a1_0 == (0 : Int)) then (bif (a1_1 == (-1 : Int)) then some true else some (a0_1 == a1_1)) else (bif (a0_0 == a1_0) then (bif (a1_1 == (-1 : Int)) then some true else some (a0_1 == a1_1)) else some false)) else some false) else some false)
def impl_IsNarrower.Γ (k : Nat) : Ct κ := assoc [(126, impl_IsPattern.C k)]
def impl_IsNarrower.LH (k : Nat) : Nat → Option (LHi κ) := assoc []
theorem impl_IsNarrower.hΓ (k : Nat) : ∀ f g, impl_IsNarrower.Γ k f = some g → CSound Try.prog f g := G_cons (impl_IsPattern.ok k) G_nil
theorem impl_IsNarrower.lok (k : Nat) : LOK ti (impl_IsNarrower.Γ k) (impl_IsNarrower.LH k) 0 (loopsOf (bodyOf Try.f135)) :=
  (show loopsOf (bodyOf Try.f135) = [] by kernel_rfl) ▸ LOK_nil
def impl_IsNarrower.sig : List PSh := [.agg [.sc, .sc], .agg [.sc, .sc]]
def impl_IsNarrower.g (y : Bool) : Ret κ := ⟨.v (.bool y), [], []⟩
def impl_IsNarrower.out (r : Ret κ) : Option Bool :=
  match r with
  | ⟨.v (.bool z0), [], []⟩ => some (z0)
  | _ => none
theorem impl_IsNarrower.out_ok (r : Ret κ) (y : Bool) (h : impl_IsNarrower.out r = some y) : r = impl_IsNarrower.g y := by
  unfold impl_IsNarrower.out at h
  split at h
  · obtain rfl := Option.some.inj h
    rfl
  · cases h
def impl_IsNarrower.body (k : Nat) (vs : List AV) (bs : List (Blk κ)) : Option (Lf κ) :=
  match vs, bs with
  | [.agg [.int .i64 a0_0, .int .i64 a0_1], .agg [.int .i64 a1_0, .int .i64 a1_1]], [] => some ⟨Bool, impl_IsNarrower.f k a0_0 a0_1 a1_0 a1_1, impl_IsNarrower.g⟩
  | _, _ => none
def impl_IsNarrower.C (k : Nat) : Nat → List AV → AP κ AV := contract impl_IsNarrower.sig (impl_IsNarrower.body k)
theorem impl_IsNarrower.den (k : Nat) (a0_0 : Int) (a0_1 : Int) (a1_0 : Int) (a1_1 : Int) : Code.den ti (impl_IsNarrower.Γ k) (impl_IsNarrower.LH k) (bodyOf Try.f135) (finK ti Try.f135.results.toList [] (flags impl_IsNarrower.sig).length (rwI (flags impl_IsNarrower.sig) 0) impl_IsNarrower.out) ⟨envOf (([.agg [.int .i64 a0_0, .int .i64 a0_1], .agg [.int .i64 a1_0, .int .i64 a1_1]]).zipIdx.map fun q => (q.2, q.1)), hpOf [], (flags impl_IsNarrower.sig).length⟩ = impl_IsNarrower.f k a0_0 a0_1 a1_0 a1_1 := by kernel_rfl
theorem impl_IsNarrower.ok (k : Nat) : CSound Try.prog 135 (impl_IsNarrower.C k) :=
  csound κ_ok mixed tok (impl_IsNarrower.hΓ k) (LH := impl_IsNarrower.LH k) (fn := Try.f135) (c := bodyOf Try.f135) Try.func135 rfl Try.call135 impl_IsNarrower.sig [] (impl_IsNarrower.body k) (by kernel_rfl) (impl_IsNarrower.lok k) (by decide) fun vs bs lf y hl hb hy => by
    unfold impl_IsNarrower.body at hb
    split at hb
    · obtain rfl := Option.some.inj hb
      exact ⟨impl_IsNarrower.out, impl_IsNarrower.out_ok, (impl_IsNarrower.den k _ _ _ _).trans hy⟩
    · cases hb
/-! ### impl_IsWithinGrants -/
def impl_IsWithinGrants.L6 {R : Type} (k : Nat) (x2 : Bool) (x4 : Int) (x5 : Int) (x7 : Int) (xl0 : List T_impl_Grant) (xl1 : List T_impl_Grant) (xc2_0 : Int) (xc2_1 : Int) (xc2_2 : Int) (xc2_3 : Int) (xc2_4 : Int) (xc2_5 : Int) (xc2_6 : Bool) (X0 : Bool → Option R) (rec : Int → Option R) (x8 : Int) : Option R :=
  (bif decide (x8 < x7) then (bif decide (0 ≤ x8) then (bif decide (x8 < (xl1.length : Int)) then (impl_IsGrant.f k xc2_0 xc2_1 xc2_2 xc2_3 xc2_4 xc2_5 xc2_6).bind fun t1 => (bif t1 then (impl_IsGrant.f k ((rd_impl_Grant xl1 x8).f0) ((rd_impl_Grant xl1 x8).f1.f0) ((rd_impl_Grant xl1 x8).f1.f1) ((rd_impl_Grant xl1 x8).f2) ((rd_impl_Grant xl1 x8).f3) ((rd_impl_Grant xl1 x8).f4) ((rd_impl_Grant xl1 x8).f5)).bind fun t2 => (bif t2 then (bif (xc2_0 == (rd_impl_Grant xl1 x8).f0) then (bif (xc2_3 == (rd_impl_Grant xl1 x8).f2) then (impl_IsNarrower.f k xc2_1 xc2_2 ((rd_impl_Grant xl1 x8).f1.f0) ((rd_impl_Grant xl1 x8).f1.f1)).bind fun t3 => (bif t3 then (bif decide ((rd_impl_Grant xl1 x8).f3 ≤ xc2_4) then (bif decide (xc2_5 ≤ (rd_impl_Grant xl1 x8).f4) then (bif xc2_6 then (X0 true) else (bif !((rd_impl_Grant xl1 x8).f5) then (X0 true) else (rec (w64 (x8 + (1 : Int)))))) else (rec (w64 (x8 + (1 : Int))))) else (rec (w64 (x8 + (1 : Int))))) else (rec (w64 (x8 + (1 : Int))))) else (rec (w64 (x8 + (1 : Int))))) else (rec (w64 (x8 + (1 : Int))))) else (rec (w64 (x8 + (1 : Int))))) else (rec (w64 (x8 + (1 : Int))))) else none) else none) else (X0 x2))
def impl_IsWithinGrants.l6 {R : Type} (k : Nat) (x2 : Bool) (x4 : Int) (x5 : Int) (x7 : Int) (xl0 : List T_impl_Grant) (xl1 : List T_impl_Grant) (xc2_0 : Int) (xc2_1 : Int) (xc2_2 : Int) (xc2_3 : Int) (xc2_4 : Int) (xc2_5 : Int) (xc2_6 : Bool) (X0 : Bool → Option R) : Nat → Int → Option R
  | 0 => fun _ => none
  | n + 1 => impl_IsWithinGrants.L6 k x2 x4 x5 x7 xl0 xl1 xc2_0 xc2_1 xc2_2 xc2_3 xc2_4 xc2_5 xc2_6 X0 (impl_IsWithinGrants.l6 k x2 x4 x5 x7 xl0 xl1 xc2_0 xc2_1 xc2_2 xc2_3 xc2_4 xc2_5 xc2_6 X0 n)
def impl_IsWithinGrants.L2 {R : Type} (k : Nat) (x2 : Int) (xl0 : List T_impl_Grant) (xl1 : List T_impl_Grant) (X0 : Bool → Option R) (X1 : Unit → Option R) (rec : Int → Option R) (x3 : Int) : Option R :=
  (bif decide (x3 < x2) then (bif decide (0 ≤ x3) then (bif decide (x3 < (xl0.length : Int)) then (impl_IsWithinGrants.l6 k false x2 x3 (xl1.length : Int) xl0 xl1 ((rd_impl_Grant xl0 x3).f0) ((rd_impl_Grant xl0 x3).f1.f0) ((rd_impl_Grant xl0 x3).f1.f1) ((rd_impl_Grant xl0 x3).f2) ((rd_impl_Grant xl0 x3).f3) ((rd_impl_Grant xl0 x3).f4) ((rd_impl_Grant xl0 x3).f5) (fun (y1 : Bool) => (bif !y1 then (X0 false) else (rec (w64 (x3 + (1 : Int)))))) k (0 : Int)) else none) else none) else (X1 ()))
def impl_IsWithinGrants.l2 {R : Type} (k : Nat) (x2 : Int) (xl0 : List T_impl_Grant) (xl1 : List T_impl_Grant) (X0 : Bool → Option R) (X1 : Unit → Option R) : Nat → Int → Option R
  | 0 => fun _ => none
  | n + 1 => impl_IsWithinGrants.L2 k x2 xl0 xl1 X0 X1 (impl_IsWithinGrants.l2 k x2 xl0 xl1 X0 X1 n)
def impl_IsWithinGrants.f (k : Nat) (a0 : List T_impl_Grant) (a1 : List T_impl_Grant) : Option Bool :=
  (impl_IsWithinGrants.l2 k (a0.length : Int) a0 a1 (fun (y2 : Bool) => some y2) (fun (_ : Unit) => some true) k (0 : Int))
def impl_IsWithinGrants.h6 (k : Nat) {R : Type} (K : Ex → St κ → Option R) (vs : List AV) (bs : List (Blk κ)) : Option R :=
  match vs, bs with
  | [.v (.sl 1), .v (.ptr 2 0 0), .v (.bool x2), .v (.sl 0), .v (.int .i64 x4), .v (.int .i64 x5), .v (.sl 1), .v (.int .i64 x7), .v (.int .i64 x8)], [qb0, qb1, .cells 107 [.int .i64 xc2_0, .int .i64 xc2_1, .int .i64 xc2_2, .int .i64 xc2_3, .int .i64 xc2_4, .int .i64 xc2_5, .bool xc2_6]] => (asO 4 false qb0).bind fun xl0 => (asO 4 false qb1).bind fun xl1 => impl_IsWithinGrants.l6 k x2 x4 x5 x7 xl0 xl1 xc2_0 xc2_1 xc2_2 xc2_3 xc2_4 xc2_5 xc2_6 (fun (z1 : Bool) => K (.exit 2) (stOf [(1, [some 4]), (7, []), (10, [some 4]), (11, []), (12, [])] [.v (.sl 1), .v (.bool z1), .v (.sl 0), .v (.int .i64 x4), .v (.int .i64 x5)] [.rows 4 false xl0, .rows 4 false xl1])) k x8
  | _, _ => none
def impl_IsWithinGrants.h2 (k : Nat) {R : Type} (K : Ex → St κ → Option R) (vs : List AV) (bs : List (Blk κ)) : Option R :=
  match vs, bs with
  | [.v (.sl 1), .v (.sl 0), .v (.int .i64 x2), .v (.int .i64 x3)], [qb0, qb1] => (asO 4 false qb0).bind fun xl0 => (asO 4 false qb1).bind fun xl1 => impl_IsWithinGrants.l2 k x2 xl0 xl1 (fun (z0 : Bool) => K .ret (stOf [(4, [])] [.v (.bool z0)] [.rows 4 false xl0, .rows 4 false xl1])) (fun (_ : Unit) => K (.exit 0) (stOf [(4, [])] [.v .any] [.rows 4 false xl0, .rows 4 false xl1])) k x3
  | _, _ => none
def impl_IsWithinGrants.Γ (k : Nat) : Ct κ := assoc [(73, impl_IsGrant.C k), (135, impl_IsNarrower.C k)]
def impl_IsWithinGrants.LH (k : Nat) : Nat → Option (LHi κ) := assoc [(6, ⟨2, [(1, [some 4]), (6, []), (7, []), (10, [some 4]), (11, []), (12, []), (16, [some 4]), (17, []), (18, [])], [(1, [some 4]), (7, []), (10, [some 4]), (11, []), (12, [])], @impl_IsWithinGrants.h6 k⟩), (2, ⟨2, [(1, [some 4]), (10, [some 4]), (11, []), (12, [])], [(4, [])], @impl_IsWithinGrants.h2 k⟩)]
theorem impl_IsWithinGrants.hΓ (k : Nat) : ∀ f g, impl_IsWithinGrants.Γ k f = some g → CSound Try.prog f g := G_cons (impl_IsGrant.ok k) (G_cons (impl_IsNarrower.ok k) G_nil)
theorem impl_IsWithinGrants.e6 {R : Type} (K : Ex → St κ → Option R) (k : Nat) (x2 : Bool) (x4 : Int) (x5 : Int) (x7 : Int) (xl0 : List T_impl_Grant) (xl1 : List T_impl_Grant) (xc2_0 : Int) (xc2_1 : Int) (xc2_2 : Int) (xc2_3 : Int) (xc2_4 : Int) (xc2_5 : Int) (xc2_6 : Bool) : ∀ (n : Nat) (x8 : Int), loopN 2 (Code.den ti (impl_IsWithinGrants.Γ k) (impl_IsWithinGrants.LH k) (loopAt Try.f101 1)) [(1, [some 4]), (6, []), (7, []), (10, [some 4]), (11, []), (12, []), (16, [some 4]), (17, []), (18, [])] [(1, [some 4]), (7, []), (10, [some 4]), (11, []), (12, [])] K n [.v (.sl 1), .v (.ptr 2 0 0), .v (.bool x2), .v (.sl 0), .v (.int .i64 x4), .v (.int .i64 x5), .v (.sl 1), .v (.int .i64 x7), .v (.int .i64 x8)] [.rows 4 false xl0, .rows 4 false xl1, .cells 107 [.int .i64 xc2_0, .int .i64 xc2_1, .int .i64 xc2_2, .int .i64 xc2_3, .int .i64 xc2_4, .int .i64 xc2_5, .bool xc2_6]] = impl_IsWithinGrants.l6 k x2 x4 x5 x7 xl0 xl1 xc2_0 xc2_1 xc2_2 xc2_3 xc2_4 xc2_5 xc2_6 (fun (z1 : Bool) => K (.exit 2) (stOf [(1, [some 4]), (7, []), (10, [some 4]), (11, []), (12, [])] [.v (.sl 1), .v (.bool z1), .v (.sl 0), .v (.int .i64 x4), .v (.int .i64 x5)] [.rows 4 false xl0, .rows 4 false xl1])) n x8
  | 0, _ => rfl
  | n + 1, x8 => (show loopN 2 (Code.den ti (impl_IsWithinGrants.Γ k) (impl_IsWithinGrants.LH k) (loopAt Try.f101 1)) [(1, [some 4]), (6, []), (7, []), (10, [some 4]), (11, []), (12, []), (16, [some 4]), (17, []), (18, [])] [(1, [some 4]), (7, []), (10, [some 4]), (11, []), (12, [])] K (n + 1) [.v (.sl 1), .v (.ptr 2 0 0), .v (.bool x2), .v (.sl 0), .v (.int .i64 x4), .v (.int .i64 x5), .v (.sl 1), .v (.int .i64 x7), .v (.int .i64 x8)] [.rows 4 false xl0, .rows 4 false xl1, .cells 107 [.int .i64 xc2_0, .int .i64 xc2_1, .int .i64 xc2_2, .int .i64 xc2_3, .int .i64 xc2_4, .int .i64 xc2_5, .bool xc2_6]] = impl_IsWithinGrants.L6 k x2 x4 x5 x7 xl0 xl1 xc2_0 xc2_1 xc2_2 xc2_3 xc2_4 xc2_5 xc2_6 (fun (z1 : Bool) => K (.exit 2) (stOf [(1, [some 4]), (7, []), (10, [some 4]), (11, []), (12, [])] [.v (.sl 1), .v (.bool z1), .v (.sl 0), .v (.int .i64 x4), .v (.int .i64 x5)] [.rows 4 false xl0, .rows 4 false xl1])) (fun (x8' : Int) => loopN 2 (Code.den ti (impl_IsWithinGrants.Γ k) (impl_IsWithinGrants.LH k) (loopAt Try.f101 1)) [(1, [some 4]), (6, []), (7, []), (10, [some 4]), (11, []), (12, []), (16, [some 4]), (17, []), (18, [])] [(1, [some 4]), (7, []), (10, [some 4]), (11, []), (12, [])] K n [.v (.sl 1), .v (.ptr 2 0 0), .v (.bool x2), .v (.sl 0), .v (.int .i64 x4), .v (.int .i64 x5), .v (.sl 1), .v (.int .i64 x7), .v (.int .i64 x8')] [.rows 4 false xl0, .rows 4 false xl1, .cells 107 [.int .i64 xc2_0, .int .i64 xc2_1, .int .i64 xc2_2, .int .i64 xc2_3, .int .i64 xc2_4, .int .i64 xc2_5, .bool xc2_6]]) x8 by kernel_rfl).trans (congrArg (fun rec => impl_IsWithinGrants.L6 k x2 x4 x5 x7 xl0 xl1 xc2_0 xc2_1 xc2_2 xc2_3 xc2_4 xc2_5 xc2_6 (fun (z1 : Bool) => K (.exit 2) (stOf [(1, [some 4]), (7, []), (10, [some 4]), (11, []), (12, [])] [.v (.sl 1), .v (.bool z1), .v (.sl 0), .v (.int .i64 x4), .v (.int .i64 x5)] [.rows 4 false xl0, .rows 4 false xl1])) rec x8) (funext fun x8' => impl_IsWithinGrants.e6 K k x2 x4 x5 x7 xl0 xl1 xc2_0 xc2_1 xc2_2 xc2_3 xc2_4 xc2_5 xc2_6 n x8'))
theorem impl_IsWithinGrants.q6 (k : Nat) {R : Type} (K : Ex → St κ → Option R) (vs : List AV) (bs : List (Blk κ)) (r : R) (h : impl_IsWithinGrants.h6 k K vs bs = some r) : ∃ n, loopN 2 (Code.den ti (impl_IsWithinGrants.Γ k) (impl_IsWithinGrants.LH k) (loopAt Try.f101 1)) [(1, [some 4]), (6, []), (7, []), (10, [some 4]), (11, []), (12, []), (16, [some 4]), (17, []), (18, [])] [(1, [some 4]), (7, []), (10, [some 4]), (11, []), (12, [])] K n vs bs = some r := by
  unfold impl_IsWithinGrants.h6 at h
  split at h
  · obtain ⟨_, rfl, h_1⟩ := asO_bind h
    obtain ⟨_, rfl, h_2⟩ := asO_bind h_1
    exact ⟨k, (impl_IsWithinGrants.e6 K k _ _ _ _ _ _ _ _ _ _ _ _ _ k _).trans h_2⟩
  · cases h
theorem impl_IsWithinGrants.e2 {R : Type} (K : Ex → St κ → Option R) (k : Nat) (x2 : Int) (xl0 : List T_impl_Grant) (xl1 : List T_impl_Grant) : ∀ (n : Nat) (x3 : Int), loopN 2 (Code.den ti (impl_IsWithinGrants.Γ k) (impl_IsWithinGrants.LH k) (loopAt Try.f101 0)) [(1, [some 4]), (10, [some 4]), (11, []), (12, [])] [(4, [])] K n [.v (.sl 1), .v (.sl 0), .v (.int .i64 x2), .v (.int .i64 x3)] [.rows 4 false xl0, .rows 4 false xl1] = impl_IsWithinGrants.l2 k x2 xl0 xl1 (fun (z0 : Bool) => K .ret (stOf [(4, [])] [.v (.bool z0)] [.rows 4 false xl0, .rows 4 false xl1])) (fun (_ : Unit) => K (.exit 0) (stOf [(4, [])] [.v .any] [.rows 4 false xl0, .rows 4 false xl1])) n x3
  | 0, _ => rfl
  | n + 1, x3 => (show loopN 2 (Code.den ti (impl_IsWithinGrants.Γ k) (impl_IsWithinGrants.LH k) (loopAt Try.f101 0)) [(1, [some 4]), (10, [some 4]), (11, []), (12, [])] [(4, [])] K (n + 1) [.v (.sl 1), .v (.sl 0), .v (.int .i64 x2), .v (.int .i64 x3)] [.rows 4 false xl0, .rows 4 false xl1] = impl_IsWithinGrants.L2 k x2 xl0 xl1 (fun (z0 : Bool) => K .ret (stOf [(4, [])] [.v (.bool z0)] [.rows 4 false xl0, .rows 4 false xl1])) (fun (_ : Unit) => K (.exit 0) (stOf [(4, [])] [.v .any] [.rows 4 false xl0, .rows 4 false xl1])) (fun (x3' : Int) => loopN 2 (Code.den ti (impl_IsWithinGrants.Γ k) (impl_IsWithinGrants.LH k) (loopAt Try.f101 0)) [(1, [some 4]), (10, [some 4]), (11, []), (12, [])] [(4, [])] K n [.v (.sl 1), .v (.sl 0), .v (.int .i64 x2), .v (.int .i64 x3')] [.rows 4 false xl0, .rows 4 false xl1]) x3 by kernel_rfl).trans (congrArg (fun rec => impl_IsWithinGrants.L2 k x2 xl0 xl1 (fun (z0 : Bool) => K .ret (stOf [(4, [])] [.v (.bool z0)] [.rows 4 false xl0, .rows 4 false xl1])) (fun (_ : Unit) => K (.exit 0) (stOf [(4, [])] [.v .any] [.rows 4 false xl0, .rows 4 false xl1])) rec x3) (funext fun x3' => impl_IsWithinGrants.e2 K k x2 xl0 xl1 n x3'))
theorem impl_IsWithinGrants.q2 (k : Nat) {R : Type} (K : Ex → St κ → Option R) (vs : List AV) (bs : List (Blk κ)) (r : R) (h : impl_IsWithinGrants.h2 k K vs bs = some r) : ∃ n, loopN 2 (Code.den ti (impl_IsWithinGrants.Γ k) (impl_IsWithinGrants.LH k) (loopAt Try.f101 0)) [(1, [some 4]), (10, [some 4]), (11, []), (12, [])] [(4, [])] K n vs bs = some r := by
  unfold impl_IsWithinGrants.h2 at h
  split at h
  · obtain ⟨_, rfl, h_1⟩ := asO_bind h
    obtain ⟨_, rfl, h_2⟩ := asO_bind h_1
    exact ⟨k, (impl_IsWithinGrants.e2 K k _ _ _ k _).trans h_2⟩
  · cases h
theorem impl_IsWithinGrants.lok (k : Nat) : LOK ti (impl_IsWithinGrants.Γ k) (impl_IsWithinGrants.LH k) 2 (loopsOf (bodyOf Try.f101)) :=
  (show loopsOf (bodyOf Try.f101) = [loopAt Try.f101 0, loopAt Try.f101 1] by kernel_rfl) ▸ (LOK_cons (g := ⟨2, [(1, [some 4]), (10, [some 4]), (11, []), (12, [])], [(4, [])], @impl_IsWithinGrants.h2 k⟩) (by kernel_rfl) rfl (fun K vs xs r h => impl_IsWithinGrants.q2 k K vs xs r h) (LOK_cons (g := ⟨2, [(1, [some 4]), (6, []), (7, []), (10, [some 4]), (11, []), (12, []), (16, [some 4]), (17, []), (18, [])], [(1, [some 4]), (7, []), (10, [some 4]), (11, []), (12, [])], @impl_IsWithinGrants.h6 k⟩) (by kernel_rfl) rfl (fun K vs xs r h => impl_IsWithinGrants.q6 k K vs xs r h) (LOK_nil)))
def impl_IsWithinGrants.sig : List PSh := [.one (.ro 4), .one (.ro 4)]
def impl_IsWithinGrants.g (y : Bool) : Ret κ := ⟨.v (.bool y), [], []⟩
def impl_IsWithinGrants.out (r : Ret κ) : Option Bool :=
  match r with
  | ⟨.v (.bool z0), [], []⟩ => some (z0)
  | _ => none
theorem impl_IsWithinGrants.out_ok (r : Ret κ) (y : Bool) (h : impl_IsWithinGrants.out r = some y) : r = impl_IsWithinGrants.g y := by
  unfold impl_IsWithinGrants.out at h
  split at h
  · obtain rfl := Option.some.inj h
    rfl
  · cases h
def impl_IsWithinGrants.body (k : Nat) (vs : List AV) (bs : List (Blk κ)) : Option (Lf κ) :=
  match vs, bs with
  | [.v (.sl 0), .v (.sl 1)], [qb0, qb1] => (asO 4 false qb0).bind fun a0 => (asO 4 false qb1).bind fun a1 => some ⟨Bool, impl_IsWithinGrants.f k a0 a1, impl_IsWithinGrants.g⟩
  | _, _ => none
def impl_IsWithinGrants.C (k : Nat) : Nat → List AV → AP κ AV := contract impl_IsWithinGrants.sig (impl_IsWithinGrants.body k)
theorem impl_IsWithinGrants.den (k : Nat) (a0 : List T_impl_Grant) (a1 : List T_impl_Grant) : Code.den ti (impl_IsWithinGrants.Γ k) (impl_IsWithinGrants.LH k) (bodyOf Try.f101) (finK ti Try.f101.results.toList [] (flags impl_IsWithinGrants.sig).length (rwI (flags impl_IsWithinGrants.sig) 0) impl_IsWithinGrants.out) ⟨envOf (([.v (.sl 0), .v (.sl 1)]).zipIdx.map fun q => (q.2, q.1)), hpOf [.rows 4 false a0, .rows 4 false a1], (flags impl_IsWithinGrants.sig).length⟩ = impl_IsWithinGrants.f k a0 a1 := by kernel_rfl
theorem impl_IsWithinGrants.ok (k : Nat) : CSound Try.prog 101 (impl_IsWithinGrants.C k) :=
  csound κ_ok mixed tok (impl_IsWithinGrants.hΓ k) (LH := impl_IsWithinGrants.LH k) (fn := Try.f101) (c := bodyOf Try.f101) Try.func101 rfl Try.call101 impl_IsWithinGrants.sig [] (impl_IsWithinGrants.body k) (by kernel_rfl) (impl_IsWithinGrants.lok k) (by decide) fun vs bs lf y hl hb hy => by
    unfold impl_IsWithinGrants.body at hb
    split at hb
    · obtain ⟨_, rfl, hb_1⟩ := asO_bind hb
      obtain ⟨_, rfl, hb_2⟩ := asO_bind hb_1
      obtain rfl := Option.some.inj hb_2
      exact ⟨impl_IsWithinGrants.out, impl_IsWithinGrants.out_ok, (impl_IsWithinGrants.den k _ _).trans hy⟩
    · cases hb
end Go.Proofs.Ytghflohdmnaopaa.PFnExactWidenedGrants
