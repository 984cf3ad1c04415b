/- What the functions that the law FnExactUpdatePackage reaches come to; no conditions. -/
import Derived.Test.YtoenilndklbceaaGreatPFnExactUpdatePackage1
set_option linter.unusedVariables false
set_option maxRecDepth 100000
namespace Go.Proofs.YtoenilndklbceaaGreat.PFnExactUpdatePackage
open Go Go.Eng Go.Proofs
/-! ### spec_l1In -/
def spec_l1In.f (k : Nat) (a0 : Int) (a1 : Int) (a2 : Int) : Option Bool :=
  (bif decide (a0 ≥ a1) then some (decide (a0 ≤ a2)) else some false)
def spec_l1In.Γ (k : Nat) : Ct κ := assoc []
def spec_l1In.LH (k : Nat) : Nat → Option (LHi κ) := assoc []
theorem spec_l1In.hΓ (k : Nat) : ∀ f g, spec_l1In.Γ k f = some g → CSound Tryz.prog f g := G_nil
theorem spec_l1In.lok (k : Nat) : LOK ti (spec_l1In.Γ k) (spec_l1In.LH k) 0 (loopsOf (bodyOf Tryz.f101)) :=
  (show loopsOf (bodyOf Tryz.f101) = [] by kernel_rfl) ▸ LOK_nil
def spec_l1In.sig : List PSh := [.one .sc, .one .sc, .one .sc]
def spec_l1In.g (y : Bool) : Ret κ := ⟨.v (.bool y), [], []⟩
def spec_l1In.out (r : Ret κ) : Option Bool :=
  match r with
  | ⟨.v (.bool z0), [], []⟩ => some (z0)
  | _ => none
theorem spec_l1In.out_ok (r : Ret κ) (y : Bool) (h : spec_l1In.out r = some y) : r = spec_l1In.g y := by
  unfold spec_l1In.out at h
  split at h
  · obtain rfl := Option.some.inj h
    rfl
  · cases h
def spec_l1In.body (k : Nat) (vs : List AV) (bs : List (Blk κ)) : Option (Lf κ) :=
  match vs, bs with
  | [.v (.int .i64 a0), .v (.int .i64 a1), .v (.int .i64 a2)], [] => some ⟨Bool, spec_l1In.f k a0 a1 a2, spec_l1In.g⟩
  | _, _ => none
def spec_l1In.C (k : Nat) : Nat → List AV → AP κ AV := contract spec_l1In.sig (spec_l1In.body k)
theorem spec_l1In.den (k : Nat) (a0 : Int) (a1 : Int) (a2 : Int) : Code.den ti (spec_l1In.Γ k) (spec_l1In.LH k) (bodyOf Tryz.f101) (finK ti Tryz.f101.results.toList [] (flags spec_l1In.sig).length (rwI (flags spec_l1In.sig) 0) spec_l1In.out) ⟨envOf (([.v (.int .i64 a0), .v (.int .i64 a1), .v (.int .i64 a2)]).zipIdx.map fun q => (q.2, q.1)), hpOf [], (flags spec_l1In.sig).length⟩ = spec_l1In.f k a0 a1 a2 := by kernel_rfl
theorem spec_l1In.ok (k : Nat) : CSound Tryz.prog 101 (spec_l1In.C k) :=
  csound κ_ok mixed tok (spec_l1In.hΓ k) (LH := spec_l1In.LH k) (fn := Tryz.f101) (c := bodyOf Tryz.f101) Tryz.func101 rfl Tryz.call101 spec_l1In.sig [] (spec_l1In.body k) (by kernel_rfl) (spec_l1In.lok k) (by decide) fun vs bs lf y hl hb hy => by
    unfold spec_l1In.body at hb
    split at hb
    · obtain rfl := Option.some.inj hb
      exact ⟨spec_l1In.out, spec_l1In.out_ok, (spec_l1In.den k _ _ _).trans hy⟩
    · cases hb
/-! ### spec_l21Ok -/
def spec_l21Ok.f (k : Nat) (a0_0 : Int) (a0_1 : Int) (a0_2 : Int) (a0_3 : Int) : Option Bool :=
  (spec_l1In.f k a0_1 (0 : Int) (5 : Int)).bind fun t1 => (spec_l1In.f k a0_2 (0 : Int) (5 : Int)).bind fun t2 => (bif (a0_0 == (1 : Int)) then (bif t1 then (spec_l1In.f k a0_2 (1 : Int) (9 : Int)).bind fun t3 => (bif t3 then some (a0_3 == (0 : Int)) else some false) else some false) else (bif (a0_0 == (5 : Int)) then (bif t1 then (spec_l1In.f k a0_2 (1 : Int) (9 : Int)).bind fun t4 => (bif t4 then some (a0_3 == (0 : Int)) else some false) else some false) else (bif (a0_0 == (2 : Int)) then (bif t1 then (spec_l1In.f k a0_2 (0 : Int) (999 : Int)).bind fun t5 => (bif t5 then some (a0_3 == (0 : Int)) else some false) else some false) else (bif (a0_0 == (3 : Int)) then (bif t1 then (bif t2 then (spec_l1In.f k a0_3 (0 : Int) (5 : Int)).bind fun t6 => some t6 else some false) else some false) else (bif (a0_0 == (4 : Int)) then (bif t1 then (bif t2 then (spec_l1In.f k a0_3 (0 : Int) (5 : Int)).bind fun t7 => some t7 else some false) else some false) else some false)))))
def spec_l21Ok.Γ (k : Nat) : Ct κ := assoc [(101, spec_l1In.C k)]
def spec_l21Ok.LH (k : Nat) : Nat → Option (LHi κ) := assoc []
theorem spec_l21Ok.hΓ (k : Nat) : ∀ f g, spec_l21Ok.Γ k f = some g → CSound Tryz.prog f g := G_cons (spec_l1In.ok k) G_nil
theorem spec_l21Ok.lok (k : Nat) : LOK ti (spec_l21Ok.Γ k) (spec_l21Ok.LH k) 0 (loopsOf (bodyOf Tryz.f148)) :=
  (show loopsOf (bodyOf Tryz.f148) = [] by kernel_rfl) ▸ LOK_nil
def spec_l21Ok.sig : List PSh := [.agg [.sc, .sc, .sc, .sc]]
def spec_l21Ok.g (y : Bool) : Ret κ := ⟨.v (.bool y), [], []⟩
def spec_l21Ok.out (r : Ret κ) : Option Bool :=
  match r with
  | ⟨.v (.bool z0), [], []⟩ => some (z0)
  | _ => none
theorem spec_l21Ok.out_ok (r : Ret κ) (y : Bool) (h : spec_l21Ok.out r = some y) : r = spec_l21Ok.g y := by
  unfold spec_l21Ok.out at h
  split at h
  · obtain rfl := Option.some.inj h
    rfl
  · cases h
def spec_l21Ok.body (k : Nat) (vs : List AV) (bs : List (Blk κ)) : Option (Lf κ) :=
  match vs, bs with
  | [.agg [.int .i64 a0_0, .int .i64 a0_1, .int .i64 a0_2, .int .i64 a0_3]], [] => some ⟨Bool, spec_l21Ok.f k a0_0 a0_1 a0_2 a0_3, spec_l21Ok.g⟩
  | _, _ => none
def spec_l21Ok.C (k : Nat) : Nat → List AV → AP κ AV := contract spec_l21Ok.sig (spec_l21Ok.body k)
theorem spec_l21Ok.den (k : Nat) (a0_0 : Int) (a0_1 : Int) (a0_2 : Int) (a0_3 : Int) : Code.den ti (spec_l21Ok.Γ k) (spec_l21Ok.LH k) (bodyOf Tryz.f148) (finK ti Tryz.f148.results.toList [] (flags spec_l21Ok.sig).length (rwI (flags spec_l21Ok.sig) 0) spec_l21Ok.out) ⟨envOf (([.agg [.int .i64 a0_0, .int .i64 a0_1, .int .i64 a0_2, .int .i64 a0_3]]).zipIdx.map fun q => (q.2, q.1)), hpOf [], (flags spec_l21Ok.sig).length⟩ = spec_l21Ok.f k a0_0 a0_1 a0_2 a0_3 := by kernel_rfl
theorem spec_l21Ok.ok (k : Nat) : CSound Tryz.prog 148 (spec_l21Ok.C k) :=
  csound κ_ok mixed tok (spec_l21Ok.hΓ k) (LH := spec_l21Ok.LH k) (fn := Tryz.f148) (c := bodyOf Tryz.f148) Tryz.func148 rfl Tryz.call148 spec_l21Ok.sig [] (spec_l21Ok.body k) (by kernel_rfl) (spec_l21Ok.lok k) (by decide) fun vs bs lf y hl hb hy => by
    unfold spec_l21Ok.body at hb
    split at hb
    · obtain rfl := Option.some.inj hb
      exact ⟨spec_l21Ok.out, spec_l21Ok.out_ok, (spec_l21Ok.den k _ _ _ _).trans hy⟩
    · cases hb
/-! ### spec_AreOps -/
def spec_AreOps.L2 {R : Type} (k : Nat) (xl0 : List T_impl_Op) (X0 : Bool → Option R) (X1 : Unit → Option R) (rec : Int → Option R) (x1 : Int) : Option R :=
  (bif decide (x1 < (xl0.length : Int)) then (bif decide (0 ≤ x1) then (bif decide (x1 < (xl0.length : Int)) then (spec_l21Ok.f k ((rd_impl_Op xl0 x1).f0) ((rd_impl_Op xl0 x1).f1) ((rd_impl_Op xl0 x1).f2) ((rd_impl_Op xl0 x1).f3)).bind fun t1 => (bif !t1 then (X0 false) else (rec (w64 (x1 + (1 : Int))))) else none) else none) else (X1 ()))
def spec_AreOps.l2 {R : Type} (k : Nat) (xl0 : List T_impl_Op) (X0 : Bool → Option R) (X1 : Unit → Option R) : Nat → Int → Option R
  | 0 => fun _ => none
  | n + 1 => spec_AreOps.L2 k xl0 X0 X1 (spec_AreOps.l2 k xl0 X0 X1 n)
def spec_AreOps.f (k : Nat) (a0 : List T_impl_Op) : Option Bool :=
  (spec_AreOps.l2 k a0 (fun (y2 : Bool) => some y2) (fun (_ : Unit) => some (decide ((a0.length : Int) ≤ (16 : Int)))) k (0 : Int))
def spec_AreOps.h2 (k : Nat) {R : Type} (K : Ex → St κ → Option R) (vs : List AV) (bs : List (Blk κ)) : Option R :=
  match vs, bs with
  | [.v (.sl 0), .v (.int .i64 x1)], [qb0] => (asO 7 false qb0).bind fun xl0 => spec_AreOps.l2 k xl0 (fun (z1 : Bool) => K .ret (stOf [(0, [some 7]), (2, [])] [.v (.sl 0), .v (.bool z1)] [.rows 7 false xl0])) (fun (_ : Unit) => K (.exit 0) (stOf [(0, [some 7]), (2, [])] [.v (.sl 0), .v .any] [.rows 7 false xl0])) k x1
  | _, _ => none
def spec_AreOps.Γ (k : Nat) : Ct κ := assoc [(148, spec_l21Ok.C k)]
def spec_AreOps.LH (k : Nat) : Nat → Option (LHi κ) := assoc [(2, ⟨1, [(0, [some 7]), (3, [])], [(0, [some 7]), (2, [])], @spec_AreOps.h2 k⟩)]
theorem spec_AreOps.hΓ (k : Nat) : ∀ f g, spec_AreOps.Γ k f = some g → CSound Tryz.prog f g := G_cons (spec_l21Ok.ok k) G_nil
theorem spec_AreOps.e2 {R : Type} (K : Ex → St κ → Option R) (k : Nat) (xl0 : List T_impl_Op) : ∀ (n : Nat) (x1 : Int), loopN 1 (Code.den ti (spec_AreOps.Γ k) (spec_AreOps.LH k) (loopAt Tryz.f102 0)) [(0, [some 7]), (3, [])] [(0, [some 7]), (2, [])] K n [.v (.sl 0), .v (.int .i64 x1)] [.rows 7 false xl0] = spec_AreOps.l2 k xl0 (fun (z1 : Bool) => K .ret (stOf [(0, [some 7]), (2, [])] [.v (.sl 0), .v (.bool z1)] [.rows 7 false xl0])) (fun (_ : Unit) => K (.exit 0) (stOf [(0, [some 7]), (2, [])] [.v (.sl 0), .v .any] [.rows 7 false xl0])) n x1
  | 0, _ => rfl
  | n + 1, x1 => (show loopN 1 (Code.den ti (spec_AreOps.Γ k) (spec_AreOps.LH k) (loopAt Tryz.f102 0)) [(0, [some 7]), (3, [])] [(0, [some 7]), (2, [])] K (n + 1) [.v (.sl 0), .v (.int .i64 x1)] [.rows 7 false xl0] = spec_AreOps.L2 k xl0 (fun (z1 : Bool) => K .ret (stOf [(0, [some 7]), (2, [])] [.v (.sl 0), .v (.bool z1)] [.rows 7 false xl0])) (fun (_ : Unit) => K (.exit 0) (stOf [(0, [some 7]), (2, [])] [.v (.sl 0), .v .any] [.rows 7 false xl0])) (fun (x1' : Int) => loopN 1 (Code.den ti (spec_AreOps.Γ k) (spec_AreOps.LH k) (loopAt Tryz.f102 0)) [(0, [some 7]), (3, [])] [(0, [some 7]), (2, [])] K n [.v (.sl 0), .v (.int .i64 x1')] [.rows 7 false xl0]) x1 by kernel_rfl).trans (congrArg (fun rec => spec_AreOps.L2 k xl0 (fun (z1 : Bool) => K .ret (stOf [(0, [some 7]), (2, [])] [.v (.sl 0), .v (.bool z1)] [.rows 7 false xl0])) (fun (_ : Unit) => K (.exit 0) (stOf [(0, [some 7]), (2, [])] [.v (.sl 0), .v .any] [.rows 7 false xl0])) rec x1) (funext fun x1' => spec_AreOps.e2 K k xl0 n x1'))
theorem spec_AreOps.q2 (k : Nat) {R : Type} (K : Ex → St κ → Option R) (vs : List AV) (bs : List (Blk κ)) (r : R) (h : spec_AreOps.h2 k K vs bs = some r) : ∃ n, loopN 1 (Code.den ti (spec_AreOps.Γ k) (spec_AreOps.LH k) (loopAt Tryz.f102 0)) [(0, [some 7]), (3, [])] [(0, [some 7]), (2, [])] K n vs bs = some r := by
  unfold spec_AreOps.h2 at h
  split at h
  · obtain ⟨_, rfl, h_1⟩ := asO_bind h
    exact ⟨k, (spec_AreOps.e2 K k _ k _).trans h_1⟩
  · cases h
theorem spec_AreOps.lok (k : Nat) : LOK ti (spec_AreOps.Γ k) (spec_AreOps.LH k) 1 (loopsOf (bodyOf Tryz.f102)) :=
  (show loopsOf (bodyOf Tryz.f102) = [loopAt Tryz.f102 0] by kernel_rfl) ▸ (LOK_cons (g := ⟨1, [(0, [some 7]), (3, [])], [(0, [some 7]), (2, [])], @spec_AreOps.h2 k⟩) (by kernel_rfl) rfl (fun K vs xs r h => spec_AreOps.q2 k K vs xs r h) (LOK_nil))
def spec_AreOps.sig : List PSh := [.one (.ro 7)]
def spec_AreOps.g (y : Bool) : Ret κ := ⟨.v (.bool y), [], []⟩
def spec_AreOps.out (r : Ret κ) : Option Bool :=
  match r with
  | ⟨.v (.bool z0), [], []⟩ => some (z0)
  | _ => none
theorem spec_AreOps.out_ok (r : Ret κ) (y : Bool) (h : spec_AreOps.out r = some y) : r = spec_AreOps.g y := by
  unfold spec_AreOps.out at h
  split at h
  · obtain rfl := Option.some.inj h
    rfl
  · cases h
def spec_AreOps.body (k : Nat) (vs : List AV) (bs : List (Blk κ)) : Option (Lf κ) :=
  match vs, bs with
  | [.v (.sl 0)], [qb0] => (asO 7 false qb0).bind fun a0 => some ⟨Bool, spec_AreOps.f k a0, spec_AreOps.g⟩
  | _, _ => none
def spec_AreOps.C (k : Nat) : Nat → List AV → AP κ AV := contract spec_AreOps.sig (spec_AreOps.body k)
theorem spec_AreOps.den (k : Nat) (a0 : List T_impl_Op) : Code.den ti (spec_AreOps.Γ k) (spec_AreOps.LH k) (bodyOf Tryz.f102) (finK ti Tryz.f102.results.toList [] (flags spec_AreOps.sig).length (rwI (flags spec_AreOps.sig) 0) spec_AreOps.out) ⟨envOf (([.v (.sl 0)]).zipIdx.map fun q => (q.2, q.1)), hpOf [.rows 7 false a0], (flags spec_AreOps.sig).length⟩ = spec_AreOps.f k a0 := by kernel_rfl
theorem spec_AreOps.ok (k : Nat) : CSound Tryz.prog 102 (spec_AreOps.C k) :=
  csound κ_ok mixed tok (spec_AreOps.hΓ k) (LH := spec_AreOps.LH k) (fn := Tryz.f102) (c := bodyOf Tryz.f102) Tryz.func102 rfl Tryz.call102 spec_AreOps.sig [] (spec_AreOps.body k) (by kernel_rfl) (spec_AreOps.lok k) (by decide) fun vs bs lf y hl hb hy => by
    unfold spec_AreOps.body at hb
    split at hb
    · obtain ⟨_, rfl, hb_1⟩ := asO_bind hb
      obtain rfl := Option.some.inj hb_1
      exact ⟨spec_AreOps.out, spec_AreOps.out_ok, (spec_AreOps.den k _).trans hy⟩
    · cases hb
/-! ### spec_IsPattern -/
def spec_IsPattern.f (k : Nat) (a0_0 : Int) (a0_1 : Int) : Option Bool :=
  (spec_l1In.f k a0_0 (0 : Int) (9 : Int)).bind fun t1 => (bif t1 then (spec_l1In.f k a0_1 (-1 : Int) (9 : Int)).bind fun t2 => some t2 else some false)
def spec_IsPattern.Γ (k : Nat) : Ct κ := assoc [(101, spec_l1In.C k)]
def spec_IsPattern.LH (k : Nat) : Nat → Option (LHi κ) := assoc []
theorem spec_IsPattern.hΓ (k : Nat) : ∀ f g, spec_IsPattern.Γ k f = some g → CSound Tryz.prog f g := G_cons (spec_l1In.ok k) G_nil
theorem spec_IsPattern.lok (k : Nat) : LOK ti (spec_IsPattern.Γ k) (spec_IsPattern.LH k) 0 (loopsOf (bodyOf Tryz.f149)) :=
  (show loopsOf (bodyOf Tryz.f149) = [] by kernel_rfl) ▸ LOK_nil
def spec_IsPattern.sig : List PSh := [.agg [.sc, .sc]]
def spec_IsPattern.g (y : Bool) : Ret κ := ⟨.v (.bool y), [], []⟩
def spec_IsPattern.out (r : Ret κ) : Option Bool :=
  match r with
  | ⟨.v (.bool z0), [], []⟩ => some (z0)
  | _ => none
theorem spec_IsPattern.out_ok (r : Ret κ) (y : Bool) (h : spec_IsPattern.out r = some y) : r = spec_IsPattern.g y := by
  unfold spec_IsPattern.out at h
  split at h
  · obtain rfl := Option.some.inj h
    rfl
  · cases h
def spec_IsPattern.body (k : Nat) (vs : List AV) (bs : List (Blk κ)) : Option (Lf κ) :=
  match vs, bs with
  | [.agg [.int .i64 a0_0, .int .i64 a0_1]], [] => some ⟨Bool, spec_IsPattern.f k a0_0 a0_1, spec_IsPattern.g⟩
  | _, _ => none
def spec_IsPattern.C (k : Nat) : Nat → List AV → AP κ AV := contract spec_IsPattern.sig (spec_IsPattern.body k)
theorem spec_IsPattern.den (k : Nat) (a0_0 : Int) (a0_1 : Int) : Code.den ti (spec_IsPattern.Γ k) (spec_IsPattern.LH k) (bodyOf Tryz.f149) (finK ti Tryz.f149.results.toList [] (flags spec_IsPattern.sig).length (rwI (flags spec_IsPattern.sig) 0) spec_IsPattern.out) ⟨envOf (([.agg [.int .i64 a0_0, .int .i64 a0_1]]).zipIdx.map fun q => (q.2, q.1)), hpOf [], (flags spec_IsPattern.sig).length⟩ = spec_IsPattern.f k a0_0 a0_1 := by kernel_rfl
theorem spec_IsPattern.ok (k : Nat) : CSound Tryz.prog 149 (spec_IsPattern.C k) :=
  csound κ_ok mixed tok (spec_IsPattern.hΓ k) (LH := spec_IsPattern.LH k) (fn := Tryz.f149) (c := bodyOf Tryz.f149) Tryz.func149 rfl Tryz.call149 spec_IsPattern.sig [] (spec_IsPattern.body k) (by kernel_rfl) (spec_IsPattern.lok k) (by decide) fun vs bs lf y hl hb hy => by
    unfold spec_IsPattern.body at hb
    split at hb
    · obtain rfl := Option.some.inj hb
      exact ⟨spec_IsPattern.out, spec_IsPattern.out_ok, (spec_IsPattern.den k _ _).trans hy⟩
    · cases hb
/-! ### spec_IsGrant -/
def spec_IsGrant.f (k : Nat) (a0_0 : Int) (a0_1 : Int) (a0_2 : Int) (a0_3 : Int) (a0_4 : Int) (a0_5 : Int) (a0_6 : Bool) : Option Bool :=
  (spec_l1In.f k a0_0 (1 : Int) (5 : Int)).bind fun t1 => (bif t1 then (spec_IsPattern.f k a0_1 a0_2).bind fun t2 => (bif t2 then (spec_l1In.f k a0_3 (1 : Int) (4 : Int)).bind fun t3 => (bif t3 then (bif decide (a0_4 ≥ (0 : Int)) then (bif decide (a0_4 ≤ a0_5) then some (decide (a0_5 ≤ (10000 : Int))) else some false) else some false) else some false) else some false) else some false)
def spec_IsGrant.Γ (k : Nat) : Ct κ := assoc [(101, spec_l1In.C k), (149, spec_IsPattern.C k)]
def spec_IsGrant.LH (k : Nat) : Nat → Option (LHi κ) := assoc []
theorem spec_IsGrant.hΓ (k : Nat) : ∀ f g, spec_IsGrant.Γ k f = some g → CSound Tryz.prog f g := G_cons (spec_l1In.ok k) (G_cons (spec_IsPattern.ok k) G_nil)
theorem spec_IsGrant.lok (k : Nat) : LOK ti (spec_IsGrant.Γ k) (spec_IsGrant.LH k) 0 (loopsOf (bodyOf Tryz.f103)) :=
  (show loopsOf (bodyOf Tryz.f103) = [] by kernel_rfl) ▸ LOK_nil
def spec_IsGrant.sig : List PSh := [.agg [.sc, .sc, .sc, .sc, .sc, .sc, .sc]]
def spec_IsGrant.g (y : Bool) : Ret κ := ⟨.v (.bool y), [], []⟩
def spec_IsGrant.out (r : Ret κ) : Option Bool :=
  match r with
  | ⟨.v (.bool z0), [], []⟩ => some (z0)
  | _ => none
theorem spec_IsGrant.out_ok (r : Ret κ) (y : Bool) (h : spec_IsGrant.out r = some y) : r = spec_IsGrant.g y := by
  unfold spec_IsGrant.out at h
  split at h
  · obtain rfl := Option.some.inj h
    rfl
  · cases h
def spec_IsGrant.body (k : Nat) (vs : List AV) (bs : List (Blk κ)) : Option (Lf κ) :=
  match vs, bs with
  | [.agg [.int .i64 a0_0, .int .i64 a0_1, .int .i64 a0_2, .int .i64 a0_3, .int .i64 a0_4, .int .i64 a0_5, .bool a0_6]], [] => some ⟨Bool, spec_IsGrant.f k a0_0 a0_1 a0_2 a0_3 a0_4 a0_5 a0_6, spec_IsGrant.g⟩
  | _, _ => none
def spec_IsGrant.C (k : Nat) : Nat → List AV → AP κ AV := contract spec_IsGrant.sig (spec_IsGrant.body k)
theorem spec_IsGrant.den (k : Nat) (a0_0 : Int) (a0_1 : Int) (a0_2 : Int) (a0_3 : Int) (a0_4 : Int) (a0_5 : Int) (a0_6 : Bool) : Code.den ti (spec_IsGrant.Γ k) (spec_IsGrant.LH k) (bodyOf Tryz.f103) (finK ti Tryz.f103.results.toList [] (flags spec_IsGrant.sig).length (rwI (flags spec_IsGrant.sig) 0) spec_IsGrant.out) ⟨envOf (([.agg [.int .i64 a0_0, .int .i64 a0_1, .int .i64 a0_2, .int .i64 a0_3, .int .i64 a0_4, .int .i64 a0_5, .bool a0_6]]).zipIdx.map fun q => (q.2, q.1)), hpOf [], (flags spec_IsGrant.sig).length⟩ = spec_IsGrant.f k a0_0 a0_1 a0_2 a0_3 a0_4 a0_5 a0_6 := by kernel_rfl
theorem spec_IsGrant.ok (k : Nat) : CSound Tryz.prog 103 (spec_IsGrant.C k) :=
  csound κ_ok mixed tok (spec_IsGrant.hΓ k) (LH := spec_IsGrant.LH k) (fn := Tryz.f103) (c := bodyOf Tryz.f103) Tryz.func103 rfl Tryz.call103 spec_IsGrant.sig [] (spec_IsGrant.body k) (by kernel_rfl) (spec_IsGrant.lok k) (by decide) fun vs bs lf y hl hb hy => by
    unfold spec_IsGrant.body at hb
    split at hb
    · obtain rfl := Option.some.inj hb
      exact ⟨spec_IsGrant.out, spec_IsGrant.out_ok, (spec_IsGrant.den k _ _ _ _ _ _ _).trans hy⟩
    · cases hb
/-! ### spec_IsFlow -/
def spec_IsFlow.f (k : Nat) (a0_0 : Int) (a0_1 : Int) (a0_2 : Int) : Option Bool :=
  (spec_l1In.f k a0_0 (1 : Int) (5 : Int)).bind fun t1 => (bif t1 then (spec_l1In.f k a0_1 (1 : Int) (9 : Int)).bind fun t2 => (bif t2 then (spec_l1In.f k a0_2 (1 : Int) (9 : Int)).bind fun t3 => some t3 else some false) else some false)
def spec_IsFlow.Γ (k : Nat) : Ct κ := assoc [(101, spec_l1In.C k)]
def spec_IsFlow.LH (k : Nat) : Nat → Option (LHi κ) := assoc []
theorem spec_IsFlow.hΓ (k : Nat) : ∀ f g, spec_IsFlow.Γ k f = some g → CSound Tryz.prog f g := G_cons (spec_l1In.ok k) G_nil
theorem spec_IsFlow.lok (k : Nat) : LOK ti (spec_IsFlow.Γ k) (spec_IsFlow.LH k) 0 (loopsOf (bodyOf Tryz.f104)) :=
  (show loopsOf (bodyOf Tryz.f104) = [] by kernel_rfl) ▸ LOK_nil
def spec_IsFlow.sig : List PSh := [.agg [.sc, .sc, .sc]]
def spec_IsFlow.g (y : Bool) : Ret κ := ⟨.v (.bool y), [], []⟩
def spec_IsFlow.out (r : Ret κ) : Option Bool :=
  match r with
  | ⟨.v (.bool z0), [], []⟩ => some (z0)
  | _ => none
theorem spec_IsFlow.out_ok (r : Ret κ) (y : Bool) (h : spec_IsFlow.out r = some y) : r = spec_IsFlow.g y := by
  unfold spec_IsFlow.out at h
  split at h
  · obtain rfl := Option.some.inj h
    rfl
  · cases h
def spec_IsFlow.body (k : Nat) (vs : List AV) (bs : List (Blk κ)) : Option (Lf κ) :=
  match vs, bs with
  | [.agg [.int .i64 a0_0, .int .i64 a0_1, .int .i64 a0_2]], [] => some ⟨Bool, spec_IsFlow.f k a0_0 a0_1 a0_2, spec_IsFlow.g⟩
  | _, _ => none
def spec_IsFlow.C (k : Nat) : Nat → List AV → AP κ AV := contract spec_IsFlow.sig (spec_IsFlow.body k)
theorem spec_IsFlow.den (k : Nat) (a0_0 : Int) (a0_1 : Int) (a0_2 : Int) : Code.den ti (spec_IsFlow.Γ k) (spec_IsFlow.LH k) (bodyOf Tryz.f104) (finK ti Tryz.f104.results.toList [] (flags spec_IsFlow.sig).length (rwI (flags spec_IsFlow.sig) 0) spec_IsFlow.out) ⟨envOf (([.agg [.int .i64 a0_0, .int .i64 a0_1, .int .i64 a0_2]]).zipIdx.map fun q => (q.2, q.1)), hpOf [], (flags spec_IsFlow.sig).length⟩ = spec_IsFlow.f k a0_0 a0_1 a0_2 := by kernel_rfl
theorem spec_IsFlow.ok (k : Nat) : CSound Tryz.prog 104 (spec_IsFlow.C k) :=
  csound κ_ok mixed tok (spec_IsFlow.hΓ k) (LH := spec_IsFlow.LH k) (fn := Tryz.f104) (c := bodyOf Tryz.f104) Tryz.func104 rfl Tryz.call104 spec_IsFlow.sig [] (spec_IsFlow.body k) (by kernel_rfl) (spec_IsFlow.lok k) (by decide) fun vs bs lf y hl hb hy => by
    unfold spec_IsFlow.body at hb
    split at hb
    · obtain rfl := Option.some.inj hb
      exact ⟨spec_IsFlow.out, spec_IsFlow.out_ok, (spec_IsFlow.den k _ _ _).trans hy⟩
    · cases hb
/-! ### spec_IsSite -/
def spec_IsSite.f (k : Nat) (a0_0 : Int) (a0_1 : Int) : Option Bool :=
  (spec_l1In.f k a0_0 (1 : Int) (9 : Int)).bind fun t1 => (bif t1 then (spec_l1In.f k a0_1 (0 : Int) (9 : Int)).bind fun t2 => some t2 else some false)
def spec_IsSite.Γ (k : Nat) : Ct κ := assoc [(101, spec_l1In.C k)]
def spec_IsSite.LH (k : Nat) : Nat → Option (LHi κ) := assoc []
theorem spec_IsSite.hΓ (k : Nat) : ∀ f g, spec_IsSite.Γ k f = some g → CSound Tryz.prog f g := G_cons (spec_l1In.ok k) G_nil
theorem spec_IsSite.lok (k : Nat) : LOK ti (spec_IsSite.Γ k) (spec_IsSite.LH k) 0 (loopsOf (bodyOf Tryz.f150)) :=
  (show loopsOf (bodyOf Tryz.f150) = [] by kernel_rfl) ▸ LOK_nil
def spec_IsSite.sig : List PSh := [.agg [.sc, .sc]]
def spec_IsSite.g (y : Bool) : Ret κ := ⟨.v (.bool y), [], []⟩
def spec_IsSite.out (r : Ret κ) : Option Bool :=
  match r with
  | ⟨.v (.bool z0), [], []⟩ => some (z0)
  | _ => none
theorem spec_IsSite.out_ok (r : Ret κ) (y : Bool) (h : spec_IsSite.out r = some y) : r = spec_IsSite.g y := by
  unfold spec_IsSite.out at h
  split at h
  · obtain rfl := Option.some.inj h
    rfl
  · cases h
def spec_IsSite.body (k : Nat) (vs : List AV) (bs : List (Blk κ)) : Option (Lf κ) :=
  match vs, bs with
  | [.agg [.int .i64 a0_0, .int .i64 a0_1]], [] => some ⟨Bool, spec_IsSite.f k a0_0 a0_1, spec_IsSite.g⟩
  | _, _ => none
def spec_IsSite.C (k : Nat) : Nat → List AV → AP κ AV := contract spec_IsSite.sig (spec_IsSite.body k)
theorem spec_IsSite.den (k : Nat) (a0_0 : Int) (a0_1 : Int) : Code.den ti (spec_IsSite.Γ k) (spec_IsSite.LH k) (bodyOf Tryz.f150) (finK ti Tryz.f150.results.toList [] (flags spec_IsSite.sig).length (rwI (flags spec_IsSite.sig) 0) spec_IsSite.out) ⟨envOf (([.agg [.int .i64 a0_0, .int .i64 a0_1]]).zipIdx.map fun q => (q.2, q.1)), hpOf [], (flags spec_IsSite.sig).length⟩ = spec_IsSite.f k a0_0 a0_1 := by kernel_rfl
theorem spec_IsSite.ok (k : Nat) : CSound Tryz.prog 150 (spec_IsSite.C k) :=
  csound κ_ok mixed tok (spec_IsSite.hΓ k) (LH := spec_IsSite.LH k) (fn := Tryz.f150) (c := bodyOf Tryz.f150) Tryz.func150 rfl Tryz.call150 spec_IsSite.sig [] (spec_IsSite.body k) (by kernel_rfl) (spec_IsSite.lok k) (by decide) fun vs bs lf y hl hb hy => by
    unfold spec_IsSite.body at hb
    split at hb
    · obtain rfl := Option.some.inj hb
      exact ⟨spec_IsSite.out, spec_IsSite.out_ok, (spec_IsSite.den k _ _).trans hy⟩
    · cases hb
/-! ### spec_IsRule -/
def spec_IsRule.f (k : Nat) (a0_0 : Int) (a0_1 : Int) (a0_2 : Int) (a0_3 : Int) (a0_4 : Int) (a0_5 : Int) (a0_6 : Int) (a0_7 : Int) : Option Bool :=
  (spec_l1In.f k a0_0 (1 : Int) (5 : Int)).bind fun t1 => (bif !t1 then some false else (spec_l1In.f k a0_1 (1 : Int) (9 : Int)).bind fun t2 => (bif !t2 then some false else (spec_IsPattern.f k a0_2 a0_3).bind fun t3 => (bif !t3 then some false else (spec_l1In.f k a0_4 (0 : Int) (4 : Int)).bind fun t4 => (bif !t4 then some false else (spec_l1In.f k a0_5 (1 : Int) (3 : Int)).bind fun t5 => (bif !t5 then some false else (bif (a0_5 == (3 : Int)) then (spec_IsSite.f k a0_6 a0_7).bind fun t6 => (bif t6 then some true else (bif (a0_5 != (3 : Int)) then some ((a0_6 == (0 : Int)) && (a0_7 == (0 : Int))) else some false)) else (bif (a0_5 != (3 : Int)) then some ((a0_6 == (0 : Int)) && (a0_7 == (0 : Int))) else some false)))))))
def spec_IsRule.Γ (k : Nat) : Ct κ := assoc [(101, spec_l1In.C k), (149, spec_IsPattern.C k), (150, spec_IsSite.C k)]
def spec_IsRule.LH (k : Nat) : Nat → Option (LHi κ) := assoc []
theorem spec_IsRule.hΓ (k : Nat) : ∀ f g, spec_IsRule.Γ k f = some g → CSound Tryz.prog f g := G_cons (spec_l1In.ok k) (G_cons (spec_IsPattern.ok k) (G_cons (spec_IsSite.ok k) G_nil))
theorem spec_IsRule.lok (k : Nat) : LOK ti (spec_IsRule.Γ k) (spec_IsRule.LH k) 0 (loopsOf (bodyOf Tryz.f105)) :=
  (show loopsOf (bodyOf Tryz.f105) = [] by kernel_rfl) ▸ LOK_nil
def spec_IsRule.sig : List PSh := [.agg [.sc, .sc, .sc, .sc, .sc, .sc, .sc, .sc]]
def spec_IsRule.g (y : Bool) : Ret κ := ⟨.v (.bool y), [], []⟩
def spec_IsRule.out (r : Ret κ) : Option Bool :=
  match r with
  | ⟨.v (.bool z0), [], []⟩ => some (z0)
  | _ => none
theorem spec_IsRule.out_ok (r : Ret κ) (y : Bool) (h : spec_IsRule.out r = some y) : r = spec_IsRule.g y := by
  unfold spec_IsRule.out at h
  split at h
  · obtain rfl := Option.some.inj h
    rfl
  · cases h
def spec_IsRule.body (k : Nat) (vs : List AV) (bs : List (Blk κ)) : Option (Lf κ) :=
  match vs, bs with
  | [.agg [.int .i64 a0_0, .int .i64 a0_1, .int .i64 a0_2, .int .i64 a0_3, .int .i64 a0_4, .int .i64 a0_5, .int .i64 a0_6, .int .i64 a0_7]], [] => some ⟨Bool, spec_IsRule.f k a0_0 a0_1 a0_2 a0_3 a0_4 a0_5 a0_6 a0_7, spec_IsRule.g⟩
  | _, _ => none
def spec_IsRule.C (k : Nat) : Nat → List AV → AP κ AV := contract spec_IsRule.sig (spec_IsRule.body k)
theorem spec_IsRule.den (k : Nat) (a0_0 : Int) (a0_1 : Int) (a0_2 : Int) (a0_3 : Int) (a0_4 : Int) (a0_5 : Int) (a0_6 : Int) (a0_7 : Int) : Code.den ti (spec_IsRule.Γ k) (spec_IsRule.LH k) (bodyOf Tryz.f105) (finK ti Tryz.f105.results.toList [] (flags spec_IsRule.sig).length (rwI (flags spec_IsRule.sig) 0) spec_IsRule.out) ⟨envOf (([.agg [.int .i64 a0_0, .int .i64 a0_1, .int .i64 a0_2, .int .i64 a0_3, .int .i64 a0_4, .int .i64 a0_5, .int .i64 a0_6, .int .i64 a0_7]]).zipIdx.map fun q => (q.2, q.1)), hpOf [], (flags spec_IsRule.sig).length⟩ = spec_IsRule.f k a0_0 a0_1 a0_2 a0_3 a0_4 a0_5 a0_6 a0_7 := by kernel_rfl
theorem spec_IsRule.ok (k : Nat) : CSound Tryz.prog 105 (spec_IsRule.C k) :=
  csound κ_ok mixed tok (spec_IsRule.hΓ k) (LH := spec_IsRule.LH k) (fn := Tryz.f105) (c := bodyOf Tryz.f105) Tryz.func105 rfl Tryz.call105 spec_IsRule.sig [] (spec_IsRule.body k) (by kernel_rfl) (spec_IsRule.lok k) (by decide) fun vs bs lf y hl hb hy => by
    unfold spec_IsRule.body at hb
    split at hb
    · obtain rfl := Option.some.inj hb
      exact ⟨spec_IsRule.out, spec_IsRule.out_ok, (spec_IsRule.den k _ _ _ _ _ _ _ _).trans hy⟩
    · cases hb
/-! ### spec_IsPackage -/
def spec_IsPackage.L4 {R : Type} (k : Nat) (xl0 : List T_impl_Grant) (xl1 : List T_impl_Flow) (xl2 : List T_impl_Rule) (xl3 : List T_impl_Op) (xc4_0 : Int) (xc4_1 : Int) (xc4_2 : Int) (xc4_7 : Int) (X0 : Bool → Option R) (X1 : Unit → Option R) (rec : Int → Option R) (x1 : Int) : Option R :=
  (bif decide (x1 < (xl0.length : Int)) then (bif decide (0 ≤ x1) then (bif decide (x1 < (xl0.length : Int)) then (spec_IsGrant.f k ((rd_impl_Grant xl0 x1).f0) ((rd_impl_Grant xl0 x1).f1.f0) ((rd_impl_Grant xl0 x1).f1.f1) ((rd_impl_Grant xl0 x1).f2) ((rd_impl_Grant xl0 x1).f3) ((rd_impl_Grant xl0 x1).f4) ((rd_impl_Grant xl0 x1).f5)).bind fun t5 => (bif !t5 then (X0 false) else (bif decide (0 ≤ x1) then (bif decide (x1 < (xl0.length : Int)) then (bif ((rd_impl_Grant xl0 x1).f0 != xc4_0) then (X0 false) else (rec (w64 (x1 + (1 : Int))))) else none) else none)) else none) else none) else (X1 ()))
def spec_IsPackage.l4 {R : Type} (k : Nat) (xl0 : List T_impl_Grant) (xl1 : List T_impl_Flow) (xl2 : List T_impl_Rule) (xl3 : List T_impl_Op) (xc4_0 : Int) (xc4_1 : Int) (xc4_2 : Int) (xc4_7 : Int) (X0 : Bool → Option R) (X1 : Unit → Option R) : Nat → Int → Option R
  | 0 => fun _ => none
  | n + 1 => spec_IsPackage.L4 k xl0 xl1 xl2 xl3 xc4_0 xc4_1 xc4_2 xc4_7 X0 X1 (spec_IsPackage.l4 k xl0 xl1 xl2 xl3 xc4_0 xc4_1 xc4_2 xc4_7 X0 X1 n)
def spec_IsPackage.L9 {R : Type} (k : Nat) (xl0 : List T_impl_Grant) (xl1 : List T_impl_Flow) (xl2 : List T_impl_Rule) (xl3 : List T_impl_Op) (xc4_0 : Int) (xc4_1 : Int) (xc4_2 : Int) (xc4_7 : Int) (X0 : Bool → Option R) (X1 : Unit → Option R) (rec : Int → Option R) (x1 : Int) : Option R :=
  (bif decide (x1 < (xl1.length : Int)) then (bif decide (0 ≤ x1) then (bif decide (x1 < (xl1.length : Int)) then (spec_IsFlow.f k ((rd_impl_Flow xl1 x1).f0) ((rd_impl_Flow xl1 x1).f1) ((rd_impl_Flow xl1 x1).f2)).bind fun t7 => (bif !t7 then (X0 false) else (bif decide (0 ≤ x1) then (bif decide (x1 < (xl1.length : Int)) then (bif ((rd_impl_Flow xl1 x1).f0 != xc4_0) then (X0 false) else (rec (w64 (x1 + (1 : Int))))) else none) else none)) else none) else none) else (X1 ()))
def spec_IsPackage.l9 {R : Type} (k : Nat) (xl0 : List T_impl_Grant) (xl1 : List T_impl_Flow) (xl2 : List T_impl_Rule) (xl3 : List T_impl_Op) (xc4_0 : Int) (xc4_1 : Int) (xc4_2 : Int) (xc4_7 : Int) (X0 : Bool → Option R) (X1 : Unit → Option R) : Nat → Int → Option R
  | 0 => fun _ => none
  | n + 1 => spec_IsPackage.L9 k xl0 xl1 xl2 xl3 xc4_0 xc4_1 xc4_2 xc4_7 X0 X1 (spec_IsPackage.l9 k xl0 xl1 xl2 xl3 xc4_0 xc4_1 xc4_2 xc4_7 X0 X1 n)
def spec_IsPackage.L14 {R : Type} (k : Nat) (xl0 : List T_impl_Grant) (xl1 : List T_impl_Flow) (xl2 : List T_impl_Rule) (xl3 : List T_impl_Op) (xc4_0 : Int) (xc4_1 : Int) (xc4_2 : Int) (xc4_7 : Int) (X0 : Bool → Option R) (X1 : Unit → Option R) (rec : Int → Option R) (x1 : Int) : Option R :=
  (bif decide (x1 < (xl2.length : Int)) then (bif decide (0 ≤ x1) then (bif decide (x1 < (xl2.length : Int)) then (spec_IsRule.f k ((rd_impl_Rule xl2 x1).f0) ((rd_impl_Rule xl2 x1).f1) ((rd_impl_Rule xl2 x1).f2.f0) ((rd_impl_Rule xl2 x1).f2.f1) ((rd_impl_Rule xl2 x1).f3) ((rd_impl_Rule xl2 x1).f4) ((rd_impl_Rule xl2 x1).f5.f0) ((rd_impl_Rule xl2 x1).f5.f1)).bind fun t9 => (bif !t9 then (X0 false) else (bif decide (0 ≤ x1) then (bif decide (x1 < (xl2.length : Int)) then (bif ((rd_impl_Rule xl2 x1).f0 != xc4_0) then (X0 false) else (rec (w64 (x1 + (1 : Int))))) else none) else none)) else none) else none) else (X1 ()))
def spec_IsPackage.l14 {R : Type} (k : Nat) (xl0 : List T_impl_Grant) (xl1 : List T_impl_Flow) (xl2 : List T_impl_Rule) (xl3 : List T_impl_Op) (xc4_0 : Int) (xc4_1 : Int) (xc4_2 : Int) (xc4_7 : Int) (X0 : Bool → Option R) (X1 : Unit → Option R) : Nat → Int → Option R
  | 0 => fun _ => none
  | n + 1 => spec_IsPackage.L14 k xl0 xl1 xl2 xl3 xc4_0 xc4_1 xc4_2 xc4_7 X0 X1 (spec_IsPackage.l14 k xl0 xl1 xl2 xl3 xc4_0 xc4_1 xc4_2 xc4_7 X0 X1 n)
def spec_IsPackage.f (k : Nat) (a0_0 : Int) (a0_1 : Int) (a0_2 : Int) (a0_3 : List T_impl_Grant) (a0_4 : List T_impl_Flow) (a0_5 : List T_impl_Rule) (a0_6 : List T_impl_Op) (a0_7 : Int) : Option Bool :=
  (spec_l1In.f k a0_0 (1 : Int) (5 : Int)).bind fun t1 => (bif !t1 then some false else (spec_l1In.f k a0_1 (1 : Int) (9 : Int)).bind fun t2 => (bif !t2 then some false else (spec_l1In.f k a0_2 (1 : Int) (999 : Int)).bind fun t3 => (bif !t3 then some false else (bif decide ((a0_3.length : Int) > (6 : Int)) then some false else (bif decide ((a0_4.length : Int) > (6 : Int)) then some false else (bif decide ((a0_5.length : Int) > (6 : Int)) then some false else (spec_AreOps.f k a0_6).bind fun t4 => (bif !t4 then some false else (spec_IsPackage.l4 k a0_3 a0_4 a0_5 a0_6 a0_0 a0_1 a0_2 a0_7 (fun (y6 : Bool) => some y6) (fun (_ : Unit) => (spec_IsPackage.l9 k a0_3 a0_4 a0_5 a0_6 a0_0 a0_1 a0_2 a0_7 (fun (y8 : Bool) => some y8) (fun (_ : Unit) => (spec_IsPackage.l14 k a0_3 a0_4 a0_5 a0_6 a0_0 a0_1 a0_2 a0_7 (fun (y10 : Bool) => some y10) (fun (_ : Unit) => some true) k (0 : Int))) k (0 : Int))) k (0 : Int)))))))))
def spec_IsPackage.h4 (k : Nat) {R : Type} (K : Ex → St κ → Option R) (vs : List AV) (bs : List (Blk κ)) : Option R :=
  match vs, bs with
  | [.v (.ptr 4 0 0), .v (.int .i64 x1)], [qb0, qb1, qb2, qb3, .cells 39 [.int .i64 xc4_0, .int .i64 xc4_1, .int .i64 xc4_2, .sl 0, .sl 1, .sl 2, .sl 3, .int .i64 xc4_7]] => (asO 4 false qb0).bind fun xl0 => (asO 5 false qb1).bind fun xl1 => (asO 6 false qb2).bind fun xl2 => (asO 7 false qb3).bind fun xl3 => spec_IsPackage.l4 k xl0 xl1 xl2 xl3 xc4_0 xc4_1 xc4_2 xc4_7 (fun (z1 : Bool) => K .ret (stOf [(1, [none, none, none, some 4, some 5, some 6, some 7, none]), (2, [])] [.v (.ptr 4 0 0), .v (.bool z1)] [.rows 4 false xl0, .rows 5 false xl1, .rows 6 false xl2, .rows 7 false xl3, .cells 39 [.int .i64 xc4_0, .int .i64 xc4_1, .int .i64 xc4_2, .sl 0, .sl 1, .sl 2, .sl 3, .int .i64 xc4_7]])) (fun (_ : Unit) => K (.exit 0) (stOf [(1, [none, none, none, some 4, some 5, some 6, some 7, none]), (2, [])] [.v (.ptr 4 0 0), .v .any] [.rows 4 false xl0, .rows 5 false xl1, .rows 6 false xl2, .rows 7 false xl3, .cells 39 [.int .i64 xc4_0, .int .i64 xc4_1, .int .i64 xc4_2, .sl 0, .sl 1, .sl 2, .sl 3, .int .i64 xc4_7]])) k x1
  | _, _ => none
def spec_IsPackage.h9 (k : Nat) {R : Type} (K : Ex → St κ → Option R) (vs : List AV) (bs : List (Blk κ)) : Option R :=
  match vs, bs with
  | [.v (.ptr 4 0 0), .v (.int .i64 x1)], [qb0, qb1, qb2, qb3, .cells 39 [.int .i64 xc4_0, .int .i64 xc4_1, .int .i64 xc4_2, .sl 0, .sl 1, .sl 2, .sl 3, .int .i64 xc4_7]] => (asO 4 false qb0).bind fun xl0 => (asO 5 false qb1).bind fun xl1 => (asO 6 false qb2).bind fun xl2 => (asO 7 false qb3).bind fun xl3 => spec_IsPackage.l9 k xl0 xl1 xl2 xl3 xc4_0 xc4_1 xc4_2 xc4_7 (fun (z1 : Bool) => K .ret (stOf [(1, [none, none, none, some 4, some 5, some 6, some 7, none]), (2, [])] [.v (.ptr 4 0 0), .v (.bool z1)] [.rows 4 false xl0, .rows 5 false xl1, .rows 6 false xl2, .rows 7 false xl3, .cells 39 [.int .i64 xc4_0, .int .i64 xc4_1, .int .i64 xc4_2, .sl 0, .sl 1, .sl 2, .sl 3, .int .i64 xc4_7]])) (fun (_ : Unit) => K (.exit 2) (stOf [(1, [none, none, none, some 4, some 5, some 6, some 7, none]), (2, [])] [.v (.ptr 4 0 0), .v .any] [.rows 4 false xl0, .rows 5 false xl1, .rows 6 false xl2, .rows 7 false xl3, .cells 39 [.int .i64 xc4_0, .int .i64 xc4_1, .int .i64 xc4_2, .sl 0, .sl 1, .sl 2, .sl 3, .int .i64 xc4_7]])) k x1
  | _, _ => none
def spec_IsPackage.h14 (k : Nat) {R : Type} (K : Ex → St κ → Option R) (vs : List AV) (bs : List (Blk κ)) : Option R :=
  match vs, bs with
  | [.v (.ptr 4 0 0), .v (.int .i64 x1)], [qb0, qb1, qb2, qb3, .cells 39 [.int .i64 xc4_0, .int .i64 xc4_1, .int .i64 xc4_2, .sl 0, .sl 1, .sl 2, .sl 3, .int .i64 xc4_7]] => (asO 4 false qb0).bind fun xl0 => (asO 5 false qb1).bind fun xl1 => (asO 6 false qb2).bind fun xl2 => (asO 7 false qb3).bind fun xl3 => spec_IsPackage.l14 k xl0 xl1 xl2 xl3 xc4_0 xc4_1 xc4_2 xc4_7 (fun (z0 : Bool) => K .ret (stOf [(2, [])] [.v (.bool z0)] [.rows 4 false xl0, .rows 5 false xl1, .rows 6 false xl2, .rows 7 false xl3])) (fun (_ : Unit) => K (.exit 4) (stOf [(2, [])] [.v .any] [.rows 4 false xl0, .rows 5 false xl1, .rows 6 false xl2, .rows 7 false xl3])) k x1
  | _, _ => none
def spec_IsPackage.Γ (k : Nat) : Ct κ := assoc [(101, spec_l1In.C k), (102, spec_AreOps.C k), (103, spec_IsGrant.C k), (104, spec_IsFlow.C k), (105, spec_IsRule.C k)]
def spec_IsPackage.LH (k : Nat) : Nat → Option (LHi κ) := assoc [(4, ⟨4, [(1, [none, none, none, some 4, some 5, some 6, some 7, none]), (3, [])], [(1, [none, none, none, some 4, some 5, some 6, some 7, none]), (2, [])], @spec_IsPackage.h4 k⟩), (9, ⟨4, [(1, [none, none, none, some 4, some 5, some 6, some 7, none]), (4, [])], [(1, [none, none, none, some 4, some 5, some 6, some 7, none]), (2, [])], @spec_IsPackage.h9 k⟩), (14, ⟨4, [(1, [none, none, none, some 4, some 5, some 6, some 7, none]), (5, [])], [(2, [])], @spec_IsPackage.h14 k⟩)]
theorem spec_IsPackage.hΓ (k : Nat) : ∀ f g, spec_IsPackage.Γ k f = some g → CSound Tryz.prog f g := G_cons (spec_l1In.ok k) (G_cons (spec_AreOps.ok k) (G_cons (spec_IsGrant.ok k) (G_cons (spec_IsFlow.ok k) (G_cons (spec_IsRule.ok k) G_nil))))
theorem spec_IsPackage.e4 {R : Type} (K : Ex → St κ → Option R) (k : Nat) (xl0 : List T_impl_Grant) (xl1 : List T_impl_Flow) (xl2 : List T_impl_Rule) (xl3 : List T_impl_Op) (xc4_0 : Int) (xc4_1 : Int) (xc4_2 : Int) (xc4_7 : Int) : ∀ (n : Nat) (x1 : Int), loopN 4 (Code.den ti (spec_IsPackage.Γ k) (spec_IsPackage.LH k) (loopAt Tryz.f47 0)) [(1, [none, none, none, some 4, some 5, some 6, some 7, none]), (3, [])] [(1, [none, none, none, some 4, some 5, some 6, some 7, none]), (2, [])] K n [.v (.ptr 4 0 0), .v (.int .i64 x1)] [.rows 4 false xl0, .rows 5 false xl1, .rows 6 false xl2, .rows 7 false xl3, .cells 39 [.int .i64 xc4_0, .int .i64 xc4_1, .int .i64 xc4_2, .sl 0, .sl 1, .sl 2, .sl 3, .int .i64 xc4_7]] = spec_IsPackage.l4 k xl0 xl1 xl2 xl3 xc4_0 xc4_1 xc4_2 xc4_7 (fun (z1 : Bool) => K .ret (stOf [(1, [none, none, none, some 4, some 5, some 6, some 7, none]), (2, [])] [.v (.ptr 4 0 0), .v (.bool z1)] [.rows 4 false xl0, .rows 5 false xl1, .rows 6 false xl2, .rows 7 false xl3, .cells 39 [.int .i64 xc4_0, .int .i64 xc4_1, .int .i64 xc4_2, .sl 0, .sl 1, .sl 2, .sl 3, .int .i64 xc4_7]])) (fun (_ : Unit) => K (.exit 0) (stOf [(1, [none, none, none, some 4, some 5, some 6, some 7, none]), (2, [])] [.v (.ptr 4 0 0), .v .any] [.rows 4 false xl0, .rows 5 false xl1, .rows 6 false xl2, .rows 7 false xl3, .cells 39 [.int .i64 xc4_0, .int .i64 xc4_1, .int .i64 xc4_2, .sl 0, .sl 1, .sl 2, .sl 3, .int .i64 xc4_7]])) n x1
  | 0, _ => rfl
  | n + 1, x1 => (show loopN 4 (Code.den ti (spec_IsPackage.Γ k) (spec_IsPackage.LH k) (loopAt Tryz.f47 0)) [(1, [none, none, none, some 4, some 5, some 6, some 7, none]), (3, [])] [(1, [none, none, none, some 4, some 5, some 6, some 7, none]), (2, [])] K (n + 1) [.v (.ptr 4 0 0), .v (.int .i64 x1)] [.rows 4 false xl0, .rows 5 false xl1, .rows 6 false xl2, .rows 7 false xl3, .cells 39 [.int .i64 xc4_0, .int .i64 xc4_1, .int .i64 xc4_2, .sl 0, .sl 1, .sl 2, .sl 3, .int .i64 xc4_7]] = spec_IsPackage.L4 k xl0 xl1 xl2 xl3 xc4_0 xc4_1 xc4_2 xc4_7 (fun (z1 : Bool) => K .ret (stOf [(1, [none, none, none, some 4, some 5, some 6, some 7, none]), (2, [])] [.v (.ptr 4 0 0), .v (.bool z1)] [.rows 4 false xl0, .rows 5 false xl1, .rows 6 false xl2, .rows 7 false xl3, .cells 39 [.int .i64 xc4_0, .int .i64 xc4_1, .int .i64 xc4_2, .sl 0, .sl 1, .sl 2, .sl 3, .int .i64 xc4_7]])) (fun (_ : Unit) => K (.exit 0) (stOf [(1, [none, none, none, some 4, some 5, some 6, some 7, none]), (2, [])] [.v (.ptr 4 0 0), .v .any] [.rows 4 false xl0, .rows 5 false xl1, .rows 6 false xl2, .rows 7 false xl3, .cells 39 [.int .i64 xc4_0, .int .i64 xc4_1, .int .i64 xc4_2, .sl 0, .sl 1, .sl 2, .sl 3, .int .i64 xc4_7]])) (fun (x1' : Int) => loopN 4 (Code.den ti (spec_IsPackage.Γ k) (spec_IsPackage.LH k) (loopAt Tryz.f47 0)) [(1, [none, none, none, some 4, some 5, some 6, some 7, none]), (3, [])] [(1, [none, none, none, some 4, some 5, some 6, some 7, none]), (2, [])] K n [.v (.ptr 4 0 0), .v (.int .i64 x1')] [.rows 4 false xl0, .rows 5 false xl1, .rows 6 false xl2, .rows 7 false xl3, .cells 39 [.int .i64 xc4_0, .int .i64 xc4_1, .int .i64 xc4_2, .sl 0, .sl 1, .sl 2, .sl 3, .int .i64 xc4_7]]) x1 by kernel_rfl).trans (congrArg (fun rec => spec_IsPackage.L4 k xl0 xl1 xl2 xl3 xc4_0 xc4_1 xc4_2 xc4_7 (fun (z1 : Bool) => K .ret (stOf [(1, [none, none, none, some 4, some 5, some 6, some 7, none]), (2, [])] [.v (.ptr 4 0 0), .v (.bool z1)] [.rows 4 false xl0, .rows 5 false xl1, .rows 6 false xl2, .rows 7 false xl3, .cells 39 [.int .i64 xc4_0, .int .i64 xc4_1, .int .i64 xc4_2, .sl 0, .sl 1, .sl 2, .sl 3, .int .i64 xc4_7]])) (fun (_ : Unit) => K (.exit 0) (stOf [(1, [none, none, none, some 4, some 5, some 6, some 7, none]), (2, [])] [.v (.ptr 4 0 0), .v .any] [.rows 4 false xl0, .rows 5 false xl1, .rows 6 false xl2, .rows 7 false xl3, .cells 39 [.int .i64 xc4_0, .int .i64 xc4_1, .int .i64 xc4_2, .sl 0, .sl 1, .sl 2, .sl 3, .int .i64 xc4_7]])) rec x1) (funext fun x1' => spec_IsPackage.e4 K k xl0 xl1 xl2 xl3 xc4_0 xc4_1 xc4_2 xc4_7 n x1'))
theorem spec_IsPackage.q4 (k : Nat) {R : Type} (K : Ex → St κ → Option R) (vs : List AV) (bs : List (Blk κ)) (r : R) (h : spec_IsPackage.h4 k K vs bs = some r) : ∃ n, loopN 4 (Code.den ti (spec_IsPackage.Γ k) (spec_IsPackage.LH k) (loopAt Tryz.f47 0)) [(1, [none, none, none, some 4, some 5, some 6, some 7, none]), (3, [])] [(1, [none, none, none, some 4, some 5, some 6, some 7, none]), (2, [])] K n vs bs = some r := by
  unfold spec_IsPackage.h4 at h
  split at h
  · obtain ⟨_, rfl, h_1⟩ := asO_bind h
    obtain ⟨_, rfl, h_2⟩ := asO_bind h_1
    obtain ⟨_, rfl, h_3⟩ := asO_bind h_2
    obtain ⟨_, rfl, h_4⟩ := asO_bind h_3
    exact ⟨k, (spec_IsPackage.e4 K k _ _ _ _ _ _ _ _ k _).trans h_4⟩
  · cases h
theorem spec_IsPackage.e9 {R : Type} (K : Ex → St κ → Option R) (k : Nat) (xl0 : List T_impl_Grant) (xl1 : List T_impl_Flow) (xl2 : List T_impl_Rule) (xl3 : List T_impl_Op) (xc4_0 : Int) (xc4_1 : Int) (xc4_2 : Int) (xc4_7 : Int) : ∀ (n : Nat) (x1 : Int), loopN 4 (Code.den ti (spec_IsPackage.Γ k) (spec_IsPackage.LH k) (loopAt Tryz.f47 1)) [(1, [none, none, none, some 4, some 5, some 6, some 7, none]), (4, [])] [(1, [none, none, none, some 4, some 5, some 6, some 7, none]), (2, [])] K n [.v (.ptr 4 0 0), .v (.int .i64 x1)] [.rows 4 false xl0, .rows 5 false xl1, .rows 6 false xl2, .rows 7 false xl3, .cells 39 [.int .i64 xc4_0, .int .i64 xc4_1, .int .i64 xc4_2, .sl 0, .sl 1, .sl 2, .sl 3, .int .i64 xc4_7]] = spec_IsPackage.l9 k xl0 xl1 xl2 xl3 xc4_0 xc4_1 xc4_2 xc4_7 (fun (z1 : Bool) => K .ret (stOf [(1, [none, none, none, some 4, some 5, some 6, some 7, none]), (2, [])] [.v (.ptr 4 0 0), .v (.bool z1)] [.rows 4 false xl0, .rows 5 false xl1, .rows 6 false xl2, .rows 7 false xl3, .cells 39 [.int .i64 xc4_0, .int .i64 xc4_1, .int .i64 xc4_2, .sl 0, .sl 1, .sl 2, .sl 3, .int .i64 xc4_7]])) (fun (_ : Unit) => K (.exit 2) (stOf [(1, [none, none, none, some 4, some 5, some 6, some 7, none]), (2, [])] [.v (.ptr 4 0 0), .v .any] [.rows 4 false xl0, .rows 5 false xl1, .rows 6 false xl2, .rows 7 false xl3, .cells 39 [.int .i64 xc4_0, .int .i64 xc4_1, .int .i64 xc4_2, .sl 0, .sl 1, .sl 2, .sl 3, .int .i64 xc4_7]])) n x1
  | 0, _ => rfl
  | n + 1, x1 => (show loopN 4 (Code.den ti (spec_IsPackage.Γ k) (spec_IsPackage.LH k) (loopAt Tryz.f47 1)) [(1, [none, none, none, some 4, some 5, some 6, some 7, none]), (4, [])] [(1, [none, none, none, some 4, some 5, some 6, some 7, none]), (2, [])] K (n + 1) [.v (.ptr 4 0 0), .v (.int .i64 x1)] [.rows 4 false xl0, .rows 5 false xl1, .rows 6 false xl2, .rows 7 false xl3, .cells 39 [.int .i64 xc4_0, .int .i64 xc4_1, .int .i64 xc4_2, .sl 0, .sl 1, .sl 2, .sl 3, .int .i64 xc4_7]] = spec_IsPackage.L9 k xl0 xl1 xl2 xl3 xc4_0 xc4_1 xc4_2 xc4_7 (fun (z1 : Bool) => K .ret (stOf [(1, [none, none, none, some 4, some 5, some 6, some 7, none]), (2, [])] [.v (.ptr 4 0 0), .v (.bool z1)] [.rows 4 false xl0, .rows 5 false xl1, .rows 6 false xl2, .rows 7 false xl3, .cells 39 [.int .i64 xc4_0, .int .i64 xc4_1, .int .i64 xc4_2, .sl 0, .sl 1, .sl 2, .sl 3, .int .i64 xc4_7]])) (fun (_ : Unit) => K (.exit 2) (stOf [(1, [none, none, none, some 4, some 5, some 6, some 7, none]), (2, [])] [.v (.ptr 4 0 0), .v .any] [.rows 4 false xl0, .rows 5 false xl1, .rows 6 false xl2, .rows 7 false xl3, .cells 39 [.int .i64 xc4_0, .int .i64 xc4_1, .int .i64 xc4_2, .sl 0, .sl 1, .sl 2, .sl 3, .int .i64 xc4_7]])) (fun (x1' : Int) => loopN 4 (Code.den ti (spec_IsPackage.Γ k) (spec_IsPackage.LH k) (loopAt Tryz.f47 1)) [(1, [none, none, none, some 4, some 5, some 6, some 7, none]), (4, [])] [(1, [none, none, none, some 4, some 5, some 6, some 7, none]), (2, [])] K n [.v (.ptr 4 0 0), .v (.int .i64 x1')] [.rows 4 false xl0, .rows 5 false xl1, .rows 6 false xl2, .rows 7 false xl3, .cells 39 [.int .i64 xc4_0, .int .i64 xc4_1, .int .i64 xc4_2, .sl 0, .sl 1, .sl 2, .sl 3, .int .i64 xc4_7]]) x1 by kernel_rfl).trans (congrArg (fun rec => spec_IsPackage.L9 k xl0 xl1 xl2 xl3 xc4_0 xc4_1 xc4_2 xc4_7 (fun (z1 : Bool) => K .ret (stOf [(1, [none, none, none, some 4, some 5, some 6, some 7, none]), (2, [])] [.v (.ptr 4 0 0), .v (.bool z1)] [.rows 4 false xl0, .rows 5 false xl1, .rows 6 false xl2, .rows 7 false xl3, .cells 39 [.int .i64 xc4_0, .int .i64 xc4_1, .int .i64 xc4_2, .sl 0, .sl 1, .sl 2, .sl 3, .int .i64 xc4_7]])) (fun (_ : Unit) => K (.exit 2) (stOf [(1, [none, none, none, some 4, some 5, some 6, some 7, none]), (2, [])] [.v (.ptr 4 0 0), .v .any] [.rows 4 false xl0, .rows 5 false xl1, .rows 6 false xl2, .rows 7 false xl3, .cells 39 [.int .i64 xc4_0, .int .i64 xc4_1, .int .i64 xc4_2, .sl 0, .sl 1, .sl 2, .sl 3, .int .i64 xc4_7]])) rec x1) (funext fun x1' => spec_IsPackage.e9 K k xl0 xl1 xl2 xl3 xc4_0 xc4_1 xc4_2 xc4_7 n x1'))
theorem spec_IsPackage.q9 (k : Nat) {R : Type} (K : Ex → St κ → Option R) (vs : List AV) (bs : List (Blk κ)) (r : R) (h : spec_IsPackage.h9 k K vs bs = some r) : ∃ n, loopN 4 (Code.den ti (spec_IsPackage.Γ k) (spec_IsPackage.LH k) (loopAt Tryz.f47 1)) [(1, [none, none, none, some 4, some 5, some 6, some 7, none]), (4, [])] [(1, [none, none, none, some 4, some 5, some 6, some 7, none]), (2, [])] K n vs bs = some r := by
  unfold spec_IsPackage.h9 at h
  split at h
  · obtain ⟨_, rfl, h_1⟩ := asO_bind h
    obtain ⟨_, rfl, h_2⟩ := asO_bind h_1
    obtain ⟨_, rfl, h_3⟩ := asO_bind h_2
    obtain ⟨_, rfl, h_4⟩ := asO_bind h_3
    exact ⟨k, (spec_IsPackage.e9 K k _ _ _ _ _ _ _ _ k _).trans h_4⟩
  · cases h
theorem spec_IsPackage.e14 {R : Type} (K : Ex → St κ → Option R) (k : Nat) (xl0 : List T_impl_Grant) (xl1 : List T_impl_Flow) (xl2 : List T_impl_Rule) (xl3 : List T_impl_Op) (xc4_0 : Int) (xc4_1 : Int) (xc4_2 : Int) (xc4_7 : Int) : ∀ (n : Nat) (x1 : Int), loopN 4 (Code.den ti (spec_IsPackage.Γ k) (spec_IsPackage.LH k) (loopAt Tryz.f47 2)) [(1, [none, none, none, some 4, some 5, some 6, some 7, none]), (5, [])] [(2, [])] K n [.v (.ptr 4 0 0), .v (.int .i64 x1)] [.rows 4 false xl0, .rows 5 false xl1, .rows 6 false xl2, .rows 7 false xl3, .cells 39 [.int .i64 xc4_0, .int .i64 xc4_1, .int .i64 xc4_2, .sl 0, .sl 1, .sl 2, .sl 3, .int .i64 xc4_7]] = spec_IsPackage.l14 k xl0 xl1 xl2 xl3 xc4_0 xc4_1 xc4_2 xc4_7 (fun (z0 : Bool) => K .ret (stOf [(2, [])] [.v (.bool z0)] [.rows 4 false xl0, .rows 5 false xl1, .rows 6 false xl2, .rows 7 false xl3])) (fun (_ : Unit) => K (.exit 4) (stOf [(2, [])] [.v .any] [.rows 4 false xl0, .rows 5 false xl1, .rows 6 false xl2, .rows 7 false xl3])) n x1
  | 0, _ => rfl
  | n + 1, x1 => (show loopN 4 (Code.den ti (spec_IsPackage.Γ k) (spec_IsPackage.LH k) (loopAt Tryz.f47 2)) [(1, [none, none, none, some 4, some 5, some 6, some 7, none]), (5, [])] [(2, [])] K (n + 1) [.v (.ptr 4 0 0), .v (.int .i64 x1)] [.rows 4 false xl0, .rows 5 false xl1, .rows 6 false xl2, .rows 7 false xl3, .cells 39 [.int .i64 xc4_0, .int .i64 xc4_1, .int .i64 xc4_2, .sl 0, .sl 1, .sl 2, .sl 3, .int .i64 xc4_7]] = spec_IsPackage.L14 k xl0 xl1 xl2 xl3 xc4_0 xc4_1 xc4_2 xc4_7 (fun (z0 : Bool) => K .ret (stOf [(2, [])] [.v (.bool z0)] [.rows 4 false xl0, .rows 5 false xl1, .rows 6 false xl2, .rows 7 false xl3])) (fun (_ : Unit) => K (.exit 4) (stOf [(2, [])] [.v .any] [.rows 4 false xl0, .rows 5 false xl1, .rows 6 false xl2, .rows 7 false xl3])) (fun (x1' : Int) => loopN 4 (Code.den ti (spec_IsPackage.Γ k) (spec_IsPackage.LH k) (loopAt Tryz.f47 2)) [(1, [none, none, none, some 4, some 5, some 6, some 7, none]), (5, [])] [(2, [])] K n [.v (.ptr 4 0 0), .v (.int .i64 x1')] [.rows 4 false xl0, .rows 5 false xl1, .rows 6 false xl2, .rows 7 false xl3, .cells 39 [.int .i64 xc4_0, .int .i64 xc4_1, .int .i64 xc4_2, .sl 0, .sl 1, .sl 2, .sl 3, .int .i64 xc4_7]]) x1 by kernel_rfl).trans (congrArg (fun rec => spec_IsPackage.L14 k xl0 xl1 xl2 xl3 xc4_0 xc4_1 xc4_2 xc4_7 (fun (z0 : Bool) => K .ret (stOf [(2, [])] [.v (.bool z0)] [.rows 4 false xl0, .rows 5 false xl1, .rows 6 false xl2, .rows 7 false xl3])) (fun (_ : Unit) => K (.exit 4) (stOf [(2, [])] [.v .any] [.rows 4 false xl0, .rows 5 false xl1, .rows 6 false xl2, .rows 7 false xl3])) rec x1) (funext fun x1' => spec_IsPackage.e14 K k xl0 xl1 xl2 xl3 xc4_0 xc4_1 xc4_2 xc4_7 n x1'))
theorem spec_IsPackage.q14 (k : Nat) {R : Type} (K : Ex → St κ → Option R) (vs : List AV) (bs : List (Blk κ)) (r : R) (h : spec_IsPackage.h14 k K vs bs = some r) : ∃ n, loopN 4 (Code.den ti (spec_IsPackage.Γ k) (spec_IsPackage.LH k) (loopAt Tryz.f47 2)) [(1, [none, none, none, some 4, some 5, some 6, some 7, none]), (5, [])] [(2, [])] K n vs bs = some r := by
  unfold spec_IsPackage.h14 at h
  split at h
  · obtain ⟨_, rfl, h_1⟩ := asO_bind h
    obtain ⟨_, rfl, h_2⟩ := asO_bind h_1
    obtain ⟨_, rfl, h_3⟩ := asO_bind h_2
    obtain ⟨_, rfl, h_4⟩ := asO_bind h_3
    exact ⟨k, (spec_IsPackage.e14 K k _ _ _ _ _ _ _ _ k _).trans h_4⟩
  · cases h
theorem spec_IsPackage.lok (k : Nat) : LOK ti (spec_IsPackage.Γ k) (spec_IsPackage.LH k) 4 (loopsOf (bodyOf Tryz.f47)) :=
  (show loopsOf (bodyOf Tryz.f47) = [loopAt Tryz.f47 0, loopAt Tryz.f47 1, loopAt Tryz.f47 2] by kernel_rfl) ▸ (LOK_cons (g := ⟨4, [(1, [none, none, none, some 4, some 5, some 6, some 7, none]), (3, [])], [(1, [none, none, none, some 4, some 5, some 6, some 7, none]), (2, [])], @spec_IsPackage.h4 k⟩) (by kernel_rfl) rfl (fun K vs xs r h => spec_IsPackage.q4 k K vs xs r h) (LOK_cons (g := ⟨4, [(1, [none, none, none, some 4, some 5, some 6, some 7, none]), (4, [])], [(1, [none, none, none, some 4, some 5, some 6, some 7, none]), (2, [])], @spec_IsPackage.h9 k⟩) (by kernel_rfl) rfl (fun K vs xs r h => spec_IsPackage.q9 k K vs xs r h) (LOK_cons (g := ⟨4, [(1, [none, none, none, some 4, some 5, some 6, some 7, none]), (5, [])], [(2, [])], @spec_IsPackage.h14 k⟩) (by kernel_rfl) rfl (fun K vs xs r h => spec_IsPackage.q14 k K vs xs r h) (LOK_nil))))
def spec_IsPackage.sig : List PSh := [.agg [.sc, .sc, .sc, .ro 4, .ro 5, .ro 6, .ro 7, .sc]]
def spec_IsPackage.g (y : Bool) : Ret κ := ⟨.v (.bool y), [], []⟩
def spec_IsPackage.out (r : Ret κ) : Option Bool :=
  match r with
  | ⟨.v (.bool z0), [], []⟩ => some (z0)
  | _ => none
theorem spec_IsPackage.out_ok (r : Ret κ) (y : Bool) (h : spec_IsPackage.out r = some y) : r = spec_IsPackage.g y := by
  unfold spec_IsPackage.out at h
  split at h
  · obtain rfl := Option.some.inj h
    rfl
  · cases h
def spec_IsPackage.body (k : Nat) (vs : List AV) (bs : List (Blk κ)) : Option (Lf κ) :=
  match vs, bs with
  | [.agg [.int .i64 a0_0, .int .i64 a0_1, .int .i64 a0_2, .sl 0, .sl 1, .sl 2, .sl 3, .int .i64 a0_7]], [qb0, qb1, qb2, qb3] => (asO 4 false qb0).bind fun a0_3 => (asO 5 false qb1).bind fun a0_4 => (asO 6 false qb2).bind fun a0_5 => (asO 7 false qb3).bind fun a0_6 => some ⟨Bool, spec_IsPackage.f k a0_0 a0_1 a0_2 a0_3 a0_4 a0_5 a0_6 a0_7, spec_IsPackage.g⟩
  | _, _ => none
def spec_IsPackage.C (k : Nat) : Nat → List AV → AP κ AV := contract spec_IsPackage.sig (spec_IsPackage.body k)
theorem spec_IsPackage.den (k : Nat) (a0_0 : Int) (a0_1 : Int) (a0_2 : Int) (a0_3 : List T_impl_Grant) (a0_4 : List T_impl_Flow) (a0_5 : List T_impl_Rule) (a0_6 : List T_impl_Op) (a0_7 : Int) : Code.den ti (spec_IsPackage.Γ k) (spec_IsPackage.LH k) (bodyOf Tryz.f47) (finK ti Tryz.f47.results.toList [] (flags spec_IsPackage.sig).length (rwI (flags spec_IsPackage.sig) 0) spec_IsPackage.out) ⟨envOf (([.agg [.int .i64 a0_0, .int .i64 a0_1, .int .i64 a0_2, .sl 0, .sl 1, .sl 2, .sl 3, .int .i64 a0_7]]).zipIdx.map fun q => (q.2, q.1)), hpOf [.rows 4 false a0_3, .rows 5 false a0_4, .rows 6 false a0_5, .rows 7 false a0_6], (flags spec_IsPackage.sig).length⟩ = spec_IsPackage.f k a0_0 a0_1 a0_2 a0_3 a0_4 a0_5 a0_6 a0_7 := by kernel_rfl
theorem spec_IsPackage.ok (k : Nat) : CSound Tryz.prog 47 (spec_IsPackage.C k) :=
  csound κ_ok mixed tok (spec_IsPackage.hΓ k) (LH := spec_IsPackage.LH k) (fn := Tryz.f47) (c := bodyOf Tryz.f47) Tryz.func47 rfl Tryz.call47 spec_IsPackage.sig [] (spec_IsPackage.body k) (by kernel_rfl) (spec_IsPackage.lok k) (by decide) fun vs bs lf y hl hb hy => by
    unfold spec_IsPackage.body at hb
    split at hb
    · obtain ⟨_, rfl, hb_1⟩ := asO_bind hb
      obtain ⟨_, rfl, hb_2⟩ := asO_bind hb_1
      obtain ⟨_, rfl, hb_3⟩ := asO_bind hb_2
      obtain ⟨_, rfl, hb_4⟩ := asO_bind hb_3
      obtain rfl := Option.some.inj hb_4
      exact ⟨spec_IsPackage.out, spec_IsPackage.out_ok, (spec_IsPackage.den k _ _ _ _ _ _ _ _).trans hy⟩
    · cases hb
/-! ### spec_IsValidKey -/
def spec_IsValidKey.f (k : Nat) (a0 : Int) : Option Bool :=
  (spec_l1In.f k a0 (1 : Int) (2147483646 : Int)).bind fun t1 => some t1
def spec_IsValidKey.Γ (k : Nat) : Ct κ := assoc [(101, spec_l1In.C k)]
def spec_IsValidKey.LH (k : Nat) : Nat → Option (LHi κ) := assoc []
theorem spec_IsValidKey.hΓ (k : Nat) : ∀ f g, spec_IsValidKey.Γ k f = some g → CSound Tryz.prog f g := G_cons (spec_l1In.ok k) G_nil
theorem spec_IsValidKey.lok (k : Nat) : LOK ti (spec_IsValidKey.Γ k) (spec_IsValidKey.LH k) 0 (loopsOf (bodyOf Tryz.f142)) :=
  (show loopsOf (bodyOf Tryz.f142) = [] by kernel_rfl) ▸ LOK_nil
def spec_IsValidKey.sig : List PSh := [.one .sc]
def spec_IsValidKey.g (y : Bool) : Ret κ := ⟨.v (.bool y), [], []⟩
def spec_IsValidKey.out (r : Ret κ) : Option Bool :=
  match r with
  | ⟨.v (.bool z0), [], []⟩ => some (z0)
  | _ => none
theorem spec_IsValidKey.out_ok (r : Ret κ) (y : Bool) (h : spec_IsValidKey.out r = some y) : r = spec_IsValidKey.g y := by
  unfold spec_IsValidKey.out at h
  split at h
  · obtain rfl := Option.some.inj h
    rfl
  · cases h
def spec_IsValidKey.body (k : Nat) (vs : List AV) (bs : List (Blk κ)) : Option (Lf κ) :=
  match vs, bs with
  | [.v (.int .i64 a0)], [] => some ⟨Bool, spec_IsValidKey.f k a0, spec_IsValidKey.g⟩
  | _, _ => none
def spec_IsValidKey.C (k : Nat) : Nat → List AV → AP κ AV := contract spec_IsValidKey.sig (spec_IsValidKey.body k)
theorem spec_IsValidKey.den (k : Nat) (a0 : Int) : Code.den ti (spec_IsValidKey.Γ k) (spec_IsValidKey.LH k) (bodyOf Tryz.f142) (finK ti Tryz.f142.results.toList [] (flags spec_IsValidKey.sig).length (rwI (flags spec_IsValidKey.sig) 0) spec_IsValidKey.out) ⟨envOf (([.v (.int .i64 a0)]).zipIdx.map fun q => (q.2, q.1)), hpOf [], (flags spec_IsValidKey.sig).length⟩ = spec_IsValidKey.f k a0 := by kernel_rfl
theorem spec_IsValidKey.ok (k : Nat) : CSound Tryz.prog 142 (spec_IsValidKey.C k) :=
  csound κ_ok mixed tok (spec_IsValidKey.hΓ k) (LH := spec_IsValidKey.LH k) (fn := Tryz.f142) (c := bodyOf Tryz.f142) Tryz.func142 rfl Tryz.call142 spec_IsValidKey.sig [] (spec_IsValidKey.body k) (by kernel_rfl) (spec_IsValidKey.lok k) (by decide) fun vs bs lf y hl hb hy => by
    unfold spec_IsValidKey.body at hb
    split at hb
    · obtain rfl := Option.some.inj hb
      exact ⟨spec_IsValidKey.out, spec_IsValidKey.out_ok, (spec_IsValidKey.den k _).trans hy⟩
    · cases hb
/-! ### spec_l26Copy -/
def spec_l26Copy.f (k : Nat) (a0_0 : Int) (a0_1 : Int) (a0_2 : Int) (a0_3 : List T_impl_Grant) (a0_4 : List T_impl_Flow) (a0_5 : List T_impl_Rule) (a0_6 : List T_impl_Op) (a0_7 : Int) : Option (Int × Int × Int × Int × List T_impl_Grant × List T_impl_Flow × List T_impl_Rule × List T_impl_Op) :=
  (bif decide ((([] : List T_impl_Grant).length + a0_3.length) * 56 ≤ cap48) then (bif decide ((([] : List T_impl_Flow).length + a0_4.length) * 24 ≤ cap48) then (bif decide ((([] : List T_impl_Rule).length + a0_5.length) * 64 ≤ cap48) then (bif decide ((([] : List T_impl_Op).length + a0_6.length) * 32 ≤ cap48) then some (a0_0, a0_1, a0_2, a0_7, (([] : List T_impl_Grant) ++ a0_3), (([] : List T_impl_Flow) ++ a0_4), (([] : List T_impl_Rule) ++ a0_5), (([] : List T_impl_Op) ++ a0_6)) else none) else none) else none) else none)
def spec_l26Copy.Γ (k : Nat) : Ct κ := assoc []
def spec_l26Copy.LH (k : Nat) : Nat → Option (LHi κ) := assoc []
theorem spec_l26Copy.hΓ (k : Nat) : ∀ f g, spec_l26Copy.Γ k f = some g → CSound Tryz.prog f g := G_nil
theorem spec_l26Copy.lok (k : Nat) : LOK ti (spec_l26Copy.Γ k) (spec_l26Copy.LH k) 4 (loopsOf (bodyOf Tryz.f59)) :=
  (show loopsOf (bodyOf Tryz.f59) = [] by kernel_rfl) ▸ LOK_nil
def spec_l26Copy.sig : List PSh := [.agg [.sc, .sc, .sc, .ro 4, .ro 5, .ro 6, .ro 7, .sc]]
def spec_l26Copy.g (y : Int × Int × Int × Int × List T_impl_Grant × List T_impl_Flow × List T_impl_Rule × List T_impl_Op) : Ret κ := ⟨.agg [.int .i64 y.1, .int .i64 y.2.1, .int .i64 y.2.2.1, .sl 4, .sl 5, .sl 6, .sl 7, .int .i64 y.2.2.2.1], [], [.rows 4 true y.2.2.2.2.1, .rows 5 true y.2.2.2.2.2.1, .rows 6 true y.2.2.2.2.2.2.1, .rows 7 true y.2.2.2.2.2.2.2]⟩
def spec_l26Copy.out (r : Ret κ) : Option (Int × Int × Int × Int × List T_impl_Grant × List T_impl_Flow × List T_impl_Rule × List T_impl_Op) :=
  match r with
  | ⟨.agg [.int .i64 z0, .int .i64 z1, .int .i64 z2, .sl 4, .sl 5, .sl 6, .sl 7, .int .i64 z3], [], [q4, q5, q6, q7]⟩ => (asO 4 true q4).bind fun z4 => (asO 5 true q5).bind fun z5 => (asO 6 true q6).bind fun z6 => (asO 7 true q7).bind fun z7 => some (z0, z1, z2, z3, z4, z5, z6, z7)
  | _ => none
theorem spec_l26Copy.out_ok (r : Ret κ) (y : Int × Int × Int × Int × List T_impl_Grant × List T_impl_Flow × List T_impl_Rule × List T_impl_Op) (h : spec_l26Copy.out r = some y) : r = spec_l26Copy.g y := by
  unfold spec_l26Copy.out at h
  split at h
  · obtain ⟨_, rfl, h_1⟩ := asO_bind h
    obtain ⟨_, rfl, h_2⟩ := asO_bind h_1
    obtain ⟨_, rfl, h_3⟩ := asO_bind h_2
    obtain ⟨_, rfl, h_4⟩ := asO_bind h_3
    obtain rfl := Option.some.inj h_4
    rfl
  · cases h
def spec_l26Copy.body (k : Nat) (vs : List AV) (bs : List (Blk κ)) : Option (Lf κ) :=
  match vs, bs with
  | [.agg [.int .i64 a0_0, .int .i64 a0_1, .int .i64 a0_2, .sl 0, .sl 1, .sl 2, .sl 3, .int .i64 a0_7]], [qb0, qb1, qb2, qb3] => (asO 4 false qb0).bind fun a0_3 => (asO 5 false qb1).bind fun a0_4 => (asO 6 false qb2).bind fun a0_5 => (asO 7 false qb3).bind fun a0_6 => some ⟨Int × Int × Int × Int × List T_impl_Grant × List T_impl_Flow × List T_impl_Rule × List T_impl_Op, spec_l26Copy.f k a0_0 a0_1 a0_2 a0_3 a0_4 a0_5 a0_6 a0_7, spec_l26Copy.g⟩
  | _, _ => none
def spec_l26Copy.C (k : Nat) : Nat → List AV → AP κ AV := contract spec_l26Copy.sig (spec_l26Copy.body k)
theorem spec_l26Copy.den (k : Nat) (a0_0 : Int) (a0_1 : Int) (a0_2 : Int) (a0_3 : List T_impl_Grant) (a0_4 : List T_impl_Flow) (a0_5 : List T_impl_Rule) (a0_6 : List T_impl_Op) (a0_7 : Int) : Code.den ti (spec_l26Copy.Γ k) (spec_l26Copy.LH k) (bodyOf Tryz.f59) (finK ti Tryz.f59.results.toList [(2, [none, none, none, some 4, some 5, some 6, some 7, none])] (flags spec_l26Copy.sig).length (rwI (flags spec_l26Copy.sig) 0) spec_l26Copy.out) ⟨envOf (([.agg [.int .i64 a0_0, .int .i64 a0_1, .int .i64 a0_2, .sl 0, .sl 1, .sl 2, .sl 3, .int .i64 a0_7]]).zipIdx.map fun q => (q.2, q.1)), hpOf [.rows 4 false a0_3, .rows 5 false a0_4, .rows 6 false a0_5, .rows 7 false a0_6], (flags spec_l26Copy.sig).length⟩ = spec_l26Copy.f k a0_0 a0_1 a0_2 a0_3 a0_4 a0_5 a0_6 a0_7 := by kernel_rfl
theorem spec_l26Copy.ok (k : Nat) : CSound Tryz.prog 59 (spec_l26Copy.C k) :=
  csound κ_ok mixed tok (spec_l26Copy.hΓ k) (LH := spec_l26Copy.LH k) (fn := Tryz.f59) (c := bodyOf Tryz.f59) Tryz.func59 rfl Tryz.call59 spec_l26Copy.sig [(2, [none, none, none, some 4, some 5, some 6, some 7, none])] (spec_l26Copy.body k) (by kernel_rfl) (spec_l26Copy.lok k) (by decide) fun vs bs lf y hl hb hy => by
    unfold spec_l26Copy.body at hb
    split at hb
    · obtain ⟨_, rfl, hb_1⟩ := asO_bind hb
      obtain ⟨_, rfl, hb_2⟩ := asO_bind hb_1
      obtain ⟨_, rfl, hb_3⟩ := asO_bind hb_2
      obtain ⟨_, rfl, hb_4⟩ := asO_bind hb_3
      obtain rfl := Option.some.inj hb_4
      exact ⟨spec_l26Copy.out, spec_l26Copy.out_ok, (spec_l26Copy.den k _ _ _ _ _ _ _ _).trans hy⟩
    · cases hb
/-! ### spec_PackageInts -/
def spec_PackageInts.L5 {R : Type} (k : Nat) (xl0 : List T_impl_Grant) (xl1 : List T_impl_Flow) (xl2 : List T_impl_Rule) (xl3 : List T_impl_Op) (xc4_0 : Int) (xc4_1 : Int) (xc4_2 : Int) (xc4_7 : Int) (X0 : List Int → Option R) (rec : Int → List Int → Option R) (x2 : Int) (xl5 : List Int) : Option R :=
  (bif decide (x2 < (xl0.length : Int)) then (bif decide (0 ≤ x2) then (bif decide (x2 < (xl0.length : Int)) then (bif (rd_impl_Grant xl0 x2).f5 then (bif decide ((xl5.length + ([(rd_impl_Grant xl0 x2).f1.f0, (rd_impl_Grant xl0 x2).f1.f1, (rd_impl_Grant xl0 x2).f2, (rd_impl_Grant xl0 x2).f3, (rd_impl_Grant xl0 x2).f4, (1 : Int)] : List Int).length) * 8 ≤ cap48) then (let l2 : List Int := (xl5 ++ ([(rd_impl_Grant xl0 x2).f1.f0, (rd_impl_Grant xl0 x2).f1.f1, (rd_impl_Grant xl0 x2).f2, (rd_impl_Grant xl0 x2).f3, (rd_impl_Grant xl0 x2).f4, (1 : Int)] : List Int)); (rec (w64 (x2 + (1 : Int))) l2)) else none) else (bif decide ((xl5.length + ([(rd_impl_Grant xl0 x2).f1.f0, (rd_impl_Grant xl0 x2).f1.f1, (rd_impl_Grant xl0 x2).f2, (rd_impl_Grant xl0 x2).f3, (rd_impl_Grant xl0 x2).f4, (0 : Int)] : List Int).length) * 8 ≤ cap48) then (let l3 : List Int := (xl5 ++ ([(rd_impl_Grant xl0 x2).f1.f0, (rd_impl_Grant xl0 x2).f1.f1, (rd_impl_Grant xl0 x2).f2, (rd_impl_Grant xl0 x2).f3, (rd_impl_Grant xl0 x2).f4, (0 : Int)] : List Int)); (rec (w64 (x2 + (1 : Int))) l3)) else none)) else none) else none) else (X0 xl5))
def spec_PackageInts.l5 {R : Type} (k : Nat) (xl0 : List T_impl_Grant) (xl1 : List T_impl_Flow) (xl2 : List T_impl_Rule) (xl3 : List T_impl_Op) (xc4_0 : Int) (xc4_1 : Int) (xc4_2 : Int) (xc4_7 : Int) (X0 : List Int → Option R) : Nat → Int → List Int → Option R
  | 0 => fun _ _ => none
  | n + 1 => spec_PackageInts.L5 k xl0 xl1 xl2 xl3 xc4_0 xc4_1 xc4_2 xc4_7 X0 (spec_PackageInts.l5 k xl0 xl1 xl2 xl3 xc4_0 xc4_1 xc4_2 xc4_7 X0 n)
def spec_PackageInts.L14 {R : Type} (k : Nat) (xl0 : List T_impl_Grant) (xl1 : List T_impl_Flow) (xl2 : List T_impl_Rule) (xl3 : List T_impl_Op) (xc4_0 : Int) (xc4_1 : Int) (xc4_2 : Int) (xc4_7 : Int) (X0 : List Int → Option R) (rec : Int → List Int → Option R) (x2 : Int) (xl5 : List Int) : Option R :=
  (bif decide (x2 < (xl1.length : Int)) then (bif decide (0 ≤ x2) then (bif decide (x2 < (xl1.length : Int)) then (bif decide (0 ≤ x2) then (bif decide (x2 < (xl1.length : Int)) then (bif decide ((xl5.length + ([(rd_impl_Flow xl1 x2).f1, (rd_impl_Flow xl1 x2).f2] : List Int).length) * 8 ≤ cap48) then (let l5 : List Int := (xl5 ++ ([(rd_impl_Flow xl1 x2).f1, (rd_impl_Flow xl1 x2).f2] : List Int)); (rec (w64 (x2 + (1 : Int))) l5)) else none) else none) else none) else none) else none) else (X0 xl5))
def spec_PackageInts.l14 {R : Type} (k : Nat) (xl0 : List T_impl_Grant) (xl1 : List T_impl_Flow) (xl2 : List T_impl_Rule) (xl3 : List T_impl_Op) (xc4_0 : Int) (xc4_1 : Int) (xc4_2 : Int) (xc4_7 : Int) (X0 : List Int → Option R) : Nat → Int → List Int → Option R
  | 0 => fun _ _ => none
  | n + 1 => spec_PackageInts.L14 k xl0 xl1 xl2 xl3 xc4_0 xc4_1 xc4_2 xc4_7 X0 (spec_PackageInts.l14 k xl0 xl1 xl2 xl3 xc4_0 xc4_1 xc4_2 xc4_7 X0 n)
def spec_PackageInts.L19 {R : Type} (k : Nat) (xl0 : List T_impl_Grant) (xl1 : List T_impl_Flow) (xl2 : List T_impl_Rule) (xl3 : List T_impl_Op) (xc4_0 : Int) (xc4_1 : Int) (xc4_2 : Int) (xc4_7 : Int) (X0 : List Int → Option R) (rec : Int → List Int → Option R) (x2 : Int) (xl5 : List Int) : Option R :=
  (bif decide (x2 < (xl2.length : Int)) then (bif decide (0 ≤ x2) then (bif decide (x2 < (xl2.length : Int)) then (bif decide ((xl5.length + ([(rd_impl_Rule xl2 x2).f1, (rd_impl_Rule xl2 x2).f2.f0, (rd_impl_Rule xl2 x2).f2.f1, (rd_impl_Rule xl2 x2).f3, (rd_impl_Rule xl2 x2).f4, (rd_impl_Rule xl2 x2).f5.f0, (rd_impl_Rule xl2 x2).f5.f1] : List Int).length) * 8 ≤ cap48) then (let l7 : List Int := (xl5 ++ ([(rd_impl_Rule xl2 x2).f1, (rd_impl_Rule xl2 x2).f2.f0, (rd_impl_Rule xl2 x2).f2.f1, (rd_impl_Rule xl2 x2).f3, (rd_impl_Rule xl2 x2).f4, (rd_impl_Rule xl2 x2).f5.f0, (rd_impl_Rule xl2 x2).f5.f1] : List Int)); (rec (w64 (x2 + (1 : Int))) l7)) else none) else none) else none) else (X0 xl5))
def spec_PackageInts.l19 {R : Type} (k : Nat) (xl0 : List T_impl_Grant) (xl1 : List T_impl_Flow) (xl2 : List T_impl_Rule) (xl3 : List T_impl_Op) (xc4_0 : Int) (xc4_1 : Int) (xc4_2 : Int) (xc4_7 : Int) (X0 : List Int → Option R) : Nat → Int → List Int → Option R
  | 0 => fun _ _ => none
  | n + 1 => spec_PackageInts.L19 k xl0 xl1 xl2 xl3 xc4_0 xc4_1 xc4_2 xc4_7 X0 (spec_PackageInts.l19 k xl0 xl1 xl2 xl3 xc4_0 xc4_1 xc4_2 xc4_7 X0 n)
def spec_PackageInts.L25 {R : Type} (k : Nat) (xl0 : List T_impl_Grant) (xl1 : List T_impl_Flow) (xl2 : List T_impl_Rule) (xl3 : List T_impl_Op) (xc4_0 : Int) (xc4_1 : Int) (xc4_2 : Int) (xc4_7 : Int) (X0 : List Int → Option R) (rec : Int → List Int → Option R) (x2 : Int) (xl5 : List Int) : Option R :=
  (bif decide (x2 < (xl3.length : Int)) then (bif decide (0 ≤ x2) then (bif decide (x2 < (xl3.length : Int)) then (bif decide (0 ≤ x2) then (bif decide (x2 < (xl3.length : Int)) then (bif decide (0 ≤ x2) then (bif decide (x2 < (xl3.length : Int)) then (bif decide (0 ≤ x2) then (bif decide (x2 < (xl3.length : Int)) then (bif decide ((xl5.length + ([(rd_impl_Op xl3 x2).f0, (rd_impl_Op xl3 x2).f1, (rd_impl_Op xl3 x2).f2, (rd_impl_Op xl3 x2).f3] : List Int).length) * 8 ≤ cap48) then (let l9 : List Int := (xl5 ++ ([(rd_impl_Op xl3 x2).f0, (rd_impl_Op xl3 x2).f1, (rd_impl_Op xl3 x2).f2, (rd_impl_Op xl3 x2).f3] : List Int)); (rec (w64 (x2 + (1 : Int))) l9)) else none) else none) else none) else none) else none) else none) else none) else none) else none) else (X0 xl5))
def spec_PackageInts.l25 {R : Type} (k : Nat) (xl0 : List T_impl_Grant) (xl1 : List T_impl_Flow) (xl2 : List T_impl_Rule) (xl3 : List T_impl_Op) (xc4_0 : Int) (xc4_1 : Int) (xc4_2 : Int) (xc4_7 : Int) (X0 : List Int → Option R) : Nat → Int → List Int → Option R
  | 0 => fun _ _ => none
  | n + 1 => spec_PackageInts.L25 k xl0 xl1 xl2 xl3 xc4_0 xc4_1 xc4_2 xc4_7 X0 (spec_PackageInts.l25 k xl0 xl1 xl2 xl3 xc4_0 xc4_1 xc4_2 xc4_7 X0 n)
def spec_PackageInts.f (k : Nat) (a0_0 : Int) (a0_1 : Int) (a0_2 : Int) (a0_3 : List T_impl_Grant) (a0_4 : List T_impl_Flow) (a0_5 : List T_impl_Rule) (a0_6 : List T_impl_Op) (a0_7 : Int) : Option (List Int) :=
  (spec_IsPackage.f k a0_0 a0_1 a0_2 a0_3 a0_4 a0_5 a0_6 a0_7).bind fun t1 => (bif !t1 then some ([] : List Int) else (spec_PackageInts.l5 k a0_3 a0_4 a0_5 a0_6 a0_0 a0_1 a0_2 a0_7 (fun (y4 : List Int) => (bif decide ((y4.length + ([(a0_4.length : Int)] : List Int).length) * 8 ≤ cap48) then (spec_PackageInts.l14 k a0_3 a0_4 a0_5 a0_6 a0_0 a0_1 a0_2 a0_7 (fun (y6 : List Int) => (bif decide ((y6.length + ([(a0_5.length : Int)] : List Int).length) * 8 ≤ cap48) then (spec_PackageInts.l19 k a0_3 a0_4 a0_5 a0_6 a0_0 a0_1 a0_2 a0_7 (fun (y8 : List Int) => (bif decide ((y8.length + ([(a0_6.length : Int)] : List Int).length) * 8 ≤ cap48) then (spec_PackageInts.l25 k a0_3 a0_4 a0_5 a0_6 a0_0 a0_1 a0_2 a0_7 (fun (y10 : List Int) => some y10) k (0 : Int) (y8 ++ ([(a0_6.length : Int)] : List Int))) else none)) k (0 : Int) (y6 ++ ([(a0_5.length : Int)] : List Int))) else none)) k (0 : Int) (y4 ++ ([(a0_4.length : Int)] : List Int))) else none)) k (0 : Int) ([a0_0, a0_1, a0_2, (a0_3.length : Int)] : List Int)))
def spec_PackageInts.h5 (k : Nat) {R : Type} (K : Ex → St κ → Option R) (vs : List AV) (bs : List (Blk κ)) : Option R :=
  match vs, bs with
  | [.v (.ptr 4 0 0), .v (.sl 5), .v (.int .i64 x2)], [qb0, qb1, qb2, qb3, .cells 39 [.int .i64 xc4_0, .int .i64 xc4_1, .int .i64 xc4_2, .sl 0, .sl 1, .sl 2, .sl 3, .int .i64 xc4_7], qb5] => (asO 4 false qb0).bind fun xl0 => (asO 5 false qb1).bind fun xl1 => (asO 6 false qb2).bind fun xl2 => (asO 7 false qb3).bind fun xl3 => (asO 8 true qb5).bind fun xl5 => spec_PackageInts.l5 k xl0 xl1 xl2 xl3 xc4_0 xc4_1 xc4_2 xc4_7 (fun (zl5 : List Int) => K (.exit 0) (stOf [(1, [none, none, none, some 4, some 5, some 6, some 7, none]), (3, [some 8])] [.v (.ptr 4 0 0), .v (.sl 5)] [.rows 4 false xl0, .rows 5 false xl1, .rows 6 false xl2, .rows 7 false xl3, .cells 39 [.int .i64 xc4_0, .int .i64 xc4_1, .int .i64 xc4_2, .sl 0, .sl 1, .sl 2, .sl 3, .int .i64 xc4_7], .rows 8 true zl5])) k x2 xl5
  | _, _ => none
def spec_PackageInts.h14 (k : Nat) {R : Type} (K : Ex → St κ → Option R) (vs : List AV) (bs : List (Blk κ)) : Option R :=
  match vs, bs with
  | [.v (.ptr 4 0 0), .v (.sl 5), .v (.int .i64 x2)], [qb0, qb1, qb2, qb3, .cells 39 [.int .i64 xc4_0, .int .i64 xc4_1, .int .i64 xc4_2, .sl 0, .sl 1, .sl 2, .sl 3, .int .i64 xc4_7], qb5] => (asO 4 false qb0).bind fun xl0 => (asO 5 false qb1).bind fun xl1 => (asO 6 false qb2).bind fun xl2 => (asO 7 false qb3).bind fun xl3 => (asO 8 true qb5).bind fun xl5 => spec_PackageInts.l14 k xl0 xl1 xl2 xl3 xc4_0 xc4_1 xc4_2 xc4_7 (fun (zl5 : List Int) => K (.exit 2) (stOf [(1, [none, none, none, some 4, some 5, some 6, some 7, none]), (3, [some 8])] [.v (.ptr 4 0 0), .v (.sl 5)] [.rows 4 false xl0, .rows 5 false xl1, .rows 6 false xl2, .rows 7 false xl3, .cells 39 [.int .i64 xc4_0, .int .i64 xc4_1, .int .i64 xc4_2, .sl 0, .sl 1, .sl 2, .sl 3, .int .i64 xc4_7], .rows 8 true zl5])) k x2 xl5
  | _, _ => none
def spec_PackageInts.h19 (k : Nat) {R : Type} (K : Ex → St κ → Option R) (vs : List AV) (bs : List (Blk κ)) : Option R :=
  match vs, bs with
  | [.v (.ptr 4 0 0), .v (.sl 5), .v (.int .i64 x2)], [qb0, qb1, qb2, qb3, .cells 39 [.int .i64 xc4_0, .int .i64 xc4_1, .int .i64 xc4_2, .sl 0, .sl 1, .sl 2, .sl 3, .int .i64 xc4_7], qb5] => (asO 4 false qb0).bind fun xl0 => (asO 5 false qb1).bind fun xl1 => (asO 6 false qb2).bind fun xl2 => (asO 7 false qb3).bind fun xl3 => (asO 8 true qb5).bind fun xl5 => spec_PackageInts.l19 k xl0 xl1 xl2 xl3 xc4_0 xc4_1 xc4_2 xc4_7 (fun (zl5 : List Int) => K (.exit 4) (stOf [(1, [none, none, none, some 4, some 5, some 6, some 7, none]), (3, [some 8])] [.v (.ptr 4 0 0), .v (.sl 5)] [.rows 4 false xl0, .rows 5 false xl1, .rows 6 false xl2, .rows 7 false xl3, .cells 39 [.int .i64 xc4_0, .int .i64 xc4_1, .int .i64 xc4_2, .sl 0, .sl 1, .sl 2, .sl 3, .int .i64 xc4_7], .rows 8 true zl5])) k x2 xl5
  | _, _ => none
def spec_PackageInts.h25 (k : Nat) {R : Type} (K : Ex → St κ → Option R) (vs : List AV) (bs : List (Blk κ)) : Option R :=
  match vs, bs with
  | [.v (.ptr 4 0 0), .v (.sl 5), .v (.int .i64 x2)], [qb0, qb1, qb2, qb3, .cells 39 [.int .i64 xc4_0, .int .i64 xc4_1, .int .i64 xc4_2, .sl 0, .sl 1, .sl 2, .sl 3, .int .i64 xc4_7], qb5] => (asO 4 false qb0).bind fun xl0 => (asO 5 false qb1).bind fun xl1 => (asO 6 false qb2).bind fun xl2 => (asO 7 false qb3).bind fun xl3 => (asO 8 true qb5).bind fun xl5 => spec_PackageInts.l25 k xl0 xl1 xl2 xl3 xc4_0 xc4_1 xc4_2 xc4_7 (fun (zl4 : List Int) => K (.exit 6) (stOf [(3, [some 8])] [.v (.sl 4)] [.rows 4 false xl0, .rows 5 false xl1, .rows 6 false xl2, .rows 7 false xl3, .rows 8 true zl4])) k x2 xl5
  | _, _ => none
def spec_PackageInts.Γ (k : Nat) : Ct κ := assoc [(47, spec_IsPackage.C k)]
def spec_PackageInts.LH (k : Nat) : Nat → Option (LHi κ) := assoc [(5, ⟨4, [(1, [none, none, none, some 4, some 5, some 6, some 7, none]), (3, [some 8]), (4, [])], [(1, [none, none, none, some 4, some 5, some 6, some 7, none]), (3, [some 8])], @spec_PackageInts.h5 k⟩), (14, ⟨4, [(1, [none, none, none, some 4, some 5, some 6, some 7, none]), (3, [some 8]), (7, [])], [(1, [none, none, none, some 4, some 5, some 6, some 7, none]), (3, [some 8])], @spec_PackageInts.h14 k⟩), (19, ⟨4, [(1, [none, none, none, some 4, some 5, some 6, some 7, none]), (3, [some 8]), (8, [])], [(1, [none, none, none, some 4, some 5, some 6, some 7, none]), (3, [some 8])], @spec_PackageInts.h19 k⟩), (25, ⟨4, [(1, [none, none, none, some 4, some 5, some 6, some 7, none]), (3, [some 8]), (10, [])], [(3, [some 8])], @spec_PackageInts.h25 k⟩)]
theorem spec_PackageInts.hΓ (k : Nat) : ∀ f g, spec_PackageInts.Γ k f = some g → CSound Tryz.prog f g := G_cons (spec_IsPackage.ok k) G_nil
theorem spec_PackageInts.e5 {R : Type} (K : Ex → St κ → Option R) (k : Nat) (xl0 : List T_impl_Grant) (xl1 : List T_impl_Flow) (xl2 : List T_impl_Rule) (xl3 : List T_impl_Op) (xc4_0 : Int) (xc4_1 : Int) (xc4_2 : Int) (xc4_7 : Int) : ∀ (n : Nat) (x2 : Int) (xl5 : List Int), loopN 4 (Code.den ti (spec_PackageInts.Γ k) (spec_PackageInts.LH k) (loopAt Tryz.f157 0)) [(1, [none, none, none, some 4, some 5, some 6, some 7, none]), (3, [some 8]), (4, [])] [(1, [none, none, none, some 4, some 5, some 6, some 7, none]), (3, [some 8])] K n [.v (.ptr 4 0 0), .v (.sl 5), .v (.int .i64 x2)] [.rows 4 false xl0, .rows 5 false xl1, .rows 6 false xl2, .rows 7 false xl3, .cells 39 [.int .i64 xc4_0, .int .i64 xc4_1, .int .i64 xc4_2, .sl 0, .sl 1, .sl 2, .sl 3, .int .i64 xc4_7], .rows 8 true xl5] = spec_PackageInts.l5 k xl0 xl1 xl2 xl3 xc4_0 xc4_1 xc4_2 xc4_7 (fun (zl5 : List Int) => K (.exit 0) (stOf [(1, [none, none, none, some 4, some 5, some 6, some 7, none]), (3, [some 8])] [.v (.ptr 4 0 0), .v (.sl 5)] [.rows 4 false xl0, .rows 5 false xl1, .rows 6 false xl2, .rows 7 false xl3, .cells 39 [.int .i64 xc4_0, .int .i64 xc4_1, .int .i64 xc4_2, .sl 0, .sl 1, .sl 2, .sl 3, .int .i64 xc4_7], .rows 8 true zl5])) n x2 xl5
  | 0, _, _ => rfl
  | n + 1, x2, xl5 => (show loopN 4 (Code.den ti (spec_PackageInts.Γ k) (spec_PackageInts.LH k) (loopAt Tryz.f157 0)) [(1, [none, none, none, some 4, some 5, some 6, some 7, none]), (3, [some 8]), (4, [])] [(1, [none, none, none, some 4, some 5, some 6, some 7, none]), (3, [some 8])] K (n + 1) [.v (.ptr 4 0 0), .v (.sl 5), .v (.int .i64 x2)] [.rows 4 false xl0, .rows 5 false xl1, .rows 6 false xl2, .rows 7 false xl3, .cells 39 [.int .i64 xc4_0, .int .i64 xc4_1, .int .i64 xc4_2, .sl 0, .sl 1, .sl 2, .sl 3, .int .i64 xc4_7], .rows 8 true xl5] = spec_PackageInts.L5 k xl0 xl1 xl2 xl3 xc4_0 xc4_1 xc4_2 xc4_7 (fun (zl5 : List Int) => K (.exit 0) (stOf [(1, [none, none, none, some 4, some 5, some 6, some 7, none]), (3, [some 8])] [.v (.ptr 4 0 0), .v (.sl 5)] [.rows 4 false xl0, .rows 5 false xl1, .rows 6 false xl2, .rows 7 false xl3, .cells 39 [.int .i64 xc4_0, .int .i64 xc4_1, .int .i64 xc4_2, .sl 0, .sl 1, .sl 2, .sl 3, .int .i64 xc4_7], .rows 8 true zl5])) (fun (x2' : Int) (xl5' : List Int) => loopN 4 (Code.den ti (spec_PackageInts.Γ k) (spec_PackageInts.LH k) (loopAt Tryz.f157 0)) [(1, [none, none, none, some 4, some 5, some 6, some 7, none]), (3, [some 8]), (4, [])] [(1, [none, none, none, some 4, some 5, some 6, some 7, none]), (3, [some 8])] K n [.v (.ptr 4 0 0), .v (.sl 5), .v (.int .i64 x2')] [.rows 4 false xl0, .rows 5 false xl1, .rows 6 false xl2, .rows 7 false xl3, .cells 39 [.int .i64 xc4_0, .int .i64 xc4_1, .int .i64 xc4_2, .sl 0, .sl 1, .sl 2, .sl 3, .int .i64 xc4_7], .rows 8 true xl5']) x2 xl5 by kernel_rfl).trans (congrArg (fun rec => spec_PackageInts.L5 k xl0 xl1 xl2 xl3 xc4_0 xc4_1 xc4_2 xc4_7 (fun (zl5 : List Int) => K (.exit 0) (stOf [(1, [none, none, none, some 4, some 5, some 6, some 7, none]), (3, [some 8])] [.v (.ptr 4 0 0), .v (.sl 5)] [.rows 4 false xl0, .rows 5 false xl1, .rows 6 false xl2, .rows 7 false xl3, .cells 39 [.int .i64 xc4_0, .int .i64 xc4_1, .int .i64 xc4_2, .sl 0, .sl 1, .sl 2, .sl 3, .int .i64 xc4_7], .rows 8 true zl5])) rec x2 xl5) (funext fun x2' => funext fun xl5' => spec_PackageInts.e5 K k xl0 xl1 xl2 xl3 xc4_0 xc4_1 xc4_2 xc4_7 n x2' xl5'))
theorem spec_PackageInts.q5 (k : Nat) {R : Type} (K : Ex → St κ → Option R) (vs : List AV) (bs : List (Blk κ)) (r : R) (h : spec_PackageInts.h5 k K vs bs = some r) : ∃ n, loopN 4 (Code.den ti (spec_PackageInts.Γ k) (spec_PackageInts.LH k) (loopAt Tryz.f157 0)) [(1, [none, none, none, some 4, some 5, some 6, some 7, none]), (3, [some 8]), (4, [])] [(1, [none, none, none, some 4, some 5, some 6, some 7, none]), (3, [some 8])] K n vs bs = some r := by
  unfold spec_PackageInts.h5 at h
  split at h
  · obtain ⟨_, rfl, h_1⟩ := asO_bind h
    obtain ⟨_, rfl, h_2⟩ := asO_bind h_1
    obtain ⟨_, rfl, h_3⟩ := asO_bind h_2
    obtain ⟨_, rfl, h_4⟩ := asO_bind h_3
    obtain ⟨_, rfl, h_5⟩ := asO_bind h_4
    exact ⟨k, (spec_PackageInts.e5 K k _ _ _ _ _ _ _ _ k _ _).trans h_5⟩
  · cases h
theorem spec_PackageInts.e14 {R : Type} (K : Ex → St κ → Option R) (k : Nat) (xl0 : List T_impl_Grant) (xl1 : List T_impl_Flow) (xl2 : List T_impl_Rule) (xl3 : List T_impl_Op) (xc4_0 : Int) (xc4_1 : Int) (xc4_2 : Int) (xc4_7 : Int) : ∀ (n : Nat) (x2 : Int) (xl5 : List Int), loopN 4 (Code.den ti (spec_PackageInts.Γ k) (spec_PackageInts.LH k) (loopAt Tryz.f157 1)) [(1, [none, none, none, some 4, some 5, some 6, some 7, none]), (3, [some 8]), (7, [])] [(1, [none, none, none, some 4, some 5, some 6, some 7, none]), (3, [some 8])] K n [.v (.ptr 4 0 0), .v (.sl 5), .v (.int .i64 x2)] [.rows 4 false xl0, .rows 5 false xl1, .rows 6 false xl2, .rows 7 false xl3, .cells 39 [.int .i64 xc4_0, .int .i64 xc4_1, .int .i64 xc4_2, .sl 0, .sl 1, .sl 2, .sl 3, .int .i64 xc4_7], .rows 8 true xl5] = spec_PackageInts.l14 k xl0 xl1 xl2 xl3 xc4_0 xc4_1 xc4_2 xc4_7 (fun (zl5 : List Int) => K (.exit 2) (stOf [(1, [none, none, none, some 4, some 5, some 6, some 7, none]), (3, [some 8])] [.v (.ptr 4 0 0), .v (.sl 5)] [.rows 4 false xl0, .rows 5 false xl1, .rows 6 false xl2, .rows 7 false xl3, .cells 39 [.int .i64 xc4_0, .int .i64 xc4_1, .int .i64 xc4_2, .sl 0, .sl 1, .sl 2, .sl 3, .int .i64 xc4_7], .rows 8 true zl5])) n x2 xl5
  | 0, _, _ => rfl
  | n + 1, x2, xl5 => (show loopN 4 (Code.den ti (spec_PackageInts.Γ k) (spec_PackageInts.LH k) (loopAt Tryz.f157 1)) [(1, [none, none, none, some 4, some 5, some 6, some 7, none]), (3, [some 8]), (7, [])] [(1, [none, none, none, some 4, some 5, some 6, some 7, none]), (3, [some 8])] K (n + 1) [.v (.ptr 4 0 0), .v (.sl 5), .v (.int .i64 x2)] [.rows 4 false xl0, .rows 5 false xl1, .rows 6 false xl2, .rows 7 false xl3, .cells 39 [.int .i64 xc4_0, .int .i64 xc4_1, .int .i64 xc4_2, .sl 0, .sl 1, .sl 2, .sl 3, .int .i64 xc4_7], .rows 8 true xl5] = spec_PackageInts.L14 k xl0 xl1 xl2 xl3 xc4_0 xc4_1 xc4_2 xc4_7 (fun (zl5 : List Int) => K (.exit 2) (stOf [(1, [none, none, none, some 4, some 5, some 6, some 7, none]), (3, [some 8])] [.v (.ptr 4 0 0), .v (.sl 5)] [.rows 4 false xl0, .rows 5 false xl1, .rows 6 false xl2, .rows 7 false xl3, .cells 39 [.int .i64 xc4_0, .int .i64 xc4_1, .int .i64 xc4_2, .sl 0, .sl 1, .sl 2, .sl 3, .int .i64 xc4_7], .rows 8 true zl5])) (fun (x2' : Int) (xl5' : List Int) => loopN 4 (Code.den ti (spec_PackageInts.Γ k) (spec_PackageInts.LH k) (loopAt Tryz.f157 1)) [(1, [none, none, none, some 4, some 5, some 6, some 7, none]), (3, [some 8]), (7, [])] [(1, [none, none, none, some 4, some 5, some 6, some 7, none]), (3, [some 8])] K n [.v (.ptr 4 0 0), .v (.sl 5), .v (.int .i64 x2')] [.rows 4 false xl0, .rows 5 false xl1, .rows 6 false xl2, .rows 7 false xl3, .cells 39 [.int .i64 xc4_0, .int .i64 xc4_1, .int .i64 xc4_2, .sl 0, .sl 1, .sl 2, .sl 3, .int .i64 xc4_7], .rows 8 true xl5']) x2 xl5 by kernel_rfl).trans (congrArg (fun rec => spec_PackageInts.L14 k xl0 xl1 xl2 xl3 xc4_0 xc4_1 xc4_2 xc4_7 (fun (zl5 : List Int) => K (.exit 2) (stOf [(1, [none, none, none, some 4, some 5, some 6, some 7, none]), (3, [some 8])] [.v (.ptr 4 0 0), .v (.sl 5)] [.rows 4 false xl0, .rows 5 false xl1, .rows 6 false xl2, .rows 7 false xl3, .cells 39 [.int .i64 xc4_0, .int .i64 xc4_1, .int .i64 xc4_2, .sl 0, .sl 1, .sl 2, .sl 3, .int .i64 xc4_7], .rows 8 true zl5])) rec x2 xl5) (funext fun x2' => funext fun xl5' => spec_PackageInts.e14 K k xl0 xl1 xl2 xl3 xc4_0 xc4_1 xc4_2 xc4_7 n x2' xl5'))
theorem spec_PackageInts.q14 (k : Nat) {R : Type} (K : Ex → St κ → Option R) (vs : List AV) (bs : List (Blk κ)) (r : R) (h : spec_PackageInts.h14 k K vs bs = some r) : ∃ n, loopN 4 (Code.den ti (spec_PackageInts.Γ k) (spec_PackageInts.LH k) (loopAt Tryz.f157 1)) [(1, [none, none, none, some 4, some 5, some 6, some 7, none]), (3, [some 8]), (7, [])] [(1, [none, none, none, some 4, some 5, some 6, some 7, none]), (3, [some 8])] K n vs bs = some r := by
  unfold spec_PackageInts.h14 at h
  split at h
  · obtain ⟨_, rfl, h_1⟩ := asO_bind h
    obtain ⟨_, rfl, h_2⟩ := asO_bind h_1
    obtain ⟨_, rfl, h_3⟩ := asO_bind h_2
    obtain ⟨_, rfl, h_4⟩ := asO_bind h_3
    obtain ⟨_, rfl, h_5⟩ := asO_bind h_4
    exact ⟨k, (spec_PackageInts.e14 K k _ _ _ _ _ _ _ _ k _ _).trans h_5⟩
  · cases h
theorem spec_PackageInts.e19 {R : Type} (K : Ex → St κ → Option R) (k : Nat) (xl0 : List T_impl_Grant) (xl1 : List T_impl_Flow) (xl2 : List T_impl_Rule) (xl3 : List T_impl_Op) (xc4_0 : Int) (xc4_1 : Int) (xc4_2 : Int) (xc4_7 : Int) : ∀ (n : Nat) (x2 : Int) (xl5 : List Int), loopN 4 (Code.den ti (spec_PackageInts.Γ k) (spec_PackageInts.LH k) (loopAt Tryz.f157 2)) [(1, [none, none, none, some 4, some 5, some 6, some 7, none]), (3, [some 8]), (8, [])] [(1, [none, none, none, some 4, some 5, some 6, some 7, none]), (3, [some 8])] K n [.v (.ptr 4 0 0), .v (.sl 5), .v (.int .i64 x2)] [.rows 4 false xl0, .rows 5 false xl1, .rows 6 false xl2, .rows 7 false xl3, .cells 39 [.int .i64 xc4_0, .int .i64 xc4_1, .int .i64 xc4_2, .sl 0, .sl 1, .sl 2, .sl 3, .int .i64 xc4_7], .rows 8 true xl5] = spec_PackageInts.l19 k xl0 xl1 xl2 xl3 xc4_0 xc4_1 xc4_2 xc4_7 (fun (zl5 : List Int) => K (.exit 4) (stOf [(1, [none, none, none, some 4, some 5, some 6, some 7, none]), (3, [some 8])] [.v (.ptr 4 0 0), .v (.sl 5)] [.rows 4 false xl0, .rows 5 false xl1, .rows 6 false xl2, .rows 7 false xl3, .cells 39 [.int .i64 xc4_0, .int .i64 xc4_1, .int .i64 xc4_2, .sl 0, .sl 1, .sl 2, .sl 3, .int .i64 xc4_7], .rows 8 true zl5])) n x2 xl5
  | 0, _, _ => rfl
  | n + 1, x2, xl5 => (show loopN 4 (Code.den ti (spec_PackageInts.Γ k) (spec_PackageInts.LH k) (loopAt Tryz.f157 2)) [(1, [none, none, none, some 4, some 5, some 6, some 7, none]), (3, [some 8]), (8, [])] [(1, [none, none, none, some 4, some 5, some 6, some 7, none]), (3, [some 8])] K (n + 1) [.v (.ptr 4 0 0), .v (.sl 5), .v (.int .i64 x2)] [.rows 4 false xl0, .rows 5 false xl1, .rows 6 false xl2, .rows 7 false xl3, .cells 39 [.int .i64 xc4_0, .int .i64 xc4_1, .int .i64 xc4_2, .sl 0, .sl 1, .sl 2, .sl 3, .int .i64 xc4_7], .rows 8 true xl5] = spec_PackageInts.L19 k xl0 xl1 xl2 xl3 xc4_0 xc4_1 xc4_2 xc4_7 (fun (zl5 : List Int) => K (.exit 4) (stOf [(1, [none, none, none, some 4, some 5, some 6, some 7, none]), (3, [some 8])] [.v (.ptr 4 0 0), .v (.sl 5)] [.rows 4 false xl0, .rows 5 false xl1, .rows 6 false xl2, .rows 7 false xl3, .cells 39 [.int .i64 xc4_0, .int .i64 xc4_1, .int .i64 xc4_2, .sl 0, .sl 1, .sl 2, .sl 3, .int .i64 xc4_7], .rows 8 true zl5])) (fun (x2' : Int) (xl5' : List Int) => loopN 4 (Code.den ti (spec_PackageInts.Γ k) (spec_PackageInts.LH k) (loopAt Tryz.f157 2)) [(1, [none, none, none, some 4, some 5, some 6, some 7, none]), (3, [some 8]), (8, [])] [(1, [none, none, none, some 4, some 5, some 6, some 7, none]), (3, [some 8])] K n [.v (.ptr 4 0 0), .v (.sl 5), .v (.int .i64 x2')] [.rows 4 false xl0, .rows 5 false xl1, .rows 6 false xl2, .rows 7 false xl3, .cells 39 [.int .i64 xc4_0, .int .i64 xc4_1, .int .i64 xc4_2, .sl 0, .sl 1, .sl 2, .sl 3, .int .i64 xc4_7], .rows 8 true xl5']) x2 xl5 by kernel_rfl).trans (congrArg (fun rec => spec_PackageInts.L19 k xl0 xl1 xl2 xl3 xc4_0 xc4_1 xc4_2 xc4_7 (fun (zl5 : List Int) => K (.exit 4) (stOf [(1, [none, none, none, some 4, some 5, some 6, some 7, none]), (3, [some 8])] [.v (.ptr 4 0 0), .v (.sl 5)] [.rows 4 false xl0, .rows 5 false xl1, .rows 6 false xl2, .rows 7 false xl3, .cells 39 [.int .i64 xc4_0, .int .i64 xc4_1, .int .i64 xc4_2, .sl 0, .sl 1, .sl 2, .sl 3, .int .i64 xc4_7], .rows 8 true zl5])) rec x2 xl5) (funext fun x2' => funext fun xl5' => spec_PackageInts.e19 K k xl0 xl1 xl2 xl3 xc4_0 xc4_1 xc4_2 xc4_7 n x2' xl5'))
theorem spec_PackageInts.q19 (k : Nat) {R : Type} (K : Ex → St κ → Option R) (vs : List AV) (bs : List (Blk κ)) (r : R) (h : spec_PackageInts.h19 k K vs bs = some r) : ∃ n, loopN 4 (Code.den ti (spec_PackageInts.Γ k) (spec_PackageInts.LH k) (loopAt Tryz.f157 2)) [(1, [none, none, none, some 4, some 5, some 6, some 7, none]), (3, [some 8]), (8, [])] [(1, [none, none, none, some 4, some 5, some 6, some 7, none]), (3, [some 8])] K n vs bs = some r := by
  unfold spec_PackageInts.h19 at h
  split at h
  · obtain ⟨_, rfl, h_1⟩ := asO_bind h
    obtain ⟨_, rfl, h_2⟩ := asO_bind h_1
    obtain ⟨_, rfl, h_3⟩ := asO_bind h_2
    obtain ⟨_, rfl, h_4⟩ := asO_bind h_3
    obtain ⟨_, rfl, h_5⟩ := asO_bind h_4
    exact ⟨k, (spec_PackageInts.e19 K k _ _ _ _ _ _ _ _ k _ _).trans h_5⟩
  · cases h
theorem spec_PackageInts.e25 {R : Type} (K : Ex → St κ → Option R) (k : Nat) (xl0 : List T_impl_Grant) (xl1 : List T_impl_Flow) (xl2 : List T_impl_Rule) (xl3 : List T_impl_Op) (xc4_0 : Int) (xc4_1 : Int) (xc4_2 : Int) (xc4_7 : Int) : ∀ (n : Nat) (x2 : Int) (xl5 : List Int), loopN 4 (Code.den ti (spec_PackageInts.Γ k) (spec_PackageInts.LH k) (loopAt Tryz.f157 3)) [(1, [none, none, none, some 4, some 5, some 6, some 7, none]), (3, [some 8]), (10, [])] [(3, [some 8])] K n [.v (.ptr 4 0 0), .v (.sl 5), .v (.int .i64 x2)] [.rows 4 false xl0, .rows 5 false xl1, .rows 6 false xl2, .rows 7 false xl3, .cells 39 [.int .i64 xc4_0, .int .i64 xc4_1, .int .i64 xc4_2, .sl 0, .sl 1, .sl 2, .sl 3, .int .i64 xc4_7], .rows 8 true xl5] = spec_PackageInts.l25 k xl0 xl1 xl2 xl3 xc4_0 xc4_1 xc4_2 xc4_7 (fun (zl4 : List Int) => K (.exit 6) (stOf [(3, [some 8])] [.v (.sl 4)] [.rows 4 false xl0, .rows 5 false xl1, .rows 6 false xl2, .rows 7 false xl3, .rows 8 true zl4])) n x2 xl5
  | 0, _, _ => rfl
  | n + 1, x2, xl5 => (show loopN 4 (Code.den ti (spec_PackageInts.Γ k) (spec_PackageInts.LH k) (loopAt Tryz.f157 3)) [(1, [none, none, none, some 4, some 5, some 6, some 7, none]), (3, [some 8]), (10, [])] [(3, [some 8])] K (n + 1) [.v (.ptr 4 0 0), .v (.sl 5), .v (.int .i64 x2)] [.rows 4 false xl0, .rows 5 false xl1, .rows 6 false xl2, .rows 7 false xl3, .cells 39 [.int .i64 xc4_0, .int .i64 xc4_1, .int .i64 xc4_2, .sl 0, .sl 1, .sl 2, .sl 3, .int .i64 xc4_7], .rows 8 true xl5] = spec_PackageInts.L25 k xl0 xl1 xl2 xl3 xc4_0 xc4_1 xc4_2 xc4_7 (fun (zl4 : List Int) => K (.exit 6) (stOf [(3, [some 8])] [.v (.sl 4)] [.rows 4 false xl0, .rows 5 false xl1, .rows 6 false xl2, .rows 7 false xl3, .rows 8 true zl4])) (fun (x2' : Int) (xl5' : List Int) => loopN 4 (Code.den ti (spec_PackageInts.Γ k) (spec_PackageInts.LH k) (loopAt Tryz.f157 3)) [(1, [none, none, none, some 4, some 5, some 6, some 7, none]), (3, [some 8]), (10, [])] [(3, [some 8])] K n [.v (.ptr 4 0 0), .v (.sl 5), .v (.int .i64 x2')] [.rows 4 false xl0, .rows 5 false xl1, .rows 6 false xl2, .rows 7 false xl3, .cells 39 [.int .i64 xc4_0, .int .i64 xc4_1, .int .i64 xc4_2, .sl 0, .sl 1, .sl 2, .sl 3, .int .i64 xc4_7], .rows 8 true xl5']) x2 xl5 by kernel_rfl).trans (congrArg (fun rec => spec_PackageInts.L25 k xl0 xl1 xl2 xl3 xc4_0 xc4_1 xc4_2 xc4_7 (fun (zl4 : List Int) => K (.exit 6) (stOf [(3, [some 8])] [.v (.sl 4)] [.rows 4 false xl0, .rows 5 false xl1, .rows 6 false xl2, .rows 7 false xl3, .rows 8 true zl4])) rec x2 xl5) (funext fun x2' => funext fun xl5' => spec_PackageInts.e25 K k xl0 xl1 xl2 xl3 xc4_0 xc4_1 xc4_2 xc4_7 n x2' xl5'))
theorem spec_PackageInts.q25 (k : Nat) {R : Type} (K : Ex → St κ → Option R) (vs : List AV) (bs : List (Blk κ)) (r : R) (h : spec_PackageInts.h25 k K vs bs = some r) : ∃ n, loopN 4 (Code.den ti (spec_PackageInts.Γ k) (spec_PackageInts.LH k) (loopAt Tryz.f157 3)) [(1, [none, none, none, some 4, some 5, some 6, some 7, none]), (3, [some 8]), (10, [])] [(3, [some 8])] K n vs bs = some r := by
  unfold spec_PackageInts.h25 at h
  split at h
  · obtain ⟨_, rfl, h_1⟩ := asO_bind h
    obtain ⟨_, rfl, h_2⟩ := asO_bind h_1
    obtain ⟨_, rfl, h_3⟩ := asO_bind h_2
    obtain ⟨_, rfl, h_4⟩ := asO_bind h_3
    obtain ⟨_, rfl, h_5⟩ := asO_bind h_4
    exact ⟨k, (spec_PackageInts.e25 K k _ _ _ _ _ _ _ _ k _ _).trans h_5⟩
  · cases h
theorem spec_PackageInts.lok (k : Nat) : LOK ti (spec_PackageInts.Γ k) (spec_PackageInts.LH k) 4 (loopsOf (bodyOf Tryz.f157)) :=
  (show loopsOf (bodyOf Tryz.f157) = [loopAt Tryz.f157 0, loopAt Tryz.f157 1, loopAt Tryz.f157 2, loopAt Tryz.f157 3] by kernel_rfl) ▸ (LOK_cons (g := ⟨4, [(1, [none, none, none, some 4, some 5, some 6, some 7, none]), (3, [some 8]), (4, [])], [(1, [none, none, none, some 4, some 5, some 6, some 7, none]), (3, [some 8])], @spec_PackageInts.h5 k⟩) (by kernel_rfl) rfl (fun K vs xs r h => spec_PackageInts.q5 k K vs xs r h) (LOK_cons (g := ⟨4, [(1, [none, none, none, some 4, some 5, some 6, some 7, none]), (3, [some 8]), (7, [])], [(1, [none, none, none, some 4, some 5, some 6, some 7, none]), (3, [some 8])], @spec_PackageInts.h14 k⟩) (by kernel_rfl) rfl (fun K vs xs r h => spec_PackageInts.q14 k K vs xs r h) (LOK_cons (g := ⟨4, [(1, [none, none, none, some 4, some 5, some 6, some 7, none]), (3, [some 8]), (8, [])], [(1, [none, none, none, some 4, some 5, some 6, some 7, none]), (3, [some 8])], @spec_PackageInts.h19 k⟩) (by kernel_rfl) rfl (fun K vs xs r h => spec_PackageInts.q19 k K vs xs r h) (LOK_cons (g := ⟨4, [(1, [none, none, none, some 4, some 5, some 6, some 7, none]), (3, [some 8]), (10, [])], [(3, [some 8])], @spec_PackageInts.h25 k⟩) (by kernel_rfl) rfl (fun K vs xs r h => spec_PackageInts.q25 k K vs xs r h) (LOK_nil)))))
def spec_PackageInts.sig : List PSh := [.agg [.sc, .sc, .sc, .ro 4, .ro 5, .ro 6, .ro 7, .sc]]
def spec_PackageInts.g (y : List Int) : Ret κ := ⟨.v (.sl 4), [], [.rows 8 true y]⟩
def spec_PackageInts.out (r : Ret κ) : Option (List Int) :=
  match r with
  | ⟨.v (.sl 4), [], [q0]⟩ => (asO 8 true q0).bind fun z0 => some (z0)
  | _ => none
theorem spec_PackageInts.out_ok (r : Ret κ) (y : List Int) (h : spec_PackageInts.out r = some y) : r = spec_PackageInts.g y := by
  unfold spec_PackageInts.out at h
  split at h
  · obtain ⟨_, rfl, h_1⟩ := asO_bind h
    obtain rfl := Option.some.inj h_1
    rfl
  · cases h
def spec_PackageInts.body (k : Nat) (vs : List AV) (bs : List (Blk κ)) : Option (Lf κ) :=
  match vs, bs with
  | [.agg [.int .i64 a0_0, .int .i64 a0_1, .int .i64 a0_2, .sl 0, .sl 1, .sl 2, .sl 3, .int .i64 a0_7]], [qb0, qb1, qb2, qb3] => (asO 4 false qb0).bind fun a0_3 => (asO 5 false qb1).bind fun a0_4 => (asO 6 false qb2).bind fun a0_5 => (asO 7 false qb3).bind fun a0_6 => some ⟨List Int, spec_PackageInts.f k a0_0 a0_1 a0_2 a0_3 a0_4 a0_5 a0_6 a0_7, spec_PackageInts.g⟩
  | _, _ => none
def spec_PackageInts.C (k : Nat) : Nat → List AV → AP κ AV := contract spec_PackageInts.sig (spec_PackageInts.body k)
theorem spec_PackageInts.den (k : Nat) (a0_0 : Int) (a0_1 : Int) (a0_2 : Int) (a0_3 : List T_impl_Grant) (a0_4 : List T_impl_Flow) (a0_5 : List T_impl_Rule) (a0_6 : List T_impl_Op) (a0_7 : Int) : Code.den ti (spec_PackageInts.Γ k) (spec_PackageInts.LH k) (bodyOf Tryz.f157) (finK ti Tryz.f157.results.toList [(2, [some 8])] (flags spec_PackageInts.sig).length (rwI (flags spec_PackageInts.sig) 0) spec_PackageInts.out) ⟨envOf (([.agg [.int .i64 a0_0, .int .i64 a0_1, .int .i64 a0_2, .sl 0, .sl 1, .sl 2, .sl 3, .int .i64 a0_7]]).zipIdx.map fun q => (q.2, q.1)), hpOf [.rows 4 false a0_3, .rows 5 false a0_4, .rows 6 false a0_5, .rows 7 false a0_6], (flags spec_PackageInts.sig).length⟩ = spec_PackageInts.f k a0_0 a0_1 a0_2 a0_3 a0_4 a0_5 a0_6 a0_7 := by kernel_rfl
theorem spec_PackageInts.ok (k : Nat) : CSound Tryz.prog 157 (spec_PackageInts.C k) :=
  csound κ_ok mixed tok (spec_PackageInts.hΓ k) (LH := spec_PackageInts.LH k) (fn := Tryz.f157) (c := bodyOf Tryz.f157) Tryz.func157 rfl Tryz.call157 spec_PackageInts.sig [(2, [some 8])] (spec_PackageInts.body k) (by kernel_rfl) (spec_PackageInts.lok k) (by decide) fun vs bs lf y hl hb hy => by
    unfold spec_PackageInts.body at hb
    split at hb
    · obtain ⟨_, rfl, hb_1⟩ := asO_bind hb
      obtain ⟨_, rfl, hb_2⟩ := asO_bind hb_1
      obtain ⟨_, rfl, hb_3⟩ := asO_bind hb_2
      obtain ⟨_, rfl, hb_4⟩ := asO_bind hb_3
      obtain rfl := Option.some.inj hb_4
      exact ⟨spec_PackageInts.out, spec_PackageInts.out_ok, (spec_PackageInts.den k _ _ _ _ _ _ _ _).trans hy⟩
    · cases hb
end Go.Proofs.YtoenilndklbceaaGreat.PFnExactUpdatePackage
