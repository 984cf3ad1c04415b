/- What the functions that the law FnExactUpdatePackage reaches come to; no conditions. -/
import Derived.Test.YtoenilndklbceaaGreatPFnExactUpdatePackage4
set_option linter.unusedVariables false
set_option maxRecDepth 100000
namespace Go.Proofs.YtoenilndklbceaaGreat.PFnExactUpdatePackage
open Go Go.Eng Go.Proofs
/-! ### spec_FlowsWithin -/
def spec_FlowsWithin.L2 {R : Type} (k : Nat) (xl0 : List T_impl_Flow) (xl1 : List T_impl_Flow) (X0 : Bool → Option R) (X1 : Unit → Option R) (rec : Int → Option R) (x2 : Int) : Option R :=
  (bif decide (x2 < (xl0.length : Int)) then (bif decide (0 ≤ x2) then (bif decide (x2 < (xl0.length : Int)) then (spec_IsFlow.f k ((rd_impl_Flow xl0 x2).f0) ((rd_impl_Flow xl0 x2).f1) ((rd_impl_Flow xl0 x2).f2)).bind fun t1 => (bif !t1 then (X0 false) else (bif decide (0 ≤ x2) then (bif decide (x2 < (xl0.length : Int)) then (spec_l20Has.f k xl1 ((rd_impl_Flow xl0 x2).f0) ((rd_impl_Flow xl0 x2).f1) ((rd_impl_Flow xl0 x2).f2)).bind fun t2 => (bif !t2 then (X0 false) else (rec (w64 (x2 + (1 : Int))))) else none) else none)) else none) else none) else (X1 ()))
def spec_FlowsWithin.l2 {R : Type} (k : Nat) (xl0 : List T_impl_Flow) (xl1 : List T_impl_Flow) (X0 : Bool → Option R) (X1 : Unit → Option R) : Nat → Int → Option R
  | 0 => fun _ => none
  | n + 1 => spec_FlowsWithin.L2 k xl0 xl1 X0 X1 (spec_FlowsWithin.l2 k xl0 xl1 X0 X1 n)
def spec_FlowsWithin.f (k : Nat) (a0 : List T_impl_Flow) (a1 : List T_impl_Flow) : Option Bool :=
  (spec_FlowsWithin.l2 k a0 a1 (fun (y3 : Bool) => some y3) (fun (_ : Unit) => some true) k (0 : Int))
def spec_FlowsWithin.h2 (k : Nat) {R : Type} (K : Ex → St κ → Option R) (vs : List AV) (bs : List (Blk κ)) : Option R :=
  match vs, bs with
  | [.v (.sl 0), .v (.sl 1), .v (.int .i64 x2)], [qb0, qb1] => (asO 5 false qb0).bind fun xl0 => (asO 5 false qb1).bind fun xl1 => spec_FlowsWithin.l2 k xl0 xl1 (fun (z0 : Bool) => K .ret (stOf [(4, [])] [.v (.bool z0)] [.rows 5 false xl0, .rows 5 false xl1])) (fun (_ : Unit) => K (.exit 0) (stOf [(4, [])] [.v .any] [.rows 5 false xl0, .rows 5 false xl1])) k x2
  | _, _ => none
def spec_FlowsWithin.Γ (k : Nat) : Ct κ := assoc [(104, spec_IsFlow.C k), (164, spec_l20Has.C k)]
def spec_FlowsWithin.LH (k : Nat) : Nat → Option (LHi κ) := assoc [(2, ⟨2, [(0, [some 5]), (1, [some 5]), (5, [])], [(4, [])], @spec_FlowsWithin.h2 k⟩)]
theorem spec_FlowsWithin.hΓ (k : Nat) : ∀ f g, spec_FlowsWithin.Γ k f = some g → CSound Tryz.prog f g := G_cons (spec_IsFlow.ok k) (G_cons (spec_l20Has.ok k) G_nil)
theorem spec_FlowsWithin.e2 {R : Type} (K : Ex → St κ → Option R) (k : Nat) (xl0 : List T_impl_Flow) (xl1 : List T_impl_Flow) : ∀ (n : Nat) (x2 : Int), loopN 2 (Code.den ti (spec_FlowsWithin.Γ k) (spec_FlowsWithin.LH k) (loopAt Tryz.f146 0)) [(0, [some 5]), (1, [some 5]), (5, [])] [(4, [])] K n [.v (.sl 0), .v (.sl 1), .v (.int .i64 x2)] [.rows 5 false xl0, .rows 5 false xl1] = spec_FlowsWithin.l2 k xl0 xl1 (fun (z0 : Bool) => K .ret (stOf [(4, [])] [.v (.bool z0)] [.rows 5 false xl0, .rows 5 false xl1])) (fun (_ : Unit) => K (.exit 0) (stOf [(4, [])] [.v .any] [.rows 5 false xl0, .rows 5 false xl1])) n x2
  | 0, _ => rfl
  | n + 1, x2 => (show loopN 2 (Code.den ti (spec_FlowsWithin.Γ k) (spec_FlowsWithin.LH k) (loopAt Tryz.f146 0)) [(0, [some 5]), (1, [some 5]), (5, [])] [(4, [])] K (n + 1) [.v (.sl 0), .v (.sl 1), .v (.int .i64 x2)] [.rows 5 false xl0, .rows 5 false xl1] = spec_FlowsWithin.L2 k xl0 xl1 (fun (z0 : Bool) => K .ret (stOf [(4, [])] [.v (.bool z0)] [.rows 5 false xl0, .rows 5 false xl1])) (fun (_ : Unit) => K (.exit 0) (stOf [(4, [])] [.v .any] [.rows 5 false xl0, .rows 5 false xl1])) (fun (x2' : Int) => loopN 2 (Code.den ti (spec_FlowsWithin.Γ k) (spec_FlowsWithin.LH k) (loopAt Tryz.f146 0)) [(0, [some 5]), (1, [some 5]), (5, [])] [(4, [])] K n [.v (.sl 0), .v (.sl 1), .v (.int .i64 x2')] [.rows 5 false xl0, .rows 5 false xl1]) x2 by kernel_rfl).trans (congrArg (fun rec => spec_FlowsWithin.L2 k xl0 xl1 (fun (z0 : Bool) => K .ret (stOf [(4, [])] [.v (.bool z0)] [.rows 5 false xl0, .rows 5 false xl1])) (fun (_ : Unit) => K (.exit 0) (stOf [(4, [])] [.v .any] [.rows 5 false xl0, .rows 5 false xl1])) rec x2) (funext fun x2' => spec_FlowsWithin.e2 K k xl0 xl1 n x2'))
theorem spec_FlowsWithin.q2 (k : Nat) {R : Type} (K : Ex → St κ → Option R) (vs : List AV) (bs : List (Blk κ)) (r : R) (h : spec_FlowsWithin.h2 k K vs bs = some r) : ∃ n, loopN 2 (Code.den ti (spec_FlowsWithin.Γ k) (spec_FlowsWithin.LH k) (loopAt Tryz.f146 0)) [(0, [some 5]), (1, [some 5]), (5, [])] [(4, [])] K n vs bs = some r := by
  unfold spec_FlowsWithin.h2 at h
  split at h
  · obtain ⟨_, rfl, h_1⟩ := asO_bind h
    obtain ⟨_, rfl, h_2⟩ := asO_bind h_1
    exact ⟨k, (spec_FlowsWithin.e2 K k _ _ k _).trans h_2⟩
  · cases h
theorem spec_FlowsWithin.lok (k : Nat) : LOK ti (spec_FlowsWithin.Γ k) (spec_FlowsWithin.LH k) 2 (loopsOf (bodyOf Tryz.f146)) :=
  (show loopsOf (bodyOf Tryz.f146) = [loopAt Tryz.f146 0] by kernel_rfl) ▸ (LOK_cons (g := ⟨2, [(0, [some 5]), (1, [some 5]), (5, [])], [(4, [])], @spec_FlowsWithin.h2 k⟩) (by kernel_rfl) rfl (fun K vs xs r h => spec_FlowsWithin.q2 k K vs xs r h) (LOK_nil))
def spec_FlowsWithin.sig : List PSh := [.one (.ro 5), .one (.ro 5)]
def spec_FlowsWithin.g (y : Bool) : Ret κ := ⟨.v (.bool y), [], []⟩
def spec_FlowsWithin.out (r : Ret κ) : Option Bool :=
  match r with
  | ⟨.v (.bool z0), [], []⟩ => some (z0)
  | _ => none
theorem spec_FlowsWithin.out_ok (r : Ret κ) (y : Bool) (h : spec_FlowsWithin.out r = some y) : r = spec_FlowsWithin.g y := by
  unfold spec_FlowsWithin.out at h
  split at h
  · obtain rfl := Option.some.inj h
    rfl
  · cases h
def spec_FlowsWithin.body (k : Nat) (vs : List AV) (bs : List (Blk κ)) : Option (Lf κ) :=
  match vs, bs with
  | [.v (.sl 0), .v (.sl 1)], [qb0, qb1] => (asO 5 false qb0).bind fun a0 => (asO 5 false qb1).bind fun a1 => some ⟨Bool, spec_FlowsWithin.f k a0 a1, spec_FlowsWithin.g⟩
  | _, _ => none
def spec_FlowsWithin.C (k : Nat) : Nat → List AV → AP κ AV := contract spec_FlowsWithin.sig (spec_FlowsWithin.body k)
theorem spec_FlowsWithin.den (k : Nat) (a0 : List T_impl_Flow) (a1 : List T_impl_Flow) : Code.den ti (spec_FlowsWithin.Γ k) (spec_FlowsWithin.LH k) (bodyOf Tryz.f146) (finK ti Tryz.f146.results.toList [] (flags spec_FlowsWithin.sig).length (rwI (flags spec_FlowsWithin.sig) 0) spec_FlowsWithin.out) ⟨envOf (([.v (.sl 0), .v (.sl 1)]).zipIdx.map fun q => (q.2, q.1)), hpOf [.rows 5 false a0, .rows 5 false a1], (flags spec_FlowsWithin.sig).length⟩ = spec_FlowsWithin.f k a0 a1 := by kernel_rfl
theorem spec_FlowsWithin.ok (k : Nat) : CSound Tryz.prog 146 (spec_FlowsWithin.C k) :=
  csound κ_ok mixed tok (spec_FlowsWithin.hΓ k) (LH := spec_FlowsWithin.LH k) (fn := Tryz.f146) (c := bodyOf Tryz.f146) Tryz.func146 rfl Tryz.call146 spec_FlowsWithin.sig [] (spec_FlowsWithin.body k) (by kernel_rfl) (spec_FlowsWithin.lok k) (by decide) fun vs bs lf y hl hb hy => by
    unfold spec_FlowsWithin.body at hb
    split at hb
    · obtain ⟨_, rfl, hb_1⟩ := asO_bind hb
      obtain ⟨_, rfl, hb_2⟩ := asO_bind hb_1
      obtain rfl := Option.some.inj hb_2
      exact ⟨spec_FlowsWithin.out, spec_FlowsWithin.out_ok, (spec_FlowsWithin.den k _ _).trans hy⟩
    · cases hb
/-! ### spec_IsTightFor -/
def spec_IsTightFor.f (k : Nat) (a0 : List T_impl_Op) (a1 : List T_impl_Flow) (a2 : Int) : Option Bool :=
  (spec_AreOps.f k a0).bind fun t1 => (bif t1 then (spec_NeedsFlows.f k a0 a2).bind fun t2 => (spec_FlowsWithin.f k t2 a1).bind fun t3 => some t3 else some false)
def spec_IsTightFor.Γ (k : Nat) : Ct κ := assoc [(102, spec_AreOps.C k), (127, spec_NeedsFlows.C k), (146, spec_FlowsWithin.C k)]
def spec_IsTightFor.LH (k : Nat) : Nat → Option (LHi κ) := assoc []
theorem spec_IsTightFor.hΓ (k : Nat) : ∀ f g, spec_IsTightFor.Γ k f = some g → CSound Tryz.prog f g := G_cons (spec_AreOps.ok k) (G_cons (spec_NeedsFlows.ok k) (G_cons (spec_FlowsWithin.ok k) G_nil))
theorem spec_IsTightFor.lok (k : Nat) : LOK ti (spec_IsTightFor.Γ k) (spec_IsTightFor.LH k) 2 (loopsOf (bodyOf Tryz.f99)) :=
  (show loopsOf (bodyOf Tryz.f99) = [] by kernel_rfl) ▸ LOK_nil
def spec_IsTightFor.sig : List PSh := [.one (.ro 7), .one (.ro 5), .one .sc]
def spec_IsTightFor.g (y : Bool) : Ret κ := ⟨.v (.bool y), [], []⟩
def spec_IsTightFor.out (r : Ret κ) : Option Bool :=
  match r with
  | ⟨.v (.bool z0), [], []⟩ => some (z0)
  | _ => none
theorem spec_IsTightFor.out_ok (r : Ret κ) (y : Bool) (h : spec_IsTightFor.out r = some y) : r = spec_IsTightFor.g y := by
  unfold spec_IsTightFor.out at h
  split at h
  · obtain rfl := Option.some.inj h
    rfl
  · cases h
def spec_IsTightFor.body (k : Nat) (vs : List AV) (bs : List (Blk κ)) : Option (Lf κ) :=
  match vs, bs with
  | [.v (.sl 0), .v (.sl 1), .v (.int .i64 a2)], [qb0, qb1] => (asO 7 false qb0).bind fun a0 => (asO 5 false qb1).bind fun a1 => some ⟨Bool, spec_IsTightFor.f k a0 a1 a2, spec_IsTightFor.g⟩
  | _, _ => none
def spec_IsTightFor.C (k : Nat) : Nat → List AV → AP κ AV := contract spec_IsTightFor.sig (spec_IsTightFor.body k)
theorem spec_IsTightFor.den (k : Nat) (a0 : List T_impl_Op) (a1 : List T_impl_Flow) (a2 : Int) : Code.den ti (spec_IsTightFor.Γ k) (spec_IsTightFor.LH k) (bodyOf Tryz.f99) (finK ti Tryz.f99.results.toList [] (flags spec_IsTightFor.sig).length (rwI (flags spec_IsTightFor.sig) 0) spec_IsTightFor.out) ⟨envOf (([.v (.sl 0), .v (.sl 1), .v (.int .i64 a2)]).zipIdx.map fun q => (q.2, q.1)), hpOf [.rows 7 false a0, .rows 5 false a1], (flags spec_IsTightFor.sig).length⟩ = spec_IsTightFor.f k a0 a1 a2 := by kernel_rfl
theorem spec_IsTightFor.ok (k : Nat) : CSound Tryz.prog 99 (spec_IsTightFor.C k) :=
  csound κ_ok mixed tok (spec_IsTightFor.hΓ k) (LH := spec_IsTightFor.LH k) (fn := Tryz.f99) (c := bodyOf Tryz.f99) Tryz.func99 rfl Tryz.call99 spec_IsTightFor.sig [] (spec_IsTightFor.body k) (by kernel_rfl) (spec_IsTightFor.lok k) (by decide) fun vs bs lf y hl hb hy => by
    unfold spec_IsTightFor.body at hb
    split at hb
    · obtain ⟨_, rfl, hb_1⟩ := asO_bind hb
      obtain ⟨_, rfl, hb_2⟩ := asO_bind hb_1
      obtain rfl := Option.some.inj hb_2
      exact ⟨spec_IsTightFor.out, spec_IsTightFor.out_ok, (spec_IsTightFor.den k _ _ _).trans hy⟩
    · cases hb
/-! ### spec_ReviewPackage -/
def spec_ReviewPackage.f (k : Nat) (a0 : Int) (a1_0 : Int) (a1_1 : Int) (a1_2 : Int) (a1_3 : List T_impl_Grant) (a1_4 : List T_impl_Flow) (a1_5 : List T_impl_Rule) (a1_6 : List T_impl_Op) (a1_7 : Int) : Option Int :=
  (spec_IsPackage.f k a1_0 a1_1 a1_2 a1_3 a1_4 a1_5 a1_6 a1_7).bind fun t1 => (bif !t1 then some (1 : Int) else (spec_IsSealed.f k a0 a1_0 a1_1 a1_2 a1_3 a1_4 a1_5 a1_6 a1_7).bind fun t2 => (bif !t2 then some (2 : Int) else (spec_l27Rules.f k a1_0 a1_1 a1_2 a1_3 a1_4 a1_5 a1_6 a1_7).bind fun t3 => (bif !t3 then some (3 : Int) else (spec_OwnersRead.f k a1_6).bind fun t4 => (spec_l27All.f k a1_3 (1 : Int) t4).bind fun t5 => (bif !t5 then some (4 : Int) else (spec_OwnersSent.f k a1_6).bind fun t6 => (spec_l27All.f k a1_3 (3 : Int) t6).bind fun t7 => (bif !t7 then some (5 : Int) else (spec_IsTightFor.f k a1_6 a1_4 a1_0).bind fun t8 => (bif !t8 then some (6 : Int) else some (0 : Int)))))))
def spec_ReviewPackage.Γ (k : Nat) : Ct κ := assoc [(47, spec_IsPackage.C k), (94, spec_IsSealed.C k), (95, spec_l27Rules.C k), (97, spec_OwnersRead.C k), (96, spec_l27All.C k), (98, spec_OwnersSent.C k), (99, spec_IsTightFor.C k)]
def spec_ReviewPackage.LH (k : Nat) : Nat → Option (LHi κ) := assoc []
theorem spec_ReviewPackage.hΓ (k : Nat) : ∀ f g, spec_ReviewPackage.Γ k f = some g → CSound Tryz.prog f g := G_cons (spec_IsPackage.ok k) (G_cons (spec_IsSealed.ok k) (G_cons (spec_l27Rules.ok k) (G_cons (spec_OwnersRead.ok k) (G_cons (spec_l27All.ok k) (G_cons (spec_OwnersSent.ok k) (G_cons (spec_IsTightFor.ok k) G_nil))))))
theorem spec_ReviewPackage.lok (k : Nat) : LOK ti (spec_ReviewPackage.Γ k) (spec_ReviewPackage.LH k) 4 (loopsOf (bodyOf Tryz.f40)) :=
  (show loopsOf (bodyOf Tryz.f40) = [] by kernel_rfl) ▸ LOK_nil
def spec_ReviewPackage.sig : List PSh := [.one .sc, .agg [.sc, .sc, .sc, .ro 4, .ro 5, .ro 6, .ro 7, .sc]]
def spec_ReviewPackage.g (y : Int) : Ret κ := ⟨.v (.int .i64 y), [], []⟩
def spec_ReviewPackage.out (r : Ret κ) : Option Int :=
  match r with
  | ⟨.v (.int .i64 z0), [], []⟩ => some (z0)
  | _ => none
theorem spec_ReviewPackage.out_ok (r : Ret κ) (y : Int) (h : spec_ReviewPackage.out r = some y) : r = spec_ReviewPackage.g y := by
  unfold spec_ReviewPackage.out at h
  split at h
  · obtain rfl := Option.some.inj h
    rfl
  · cases h
def spec_ReviewPackage.body (k : Nat) (vs : List AV) (bs : List (Blk κ)) : Option (Lf κ) :=
  match vs, bs with
  | [.v (.int .i64 a0), .agg [.int .i64 a1_0, .int .i64 a1_1, .int .i64 a1_2, .sl 0, .sl 1, .sl 2, .sl 3, .int .i64 a1_7]], [qb0, qb1, qb2, qb3] => (asO 4 false qb0).bind fun a1_3 => (asO 5 false qb1).bind fun a1_4 => (asO 6 false qb2).bind fun a1_5 => (asO 7 false qb3).bind fun a1_6 => some ⟨Int, spec_ReviewPackage.f k a0 a1_0 a1_1 a1_2 a1_3 a1_4 a1_5 a1_6 a1_7, spec_ReviewPackage.g⟩
  | _, _ => none
def spec_ReviewPackage.C (k : Nat) : Nat → List AV → AP κ AV := contract spec_ReviewPackage.sig (spec_ReviewPackage.body k)
theorem spec_ReviewPackage.den (k : Nat) (a0 : Int) (a1_0 : Int) (a1_1 : Int) (a1_2 : Int) (a1_3 : List T_impl_Grant) (a1_4 : List T_impl_Flow) (a1_5 : List T_impl_Rule) (a1_6 : List T_impl_Op) (a1_7 : Int) : Code.den ti (spec_ReviewPackage.Γ k) (spec_ReviewPackage.LH k) (bodyOf Tryz.f40) (finK ti Tryz.f40.results.toList [] (flags spec_ReviewPackage.sig).length (rwI (flags spec_ReviewPackage.sig) 0) spec_ReviewPackage.out) ⟨envOf (([.v (.int .i64 a0), .agg [.int .i64 a1_0, .int .i64 a1_1, .int .i64 a1_2, .sl 0, .sl 1, .sl 2, .sl 3, .int .i64 a1_7]]).zipIdx.map fun q => (q.2, q.1)), hpOf [.rows 4 false a1_3, .rows 5 false a1_4, .rows 6 false a1_5, .rows 7 false a1_6], (flags spec_ReviewPackage.sig).length⟩ = spec_ReviewPackage.f k a0 a1_0 a1_1 a1_2 a1_3 a1_4 a1_5 a1_6 a1_7 := by kernel_rfl
theorem spec_ReviewPackage.ok (k : Nat) : CSound Tryz.prog 40 (spec_ReviewPackage.C k) :=
  csound κ_ok mixed tok (spec_ReviewPackage.hΓ k) (LH := spec_ReviewPackage.LH k) (fn := Tryz.f40) (c := bodyOf Tryz.f40) Tryz.func40 rfl Tryz.call40 spec_ReviewPackage.sig [] (spec_ReviewPackage.body k) (by kernel_rfl) (spec_ReviewPackage.lok k) (by decide) fun vs bs lf y hl hb hy => by
    unfold spec_ReviewPackage.body at hb
    split at hb
    · obtain ⟨_, rfl, hb_1⟩ := asO_bind hb
      obtain ⟨_, rfl, hb_2⟩ := asO_bind hb_1
      obtain ⟨_, rfl, hb_3⟩ := asO_bind hb_2
      obtain ⟨_, rfl, hb_4⟩ := asO_bind hb_3
      obtain rfl := Option.some.inj hb_4
      exact ⟨spec_ReviewPackage.out, spec_ReviewPackage.out_ok, (spec_ReviewPackage.den k _ _ _ _ _ _ _ _ _).trans hy⟩
    · cases hb
/-! ### spec_l11Within -/
def spec_l11Within.f (k : Nat) (a0_0 : Int) (a0_1 : Int) (a0_2 : Int) (a0_3 : Int) (a0_4 : Int) (a0_5 : Int) (a0_6 : Bool) (a1_0 : Int) (a1_1 : Int) (a1_2 : Int) (a1_3 : Int) (a1_4 : Int) (a1_5 : Int) (a1_6 : Bool) : Option Bool :=
  (spec_IsGrant.f k a0_0 a0_1 a0_2 a0_3 a0_4 a0_5 a0_6).bind fun t1 => (bif t1 then (spec_IsGrant.f k a1_0 a1_1 a1_2 a1_3 a1_4 a1_5 a1_6).bind fun t2 => (bif t2 then (bif (a0_0 == a1_0) then (bif (a0_3 == a1_3) then (spec_IsNarrower.f k a0_1 a0_2 a1_1 a1_2).bind fun t3 => (bif t3 then (bif decide (a1_4 ≤ a0_4) then (bif decide (a1_5 ≥ a0_5) then (bif a0_6 then some true else some (!a1_6)) else some false) else some false) else some false) else some false) else some false) else some false) else some false)
def spec_l11Within.Γ (k : Nat) : Ct κ := assoc [(103, spec_IsGrant.C k), (143, spec_IsNarrower.C k)]
def spec_l11Within.LH (k : Nat) : Nat → Option (LHi κ) := assoc []
theorem spec_l11Within.hΓ (k : Nat) : ∀ f g, spec_l11Within.Γ k f = some g → CSound Tryz.prog f g := G_cons (spec_IsGrant.ok k) (G_cons (spec_IsNarrower.ok k) G_nil)
theorem spec_l11Within.lok (k : Nat) : LOK ti (spec_l11Within.Γ k) (spec_l11Within.LH k) 0 (loopsOf (bodyOf Tryz.f173)) :=
  (show loopsOf (bodyOf Tryz.f173) = [] by kernel_rfl) ▸ LOK_nil
def spec_l11Within.sig : List PSh := [.agg [.sc, .sc, .sc, .sc, .sc, .sc, .sc], .agg [.sc, .sc, .sc, .sc, .sc, .sc, .sc]]
def spec_l11Within.g (y : Bool) : Ret κ := ⟨.v (.bool y), [], []⟩
def spec_l11Within.out (r : Ret κ) : Option Bool :=
  match r with
  | ⟨.v (.bool z0), [], []⟩ => some (z0)
  | _ => none
theorem spec_l11Within.out_ok (r : Ret κ) (y : Bool) (h : spec_l11Within.out r = some y) : r = spec_l11Within.g y := by
  unfold spec_l11Within.out at h
  split at h
  · obtain rfl := Option.some.inj h
    rfl
  · cases h
def spec_l11Within.body (k : Nat) (vs : List AV) (bs : List (Blk κ)) : Option (Lf κ) :=
  match vs, bs with
  | [.agg [.int .i64 a0_0, .int .i64 a0_1, .int .i64 a0_2, .int .i64 a0_3, .int .i64 a0_4, .int .i64 a0_5, .bool a0_6], .agg [.int .i64 a1_0, .int .i64 a1_1, .int .i64 a1_2, .int .i64 a1_3, .int .i64 a1_4, .int .i64 a1_5, .bool a1_6]], [] => some ⟨Bool, spec_l11Within.f k a0_0 a0_1 a0_2 a0_3 a0_4 a0_5 a0_6 a1_0 a1_1 a1_2 a1_3 a1_4 a1_5 a1_6, spec_l11Within.g⟩
  | _, _ => none
def spec_l11Within.C (k : Nat) : Nat → List AV → AP κ AV := contract spec_l11Within.sig (spec_l11Within.body k)
theorem spec_l11Within.den (k : Nat) (a0_0 : Int) (a0_1 : Int) (a0_2 : Int) (a0_3 : Int) (a0_4 : Int) (a0_5 : Int) (a0_6 : Bool) (a1_0 : Int) (a1_1 : Int) (a1_2 : Int) (a1_3 : Int) (a1_4 : Int) (a1_5 : Int) (a1_6 : Bool) : Code.den ti (spec_l11Within.Γ k) (spec_l11Within.LH k) (bodyOf Tryz.f173) (finK ti Tryz.f173.results.toList [] (flags spec_l11Within.sig).length (rwI (flags spec_l11Within.sig) 0) spec_l11Within.out) ⟨envOf (([.agg [.int .i64 a0_0, .int .i64 a0_1, .int .i64 a0_2, .int .i64 a0_3, .int .i64 a0_4, .int .i64 a0_5, .bool a0_6], .agg [.int .i64 a1_0, .int .i64 a1_1, .int .i64 a1_2, .int .i64 a1_3, .int .i64 a1_4, .int .i64 a1_5, .bool a1_6]]).zipIdx.map fun q => (q.2, q.1)), hpOf [], (flags spec_l11Within.sig).length⟩ = spec_l11Within.f k a0_0 a0_1 a0_2 a0_3 a0_4 a0_5 a0_6 a1_0 a1_1 a1_2 a1_3 a1_4 a1_5 a1_6 := by kernel_rfl
theorem spec_l11Within.ok (k : Nat) : CSound Tryz.prog 173 (spec_l11Within.C k) :=
  csound κ_ok mixed tok (spec_l11Within.hΓ k) (LH := spec_l11Within.LH k) (fn := Tryz.f173) (c := bodyOf Tryz.f173) Tryz.func173 rfl Tryz.call173 spec_l11Within.sig [] (spec_l11Within.body k) (by kernel_rfl) (spec_l11Within.lok k) (by decide) fun vs bs lf y hl hb hy => by
    unfold spec_l11Within.body at hb
    split at hb
    · obtain rfl := Option.some.inj hb
      exact ⟨spec_l11Within.out, spec_l11Within.out_ok, (spec_l11Within.den k _ _ _ _ _ _ _ _ _ _ _ _ _ _).trans hy⟩
    · cases hb
/-! ### spec_IsWithinGrants -/
def spec_IsWithinGrants.L6 {R : Type} (k : Nat) (x2 : Int) (xl0 : List T_impl_Grant) (xl1 : List T_impl_Grant) (X0 : Bool → Option R) (rec : Bool → Int → Option R) (x3 : Bool) (x4 : Int) : Option R :=
  (bif decide (x4 < (xl1.length : Int)) then (bif x3 then (rec true (w64 (x4 + (1 : Int)))) else (bif decide (0 ≤ x2) then (bif decide (x2 < (xl0.length : Int)) then (bif decide (0 ≤ x4) then (bif decide (x4 < (xl1.length : Int)) then (spec_l11Within.f k ((rd_impl_Grant xl0 x2).f0) ((rd_impl_Grant xl0 x2).f1.f0) ((rd_impl_Grant xl0 x2).f1.f1) ((rd_impl_Grant xl0 x2).f2) ((rd_impl_Grant xl0 x2).f3) ((rd_impl_Grant xl0 x2).f4) ((rd_impl_Grant xl0 x2).f5) ((rd_impl_Grant xl1 x4).f0) ((rd_impl_Grant xl1 x4).f1.f0) ((rd_impl_Grant xl1 x4).f1.f1) ((rd_impl_Grant xl1 x4).f2) ((rd_impl_Grant xl1 x4).f3) ((rd_impl_Grant xl1 x4).f4) ((rd_impl_Grant xl1 x4).f5)).bind fun t1 => (rec t1 (w64 (x4 + (1 : Int)))) else none) else none) else none) else none)) else (X0 x3))
def spec_IsWithinGrants.l6 {R : Type} (k : Nat) (x2 : Int) (xl0 : List T_impl_Grant) (xl1 : List T_impl_Grant) (X0 : Bool → Option R) : Nat → Bool → Int → Option R
  | 0 => fun _ _ => none
  | n + 1 => spec_IsWithinGrants.L6 k x2 xl0 xl1 X0 (spec_IsWithinGrants.l6 k x2 xl0 xl1 X0 n)
def spec_IsWithinGrants.L2 {R : Type} (k : Nat) (xl0 : List T_impl_Grant) (xl1 : List T_impl_Grant) (X0 : Bool → Option R) (X1 : Unit → Option R) (rec : Int → Option R) (x2 : Int) : Option R :=
  (bif decide (x2 < (xl0.length : Int)) then (spec_IsWithinGrants.l6 k x2 xl0 xl1 (fun (y1 : Bool) => (bif !y1 then (X0 false) else (rec (w64 (x2 + (1 : Int)))))) k false (0 : Int)) else (X1 ()))
def spec_IsWithinGrants.l2 {R : Type} (k : Nat) (xl0 : List T_impl_Grant) (xl1 : List T_impl_Grant) (X0 : Bool → Option R) (X1 : Unit → Option R) : Nat → Int → Option R
  | 0 => fun _ => none
  | n + 1 => spec_IsWithinGrants.L2 k xl0 xl1 X0 X1 (spec_IsWithinGrants.l2 k xl0 xl1 X0 X1 n)
def spec_IsWithinGrants.f (k : Nat) (a0 : List T_impl_Grant) (a1 : List T_impl_Grant) : Option Bool :=
  (spec_IsWithinGrants.l2 k a0 a1 (fun (y2 : Bool) => some y2) (fun (_ : Unit) => some true) k (0 : Int))
def spec_IsWithinGrants.h6 (k : Nat) {R : Type} (K : Ex → St κ → Option R) (vs : List AV) (bs : List (Blk κ)) : Option R :=
  match vs, bs with
  | [.v (.sl 0), .v (.sl 1), .v (.int .i64 x2), .v (.bool x3), .v (.int .i64 x4)], [qb0, qb1] => (asO 4 false qb0).bind fun xl0 => (asO 4 false qb1).bind fun xl1 => spec_IsWithinGrants.l6 k x2 xl0 xl1 (fun (z3 : Bool) => K (.exit 2) (stOf [(0, [some 4]), (1, [some 4]), (5, []), (6, [])] [.v (.sl 0), .v (.sl 1), .v (.int .i64 x2), .v (.bool z3)] [.rows 4 false xl0, .rows 4 false xl1])) k x3 x4
  | _, _ => none
def spec_IsWithinGrants.h2 (k : Nat) {R : Type} (K : Ex → St κ → Option R) (vs : List AV) (bs : List (Blk κ)) : Option R :=
  match vs, bs with
  | [.v (.sl 0), .v (.sl 1), .v (.int .i64 x2)], [qb0, qb1] => (asO 4 false qb0).bind fun xl0 => (asO 4 false qb1).bind fun xl1 => spec_IsWithinGrants.l2 k xl0 xl1 (fun (z0 : Bool) => K .ret (stOf [(4, [])] [.v (.bool z0)] [.rows 4 false xl0, .rows 4 false xl1])) (fun (_ : Unit) => K (.exit 0) (stOf [(4, [])] [.v .any] [.rows 4 false xl0, .rows 4 false xl1])) k x2
  | _, _ => none
def spec_IsWithinGrants.Γ (k : Nat) : Ct κ := assoc [(173, spec_l11Within.C k)]
def spec_IsWithinGrants.LH (k : Nat) : Nat → Option (LHi κ) := assoc [(6, ⟨2, [(0, [some 4]), (1, [some 4]), (5, []), (6, []), (7, [])], [(0, [some 4]), (1, [some 4]), (5, []), (6, [])], @spec_IsWithinGrants.h6 k⟩), (2, ⟨2, [(0, [some 4]), (1, [some 4]), (5, [])], [(4, [])], @spec_IsWithinGrants.h2 k⟩)]
theorem spec_IsWithinGrants.hΓ (k : Nat) : ∀ f g, spec_IsWithinGrants.Γ k f = some g → CSound Tryz.prog f g := G_cons (spec_l11Within.ok k) G_nil
theorem spec_IsWithinGrants.e6 {R : Type} (K : Ex → St κ → Option R) (k : Nat) (x2 : Int) (xl0 : List T_impl_Grant) (xl1 : List T_impl_Grant) : ∀ (n : Nat) (x3 : Bool) (x4 : Int), loopN 2 (Code.den ti (spec_IsWithinGrants.Γ k) (spec_IsWithinGrants.LH k) (loopAt Tryz.f147 1)) [(0, [some 4]), (1, [some 4]), (5, []), (6, []), (7, [])] [(0, [some 4]), (1, [some 4]), (5, []), (6, [])] K n [.v (.sl 0), .v (.sl 1), .v (.int .i64 x2), .v (.bool x3), .v (.int .i64 x4)] [.rows 4 false xl0, .rows 4 false xl1] = spec_IsWithinGrants.l6 k x2 xl0 xl1 (fun (z3 : Bool) => K (.exit 2) (stOf [(0, [some 4]), (1, [some 4]), (5, []), (6, [])] [.v (.sl 0), .v (.sl 1), .v (.int .i64 x2), .v (.bool z3)] [.rows 4 false xl0, .rows 4 false xl1])) n x3 x4
  | 0, _, _ => rfl
  | n + 1, x3, x4 => (show loopN 2 (Code.den ti (spec_IsWithinGrants.Γ k) (spec_IsWithinGrants.LH k) (loopAt Tryz.f147 1)) [(0, [some 4]), (1, [some 4]), (5, []), (6, []), (7, [])] [(0, [some 4]), (1, [some 4]), (5, []), (6, [])] K (n + 1) [.v (.sl 0), .v (.sl 1), .v (.int .i64 x2), .v (.bool x3), .v (.int .i64 x4)] [.rows 4 false xl0, .rows 4 false xl1] = spec_IsWithinGrants.L6 k x2 xl0 xl1 (fun (z3 : Bool) => K (.exit 2) (stOf [(0, [some 4]), (1, [some 4]), (5, []), (6, [])] [.v (.sl 0), .v (.sl 1), .v (.int .i64 x2), .v (.bool z3)] [.rows 4 false xl0, .rows 4 false xl1])) (fun (x3' : Bool) (x4' : Int) => loopN 2 (Code.den ti (spec_IsWithinGrants.Γ k) (spec_IsWithinGrants.LH k) (loopAt Tryz.f147 1)) [(0, [some 4]), (1, [some 4]), (5, []), (6, []), (7, [])] [(0, [some 4]), (1, [some 4]), (5, []), (6, [])] K n [.v (.sl 0), .v (.sl 1), .v (.int .i64 x2), .v (.bool x3'), .v (.int .i64 x4')] [.rows 4 false xl0, .rows 4 false xl1]) x3 x4 by kernel_rfl).trans (congrArg (fun rec => spec_IsWithinGrants.L6 k x2 xl0 xl1 (fun (z3 : Bool) => K (.exit 2) (stOf [(0, [some 4]), (1, [some 4]), (5, []), (6, [])] [.v (.sl 0), .v (.sl 1), .v (.int .i64 x2), .v (.bool z3)] [.rows 4 false xl0, .rows 4 false xl1])) rec x3 x4) (funext fun x3' => funext fun x4' => spec_IsWithinGrants.e6 K k x2 xl0 xl1 n x3' x4'))
theorem spec_IsWithinGrants.q6 (k : Nat) {R : Type} (K : Ex → St κ → Option R) (vs : List AV) (bs : List (Blk κ)) (r : R) (h : spec_IsWithinGrants.h6 k K vs bs = some r) : ∃ n, loopN 2 (Code.den ti (spec_IsWithinGrants.Γ k) (spec_IsWithinGrants.LH k) (loopAt Tryz.f147 1)) [(0, [some 4]), (1, [some 4]), (5, []), (6, []), (7, [])] [(0, [some 4]), (1, [some 4]), (5, []), (6, [])] K n vs bs = some r := by
  unfold spec_IsWithinGrants.h6 at h
  split at h
  · obtain ⟨_, rfl, h_1⟩ := asO_bind h
    obtain ⟨_, rfl, h_2⟩ := asO_bind h_1
    exact ⟨k, (spec_IsWithinGrants.e6 K k _ _ _ k _ _).trans h_2⟩
  · cases h
theorem spec_IsWithinGrants.e2 {R : Type} (K : Ex → St κ → Option R) (k : Nat) (xl0 : List T_impl_Grant) (xl1 : List T_impl_Grant) : ∀ (n : Nat) (x2 : Int), loopN 2 (Code.den ti (spec_IsWithinGrants.Γ k) (spec_IsWithinGrants.LH k) (loopAt Tryz.f147 0)) [(0, [some 4]), (1, [some 4]), (5, [])] [(4, [])] K n [.v (.sl 0), .v (.sl 1), .v (.int .i64 x2)] [.rows 4 false xl0, .rows 4 false xl1] = spec_IsWithinGrants.l2 k xl0 xl1 (fun (z0 : Bool) => K .ret (stOf [(4, [])] [.v (.bool z0)] [.rows 4 false xl0, .rows 4 false xl1])) (fun (_ : Unit) => K (.exit 0) (stOf [(4, [])] [.v .any] [.rows 4 false xl0, .rows 4 false xl1])) n x2
  | 0, _ => rfl
  | n + 1, x2 => (show loopN 2 (Code.den ti (spec_IsWithinGrants.Γ k) (spec_IsWithinGrants.LH k) (loopAt Tryz.f147 0)) [(0, [some 4]), (1, [some 4]), (5, [])] [(4, [])] K (n + 1) [.v (.sl 0), .v (.sl 1), .v (.int .i64 x2)] [.rows 4 false xl0, .rows 4 false xl1] = spec_IsWithinGrants.L2 k xl0 xl1 (fun (z0 : Bool) => K .ret (stOf [(4, [])] [.v (.bool z0)] [.rows 4 false xl0, .rows 4 false xl1])) (fun (_ : Unit) => K (.exit 0) (stOf [(4, [])] [.v .any] [.rows 4 false xl0, .rows 4 false xl1])) (fun (x2' : Int) => loopN 2 (Code.den ti (spec_IsWithinGrants.Γ k) (spec_IsWithinGrants.LH k) (loopAt Tryz.f147 0)) [(0, [some 4]), (1, [some 4]), (5, [])] [(4, [])] K n [.v (.sl 0), .v (.sl 1), .v (.int .i64 x2')] [.rows 4 false xl0, .rows 4 false xl1]) x2 by kernel_rfl).trans (congrArg (fun rec => spec_IsWithinGrants.L2 k xl0 xl1 (fun (z0 : Bool) => K .ret (stOf [(4, [])] [.v (.bool z0)] [.rows 4 false xl0, .rows 4 false xl1])) (fun (_ : Unit) => K (.exit 0) (stOf [(4, [])] [.v .any] [.rows 4 false xl0, .rows 4 false xl1])) rec x2) (funext fun x2' => spec_IsWithinGrants.e2 K k xl0 xl1 n x2'))
theorem spec_IsWithinGrants.q2 (k : Nat) {R : Type} (K : Ex → St κ → Option R) (vs : List AV) (bs : List (Blk κ)) (r : R) (h : spec_IsWithinGrants.h2 k K vs bs = some r) : ∃ n, loopN 2 (Code.den ti (spec_IsWithinGrants.Γ k) (spec_IsWithinGrants.LH k) (loopAt Tryz.f147 0)) [(0, [some 4]), (1, [some 4]), (5, [])] [(4, [])] K n vs bs = some r := by
  unfold spec_IsWithinGrants.h2 at h
  split at h
  · obtain ⟨_, rfl, h_1⟩ := asO_bind h
    obtain ⟨_, rfl, h_2⟩ := asO_bind h_1
    exact ⟨k, (spec_IsWithinGrants.e2 K k _ _ k _).trans h_2⟩
  · cases h
theorem spec_IsWithinGrants.lok (k : Nat) : LOK ti (spec_IsWithinGrants.Γ k) (spec_IsWithinGrants.LH k) 2 (loopsOf (bodyOf Tryz.f147)) :=
  (show loopsOf (bodyOf Tryz.f147) = [loopAt Tryz.f147 0, loopAt Tryz.f147 1] by kernel_rfl) ▸ (LOK_cons (g := ⟨2, [(0, [some 4]), (1, [some 4]), (5, [])], [(4, [])], @spec_IsWithinGrants.h2 k⟩) (by kernel_rfl) rfl (fun K vs xs r h => spec_IsWithinGrants.q2 k K vs xs r h) (LOK_cons (g := ⟨2, [(0, [some 4]), (1, [some 4]), (5, []), (6, []), (7, [])], [(0, [some 4]), (1, [some 4]), (5, []), (6, [])], @spec_IsWithinGrants.h6 k⟩) (by kernel_rfl) rfl (fun K vs xs r h => spec_IsWithinGrants.q6 k K vs xs r h) (LOK_nil)))
def spec_IsWithinGrants.sig : List PSh := [.one (.ro 4), .one (.ro 4)]
def spec_IsWithinGrants.g (y : Bool) : Ret κ := ⟨.v (.bool y), [], []⟩
def spec_IsWithinGrants.out (r : Ret κ) : Option Bool :=
  match r with
  | ⟨.v (.bool z0), [], []⟩ => some (z0)
  | _ => none
theorem spec_IsWithinGrants.out_ok (r : Ret κ) (y : Bool) (h : spec_IsWithinGrants.out r = some y) : r = spec_IsWithinGrants.g y := by
  unfold spec_IsWithinGrants.out at h
  split at h
  · obtain rfl := Option.some.inj h
    rfl
  · cases h
def spec_IsWithinGrants.body (k : Nat) (vs : List AV) (bs : List (Blk κ)) : Option (Lf κ) :=
  match vs, bs with
  | [.v (.sl 0), .v (.sl 1)], [qb0, qb1] => (asO 4 false qb0).bind fun a0 => (asO 4 false qb1).bind fun a1 => some ⟨Bool, spec_IsWithinGrants.f k a0 a1, spec_IsWithinGrants.g⟩
  | _, _ => none
def spec_IsWithinGrants.C (k : Nat) : Nat → List AV → AP κ AV := contract spec_IsWithinGrants.sig (spec_IsWithinGrants.body k)
theorem spec_IsWithinGrants.den (k : Nat) (a0 : List T_impl_Grant) (a1 : List T_impl_Grant) : Code.den ti (spec_IsWithinGrants.Γ k) (spec_IsWithinGrants.LH k) (bodyOf Tryz.f147) (finK ti Tryz.f147.results.toList [] (flags spec_IsWithinGrants.sig).length (rwI (flags spec_IsWithinGrants.sig) 0) spec_IsWithinGrants.out) ⟨envOf (([.v (.sl 0), .v (.sl 1)]).zipIdx.map fun q => (q.2, q.1)), hpOf [.rows 4 false a0, .rows 4 false a1], (flags spec_IsWithinGrants.sig).length⟩ = spec_IsWithinGrants.f k a0 a1 := by kernel_rfl
theorem spec_IsWithinGrants.ok (k : Nat) : CSound Tryz.prog 147 (spec_IsWithinGrants.C k) :=
  csound κ_ok mixed tok (spec_IsWithinGrants.hΓ k) (LH := spec_IsWithinGrants.LH k) (fn := Tryz.f147) (c := bodyOf Tryz.f147) Tryz.func147 rfl Tryz.call147 spec_IsWithinGrants.sig [] (spec_IsWithinGrants.body k) (by kernel_rfl) (spec_IsWithinGrants.lok k) (by decide) fun vs bs lf y hl hb hy => by
    unfold spec_IsWithinGrants.body at hb
    split at hb
    · obtain ⟨_, rfl, hb_1⟩ := asO_bind hb
      obtain ⟨_, rfl, hb_2⟩ := asO_bind hb_1
      obtain rfl := Option.some.inj hb_2
      exact ⟨spec_IsWithinGrants.out, spec_IsWithinGrants.out_ok, (spec_IsWithinGrants.den k _ _).trans hy⟩
    · cases hb
/-! ### spec_IsWider -/
def spec_IsWider.f (k : Nat) (a0_0 : Int) (a0_1 : Int) (a0_2 : Int) (a0_3 : List T_impl_Grant) (a0_4 : List T_impl_Flow) (a0_5 : List T_impl_Rule) (a0_6 : List T_impl_Op) (a0_7 : Int) (a1_0 : Int) (a1_1 : Int) (a1_2 : Int) (a1_3 : List T_impl_Grant) (a1_4 : List T_impl_Flow) (a1_5 : List T_impl_Rule) (a1_6 : List T_impl_Op) (a1_7 : Int) : Option Bool :=
  (spec_IsWithinGrants.f k a1_3 a0_3).bind fun t1 => (bif !t1 then some true else (spec_FlowsWithin.f k a1_4 a0_4).bind fun t2 => some (!t2))
def spec_IsWider.Γ (k : Nat) : Ct κ := assoc [(147, spec_IsWithinGrants.C k), (146, spec_FlowsWithin.C k)]
def spec_IsWider.LH (k : Nat) : Nat → Option (LHi κ) := assoc []
theorem spec_IsWider.hΓ (k : Nat) : ∀ f g, spec_IsWider.Γ k f = some g → CSound Tryz.prog f g := G_cons (spec_IsWithinGrants.ok k) (G_cons (spec_FlowsWithin.ok k) G_nil)
theorem spec_IsWider.lok (k : Nat) : LOK ti (spec_IsWider.Γ k) (spec_IsWider.LH k) 8 (loopsOf (bodyOf Tryz.f100)) :=
  (show loopsOf (bodyOf Tryz.f100) = [] by kernel_rfl) ▸ LOK_nil
def spec_IsWider.sig : List PSh := [.agg [.sc, .sc, .sc, .ro 4, .ro 5, .ro 6, .ro 7, .sc], .agg [.sc, .sc, .sc, .ro 4, .ro 5, .ro 6, .ro 7, .sc]]
def spec_IsWider.g (y : Bool) : Ret κ := ⟨.v (.bool y), [], []⟩
def spec_IsWider.out (r : Ret κ) : Option Bool :=
  match r with
  | ⟨.v (.bool z0), [], []⟩ => some (z0)
  | _ => none
theorem spec_IsWider.out_ok (r : Ret κ) (y : Bool) (h : spec_IsWider.out r = some y) : r = spec_IsWider.g y := by
  unfold spec_IsWider.out at h
  split at h
  · obtain rfl := Option.some.inj h
    rfl
  · cases h
def spec_IsWider.body (k : Nat) (vs : List AV) (bs : List (Blk κ)) : Option (Lf κ) :=
  match vs, bs with
  | [.agg [.int .i64 a0_0, .int .i64 a0_1, .int .i64 a0_2, .sl 0, .sl 1, .sl 2, .sl 3, .int .i64 a0_7], .agg [.int .i64 a1_0, .int .i64 a1_1, .int .i64 a1_2, .sl 4, .sl 5, .sl 6, .sl 7, .int .i64 a1_7]], [qb0, qb1, qb2, qb3, qb4, qb5, qb6, qb7] => (asO 4 false qb0).bind fun a0_3 => (asO 5 false qb1).bind fun a0_4 => (asO 6 false qb2).bind fun a0_5 => (asO 7 false qb3).bind fun a0_6 => (asO 4 false qb4).bind fun a1_3 => (asO 5 false qb5).bind fun a1_4 => (asO 6 false qb6).bind fun a1_5 => (asO 7 false qb7).bind fun a1_6 => some ⟨Bool, spec_IsWider.f k a0_0 a0_1 a0_2 a0_3 a0_4 a0_5 a0_6 a0_7 a1_0 a1_1 a1_2 a1_3 a1_4 a1_5 a1_6 a1_7, spec_IsWider.g⟩
  | _, _ => none
def spec_IsWider.C (k : Nat) : Nat → List AV → AP κ AV := contract spec_IsWider.sig (spec_IsWider.body k)
theorem spec_IsWider.den (k : Nat) (a0_0 : Int) (a0_1 : Int) (a0_2 : Int) (a0_3 : List T_impl_Grant) (a0_4 : List T_impl_Flow) (a0_5 : List T_impl_Rule) (a0_6 : List T_impl_Op) (a0_7 : Int) (a1_0 : Int) (a1_1 : Int) (a1_2 : Int) (a1_3 : List T_impl_Grant) (a1_4 : List T_impl_Flow) (a1_5 : List T_impl_Rule) (a1_6 : List T_impl_Op) (a1_7 : Int) : Code.den ti (spec_IsWider.Γ k) (spec_IsWider.LH k) (bodyOf Tryz.f100) (finK ti Tryz.f100.results.toList [] (flags spec_IsWider.sig).length (rwI (flags spec_IsWider.sig) 0) spec_IsWider.out) ⟨envOf (([.agg [.int .i64 a0_0, .int .i64 a0_1, .int .i64 a0_2, .sl 0, .sl 1, .sl 2, .sl 3, .int .i64 a0_7], .agg [.int .i64 a1_0, .int .i64 a1_1, .int .i64 a1_2, .sl 4, .sl 5, .sl 6, .sl 7, .int .i64 a1_7]]).zipIdx.map fun q => (q.2, q.1)), hpOf [.rows 4 false a0_3, .rows 5 false a0_4, .rows 6 false a0_5, .rows 7 false a0_6, .rows 4 false a1_3, .rows 5 false a1_4, .rows 6 false a1_5, .rows 7 false a1_6], (flags spec_IsWider.sig).length⟩ = spec_IsWider.f k a0_0 a0_1 a0_2 a0_3 a0_4 a0_5 a0_6 a0_7 a1_0 a1_1 a1_2 a1_3 a1_4 a1_5 a1_6 a1_7 := by kernel_rfl
theorem spec_IsWider.ok (k : Nat) : CSound Tryz.prog 100 (spec_IsWider.C k) :=
  csound κ_ok mixed tok (spec_IsWider.hΓ k) (LH := spec_IsWider.LH k) (fn := Tryz.f100) (c := bodyOf Tryz.f100) Tryz.func100 rfl Tryz.call100 spec_IsWider.sig [] (spec_IsWider.body k) (by kernel_rfl) (spec_IsWider.lok k) (by decide) fun vs bs lf y hl hb hy => by
    unfold spec_IsWider.body at hb
    split at hb
    · obtain ⟨_, rfl, hb_1⟩ := asO_bind hb
      obtain ⟨_, rfl, hb_2⟩ := asO_bind hb_1
      obtain ⟨_, rfl, hb_3⟩ := asO_bind hb_2
      obtain ⟨_, rfl, hb_4⟩ := asO_bind hb_3
      obtain ⟨_, rfl, hb_5⟩ := asO_bind hb_4
      obtain ⟨_, rfl, hb_6⟩ := asO_bind hb_5
      obtain ⟨_, rfl, hb_7⟩ := asO_bind hb_6
      obtain ⟨_, rfl, hb_8⟩ := asO_bind hb_7
      obtain rfl := Option.some.inj hb_8
      exact ⟨spec_IsWider.out, spec_IsWider.out_ok, (spec_IsWider.den k _ _ _ _ _ _ _ _ _ _ _ _ _ _ _ _).trans hy⟩
    · cases hb
/-! ### spec_UpdateCode -/
def spec_UpdateCode.f (k : Nat) (a0 : Int) (a1_0 : Int) (a1_1 : Int) (a1_2 : Int) (a1_3 : List T_impl_Grant) (a1_4 : List T_impl_Flow) (a1_5 : List T_impl_Rule) (a1_6 : List T_impl_Op) (a1_7 : Int) (a2_0 : Int) (a2_1 : Int) (a2_2 : Int) (a2_3 : List T_impl_Grant) (a2_4 : List T_impl_Flow) (a2_5 : List T_impl_Rule) (a2_6 : List T_impl_Op) (a2_7 : Int) (a3 : Bool) : Option Int :=
  (spec_IsPackage.f k a1_0 a1_1 a1_2 a1_3 a1_4 a1_5 a1_6 a1_7).bind fun t1 => (bif !t1 then some (1 : Int) else (spec_ReviewPackage.f k a0 a2_0 a2_1 a2_2 a2_3 a2_4 a2_5 a2_6 a2_7).bind fun t2 => (bif (t2 != (0 : Int)) then some (1 : Int) else (bif (a1_0 != a2_0) then some (1 : Int) else (bif (a1_1 != a2_1) then some (1 : Int) else (bif decide (a2_2 ≤ a1_2) then some (2 : Int) else (spec_IsWider.f k a1_0 a1_1 a1_2 a1_3 a1_4 a1_5 a1_6 a1_7 a2_0 a2_1 a2_2 a2_3 a2_4 a2_5 a2_6 a2_7).bind fun t3 => (bif t3 then (bif !a3 then some (3 : Int) else some (0 : Int)) else some (0 : Int)))))))
def spec_UpdateCode.Γ (k : Nat) : Ct κ := assoc [(47, spec_IsPackage.C k), (40, spec_ReviewPackage.C k), (100, spec_IsWider.C k)]
def spec_UpdateCode.LH (k : Nat) : Nat → Option (LHi κ) := assoc []
theorem spec_UpdateCode.hΓ (k : Nat) : ∀ f g, spec_UpdateCode.Γ k f = some g → CSound Tryz.prog f g := G_cons (spec_IsPackage.ok k) (G_cons (spec_ReviewPackage.ok k) (G_cons (spec_IsWider.ok k) G_nil))
theorem spec_UpdateCode.lok (k : Nat) : LOK ti (spec_UpdateCode.Γ k) (spec_UpdateCode.LH k) 8 (loopsOf (bodyOf Tryz.f41)) :=
  (show loopsOf (bodyOf Tryz.f41) = [] by kernel_rfl) ▸ LOK_nil
def spec_UpdateCode.sig : List PSh := [.one .sc, .agg [.sc, .sc, .sc, .ro 4, .ro 5, .ro 6, .ro 7, .sc], .agg [.sc, .sc, .sc, .ro 4, .ro 5, .ro 6, .ro 7, .sc], .one .sc]
def spec_UpdateCode.g (y : Int) : Ret κ := ⟨.v (.int .i64 y), [], []⟩
def spec_UpdateCode.out (r : Ret κ) : Option Int :=
  match r with
  | ⟨.v (.int .i64 z0), [], []⟩ => some (z0)
  | _ => none
theorem spec_UpdateCode.out_ok (r : Ret κ) (y : Int) (h : spec_UpdateCode.out r = some y) : r = spec_UpdateCode.g y := by
  unfold spec_UpdateCode.out at h
  split at h
  · obtain rfl := Option.some.inj h
    rfl
  · cases h
def spec_UpdateCode.body (k : Nat) (vs : List AV) (bs : List (Blk κ)) : Option (Lf κ) :=
  match vs, bs with
  | [.v (.int .i64 a0), .agg [.int .i64 a1_0, .int .i64 a1_1, .int .i64 a1_2, .sl 0, .sl 1, .sl 2, .sl 3, .int .i64 a1_7], .agg [.int .i64 a2_0, .int .i64 a2_1, .int .i64 a2_2, .sl 4, .sl 5, .sl 6, .sl 7, .int .i64 a2_7], .v (.bool a3)], [qb0, qb1, qb2, qb3, qb4, qb5, qb6, qb7] => (asO 4 false qb0).bind fun a1_3 => (asO 5 false qb1).bind fun a1_4 => (asO 6 false qb2).bind fun a1_5 => (asO 7 false qb3).bind fun a1_6 => (asO 4 false qb4).bind fun a2_3 => (asO 5 false qb5).bind fun a2_4 => (asO 6 false qb6).bind fun a2_5 => (asO 7 false qb7).bind fun a2_6 => some ⟨Int, spec_UpdateCode.f k a0 a1_0 a1_1 a1_2 a1_3 a1_4 a1_5 a1_6 a1_7 a2_0 a2_1 a2_2 a2_3 a2_4 a2_5 a2_6 a2_7 a3, spec_UpdateCode.g⟩
  | _, _ => none
def spec_UpdateCode.C (k : Nat) : Nat → List AV → AP κ AV := contract spec_UpdateCode.sig (spec_UpdateCode.body k)
theorem spec_UpdateCode.den (k : Nat) (a0 : Int) (a1_0 : Int) (a1_1 : Int) (a1_2 : Int) (a1_3 : List T_impl_Grant) (a1_4 : List T_impl_Flow) (a1_5 : List T_impl_Rule) (a1_6 : List T_impl_Op) (a1_7 : Int) (a2_0 : Int) (a2_1 : Int) (a2_2 : Int) (a2_3 : List T_impl_Grant) (a2_4 : List T_impl_Flow) (a2_5 : List T_impl_Rule) (a2_6 : List T_impl_Op) (a2_7 : Int) (a3 : Bool) : Code.den ti (spec_UpdateCode.Γ k) (spec_UpdateCode.LH k) (bodyOf Tryz.f41) (finK ti Tryz.f41.results.toList [] (flags spec_UpdateCode.sig).length (rwI (flags spec_UpdateCode.sig) 0) spec_UpdateCode.out) ⟨envOf (([.v (.int .i64 a0), .agg [.int .i64 a1_0, .int .i64 a1_1, .int .i64 a1_2, .sl 0, .sl 1, .sl 2, .sl 3, .int .i64 a1_7], .agg [.int .i64 a2_0, .int .i64 a2_1, .int .i64 a2_2, .sl 4, .sl 5, .sl 6, .sl 7, .int .i64 a2_7], .v (.bool a3)]).zipIdx.map fun q => (q.2, q.1)), hpOf [.rows 4 false a1_3, .rows 5 false a1_4, .rows 6 false a1_5, .rows 7 false a1_6, .rows 4 false a2_3, .rows 5 false a2_4, .rows 6 false a2_5, .rows 7 false a2_6], (flags spec_UpdateCode.sig).length⟩ = spec_UpdateCode.f k a0 a1_0 a1_1 a1_2 a1_3 a1_4 a1_5 a1_6 a1_7 a2_0 a2_1 a2_2 a2_3 a2_4 a2_5 a2_6 a2_7 a3 := by kernel_rfl
theorem spec_UpdateCode.ok (k : Nat) : CSound Tryz.prog 41 (spec_UpdateCode.C k) :=
  csound κ_ok mixed tok (spec_UpdateCode.hΓ k) (LH := spec_UpdateCode.LH k) (fn := Tryz.f41) (c := bodyOf Tryz.f41) Tryz.func41 rfl Tryz.call41 spec_UpdateCode.sig [] (spec_UpdateCode.body k) (by kernel_rfl) (spec_UpdateCode.lok k) (by decide) fun vs bs lf y hl hb hy => by
    unfold spec_UpdateCode.body at hb
    split at hb
    · obtain ⟨_, rfl, hb_1⟩ := asO_bind hb
      obtain ⟨_, rfl, hb_2⟩ := asO_bind hb_1
      obtain ⟨_, rfl, hb_3⟩ := asO_bind hb_2
      obtain ⟨_, rfl, hb_4⟩ := asO_bind hb_3
      obtain ⟨_, rfl, hb_5⟩ := asO_bind hb_4
      obtain ⟨_, rfl, hb_6⟩ := asO_bind hb_5
      obtain ⟨_, rfl, hb_7⟩ := asO_bind hb_6
      obtain ⟨_, rfl, hb_8⟩ := asO_bind hb_7
      obtain rfl := Option.some.inj hb_8
      exact ⟨spec_UpdateCode.out, spec_UpdateCode.out_ok, (spec_UpdateCode.den k _ _ _ _ _ _ _ _ _ _ _ _ _ _ _ _ _ _).trans hy⟩
    · cases hb
/-! ### spec_UpdatePackage -/
def spec_UpdatePackage.f (k : Nat) (a0 : Int) (a1_0 : Int) (a1_1 : Int) (a1_2 : Int) (a1_3 : List T_impl_Grant) (a1_4 : List T_impl_Flow) (a1_5 : List T_impl_Rule) (a1_6 : List T_impl_Op) (a1_7 : Int) (a2_0 : Int) (a2_1 : Int) (a2_2 : Int) (a2_3 : List T_impl_Grant) (a2_4 : List T_impl_Flow) (a2_5 : List T_impl_Rule) (a2_6 : List T_impl_Op) (a2_7 : Int) (a3 : Bool) : Option (Int × Int × Int × Int × Bool × List T_impl_Grant × List T_impl_Flow × List T_impl_Rule × List T_impl_Op) :=
  (spec_UpdateCode.f k a0 a1_0 a1_1 a1_2 a1_3 a1_4 a1_5 a1_6 a1_7 a2_0 a2_1 a2_2 a2_3 a2_4 a2_5 a2_6 a2_7 a3).bind fun t1 => (bif (t1 != (0 : Int)) then (spec_l26Copy.f k a1_0 a1_1 a1_2 a1_3 a1_4 a1_5 a1_6 a1_7).bind fun t2 => some (t2.1, t2.2.1, t2.2.2.1, t2.2.2.2.1, false, t2.2.2.2.2.1, t2.2.2.2.2.2.1, t2.2.2.2.2.2.2.1, t2.2.2.2.2.2.2.2) else (spec_l26Copy.f k a2_0 a2_1 a2_2 a2_3 a2_4 a2_5 a2_6 a2_7).bind fun t3 => some (t3.1, t3.2.1, t3.2.2.1, t3.2.2.2.1, true, t3.2.2.2.2.1, t3.2.2.2.2.2.1, t3.2.2.2.2.2.2.1, t3.2.2.2.2.2.2.2))
def spec_UpdatePackage.Γ (k : Nat) : Ct κ := assoc [(41, spec_UpdateCode.C k), (59, spec_l26Copy.C k)]
def spec_UpdatePackage.LH (k : Nat) : Nat → Option (LHi κ) := assoc []
theorem spec_UpdatePackage.hΓ (k : Nat) : ∀ f g, spec_UpdatePackage.Γ k f = some g → CSound Tryz.prog f g := G_cons (spec_UpdateCode.ok k) (G_cons (spec_l26Copy.ok k) G_nil)
theorem spec_UpdatePackage.lok (k : Nat) : LOK ti (spec_UpdatePackage.Γ k) (spec_UpdatePackage.LH k) 8 (loopsOf (bodyOf Tryz.f17)) :=
  (show loopsOf (bodyOf Tryz.f17) = [] by kernel_rfl) ▸ LOK_nil
def spec_UpdatePackage.sig : List PSh := [.one .sc, .agg [.sc, .sc, .sc, .ro 4, .ro 5, .ro 6, .ro 7, .sc], .agg [.sc, .sc, .sc, .ro 4, .ro 5, .ro 6, .ro 7, .sc], .one .sc]
def spec_UpdatePackage.g (y : Int × Int × Int × Int × Bool × List T_impl_Grant × List T_impl_Flow × List T_impl_Rule × List T_impl_Op) : Ret κ := ⟨.tup [(true, [.int .i64 y.1, .int .i64 y.2.1, .int .i64 y.2.2.1, .sl 8, .sl 9, .sl 10, .sl 11, .int .i64 y.2.2.2.1]), (false, [.bool y.2.2.2.2.1])], [], [.rows 4 true y.2.2.2.2.2.1, .rows 5 true y.2.2.2.2.2.2.1, .rows 6 true y.2.2.2.2.2.2.2.1, .rows 7 true y.2.2.2.2.2.2.2.2]⟩
def spec_UpdatePackage.out (r : Ret κ) : Option (Int × Int × Int × Int × Bool × List T_impl_Grant × List T_impl_Flow × List T_impl_Rule × List T_impl_Op) :=
  match r with
  | ⟨.tup [(true, [.int .i64 z0, .int .i64 z1, .int .i64 z2, .sl 8, .sl 9, .sl 10, .sl 11, .int .i64 z3]), (false, [.bool z4])], [], [q5, q6, q7, q8]⟩ => (asO 4 true q5).bind fun z5 => (asO 5 true q6).bind fun z6 => (asO 6 true q7).bind fun z7 => (asO 7 true q8).bind fun z8 => some (z0, z1, z2, z3, z4, z5, z6, z7, z8)
  | _ => none
theorem spec_UpdatePackage.out_ok (r : Ret κ) (y : Int × Int × Int × Int × Bool × List T_impl_Grant × List T_impl_Flow × List T_impl_Rule × List T_impl_Op) (h : spec_UpdatePackage.out r = some y) : r = spec_UpdatePackage.g y := by
  unfold spec_UpdatePackage.out at h
  split at h
  · obtain ⟨_, rfl, h_1⟩ := asO_bind h
    obtain ⟨_, rfl, h_2⟩ := asO_bind h_1
    obtain ⟨_, rfl, h_3⟩ := asO_bind h_2
    obtain ⟨_, rfl, h_4⟩ := asO_bind h_3
    obtain rfl := Option.some.inj h_4
    rfl
  · cases h
def spec_UpdatePackage.body (k : Nat) (vs : List AV) (bs : List (Blk κ)) : Option (Lf κ) :=
  match vs, bs with
  | [.v (.int .i64 a0), .agg [.int .i64 a1_0, .int .i64 a1_1, .int .i64 a1_2, .sl 0, .sl 1, .sl 2, .sl 3, .int .i64 a1_7], .agg [.int .i64 a2_0, .int .i64 a2_1, .int .i64 a2_2, .sl 4, .sl 5, .sl 6, .sl 7, .int .i64 a2_7], .v (.bool a3)], [qb0, qb1, qb2, qb3, qb4, qb5, qb6, qb7] => (asO 4 false qb0).bind fun a1_3 => (asO 5 false qb1).bind fun a1_4 => (asO 6 false qb2).bind fun a1_5 => (asO 7 false qb3).bind fun a1_6 => (asO 4 false qb4).bind fun a2_3 => (asO 5 false qb5).bind fun a2_4 => (asO 6 false qb6).bind fun a2_5 => (asO 7 false qb7).bind fun a2_6 => some ⟨Int × Int × Int × Int × Bool × List T_impl_Grant × List T_impl_Flow × List T_impl_Rule × List T_impl_Op, spec_UpdatePackage.f k a0 a1_0 a1_1 a1_2 a1_3 a1_4 a1_5 a1_6 a1_7 a2_0 a2_1 a2_2 a2_3 a2_4 a2_5 a2_6 a2_7 a3, spec_UpdatePackage.g⟩
  | _, _ => none
def spec_UpdatePackage.C (k : Nat) : Nat → List AV → AP κ AV := contract spec_UpdatePackage.sig (spec_UpdatePackage.body k)
theorem spec_UpdatePackage.den (k : Nat) (a0 : Int) (a1_0 : Int) (a1_1 : Int) (a1_2 : Int) (a1_3 : List T_impl_Grant) (a1_4 : List T_impl_Flow) (a1_5 : List T_impl_Rule) (a1_6 : List T_impl_Op) (a1_7 : Int) (a2_0 : Int) (a2_1 : Int) (a2_2 : Int) (a2_3 : List T_impl_Grant) (a2_4 : List T_impl_Flow) (a2_5 : List T_impl_Rule) (a2_6 : List T_impl_Op) (a2_7 : Int) (a3 : Bool) : Code.den ti (spec_UpdatePackage.Γ k) (spec_UpdatePackage.LH k) (bodyOf Tryz.f17) (finK ti Tryz.f17.results.toList [(8, [none, none, none, some 4, some 5, some 6, some 7, none])] (flags spec_UpdatePackage.sig).length (rwI (flags spec_UpdatePackage.sig) 0) spec_UpdatePackage.out) ⟨envOf (([.v (.int .i64 a0), .agg [.int .i64 a1_0, .int .i64 a1_1, .int .i64 a1_2, .sl 0, .sl 1, .sl 2, .sl 3, .int .i64 a1_7], .agg [.int .i64 a2_0, .int .i64 a2_1, .int .i64 a2_2, .sl 4, .sl 5, .sl 6, .sl 7, .int .i64 a2_7], .v (.bool a3)]).zipIdx.map fun q => (q.2, q.1)), hpOf [.rows 4 false a1_3, .rows 5 false a1_4, .rows 6 false a1_5, .rows 7 false a1_6, .rows 4 false a2_3, .rows 5 false a2_4, .rows 6 false a2_5, .rows 7 false a2_6], (flags spec_UpdatePackage.sig).length⟩ = spec_UpdatePackage.f k a0 a1_0 a1_1 a1_2 a1_3 a1_4 a1_5 a1_6 a1_7 a2_0 a2_1 a2_2 a2_3 a2_4 a2_5 a2_6 a2_7 a3 := by kernel_rfl
theorem spec_UpdatePackage.ok (k : Nat) : CSound Tryz.prog 17 (spec_UpdatePackage.C k) :=
  csound κ_ok mixed tok (spec_UpdatePackage.hΓ k) (LH := spec_UpdatePackage.LH k) (fn := Tryz.f17) (c := bodyOf Tryz.f17) Tryz.func17 rfl Tryz.call17 spec_UpdatePackage.sig [(8, [none, none, none, some 4, some 5, some 6, some 7, none])] (spec_UpdatePackage.body k) (by kernel_rfl) (spec_UpdatePackage.lok k) (by decide) fun vs bs lf y hl hb hy => by
    unfold spec_UpdatePackage.body at hb
    split at hb
    · obtain ⟨_, rfl, hb_1⟩ := asO_bind hb
      obtain ⟨_, rfl, hb_2⟩ := asO_bind hb_1
      obtain ⟨_, rfl, hb_3⟩ := asO_bind hb_2
      obtain ⟨_, rfl, hb_4⟩ := asO_bind hb_3
      obtain ⟨_, rfl, hb_5⟩ := asO_bind hb_4
      obtain ⟨_, rfl, hb_6⟩ := asO_bind hb_5
      obtain ⟨_, rfl, hb_7⟩ := asO_bind hb_6
      obtain ⟨_, rfl, hb_8⟩ := asO_bind hb_7
      obtain rfl := Option.some.inj hb_8
      exact ⟨spec_UpdatePackage.out, spec_UpdatePackage.out_ok, (spec_UpdatePackage.den k _ _ _ _ _ _ _ _ _ _ _ _ _ _ _ _ _ _).trans hy⟩
    · cases hb
/-! ### impl_InRange -/
def impl_InRange.f (k : Nat) (a0 : Int) (a1 : Int) (a2 : Int) : Option Bool :=
  (bif decide (a1 ≤ a0) then some (decide (a0 ≤ a2)) else some false)
def impl_InRange.Γ (k : Nat) : Ct κ := assoc []
def impl_InRange.LH (k : Nat) : Nat → Option (LHi κ) := assoc []
theorem impl_InRange.hΓ (k : Nat) : ∀ f g, impl_InRange.Γ k f = some g → CSound Tryz.prog f g := G_nil
theorem impl_InRange.lok (k : Nat) : LOK ti (impl_InRange.Γ k) (impl_InRange.LH k) 0 (loopsOf (bodyOf Tryz.f111)) :=
  (show loopsOf (bodyOf Tryz.f111) = [] by kernel_rfl) ▸ LOK_nil
def impl_InRange.sig : List PSh := [.one .sc, .one .sc, .one .sc]
def impl_InRange.g (y : Bool) : Ret κ := ⟨.v (.bool y), [], []⟩
def impl_InRange.out (r : Ret κ) : Option Bool :=
  match r with
  | ⟨.v (.bool z0), [], []⟩ => some (z0)
  | _ => none
theorem impl_InRange.out_ok (r : Ret κ) (y : Bool) (h : impl_InRange.out r = some y) : r = impl_InRange.g y := by
  unfold impl_InRange.out at h
  split at h
  · obtain rfl := Option.some.inj h
    rfl
  · cases h
def impl_InRange.body (k : Nat) (vs : List AV) (bs : List (Blk κ)) : Option (Lf κ) :=
  match vs, bs with
  | [.v (.int .i64 a0), .v (.int .i64 a1), .v (.int .i64 a2)], [] => some ⟨Bool, impl_InRange.f k a0 a1 a2, impl_InRange.g⟩
  | _, _ => none
def impl_InRange.C (k : Nat) : Nat → List AV → AP κ AV := contract impl_InRange.sig (impl_InRange.body k)
theorem impl_InRange.den (k : Nat) (a0 : Int) (a1 : Int) (a2 : Int) : Code.den ti (impl_InRange.Γ k) (impl_InRange.LH k) (bodyOf Tryz.f111) (finK ti Tryz.f111.results.toList [] (flags impl_InRange.sig).length (rwI (flags impl_InRange.sig) 0) impl_InRange.out) ⟨envOf (([.v (.int .i64 a0), .v (.int .i64 a1), .v (.int .i64 a2)]).zipIdx.map fun q => (q.2, q.1)), hpOf [], (flags impl_InRange.sig).length⟩ = impl_InRange.f k a0 a1 a2 := by kernel_rfl
theorem impl_InRange.ok (k : Nat) : CSound Tryz.prog 111 (impl_InRange.C k) :=
  csound κ_ok mixed tok (impl_InRange.hΓ k) (LH := impl_InRange.LH k) (fn := Tryz.f111) (c := bodyOf Tryz.f111) Tryz.func111 rfl Tryz.call111 impl_InRange.sig [] (impl_InRange.body k) (by kernel_rfl) (impl_InRange.lok k) (by decide) fun vs bs lf y hl hb hy => by
    unfold impl_InRange.body at hb
    split at hb
    · obtain rfl := Option.some.inj hb
      exact ⟨impl_InRange.out, impl_InRange.out_ok, (impl_InRange.den k _ _ _).trans hy⟩
    · cases hb
/-! ### impl_IsPattern -/
def impl_IsPattern.f (k : Nat) (a0_0 : Int) (a0_1 : Int) : Option Bool :=
  (impl_InRange.f k a0_0 (0 : Int) (9 : Int)).bind fun t1 => (bif t1 then (impl_InRange.f k a0_1 (-1 : Int) (9 : Int)).bind fun t2 => some t2 else some false)
def impl_IsPattern.Γ (k : Nat) : Ct κ := assoc [(111, impl_InRange.C k)]
def impl_IsPattern.LH (k : Nat) : Nat → Option (LHi κ) := assoc []
theorem impl_IsPattern.hΓ (k : Nat) : ∀ f g, impl_IsPattern.Γ k f = some g → CSound Tryz.prog f g := G_cons (impl_InRange.ok k) G_nil
theorem impl_IsPattern.lok (k : Nat) : LOK ti (impl_IsPattern.Γ k) (impl_IsPattern.LH k) 0 (loopsOf (bodyOf Tryz.f122)) :=
  (show loopsOf (bodyOf Tryz.f122) = [] by kernel_rfl) ▸ LOK_nil
def impl_IsPattern.sig : List PSh := [.agg [.sc, .sc]]
def impl_IsPattern.g (y : Bool) : Ret κ := ⟨.v (.bool y), [], []⟩
def impl_IsPattern.out (r : Ret κ) : Option Bool :=
  match r with
  | ⟨.v (.bool z0), [], []⟩ => some (z0)
  | _ => none
theorem impl_IsPattern.out_ok (r : Ret κ) (y : Bool) (h : impl_IsPattern.out r = some y) : r = impl_IsPattern.g y := by
  unfold impl_IsPattern.out at h
  split at h
  · obtain rfl := Option.some.inj h
    rfl
  · cases h
def impl_IsPattern.body (k : Nat) (vs : List AV) (bs : List (Blk κ)) : Option (Lf κ) :=
  match vs, bs with
  | [.agg [.int .i64 a0_0, .int .i64 a0_1]], [] => some ⟨Bool, impl_IsPattern.f k a0_0 a0_1, impl_IsPattern.g⟩
  | _, _ => none
def impl_IsPattern.C (k : Nat) : Nat → List AV → AP κ AV := contract impl_IsPattern.sig (impl_IsPattern.body k)
theorem impl_IsPattern.den (k : Nat) (a0_0 : Int) (a0_1 : Int) : Code.den ti (impl_IsPattern.Γ k) (impl_IsPattern.LH k) (bodyOf Tryz.f122) (finK ti Tryz.f122.results.toList [] (flags impl_IsPattern.sig).length (rwI (flags impl_IsPattern.sig) 0) impl_IsPattern.out) ⟨envOf (([.agg [.int .i64 a0_0, .int .i64 a0_1]]).zipIdx.map fun q => (q.2, q.1)), hpOf [], (flags impl_IsPattern.sig).length⟩ = impl_IsPattern.f k a0_0 a0_1 := by kernel_rfl
theorem impl_IsPattern.ok (k : Nat) : CSound Tryz.prog 122 (impl_IsPattern.C k) :=
  csound κ_ok mixed tok (impl_IsPattern.hΓ k) (LH := impl_IsPattern.LH k) (fn := Tryz.f122) (c := bodyOf Tryz.f122) Tryz.func122 rfl Tryz.call122 impl_IsPattern.sig [] (impl_IsPattern.body k) (by kernel_rfl) (impl_IsPattern.lok k) (by decide) fun vs bs lf y hl hb hy => by
    unfold impl_IsPattern.body at hb
    split at hb
    · obtain rfl := Option.some.inj hb
      exact ⟨impl_IsPattern.out, impl_IsPattern.out_ok, (impl_IsPattern.den k _ _).trans hy⟩
    · cases hb
/-! ### impl_IsGrant -/
def impl_IsGrant.f (k : Nat) (a0_0 : Int) (a0_1 : Int) (a0_2 : Int) (a0_3 : Int) (a0_4 : Int) (a0_5 : Int) (a0_6 : Bool) : Option Bool :=
  (impl_InRange.f k a0_0 (1 : Int) (5 : Int)).bind fun t1 => (bif t1 then (impl_IsPattern.f k a0_1 a0_2).bind fun t2 => (bif t2 then (impl_InRange.f k a0_3 (1 : Int) (4 : Int)).bind fun t3 => (bif t3 then (bif decide ((0 : Int) ≤ a0_4) then (bif decide (a0_4 ≤ a0_5) then some (decide (a0_5 ≤ (10000 : Int))) else some false) else some false) else some false) else some false) else some false)
def impl_IsGrant.Γ (k : Nat) : Ct κ := assoc [(111, impl_InRange.C k), (122, impl_IsPattern.C k)]
def impl_IsGrant.LH (k : Nat) : Nat → Option (LHi κ) := assoc []
theorem impl_IsGrant.hΓ (k : Nat) : ∀ f g, impl_IsGrant.Γ k f = some g → CSound Tryz.prog f g := G_cons (impl_InRange.ok k) (G_cons (impl_IsPattern.ok k) G_nil)
theorem impl_IsGrant.lok (k : Nat) : LOK ti (impl_IsGrant.Γ k) (impl_IsGrant.LH k) 0 (loopsOf (bodyOf Tryz.f76)) :=
  (show loopsOf (bodyOf Tryz.f76) = [] by kernel_rfl) ▸ LOK_nil
def impl_IsGrant.sig : List PSh := [.agg [.sc, .sc, .sc, .sc, .sc, .sc, .sc]]
def impl_IsGrant.g (y : Bool) : Ret κ := ⟨.v (.bool y), [], []⟩
def impl_IsGrant.out (r : Ret κ) : Option Bool :=
  match r with
  | ⟨.v (.bool z0), [], []⟩ => some (z0)
  | _ => none
theorem impl_IsGrant.out_ok (r : Ret κ) (y : Bool) (h : impl_IsGrant.out r = some y) : r = impl_IsGrant.g y := by
  unfold impl_IsGrant.out at h
  split at h
  · obtain rfl := Option.some.inj h
    rfl
  · cases h
def impl_IsGrant.body (k : Nat) (vs : List AV) (bs : List (Blk κ)) : Option (Lf κ) :=
  match vs, bs with
  | [.agg [.int .i64 a0_0, .int .i64 a0_1, .int .i64 a0_2, .int .i64 a0_3, .int .i64 a0_4, .int .i64 a0_5, .bool a0_6]], [] => some ⟨Bool, impl_IsGrant.f k a0_0 a0_1 a0_2 a0_3 a0_4 a0_5 a0_6, impl_IsGrant.g⟩
  | _, _ => none
def impl_IsGrant.C (k : Nat) : Nat → List AV → AP κ AV := contract impl_IsGrant.sig (impl_IsGrant.body k)
theorem impl_IsGrant.den (k : Nat) (a0_0 : Int) (a0_1 : Int) (a0_2 : Int) (a0_3 : Int) (a0_4 : Int) (a0_5 : Int) (a0_6 : Bool) : Code.den ti (impl_IsGrant.Γ k) (impl_IsGrant.LH k) (bodyOf Tryz.f76) (finK ti Tryz.f76.results.toList [] (flags impl_IsGrant.sig).length (rwI (flags impl_IsGrant.sig) 0) impl_IsGrant.out) ⟨envOf (([.agg [.int .i64 a0_0, .int .i64 a0_1, .int .i64 a0_2, .int .i64 a0_3, .int .i64 a0_4, .int .i64 a0_5, .bool a0_6]]).zipIdx.map fun q => (q.2, q.1)), hpOf [], (flags impl_IsGrant.sig).length⟩ = impl_IsGrant.f k a0_0 a0_1 a0_2 a0_3 a0_4 a0_5 a0_6 := by kernel_rfl
theorem impl_IsGrant.ok (k : Nat) : CSound Tryz.prog 76 (impl_IsGrant.C k) :=
  csound κ_ok mixed tok (impl_IsGrant.hΓ k) (LH := impl_IsGrant.LH k) (fn := Tryz.f76) (c := bodyOf Tryz.f76) Tryz.func76 rfl Tryz.call76 impl_IsGrant.sig [] (impl_IsGrant.body k) (by kernel_rfl) (impl_IsGrant.lok k) (by decide) fun vs bs lf y hl hb hy => by
    unfold impl_IsGrant.body at hb
    split at hb
    · obtain rfl := Option.some.inj hb
      exact ⟨impl_IsGrant.out, impl_IsGrant.out_ok, (impl_IsGrant.den k _ _ _ _ _ _ _).trans hy⟩
    · cases hb
/-! ### impl_IsFlow -/
def impl_IsFlow.f (k : Nat) (a0_0 : Int) (a0_1 : Int) (a0_2 : Int) : Option Bool :=
  (impl_InRange.f k a0_0 (1 : Int) (5 : Int)).bind fun t1 => (bif t1 then (impl_InRange.f k a0_1 (1 : Int) (9 : Int)).bind fun t2 => (bif t2 then (impl_InRange.f k a0_2 (1 : Int) (9 : Int)).bind fun t3 => some t3 else some false) else some false)
def impl_IsFlow.Γ (k : Nat) : Ct κ := assoc [(111, impl_InRange.C k)]
def impl_IsFlow.LH (k : Nat) : Nat → Option (LHi κ) := assoc []
theorem impl_IsFlow.hΓ (k : Nat) : ∀ f g, impl_IsFlow.Γ k f = some g → CSound Tryz.prog f g := G_cons (impl_InRange.ok k) G_nil
theorem impl_IsFlow.lok (k : Nat) : LOK ti (impl_IsFlow.Γ k) (impl_IsFlow.LH k) 0 (loopsOf (bodyOf Tryz.f78)) :=
  (show loopsOf (bodyOf Tryz.f78) = [] by kernel_rfl) ▸ LOK_nil
def impl_IsFlow.sig : List PSh := [.agg [.sc, .sc, .sc]]
def impl_IsFlow.g (y : Bool) : Ret κ := ⟨.v (.bool y), [], []⟩
def impl_IsFlow.out (r : Ret κ) : Option Bool :=
  match r with
  | ⟨.v (.bool z0), [], []⟩ => some (z0)
  | _ => none
theorem impl_IsFlow.out_ok (r : Ret κ) (y : Bool) (h : impl_IsFlow.out r = some y) : r = impl_IsFlow.g y := by
  unfold impl_IsFlow.out at h
  split at h
  · obtain rfl := Option.some.inj h
    rfl
  · cases h
def impl_IsFlow.body (k : Nat) (vs : List AV) (bs : List (Blk κ)) : Option (Lf κ) :=
  match vs, bs with
  | [.agg [.int .i64 a0_0, .int .i64 a0_1, .int .i64 a0_2]], [] => some ⟨Bool, impl_IsFlow.f k a0_0 a0_1 a0_2, impl_IsFlow.g⟩
  | _, _ => none
def impl_IsFlow.C (k : Nat) : Nat → List AV → AP κ AV := contract impl_IsFlow.sig (impl_IsFlow.body k)
theorem impl_IsFlow.den (k : Nat) (a0_0 : Int) (a0_1 : Int) (a0_2 : Int) : Code.den ti (impl_IsFlow.Γ k) (impl_IsFlow.LH k) (bodyOf Tryz.f78) (finK ti Tryz.f78.results.toList [] (flags impl_IsFlow.sig).length (rwI (flags impl_IsFlow.sig) 0) impl_IsFlow.out) ⟨envOf (([.agg [.int .i64 a0_0, .int .i64 a0_1, .int .i64 a0_2]]).zipIdx.map fun q => (q.2, q.1)), hpOf [], (flags impl_IsFlow.sig).length⟩ = impl_IsFlow.f k a0_0 a0_1 a0_2 := by kernel_rfl
theorem impl_IsFlow.ok (k : Nat) : CSound Tryz.prog 78 (impl_IsFlow.C k) :=
  csound κ_ok mixed tok (impl_IsFlow.hΓ k) (LH := impl_IsFlow.LH k) (fn := Tryz.f78) (c := bodyOf Tryz.f78) Tryz.func78 rfl Tryz.call78 impl_IsFlow.sig [] (impl_IsFlow.body k) (by kernel_rfl) (impl_IsFlow.lok k) (by decide) fun vs bs lf y hl hb hy => by
    unfold impl_IsFlow.body at hb
    split at hb
    · obtain rfl := Option.some.inj hb
      exact ⟨impl_IsFlow.out, impl_IsFlow.out_ok, (impl_IsFlow.den k _ _ _).trans hy⟩
    · cases hb
/-! ### impl_IsSite -/
def impl_IsSite.f (k : Nat) (a0_0 : Int) (a0_1 : Int) : Option Bool :=
  (impl_InRange.f k a0_0 (1 : Int) (9 : Int)).bind fun t1 => (bif t1 then (impl_InRange.f k a0_1 (0 : Int) (9 : Int)).bind fun t2 => some t2 else some false)
def impl_IsSite.Γ (k : Nat) : Ct κ := assoc [(111, impl_InRange.C k)]
def impl_IsSite.LH (k : Nat) : Nat → Option (LHi κ) := assoc []
theorem impl_IsSite.hΓ (k : Nat) : ∀ f g, impl_IsSite.Γ k f = some g → CSound Tryz.prog f g := G_cons (impl_InRange.ok k) G_nil
theorem impl_IsSite.lok (k : Nat) : LOK ti (impl_IsSite.Γ k) (impl_IsSite.LH k) 0 (loopsOf (bodyOf Tryz.f153)) :=
  (show loopsOf (bodyOf Tryz.f153) = [] by kernel_rfl) ▸ LOK_nil
def impl_IsSite.sig : List PSh := [.agg [.sc, .sc]]
def impl_IsSite.g (y : Bool) : Ret κ := ⟨.v (.bool y), [], []⟩
def impl_IsSite.out (r : Ret κ) : Option Bool :=
  match r with
  | ⟨.v (.bool z0), [], []⟩ => some (z0)
  | _ => none
theorem impl_IsSite.out_ok (r : Ret κ) (y : Bool) (h : impl_IsSite.out r = some y) : r = impl_IsSite.g y := by
  unfold impl_IsSite.out at h
  split at h
  · obtain rfl := Option.some.inj h
    rfl
  · cases h
def impl_IsSite.body (k : Nat) (vs : List AV) (bs : List (Blk κ)) : Option (Lf κ) :=
  match vs, bs with
  | [.agg [.int .i64 a0_0, .int .i64 a0_1]], [] => some ⟨Bool, impl_IsSite.f k a0_0 a0_1, impl_IsSite.g⟩
  | _, _ => none
def impl_IsSite.C (k : Nat) : Nat → List AV → AP κ AV := contract impl_IsSite.sig (impl_IsSite.body k)
theorem impl_IsSite.den (k : Nat) (a0_0 : Int) (a0_1 : Int) : Code.den ti (impl_IsSite.Γ k) (impl_IsSite.LH k) (bodyOf Tryz.f153) (finK ti Tryz.f153.results.toList [] (flags impl_IsSite.sig).length (rwI (flags impl_IsSite.sig) 0) impl_IsSite.out) ⟨envOf (([.agg [.int .i64 a0_0, .int .i64 a0_1]]).zipIdx.map fun q => (q.2, q.1)), hpOf [], (flags impl_IsSite.sig).length⟩ = impl_IsSite.f k a0_0 a0_1 := by kernel_rfl
theorem impl_IsSite.ok (k : Nat) : CSound Tryz.prog 153 (impl_IsSite.C k) :=
  csound κ_ok mixed tok (impl_IsSite.hΓ k) (LH := impl_IsSite.LH k) (fn := Tryz.f153) (c := bodyOf Tryz.f153) Tryz.func153 rfl Tryz.call153 impl_IsSite.sig [] (impl_IsSite.body k) (by kernel_rfl) (impl_IsSite.lok k) (by decide) fun vs bs lf y hl hb hy => by
    unfold impl_IsSite.body at hb
    split at hb
    · obtain rfl := Option.some.inj hb
      exact ⟨impl_IsSite.out, impl_IsSite.out_ok, (impl_IsSite.den k _ _).trans hy⟩
    · cases hb
/-! ### impl_IsRule -/
def impl_IsRule.f (k : Nat) (a0_0 : Int) (a0_1 : Int) (a0_2 : Int) (a0_3 : Int) (a0_4 : Int) (a0_5 : Int) (a0_6 : Int) (a0_7 : Int) : Option Bool :=
  (impl_InRange.f k a0_0 (1 : Int) (5 : Int)).bind fun t1 => (bif !t1 then some false else (impl_InRange.f k a0_1 (1 : Int) (9 : Int)).bind fun t2 => (bif !t2 then some false else (impl_IsPattern.f k a0_2 a0_3).bind fun t3 => (bif !t3 then some false else (impl_InRange.f k a0_4 (0 : Int) (4 : Int)).bind fun t4 => (bif !t4 then some false else (bif (a0_5 == (1 : Int)) then some ((a0_6 == (0 : Int)) && (a0_7 == (0 : Int))) else (bif (a0_5 == (2 : Int)) then some ((a0_6 == (0 : Int)) && (a0_7 == (0 : Int))) else (bif (a0_5 == (3 : Int)) then (impl_IsSite.f k a0_6 a0_7).bind fun t5 => some t5 else some false)))))))
def impl_IsRule.Γ (k : Nat) : Ct κ := assoc [(111, impl_InRange.C k), (122, impl_IsPattern.C k), (153, impl_IsSite.C k)]
def impl_IsRule.LH (k : Nat) : Nat → Option (LHi κ) := assoc []
theorem impl_IsRule.hΓ (k : Nat) : ∀ f g, impl_IsRule.Γ k f = some g → CSound Tryz.prog f g := G_cons (impl_InRange.ok k) (G_cons (impl_IsPattern.ok k) (G_cons (impl_IsSite.ok k) G_nil))
theorem impl_IsRule.lok (k : Nat) : LOK ti (impl_IsRule.Γ k) (impl_IsRule.LH k) 0 (loopsOf (bodyOf Tryz.f112)) :=
  (show loopsOf (bodyOf Tryz.f112) = [] by kernel_rfl) ▸ LOK_nil
def impl_IsRule.sig : List PSh := [.agg [.sc, .sc, .sc, .sc, .sc, .sc, .sc, .sc]]
def impl_IsRule.g (y : Bool) : Ret κ := ⟨.v (.bool y), [], []⟩
def impl_IsRule.out (r : Ret κ) : Option Bool :=
  match r with
  | ⟨.v (.bool z0), [], []⟩ => some (z0)
  | _ => none
theorem impl_IsRule.out_ok (r : Ret κ) (y : Bool) (h : impl_IsRule.out r = some y) : r = impl_IsRule.g y := by
  unfold impl_IsRule.out at h
  split at h
  · obtain rfl := Option.some.inj h
    rfl
  · cases h
def impl_IsRule.body (k : Nat) (vs : List AV) (bs : List (Blk κ)) : Option (Lf κ) :=
  match vs, bs with
  | [.agg [.int .i64 a0_0, .int .i64 a0_1, .int .i64 a0_2, .int .i64 a0_3, .int .i64 a0_4, .int .i64 a0_5, .int .i64 a0_6, .int .i64 a0_7]], [] => some ⟨Bool, impl_IsRule.f k a0_0 a0_1 a0_2 a0_3 a0_4 a0_5 a0_6 a0_7, impl_IsRule.g⟩
  | _, _ => none
def impl_IsRule.C (k : Nat) : Nat → List AV → AP κ AV := contract impl_IsRule.sig (impl_IsRule.body k)
theorem impl_IsRule.den (k : Nat) (a0_0 : Int) (a0_1 : Int) (a0_2 : Int) (a0_3 : Int) (a0_4 : Int) (a0_5 : Int) (a0_6 : Int) (a0_7 : Int) : Code.den ti (impl_IsRule.Γ k) (impl_IsRule.LH k) (bodyOf Tryz.f112) (finK ti Tryz.f112.results.toList [] (flags impl_IsRule.sig).length (rwI (flags impl_IsRule.sig) 0) impl_IsRule.out) ⟨envOf (([.agg [.int .i64 a0_0, .int .i64 a0_1, .int .i64 a0_2, .int .i64 a0_3, .int .i64 a0_4, .int .i64 a0_5, .int .i64 a0_6, .int .i64 a0_7]]).zipIdx.map fun q => (q.2, q.1)), hpOf [], (flags impl_IsRule.sig).length⟩ = impl_IsRule.f k a0_0 a0_1 a0_2 a0_3 a0_4 a0_5 a0_6 a0_7 := by kernel_rfl
theorem impl_IsRule.ok (k : Nat) : CSound Tryz.prog 112 (impl_IsRule.C k) :=
  csound κ_ok mixed tok (impl_IsRule.hΓ k) (LH := impl_IsRule.LH k) (fn := Tryz.f112) (c := bodyOf Tryz.f112) Tryz.func112 rfl Tryz.call112 impl_IsRule.sig [] (impl_IsRule.body k) (by kernel_rfl) (impl_IsRule.lok k) (by decide) fun vs bs lf y hl hb hy => by
    unfold impl_IsRule.body at hb
    split at hb
    · obtain rfl := Option.some.inj hb
      exact ⟨impl_IsRule.out, impl_IsRule.out_ok, (impl_IsRule.den k _ _ _ _ _ _ _ _).trans hy⟩
    · cases hb
end Go.Proofs.YtoenilndklbceaaGreat.PFnExactUpdatePackage
