/- What the functions that the law FnExactIsTightFor reaches come to; no conditions. -/
import Derived.Test.YthjdecnheaifkaaPFnExactIsTightFor3
set_option linter.unusedVariables false
set_option maxRecDepth 100000
namespace Go.Proofs.Ythjdecnheaifkaa.PFnExactIsTightFor
open Go Go.Eng Go.Proofs
/-! ### laws_FnExactIsTightFor -/
def laws_FnExactIsTightFor.f (k : Nat) (a0 : List T_laws_Op) (a1 : List T_laws_Flow) (a2 : Int) : Option Bool :=
  (laws_szOpS.f k a0 (1048576 : Int)).bind fun t1 => (bif decide (t1 < (0 : Int)) then some true else (laws_szFlowS.f k a1 t1).bind fun t2 => (bif decide (t2 < (0 : Int)) then some true else (laws_toOpS.f k a0).bind fun t3 => (laws_toFlowS.f k a1).bind fun t4 => (spec_IsTightFor.f k t3 t4 a2).bind fun t5 => (laws_toOpS.f k a0).bind fun t6 => (laws_toFlowS.f k a1).bind fun t7 => (impl_IsTightFor.f k t6 t7 a2).bind fun t8 => (bif !(t8 == t5) then some false else (laws_toOpS.f k a0).bind fun t9 => (laws_eqOpS.f k t6 t9).bind fun t10 => (bif !t10 then some false else (laws_toFlowS.f k a1).bind fun t11 => (laws_eqFlowS.f k t7 t11).bind fun t12 => (bif !t12 then some false else some true)))))
def laws_FnExactIsTightFor.Γ (k : Nat) : Ct κ := assoc [(11, laws_szOpS.C k), (33, laws_szFlowS.C k), (13, laws_toOpS.C k), (35, laws_toFlowS.C k), (34, spec_IsTightFor.C k), (36, impl_IsTightFor.C k), (16, laws_eqOpS.C k), (30, laws_eqFlowS.C k)]
def laws_FnExactIsTightFor.LH (k : Nat) : Nat → Option (LHi κ) := assoc []
theorem laws_FnExactIsTightFor.hΓ (k : Nat) : ∀ f g, laws_FnExactIsTightFor.Γ k f = some g → CSound Try.prog f g := G_cons (laws_szOpS.ok k) (G_cons (laws_szFlowS.ok k) (G_cons (laws_toOpS.ok k) (G_cons (laws_toFlowS.ok k) (G_cons (spec_IsTightFor.ok k) (G_cons (impl_IsTightFor.ok k) (G_cons (laws_eqOpS.ok k) (G_cons (laws_eqFlowS.ok k) G_nil)))))))
theorem laws_FnExactIsTightFor.lok (k : Nat) : LOK ti (laws_FnExactIsTightFor.Γ k) (laws_FnExactIsTightFor.LH k) 2 (loopsOf (bodyOf Try.f6)) :=
  (show loopsOf (bodyOf Try.f6) = [] by kernel_rfl) ▸ LOK_nil
def laws_FnExactIsTightFor.sig : List PSh := [.one (.ro 0), .one (.ro 1), .one .sc]
def laws_FnExactIsTightFor.g (y : Bool) : Ret κ := ⟨.v (.bool y), [], []⟩
def laws_FnExactIsTightFor.out (r : Ret κ) : Option Bool :=
  match r with
  | ⟨.v (.bool z0), [], []⟩ => some (z0)
  | _ => none
theorem laws_FnExactIsTightFor.out_ok (r : Ret κ) (y : Bool) (h : laws_FnExactIsTightFor.out r = some y) : r = laws_FnExactIsTightFor.g y := by
  unfold laws_FnExactIsTightFor.out at h
  split at h
  · obtain rfl := Option.some.inj h
    rfl
  · cases h
def laws_FnExactIsTightFor.body (k : Nat) (vs : List AV) (bs : List (Blk κ)) : Option (Lf κ) :=
  match vs, bs with
  | [.v (.sl 0), .v (.sl 1), .v (.int .i64 a2)], [qb0, qb1] => (asO 0 false qb0).bind fun a0 => (asO 1 false qb1).bind fun a1 => some ⟨Bool, laws_FnExactIsTightFor.f k a0 a1 a2, laws_FnExactIsTightFor.g⟩
  | _, _ => none
def laws_FnExactIsTightFor.C (k : Nat) : Nat → List AV → AP κ AV := contract laws_FnExactIsTightFor.sig (laws_FnExactIsTightFor.body k)
theorem laws_FnExactIsTightFor.den (k : Nat) (a0 : List T_laws_Op) (a1 : List T_laws_Flow) (a2 : Int) : Code.den ti (laws_FnExactIsTightFor.Γ k) (laws_FnExactIsTightFor.LH k) (bodyOf Try.f6) (finK ti Try.f6.results.toList [] (flags laws_FnExactIsTightFor.sig).length (rwI (flags laws_FnExactIsTightFor.sig) 0) laws_FnExactIsTightFor.out) ⟨envOf (([.v (.sl 0), .v (.sl 1), .v (.int .i64 a2)]).zipIdx.map fun q => (q.2, q.1)), hpOf [.rows 0 false a0, .rows 1 false a1], (flags laws_FnExactIsTightFor.sig).length⟩ = laws_FnExactIsTightFor.f k a0 a1 a2 := by kernel_rfl
theorem laws_FnExactIsTightFor.ok (k : Nat) : CSound Try.prog 6 (laws_FnExactIsTightFor.C k) :=
  csound κ_ok mixed tok (laws_FnExactIsTightFor.hΓ k) (LH := laws_FnExactIsTightFor.LH k) (fn := Try.f6) (c := bodyOf Try.f6) Try.func6 rfl Try.call6 laws_FnExactIsTightFor.sig [] (laws_FnExactIsTightFor.body k) (by kernel_rfl) (laws_FnExactIsTightFor.lok k) (by decide) fun vs bs lf y hl hb hy => by
    unfold laws_FnExactIsTightFor.body at hb
    split at hb
    · obtain ⟨_, rfl, hb_1⟩ := asO_bind hb
      obtain ⟨_, rfl, hb_2⟩ := asO_bind hb_1
      obtain rfl := Option.some.inj hb_2
      exact ⟨laws_FnExactIsTightFor.out, laws_FnExactIsTightFor.out_ok, (laws_FnExactIsTightFor.den k _ _ _).trans hy⟩
    · cases hb
end Go.Proofs.Ythjdecnheaifkaa.PFnExactIsTightFor
