/- What the functions that the law FnExactOwnersSent reaches come to; no conditions. -/
import Derived.Test.YthjdecnheaifkaaPFnExactOwnersSent1
set_option linter.unusedVariables false
set_option maxRecDepth 100000
namespace Go.Proofs.Ythjdecnheaifkaa.PFnExactOwnersSent
open Go Go.Eng Go.Proofs
/-! ### impl_OwnersSent -/
def impl_OwnersSent.f (k : Nat) (a0 : List T_impl_Op) : Option (List Int) :=
  (impl_ownersOf.f k a0 (5 : Int)).bind fun t1 => some t1
def impl_OwnersSent.Γ (k : Nat) : Ct κ := assoc [(79, impl_ownersOf.C k)]
def impl_OwnersSent.LH (k : Nat) : Nat → Option (LHi κ) := assoc []
theorem impl_OwnersSent.hΓ (k : Nat) : ∀ f g, impl_OwnersSent.Γ k f = some g → CSound Try.prog f g := G_cons (impl_ownersOf.ok k) G_nil
theorem impl_OwnersSent.lok (k : Nat) : LOK ti (impl_OwnersSent.Γ k) (impl_OwnersSent.LH k) 1 (loopsOf (bodyOf Try.f45)) :=
  (show loopsOf (bodyOf Try.f45) = [] by kernel_rfl) ▸ LOK_nil
def impl_OwnersSent.sig : List PSh := [.one (.ro 1)]
def impl_OwnersSent.g (y : List Int) : Ret κ := ⟨.v (.sl 1), [], [.rows 2 true y]⟩
def impl_OwnersSent.out (r : Ret κ) : Option (List Int) :=
  match r with
  | ⟨.v (.sl 1), [], [q0]⟩ => (asO 2 true q0).bind fun z0 => some (z0)
  | _ => none
theorem impl_OwnersSent.out_ok (r : Ret κ) (y : List Int) (h : impl_OwnersSent.out r = some y) : r = impl_OwnersSent.g y := by
  unfold impl_OwnersSent.out at h
  split at h
  · obtain ⟨_, rfl, h_1⟩ := asO_bind h
    obtain rfl := Option.some.inj h_1
    rfl
  · cases h
def impl_OwnersSent.body (k : Nat) (vs : List AV) (bs : List (Blk κ)) : Option (Lf κ) :=
  match vs, bs with
  | [.v (.sl 0)], [qb0] => (asO 1 false qb0).bind fun a0 => some ⟨List Int, impl_OwnersSent.f k a0, impl_OwnersSent.g⟩
  | _, _ => none
def impl_OwnersSent.C (k : Nat) : Nat → List AV → AP κ AV := contract impl_OwnersSent.sig (impl_OwnersSent.body k)
theorem impl_OwnersSent.den (k : Nat) (a0 : List T_impl_Op) : Code.den ti (impl_OwnersSent.Γ k) (impl_OwnersSent.LH k) (bodyOf Try.f45) (finK ti Try.f45.results.toList [(2, [some 2])] (flags impl_OwnersSent.sig).length (rwI (flags impl_OwnersSent.sig) 0) impl_OwnersSent.out) ⟨envOf (([.v (.sl 0)]).zipIdx.map fun q => (q.2, q.1)), hpOf [.rows 1 false a0], (flags impl_OwnersSent.sig).length⟩ = impl_OwnersSent.f k a0 := by kernel_rfl
theorem impl_OwnersSent.ok (k : Nat) : CSound Try.prog 45 (impl_OwnersSent.C k) :=
  csound κ_ok mixed tok (impl_OwnersSent.hΓ k) (LH := impl_OwnersSent.LH k) (fn := Try.f45) (c := bodyOf Try.f45) Try.func45 rfl Try.call45 impl_OwnersSent.sig [(2, [some 2])] (impl_OwnersSent.body k) (by kernel_rfl) (impl_OwnersSent.lok k) (by decide) fun vs bs lf y hl hb hy => by
    unfold impl_OwnersSent.body at hb
    split at hb
    · obtain ⟨_, rfl, hb_1⟩ := asO_bind hb
      obtain rfl := Option.some.inj hb_1
      exact ⟨impl_OwnersSent.out, impl_OwnersSent.out_ok, (impl_OwnersSent.den k _).trans hy⟩
    · cases hb
/-! ### laws_eqIntS -/
def laws_eqIntS.L4 {R : Type} (k : Nat) (xl0 : List Int) (xl1 : List Int) (X0 : Bool → Option R) (X1 : Unit → Option R) (rec : Int → Option R) (x2 : Int) : Option R :=
  (bif decide (x2 < (xl0.length : Int)) then (bif decide (0 ≤ x2) then (bif decide (x2 < (xl0.length : Int)) then (bif decide (0 ≤ x2) then (bif decide (x2 < (xl1.length : Int)) then (bif ((rd_i64 xl0 x2) != (rd_i64 xl1 x2)) then (X0 false) else (rec (w64 (x2 + (1 : Int))))) else none) else none) else none) else none) else (X1 ()))
def laws_eqIntS.l4 {R : Type} (k : Nat) (xl0 : List Int) (xl1 : List Int) (X0 : Bool → Option R) (X1 : Unit → Option R) : Nat → Int → Option R
  | 0 => fun _ => none
  | n + 1 => laws_eqIntS.L4 k xl0 xl1 X0 X1 (laws_eqIntS.l4 k xl0 xl1 X0 X1 n)
def laws_eqIntS.f (k : Nat) (a0 : List Int) (a1 : List Int) : Option Bool :=
  (bif ((a0.length : Int) != (a1.length : Int)) then some false else (laws_eqIntS.l4 k a0 a1 (fun (y1 : Bool) => some y1) (fun (_ : Unit) => some true) k (0 : Int)))
def laws_eqIntS.h4 (k : Nat) {R : Type} (K : Ex → St κ → Option R) (vs : List AV) (bs : List (Blk κ)) : Option R :=
  match vs, bs with
  | [.v (.sl 0), .v (.sl 1), .v (.int .i64 x2)], [qb0, qb1] => (asO 2 false qb0).bind fun xl0 => (asO 2 false qb1).bind fun xl1 => laws_eqIntS.l4 k xl0 xl1 (fun (z0 : Bool) => K .ret (stOf [(4, [])] [.v (.bool z0)] [.rows 2 false xl0, .rows 2 false xl1])) (fun (_ : Unit) => K (.exit 0) (stOf [(4, [])] [.v .any] [.rows 2 false xl0, .rows 2 false xl1])) k x2
  | _, _ => none
def laws_eqIntS.Γ (k : Nat) : Ct κ := assoc []
def laws_eqIntS.LH (k : Nat) : Nat → Option (LHi κ) := assoc [(4, ⟨2, [(0, [some 2]), (1, [some 2]), (5, [])], [(4, [])], @laws_eqIntS.h4 k⟩)]
theorem laws_eqIntS.hΓ (k : Nat) : ∀ f g, laws_eqIntS.Γ k f = some g → CSound Try.prog f g := G_nil
theorem laws_eqIntS.e4 {R : Type} (K : Ex → St κ → Option R) (k : Nat) (xl0 : List Int) (xl1 : List Int) : ∀ (n : Nat) (x2 : Int), loopN 2 (Code.den ti (laws_eqIntS.Γ k) (laws_eqIntS.LH k) (loopAt Try.f15 0)) [(0, [some 2]), (1, [some 2]), (5, [])] [(4, [])] K n [.v (.sl 0), .v (.sl 1), .v (.int .i64 x2)] [.rows 2 false xl0, .rows 2 false xl1] = laws_eqIntS.l4 k xl0 xl1 (fun (z0 : Bool) => K .ret (stOf [(4, [])] [.v (.bool z0)] [.rows 2 false xl0, .rows 2 false xl1])) (fun (_ : Unit) => K (.exit 0) (stOf [(4, [])] [.v .any] [.rows 2 false xl0, .rows 2 false xl1])) n x2
  | 0, _ => rfl
  | n + 1, x2 => (show loopN 2 (Code.den ti (laws_eqIntS.Γ k) (laws_eqIntS.LH k) (loopAt Try.f15 0)) [(0, [some 2]), (1, [some 2]), (5, [])] [(4, [])] K (n + 1) [.v (.sl 0), .v (.sl 1), .v (.int .i64 x2)] [.rows 2 false xl0, .rows 2 false xl1] = laws_eqIntS.L4 k xl0 xl1 (fun (z0 : Bool) => K .ret (stOf [(4, [])] [.v (.bool z0)] [.rows 2 false xl0, .rows 2 false xl1])) (fun (_ : Unit) => K (.exit 0) (stOf [(4, [])] [.v .any] [.rows 2 false xl0, .rows 2 false xl1])) (fun (x2' : Int) => loopN 2 (Code.den ti (laws_eqIntS.Γ k) (laws_eqIntS.LH k) (loopAt Try.f15 0)) [(0, [some 2]), (1, [some 2]), (5, [])] [(4, [])] K n [.v (.sl 0), .v (.sl 1), .v (.int .i64 x2')] [.rows 2 false xl0, .rows 2 false xl1]) x2 by kernel_rfl).trans (congrArg (fun rec => laws_eqIntS.L4 k xl0 xl1 (fun (z0 : Bool) => K .ret (stOf [(4, [])] [.v (.bool z0)] [.rows 2 false xl0, .rows 2 false xl1])) (fun (_ : Unit) => K (.exit 0) (stOf [(4, [])] [.v .any] [.rows 2 false xl0, .rows 2 false xl1])) rec x2) (funext fun x2' => laws_eqIntS.e4 K k xl0 xl1 n x2'))
theorem laws_eqIntS.q4 (k : Nat) {R : Type} (K : Ex → St κ → Option R) (vs : List AV) (bs : List (Blk κ)) (r : R) (h : laws_eqIntS.h4 k K vs bs = some r) : ∃ n, loopN 2 (Code.den ti (laws_eqIntS.Γ k) (laws_eqIntS.LH k) (loopAt Try.f15 0)) [(0, [some 2]), (1, [some 2]), (5, [])] [(4, [])] K n vs bs = some r := by
  unfold laws_eqIntS.h4 at h
  split at h
  · obtain ⟨_, rfl, h_1⟩ := asO_bind h
    obtain ⟨_, rfl, h_2⟩ := asO_bind h_1
    exact ⟨k, (laws_eqIntS.e4 K k _ _ k _).trans h_2⟩
  · cases h
theorem laws_eqIntS.lok (k : Nat) : LOK ti (laws_eqIntS.Γ k) (laws_eqIntS.LH k) 2 (loopsOf (bodyOf Try.f15)) :=
  (show loopsOf (bodyOf Try.f15) = [loopAt Try.f15 0] by kernel_rfl) ▸ (LOK_cons (g := ⟨2, [(0, [some 2]), (1, [some 2]), (5, [])], [(4, [])], @laws_eqIntS.h4 k⟩) (by kernel_rfl) rfl (fun K vs xs r h => laws_eqIntS.q4 k K vs xs r h) (LOK_nil))
def laws_eqIntS.sig : List PSh := [.one (.ro 2), .one (.ro 2)]
def laws_eqIntS.g (y : Bool) : Ret κ := ⟨.v (.bool y), [], []⟩
def laws_eqIntS.out (r : Ret κ) : Option Bool :=
  match r with
  | ⟨.v (.bool z0), [], []⟩ => some (z0)
  | _ => none
theorem laws_eqIntS.out_ok (r : Ret κ) (y : Bool) (h : laws_eqIntS.out r = some y) : r = laws_eqIntS.g y := by
  unfold laws_eqIntS.out at h
  split at h
  · obtain rfl := Option.some.inj h
    rfl
  · cases h
def laws_eqIntS.body (k : Nat) (vs : List AV) (bs : List (Blk κ)) : Option (Lf κ) :=
  match vs, bs with
  | [.v (.sl 0), .v (.sl 1)], [qb0, qb1] => (asO 2 false qb0).bind fun a0 => (asO 2 false qb1).bind fun a1 => some ⟨Bool, laws_eqIntS.f k a0 a1, laws_eqIntS.g⟩
  | _, _ => none
def laws_eqIntS.C (k : Nat) : Nat → List AV → AP κ AV := contract laws_eqIntS.sig (laws_eqIntS.body k)
theorem laws_eqIntS.den (k : Nat) (a0 : List Int) (a1 : List Int) : Code.den ti (laws_eqIntS.Γ k) (laws_eqIntS.LH k) (bodyOf Try.f15) (finK ti Try.f15.results.toList [] (flags laws_eqIntS.sig).length (rwI (flags laws_eqIntS.sig) 0) laws_eqIntS.out) ⟨envOf (([.v (.sl 0), .v (.sl 1)]).zipIdx.map fun q => (q.2, q.1)), hpOf [.rows 2 false a0, .rows 2 false a1], (flags laws_eqIntS.sig).length⟩ = laws_eqIntS.f k a0 a1 := by kernel_rfl
theorem laws_eqIntS.ok (k : Nat) : CSound Try.prog 15 (laws_eqIntS.C k) :=
  csound κ_ok mixed tok (laws_eqIntS.hΓ k) (LH := laws_eqIntS.LH k) (fn := Try.f15) (c := bodyOf Try.f15) Try.func15 rfl Try.call15 laws_eqIntS.sig [] (laws_eqIntS.body k) (by kernel_rfl) (laws_eqIntS.lok k) (by decide) fun vs bs lf y hl hb hy => by
    unfold laws_eqIntS.body at hb
    split at hb
    · obtain ⟨_, rfl, hb_1⟩ := asO_bind hb
      obtain ⟨_, rfl, hb_2⟩ := asO_bind hb_1
      obtain rfl := Option.some.inj hb_2
      exact ⟨laws_eqIntS.out, laws_eqIntS.out_ok, (laws_eqIntS.den k _ _).trans hy⟩
    · cases hb
/-! ### laws_eqOp -/
def laws_eqOp.f (k : Nat) (a0_0 : Int) (a0_1 : Int) (a0_2 : Int) (a0_3 : Int) (a1_0 : Int) (a1_1 : Int) (a1_2 : Int) (a1_3 : Int) : Option Bool :=
  (bif (a0_0 != a1_0) then some false else (bif (a0_1 != a1_1) then some false else (bif (a0_2 != a1_2) then some false else (bif (a0_3 != a1_3) then some false else some true))))
def laws_eqOp.Γ (k : Nat) : Ct κ := assoc []
def laws_eqOp.LH (k : Nat) : Nat → Option (LHi κ) := assoc []
theorem laws_eqOp.hΓ (k : Nat) : ∀ f g, laws_eqOp.Γ k f = some g → CSound Try.prog f g := G_nil
theorem laws_eqOp.lok (k : Nat) : LOK ti (laws_eqOp.Γ k) (laws_eqOp.LH k) 0 (loopsOf (bodyOf Try.f58)) :=
  (show loopsOf (bodyOf Try.f58) = [] by kernel_rfl) ▸ LOK_nil
def laws_eqOp.sig : List PSh := [.agg [.sc, .sc, .sc, .sc], .agg [.sc, .sc, .sc, .sc]]
def laws_eqOp.g (y : Bool) : Ret κ := ⟨.v (.bool y), [], []⟩
def laws_eqOp.out (r : Ret κ) : Option Bool :=
  match r with
  | ⟨.v (.bool z0), [], []⟩ => some (z0)
  | _ => none
theorem laws_eqOp.out_ok (r : Ret κ) (y : Bool) (h : laws_eqOp.out r = some y) : r = laws_eqOp.g y := by
  unfold laws_eqOp.out at h
  split at h
  · obtain rfl := Option.some.inj h
    rfl
  · cases h
def laws_eqOp.body (k : Nat) (vs : List AV) (bs : List (Blk κ)) : Option (Lf κ) :=
  match vs, bs with
  | [.agg [.int .i64 a0_0, .int .i64 a0_1, .int .i64 a0_2, .int .i64 a0_3], .agg [.int .i64 a1_0, .int .i64 a1_1, .int .i64 a1_2, .int .i64 a1_3]], [] => some ⟨Bool, laws_eqOp.f k a0_0 a0_1 a0_2 a0_3 a1_0 a1_1 a1_2 a1_3, laws_eqOp.g⟩
  | _, _ => none
def laws_eqOp.C (k : Nat) : Nat → List AV → AP κ AV := contract laws_eqOp.sig (laws_eqOp.body k)
theorem laws_eqOp.den (k : Nat) (a0_0 : Int) (a0_1 : Int) (a0_2 : Int) (a0_3 : Int) (a1_0 : Int) (a1_1 : Int) (a1_2 : Int) (a1_3 : Int) : Code.den ti (laws_eqOp.Γ k) (laws_eqOp.LH k) (bodyOf Try.f58) (finK ti Try.f58.results.toList [] (flags laws_eqOp.sig).length (rwI (flags laws_eqOp.sig) 0) laws_eqOp.out) ⟨envOf (([.agg [.int .i64 a0_0, .int .i64 a0_1, .int .i64 a0_2, .int .i64 a0_3], .agg [.int .i64 a1_0, .int .i64 a1_1, .int .i64 a1_2, .int .i64 a1_3]]).zipIdx.map fun q => (q.2, q.1)), hpOf [], (flags laws_eqOp.sig).length⟩ = laws_eqOp.f k a0_0 a0_1 a0_2 a0_3 a1_0 a1_1 a1_2 a1_3 := by kernel_rfl
theorem laws_eqOp.ok (k : Nat) : CSound Try.prog 58 (laws_eqOp.C k) :=
  csound κ_ok mixed tok (laws_eqOp.hΓ k) (LH := laws_eqOp.LH k) (fn := Try.f58) (c := bodyOf Try.f58) Try.func58 rfl Try.call58 laws_eqOp.sig [] (laws_eqOp.body k) (by kernel_rfl) (laws_eqOp.lok k) (by decide) fun vs bs lf y hl hb hy => by
    unfold laws_eqOp.body at hb
    split at hb
    · obtain rfl := Option.some.inj hb
      exact ⟨laws_eqOp.out, laws_eqOp.out_ok, (laws_eqOp.den k _ _ _ _ _ _ _ _).trans hy⟩
    · cases hb
/-! ### laws_eqOpS -/
def laws_eqOpS.L4 {R : Type} (k : Nat) (xl0 : List T_impl_Op) (xl1 : List T_impl_Op) (X0 : Bool → Option R) (X1 : Unit → Option R) (rec : Int → Option R) (x2 : Int) : Option R :=
  (bif decide (x2 < (xl0.length : Int)) then (bif decide (0 ≤ x2) then (bif decide (x2 < (xl0.length : Int)) then (bif decide (0 ≤ x2) then (bif decide (x2 < (xl1.length : Int)) then (laws_eqOp.f k ((rd_impl_Op xl0 x2).f0) ((rd_impl_Op xl0 x2).f1) ((rd_impl_Op xl0 x2).f2) ((rd_impl_Op xl0 x2).f3) ((rd_impl_Op xl1 x2).f0) ((rd_impl_Op xl1 x2).f1) ((rd_impl_Op xl1 x2).f2) ((rd_impl_Op xl1 x2).f3)).bind fun t1 => (bif !t1 then (X0 false) else (rec (w64 (x2 + (1 : Int))))) else none) else none) else none) else none) else (X1 ()))
def laws_eqOpS.l4 {R : Type} (k : Nat) (xl0 : List T_impl_Op) (xl1 : List T_impl_Op) (X0 : Bool → Option R) (X1 : Unit → Option R) : Nat → Int → Option R
  | 0 => fun _ => none
  | n + 1 => laws_eqOpS.L4 k xl0 xl1 X0 X1 (laws_eqOpS.l4 k xl0 xl1 X0 X1 n)
def laws_eqOpS.f (k : Nat) (a0 : List T_impl_Op) (a1 : List T_impl_Op) : Option Bool :=
  (bif ((a0.length : Int) != (a1.length : Int)) then some false else (laws_eqOpS.l4 k a0 a1 (fun (y2 : Bool) => some y2) (fun (_ : Unit) => some true) k (0 : Int)))
def laws_eqOpS.h4 (k : Nat) {R : Type} (K : Ex → St κ → Option R) (vs : List AV) (bs : List (Blk κ)) : Option R :=
  match vs, bs with
  | [.v (.sl 0), .v (.sl 1), .v (.int .i64 x2)], [qb0, qb1] => (asO 1 false qb0).bind fun xl0 => (asO 1 false qb1).bind fun xl1 => laws_eqOpS.l4 k xl0 xl1 (fun (z0 : Bool) => K .ret (stOf [(4, [])] [.v (.bool z0)] [.rows 1 false xl0, .rows 1 false xl1])) (fun (_ : Unit) => K (.exit 0) (stOf [(4, [])] [.v .any] [.rows 1 false xl0, .rows 1 false xl1])) k x2
  | _, _ => none
def laws_eqOpS.Γ (k : Nat) : Ct κ := assoc [(58, laws_eqOp.C k)]
def laws_eqOpS.LH (k : Nat) : Nat → Option (LHi κ) := assoc [(4, ⟨2, [(0, [some 1]), (1, [some 1]), (5, [])], [(4, [])], @laws_eqOpS.h4 k⟩)]
theorem laws_eqOpS.hΓ (k : Nat) : ∀ f g, laws_eqOpS.Γ k f = some g → CSound Try.prog f g := G_cons (laws_eqOp.ok k) G_nil
theorem laws_eqOpS.e4 {R : Type} (K : Ex → St κ → Option R) (k : Nat) (xl0 : List T_impl_Op) (xl1 : List T_impl_Op) : ∀ (n : Nat) (x2 : Int), loopN 2 (Code.den ti (laws_eqOpS.Γ k) (laws_eqOpS.LH k) (loopAt Try.f16 0)) [(0, [some 1]), (1, [some 1]), (5, [])] [(4, [])] K n [.v (.sl 0), .v (.sl 1), .v (.int .i64 x2)] [.rows 1 false xl0, .rows 1 false xl1] = laws_eqOpS.l4 k xl0 xl1 (fun (z0 : Bool) => K .ret (stOf [(4, [])] [.v (.bool z0)] [.rows 1 false xl0, .rows 1 false xl1])) (fun (_ : Unit) => K (.exit 0) (stOf [(4, [])] [.v .any] [.rows 1 false xl0, .rows 1 false xl1])) n x2
  | 0, _ => rfl
  | n + 1, x2 => (show loopN 2 (Code.den ti (laws_eqOpS.Γ k) (laws_eqOpS.LH k) (loopAt Try.f16 0)) [(0, [some 1]), (1, [some 1]), (5, [])] [(4, [])] K (n + 1) [.v (.sl 0), .v (.sl 1), .v (.int .i64 x2)] [.rows 1 false xl0, .rows 1 false xl1] = laws_eqOpS.L4 k xl0 xl1 (fun (z0 : Bool) => K .ret (stOf [(4, [])] [.v (.bool z0)] [.rows 1 false xl0, .rows 1 false xl1])) (fun (_ : Unit) => K (.exit 0) (stOf [(4, [])] [.v .any] [.rows 1 false xl0, .rows 1 false xl1])) (fun (x2' : Int) => loopN 2 (Code.den ti (laws_eqOpS.Γ k) (laws_eqOpS.LH k) (loopAt Try.f16 0)) [(0, [some 1]), (1, [some 1]), (5, [])] [(4, [])] K n [.v (.sl 0), .v (.sl 1), .v (.int .i64 x2')] [.rows 1 false xl0, .rows 1 false xl1]) x2 by kernel_rfl).trans (congrArg (fun rec => laws_eqOpS.L4 k xl0 xl1 (fun (z0 : Bool) => K .ret (stOf [(4, [])] [.v (.bool z0)] [.rows 1 false xl0, .rows 1 false xl1])) (fun (_ : Unit) => K (.exit 0) (stOf [(4, [])] [.v .any] [.rows 1 false xl0, .rows 1 false xl1])) rec x2) (funext fun x2' => laws_eqOpS.e4 K k xl0 xl1 n x2'))
theorem laws_eqOpS.q4 (k : Nat) {R : Type} (K : Ex → St κ → Option R) (vs : List AV) (bs : List (Blk κ)) (r : R) (h : laws_eqOpS.h4 k K vs bs = some r) : ∃ n, loopN 2 (Code.den ti (laws_eqOpS.Γ k) (laws_eqOpS.LH k) (loopAt Try.f16 0)) [(0, [some 1]), (1, [some 1]), (5, [])] [(4, [])] K n vs bs = some r := by
  unfold laws_eqOpS.h4 at h
  split at h
  · obtain ⟨_, rfl, h_1⟩ := asO_bind h
    obtain ⟨_, rfl, h_2⟩ := asO_bind h_1
    exact ⟨k, (laws_eqOpS.e4 K k _ _ k _).trans h_2⟩
  · cases h
theorem laws_eqOpS.lok (k : Nat) : LOK ti (laws_eqOpS.Γ k) (laws_eqOpS.LH k) 2 (loopsOf (bodyOf Try.f16)) :=
  (show loopsOf (bodyOf Try.f16) = [loopAt Try.f16 0] by kernel_rfl) ▸ (LOK_cons (g := ⟨2, [(0, [some 1]), (1, [some 1]), (5, [])], [(4, [])], @laws_eqOpS.h4 k⟩) (by kernel_rfl) rfl (fun K vs xs r h => laws_eqOpS.q4 k K vs xs r h) (LOK_nil))
def laws_eqOpS.sig : List PSh := [.one (.ro 1), .one (.ro 1)]
def laws_eqOpS.g (y : Bool) : Ret κ := ⟨.v (.bool y), [], []⟩
def laws_eqOpS.out (r : Ret κ) : Option Bool :=
  match r with
  | ⟨.v (.bool z0), [], []⟩ => some (z0)
  | _ => none
theorem laws_eqOpS.out_ok (r : Ret κ) (y : Bool) (h : laws_eqOpS.out r = some y) : r = laws_eqOpS.g y := by
  unfold laws_eqOpS.out at h
  split at h
  · obtain rfl := Option.some.inj h
    rfl
  · cases h
def laws_eqOpS.body (k : Nat) (vs : List AV) (bs : List (Blk κ)) : Option (Lf κ) :=
  match vs, bs with
  | [.v (.sl 0), .v (.sl 1)], [qb0, qb1] => (asO 1 false qb0).bind fun a0 => (asO 1 false qb1).bind fun a1 => some ⟨Bool, laws_eqOpS.f k a0 a1, laws_eqOpS.g⟩
  | _, _ => none
def laws_eqOpS.C (k : Nat) : Nat → List AV → AP κ AV := contract laws_eqOpS.sig (laws_eqOpS.body k)
theorem laws_eqOpS.den (k : Nat) (a0 : List T_impl_Op) (a1 : List T_impl_Op) : Code.den ti (laws_eqOpS.Γ k) (laws_eqOpS.LH k) (bodyOf Try.f16) (finK ti Try.f16.results.toList [] (flags laws_eqOpS.sig).length (rwI (flags laws_eqOpS.sig) 0) laws_eqOpS.out) ⟨envOf (([.v (.sl 0), .v (.sl 1)]).zipIdx.map fun q => (q.2, q.1)), hpOf [.rows 1 false a0, .rows 1 false a1], (flags laws_eqOpS.sig).length⟩ = laws_eqOpS.f k a0 a1 := by kernel_rfl
theorem laws_eqOpS.ok (k : Nat) : CSound Try.prog 16 (laws_eqOpS.C k) :=
  csound κ_ok mixed tok (laws_eqOpS.hΓ k) (LH := laws_eqOpS.LH k) (fn := Try.f16) (c := bodyOf Try.f16) Try.func16 rfl Try.call16 laws_eqOpS.sig [] (laws_eqOpS.body k) (by kernel_rfl) (laws_eqOpS.lok k) (by decide) fun vs bs lf y hl hb hy => by
    unfold laws_eqOpS.body at hb
    split at hb
    · obtain ⟨_, rfl, hb_1⟩ := asO_bind hb
      obtain ⟨_, rfl, hb_2⟩ := asO_bind hb_1
      obtain rfl := Option.some.inj hb_2
      exact ⟨laws_eqOpS.out, laws_eqOpS.out_ok, (laws_eqOpS.den k _ _).trans hy⟩
    · cases hb
/-! ### laws_markOpS -/
def laws_markOpS.L2 {R : Type} (k : Nat) (X0 : Int → List T_impl_Op → Option R) (rec : Int → Int → List T_impl_Op → Option R) (x1 : Int) (x2 : Int) (xl0 : List T_impl_Op) : Option R :=
  (bif decide (x2 < (xl0.length : Int)) then (bif decide (0 ≤ x2) then (bif decide (x2 < (xl0.length : Int)) then (let l1 : List T_impl_Op := (xl0.set (x2).toNat (⟨x1, (rd_impl_Op xl0 x2).f1, (rd_impl_Op xl0 x2).f2, (rd_impl_Op xl0 x2).f3⟩ : T_impl_Op)); (bif decide (0 ≤ x2) then (bif decide (x2 < (l1.length : Int)) then (let l2 : List T_impl_Op := (l1.set (x2).toNat (⟨(rd_impl_Op l1 x2).f0, (w64 (x1 + (1 : Int))), (rd_impl_Op l1 x2).f2, (rd_impl_Op l1 x2).f3⟩ : T_impl_Op)); (bif decide (0 ≤ x2) then (bif decide (x2 < (l2.length : Int)) then (let l3 : List T_impl_Op := (l2.set (x2).toNat (⟨(rd_impl_Op l2 x2).f0, (rd_impl_Op l2 x2).f1, (w64 ((w64 (x1 + (1 : Int))) + (1 : Int))), (rd_impl_Op l2 x2).f3⟩ : T_impl_Op)); (bif decide (0 ≤ x2) then (bif decide (x2 < (l3.length : Int)) then (let l4 : List T_impl_Op := (l3.set (x2).toNat (⟨(rd_impl_Op l3 x2).f0, (rd_impl_Op l3 x2).f1, (rd_impl_Op l3 x2).f2, (w64 ((w64 ((w64 (x1 + (1 : Int))) + (1 : Int))) + (1 : Int)))⟩ : T_impl_Op)); (rec (w64 ((w64 ((w64 ((w64 (x1 + (1 : Int))) + (1 : Int))) + (1 : Int))) + (1 : Int))) (w64 (x2 + (1 : Int))) l4)) else none) else none)) else none) else none)) else none) else none)) else none) else none) else (X0 x1 xl0))
def laws_markOpS.l2 {R : Type} (k : Nat) (X0 : Int → List T_impl_Op → Option R) : Nat → Int → Int → List T_impl_Op → Option R
  | 0 => fun _ _ _ => none
  | n + 1 => laws_markOpS.L2 k X0 (laws_markOpS.l2 k X0 n)
def laws_markOpS.f (k : Nat) (a0 : List T_impl_Op) (a1 : Int) : Option (Int × List T_impl_Op) :=
  (laws_markOpS.l2 k (fun (y5 : Int) (y6 : List T_impl_Op) => some (y5, y6)) k a1 (0 : Int) a0)
def laws_markOpS.h2 (k : Nat) {R : Type} (K : Ex → St κ → Option R) (vs : List AV) (bs : List (Blk κ)) : Option R :=
  match vs, bs with
  | [.v (.sl 0), .v (.int .i64 x1), .v (.int .i64 x2)], [qb0] => (asO 1 true qb0).bind fun xl0 => laws_markOpS.l2 k (fun (z0 : Int) (zl0 : List T_impl_Op) => K (.exit 0) (stOf [(1, [])] [.v (.int .i64 z0)] [.rows 1 true zl0])) k x1 x2 xl0
  | _, _ => none
def laws_markOpS.Γ (k : Nat) : Ct κ := assoc []
def laws_markOpS.LH (k : Nat) : Nat → Option (LHi κ) := assoc [(2, ⟨1, [(0, [some 1]), (1, []), (5, [])], [(1, [])], @laws_markOpS.h2 k⟩)]
theorem laws_markOpS.hΓ (k : Nat) : ∀ f g, laws_markOpS.Γ k f = some g → CSound Try.prog f g := G_nil
theorem laws_markOpS.e2 {R : Type} (K : Ex → St κ → Option R) (k : Nat) : ∀ (n : Nat) (x1 : Int) (x2 : Int) (xl0 : List T_impl_Op), loopN 1 (Code.den ti (laws_markOpS.Γ k) (laws_markOpS.LH k) (loopAt Try.f17 0)) [(0, [some 1]), (1, []), (5, [])] [(1, [])] K n [.v (.sl 0), .v (.int .i64 x1), .v (.int .i64 x2)] [.rows 1 true xl0] = laws_markOpS.l2 k (fun (z0 : Int) (zl0 : List T_impl_Op) => K (.exit 0) (stOf [(1, [])] [.v (.int .i64 z0)] [.rows 1 true zl0])) n x1 x2 xl0
  | 0, _, _, _ => rfl
  | n + 1, x1, x2, xl0 => (show loopN 1 (Code.den ti (laws_markOpS.Γ k) (laws_markOpS.LH k) (loopAt Try.f17 0)) [(0, [some 1]), (1, []), (5, [])] [(1, [])] K (n + 1) [.v (.sl 0), .v (.int .i64 x1), .v (.int .i64 x2)] [.rows 1 true xl0] = laws_markOpS.L2 k (fun (z0 : Int) (zl0 : List T_impl_Op) => K (.exit 0) (stOf [(1, [])] [.v (.int .i64 z0)] [.rows 1 true zl0])) (fun (x1' : Int) (x2' : Int) (xl0' : List T_impl_Op) => loopN 1 (Code.den ti (laws_markOpS.Γ k) (laws_markOpS.LH k) (loopAt Try.f17 0)) [(0, [some 1]), (1, []), (5, [])] [(1, [])] K n [.v (.sl 0), .v (.int .i64 x1'), .v (.int .i64 x2')] [.rows 1 true xl0']) x1 x2 xl0 by kernel_rfl).trans (congrArg (fun rec => laws_markOpS.L2 k (fun (z0 : Int) (zl0 : List T_impl_Op) => K (.exit 0) (stOf [(1, [])] [.v (.int .i64 z0)] [.rows 1 true zl0])) rec x1 x2 xl0) (funext fun x1' => funext fun x2' => funext fun xl0' => laws_markOpS.e2 K k n x1' x2' xl0'))
theorem laws_markOpS.q2 (k : Nat) {R : Type} (K : Ex → St κ → Option R) (vs : List AV) (bs : List (Blk κ)) (r : R) (h : laws_markOpS.h2 k K vs bs = some r) : ∃ n, loopN 1 (Code.den ti (laws_markOpS.Γ k) (laws_markOpS.LH k) (loopAt Try.f17 0)) [(0, [some 1]), (1, []), (5, [])] [(1, [])] K n vs bs = some r := by
  unfold laws_markOpS.h2 at h
  split at h
  · obtain ⟨_, rfl, h_1⟩ := asO_bind h
    exact ⟨k, (laws_markOpS.e2 K k k _ _ _).trans h_1⟩
  · cases h
theorem laws_markOpS.lok (k : Nat) : LOK ti (laws_markOpS.Γ k) (laws_markOpS.LH k) 1 (loopsOf (bodyOf Try.f17)) :=
  (show loopsOf (bodyOf Try.f17) = [loopAt Try.f17 0] by kernel_rfl) ▸ (LOK_cons (g := ⟨1, [(0, [some 1]), (1, []), (5, [])], [(1, [])], @laws_markOpS.h2 k⟩) (by kernel_rfl) rfl (fun K vs xs r h => laws_markOpS.q2 k K vs xs r h) (LOK_nil))
def laws_markOpS.sig : List PSh := [.one (.rw 1), .one .sc]
def laws_markOpS.g (y : Int × List T_impl_Op) : Ret κ := ⟨.v (.int .i64 y.1), [.rows 1 true y.2], []⟩
def laws_markOpS.out (r : Ret κ) : Option (Int × List T_impl_Op) :=
  match r with
  | ⟨.v (.int .i64 z0), [q1], []⟩ => (asO 1 true q1).bind fun z1 => some (z0, z1)
  | _ => none
theorem laws_markOpS.out_ok (r : Ret κ) (y : Int × List T_impl_Op) (h : laws_markOpS.out r = some y) : r = laws_markOpS.g y := by
  unfold laws_markOpS.out at h
  split at h
  · obtain ⟨_, rfl, h_1⟩ := asO_bind h
    obtain rfl := Option.some.inj h_1
    rfl
  · cases h
def laws_markOpS.body (k : Nat) (vs : List AV) (bs : List (Blk κ)) : Option (Lf κ) :=
  match vs, bs with
  | [.v (.sl 0), .v (.int .i64 a1)], [qb0] => (asO 1 true qb0).bind fun a0 => some ⟨Int × List T_impl_Op, laws_markOpS.f k a0 a1, laws_markOpS.g⟩
  | _, _ => none
def laws_markOpS.C (k : Nat) : Nat → List AV → AP κ AV := contract laws_markOpS.sig (laws_markOpS.body k)
theorem laws_markOpS.den (k : Nat) (a0 : List T_impl_Op) (a1 : Int) : Code.den ti (laws_markOpS.Γ k) (laws_markOpS.LH k) (bodyOf Try.f17) (finK ti Try.f17.results.toList [] (flags laws_markOpS.sig).length (rwI (flags laws_markOpS.sig) 0) laws_markOpS.out) ⟨envOf (([.v (.sl 0), .v (.int .i64 a1)]).zipIdx.map fun q => (q.2, q.1)), hpOf [.rows 1 true a0], (flags laws_markOpS.sig).length⟩ = laws_markOpS.f k a0 a1 := by kernel_rfl
theorem laws_markOpS.ok (k : Nat) : CSound Try.prog 17 (laws_markOpS.C k) :=
  csound κ_ok mixed tok (laws_markOpS.hΓ k) (LH := laws_markOpS.LH k) (fn := Try.f17) (c := bodyOf Try.f17) Try.func17 rfl Try.call17 laws_markOpS.sig [] (laws_markOpS.body k) (by kernel_rfl) (laws_markOpS.lok k) (by decide) fun vs bs lf y hl hb hy => by
    unfold laws_markOpS.body at hb
    split at hb
    · obtain ⟨_, rfl, hb_1⟩ := asO_bind hb
      obtain rfl := Option.some.inj hb_1
      exact ⟨laws_markOpS.out, laws_markOpS.out_ok, (laws_markOpS.den k _ _).trans hy⟩
    · cases hb
/-! ### laws_markIntS -/
def laws_markIntS.L2 {R : Type} (k : Nat) (X0 : Int → List Int → Option R) (rec : Int → Int → List Int → Option R) (x1 : Int) (x2 : Int) (xl0 : List Int) : Option R :=
  (bif decide (x2 < (xl0.length : Int)) then (bif decide (0 ≤ x2) then (bif decide (x2 < (xl0.length : Int)) then (rec (w64 (x1 + (1 : Int))) (w64 (x2 + (1 : Int))) (xl0.set (x2).toNat x1)) else none) else none) else (X0 x1 xl0))
def laws_markIntS.l2 {R : Type} (k : Nat) (X0 : Int → List Int → Option R) : Nat → Int → Int → List Int → Option R
  | 0 => fun _ _ _ => none
  | n + 1 => laws_markIntS.L2 k X0 (laws_markIntS.l2 k X0 n)
def laws_markIntS.f (k : Nat) (a0 : List Int) (a1 : Int) : Option (Int × List Int) :=
  (laws_markIntS.l2 k (fun (y1 : Int) (y2 : List Int) => some (y1, y2)) k a1 (0 : Int) a0)
def laws_markIntS.h2 (k : Nat) {R : Type} (K : Ex → St κ → Option R) (vs : List AV) (bs : List (Blk κ)) : Option R :=
  match vs, bs with
  | [.v (.sl 0), .v (.int .i64 x1), .v (.int .i64 x2)], [qb0] => (asO 2 true qb0).bind fun xl0 => laws_markIntS.l2 k (fun (z0 : Int) (zl0 : List Int) => K (.exit 0) (stOf [(1, [])] [.v (.int .i64 z0)] [.rows 2 true zl0])) k x1 x2 xl0
  | _, _ => none
def laws_markIntS.Γ (k : Nat) : Ct κ := assoc []
def laws_markIntS.LH (k : Nat) : Nat → Option (LHi κ) := assoc [(2, ⟨1, [(0, [some 2]), (1, []), (5, [])], [(1, [])], @laws_markIntS.h2 k⟩)]
theorem laws_markIntS.hΓ (k : Nat) : ∀ f g, laws_markIntS.Γ k f = some g → CSound Try.prog f g := G_nil
theorem laws_markIntS.e2 {R : Type} (K : Ex → St κ → Option R) (k : Nat) : ∀ (n : Nat) (x1 : Int) (x2 : Int) (xl0 : List Int), loopN 1 (Code.den ti (laws_markIntS.Γ k) (laws_markIntS.LH k) (loopAt Try.f18 0)) [(0, [some 2]), (1, []), (5, [])] [(1, [])] K n [.v (.sl 0), .v (.int .i64 x1), .v (.int .i64 x2)] [.rows 2 true xl0] = laws_markIntS.l2 k (fun (z0 : Int) (zl0 : List Int) => K (.exit 0) (stOf [(1, [])] [.v (.int .i64 z0)] [.rows 2 true zl0])) n x1 x2 xl0
  | 0, _, _, _ => rfl
  | n + 1, x1, x2, xl0 => (show loopN 1 (Code.den ti (laws_markIntS.Γ k) (laws_markIntS.LH k) (loopAt Try.f18 0)) [(0, [some 2]), (1, []), (5, [])] [(1, [])] K (n + 1) [.v (.sl 0), .v (.int .i64 x1), .v (.int .i64 x2)] [.rows 2 true xl0] = laws_markIntS.L2 k (fun (z0 : Int) (zl0 : List Int) => K (.exit 0) (stOf [(1, [])] [.v (.int .i64 z0)] [.rows 2 true zl0])) (fun (x1' : Int) (x2' : Int) (xl0' : List Int) => loopN 1 (Code.den ti (laws_markIntS.Γ k) (laws_markIntS.LH k) (loopAt Try.f18 0)) [(0, [some 2]), (1, []), (5, [])] [(1, [])] K n [.v (.sl 0), .v (.int .i64 x1'), .v (.int .i64 x2')] [.rows 2 true xl0']) x1 x2 xl0 by kernel_rfl).trans (congrArg (fun rec => laws_markIntS.L2 k (fun (z0 : Int) (zl0 : List Int) => K (.exit 0) (stOf [(1, [])] [.v (.int .i64 z0)] [.rows 2 true zl0])) rec x1 x2 xl0) (funext fun x1' => funext fun x2' => funext fun xl0' => laws_markIntS.e2 K k n x1' x2' xl0'))
theorem laws_markIntS.q2 (k : Nat) {R : Type} (K : Ex → St κ → Option R) (vs : List AV) (bs : List (Blk κ)) (r : R) (h : laws_markIntS.h2 k K vs bs = some r) : ∃ n, loopN 1 (Code.den ti (laws_markIntS.Γ k) (laws_markIntS.LH k) (loopAt Try.f18 0)) [(0, [some 2]), (1, []), (5, [])] [(1, [])] K n vs bs = some r := by
  unfold laws_markIntS.h2 at h
  split at h
  · obtain ⟨_, rfl, h_1⟩ := asO_bind h
    exact ⟨k, (laws_markIntS.e2 K k k _ _ _).trans h_1⟩
  · cases h
theorem laws_markIntS.lok (k : Nat) : LOK ti (laws_markIntS.Γ k) (laws_markIntS.LH k) 1 (loopsOf (bodyOf Try.f18)) :=
  (show loopsOf (bodyOf Try.f18) = [loopAt Try.f18 0] by kernel_rfl) ▸ (LOK_cons (g := ⟨1, [(0, [some 2]), (1, []), (5, [])], [(1, [])], @laws_markIntS.h2 k⟩) (by kernel_rfl) rfl (fun K vs xs r h => laws_markIntS.q2 k K vs xs r h) (LOK_nil))
def laws_markIntS.sig : List PSh := [.one (.rw 2), .one .sc]
def laws_markIntS.g (y : Int × List Int) : Ret κ := ⟨.v (.int .i64 y.1), [.rows 2 true y.2], []⟩
def laws_markIntS.out (r : Ret κ) : Option (Int × List Int) :=
  match r with
  | ⟨.v (.int .i64 z0), [q1], []⟩ => (asO 2 true q1).bind fun z1 => some (z0, z1)
  | _ => none
theorem laws_markIntS.out_ok (r : Ret κ) (y : Int × List Int) (h : laws_markIntS.out r = some y) : r = laws_markIntS.g y := by
  unfold laws_markIntS.out at h
  split at h
  · obtain ⟨_, rfl, h_1⟩ := asO_bind h
    obtain rfl := Option.some.inj h_1
    rfl
  · cases h
def laws_markIntS.body (k : Nat) (vs : List AV) (bs : List (Blk κ)) : Option (Lf κ) :=
  match vs, bs with
  | [.v (.sl 0), .v (.int .i64 a1)], [qb0] => (asO 2 true qb0).bind fun a0 => some ⟨Int × List Int, laws_markIntS.f k a0 a1, laws_markIntS.g⟩
  | _, _ => none
def laws_markIntS.C (k : Nat) : Nat → List AV → AP κ AV := contract laws_markIntS.sig (laws_markIntS.body k)
theorem laws_markIntS.den (k : Nat) (a0 : List Int) (a1 : Int) : Code.den ti (laws_markIntS.Γ k) (laws_markIntS.LH k) (bodyOf Try.f18) (finK ti Try.f18.results.toList [] (flags laws_markIntS.sig).length (rwI (flags laws_markIntS.sig) 0) laws_markIntS.out) ⟨envOf (([.v (.sl 0), .v (.int .i64 a1)]).zipIdx.map fun q => (q.2, q.1)), hpOf [.rows 2 true a0], (flags laws_markIntS.sig).length⟩ = laws_markIntS.f k a0 a1 := by kernel_rfl
theorem laws_markIntS.ok (k : Nat) : CSound Try.prog 18 (laws_markIntS.C k) :=
  csound κ_ok mixed tok (laws_markIntS.hΓ k) (LH := laws_markIntS.LH k) (fn := Try.f18) (c := bodyOf Try.f18) Try.func18 rfl Try.call18 laws_markIntS.sig [] (laws_markIntS.body k) (by kernel_rfl) (laws_markIntS.lok k) (by decide) fun vs bs lf y hl hb hy => by
    unfold laws_markIntS.body at hb
    split at hb
    · obtain ⟨_, rfl, hb_1⟩ := asO_bind hb
      obtain rfl := Option.some.inj hb_1
      exact ⟨laws_markIntS.out, laws_markIntS.out_ok, (laws_markIntS.den k _ _).trans hy⟩
    · cases hb
/-! ### laws_heldIntS -/
def laws_heldIntS.L2 {R : Type} (k : Nat) (xl0 : List Int) (X0 : Int → Int → Option R) (X1 : Int → Option R) (rec : Int → Int → Option R) (x1 : Int) (x2 : Int) : Option R :=
  (bif decide (x2 < (xl0.length : Int)) then (bif decide (0 ≤ x2) then (bif decide (x2 < (xl0.length : Int)) then (bif ((rd_i64 xl0 x2) != x1) then (X0 x1 (-1 : Int)) else (rec (w64 (x1 + (1 : Int))) (w64 (x2 + (1 : Int))))) else none) else none) else (X1 x1))
def laws_heldIntS.l2 {R : Type} (k : Nat) (xl0 : List Int) (X0 : Int → Int → Option R) (X1 : Int → Option R) : Nat → Int → Int → Option R
  | 0 => fun _ _ => none
  | n + 1 => laws_heldIntS.L2 k xl0 X0 X1 (laws_heldIntS.l2 k xl0 X0 X1 n)
def laws_heldIntS.f (k : Nat) (a0 : List Int) (a1 : Int) : Option Int :=
  (laws_heldIntS.l2 k a0 (fun (y1 : Int) (y2 : Int) => some y2) (fun (y3 : Int) => some y3) k a1 (0 : Int))
def laws_heldIntS.h2 (k : Nat) {R : Type} (K : Ex → St κ → Option R) (vs : List AV) (bs : List (Blk κ)) : Option R :=
  match vs, bs with
  | [.v (.sl 0), .v (.int .i64 x1), .v (.int .i64 x2)], [qb0] => (asO 2 false qb0).bind fun xl0 => laws_heldIntS.l2 k xl0 (fun (z0 : Int) (z1 : Int) => K .ret (stOf [(1, []), (4, [])] [.v (.int .i64 z0), .v (.int .i64 z1)] [.rows 2 false xl0])) (fun (z0 : Int) => K (.exit 0) (stOf [(1, []), (4, [])] [.v (.int .i64 z0), .v .any] [.rows 2 false xl0])) k x1 x2
  | _, _ => none
def laws_heldIntS.Γ (k : Nat) : Ct κ := assoc []
def laws_heldIntS.LH (k : Nat) : Nat → Option (LHi κ) := assoc [(2, ⟨1, [(0, [some 2]), (1, []), (5, [])], [(1, []), (4, [])], @laws_heldIntS.h2 k⟩)]
theorem laws_heldIntS.hΓ (k : Nat) : ∀ f g, laws_heldIntS.Γ k f = some g → CSound Try.prog f g := G_nil
theorem laws_heldIntS.e2 {R : Type} (K : Ex → St κ → Option R) (k : Nat) (xl0 : List Int) : ∀ (n : Nat) (x1 : Int) (x2 : Int), loopN 1 (Code.den ti (laws_heldIntS.Γ k) (laws_heldIntS.LH k) (loopAt Try.f19 0)) [(0, [some 2]), (1, []), (5, [])] [(1, []), (4, [])] K n [.v (.sl 0), .v (.int .i64 x1), .v (.int .i64 x2)] [.rows 2 false xl0] = laws_heldIntS.l2 k xl0 (fun (z0 : Int) (z1 : Int) => K .ret (stOf [(1, []), (4, [])] [.v (.int .i64 z0), .v (.int .i64 z1)] [.rows 2 false xl0])) (fun (z0 : Int) => K (.exit 0) (stOf [(1, []), (4, [])] [.v (.int .i64 z0), .v .any] [.rows 2 false xl0])) n x1 x2
  | 0, _, _ => rfl
  | n + 1, x1, x2 => (show loopN 1 (Code.den ti (laws_heldIntS.Γ k) (laws_heldIntS.LH k) (loopAt Try.f19 0)) [(0, [some 2]), (1, []), (5, [])] [(1, []), (4, [])] K (n + 1) [.v (.sl 0), .v (.int .i64 x1), .v (.int .i64 x2)] [.rows 2 false xl0] = laws_heldIntS.L2 k xl0 (fun (z0 : Int) (z1 : Int) => K .ret (stOf [(1, []), (4, [])] [.v (.int .i64 z0), .v (.int .i64 z1)] [.rows 2 false xl0])) (fun (z0 : Int) => K (.exit 0) (stOf [(1, []), (4, [])] [.v (.int .i64 z0), .v .any] [.rows 2 false xl0])) (fun (x1' : Int) (x2' : Int) => loopN 1 (Code.den ti (laws_heldIntS.Γ k) (laws_heldIntS.LH k) (loopAt Try.f19 0)) [(0, [some 2]), (1, []), (5, [])] [(1, []), (4, [])] K n [.v (.sl 0), .v (.int .i64 x1'), .v (.int .i64 x2')] [.rows 2 false xl0]) x1 x2 by kernel_rfl).trans (congrArg (fun rec => laws_heldIntS.L2 k xl0 (fun (z0 : Int) (z1 : Int) => K .ret (stOf [(1, []), (4, [])] [.v (.int .i64 z0), .v (.int .i64 z1)] [.rows 2 false xl0])) (fun (z0 : Int) => K (.exit 0) (stOf [(1, []), (4, [])] [.v (.int .i64 z0), .v .any] [.rows 2 false xl0])) rec x1 x2) (funext fun x1' => funext fun x2' => laws_heldIntS.e2 K k xl0 n x1' x2'))
theorem laws_heldIntS.q2 (k : Nat) {R : Type} (K : Ex → St κ → Option R) (vs : List AV) (bs : List (Blk κ)) (r : R) (h : laws_heldIntS.h2 k K vs bs = some r) : ∃ n, loopN 1 (Code.den ti (laws_heldIntS.Γ k) (laws_heldIntS.LH k) (loopAt Try.f19 0)) [(0, [some 2]), (1, []), (5, [])] [(1, []), (4, [])] K n vs bs = some r := by
  unfold laws_heldIntS.h2 at h
  split at h
  · obtain ⟨_, rfl, h_1⟩ := asO_bind h
    exact ⟨k, (laws_heldIntS.e2 K k _ k _ _).trans h_1⟩
  · cases h
theorem laws_heldIntS.lok (k : Nat) : LOK ti (laws_heldIntS.Γ k) (laws_heldIntS.LH k) 1 (loopsOf (bodyOf Try.f19)) :=
  (show loopsOf (bodyOf Try.f19) = [loopAt Try.f19 0] by kernel_rfl) ▸ (LOK_cons (g := ⟨1, [(0, [some 2]), (1, []), (5, [])], [(1, []), (4, [])], @laws_heldIntS.h2 k⟩) (by kernel_rfl) rfl (fun K vs xs r h => laws_heldIntS.q2 k K vs xs r h) (LOK_nil))
def laws_heldIntS.sig : List PSh := [.one (.ro 2), .one .sc]
def laws_heldIntS.g (y : Int) : Ret κ := ⟨.v (.int .i64 y), [], []⟩
def laws_heldIntS.out (r : Ret κ) : Option Int :=
  match r with
  | ⟨.v (.int .i64 z0), [], []⟩ => some (z0)
  | _ => none
theorem laws_heldIntS.out_ok (r : Ret κ) (y : Int) (h : laws_heldIntS.out r = some y) : r = laws_heldIntS.g y := by
  unfold laws_heldIntS.out at h
  split at h
  · obtain rfl := Option.some.inj h
    rfl
  · cases h
def laws_heldIntS.body (k : Nat) (vs : List AV) (bs : List (Blk κ)) : Option (Lf κ) :=
  match vs, bs with
  | [.v (.sl 0), .v (.int .i64 a1)], [qb0] => (asO 2 false qb0).bind fun a0 => some ⟨Int, laws_heldIntS.f k a0 a1, laws_heldIntS.g⟩
  | _, _ => none
def laws_heldIntS.C (k : Nat) : Nat → List AV → AP κ AV := contract laws_heldIntS.sig (laws_heldIntS.body k)
theorem laws_heldIntS.den (k : Nat) (a0 : List Int) (a1 : Int) : Code.den ti (laws_heldIntS.Γ k) (laws_heldIntS.LH k) (bodyOf Try.f19) (finK ti Try.f19.results.toList [] (flags laws_heldIntS.sig).length (rwI (flags laws_heldIntS.sig) 0) laws_heldIntS.out) ⟨envOf (([.v (.sl 0), .v (.int .i64 a1)]).zipIdx.map fun q => (q.2, q.1)), hpOf [.rows 2 false a0], (flags laws_heldIntS.sig).length⟩ = laws_heldIntS.f k a0 a1 := by kernel_rfl
theorem laws_heldIntS.ok (k : Nat) : CSound Try.prog 19 (laws_heldIntS.C k) :=
  csound κ_ok mixed tok (laws_heldIntS.hΓ k) (LH := laws_heldIntS.LH k) (fn := Try.f19) (c := bodyOf Try.f19) Try.func19 rfl Try.call19 laws_heldIntS.sig [] (laws_heldIntS.body k) (by kernel_rfl) (laws_heldIntS.lok k) (by decide) fun vs bs lf y hl hb hy => by
    unfold laws_heldIntS.body at hb
    split at hb
    · obtain ⟨_, rfl, hb_1⟩ := asO_bind hb
      obtain rfl := Option.some.inj hb_1
      exact ⟨laws_heldIntS.out, laws_heldIntS.out_ok, (laws_heldIntS.den k _ _).trans hy⟩
    · cases hb
/-! ### laws_FnExactOwnersSent -/
def laws_FnExactOwnersSent.f (k : Nat) (a0 : List T_laws_Op) : Option Bool :=
  (laws_szOpS.f k a0 (1048576 : Int)).bind fun t1 => (bif decide (t1 < (0 : Int)) then some true else (laws_toOpS.f k a0).bind fun t2 => (spec_OwnersSent.f k t2).bind fun t3 => (laws_toOpS.f k a0).bind fun t4 => (impl_OwnersSent.f k t4).bind fun t5 => (laws_eqIntS.f k t5 t3).bind fun t6 => (bif !t6 then some false else (laws_toOpS.f k a0).bind fun t7 => (laws_eqOpS.f k t4 t7).bind fun t8 => (bif !t8 then some false else (laws_markOpS.f k t4 (1 : Int)).bind fun t9 => (bif decide (t9.1 < (0 : Int)) then some false else (laws_eqIntS.f k t5 t3).bind fun t10 => (bif !t10 then some false else (laws_markIntS.f k t5 (1 : Int)).bind fun t11 => (laws_heldIntS.f k t11.2 (1 : Int)).bind fun t12 => (bif decide (t12 < (0 : Int)) then some false else (bif (t12 != t11.1) then some false else (laws_toOpS.f k a0).bind fun t13 => (impl_OwnersSent.f k t13).bind fun t14 => (laws_eqIntS.f k t14 t3).bind fun t15 => (bif !t15 then some false else (laws_heldIntS.f k t11.2 (1 : Int)).bind fun t16 => (bif decide (t16 < (0 : Int)) then some false else (bif (t16 != t11.1) then some false else some true))))))))))
def laws_FnExactOwnersSent.Γ (k : Nat) : Ct κ := assoc [(11, laws_szOpS.C k), (13, laws_toOpS.C k), (44, spec_OwnersSent.C k), (45, impl_OwnersSent.C k), (15, laws_eqIntS.C k), (16, laws_eqOpS.C k), (17, laws_markOpS.C k), (18, laws_markIntS.C k), (19, laws_heldIntS.C k)]
def laws_FnExactOwnersSent.LH (k : Nat) : Nat → Option (LHi κ) := assoc []
theorem laws_FnExactOwnersSent.hΓ (k : Nat) : ∀ f g, laws_FnExactOwnersSent.Γ k f = some g → CSound Try.prog f g := G_cons (laws_szOpS.ok k) (G_cons (laws_toOpS.ok k) (G_cons (spec_OwnersSent.ok k) (G_cons (impl_OwnersSent.ok k) (G_cons (laws_eqIntS.ok k) (G_cons (laws_eqOpS.ok k) (G_cons (laws_markOpS.ok k) (G_cons (laws_markIntS.ok k) (G_cons (laws_heldIntS.ok k) G_nil))))))))
theorem laws_FnExactOwnersSent.lok (k : Nat) : LOK ti (laws_FnExactOwnersSent.Γ k) (laws_FnExactOwnersSent.LH k) 1 (loopsOf (bodyOf Try.f9)) :=
  (show loopsOf (bodyOf Try.f9) = [] by kernel_rfl) ▸ LOK_nil
def laws_FnExactOwnersSent.sig : List PSh := [.one (.ro 0)]
def laws_FnExactOwnersSent.g (y : Bool) : Ret κ := ⟨.v (.bool y), [], []⟩
def laws_FnExactOwnersSent.out (r : Ret κ) : Option Bool :=
  match r with
  | ⟨.v (.bool z0), [], []⟩ => some (z0)
  | _ => none
theorem laws_FnExactOwnersSent.out_ok (r : Ret κ) (y : Bool) (h : laws_FnExactOwnersSent.out r = some y) : r = laws_FnExactOwnersSent.g y := by
  unfold laws_FnExactOwnersSent.out at h
  split at h
  · obtain rfl := Option.some.inj h
    rfl
  · cases h
def laws_FnExactOwnersSent.body (k : Nat) (vs : List AV) (bs : List (Blk κ)) : Option (Lf κ) :=
  match vs, bs with
  | [.v (.sl 0)], [qb0] => (asO 0 false qb0).bind fun a0 => some ⟨Bool, laws_FnExactOwnersSent.f k a0, laws_FnExactOwnersSent.g⟩
  | _, _ => none
def laws_FnExactOwnersSent.C (k : Nat) : Nat → List AV → AP κ AV := contract laws_FnExactOwnersSent.sig (laws_FnExactOwnersSent.body k)
theorem laws_FnExactOwnersSent.den (k : Nat) (a0 : List T_laws_Op) : Code.den ti (laws_FnExactOwnersSent.Γ k) (laws_FnExactOwnersSent.LH k) (bodyOf Try.f9) (finK ti Try.f9.results.toList [] (flags laws_FnExactOwnersSent.sig).length (rwI (flags laws_FnExactOwnersSent.sig) 0) laws_FnExactOwnersSent.out) ⟨envOf (([.v (.sl 0)]).zipIdx.map fun q => (q.2, q.1)), hpOf [.rows 0 false a0], (flags laws_FnExactOwnersSent.sig).length⟩ = laws_FnExactOwnersSent.f k a0 := by kernel_rfl
theorem laws_FnExactOwnersSent.ok (k : Nat) : CSound Try.prog 9 (laws_FnExactOwnersSent.C k) :=
  csound κ_ok mixed tok (laws_FnExactOwnersSent.hΓ k) (LH := laws_FnExactOwnersSent.LH k) (fn := Try.f9) (c := bodyOf Try.f9) Try.func9 rfl Try.call9 laws_FnExactOwnersSent.sig [] (laws_FnExactOwnersSent.body k) (by kernel_rfl) (laws_FnExactOwnersSent.lok k) (by decide) fun vs bs lf y hl hb hy => by
    unfold laws_FnExactOwnersSent.body at hb
    split at hb
    · obtain ⟨_, rfl, hb_1⟩ := asO_bind hb
      obtain rfl := Option.some.inj hb_1
      exact ⟨laws_FnExactOwnersSent.out, laws_FnExactOwnersSent.out_ok, (laws_FnExactOwnersSent.den k _).trans hy⟩
    · cases hb
end Go.Proofs.Ythjdecnheaifkaa.PFnExactOwnersSent
