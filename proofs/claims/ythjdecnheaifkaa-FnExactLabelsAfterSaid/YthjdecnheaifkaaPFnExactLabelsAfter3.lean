/- What the functions that the law FnExactLabelsAfter reaches come to; no conditions. -/
import Derived.Test.YthjdecnheaifkaaPFnExactLabelsAfter2
set_option linter.unusedVariables false
set_option maxRecDepth 100000
namespace Go.Proofs.Ythjdecnheaifkaa.PFnExactLabelsAfter
open Go Go.Eng Go.Proofs
/-! ### laws_markIntS -/
def laws_markIntS.L2 {R : Type} (k : Nat) (X0 : Int → List Int → Option R) (rec : Int → Int → List Int → Option R) (x1 : Int) (x2 : Int) (xl0 : List Int) : Option R :=
  (bif decide (x2 < (xl0.length : Int)) then (bif decide (0 ≤ x2) then (bif decide (x2 < (xl0.length : Int)) then (rec (w64 (x1 + (1 : Int))) (w64 (x2 + (1 : Int))) (xl0.set (x2).toNat x1)) else none) else none) else (X0 x1 xl0))
def laws_markIntS.l2 {R : Type} (k : Nat) (X0 : Int → List Int → Option R) : Nat → Int → Int → List Int → Option R
  | 0 => fun _ _ _ => none
  | n + 1 => laws_markIntS.L2 k X0 (laws_markIntS.l2 k X0 n)
def laws_markIntS.f (k : Nat) (a0 : List Int) (a1 : Int) : Option (Int × List Int) :=
  (laws_markIntS.l2 k (fun (y1 : Int) (y2 : List Int) => some (y1, y2)) k a1 (0 : Int) a0)
def laws_markIntS.h2 (k : Nat) {R : Type} (K : Ex → St κ → Option R) (vs : List AV) (bs : List (Blk κ)) : Option R :=
  match vs, bs with
  | [.v (.sl 0), .v (.int .i64 x1), .v (.int .i64 x2)], [qb0] => (asO 2 true qb0).bind fun xl0 => laws_markIntS.l2 k (fun (z0 : Int) (zl0 : List Int) => K (.exit 0) (stOf [(1, [])] [.v (.int .i64 z0)] [.rows 2 true zl0])) k x1 x2 xl0
  | _, _ => none
def laws_markIntS.Γ (k : Nat) : Ct κ := assoc []
def laws_markIntS.LH (k : Nat) : Nat → Option (LHi κ) := assoc [(2, ⟨1, [(0, [some 2]), (1, []), (5, [])], [(1, [])], @laws_markIntS.h2 k⟩)]
theorem laws_markIntS.hΓ (k : Nat) : ∀ f g, laws_markIntS.Γ k f = some g → CSound Try.prog f g := G_nil
theorem laws_markIntS.e2 {R : Type} (K : Ex → St κ → Option R) (k : Nat) : ∀ (n : Nat) (x1 : Int) (x2 : Int) (xl0 : List Int), loopN 1 (Code.den ti (laws_markIntS.Γ k) (laws_markIntS.LH k) (loopAt Try.f18 0)) [(0, [some 2]), (1, []), (5, [])] [(1, [])] K n [.v (.sl 0), .v (.int .i64 x1), .v (.int .i64 x2)] [.rows 2 true xl0] = laws_markIntS.l2 k (fun (z0 : Int) (zl0 : List Int) => K (.exit 0) (stOf [(1, [])] [.v (.int .i64 z0)] [.rows 2 true zl0])) n x1 x2 xl0
  | 0, _, _, _ => rfl
  | n + 1, x1, x2, xl0 => (show loopN 1 (Code.den ti (laws_markIntS.Γ k) (laws_markIntS.LH k) (loopAt Try.f18 0)) [(0, [some 2]), (1, []), (5, [])] [(1, [])] K (n + 1) [.v (.sl 0), .v (.int .i64 x1), .v (.int .i64 x2)] [.rows 2 true xl0] = laws_markIntS.L2 k (fun (z0 : Int) (zl0 : List Int) => K (.exit 0) (stOf [(1, [])] [.v (.int .i64 z0)] [.rows 2 true zl0])) (fun (x1' : Int) (x2' : Int) (xl0' : List Int) => loopN 1 (Code.den ti (laws_markIntS.Γ k) (laws_markIntS.LH k) (loopAt Try.f18 0)) [(0, [some 2]), (1, []), (5, [])] [(1, [])] K n [.v (.sl 0), .v (.int .i64 x1'), .v (.int .i64 x2')] [.rows 2 true xl0']) x1 x2 xl0 by kernel_rfl).trans (congrArg (fun rec => laws_markIntS.L2 k (fun (z0 : Int) (zl0 : List Int) => K (.exit 0) (stOf [(1, [])] [.v (.int .i64 z0)] [.rows 2 true zl0])) rec x1 x2 xl0) (funext fun x1' => funext fun x2' => funext fun xl0' => laws_markIntS.e2 K k n x1' x2' xl0'))
theorem laws_markIntS.q2 (k : Nat) {R : Type} (K : Ex → St κ → Option R) (vs : List AV) (bs : List (Blk κ)) (r : R) (h : laws_markIntS.h2 k K vs bs = some r) : ∃ n, loopN 1 (Code.den ti (laws_markIntS.Γ k) (laws_markIntS.LH k) (loopAt Try.f18 0)) [(0, [some 2]), (1, []), (5, [])] [(1, [])] K n vs bs = some r := by
  unfold laws_markIntS.h2 at h
  split at h
  · obtain ⟨_, rfl, h_1⟩ := asO_bind h
    exact ⟨k, (laws_markIntS.e2 K k k _ _ _).trans h_1⟩
  · cases h
theorem laws_markIntS.lok (k : Nat) : LOK ti (laws_markIntS.Γ k) (laws_markIntS.LH k) 1 (loopsOf (bodyOf Try.f18)) :=
  (show loopsOf (bodyOf Try.f18) = [loopAt Try.f18 0] by kernel_rfl) ▸ (LOK_cons (g := ⟨1, [(0, [some 2]), (1, []), (5, [])], [(1, [])], @laws_markIntS.h2 k⟩) (by kernel_rfl) rfl (fun K vs xs r h => laws_markIntS.q2 k K vs xs r h) (LOK_nil))
def laws_markIntS.sig : List PSh := [.one (.rw 2), .one .sc]
def laws_markIntS.g (y : Int × List Int) : Ret κ := ⟨.v (.int .i64 y.1), [.rows 2 true y.2], []⟩
def laws_markIntS.out (r : Ret κ) : Option (Int × List Int) :=
  match r with
  | ⟨.v (.int .i64 z0), [q1], []⟩ => (asO 2 true q1).bind fun z1 => some (z0, z1)
  | _ => none
theorem laws_markIntS.out_ok (r : Ret κ) (y : Int × List Int) (h : laws_markIntS.out r = some y) : r = laws_markIntS.g y := by
  unfold laws_markIntS.out at h
  split at h
  · obtain ⟨_, rfl, h_1⟩ := asO_bind h
    obtain rfl := Option.some.inj h_1
    rfl
  · cases h
def laws_markIntS.body (k : Nat) (vs : List AV) (bs : List (Blk κ)) : Option (Lf κ) :=
  match vs, bs with
  | [.v (.sl 0), .v (.int .i64 a1)], [qb0] => (asO 2 true qb0).bind fun a0 => some ⟨Int × List Int, laws_markIntS.f k a0 a1, laws_markIntS.g⟩
  | _, _ => none
def laws_markIntS.C (k : Nat) : Nat → List AV → AP κ AV := contract laws_markIntS.sig (laws_markIntS.body k)
theorem laws_markIntS.den (k : Nat) (a0 : List Int) (a1 : Int) : Code.den ti (laws_markIntS.Γ k) (laws_markIntS.LH k) (bodyOf Try.f18) (finK ti Try.f18.results.toList [] (flags laws_markIntS.sig).length (rwI (flags laws_markIntS.sig) 0) laws_markIntS.out) ⟨envOf (([.v (.sl 0), .v (.int .i64 a1)]).zipIdx.map fun q => (q.2, q.1)), hpOf [.rows 2 true a0], (flags laws_markIntS.sig).length⟩ = laws_markIntS.f k a0 a1 := by kernel_rfl
theorem laws_markIntS.ok (k : Nat) : CSound Try.prog 18 (laws_markIntS.C k) :=
  csound κ_ok mixed tok (laws_markIntS.hΓ k) (LH := laws_markIntS.LH k) (fn := Try.f18) (c := bodyOf Try.f18) Try.func18 rfl Try.call18 laws_markIntS.sig [] (laws_markIntS.body k) (by kernel_rfl) (laws_markIntS.lok k) (by decide) fun vs bs lf y hl hb hy => by
    unfold laws_markIntS.body at hb
    split at hb
    · obtain ⟨_, rfl, hb_1⟩ := asO_bind hb
      obtain rfl := Option.some.inj hb_1
      exact ⟨laws_markIntS.out, laws_markIntS.out_ok, (laws_markIntS.den k _ _).trans hy⟩
    · cases hb
/-! ### laws_heldIntS -/
def laws_heldIntS.L2 {R : Type} (k : Nat) (xl0 : List Int) (X0 : Int → Int → Option R) (X1 : Int → Option R) (rec : Int → Int → Option R) (x1 : Int) (x2 : Int) : Option R :=
  (bif decide (x2 < (xl0.length : Int)) then (bif decide (0 ≤ x2) then (bif decide (x2 < (xl0.length : Int)) then (bif ((rd_i64 xl0 x2) != x1) then (X0 x1 (-1 : Int)) else (rec (w64 (x1 + (1 : Int))) (w64 (x2 + (1 : Int))))) else none) else none) else (X1 x1))
def laws_heldIntS.l2 {R : Type} (k : Nat) (xl0 : List Int) (X0 : Int → Int → Option R) (X1 : Int → Option R) : Nat → Int → Int → Option R
  | 0 => fun _ _ => none
  | n + 1 => laws_heldIntS.L2 k xl0 X0 X1 (laws_heldIntS.l2 k xl0 X0 X1 n)
def laws_heldIntS.f (k : Nat) (a0 : List Int) (a1 : Int) : Option Int :=
  (laws_heldIntS.l2 k a0 (fun (y1 : Int) (y2 : Int) => some y2) (fun (y3 : Int) => some y3) k a1 (0 : Int))
def laws_heldIntS.h2 (k : Nat) {R : Type} (K : Ex → St κ → Option R) (vs : List AV) (bs : List (Blk κ)) : Option R :=
  match vs, bs with
  | [.v (.sl 0), .v (.int .i64 x1), .v (.int .i64 x2)], [qb0] => (asO 2 false qb0).bind fun xl0 => laws_heldIntS.l2 k xl0 (fun (z0 : Int) (z1 : Int) => K .ret (stOf [(1, []), (4, [])] [.v (.int .i64 z0), .v (.int .i64 z1)] [.rows 2 false xl0])) (fun (z0 : Int) => K (.exit 0) (stOf [(1, []), (4, [])] [.v (.int .i64 z0), .v .any] [.rows 2 false xl0])) k x1 x2
  | _, _ => none
def laws_heldIntS.Γ (k : Nat) : Ct κ := assoc []
def laws_heldIntS.LH (k : Nat) : Nat → Option (LHi κ) := assoc [(2, ⟨1, [(0, [some 2]), (1, []), (5, [])], [(1, []), (4, [])], @laws_heldIntS.h2 k⟩)]
theorem laws_heldIntS.hΓ (k : Nat) : ∀ f g, laws_heldIntS.Γ k f = some g → CSound Try.prog f g := G_nil
theorem laws_heldIntS.e2 {R : Type} (K : Ex → St κ → Option R) (k : Nat) (xl0 : List Int) : ∀ (n : Nat) (x1 : Int) (x2 : Int), loopN 1 (Code.den ti (laws_heldIntS.Γ k) (laws_heldIntS.LH k) (loopAt Try.f19 0)) [(0, [some 2]), (1, []), (5, [])] [(1, []), (4, [])] K n [.v (.sl 0), .v (.int .i64 x1), .v (.int .i64 x2)] [.rows 2 false xl0] = laws_heldIntS.l2 k xl0 (fun (z0 : Int) (z1 : Int) => K .ret (stOf [(1, []), (4, [])] [.v (.int .i64 z0), .v (.int .i64 z1)] [.rows 2 false xl0])) (fun (z0 : Int) => K (.exit 0) (stOf [(1, []), (4, [])] [.v (.int .i64 z0), .v .any] [.rows 2 false xl0])) n x1 x2
  | 0, _, _ => rfl
  | n + 1, x1, x2 => (show loopN 1 (Code.den ti (laws_heldIntS.Γ k) (laws_heldIntS.LH k) (loopAt Try.f19 0)) [(0, [some 2]), (1, []), (5, [])] [(1, []), (4, [])] K (n + 1) [.v (.sl 0), .v (.int .i64 x1), .v (.int .i64 x2)] [.rows 2 false xl0] = laws_heldIntS.L2 k xl0 (fun (z0 : Int) (z1 : Int) => K .ret (stOf [(1, []), (4, [])] [.v (.int .i64 z0), .v (.int .i64 z1)] [.rows 2 false xl0])) (fun (z0 : Int) => K (.exit 0) (stOf [(1, []), (4, [])] [.v (.int .i64 z0), .v .any] [.rows 2 false xl0])) (fun (x1' : Int) (x2' : Int) => loopN 1 (Code.den ti (laws_heldIntS.Γ k) (laws_heldIntS.LH k) (loopAt Try.f19 0)) [(0, [some 2]), (1, []), (5, [])] [(1, []), (4, [])] K n [.v (.sl 0), .v (.int .i64 x1'), .v (.int .i64 x2')] [.rows 2 false xl0]) x1 x2 by kernel_rfl).trans (congrArg (fun rec => laws_heldIntS.L2 k xl0 (fun (z0 : Int) (z1 : Int) => K .ret (stOf [(1, []), (4, [])] [.v (.int .i64 z0), .v (.int .i64 z1)] [.rows 2 false xl0])) (fun (z0 : Int) => K (.exit 0) (stOf [(1, []), (4, [])] [.v (.int .i64 z0), .v .any] [.rows 2 false xl0])) rec x1 x2) (funext fun x1' => funext fun x2' => laws_heldIntS.e2 K k xl0 n x1' x2'))
theorem laws_heldIntS.q2 (k : Nat) {R : Type} (K : Ex → St κ → Option R) (vs : List AV) (bs : List (Blk κ)) (r : R) (h : laws_heldIntS.h2 k K vs bs = some r) : ∃ n, loopN 1 (Code.den ti (laws_heldIntS.Γ k) (laws_heldIntS.LH k) (loopAt Try.f19 0)) [(0, [some 2]), (1, []), (5, [])] [(1, []), (4, [])] K n vs bs = some r := by
  unfold laws_heldIntS.h2 at h
  split at h
  · obtain ⟨_, rfl, h_1⟩ := asO_bind h
    exact ⟨k, (laws_heldIntS.e2 K k _ k _ _).trans h_1⟩
  · cases h
theorem laws_heldIntS.lok (k : Nat) : LOK ti (laws_heldIntS.Γ k) (laws_heldIntS.LH k) 1 (loopsOf (bodyOf Try.f19)) :=
  (show loopsOf (bodyOf Try.f19) = [loopAt Try.f19 0] by kernel_rfl) ▸ (LOK_cons (g := ⟨1, [(0, [some 2]), (1, []), (5, [])], [(1, []), (4, [])], @laws_heldIntS.h2 k⟩) (by kernel_rfl) rfl (fun K vs xs r h => laws_heldIntS.q2 k K vs xs r h) (LOK_nil))
def laws_heldIntS.sig : List PSh := [.one (.ro 2), .one .sc]
def laws_heldIntS.g (y : Int) : Ret κ := ⟨.v (.int .i64 y), [], []⟩
def laws_heldIntS.out (r : Ret κ) : Option Int :=
  match r with
  | ⟨.v (.int .i64 z0), [], []⟩ => some (z0)
  | _ => none
theorem laws_heldIntS.out_ok (r : Ret κ) (y : Int) (h : laws_heldIntS.out r = some y) : r = laws_heldIntS.g y := by
  unfold laws_heldIntS.out at h
  split at h
  · obtain rfl := Option.some.inj h
    rfl
  · cases h
def laws_heldIntS.body (k : Nat) (vs : List AV) (bs : List (Blk κ)) : Option (Lf κ) :=
  match vs, bs with
  | [.v (.sl 0), .v (.int .i64 a1)], [qb0] => (asO 2 false qb0).bind fun a0 => some ⟨Int, laws_heldIntS.f k a0 a1, laws_heldIntS.g⟩
  | _, _ => none
def laws_heldIntS.C (k : Nat) : Nat → List AV → AP κ AV := contract laws_heldIntS.sig (laws_heldIntS.body k)
theorem laws_heldIntS.den (k : Nat) (a0 : List Int) (a1 : Int) : Code.den ti (laws_heldIntS.Γ k) (laws_heldIntS.LH k) (bodyOf Try.f19) (finK ti Try.f19.results.toList [] (flags laws_heldIntS.sig).length (rwI (flags laws_heldIntS.sig) 0) laws_heldIntS.out) ⟨envOf (([.v (.sl 0), .v (.int .i64 a1)]).zipIdx.map fun q => (q.2, q.1)), hpOf [.rows 2 false a0], (flags laws_heldIntS.sig).length⟩ = laws_heldIntS.f k a0 a1 := by kernel_rfl
theorem laws_heldIntS.ok (k : Nat) : CSound Try.prog 19 (laws_heldIntS.C k) :=
  csound κ_ok mixed tok (laws_heldIntS.hΓ k) (LH := laws_heldIntS.LH k) (fn := Try.f19) (c := bodyOf Try.f19) Try.func19 rfl Try.call19 laws_heldIntS.sig [] (laws_heldIntS.body k) (by kernel_rfl) (laws_heldIntS.lok k) (by decide) fun vs bs lf y hl hb hy => by
    unfold laws_heldIntS.body at hb
    split at hb
    · obtain ⟨_, rfl, hb_1⟩ := asO_bind hb
      obtain rfl := Option.some.inj hb_1
      exact ⟨laws_heldIntS.out, laws_heldIntS.out_ok, (laws_heldIntS.den k _ _).trans hy⟩
    · cases hb
/-! ### laws_FnExactLabelsAfter -/
def laws_FnExactLabelsAfter.f (k : Nat) (a0 : List T_laws_Op) : Option Bool :=
  (laws_szOpS.f k a0 (1048576 : Int)).bind fun t1 => (bif decide (t1 < (0 : Int)) then some true else (laws_toOpS.f k a0).bind fun t2 => (spec_LabelsAfter.f k t2).bind fun t3 => (laws_toOpS.f k a0).bind fun t4 => (impl_LabelsAfter.f k t4).bind fun t5 => (laws_eqIntS.f k t5 t3).bind fun t6 => (bif !t6 then some false else (laws_toOpS.f k a0).bind fun t7 => (laws_eqOpS.f k t4 t7).bind fun t8 => (bif !t8 then some false else (laws_markOpS.f k t4 (1 : Int)).bind fun t9 => (bif decide (t9.1 < (0 : Int)) then some false else (laws_eqIntS.f k t5 t3).bind fun t10 => (bif !t10 then some false else (laws_markIntS.f k t5 (1 : Int)).bind fun t11 => (laws_heldIntS.f k t11.2 (1 : Int)).bind fun t12 => (bif decide (t12 < (0 : Int)) then some false else (bif (t12 != t11.1) then some false else (laws_toOpS.f k a0).bind fun t13 => (impl_LabelsAfter.f k t13).bind fun t14 => (laws_eqIntS.f k t14 t3).bind fun t15 => (bif !t15 then some false else (laws_heldIntS.f k t11.2 (1 : Int)).bind fun t16 => (bif decide (t16 < (0 : Int)) then some false else (bif (t16 != t11.1) then some false else some true))))))))))
def laws_FnExactLabelsAfter.Γ (k : Nat) : Ct κ := assoc [(11, laws_szOpS.C k), (13, laws_toOpS.C k), (12, spec_LabelsAfter.C k), (14, impl_LabelsAfter.C k), (15, laws_eqIntS.C k), (16, laws_eqOpS.C k), (17, laws_markOpS.C k), (18, laws_markIntS.C k), (19, laws_heldIntS.C k)]
def laws_FnExactLabelsAfter.LH (k : Nat) : Nat → Option (LHi κ) := assoc []
theorem laws_FnExactLabelsAfter.hΓ (k : Nat) : ∀ f g, laws_FnExactLabelsAfter.Γ k f = some g → CSound Try.prog f g := G_cons (laws_szOpS.ok k) (G_cons (laws_toOpS.ok k) (G_cons (spec_LabelsAfter.ok k) (G_cons (impl_LabelsAfter.ok k) (G_cons (laws_eqIntS.ok k) (G_cons (laws_eqOpS.ok k) (G_cons (laws_markOpS.ok k) (G_cons (laws_markIntS.ok k) (G_cons (laws_heldIntS.ok k) G_nil))))))))
theorem laws_FnExactLabelsAfter.lok (k : Nat) : LOK ti (laws_FnExactLabelsAfter.Γ k) (laws_FnExactLabelsAfter.LH k) 1 (loopsOf (bodyOf Try.f3)) :=
  (show loopsOf (bodyOf Try.f3) = [] by kernel_rfl) ▸ LOK_nil
def laws_FnExactLabelsAfter.sig : List PSh := [.one (.ro 0)]
def laws_FnExactLabelsAfter.g (y : Bool) : Ret κ := ⟨.v (.bool y), [], []⟩
def laws_FnExactLabelsAfter.out (r : Ret κ) : Option Bool :=
  match r with
  | ⟨.v (.bool z0), [], []⟩ => some (z0)
  | _ => none
theorem laws_FnExactLabelsAfter.out_ok (r : Ret κ) (y : Bool) (h : laws_FnExactLabelsAfter.out r = some y) : r = laws_FnExactLabelsAfter.g y := by
  unfold laws_FnExactLabelsAfter.out at h
  split at h
  · obtain rfl := Option.some.inj h
    rfl
  · cases h
def laws_FnExactLabelsAfter.body (k : Nat) (vs : List AV) (bs : List (Blk κ)) : Option (Lf κ) :=
  match vs, bs with
  | [.v (.sl 0)], [qb0] => (asO 0 false qb0).bind fun a0 => some ⟨Bool, laws_FnExactLabelsAfter.f k a0, laws_FnExactLabelsAfter.g⟩
  | _, _ => none
def laws_FnExactLabelsAfter.C (k : Nat) : Nat → List AV → AP κ AV := contract laws_FnExactLabelsAfter.sig (laws_FnExactLabelsAfter.body k)
theorem laws_FnExactLabelsAfter.den (k : Nat) (a0 : List T_laws_Op) : Code.den ti (laws_FnExactLabelsAfter.Γ k) (laws_FnExactLabelsAfter.LH k) (bodyOf Try.f3) (finK ti Try.f3.results.toList [] (flags laws_FnExactLabelsAfter.sig).length (rwI (flags laws_FnExactLabelsAfter.sig) 0) laws_FnExactLabelsAfter.out) ⟨envOf (([.v (.sl 0)]).zipIdx.map fun q => (q.2, q.1)), hpOf [.rows 0 false a0], (flags laws_FnExactLabelsAfter.sig).length⟩ = laws_FnExactLabelsAfter.f k a0 := by kernel_rfl
theorem laws_FnExactLabelsAfter.ok (k : Nat) : CSound Try.prog 3 (laws_FnExactLabelsAfter.C k) :=
  csound κ_ok mixed tok (laws_FnExactLabelsAfter.hΓ k) (LH := laws_FnExactLabelsAfter.LH k) (fn := Try.f3) (c := bodyOf Try.f3) Try.func3 rfl Try.call3 laws_FnExactLabelsAfter.sig [] (laws_FnExactLabelsAfter.body k) (by kernel_rfl) (laws_FnExactLabelsAfter.lok k) (by decide) fun vs bs lf y hl hb hy => by
    unfold laws_FnExactLabelsAfter.body at hb
    split at hb
    · obtain ⟨_, rfl, hb_1⟩ := asO_bind hb
      obtain rfl := Option.some.inj hb_1
      exact ⟨laws_FnExactLabelsAfter.out, laws_FnExactLabelsAfter.out_ok, (laws_FnExactLabelsAfter.den k _).trans hy⟩
    · cases hb
end Go.Proofs.Ythjdecnheaifkaa.PFnExactLabelsAfter
