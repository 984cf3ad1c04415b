/- What the functions that the law FnExactOwnersSent reaches come to; no conditions. -/
import Derived.Test.YthjdecnheaifkaaPFnExactOwnersSentT
set_option linter.unusedVariables false
set_option maxRecDepth 100000
namespace Go.Proofs.Ythjdecnheaifkaa.PFnExactOwnersSent
open Go Go.Eng Go.Proofs
/-! ### laws_szOpS -/
def laws_szOpS.f (k : Nat) (a0 : List T_laws_Op) (a1 : Int) : Option Int :=
  (bif decide ((w64 (a1 - (a0.length : Int))) < (0 : Int)) then some (-1 : Int) else some (w64 (a1 - (a0.length : Int))))
def laws_szOpS.Γ (k : Nat) : Ct κ := assoc []
def laws_szOpS.LH (k : Nat) : Nat → Option (LHi κ) := assoc []
theorem laws_szOpS.hΓ (k : Nat) : ∀ f g, laws_szOpS.Γ k f = some g → CSound Try.prog f g := G_nil
theorem laws_szOpS.lok (k : Nat) : LOK ti (laws_szOpS.Γ k) (laws_szOpS.LH k) 1 (loopsOf (bodyOf Try.f11)) :=
  (show loopsOf (bodyOf Try.f11) = [] by kernel_rfl) ▸ LOK_nil
def laws_szOpS.sig : List PSh := [.one (.ro 0), .one .sc]
def laws_szOpS.g (y : Int) : Ret κ := ⟨.v (.int .i64 y), [], []⟩
def laws_szOpS.out (r : Ret κ) : Option Int :=
  match r with
  | ⟨.v (.int .i64 z0), [], []⟩ => some (z0)
  | _ => none
theorem laws_szOpS.out_ok (r : Ret κ) (y : Int) (h : laws_szOpS.out r = some y) : r = laws_szOpS.g y := by
  unfold laws_szOpS.out at h
  split at h
  · obtain rfl := Option.some.inj h
    rfl
  · cases h
def laws_szOpS.body (k : Nat) (vs : List AV) (bs : List (Blk κ)) : Option (Lf κ) :=
  match vs, bs with
  | [.v (.sl 0), .v (.int .i64 a1)], [qb0] => (asO 0 false qb0).bind fun a0 => some ⟨Int, laws_szOpS.f k a0 a1, laws_szOpS.g⟩
  | _, _ => none
def laws_szOpS.C (k : Nat) : Nat → List AV → AP κ AV := contract laws_szOpS.sig (laws_szOpS.body k)
theorem laws_szOpS.den (k : Nat) (a0 : List T_laws_Op) (a1 : Int) : Code.den ti (laws_szOpS.Γ k) (laws_szOpS.LH k) (bodyOf Try.f11) (finK ti Try.f11.results.toList [] (flags laws_szOpS.sig).length (rwI (flags laws_szOpS.sig) 0) laws_szOpS.out) ⟨envOf (([.v (.sl 0), .v (.int .i64 a1)]).zipIdx.map fun q => (q.2, q.1)), hpOf [.rows 0 false a0], (flags laws_szOpS.sig).length⟩ = laws_szOpS.f k a0 a1 := by kernel_rfl
theorem laws_szOpS.ok (k : Nat) : CSound Try.prog 11 (laws_szOpS.C k) :=
  csound κ_ok mixed tok (laws_szOpS.hΓ k) (LH := laws_szOpS.LH k) (fn := Try.f11) (c := bodyOf Try.f11) Try.func11 rfl Try.call11 laws_szOpS.sig [] (laws_szOpS.body k) (by kernel_rfl) (laws_szOpS.lok k) (by decide) fun vs bs lf y hl hb hy => by
    unfold laws_szOpS.body at hb
    split at hb
    · obtain ⟨_, rfl, hb_1⟩ := asO_bind hb
      obtain rfl := Option.some.inj hb_1
      exact ⟨laws_szOpS.out, laws_szOpS.out_ok, (laws_szOpS.den k _ _).trans hy⟩
    · cases hb
/-! ### laws_toOp -/
def laws_toOp.f (k : Nat) (a0_0 : Int) (a0_1 : Int) (a0_2 : Int) (a0_3 : Int) : Option (Int × Int × Int × Int) :=
  some (a0_0, a0_1, a0_2, a0_3)
def laws_toOp.Γ (k : Nat) : Ct κ := assoc []
def laws_toOp.LH (k : Nat) : Nat → Option (LHi κ) := assoc []
theorem laws_toOp.hΓ (k : Nat) : ∀ f g, laws_toOp.Γ k f = some g → CSound Try.prog f g := G_nil
theorem laws_toOp.lok (k : Nat) : LOK ti (laws_toOp.Γ k) (laws_toOp.LH k) 0 (loopsOf (bodyOf Try.f56)) :=
  (show loopsOf (bodyOf Try.f56) = [] by kernel_rfl) ▸ LOK_nil
def laws_toOp.sig : List PSh := [.agg [.sc, .sc, .sc, .sc]]
def laws_toOp.g (y : Int × Int × Int × Int) : Ret κ := ⟨.agg [.int .i64 y.1, .int .i64 y.2.1, .int .i64 y.2.2.1, .int .i64 y.2.2.2], [], []⟩
def laws_toOp.out (r : Ret κ) : Option (Int × Int × Int × Int) :=
  match r with
  | ⟨.agg [.int .i64 z0, .int .i64 z1, .int .i64 z2, .int .i64 z3], [], []⟩ => some (z0, z1, z2, z3)
  | _ => none
theorem laws_toOp.out_ok (r : Ret κ) (y : Int × Int × Int × Int) (h : laws_toOp.out r = some y) : r = laws_toOp.g y := by
  unfold laws_toOp.out at h
  split at h
  · obtain rfl := Option.some.inj h
    rfl
  · cases h
def laws_toOp.body (k : Nat) (vs : List AV) (bs : List (Blk κ)) : Option (Lf κ) :=
  match vs, bs with
  | [.agg [.int .i64 a0_0, .int .i64 a0_1, .int .i64 a0_2, .int .i64 a0_3]], [] => some ⟨Int × Int × Int × Int, laws_toOp.f k a0_0 a0_1 a0_2 a0_3, laws_toOp.g⟩
  | _, _ => none
def laws_toOp.C (k : Nat) : Nat → List AV → AP κ AV := contract laws_toOp.sig (laws_toOp.body k)
theorem laws_toOp.den (k : Nat) (a0_0 : Int) (a0_1 : Int) (a0_2 : Int) (a0_3 : Int) : Code.den ti (laws_toOp.Γ k) (laws_toOp.LH k) (bodyOf Try.f56) (finK ti Try.f56.results.toList [] (flags laws_toOp.sig).length (rwI (flags laws_toOp.sig) 0) laws_toOp.out) ⟨envOf (([.agg [.int .i64 a0_0, .int .i64 a0_1, .int .i64 a0_2, .int .i64 a0_3]]).zipIdx.map fun q => (q.2, q.1)), hpOf [], (flags laws_toOp.sig).length⟩ = laws_toOp.f k a0_0 a0_1 a0_2 a0_3 := by kernel_rfl
theorem laws_toOp.ok (k : Nat) : CSound Try.prog 56 (laws_toOp.C k) :=
  csound κ_ok mixed tok (laws_toOp.hΓ k) (LH := laws_toOp.LH k) (fn := Try.f56) (c := bodyOf Try.f56) Try.func56 rfl Try.call56 laws_toOp.sig [] (laws_toOp.body k) (by kernel_rfl) (laws_toOp.lok k) (by decide) fun vs bs lf y hl hb hy => by
    unfold laws_toOp.body at hb
    split at hb
    · obtain rfl := Option.some.inj hb
      exact ⟨laws_toOp.out, laws_toOp.out_ok, (laws_toOp.den k _ _ _ _).trans hy⟩
    · cases hb
/-! ### laws_toOpS -/
def laws_toOpS.L3 {R : Type} (k : Nat) (xl0 : List T_laws_Op) (X0 : List T_impl_Op → Option R) (rec : Int → List T_impl_Op → Option R) (x2 : Int) (xl1 : List T_impl_Op) : Option R :=
  (bif decide (x2 < (xl0.length : Int)) then (bif decide (0 ≤ x2) then (bif decide (x2 < (xl0.length : Int)) then (laws_toOp.f k ((rd_laws_Op xl0 x2).f0) ((rd_laws_Op xl0 x2).f1) ((rd_laws_Op xl0 x2).f2) ((rd_laws_Op xl0 x2).f3)).bind fun t1 => (bif decide (0 ≤ x2) then (bif decide (x2 < (xl1.length : Int)) then (let l2 : List T_impl_Op := (xl1.set (x2).toNat (⟨t1.1, t1.2.1, t1.2.2.1, t1.2.2.2⟩ : T_impl_Op)); (rec (w64 (x2 + (1 : Int))) l2)) else none) else none) else none) else none) else (X0 xl1))
def laws_toOpS.l3 {R : Type} (k : Nat) (xl0 : List T_laws_Op) (X0 : List T_impl_Op → Option R) : Nat → Int → List T_impl_Op → Option R
  | 0 => fun _ _ => none
  | n + 1 => laws_toOpS.L3 k xl0 X0 (laws_toOpS.l3 k xl0 X0 n)
def laws_toOpS.f (k : Nat) (a0 : List T_laws_Op) : Option (List T_impl_Op) :=
  (bif decide (0 ≤ (a0.length : Int)) then (bif decide (((a0.length : Int)).toNat * 32 ≤ cap48) then (laws_toOpS.l3 k a0 (fun (y3 : List T_impl_Op) => some y3) k (0 : Int) (List.replicate ((a0.length : Int)).toNat z_impl_Op)) else none) else none)
def laws_toOpS.h3 (k : Nat) {R : Type} (K : Ex → St κ → Option R) (vs : List AV) (bs : List (Blk κ)) : Option R :=
  match vs, bs with
  | [.v (.sl 0), .v (.sl 1), .v (.int .i64 x2)], [qb0, qb1] => (asO 0 false qb0).bind fun xl0 => (asO 1 true qb1).bind fun xl1 => laws_toOpS.l3 k xl0 (fun (zl1 : List T_impl_Op) => K (.exit 0) (stOf [(3, [some 1])] [.v (.sl 1)] [.rows 0 false xl0, .rows 1 true zl1])) k x2 xl1
  | _, _ => none
def laws_toOpS.Γ (k : Nat) : Ct κ := assoc [(56, laws_toOp.C k)]
def laws_toOpS.LH (k : Nat) : Nat → Option (LHi κ) := assoc [(3, ⟨1, [(0, [some 0]), (3, [some 1]), (4, [])], [(3, [some 1])], @laws_toOpS.h3 k⟩)]
theorem laws_toOpS.hΓ (k : Nat) : ∀ f g, laws_toOpS.Γ k f = some g → CSound Try.prog f g := G_cons (laws_toOp.ok k) G_nil
theorem laws_toOpS.e3 {R : Type} (K : Ex → St κ → Option R) (k : Nat) (xl0 : List T_laws_Op) : ∀ (n : Nat) (x2 : Int) (xl1 : List T_impl_Op), loopN 1 (Code.den ti (laws_toOpS.Γ k) (laws_toOpS.LH k) (loopAt Try.f13 0)) [(0, [some 0]), (3, [some 1]), (4, [])] [(3, [some 1])] K n [.v (.sl 0), .v (.sl 1), .v (.int .i64 x2)] [.rows 0 false xl0, .rows 1 true xl1] = laws_toOpS.l3 k xl0 (fun (zl1 : List T_impl_Op) => K (.exit 0) (stOf [(3, [some 1])] [.v (.sl 1)] [.rows 0 false xl0, .rows 1 true zl1])) n x2 xl1
  | 0, _, _ => rfl
  | n + 1, x2, xl1 => (show loopN 1 (Code.den ti (laws_toOpS.Γ k) (laws_toOpS.LH k) (loopAt Try.f13 0)) [(0, [some 0]), (3, [some 1]), (4, [])] [(3, [some 1])] K (n + 1) [.v (.sl 0), .v (.sl 1), .v (.int .i64 x2)] [.rows 0 false xl0, .rows 1 true xl1] = laws_toOpS.L3 k xl0 (fun (zl1 : List T_impl_Op) => K (.exit 0) (stOf [(3, [some 1])] [.v (.sl 1)] [.rows 0 false xl0, .rows 1 true zl1])) (fun (x2' : Int) (xl1' : List T_impl_Op) => loopN 1 (Code.den ti (laws_toOpS.Γ k) (laws_toOpS.LH k) (loopAt Try.f13 0)) [(0, [some 0]), (3, [some 1]), (4, [])] [(3, [some 1])] K n [.v (.sl 0), .v (.sl 1), .v (.int .i64 x2')] [.rows 0 false xl0, .rows 1 true xl1']) x2 xl1 by kernel_rfl).trans (congrArg (fun rec => laws_toOpS.L3 k xl0 (fun (zl1 : List T_impl_Op) => K (.exit 0) (stOf [(3, [some 1])] [.v (.sl 1)] [.rows 0 false xl0, .rows 1 true zl1])) rec x2 xl1) (funext fun x2' => funext fun xl1' => laws_toOpS.e3 K k xl0 n x2' xl1'))
theorem laws_toOpS.q3 (k : Nat) {R : Type} (K : Ex → St κ → Option R) (vs : List AV) (bs : List (Blk κ)) (r : R) (h : laws_toOpS.h3 k K vs bs = some r) : ∃ n, loopN 1 (Code.den ti (laws_toOpS.Γ k) (laws_toOpS.LH k) (loopAt Try.f13 0)) [(0, [some 0]), (3, [some 1]), (4, [])] [(3, [some 1])] K n vs bs = some r := by
  unfold laws_toOpS.h3 at h
  split at h
  · obtain ⟨_, rfl, h_1⟩ := asO_bind h
    obtain ⟨_, rfl, h_2⟩ := asO_bind h_1
    exact ⟨k, (laws_toOpS.e3 K k _ k _ _).trans h_2⟩
  · cases h
theorem laws_toOpS.lok (k : Nat) : LOK ti (laws_toOpS.Γ k) (laws_toOpS.LH k) 1 (loopsOf (bodyOf Try.f13)) :=
  (show loopsOf (bodyOf Try.f13) = [loopAt Try.f13 0] by kernel_rfl) ▸ (LOK_cons (g := ⟨1, [(0, [some 0]), (3, [some 1]), (4, [])], [(3, [some 1])], @laws_toOpS.h3 k⟩) (by kernel_rfl) rfl (fun K vs xs r h => laws_toOpS.q3 k K vs xs r h) (LOK_nil))
def laws_toOpS.sig : List PSh := [.one (.ro 0)]
def laws_toOpS.g (y : List T_impl_Op) : Ret κ := ⟨.v (.sl 1), [], [.rows 1 true y]⟩
def laws_toOpS.out (r : Ret κ) : Option (List T_impl_Op) :=
  match r with
  | ⟨.v (.sl 1), [], [q0]⟩ => (asO 1 true q0).bind fun z0 => some (z0)
  | _ => none
theorem laws_toOpS.out_ok (r : Ret κ) (y : List T_impl_Op) (h : laws_toOpS.out r = some y) : r = laws_toOpS.g y := by
  unfold laws_toOpS.out at h
  split at h
  · obtain ⟨_, rfl, h_1⟩ := asO_bind h
    obtain rfl := Option.some.inj h_1
    rfl
  · cases h
def laws_toOpS.body (k : Nat) (vs : List AV) (bs : List (Blk κ)) : Option (Lf κ) :=
  match vs, bs with
  | [.v (.sl 0)], [qb0] => (asO 0 false qb0).bind fun a0 => some ⟨List T_impl_Op, laws_toOpS.f k a0, laws_toOpS.g⟩
  | _, _ => none
def laws_toOpS.C (k : Nat) : Nat → List AV → AP κ AV := contract laws_toOpS.sig (laws_toOpS.body k)
theorem laws_toOpS.den (k : Nat) (a0 : List T_laws_Op) : Code.den ti (laws_toOpS.Γ k) (laws_toOpS.LH k) (bodyOf Try.f13) (finK ti Try.f13.results.toList [(2, [some 1])] (flags laws_toOpS.sig).length (rwI (flags laws_toOpS.sig) 0) laws_toOpS.out) ⟨envOf (([.v (.sl 0)]).zipIdx.map fun q => (q.2, q.1)), hpOf [.rows 0 false a0], (flags laws_toOpS.sig).length⟩ = laws_toOpS.f k a0 := by kernel_rfl
theorem laws_toOpS.ok (k : Nat) : CSound Try.prog 13 (laws_toOpS.C k) :=
  csound κ_ok mixed tok (laws_toOpS.hΓ k) (LH := laws_toOpS.LH k) (fn := Try.f13) (c := bodyOf Try.f13) Try.func13 rfl Try.call13 laws_toOpS.sig [(2, [some 1])] (laws_toOpS.body k) (by kernel_rfl) (laws_toOpS.lok k) (by decide) fun vs bs lf y hl hb hy => by
    unfold laws_toOpS.body at hb
    split at hb
    · obtain ⟨_, rfl, hb_1⟩ := asO_bind hb
      obtain rfl := Option.some.inj hb_1
      exact ⟨laws_toOpS.out, laws_toOpS.out_ok, (laws_toOpS.den k _).trans hy⟩
    · cases hb
/-! ### spec_l1In -/
def spec_l1In.f (k : Nat) (a0 : Int) (a1 : Int) (a2 : Int) : Option Bool :=
  (bif decide (a0 ≥ a1) then some (decide (a0 ≤ a2)) else some false)
def spec_l1In.Γ (k : Nat) : Ct κ := assoc []
def spec_l1In.LH (k : Nat) : Nat → Option (LHi κ) := assoc []
theorem spec_l1In.hΓ (k : Nat) : ∀ f g, spec_l1In.Γ k f = some g → CSound Try.prog f g := G_nil
theorem spec_l1In.lok (k : Nat) : LOK ti (spec_l1In.Γ k) (spec_l1In.LH k) 0 (loopsOf (bodyOf Try.f93)) :=
  (show loopsOf (bodyOf Try.f93) = [] by kernel_rfl) ▸ LOK_nil
def spec_l1In.sig : List PSh := [.one .sc, .one .sc, .one .sc]
def spec_l1In.g (y : Bool) : Ret κ := ⟨.v (.bool y), [], []⟩
def spec_l1In.out (r : Ret κ) : Option Bool :=
  match r with
  | ⟨.v (.bool z0), [], []⟩ => some (z0)
  | _ => none
theorem spec_l1In.out_ok (r : Ret κ) (y : Bool) (h : spec_l1In.out r = some y) : r = spec_l1In.g y := by
  unfold spec_l1In.out at h
  split at h
  · obtain rfl := Option.some.inj h
    rfl
  · cases h
def spec_l1In.body (k : Nat) (vs : List AV) (bs : List (Blk κ)) : Option (Lf κ) :=
  match vs, bs with
  | [.v (.int .i64 a0), .v (.int .i64 a1), .v (.int .i64 a2)], [] => some ⟨Bool, spec_l1In.f k a0 a1 a2, spec_l1In.g⟩
  | _, _ => none
def spec_l1In.C (k : Nat) : Nat → List AV → AP κ AV := contract spec_l1In.sig (spec_l1In.body k)
theorem spec_l1In.den (k : Nat) (a0 : Int) (a1 : Int) (a2 : Int) : Code.den ti (spec_l1In.Γ k) (spec_l1In.LH k) (bodyOf Try.f93) (finK ti Try.f93.results.toList [] (flags spec_l1In.sig).length (rwI (flags spec_l1In.sig) 0) spec_l1In.out) ⟨envOf (([.v (.int .i64 a0), .v (.int .i64 a1), .v (.int .i64 a2)]).zipIdx.map fun q => (q.2, q.1)), hpOf [], (flags spec_l1In.sig).length⟩ = spec_l1In.f k a0 a1 a2 := by kernel_rfl
theorem spec_l1In.ok (k : Nat) : CSound Try.prog 93 (spec_l1In.C k) :=
  csound κ_ok mixed tok (spec_l1In.hΓ k) (LH := spec_l1In.LH k) (fn := Try.f93) (c := bodyOf Try.f93) Try.func93 rfl Try.call93 spec_l1In.sig [] (spec_l1In.body k) (by kernel_rfl) (spec_l1In.lok k) (by decide) fun vs bs lf y hl hb hy => by
    unfold spec_l1In.body at hb
    split at hb
    · obtain rfl := Option.some.inj hb
      exact ⟨spec_l1In.out, spec_l1In.out_ok, (spec_l1In.den k _ _ _).trans hy⟩
    · cases hb
/-! ### spec_l21Ok -/
def spec_l21Ok.f (k : Nat) (a0_0 : Int) (a0_1 : Int) (a0_2 : Int) (a0_3 : Int) : Option Bool :=
  (spec_l1In.f k a0_1 (0 : Int) (5 : Int)).bind fun t1 => (spec_l1In.f k a0_2 (0 : Int) (5 : Int)).bind fun t2 => (bif (a0_0 == (1 : Int)) then (bif t1 then (spec_l1In.f k a0_2 (1 : Int) (9 : Int)).bind fun t3 => (bif t3 then some (a0_3 == (0 : Int)) else some false) else some false) else (bif (a0_0 == (5 : Int)) then (bif t1 then (spec_l1In.f k a0_2 (1 : Int) (9 : Int)).bind fun t4 => (bif t4 then some (a0_3 == (0 : Int)) else some false) else some false) else (bif (a0_0 == (2 : Int)) then (bif t1 then (spec_l1In.f k a0_2 (0 : Int) (999 : Int)).bind fun t5 => (bif t5 then some (a0_3 == (0 : Int)) else some false) else some false) else (bif (a0_0 == (3 : Int)) then (bif t1 then (bif t2 then (spec_l1In.f k a0_3 (0 : Int) (5 : Int)).bind fun t6 => some t6 else some false) else some false) else (bif (a0_0 == (4 : Int)) then (bif t1 then (bif t2 then (spec_l1In.f k a0_3 (0 : Int) (5 : Int)).bind fun t7 => some t7 else some false) else some false) else some false)))))
def spec_l21Ok.Γ (k : Nat) : Ct κ := assoc [(93, spec_l1In.C k)]
def spec_l21Ok.LH (k : Nat) : Nat → Option (LHi κ) := assoc []
theorem spec_l21Ok.hΓ (k : Nat) : ∀ f g, spec_l21Ok.Γ k f = some g → CSound Try.prog f g := G_cons (spec_l1In.ok k) G_nil
theorem spec_l21Ok.lok (k : Nat) : LOK ti (spec_l21Ok.Γ k) (spec_l21Ok.LH k) 0 (loopsOf (bodyOf Try.f65)) :=
  (show loopsOf (bodyOf Try.f65) = [] by kernel_rfl) ▸ LOK_nil
def spec_l21Ok.sig : List PSh := [.agg [.sc, .sc, .sc, .sc]]
def spec_l21Ok.g (y : Bool) : Ret κ := ⟨.v (.bool y), [], []⟩
def spec_l21Ok.out (r : Ret κ) : Option Bool :=
  match r with
  | ⟨.v (.bool z0), [], []⟩ => some (z0)
  | _ => none
theorem spec_l21Ok.out_ok (r : Ret κ) (y : Bool) (h : spec_l21Ok.out r = some y) : r = spec_l21Ok.g y := by
  unfold spec_l21Ok.out at h
  split at h
  · obtain rfl := Option.some.inj h
    rfl
  · cases h
def spec_l21Ok.body (k : Nat) (vs : List AV) (bs : List (Blk κ)) : Option (Lf κ) :=
  match vs, bs with
  | [.agg [.int .i64 a0_0, .int .i64 a0_1, .int .i64 a0_2, .int .i64 a0_3]], [] => some ⟨Bool, spec_l21Ok.f k a0_0 a0_1 a0_2 a0_3, spec_l21Ok.g⟩
  | _, _ => none
def spec_l21Ok.C (k : Nat) : Nat → List AV → AP κ AV := contract spec_l21Ok.sig (spec_l21Ok.body k)
theorem spec_l21Ok.den (k : Nat) (a0_0 : Int) (a0_1 : Int) (a0_2 : Int) (a0_3 : Int) : Code.den ti (spec_l21Ok.Γ k) (spec_l21Ok.LH k) (bodyOf Try.f65) (finK ti Try.f65.results.toList [] (flags spec_l21Ok.sig).length (rwI (flags spec_l21Ok.sig) 0) spec_l21Ok.out) ⟨envOf (([.agg [.int .i64 a0_0, .int .i64 a0_1, .int .i64 a0_2, .int .i64 a0_3]]).zipIdx.map fun q => (q.2, q.1)), hpOf [], (flags spec_l21Ok.sig).length⟩ = spec_l21Ok.f k a0_0 a0_1 a0_2 a0_3 := by kernel_rfl
theorem spec_l21Ok.ok (k : Nat) : CSound Try.prog 65 (spec_l21Ok.C k) :=
  csound κ_ok mixed tok (spec_l21Ok.hΓ k) (LH := spec_l21Ok.LH k) (fn := Try.f65) (c := bodyOf Try.f65) Try.func65 rfl Try.call65 spec_l21Ok.sig [] (spec_l21Ok.body k) (by kernel_rfl) (spec_l21Ok.lok k) (by decide) fun vs bs lf y hl hb hy => by
    unfold spec_l21Ok.body at hb
    split at hb
    · obtain rfl := Option.some.inj hb
      exact ⟨spec_l21Ok.out, spec_l21Ok.out_ok, (spec_l21Ok.den k _ _ _ _).trans hy⟩
    · cases hb
/-! ### spec_AreOps -/
def spec_AreOps.L2 {R : Type} (k : Nat) (xl0 : List T_impl_Op) (X0 : Bool → Option R) (X1 : Unit → Option R) (rec : Int → Option R) (x1 : Int) : Option R :=
  (bif decide (x1 < (xl0.length : Int)) then (bif decide (0 ≤ x1) then (bif decide (x1 < (xl0.length : Int)) then (spec_l21Ok.f k ((rd_impl_Op xl0 x1).f0) ((rd_impl_Op xl0 x1).f1) ((rd_impl_Op xl0 x1).f2) ((rd_impl_Op xl0 x1).f3)).bind fun t1 => (bif !t1 then (X0 false) else (rec (w64 (x1 + (1 : Int))))) else none) else none) else (X1 ()))
def spec_AreOps.l2 {R : Type} (k : Nat) (xl0 : List T_impl_Op) (X0 : Bool → Option R) (X1 : Unit → Option R) : Nat → Int → Option R
  | 0 => fun _ => none
  | n + 1 => spec_AreOps.L2 k xl0 X0 X1 (spec_AreOps.l2 k xl0 X0 X1 n)
def spec_AreOps.f (k : Nat) (a0 : List T_impl_Op) : Option Bool :=
  (spec_AreOps.l2 k a0 (fun (y2 : Bool) => some y2) (fun (_ : Unit) => some (decide ((a0.length : Int) ≤ (16 : Int)))) k (0 : Int))
def spec_AreOps.h2 (k : Nat) {R : Type} (K : Ex → St κ → Option R) (vs : List AV) (bs : List (Blk κ)) : Option R :=
  match vs, bs with
  | [.v (.sl 0), .v (.int .i64 x1)], [qb0] => (asO 1 false qb0).bind fun xl0 => spec_AreOps.l2 k xl0 (fun (z1 : Bool) => K .ret (stOf [(0, [some 1]), (2, [])] [.v (.sl 0), .v (.bool z1)] [.rows 1 false xl0])) (fun (_ : Unit) => K (.exit 0) (stOf [(0, [some 1]), (2, [])] [.v (.sl 0), .v .any] [.rows 1 false xl0])) k x1
  | _, _ => none
def spec_AreOps.Γ (k : Nat) : Ct κ := assoc [(65, spec_l21Ok.C k)]
def spec_AreOps.LH (k : Nat) : Nat → Option (LHi κ) := assoc [(2, ⟨1, [(0, [some 1]), (3, [])], [(0, [some 1]), (2, [])], @spec_AreOps.h2 k⟩)]
theorem spec_AreOps.hΓ (k : Nat) : ∀ f g, spec_AreOps.Γ k f = some g → CSound Try.prog f g := G_cons (spec_l21Ok.ok k) G_nil
theorem spec_AreOps.e2 {R : Type} (K : Ex → St κ → Option R) (k : Nat) (xl0 : List T_impl_Op) : ∀ (n : Nat) (x1 : Int), loopN 1 (Code.den ti (spec_AreOps.Γ k) (spec_AreOps.LH k) (loopAt Try.f24 0)) [(0, [some 1]), (3, [])] [(0, [some 1]), (2, [])] K n [.v (.sl 0), .v (.int .i64 x1)] [.rows 1 false xl0] = spec_AreOps.l2 k xl0 (fun (z1 : Bool) => K .ret (stOf [(0, [some 1]), (2, [])] [.v (.sl 0), .v (.bool z1)] [.rows 1 false xl0])) (fun (_ : Unit) => K (.exit 0) (stOf [(0, [some 1]), (2, [])] [.v (.sl 0), .v .any] [.rows 1 false xl0])) n x1
  | 0, _ => rfl
  | n + 1, x1 => (show loopN 1 (Code.den ti (spec_AreOps.Γ k) (spec_AreOps.LH k) (loopAt Try.f24 0)) [(0, [some 1]), (3, [])] [(0, [some 1]), (2, [])] K (n + 1) [.v (.sl 0), .v (.int .i64 x1)] [.rows 1 false xl0] = spec_AreOps.L2 k xl0 (fun (z1 : Bool) => K .ret (stOf [(0, [some 1]), (2, [])] [.v (.sl 0), .v (.bool z1)] [.rows 1 false xl0])) (fun (_ : Unit) => K (.exit 0) (stOf [(0, [some 1]), (2, [])] [.v (.sl 0), .v .any] [.rows 1 false xl0])) (fun (x1' : Int) => loopN 1 (Code.den ti (spec_AreOps.Γ k) (spec_AreOps.LH k) (loopAt Try.f24 0)) [(0, [some 1]), (3, [])] [(0, [some 1]), (2, [])] K n [.v (.sl 0), .v (.int .i64 x1')] [.rows 1 false xl0]) x1 by kernel_rfl).trans (congrArg (fun rec => spec_AreOps.L2 k xl0 (fun (z1 : Bool) => K .ret (stOf [(0, [some 1]), (2, [])] [.v (.sl 0), .v (.bool z1)] [.rows 1 false xl0])) (fun (_ : Unit) => K (.exit 0) (stOf [(0, [some 1]), (2, [])] [.v (.sl 0), .v .any] [.rows 1 false xl0])) rec x1) (funext fun x1' => spec_AreOps.e2 K k xl0 n x1'))
theorem spec_AreOps.q2 (k : Nat) {R : Type} (K : Ex → St κ → Option R) (vs : List AV) (bs : List (Blk κ)) (r : R) (h : spec_AreOps.h2 k K vs bs = some r) : ∃ n, loopN 1 (Code.den ti (spec_AreOps.Γ k) (spec_AreOps.LH k) (loopAt Try.f24 0)) [(0, [some 1]), (3, [])] [(0, [some 1]), (2, [])] K n vs bs = some r := by
  unfold spec_AreOps.h2 at h
  split at h
  · obtain ⟨_, rfl, h_1⟩ := asO_bind h
    exact ⟨k, (spec_AreOps.e2 K k _ k _).trans h_1⟩
  · cases h
theorem spec_AreOps.lok (k : Nat) : LOK ti (spec_AreOps.Γ k) (spec_AreOps.LH k) 1 (loopsOf (bodyOf Try.f24)) :=
  (show loopsOf (bodyOf Try.f24) = [loopAt Try.f24 0] by kernel_rfl) ▸ (LOK_cons (g := ⟨1, [(0, [some 1]), (3, [])], [(0, [some 1]), (2, [])], @spec_AreOps.h2 k⟩) (by kernel_rfl) rfl (fun K vs xs r h => spec_AreOps.q2 k K vs xs r h) (LOK_nil))
def spec_AreOps.sig : List PSh := [.one (.ro 1)]
def spec_AreOps.g (y : Bool) : Ret κ := ⟨.v (.bool y), [], []⟩
def spec_AreOps.out (r : Ret κ) : Option Bool :=
  match r with
  | ⟨.v (.bool z0), [], []⟩ => some (z0)
  | _ => none
theorem spec_AreOps.out_ok (r : Ret κ) (y : Bool) (h : spec_AreOps.out r = some y) : r = spec_AreOps.g y := by
  unfold spec_AreOps.out at h
  split at h
  · obtain rfl := Option.some.inj h
    rfl
  · cases h
def spec_AreOps.body (k : Nat) (vs : List AV) (bs : List (Blk κ)) : Option (Lf κ) :=
  match vs, bs with
  | [.v (.sl 0)], [qb0] => (asO 1 false qb0).bind fun a0 => some ⟨Bool, spec_AreOps.f k a0, spec_AreOps.g⟩
  | _, _ => none
def spec_AreOps.C (k : Nat) : Nat → List AV → AP κ AV := contract spec_AreOps.sig (spec_AreOps.body k)
theorem spec_AreOps.den (k : Nat) (a0 : List T_impl_Op) : Code.den ti (spec_AreOps.Γ k) (spec_AreOps.LH k) (bodyOf Try.f24) (finK ti Try.f24.results.toList [] (flags spec_AreOps.sig).length (rwI (flags spec_AreOps.sig) 0) spec_AreOps.out) ⟨envOf (([.v (.sl 0)]).zipIdx.map fun q => (q.2, q.1)), hpOf [.rows 1 false a0], (flags spec_AreOps.sig).length⟩ = spec_AreOps.f k a0 := by kernel_rfl
theorem spec_AreOps.ok (k : Nat) : CSound Try.prog 24 (spec_AreOps.C k) :=
  csound κ_ok mixed tok (spec_AreOps.hΓ k) (LH := spec_AreOps.LH k) (fn := Try.f24) (c := bodyOf Try.f24) Try.func24 rfl Try.call24 spec_AreOps.sig [] (spec_AreOps.body k) (by kernel_rfl) (spec_AreOps.lok k) (by decide) fun vs bs lf y hl hb hy => by
    unfold spec_AreOps.body at hb
    split at hb
    · obtain ⟨_, rfl, hb_1⟩ := asO_bind hb
      obtain rfl := Option.some.inj hb_1
      exact ⟨spec_AreOps.out, spec_AreOps.out_ok, (spec_AreOps.den k _).trans hy⟩
    · cases hb
/-! ### spec_l6Put -/
def spec_l6Put.L2 {R : Type} (k : Nat) (x1 : Int) (xl0 : List Int) (X0 : Int → Option R) (rec : Int → Option R) (x2 : Int) : Option R :=
  (bif decide (x2 < (xl0.length : Int)) then (bif decide (0 ≤ x2) then (bif decide (x2 < (xl0.length : Int)) then (bif decide ((rd_i64 xl0 x2) < x1) then (rec (w64 (x2 + (1 : Int)))) else (X0 x2)) else none) else none) else (X0 x2))
def spec_l6Put.l2 {R : Type} (k : Nat) (x1 : Int) (xl0 : List Int) (X0 : Int → Option R) : Nat → Int → Option R
  | 0 => fun _ => none
  | n + 1 => spec_l6Put.L2 k x1 xl0 X0 (spec_l6Put.l2 k x1 xl0 X0 n)
def spec_l6Put.f (k : Nat) (a0 : List Int) (a1 : Int) : Option (List Int) :=
  (spec_l6Put.l2 k a1 a0 (fun (y1 : Int) => (bif decide (y1 < (a0.length : Int)) then (bif decide (0 ≤ y1) then (bif decide (y1 < (a0.length : Int)) then (bif ((rd_i64 a0 y1) == a1) then (bif decide ((([] : List Int).length + a0.length) * 8 ≤ cap48) then some (([] : List Int) ++ a0) else none) else (bif decide (0 ≤ y1) then (bif decide (y1 ≤ (a0.length : Int)) then (bif decide (0 ≤ (0 : Int)) then (bif decide ((0 : Int) ≤ y1) then (bif decide ((([] : List Int).length + ((a0.take (y1).toNat).drop ((0 : Int)).toNat).length) * 8 ≤ cap48) then (let l2 : List Int := (([] : List Int) ++ ((a0.take (y1).toNat).drop ((0 : Int)).toNat)); (bif decide ((l2.length + ([a1] : List Int).length) * 8 ≤ cap48) then (bif decide (0 ≤ (a0.length : Int)) then (bif decide ((a0.length : Int) ≤ (a0.length : Int)) then (bif decide (0 ≤ y1) then (bif decide (y1 ≤ (a0.length : Int)) then (bif decide (((l2 ++ ([a1] : List Int)).length + ((a0.take ((a0.length : Int)).toNat).drop (y1).toNat).length) * 8 ≤ cap48) then (let l3 : List Int := ((l2 ++ ([a1] : List Int)) ++ ((a0.take ((a0.length : Int)).toNat).drop (y1).toNat)); some l3) else none) else none) else none) else none) else none) else none)) else none) else none) else none) else none) else none)) else none) else none) else (bif decide (0 ≤ y1) then (bif decide (y1 ≤ (a0.length : Int)) then (bif decide (0 ≤ (0 : Int)) then (bif decide ((0 : Int) ≤ y1) then (bif decide ((([] : List Int).length + ((a0.take (y1).toNat).drop ((0 : Int)).toNat).length) * 8 ≤ cap48) then (let l4 : List Int := (([] : List Int) ++ ((a0.take (y1).toNat).drop ((0 : Int)).toNat)); (bif decide ((l4.length + ([a1] : List Int).length) * 8 ≤ cap48) then (bif decide (0 ≤ (a0.length : Int)) then (bif decide ((a0.length : Int) ≤ (a0.length : Int)) then (bif decide (0 ≤ y1) then (bif decide (y1 ≤ (a0.length : Int)) then (bif decide (((l4 ++ ([a1] : List Int)).length + ((a0.take ((a0.length : Int)).toNat).drop (y1).toNat).length) * 8 ≤ cap48) then (let l5 : List Int := ((l4 ++ ([a1] : List Int)) ++ ((a0.take ((a0.length : Int)).toNat).drop (y1).toNat)); some l5) else none) else none) else none) else none) else none) else none)) else none) else none) else none) else none) else none))) k (0 : Int))
def spec_l6Put.h2 (k : Nat) {R : Type} (K : Ex → St κ → Option R) (vs : List AV) (bs : List (Blk κ)) : Option R :=
  match vs, bs with
  | [.v (.sl 0), .v (.int .i64 x1), .v (.int .i64 x2)], [qb0] => (asO 2 false qb0).bind fun xl0 => spec_l6Put.l2 k x1 xl0 (fun (z2 : Int) => K (.exit 0) (stOf [(0, [some 2]), (1, []), (5, [])] [.v (.sl 0), .v (.int .i64 x1), .v (.int .i64 z2)] [.rows 2 false xl0])) k x2
  | _, _ => none
def spec_l6Put.Γ (k : Nat) : Ct κ := assoc []
def spec_l6Put.LH (k : Nat) : Nat → Option (LHi κ) := assoc [(2, ⟨1, [(0, [some 2]), (1, []), (5, [])], [(0, [some 2]), (1, []), (5, [])], @spec_l6Put.h2 k⟩)]
theorem spec_l6Put.hΓ (k : Nat) : ∀ f g, spec_l6Put.Γ k f = some g → CSound Try.prog f g := G_nil
theorem spec_l6Put.e2 {R : Type} (K : Ex → St κ → Option R) (k : Nat) (x1 : Int) (xl0 : List Int) : ∀ (n : Nat) (x2 : Int), loopN 1 (Code.den ti (spec_l6Put.Γ k) (spec_l6Put.LH k) (loopAt Try.f98 0)) [(0, [some 2]), (1, []), (5, [])] [(0, [some 2]), (1, []), (5, [])] K n [.v (.sl 0), .v (.int .i64 x1), .v (.int .i64 x2)] [.rows 2 false xl0] = spec_l6Put.l2 k x1 xl0 (fun (z2 : Int) => K (.exit 0) (stOf [(0, [some 2]), (1, []), (5, [])] [.v (.sl 0), .v (.int .i64 x1), .v (.int .i64 z2)] [.rows 2 false xl0])) n x2
  | 0, _ => rfl
  | n + 1, x2 => (show loopN 1 (Code.den ti (spec_l6Put.Γ k) (spec_l6Put.LH k) (loopAt Try.f98 0)) [(0, [some 2]), (1, []), (5, [])] [(0, [some 2]), (1, []), (5, [])] K (n + 1) [.v (.sl 0), .v (.int .i64 x1), .v (.int .i64 x2)] [.rows 2 false xl0] = spec_l6Put.L2 k x1 xl0 (fun (z2 : Int) => K (.exit 0) (stOf [(0, [some 2]), (1, []), (5, [])] [.v (.sl 0), .v (.int .i64 x1), .v (.int .i64 z2)] [.rows 2 false xl0])) (fun (x2' : Int) => loopN 1 (Code.den ti (spec_l6Put.Γ k) (spec_l6Put.LH k) (loopAt Try.f98 0)) [(0, [some 2]), (1, []), (5, [])] [(0, [some 2]), (1, []), (5, [])] K n [.v (.sl 0), .v (.int .i64 x1), .v (.int .i64 x2')] [.rows 2 false xl0]) x2 by kernel_rfl).trans (congrArg (fun rec => spec_l6Put.L2 k x1 xl0 (fun (z2 : Int) => K (.exit 0) (stOf [(0, [some 2]), (1, []), (5, [])] [.v (.sl 0), .v (.int .i64 x1), .v (.int .i64 z2)] [.rows 2 false xl0])) rec x2) (funext fun x2' => spec_l6Put.e2 K k x1 xl0 n x2'))
theorem spec_l6Put.q2 (k : Nat) {R : Type} (K : Ex → St κ → Option R) (vs : List AV) (bs : List (Blk κ)) (r : R) (h : spec_l6Put.h2 k K vs bs = some r) : ∃ n, loopN 1 (Code.den ti (spec_l6Put.Γ k) (spec_l6Put.LH k) (loopAt Try.f98 0)) [(0, [some 2]), (1, []), (5, [])] [(0, [some 2]), (1, []), (5, [])] K n vs bs = some r := by
  unfold spec_l6Put.h2 at h
  split at h
  · obtain ⟨_, rfl, h_1⟩ := asO_bind h
    exact ⟨k, (spec_l6Put.e2 K k _ _ k _).trans h_1⟩
  · cases h
theorem spec_l6Put.lok (k : Nat) : LOK ti (spec_l6Put.Γ k) (spec_l6Put.LH k) 1 (loopsOf (bodyOf Try.f98)) :=
  (show loopsOf (bodyOf Try.f98) = [loopAt Try.f98 0] by kernel_rfl) ▸ (LOK_cons (g := ⟨1, [(0, [some 2]), (1, []), (5, [])], [(0, [some 2]), (1, []), (5, [])], @spec_l6Put.h2 k⟩) (by kernel_rfl) rfl (fun K vs xs r h => spec_l6Put.q2 k K vs xs r h) (LOK_nil))
def spec_l6Put.sig : List PSh := [.one (.ro 2), .one .sc]
def spec_l6Put.g (y : List Int) : Ret κ := ⟨.v (.sl 1), [], [.rows 2 true y]⟩
def spec_l6Put.out (r : Ret κ) : Option (List Int) :=
  match r with
  | ⟨.v (.sl 1), [], [q0]⟩ => (asO 2 true q0).bind fun z0 => some (z0)
  | _ => none
theorem spec_l6Put.out_ok (r : Ret κ) (y : List Int) (h : spec_l6Put.out r = some y) : r = spec_l6Put.g y := by
  unfold spec_l6Put.out at h
  split at h
  · obtain ⟨_, rfl, h_1⟩ := asO_bind h
    obtain rfl := Option.some.inj h_1
    rfl
  · cases h
def spec_l6Put.body (k : Nat) (vs : List AV) (bs : List (Blk κ)) : Option (Lf κ) :=
  match vs, bs with
  | [.v (.sl 0), .v (.int .i64 a1)], [qb0] => (asO 2 false qb0).bind fun a0 => some ⟨List Int, spec_l6Put.f k a0 a1, spec_l6Put.g⟩
  | _, _ => none
def spec_l6Put.C (k : Nat) : Nat → List AV → AP κ AV := contract spec_l6Put.sig (spec_l6Put.body k)
theorem spec_l6Put.den (k : Nat) (a0 : List Int) (a1 : Int) : Code.den ti (spec_l6Put.Γ k) (spec_l6Put.LH k) (bodyOf Try.f98) (finK ti Try.f98.results.toList [(4, [some 2])] (flags spec_l6Put.sig).length (rwI (flags spec_l6Put.sig) 0) spec_l6Put.out) ⟨envOf (([.v (.sl 0), .v (.int .i64 a1)]).zipIdx.map fun q => (q.2, q.1)), hpOf [.rows 2 false a0], (flags spec_l6Put.sig).length⟩ = spec_l6Put.f k a0 a1 := by kernel_rfl
theorem spec_l6Put.ok (k : Nat) : CSound Try.prog 98 (spec_l6Put.C k) :=
  csound κ_ok mixed tok (spec_l6Put.hΓ k) (LH := spec_l6Put.LH k) (fn := Try.f98) (c := bodyOf Try.f98) Try.func98 rfl Try.call98 spec_l6Put.sig [(4, [some 2])] (spec_l6Put.body k) (by kernel_rfl) (spec_l6Put.lok k) (by decide) fun vs bs lf y hl hb hy => by
    unfold spec_l6Put.body at hb
    split at hb
    · obtain ⟨_, rfl, hb_1⟩ := asO_bind hb
      obtain rfl := Option.some.inj hb_1
      exact ⟨spec_l6Put.out, spec_l6Put.out_ok, (spec_l6Put.den k _ _).trans hy⟩
    · cases hb
/-! ### spec_l27Owners -/
def spec_l27Owners.L3 {R : Type} (k : Nat) (x1 : Int) (xl0 : List T_impl_Op) (X0 : List Int → Option R) (rec : Int → List Int → Option R) (x3 : Int) (xl1 : List Int) : Option R :=
  (bif decide (x3 < (xl0.length : Int)) then (spec_AreOps.f k xl0).bind fun t1 => (bif t1 then (bif decide (0 ≤ x3) then (bif decide (x3 < (xl0.length : Int)) then (bif ((rd_impl_Op xl0 x3).f0 == x1) then (bif decide (0 ≤ x3) then (bif decide (x3 < (xl0.length : Int)) then (spec_l6Put.f k xl1 ((rd_impl_Op xl0 x3).f2)).bind fun t2 => (rec (w64 (x3 + (1 : Int))) t2) else none) else none) else (rec (w64 (x3 + (1 : Int))) xl1)) else none) else none) else (X0 xl1)) else (X0 xl1))
def spec_l27Owners.l3 {R : Type} (k : Nat) (x1 : Int) (xl0 : List T_impl_Op) (X0 : List Int → Option R) : Nat → Int → List Int → Option R
  | 0 => fun _ _ => none
  | n + 1 => spec_l27Owners.L3 k x1 xl0 X0 (spec_l27Owners.l3 k x1 xl0 X0 n)
def spec_l27Owners.f (k : Nat) (a0 : List T_impl_Op) (a1 : Int) : Option (List Int) :=
  (spec_l27Owners.l3 k a1 a0 (fun (y3 : List Int) => some y3) k (0 : Int) ([] : List Int))
def spec_l27Owners.h3 (k : Nat) {R : Type} (K : Ex → St κ → Option R) (vs : List AV) (bs : List (Blk κ)) : Option R :=
  match vs, bs with
  | [.v (.sl 0), .v (.int .i64 x1), .v (.sl 1), .v (.int .i64 x3)], [qb0, qb1] => (asO 1 false qb0).bind fun xl0 => (asO 2 true qb1).bind fun xl1 => spec_l27Owners.l3 k x1 xl0 (fun (zl1 : List Int) => K (.exit 0) (stOf [(5, [some 2])] [.v (.sl 1)] [.rows 1 false xl0, .rows 2 true zl1])) k x3 xl1
  | _, _ => none
def spec_l27Owners.Γ (k : Nat) : Ct κ := assoc [(24, spec_AreOps.C k), (98, spec_l6Put.C k)]
def spec_l27Owners.LH (k : Nat) : Nat → Option (LHi κ) := assoc [(3, ⟨1, [(0, [some 1]), (1, []), (5, [some 2]), (6, [])], [(5, [some 2])], @spec_l27Owners.h3 k⟩)]
theorem spec_l27Owners.hΓ (k : Nat) : ∀ f g, spec_l27Owners.Γ k f = some g → CSound Try.prog f g := G_cons (spec_AreOps.ok k) (G_cons (spec_l6Put.ok k) G_nil)
theorem spec_l27Owners.e3 {R : Type} (K : Ex → St κ → Option R) (k : Nat) (x1 : Int) (xl0 : List T_impl_Op) : ∀ (n : Nat) (x3 : Int) (xl1 : List Int), loopN 1 (Code.den ti (spec_l27Owners.Γ k) (spec_l27Owners.LH k) (loopAt Try.f78 0)) [(0, [some 1]), (1, []), (5, [some 2]), (6, [])] [(5, [some 2])] K n [.v (.sl 0), .v (.int .i64 x1), .v (.sl 1), .v (.int .i64 x3)] [.rows 1 false xl0, .rows 2 true xl1] = spec_l27Owners.l3 k x1 xl0 (fun (zl1 : List Int) => K (.exit 0) (stOf [(5, [some 2])] [.v (.sl 1)] [.rows 1 false xl0, .rows 2 true zl1])) n x3 xl1
  | 0, _, _ => rfl
  | n + 1, x3, xl1 => (show loopN 1 (Code.den ti (spec_l27Owners.Γ k) (spec_l27Owners.LH k) (loopAt Try.f78 0)) [(0, [some 1]), (1, []), (5, [some 2]), (6, [])] [(5, [some 2])] K (n + 1) [.v (.sl 0), .v (.int .i64 x1), .v (.sl 1), .v (.int .i64 x3)] [.rows 1 false xl0, .rows 2 true xl1] = spec_l27Owners.L3 k x1 xl0 (fun (zl1 : List Int) => K (.exit 0) (stOf [(5, [some 2])] [.v (.sl 1)] [.rows 1 false xl0, .rows 2 true zl1])) (fun (x3' : Int) (xl1' : List Int) => loopN 1 (Code.den ti (spec_l27Owners.Γ k) (spec_l27Owners.LH k) (loopAt Try.f78 0)) [(0, [some 1]), (1, []), (5, [some 2]), (6, [])] [(5, [some 2])] K n [.v (.sl 0), .v (.int .i64 x1), .v (.sl 1), .v (.int .i64 x3')] [.rows 1 false xl0, .rows 2 true xl1']) x3 xl1 by kernel_rfl).trans (congrArg (fun rec => spec_l27Owners.L3 k x1 xl0 (fun (zl1 : List Int) => K (.exit 0) (stOf [(5, [some 2])] [.v (.sl 1)] [.rows 1 false xl0, .rows 2 true zl1])) rec x3 xl1) (funext fun x3' => funext fun xl1' => spec_l27Owners.e3 K k x1 xl0 n x3' xl1'))
theorem spec_l27Owners.q3 (k : Nat) {R : Type} (K : Ex → St κ → Option R) (vs : List AV) (bs : List (Blk κ)) (r : R) (h : spec_l27Owners.h3 k K vs bs = some r) : ∃ n, loopN 1 (Code.den ti (spec_l27Owners.Γ k) (spec_l27Owners.LH k) (loopAt Try.f78 0)) [(0, [some 1]), (1, []), (5, [some 2]), (6, [])] [(5, [some 2])] K n vs bs = some r := by
  unfold spec_l27Owners.h3 at h
  split at h
  · obtain ⟨_, rfl, h_1⟩ := asO_bind h
    obtain ⟨_, rfl, h_2⟩ := asO_bind h_1
    exact ⟨k, (spec_l27Owners.e3 K k _ _ k _ _).trans h_2⟩
  · cases h
theorem spec_l27Owners.lok (k : Nat) : LOK ti (spec_l27Owners.Γ k) (spec_l27Owners.LH k) 1 (loopsOf (bodyOf Try.f78)) :=
  (show loopsOf (bodyOf Try.f78) = [loopAt Try.f78 0] by kernel_rfl) ▸ (LOK_cons (g := ⟨1, [(0, [some 1]), (1, []), (5, [some 2]), (6, [])], [(5, [some 2])], @spec_l27Owners.h3 k⟩) (by kernel_rfl) rfl (fun K vs xs r h => spec_l27Owners.q3 k K vs xs r h) (LOK_nil))
def spec_l27Owners.sig : List PSh := [.one (.ro 1), .one .sc]
def spec_l27Owners.g (y : List Int) : Ret κ := ⟨.v (.sl 1), [], [.rows 2 true y]⟩
def spec_l27Owners.out (r : Ret κ) : Option (List Int) :=
  match r with
  | ⟨.v (.sl 1), [], [q0]⟩ => (asO 2 true q0).bind fun z0 => some (z0)
  | _ => none
theorem spec_l27Owners.out_ok (r : Ret κ) (y : List Int) (h : spec_l27Owners.out r = some y) : r = spec_l27Owners.g y := by
  unfold spec_l27Owners.out at h
  split at h
  · obtain ⟨_, rfl, h_1⟩ := asO_bind h
    obtain rfl := Option.some.inj h_1
    rfl
  · cases h
def spec_l27Owners.body (k : Nat) (vs : List AV) (bs : List (Blk κ)) : Option (Lf κ) :=
  match vs, bs with
  | [.v (.sl 0), .v (.int .i64 a1)], [qb0] => (asO 1 false qb0).bind fun a0 => some ⟨List Int, spec_l27Owners.f k a0 a1, spec_l27Owners.g⟩
  | _, _ => none
def spec_l27Owners.C (k : Nat) : Nat → List AV → AP κ AV := contract spec_l27Owners.sig (spec_l27Owners.body k)
theorem spec_l27Owners.den (k : Nat) (a0 : List T_impl_Op) (a1 : Int) : Code.den ti (spec_l27Owners.Γ k) (spec_l27Owners.LH k) (bodyOf Try.f78) (finK ti Try.f78.results.toList [(4, [some 2])] (flags spec_l27Owners.sig).length (rwI (flags spec_l27Owners.sig) 0) spec_l27Owners.out) ⟨envOf (([.v (.sl 0), .v (.int .i64 a1)]).zipIdx.map fun q => (q.2, q.1)), hpOf [.rows 1 false a0], (flags spec_l27Owners.sig).length⟩ = spec_l27Owners.f k a0 a1 := by kernel_rfl
theorem spec_l27Owners.ok (k : Nat) : CSound Try.prog 78 (spec_l27Owners.C k) :=
  csound κ_ok mixed tok (spec_l27Owners.hΓ k) (LH := spec_l27Owners.LH k) (fn := Try.f78) (c := bodyOf Try.f78) Try.func78 rfl Try.call78 spec_l27Owners.sig [(4, [some 2])] (spec_l27Owners.body k) (by kernel_rfl) (spec_l27Owners.lok k) (by decide) fun vs bs lf y hl hb hy => by
    unfold spec_l27Owners.body at hb
    split at hb
    · obtain ⟨_, rfl, hb_1⟩ := asO_bind hb
      obtain rfl := Option.some.inj hb_1
      exact ⟨spec_l27Owners.out, spec_l27Owners.out_ok, (spec_l27Owners.den k _ _).trans hy⟩
    · cases hb
/-! ### spec_OwnersSent -/
def spec_OwnersSent.f (k : Nat) (a0 : List T_impl_Op) : Option (List Int) :=
  (spec_l27Owners.f k a0 (5 : Int)).bind fun t1 => some t1
def spec_OwnersSent.Γ (k : Nat) : Ct κ := assoc [(78, spec_l27Owners.C k)]
def spec_OwnersSent.LH (k : Nat) : Nat → Option (LHi κ) := assoc []
theorem spec_OwnersSent.hΓ (k : Nat) : ∀ f g, spec_OwnersSent.Γ k f = some g → CSound Try.prog f g := G_cons (spec_l27Owners.ok k) G_nil
theorem spec_OwnersSent.lok (k : Nat) : LOK ti (spec_OwnersSent.Γ k) (spec_OwnersSent.LH k) 1 (loopsOf (bodyOf Try.f44)) :=
  (show loopsOf (bodyOf Try.f44) = [] by kernel_rfl) ▸ LOK_nil
def spec_OwnersSent.sig : List PSh := [.one (.ro 1)]
def spec_OwnersSent.g (y : List Int) : Ret κ := ⟨.v (.sl 1), [], [.rows 2 true y]⟩
def spec_OwnersSent.out (r : Ret κ) : Option (List Int) :=
  match r with
  | ⟨.v (.sl 1), [], [q0]⟩ => (asO 2 true q0).bind fun z0 => some (z0)
  | _ => none
theorem spec_OwnersSent.out_ok (r : Ret κ) (y : List Int) (h : spec_OwnersSent.out r = some y) : r = spec_OwnersSent.g y := by
  unfold spec_OwnersSent.out at h
  split at h
  · obtain ⟨_, rfl, h_1⟩ := asO_bind h
    obtain rfl := Option.some.inj h_1
    rfl
  · cases h
def spec_OwnersSent.body (k : Nat) (vs : List AV) (bs : List (Blk κ)) : Option (Lf κ) :=
  match vs, bs with
  | [.v (.sl 0)], [qb0] => (asO 1 false qb0).bind fun a0 => some ⟨List Int, spec_OwnersSent.f k a0, spec_OwnersSent.g⟩
  | _, _ => none
def spec_OwnersSent.C (k : Nat) : Nat → List AV → AP κ AV := contract spec_OwnersSent.sig (spec_OwnersSent.body k)
theorem spec_OwnersSent.den (k : Nat) (a0 : List T_impl_Op) : Code.den ti (spec_OwnersSent.Γ k) (spec_OwnersSent.LH k) (bodyOf Try.f44) (finK ti Try.f44.results.toList [(2, [some 2])] (flags spec_OwnersSent.sig).length (rwI (flags spec_OwnersSent.sig) 0) spec_OwnersSent.out) ⟨envOf (([.v (.sl 0)]).zipIdx.map fun q => (q.2, q.1)), hpOf [.rows 1 false a0], (flags spec_OwnersSent.sig).length⟩ = spec_OwnersSent.f k a0 := by kernel_rfl
theorem spec_OwnersSent.ok (k : Nat) : CSound Try.prog 44 (spec_OwnersSent.C k) :=
  csound κ_ok mixed tok (spec_OwnersSent.hΓ k) (LH := spec_OwnersSent.LH k) (fn := Try.f44) (c := bodyOf Try.f44) Try.func44 rfl Try.call44 spec_OwnersSent.sig [(2, [some 2])] (spec_OwnersSent.body k) (by kernel_rfl) (spec_OwnersSent.lok k) (by decide) fun vs bs lf y hl hb hy => by
    unfold spec_OwnersSent.body at hb
    split at hb
    · obtain ⟨_, rfl, hb_1⟩ := asO_bind hb
      obtain rfl := Option.some.inj hb_1
      exact ⟨spec_OwnersSent.out, spec_OwnersSent.out_ok, (spec_OwnersSent.den k _).trans hy⟩
    · cases hb
/-! ### impl_InRange -/
def impl_InRange.f (k : Nat) (a0 : Int) (a1 : Int) (a2 : Int) : Option Bool :=
  (bif decide (a1 ≤ a0) then some (decide (a0 ≤ a2)) else some false)
def impl_InRange.Γ (k : Nat) : Ct κ := assoc []
def impl_InRange.LH (k : Nat) : Nat → Option (LHi κ) := assoc []
theorem impl_InRange.hΓ (k : Nat) : ∀ f g, impl_InRange.Γ k f = some g → CSound Try.prog f g := G_nil
theorem impl_InRange.lok (k : Nat) : LOK ti (impl_InRange.Γ k) (impl_InRange.LH k) 0 (loopsOf (bodyOf Try.f68)) :=
  (show loopsOf (bodyOf Try.f68) = [] by kernel_rfl) ▸ LOK_nil
def impl_InRange.sig : List PSh := [.one .sc, .one .sc, .one .sc]
def impl_InRange.g (y : Bool) : Ret κ := ⟨.v (.bool y), [], []⟩
def impl_InRange.out (r : Ret κ) : Option Bool :=
  match r with
  | ⟨.v (.bool z0), [], []⟩ => some (z0)
  | _ => none
theorem impl_InRange.out_ok (r : Ret κ) (y : Bool) (h : impl_InRange.out r = some y) : r = impl_InRange.g y := by
  unfold impl_InRange.out at h
  split at h
  · obtain rfl := Option.some.inj h
    rfl
  · cases h
def impl_InRange.body (k : Nat) (vs : List AV) (bs : List (Blk κ)) : Option (Lf κ) :=
  match vs, bs with
  | [.v (.int .i64 a0), .v (.int .i64 a1), .v (.int .i64 a2)], [] => some ⟨Bool, impl_InRange.f k a0 a1 a2, impl_InRange.g⟩
  | _, _ => none
def impl_InRange.C (k : Nat) : Nat → List AV → AP κ AV := contract impl_InRange.sig (impl_InRange.body k)
theorem impl_InRange.den (k : Nat) (a0 : Int) (a1 : Int) (a2 : Int) : Code.den ti (impl_InRange.Γ k) (impl_InRange.LH k) (bodyOf Try.f68) (finK ti Try.f68.results.toList [] (flags impl_InRange.sig).length (rwI (flags impl_InRange.sig) 0) impl_InRange.out) ⟨envOf (([.v (.int .i64 a0), .v (.int .i64 a1), .v (.int .i64 a2)]).zipIdx.map fun q => (q.2, q.1)), hpOf [], (flags impl_InRange.sig).length⟩ = impl_InRange.f k a0 a1 a2 := by kernel_rfl
theorem impl_InRange.ok (k : Nat) : CSound Try.prog 68 (impl_InRange.C k) :=
  csound κ_ok mixed tok (impl_InRange.hΓ k) (LH := impl_InRange.LH k) (fn := Try.f68) (c := bodyOf Try.f68) Try.func68 rfl Try.call68 impl_InRange.sig [] (impl_InRange.body k) (by kernel_rfl) (impl_InRange.lok k) (by decide) fun vs bs lf y hl hb hy => by
    unfold impl_InRange.body at hb
    split at hb
    · obtain rfl := Option.some.inj hb
      exact ⟨impl_InRange.out, impl_InRange.out_ok, (impl_InRange.den k _ _ _).trans hy⟩
    · cases hb
/-! ### impl_isRegister -/
def impl_isRegister.f (k : Nat) (a0 : Int) : Option Bool :=
  (impl_InRange.f k a0 (0 : Int) (5 : Int)).bind fun t1 => some t1
def impl_isRegister.Γ (k : Nat) : Ct κ := assoc [(68, impl_InRange.C k)]
def impl_isRegister.LH (k : Nat) : Nat → Option (LHi κ) := assoc []
theorem impl_isRegister.hΓ (k : Nat) : ∀ f g, impl_isRegister.Γ k f = some g → CSound Try.prog f g := G_cons (impl_InRange.ok k) G_nil
theorem impl_isRegister.lok (k : Nat) : LOK ti (impl_isRegister.Γ k) (impl_isRegister.LH k) 0 (loopsOf (bodyOf Try.f92)) :=
  (show loopsOf (bodyOf Try.f92) = [] by kernel_rfl) ▸ LOK_nil
def impl_isRegister.sig : List PSh := [.one .sc]
def impl_isRegister.g (y : Bool) : Ret κ := ⟨.v (.bool y), [], []⟩
def impl_isRegister.out (r : Ret κ) : Option Bool :=
  match r with
  | ⟨.v (.bool z0), [], []⟩ => some (z0)
  | _ => none
theorem impl_isRegister.out_ok (r : Ret κ) (y : Bool) (h : impl_isRegister.out r = some y) : r = impl_isRegister.g y := by
  unfold impl_isRegister.out at h
  split at h
  · obtain rfl := Option.some.inj h
    rfl
  · cases h
def impl_isRegister.body (k : Nat) (vs : List AV) (bs : List (Blk κ)) : Option (Lf κ) :=
  match vs, bs with
  | [.v (.int .i64 a0)], [] => some ⟨Bool, impl_isRegister.f k a0, impl_isRegister.g⟩
  | _, _ => none
def impl_isRegister.C (k : Nat) : Nat → List AV → AP κ AV := contract impl_isRegister.sig (impl_isRegister.body k)
theorem impl_isRegister.den (k : Nat) (a0 : Int) : Code.den ti (impl_isRegister.Γ k) (impl_isRegister.LH k) (bodyOf Try.f92) (finK ti Try.f92.results.toList [] (flags impl_isRegister.sig).length (rwI (flags impl_isRegister.sig) 0) impl_isRegister.out) ⟨envOf (([.v (.int .i64 a0)]).zipIdx.map fun q => (q.2, q.1)), hpOf [], (flags impl_isRegister.sig).length⟩ = impl_isRegister.f k a0 := by kernel_rfl
theorem impl_isRegister.ok (k : Nat) : CSound Try.prog 92 (impl_isRegister.C k) :=
  csound κ_ok mixed tok (impl_isRegister.hΓ k) (LH := impl_isRegister.LH k) (fn := Try.f92) (c := bodyOf Try.f92) Try.func92 rfl Try.call92 impl_isRegister.sig [] (impl_isRegister.body k) (by kernel_rfl) (impl_isRegister.lok k) (by decide) fun vs bs lf y hl hb hy => by
    unfold impl_isRegister.body at hb
    split at hb
    · obtain rfl := Option.some.inj hb
      exact ⟨impl_isRegister.out, impl_isRegister.out_ok, (impl_isRegister.den k _).trans hy⟩
    · cases hb
/-! ### impl_isOp -/
def impl_isOp.f (k : Nat) (a0_0 : Int) (a0_1 : Int) (a0_2 : Int) (a0_3 : Int) : Option Bool :=
  (impl_isRegister.f k a0_1).bind fun t1 => (bif !t1 then some false else (bif (a0_0 == (1 : Int)) then (impl_InRange.f k a0_2 (1 : Int) (9 : Int)).bind fun t2 => (bif t2 then some (a0_3 == (0 : Int)) else some false) else (bif (a0_0 == (5 : Int)) then (impl_InRange.f k a0_2 (1 : Int) (9 : Int)).bind fun t3 => (bif t3 then some (a0_3 == (0 : Int)) else some false) else (bif (a0_0 == (2 : Int)) then (impl_InRange.f k a0_2 (0 : Int) (999 : Int)).bind fun t4 => (bif t4 then some (a0_3 == (0 : Int)) else some false) else (bif (a0_0 == (3 : Int)) then (impl_isRegister.f k a0_2).bind fun t5 => (bif t5 then (impl_isRegister.f k a0_3).bind fun t6 => some t6 else some false) else (bif (a0_0 == (4 : Int)) then (impl_isRegister.f k a0_2).bind fun t7 => (bif t7 then (impl_isRegister.f k a0_3).bind fun t8 => some t8 else some false) else some false))))))
def impl_isOp.Γ (k : Nat) : Ct κ := assoc [(92, impl_isRegister.C k), (68, impl_InRange.C k)]
def impl_isOp.LH (k : Nat) : Nat → Option (LHi κ) := assoc []
theorem impl_isOp.hΓ (k : Nat) : ∀ f g, impl_isOp.Γ k f = some g → CSound Try.prog f g := G_cons (impl_isRegister.ok k) (G_cons (impl_InRange.ok k) G_nil)
theorem impl_isOp.lok (k : Nat) : LOK ti (impl_isOp.Γ k) (impl_isOp.LH k) 0 (loopsOf (bodyOf Try.f64)) :=
  (show loopsOf (bodyOf Try.f64) = [] by kernel_rfl) ▸ LOK_nil
def impl_isOp.sig : List PSh := [.agg [.sc, .sc, .sc, .sc]]
def impl_isOp.g (y : Bool) : Ret κ := ⟨.v (.bool y), [], []⟩
def impl_isOp.out (r : Ret κ) : Option Bool :=
  match r with
  | ⟨.v (.bool z0), [], []⟩ => some (z0)
  | _ => none
theorem impl_isOp.out_ok (r : Ret κ) (y : Bool) (h : impl_isOp.out r = some y) : r = impl_isOp.g y := by
  unfold impl_isOp.out at h
  split at h
  · obtain rfl := Option.some.inj h
    rfl
  · cases h
def impl_isOp.body (k : Nat) (vs : List AV) (bs : List (Blk κ)) : Option (Lf κ) :=
  match vs, bs with
  | [.agg [.int .i64 a0_0, .int .i64 a0_1, .int .i64 a0_2, .int .i64 a0_3]], [] => some ⟨Bool, impl_isOp.f k a0_0 a0_1 a0_2 a0_3, impl_isOp.g⟩
  | _, _ => none
def impl_isOp.C (k : Nat) : Nat → List AV → AP κ AV := contract impl_isOp.sig (impl_isOp.body k)
theorem impl_isOp.den (k : Nat) (a0_0 : Int) (a0_1 : Int) (a0_2 : Int) (a0_3 : Int) : Code.den ti (impl_isOp.Γ k) (impl_isOp.LH k) (bodyOf Try.f64) (finK ti Try.f64.results.toList [] (flags impl_isOp.sig).length (rwI (flags impl_isOp.sig) 0) impl_isOp.out) ⟨envOf (([.agg [.int .i64 a0_0, .int .i64 a0_1, .int .i64 a0_2, .int .i64 a0_3]]).zipIdx.map fun q => (q.2, q.1)), hpOf [], (flags impl_isOp.sig).length⟩ = impl_isOp.f k a0_0 a0_1 a0_2 a0_3 := by kernel_rfl
theorem impl_isOp.ok (k : Nat) : CSound Try.prog 64 (impl_isOp.C k) :=
  csound κ_ok mixed tok (impl_isOp.hΓ k) (LH := impl_isOp.LH k) (fn := Try.f64) (c := bodyOf Try.f64) Try.func64 rfl Try.call64 impl_isOp.sig [] (impl_isOp.body k) (by kernel_rfl) (impl_isOp.lok k) (by decide) fun vs bs lf y hl hb hy => by
    unfold impl_isOp.body at hb
    split at hb
    · obtain rfl := Option.some.inj hb
      exact ⟨impl_isOp.out, impl_isOp.out_ok, (impl_isOp.den k _ _ _ _).trans hy⟩
    · cases hb
/-! ### impl_AreOps -/
def impl_AreOps.L4 {R : Type} (k : Nat) (x1 : Int) (xl0 : List T_impl_Op) (X0 : Bool → Option R) (X1 : Unit → Option R) (rec : Int → Option R) (x2 : Int) : Option R :=
  (bif decide (x2 < x1) then (bif decide (0 ≤ x2) then (bif decide (x2 < (xl0.length : Int)) then (impl_isOp.f k ((rd_impl_Op xl0 x2).f0) ((rd_impl_Op xl0 x2).f1) ((rd_impl_Op xl0 x2).f2) ((rd_impl_Op xl0 x2).f3)).bind fun t1 => (bif !t1 then (X0 false) else (rec (w64 (x2 + (1 : Int))))) else none) else none) else (X1 ()))
def impl_AreOps.l4 {R : Type} (k : Nat) (x1 : Int) (xl0 : List T_impl_Op) (X0 : Bool → Option R) (X1 : Unit → Option R) : Nat → Int → Option R
  | 0 => fun _ => none
  | n + 1 => impl_AreOps.L4 k x1 xl0 X0 X1 (impl_AreOps.l4 k x1 xl0 X0 X1 n)
def impl_AreOps.f (k : Nat) (a0 : List T_impl_Op) : Option Bool :=
  (bif decide ((a0.length : Int) > (16 : Int)) then some false else (impl_AreOps.l4 k (a0.length : Int) a0 (fun (y2 : Bool) => some y2) (fun (_ : Unit) => some true) k (0 : Int)))
def impl_AreOps.h4 (k : Nat) {R : Type} (K : Ex → St κ → Option R) (vs : List AV) (bs : List (Blk κ)) : Option R :=
  match vs, bs with
  | [.v (.sl 0), .v (.int .i64 x1), .v (.int .i64 x2)], [qb0] => (asO 1 false qb0).bind fun xl0 => impl_AreOps.l4 k x1 xl0 (fun (z0 : Bool) => K .ret (stOf [(2, [])] [.v (.bool z0)] [.rows 1 false xl0])) (fun (_ : Unit) => K (.exit 0) (stOf [(2, [])] [.v .any] [.rows 1 false xl0])) k x2
  | _, _ => none
def impl_AreOps.Γ (k : Nat) : Ct κ := assoc [(64, impl_isOp.C k)]
def impl_AreOps.LH (k : Nat) : Nat → Option (LHi κ) := assoc [(4, ⟨1, [(8, [some 1]), (9, []), (10, [])], [(2, [])], @impl_AreOps.h4 k⟩)]
theorem impl_AreOps.hΓ (k : Nat) : ∀ f g, impl_AreOps.Γ k f = some g → CSound Try.prog f g := G_cons (impl_isOp.ok k) G_nil
theorem impl_AreOps.e4 {R : Type} (K : Ex → St κ → Option R) (k : Nat) (x1 : Int) (xl0 : List T_impl_Op) : ∀ (n : Nat) (x2 : Int), loopN 1 (Code.den ti (impl_AreOps.Γ k) (impl_AreOps.LH k) (loopAt Try.f23 0)) [(8, [some 1]), (9, []), (10, [])] [(2, [])] K n [.v (.sl 0), .v (.int .i64 x1), .v (.int .i64 x2)] [.rows 1 false xl0] = impl_AreOps.l4 k x1 xl0 (fun (z0 : Bool) => K .ret (stOf [(2, [])] [.v (.bool z0)] [.rows 1 false xl0])) (fun (_ : Unit) => K (.exit 0) (stOf [(2, [])] [.v .any] [.rows 1 false xl0])) n x2
  | 0, _ => rfl
  | n + 1, x2 => (show loopN 1 (Code.den ti (impl_AreOps.Γ k) (impl_AreOps.LH k) (loopAt Try.f23 0)) [(8, [some 1]), (9, []), (10, [])] [(2, [])] K (n + 1) [.v (.sl 0), .v (.int .i64 x1), .v (.int .i64 x2)] [.rows 1 false xl0] = impl_AreOps.L4 k x1 xl0 (fun (z0 : Bool) => K .ret (stOf [(2, [])] [.v (.bool z0)] [.rows 1 false xl0])) (fun (_ : Unit) => K (.exit 0) (stOf [(2, [])] [.v .any] [.rows 1 false xl0])) (fun (x2' : Int) => loopN 1 (Code.den ti (impl_AreOps.Γ k) (impl_AreOps.LH k) (loopAt Try.f23 0)) [(8, [some 1]), (9, []), (10, [])] [(2, [])] K n [.v (.sl 0), .v (.int .i64 x1), .v (.int .i64 x2')] [.rows 1 false xl0]) x2 by kernel_rfl).trans (congrArg (fun rec => impl_AreOps.L4 k x1 xl0 (fun (z0 : Bool) => K .ret (stOf [(2, [])] [.v (.bool z0)] [.rows 1 false xl0])) (fun (_ : Unit) => K (.exit 0) (stOf [(2, [])] [.v .any] [.rows 1 false xl0])) rec x2) (funext fun x2' => impl_AreOps.e4 K k x1 xl0 n x2'))
theorem impl_AreOps.q4 (k : Nat) {R : Type} (K : Ex → St κ → Option R) (vs : List AV) (bs : List (Blk κ)) (r : R) (h : impl_AreOps.h4 k K vs bs = some r) : ∃ n, loopN 1 (Code.den ti (impl_AreOps.Γ k) (impl_AreOps.LH k) (loopAt Try.f23 0)) [(8, [some 1]), (9, []), (10, [])] [(2, [])] K n vs bs = some r := by
  unfold impl_AreOps.h4 at h
  split at h
  · obtain ⟨_, rfl, h_1⟩ := asO_bind h
    exact ⟨k, (impl_AreOps.e4 K k _ _ k _).trans h_1⟩
  · cases h
theorem impl_AreOps.lok (k : Nat) : LOK ti (impl_AreOps.Γ k) (impl_AreOps.LH k) 1 (loopsOf (bodyOf Try.f23)) :=
  (show loopsOf (bodyOf Try.f23) = [loopAt Try.f23 0] by kernel_rfl) ▸ (LOK_cons (g := ⟨1, [(8, [some 1]), (9, []), (10, [])], [(2, [])], @impl_AreOps.h4 k⟩) (by kernel_rfl) rfl (fun K vs xs r h => impl_AreOps.q4 k K vs xs r h) (LOK_nil))
def impl_AreOps.sig : List PSh := [.one (.ro 1)]
def impl_AreOps.g (y : Bool) : Ret κ := ⟨.v (.bool y), [], []⟩
def impl_AreOps.out (r : Ret κ) : Option Bool :=
  match r with
  | ⟨.v (.bool z0), [], []⟩ => some (z0)
  | _ => none
theorem impl_AreOps.out_ok (r : Ret κ) (y : Bool) (h : impl_AreOps.out r = some y) : r = impl_AreOps.g y := by
  unfold impl_AreOps.out at h
  split at h
  · obtain rfl := Option.some.inj h
    rfl
  · cases h
def impl_AreOps.body (k : Nat) (vs : List AV) (bs : List (Blk κ)) : Option (Lf κ) :=
  match vs, bs with
  | [.v (.sl 0)], [qb0] => (asO 1 false qb0).bind fun a0 => some ⟨Bool, impl_AreOps.f k a0, impl_AreOps.g⟩
  | _, _ => none
def impl_AreOps.C (k : Nat) : Nat → List AV → AP κ AV := contract impl_AreOps.sig (impl_AreOps.body k)
theorem impl_AreOps.den (k : Nat) (a0 : List T_impl_Op) : Code.den ti (impl_AreOps.Γ k) (impl_AreOps.LH k) (bodyOf Try.f23) (finK ti Try.f23.results.toList [] (flags impl_AreOps.sig).length (rwI (flags impl_AreOps.sig) 0) impl_AreOps.out) ⟨envOf (([.v (.sl 0)]).zipIdx.map fun q => (q.2, q.1)), hpOf [.rows 1 false a0], (flags impl_AreOps.sig).length⟩ = impl_AreOps.f k a0 := by kernel_rfl
theorem impl_AreOps.ok (k : Nat) : CSound Try.prog 23 (impl_AreOps.C k) :=
  csound κ_ok mixed tok (impl_AreOps.hΓ k) (LH := impl_AreOps.LH k) (fn := Try.f23) (c := bodyOf Try.f23) Try.func23 rfl Try.call23 impl_AreOps.sig [] (impl_AreOps.body k) (by kernel_rfl) (impl_AreOps.lok k) (by decide) fun vs bs lf y hl hb hy => by
    unfold impl_AreOps.body at hb
    split at hb
    · obtain ⟨_, rfl, hb_1⟩ := asO_bind hb
      obtain rfl := Option.some.inj hb_1
      exact ⟨impl_AreOps.out, impl_AreOps.out_ok, (impl_AreOps.den k _).trans hy⟩
    · cases hb
/-! ### slices_Sort_int -/
def slices_Sort_int.f (k : Nat) (l : List Int) : Option (List Int) := sortF l
def slices_Sort_int.C (k : Nat) : Nat → List AV → AP κ AV := contract (inSig 2 none) (inB 2 κ none (slices_Sort_int.f k))
theorem slices_Sort_int.ok (k : Nat) : CSound Try.prog 100 (slices_Sort_int.C k) :=
  sort_sound κ_ok Try.laysSort Try.call100 2 rfl (fun x => x) (fun _ => rfl) (slices_Sort_int.f k) sortF_ok
/-! ### slices_Compact_int -/
def slices_Compact_int.f (k : Nat) (l : List Int) : Option (List Int) := compactF l
def slices_Compact_int.C (k : Nat) : Nat → List AV → AP κ AV := contract [.one (.rw 2)] (cutB 2 κ (slices_Compact_int.f k))
theorem slices_Compact_int.ok (k : Nat) : CSound Try.prog 101 (slices_Compact_int.C k) :=
  compact_sound κ_ok Try.laysCompact Try.call101 2 rfl (fun x => x) (fun _ => rfl) (slices_Compact_int.f k) compactF_ok
/-! ### impl_ordered -/
def impl_ordered.f (k : Nat) (a0 : List Int) : Option (List Int) :=
  (slices_Sort_int.f k a0).bind fun t1 => (slices_Compact_int.f k t1).bind fun t2 => some t2
def impl_ordered.Γ (k : Nat) : Ct κ := assoc [(100, slices_Sort_int.C k), (101, slices_Compact_int.C k)]
def impl_ordered.LH (k : Nat) : Nat → Option (LHi κ) := assoc []
theorem impl_ordered.hΓ (k : Nat) : ∀ f g, impl_ordered.Γ k f = some g → CSound Try.prog f g := G_cons (slices_Sort_int.ok k) (G_cons (slices_Compact_int.ok k) G_nil)
theorem impl_ordered.lok (k : Nat) : LOK ti (impl_ordered.Γ k) (impl_ordered.LH k) 1 (loopsOf (bodyOf Try.f82)) :=
  (show loopsOf (bodyOf Try.f82) = [] by kernel_rfl) ▸ LOK_nil
def impl_ordered.sig : List PSh := [.one (.rw 2)]
def impl_ordered.g (y : List Int) : Ret κ := ⟨.v (.sl 1), [.dead], [.rows 2 true y]⟩
def impl_ordered.out (r : Ret κ) : Option (List Int) :=
  match r with
  | ⟨.v (.sl 1), [.dead], [q0]⟩ => (asO 2 true q0).bind fun z0 => some (z0)
  | _ => none
theorem impl_ordered.out_ok (r : Ret κ) (y : List Int) (h : impl_ordered.out r = some y) : r = impl_ordered.g y := by
  unfold impl_ordered.out at h
  split at h
  · obtain ⟨_, rfl, h_1⟩ := asO_bind h
    obtain rfl := Option.some.inj h_1
    rfl
  · cases h
def impl_ordered.body (k : Nat) (vs : List AV) (bs : List (Blk κ)) : Option (Lf κ) :=
  match vs, bs with
  | [.v (.sl 0)], [qb0] => (asO 2 true qb0).bind fun a0 => some ⟨List Int, impl_ordered.f k a0, impl_ordered.g⟩
  | _, _ => none
def impl_ordered.C (k : Nat) : Nat → List AV → AP κ AV := contract impl_ordered.sig (impl_ordered.body k)
theorem impl_ordered.den (k : Nat) (a0 : List Int) : Code.den ti (impl_ordered.Γ k) (impl_ordered.LH k) (bodyOf Try.f82) (finK ti Try.f82.results.toList [(2, [some 2])] (flags impl_ordered.sig).length (rwI (flags impl_ordered.sig) 0) impl_ordered.out) ⟨envOf (([.v (.sl 0)]).zipIdx.map fun q => (q.2, q.1)), hpOf [.rows 2 true a0], (flags impl_ordered.sig).length⟩ = impl_ordered.f k a0 := by kernel_rfl
theorem impl_ordered.ok (k : Nat) : CSound Try.prog 82 (impl_ordered.C k) :=
  csound κ_ok mixed tok (impl_ordered.hΓ k) (LH := impl_ordered.LH k) (fn := Try.f82) (c := bodyOf Try.f82) Try.func82 rfl Try.call82 impl_ordered.sig [(2, [some 2])] (impl_ordered.body k) (by kernel_rfl) (impl_ordered.lok k) (by decide) fun vs bs lf y hl hb hy => by
    unfold impl_ordered.body at hb
    split at hb
    · obtain ⟨_, rfl, hb_1⟩ := asO_bind hb
      obtain rfl := Option.some.inj hb_1
      exact ⟨impl_ordered.out, impl_ordered.out_ok, (impl_ordered.den k _).trans hy⟩
    · cases hb
/-! ### impl_ownersOf -/
def impl_ownersOf.L5 {R : Type} (k : Nat) (x0 : Int) (x3 : Int) (xl0 : List T_impl_Op) (X0 : List Int → Option R) (rec : Int → List Int → Option R) (x4 : Int) (xl1 : List Int) : Option R :=
  (bif decide (x4 < x3) then (bif decide (0 ≤ x4) then (bif decide (x4 < (xl0.length : Int)) then (bif ((rd_impl_Op xl0 x4).f0 == x0) then (bif decide ((xl1.length + ([(rd_impl_Op xl0 x4).f2] : List Int).length) * 8 ≤ cap48) then (rec (w64 (x4 + (1 : Int))) (xl1 ++ ([(rd_impl_Op xl0 x4).f2] : List Int))) else none) else (rec (w64 (x4 + (1 : Int))) xl1)) else none) else none) else (X0 xl1))
def impl_ownersOf.l5 {R : Type} (k : Nat) (x0 : Int) (x3 : Int) (xl0 : List T_impl_Op) (X0 : List Int → Option R) : Nat → Int → List Int → Option R
  | 0 => fun _ _ => none
  | n + 1 => impl_ownersOf.L5 k x0 x3 xl0 X0 (impl_ownersOf.l5 k x0 x3 xl0 X0 n)
def impl_ownersOf.f (k : Nat) (a0 : List T_impl_Op) (a1 : Int) : Option (List Int) :=
  (impl_AreOps.f k a0).bind fun t1 => (bif !t1 then some ([] : List Int) else (impl_ownersOf.l5 k a1 (a0.length : Int) a0 (fun (y2 : List Int) => (impl_ordered.f k y2).bind fun t3 => some t3) k (0 : Int) ([] : List Int)))
def impl_ownersOf.h5 (k : Nat) {R : Type} (K : Ex → St κ → Option R) (vs : List AV) (bs : List (Blk κ)) : Option R :=
  match vs, bs with
  | [.v (.int .i64 x0), .v (.sl 1), .v (.sl 0), .v (.int .i64 x3), .v (.int .i64 x4)], [qb0, qb1] => (asO 1 false qb0).bind fun xl0 => (asO 2 true qb1).bind fun xl1 => impl_ownersOf.l5 k x0 x3 xl0 (fun (zl1 : List Int) => K (.exit 0) (stOf [(5, [some 2])] [.v (.sl 1)] [.rows 1 false xl0, .rows 2 true zl1])) k x4 xl1
  | _, _ => none
def impl_ownersOf.Γ (k : Nat) : Ct κ := assoc [(23, impl_AreOps.C k), (82, impl_ordered.C k)]
def impl_ownersOf.LH (k : Nat) : Nat → Option (LHi κ) := assoc [(5, ⟨1, [(1, []), (5, [some 2]), (13, [some 1]), (14, []), (15, [])], [(5, [some 2])], @impl_ownersOf.h5 k⟩)]
theorem impl_ownersOf.hΓ (k : Nat) : ∀ f g, impl_ownersOf.Γ k f = some g → CSound Try.prog f g := G_cons (impl_AreOps.ok k) (G_cons (impl_ordered.ok k) G_nil)
theorem impl_ownersOf.e5 {R : Type} (K : Ex → St κ → Option R) (k : Nat) (x0 : Int) (x3 : Int) (xl0 : List T_impl_Op) : ∀ (n : Nat) (x4 : Int) (xl1 : List Int), loopN 1 (Code.den ti (impl_ownersOf.Γ k) (impl_ownersOf.LH k) (loopAt Try.f79 0)) [(1, []), (5, [some 2]), (13, [some 1]), (14, []), (15, [])] [(5, [some 2])] K n [.v (.int .i64 x0), .v (.sl 1), .v (.sl 0), .v (.int .i64 x3), .v (.int .i64 x4)] [.rows 1 false xl0, .rows 2 true xl1] = impl_ownersOf.l5 k x0 x3 xl0 (fun (zl1 : List Int) => K (.exit 0) (stOf [(5, [some 2])] [.v (.sl 1)] [.rows 1 false xl0, .rows 2 true zl1])) n x4 xl1
  | 0, _, _ => rfl
  | n + 1, x4, xl1 => (show loopN 1 (Code.den ti (impl_ownersOf.Γ k) (impl_ownersOf.LH k) (loopAt Try.f79 0)) [(1, []), (5, [some 2]), (13, [some 1]), (14, []), (15, [])] [(5, [some 2])] K (n + 1) [.v (.int .i64 x0), .v (.sl 1), .v (.sl 0), .v (.int .i64 x3), .v (.int .i64 x4)] [.rows 1 false xl0, .rows 2 true xl1] = impl_ownersOf.L5 k x0 x3 xl0 (fun (zl1 : List Int) => K (.exit 0) (stOf [(5, [some 2])] [.v (.sl 1)] [.rows 1 false xl0, .rows 2 true zl1])) (fun (x4' : Int) (xl1' : List Int) => loopN 1 (Code.den ti (impl_ownersOf.Γ k) (impl_ownersOf.LH k) (loopAt Try.f79 0)) [(1, []), (5, [some 2]), (13, [some 1]), (14, []), (15, [])] [(5, [some 2])] K n [.v (.int .i64 x0), .v (.sl 1), .v (.sl 0), .v (.int .i64 x3), .v (.int .i64 x4')] [.rows 1 false xl0, .rows 2 true xl1']) x4 xl1 by kernel_rfl).trans (congrArg (fun rec => impl_ownersOf.L5 k x0 x3 xl0 (fun (zl1 : List Int) => K (.exit 0) (stOf [(5, [some 2])] [.v (.sl 1)] [.rows 1 false xl0, .rows 2 true zl1])) rec x4 xl1) (funext fun x4' => funext fun xl1' => impl_ownersOf.e5 K k x0 x3 xl0 n x4' xl1'))
theorem impl_ownersOf.q5 (k : Nat) {R : Type} (K : Ex → St κ → Option R) (vs : List AV) (bs : List (Blk κ)) (r : R) (h : impl_ownersOf.h5 k K vs bs = some r) : ∃ n, loopN 1 (Code.den ti (impl_ownersOf.Γ k) (impl_ownersOf.LH k) (loopAt Try.f79 0)) [(1, []), (5, [some 2]), (13, [some 1]), (14, []), (15, [])] [(5, [some 2])] K n vs bs = some r := by
  unfold impl_ownersOf.h5 at h
  split at h
  · obtain ⟨_, rfl, h_1⟩ := asO_bind h
    obtain ⟨_, rfl, h_2⟩ := asO_bind h_1
    exact ⟨k, (impl_ownersOf.e5 K k _ _ _ k _ _).trans h_2⟩
  · cases h
theorem impl_ownersOf.lok (k : Nat) : LOK ti (impl_ownersOf.Γ k) (impl_ownersOf.LH k) 1 (loopsOf (bodyOf Try.f79)) :=
  (show loopsOf (bodyOf Try.f79) = [loopAt Try.f79 0] by kernel_rfl) ▸ (LOK_cons (g := ⟨1, [(1, []), (5, [some 2]), (13, [some 1]), (14, []), (15, [])], [(5, [some 2])], @impl_ownersOf.h5 k⟩) (by kernel_rfl) rfl (fun K vs xs r h => impl_ownersOf.q5 k K vs xs r h) (LOK_nil))
def impl_ownersOf.sig : List PSh := [.one (.ro 1), .one .sc]
def impl_ownersOf.g (y : List Int) : Ret κ := ⟨.v (.sl 1), [], [.rows 2 true y]⟩
def impl_ownersOf.out (r : Ret κ) : Option (List Int) :=
  match r with
  | ⟨.v (.sl 1), [], [q0]⟩ => (asO 2 true q0).bind fun z0 => some (z0)
  | _ => none
theorem impl_ownersOf.out_ok (r : Ret κ) (y : List Int) (h : impl_ownersOf.out r = some y) : r = impl_ownersOf.g y := by
  unfold impl_ownersOf.out at h
  split at h
  · obtain ⟨_, rfl, h_1⟩ := asO_bind h
    obtain rfl := Option.some.inj h_1
    rfl
  · cases h
def impl_ownersOf.body (k : Nat) (vs : List AV) (bs : List (Blk κ)) : Option (Lf κ) :=
  match vs, bs with
  | [.v (.sl 0), .v (.int .i64 a1)], [qb0] => (asO 1 false qb0).bind fun a0 => some ⟨List Int, impl_ownersOf.f k a0 a1, impl_ownersOf.g⟩
  | _, _ => none
def impl_ownersOf.C (k : Nat) : Nat → List AV → AP κ AV := contract impl_ownersOf.sig (impl_ownersOf.body k)
theorem impl_ownersOf.den (k : Nat) (a0 : List T_impl_Op) (a1 : Int) : Code.den ti (impl_ownersOf.Γ k) (impl_ownersOf.LH k) (bodyOf Try.f79) (finK ti Try.f79.results.toList [(4, [some 2])] (flags impl_ownersOf.sig).length (rwI (flags impl_ownersOf.sig) 0) impl_ownersOf.out) ⟨envOf (([.v (.sl 0), .v (.int .i64 a1)]).zipIdx.map fun q => (q.2, q.1)), hpOf [.rows 1 false a0], (flags impl_ownersOf.sig).length⟩ = impl_ownersOf.f k a0 a1 := by kernel_rfl
theorem impl_ownersOf.ok (k : Nat) : CSound Try.prog 79 (impl_ownersOf.C k) :=
  csound κ_ok mixed tok (impl_ownersOf.hΓ k) (LH := impl_ownersOf.LH k) (fn := Try.f79) (c := bodyOf Try.f79) Try.func79 rfl Try.call79 impl_ownersOf.sig [(4, [some 2])] (impl_ownersOf.body k) (by kernel_rfl) (impl_ownersOf.lok k) (by decide) fun vs bs lf y hl hb hy => by
    unfold impl_ownersOf.body at hb
    split at hb
    · obtain ⟨_, rfl, hb_1⟩ := asO_bind hb
      obtain rfl := Option.some.inj hb_1
      exact ⟨impl_ownersOf.out, impl_ownersOf.out_ok, (impl_ownersOf.den k _ _).trans hy⟩
    · cases hb
end Go.Proofs.Ythjdecnheaifkaa.PFnExactOwnersSent
