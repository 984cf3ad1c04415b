/- What the functions that the law FnLeaks reaches come to; no conditions. -/
import Derived.Test.YthjdecnheaifkaaPFnLeaks3
set_option linter.unusedVariables false
set_option maxRecDepth 100000
namespace Go.Proofs.Ythjdecnheaifkaa.PFnLeaks
open Go Go.Eng Go.Proofs
/-! ### spec_l1Once -/
def spec_l1Once.f (k : Nat) (a0_0 : List Int) (a0_1 : Int) (a0_2 : Int) (a1 : Int) : Option (Bool × Int × Int) :=
  (spec_l1Below.f k a0_0 a0_1 a0_2 a1).bind fun t1 => some ((t1.1 == (0 : Int)), t1.2.1, t1.2.2)
def spec_l1Once.Γ (k : Nat) : Ct κ := assoc [(63, spec_l1Below.C k)]
def spec_l1Once.LH (k : Nat) : Nat → Option (LHi κ) := assoc []
theorem spec_l1Once.hΓ (k : Nat) : ∀ f g, spec_l1Once.Γ k f = some g → CSound Try.prog f g := G_cons (spec_l1Below.ok k) G_nil
theorem spec_l1Once.lok (k : Nat) : LOK ti (spec_l1Once.Γ k) (spec_l1Once.LH k) 2 (loopsOf (bodyOf Try.f83)) :=
  (show loopsOf (bodyOf Try.f83) = [] by kernel_rfl) ▸ LOK_nil
def spec_l1Once.sig : List PSh := [.cur 98 [.ro 0, .sc, .sc], .one .sc]
def spec_l1Once.g (y : Bool × Int × Int) : Ret κ := ⟨.v (.bool y.1), [.cells 98 [.sl 1, .int .i64 y.2.1, .int .i64 y.2.2]], []⟩
def spec_l1Once.out (r : Ret κ) : Option (Bool × Int × Int) :=
  match r with
  | ⟨.v (.bool z0), [.cells 98 [.sl 1, .int .i64 z1, .int .i64 z2]], []⟩ => some (z0, z1, z2)
  | _ => none
theorem spec_l1Once.out_ok (r : Ret κ) (y : Bool × Int × Int) (h : spec_l1Once.out r = some y) : r = spec_l1Once.g y := by
  unfold spec_l1Once.out at h
  split at h
  · obtain rfl := Option.some.inj h
    rfl
  · cases h
def spec_l1Once.body (k : Nat) (vs : List AV) (bs : List (Blk κ)) : Option (Lf κ) :=
  match vs, bs with
  | [.v (.ptr 0 0 0), .v (.int .i64 a1)], [.cells 98 [.sl 1, .int .i64 a0_1, .int .i64 a0_2], qb1] => (asO 0 false qb1).bind fun a0_0 => some ⟨Bool × Int × Int, spec_l1Once.f k a0_0 a0_1 a0_2 a1, spec_l1Once.g⟩
  | _, _ => none
def spec_l1Once.C (k : Nat) : Nat → List AV → AP κ AV := contract spec_l1Once.sig (spec_l1Once.body k)
theorem spec_l1Once.den (k : Nat) (a0_0 : List Int) (a0_1 : Int) (a0_2 : Int) (a1 : Int) : Code.den ti (spec_l1Once.Γ k) (spec_l1Once.LH k) (bodyOf Try.f83) (finK ti Try.f83.results.toList [] (flags spec_l1Once.sig).length (rwI (flags spec_l1Once.sig) 0) spec_l1Once.out) ⟨envOf (([.v (.ptr 0 0 0), .v (.int .i64 a1)]).zipIdx.map fun q => (q.2, q.1)), hpOf [.cells 98 [.sl 1, .int .i64 a0_1, .int .i64 a0_2], .rows 0 false a0_0], (flags spec_l1Once.sig).length⟩ = spec_l1Once.f k a0_0 a0_1 a0_2 a1 := by kernel_rfl
theorem spec_l1Once.ok (k : Nat) : CSound Try.prog 83 (spec_l1Once.C k) :=
  csound κ_ok mixed tok (spec_l1Once.hΓ k) (LH := spec_l1Once.LH k) (fn := Try.f83) (c := bodyOf Try.f83) Try.func83 rfl Try.call83 spec_l1Once.sig [] (spec_l1Once.body k) (by kernel_rfl) (spec_l1Once.lok k) (by decide) fun vs bs lf y hl hb hy => by
    unfold spec_l1Once.body at hb
    split at hb
    · obtain ⟨_, rfl, hb_1⟩ := asO_bind hb
      obtain rfl := Option.some.inj hb_1
      exact ⟨spec_l1Once.out, spec_l1Once.out_ok, (spec_l1Once.den k _ _ _ _).trans hy⟩
    · cases hb
/-! ### spec_l21Zeros -/
def spec_l21Zeros.L3 {R : Type} (k : Nat) (X0 : List Int → Option R) (rec : Int → List Int → Option R) (x1 : Int) (xl0 : List Int) : Option R :=
  (bif decide (x1 < (6 : Int)) then (bif decide ((xl0.length + ([(0 : Int)] : List Int).length) * 8 ≤ cap48) then (rec (w64 (x1 + (1 : Int))) (xl0 ++ ([(0 : Int)] : List Int))) else none) else (X0 xl0))
def spec_l21Zeros.l3 {R : Type} (k : Nat) (X0 : List Int → Option R) : Nat → Int → List Int → Option R
  | 0 => fun _ _ => none
  | n + 1 => spec_l21Zeros.L3 k X0 (spec_l21Zeros.l3 k X0 n)
def spec_l21Zeros.f (k : Nat) : Option (List Int) :=
  (spec_l21Zeros.l3 k (fun (y1 : List Int) => some y1) k (0 : Int) ([] : List Int))
def spec_l21Zeros.h3 (k : Nat) {R : Type} (K : Ex → St κ → Option R) (vs : List AV) (bs : List (Blk κ)) : Option R :=
  match vs, bs with
  | [.v (.sl 0), .v (.int .i64 x1)], [qb0] => (asO 2 true qb0).bind fun xl0 => spec_l21Zeros.l3 k (fun (zl0 : List Int) => K (.exit 0) (stOf [(1, [some 2])] [.v (.sl 0)] [.rows 2 true zl0])) k x1 xl0
  | _, _ => none
def spec_l21Zeros.Γ (k : Nat) : Ct κ := assoc []
def spec_l21Zeros.LH (k : Nat) : Nat → Option (LHi κ) := assoc [(3, ⟨0, [(1, [some 2]), (2, [])], [(1, [some 2])], @spec_l21Zeros.h3 k⟩)]
theorem spec_l21Zeros.hΓ (k : Nat) : ∀ f g, spec_l21Zeros.Γ k f = some g → CSound Try.prog f g := G_nil
theorem spec_l21Zeros.e3 {R : Type} (K : Ex → St κ → Option R) (k : Nat) : ∀ (n : Nat) (x1 : Int) (xl0 : List Int), loopN 0 (Code.den ti (spec_l21Zeros.Γ k) (spec_l21Zeros.LH k) (loopAt Try.f54 0)) [(1, [some 2]), (2, [])] [(1, [some 2])] K n [.v (.sl 0), .v (.int .i64 x1)] [.rows 2 true xl0] = spec_l21Zeros.l3 k (fun (zl0 : List Int) => K (.exit 0) (stOf [(1, [some 2])] [.v (.sl 0)] [.rows 2 true zl0])) n x1 xl0
  | 0, _, _ => rfl
  | n + 1, x1, xl0 => (show loopN 0 (Code.den ti (spec_l21Zeros.Γ k) (spec_l21Zeros.LH k) (loopAt Try.f54 0)) [(1, [some 2]), (2, [])] [(1, [some 2])] K (n + 1) [.v (.sl 0), .v (.int .i64 x1)] [.rows 2 true xl0] = spec_l21Zeros.L3 k (fun (zl0 : List Int) => K (.exit 0) (stOf [(1, [some 2])] [.v (.sl 0)] [.rows 2 true zl0])) (fun (x1' : Int) (xl0' : List Int) => loopN 0 (Code.den ti (spec_l21Zeros.Γ k) (spec_l21Zeros.LH k) (loopAt Try.f54 0)) [(1, [some 2]), (2, [])] [(1, [some 2])] K n [.v (.sl 0), .v (.int .i64 x1')] [.rows 2 true xl0']) x1 xl0 by kernel_rfl).trans (congrArg (fun rec => spec_l21Zeros.L3 k (fun (zl0 : List Int) => K (.exit 0) (stOf [(1, [some 2])] [.v (.sl 0)] [.rows 2 true zl0])) rec x1 xl0) (funext fun x1' => funext fun xl0' => spec_l21Zeros.e3 K k n x1' xl0'))
theorem spec_l21Zeros.q3 (k : Nat) {R : Type} (K : Ex → St κ → Option R) (vs : List AV) (bs : List (Blk κ)) (r : R) (h : spec_l21Zeros.h3 k K vs bs = some r) : ∃ n, loopN 0 (Code.den ti (spec_l21Zeros.Γ k) (spec_l21Zeros.LH k) (loopAt Try.f54 0)) [(1, [some 2]), (2, [])] [(1, [some 2])] K n vs bs = some r := by
  unfold spec_l21Zeros.h3 at h
  split at h
  · obtain ⟨_, rfl, h_1⟩ := asO_bind h
    exact ⟨k, (spec_l21Zeros.e3 K k k _ _).trans h_1⟩
  · cases h
theorem spec_l21Zeros.lok (k : Nat) : LOK ti (spec_l21Zeros.Γ k) (spec_l21Zeros.LH k) 0 (loopsOf (bodyOf Try.f54)) :=
  (show loopsOf (bodyOf Try.f54) = [loopAt Try.f54 0] by kernel_rfl) ▸ (LOK_cons (g := ⟨0, [(1, [some 2]), (2, [])], [(1, [some 2])], @spec_l21Zeros.h3 k⟩) (by kernel_rfl) rfl (fun K vs xs r h => spec_l21Zeros.q3 k K vs xs r h) (LOK_nil))
def spec_l21Zeros.sig : List PSh := []
def spec_l21Zeros.g (y : List Int) : Ret κ := ⟨.v (.sl 0), [], [.rows 2 true y]⟩
def spec_l21Zeros.out (r : Ret κ) : Option (List Int) :=
  match r with
  | ⟨.v (.sl 0), [], [q0]⟩ => (asO 2 true q0).bind fun z0 => some (z0)
  | _ => none
theorem spec_l21Zeros.out_ok (r : Ret κ) (y : List Int) (h : spec_l21Zeros.out r = some y) : r = spec_l21Zeros.g y := by
  unfold spec_l21Zeros.out at h
  split at h
  · obtain ⟨_, rfl, h_1⟩ := asO_bind h
    obtain rfl := Option.some.inj h_1
    rfl
  · cases h
def spec_l21Zeros.body (k : Nat) (vs : List AV) (bs : List (Blk κ)) : Option (Lf κ) :=
  match vs, bs with
  | [], [] => some ⟨List Int, spec_l21Zeros.f k, spec_l21Zeros.g⟩
  | _, _ => none
def spec_l21Zeros.C (k : Nat) : Nat → List AV → AP κ AV := contract spec_l21Zeros.sig (spec_l21Zeros.body k)
theorem spec_l21Zeros.den (k : Nat) : Code.den ti (spec_l21Zeros.Γ k) (spec_l21Zeros.LH k) (bodyOf Try.f54) (finK ti Try.f54.results.toList [(0, [some 2])] (flags spec_l21Zeros.sig).length (rwI (flags spec_l21Zeros.sig) 0) spec_l21Zeros.out) ⟨envOf (([]).zipIdx.map fun q => (q.2, q.1)), hpOf [], (flags spec_l21Zeros.sig).length⟩ = spec_l21Zeros.f k := by kernel_rfl
theorem spec_l21Zeros.ok (k : Nat) : CSound Try.prog 54 (spec_l21Zeros.C k) :=
  csound κ_ok mixed tok (spec_l21Zeros.hΓ k) (LH := spec_l21Zeros.LH k) (fn := Try.f54) (c := bodyOf Try.f54) Try.func54 rfl Try.call54 spec_l21Zeros.sig [(0, [some 2])] (spec_l21Zeros.body k) (by kernel_rfl) (spec_l21Zeros.lok k) (by decide) fun vs bs lf y hl hb hy => by
    unfold spec_l21Zeros.body at hb
    split at hb
    · obtain rfl := Option.some.inj hb
      exact ⟨spec_l21Zeros.out, spec_l21Zeros.out_ok, (spec_l21Zeros.den k).trans hy⟩
    · cases hb
/-! ### spec_l1In -/
def spec_l1In.f (k : Nat) (a0 : Int) (a1 : Int) (a2 : Int) : Option Bool :=
  (bif decide (a0 ≥ a1) then some (decide (a0 ≤ a2)) else some false)
def spec_l1In.Γ (k : Nat) : Ct κ := assoc []
def spec_l1In.LH (k : Nat) : Nat → Option (LHi κ) := assoc []
theorem spec_l1In.hΓ (k : Nat) : ∀ f g, spec_l1In.Γ k f = some g → CSound Try.prog f g := G_nil
theorem spec_l1In.lok (k : Nat) : LOK ti (spec_l1In.Γ k) (spec_l1In.LH k) 0 (loopsOf (bodyOf Try.f93)) :=
  (show loopsOf (bodyOf Try.f93) = [] by kernel_rfl) ▸ LOK_nil
def spec_l1In.sig : List PSh := [.one .sc, .one .sc, .one .sc]
def spec_l1In.g (y : Bool) : Ret κ := ⟨.v (.bool y), [], []⟩
def spec_l1In.out (r : Ret κ) : Option Bool :=
  match r with
  | ⟨.v (.bool z0), [], []⟩ => some (z0)
  | _ => none
theorem spec_l1In.out_ok (r : Ret κ) (y : Bool) (h : spec_l1In.out r = some y) : r = spec_l1In.g y := by
  unfold spec_l1In.out at h
  split at h
  · obtain rfl := Option.some.inj h
    rfl
  · cases h
def spec_l1In.body (k : Nat) (vs : List AV) (bs : List (Blk κ)) : Option (Lf κ) :=
  match vs, bs with
  | [.v (.int .i64 a0), .v (.int .i64 a1), .v (.int .i64 a2)], [] => some ⟨Bool, spec_l1In.f k a0 a1 a2, spec_l1In.g⟩
  | _, _ => none
def spec_l1In.C (k : Nat) : Nat → List AV → AP κ AV := contract spec_l1In.sig (spec_l1In.body k)
theorem spec_l1In.den (k : Nat) (a0 : Int) (a1 : Int) (a2 : Int) : Code.den ti (spec_l1In.Γ k) (spec_l1In.LH k) (bodyOf Try.f93) (finK ti Try.f93.results.toList [] (flags spec_l1In.sig).length (rwI (flags spec_l1In.sig) 0) spec_l1In.out) ⟨envOf (([.v (.int .i64 a0), .v (.int .i64 a1), .v (.int .i64 a2)]).zipIdx.map fun q => (q.2, q.1)), hpOf [], (flags spec_l1In.sig).length⟩ = spec_l1In.f k a0 a1 a2 := by kernel_rfl
theorem spec_l1In.ok (k : Nat) : CSound Try.prog 93 (spec_l1In.C k) :=
  csound κ_ok mixed tok (spec_l1In.hΓ k) (LH := spec_l1In.LH k) (fn := Try.f93) (c := bodyOf Try.f93) Try.func93 rfl Try.call93 spec_l1In.sig [] (spec_l1In.body k) (by kernel_rfl) (spec_l1In.lok k) (by decide) fun vs bs lf y hl hb hy => by
    unfold spec_l1In.body at hb
    split at hb
    · obtain rfl := Option.some.inj hb
      exact ⟨spec_l1In.out, spec_l1In.out_ok, (spec_l1In.den k _ _ _).trans hy⟩
    · cases hb
/-! ### spec_l21Ok -/
def spec_l21Ok.f (k : Nat) (a0_0 : Int) (a0_1 : Int) (a0_2 : Int) (a0_3 : Int) : Option Bool :=
  (spec_l1In.f k a0_1 (0 : Int) (5 : Int)).bind fun t1 => (spec_l1In.f k a0_2 (0 : Int) (5 : Int)).bind fun t2 => (bif (a0_0 == (1 : Int)) then (bif t1 then (spec_l1In.f k a0_2 (1 : Int) (9 : Int)).bind fun t3 => (bif t3 then some (a0_3 == (0 : Int)) else some false) else some false) else (bif (a0_0 == (5 : Int)) then (bif t1 then (spec_l1In.f k a0_2 (1 : Int) (9 : Int)).bind fun t4 => (bif t4 then some (a0_3 == (0 : Int)) else some false) else some false) else (bif (a0_0 == (2 : Int)) then (bif t1 then (spec_l1In.f k a0_2 (0 : Int) (999 : Int)).bind fun t5 => (bif t5 then some (a0_3 == (0 : Int)) else some false) else some false) else (bif (a0_0 == (3 : Int)) then (bif t1 then (bif t2 then (spec_l1In.f k a0_3 (0 : Int) (5 : Int)).bind fun t6 => some t6 else some false) else some false) else (bif (a0_0 == (4 : Int)) then (bif t1 then (bif t2 then (spec_l1In.f k a0_3 (0 : Int) (5 : Int)).bind fun t7 => some t7 else some false) else some false) else some false)))))
def spec_l21Ok.Γ (k : Nat) : Ct κ := assoc [(93, spec_l1In.C k)]
def spec_l21Ok.LH (k : Nat) : Nat → Option (LHi κ) := assoc []
theorem spec_l21Ok.hΓ (k : Nat) : ∀ f g, spec_l21Ok.Γ k f = some g → CSound Try.prog f g := G_cons (spec_l1In.ok k) G_nil
theorem spec_l21Ok.lok (k : Nat) : LOK ti (spec_l21Ok.Γ k) (spec_l21Ok.LH k) 0 (loopsOf (bodyOf Try.f65)) :=
  (show loopsOf (bodyOf Try.f65) = [] by kernel_rfl) ▸ LOK_nil
def spec_l21Ok.sig : List PSh := [.agg [.sc, .sc, .sc, .sc]]
def spec_l21Ok.g (y : Bool) : Ret κ := ⟨.v (.bool y), [], []⟩
def spec_l21Ok.out (r : Ret κ) : Option Bool :=
  match r with
  | ⟨.v (.bool z0), [], []⟩ => some (z0)
  | _ => none
theorem spec_l21Ok.out_ok (r : Ret κ) (y : Bool) (h : spec_l21Ok.out r = some y) : r = spec_l21Ok.g y := by
  unfold spec_l21Ok.out at h
  split at h
  · obtain rfl := Option.some.inj h
    rfl
  · cases h
def spec_l21Ok.body (k : Nat) (vs : List AV) (bs : List (Blk κ)) : Option (Lf κ) :=
  match vs, bs with
  | [.agg [.int .i64 a0_0, .int .i64 a0_1, .int .i64 a0_2, .int .i64 a0_3]], [] => some ⟨Bool, spec_l21Ok.f k a0_0 a0_1 a0_2 a0_3, spec_l21Ok.g⟩
  | _, _ => none
def spec_l21Ok.C (k : Nat) : Nat → List AV → AP κ AV := contract spec_l21Ok.sig (spec_l21Ok.body k)
theorem spec_l21Ok.den (k : Nat) (a0_0 : Int) (a0_1 : Int) (a0_2 : Int) (a0_3 : Int) : Code.den ti (spec_l21Ok.Γ k) (spec_l21Ok.LH k) (bodyOf Try.f65) (finK ti Try.f65.results.toList [] (flags spec_l21Ok.sig).length (rwI (flags spec_l21Ok.sig) 0) spec_l21Ok.out) ⟨envOf (([.agg [.int .i64 a0_0, .int .i64 a0_1, .int .i64 a0_2, .int .i64 a0_3]]).zipIdx.map fun q => (q.2, q.1)), hpOf [], (flags spec_l21Ok.sig).length⟩ = spec_l21Ok.f k a0_0 a0_1 a0_2 a0_3 := by kernel_rfl
theorem spec_l21Ok.ok (k : Nat) : CSound Try.prog 65 (spec_l21Ok.C k) :=
  csound κ_ok mixed tok (spec_l21Ok.hΓ k) (LH := spec_l21Ok.LH k) (fn := Try.f65) (c := bodyOf Try.f65) Try.func65 rfl Try.call65 spec_l21Ok.sig [] (spec_l21Ok.body k) (by kernel_rfl) (spec_l21Ok.lok k) (by decide) fun vs bs lf y hl hb hy => by
    unfold spec_l21Ok.body at hb
    split at hb
    · obtain rfl := Option.some.inj hb
      exact ⟨spec_l21Ok.out, spec_l21Ok.out_ok, (spec_l21Ok.den k _ _ _ _).trans hy⟩
    · cases hb
/-! ### spec_AreOps -/
def spec_AreOps.L2 {R : Type} (k : Nat) (xl0 : List T_impl_Op) (X0 : Bool → Option R) (X1 : Unit → Option R) (rec : Int → Option R) (x1 : Int) : Option R :=
  (bif decide (x1 < (xl0.length : Int)) then (bif decide (0 ≤ x1) then (bif decide (x1 < (xl0.length : Int)) then (spec_l21Ok.f k ((rd_impl_Op xl0 x1).f0) ((rd_impl_Op xl0 x1).f1) ((rd_impl_Op xl0 x1).f2) ((rd_impl_Op xl0 x1).f3)).bind fun t1 => (bif !t1 then (X0 false) else (rec (w64 (x1 + (1 : Int))))) else none) else none) else (X1 ()))
def spec_AreOps.l2 {R : Type} (k : Nat) (xl0 : List T_impl_Op) (X0 : Bool → Option R) (X1 : Unit → Option R) : Nat → Int → Option R
  | 0 => fun _ => none
  | n + 1 => spec_AreOps.L2 k xl0 X0 X1 (spec_AreOps.l2 k xl0 X0 X1 n)
def spec_AreOps.f (k : Nat) (a0 : List T_impl_Op) : Option Bool :=
  (spec_AreOps.l2 k a0 (fun (y2 : Bool) => some y2) (fun (_ : Unit) => some (decide ((a0.length : Int) ≤ (16 : Int)))) k (0 : Int))
def spec_AreOps.h2 (k : Nat) {R : Type} (K : Ex → St κ → Option R) (vs : List AV) (bs : List (Blk κ)) : Option R :=
  match vs, bs with
  | [.v (.sl 0), .v (.int .i64 x1)], [qb0] => (asO 1 false qb0).bind fun xl0 => spec_AreOps.l2 k xl0 (fun (z1 : Bool) => K .ret (stOf [(0, [some 1]), (2, [])] [.v (.sl 0), .v (.bool z1)] [.rows 1 false xl0])) (fun (_ : Unit) => K (.exit 0) (stOf [(0, [some 1]), (2, [])] [.v (.sl 0), .v .any] [.rows 1 false xl0])) k x1
  | _, _ => none
def spec_AreOps.Γ (k : Nat) : Ct κ := assoc [(65, spec_l21Ok.C k)]
def spec_AreOps.LH (k : Nat) : Nat → Option (LHi κ) := assoc [(2, ⟨1, [(0, [some 1]), (3, [])], [(0, [some 1]), (2, [])], @spec_AreOps.h2 k⟩)]
theorem spec_AreOps.hΓ (k : Nat) : ∀ f g, spec_AreOps.Γ k f = some g → CSound Try.prog f g := G_cons (spec_l21Ok.ok k) G_nil
theorem spec_AreOps.e2 {R : Type} (K : Ex → St κ → Option R) (k : Nat) (xl0 : List T_impl_Op) : ∀ (n : Nat) (x1 : Int), loopN 1 (Code.den ti (spec_AreOps.Γ k) (spec_AreOps.LH k) (loopAt Try.f24 0)) [(0, [some 1]), (3, [])] [(0, [some 1]), (2, [])] K n [.v (.sl 0), .v (.int .i64 x1)] [.rows 1 false xl0] = spec_AreOps.l2 k xl0 (fun (z1 : Bool) => K .ret (stOf [(0, [some 1]), (2, [])] [.v (.sl 0), .v (.bool z1)] [.rows 1 false xl0])) (fun (_ : Unit) => K (.exit 0) (stOf [(0, [some 1]), (2, [])] [.v (.sl 0), .v .any] [.rows 1 false xl0])) n x1
  | 0, _ => rfl
  | n + 1, x1 => (show loopN 1 (Code.den ti (spec_AreOps.Γ k) (spec_AreOps.LH k) (loopAt Try.f24 0)) [(0, [some 1]), (3, [])] [(0, [some 1]), (2, [])] K (n + 1) [.v (.sl 0), .v (.int .i64 x1)] [.rows 1 false xl0] = spec_AreOps.L2 k xl0 (fun (z1 : Bool) => K .ret (stOf [(0, [some 1]), (2, [])] [.v (.sl 0), .v (.bool z1)] [.rows 1 false xl0])) (fun (_ : Unit) => K (.exit 0) (stOf [(0, [some 1]), (2, [])] [.v (.sl 0), .v .any] [.rows 1 false xl0])) (fun (x1' : Int) => loopN 1 (Code.den ti (spec_AreOps.Γ k) (spec_AreOps.LH k) (loopAt Try.f24 0)) [(0, [some 1]), (3, [])] [(0, [some 1]), (2, [])] K n [.v (.sl 0), .v (.int .i64 x1')] [.rows 1 false xl0]) x1 by kernel_rfl).trans (congrArg (fun rec => spec_AreOps.L2 k xl0 (fun (z1 : Bool) => K .ret (stOf [(0, [some 1]), (2, [])] [.v (.sl 0), .v (.bool z1)] [.rows 1 false xl0])) (fun (_ : Unit) => K (.exit 0) (stOf [(0, [some 1]), (2, [])] [.v (.sl 0), .v .any] [.rows 1 false xl0])) rec x1) (funext fun x1' => spec_AreOps.e2 K k xl0 n x1'))
theorem spec_AreOps.q2 (k : Nat) {R : Type} (K : Ex → St κ → Option R) (vs : List AV) (bs : List (Blk κ)) (r : R) (h : spec_AreOps.h2 k K vs bs = some r) : ∃ n, loopN 1 (Code.den ti (spec_AreOps.Γ k) (spec_AreOps.LH k) (loopAt Try.f24 0)) [(0, [some 1]), (3, [])] [(0, [some 1]), (2, [])] K n vs bs = some r := by
  unfold spec_AreOps.h2 at h
  split at h
  · obtain ⟨_, rfl, h_1⟩ := asO_bind h
    exact ⟨k, (spec_AreOps.e2 K k _ k _).trans h_1⟩
  · cases h
theorem spec_AreOps.lok (k : Nat) : LOK ti (spec_AreOps.Γ k) (spec_AreOps.LH k) 1 (loopsOf (bodyOf Try.f24)) :=
  (show loopsOf (bodyOf Try.f24) = [loopAt Try.f24 0] by kernel_rfl) ▸ (LOK_cons (g := ⟨1, [(0, [some 1]), (3, [])], [(0, [some 1]), (2, [])], @spec_AreOps.h2 k⟩) (by kernel_rfl) rfl (fun K vs xs r h => spec_AreOps.q2 k K vs xs r h) (LOK_nil))
def spec_AreOps.sig : List PSh := [.one (.ro 1)]
def spec_AreOps.g (y : Bool) : Ret κ := ⟨.v (.bool y), [], []⟩
def spec_AreOps.out (r : Ret κ) : Option Bool :=
  match r with
  | ⟨.v (.bool z0), [], []⟩ => some (z0)
  | _ => none
theorem spec_AreOps.out_ok (r : Ret κ) (y : Bool) (h : spec_AreOps.out r = some y) : r = spec_AreOps.g y := by
  unfold spec_AreOps.out at h
  split at h
  · obtain rfl := Option.some.inj h
    rfl
  · cases h
def spec_AreOps.body (k : Nat) (vs : List AV) (bs : List (Blk κ)) : Option (Lf κ) :=
  match vs, bs with
  | [.v (.sl 0)], [qb0] => (asO 1 false qb0).bind fun a0 => some ⟨Bool, spec_AreOps.f k a0, spec_AreOps.g⟩
  | _, _ => none
def spec_AreOps.C (k : Nat) : Nat → List AV → AP κ AV := contract spec_AreOps.sig (spec_AreOps.body k)
theorem spec_AreOps.den (k : Nat) (a0 : List T_impl_Op) : Code.den ti (spec_AreOps.Γ k) (spec_AreOps.LH k) (bodyOf Try.f24) (finK ti Try.f24.results.toList [] (flags spec_AreOps.sig).length (rwI (flags spec_AreOps.sig) 0) spec_AreOps.out) ⟨envOf (([.v (.sl 0)]).zipIdx.map fun q => (q.2, q.1)), hpOf [.rows 1 false a0], (flags spec_AreOps.sig).length⟩ = spec_AreOps.f k a0 := by kernel_rfl
theorem spec_AreOps.ok (k : Nat) : CSound Try.prog 24 (spec_AreOps.C k) :=
  csound κ_ok mixed tok (spec_AreOps.hΓ k) (LH := spec_AreOps.LH k) (fn := Try.f24) (c := bodyOf Try.f24) Try.func24 rfl Try.call24 spec_AreOps.sig [] (spec_AreOps.body k) (by kernel_rfl) (spec_AreOps.lok k) (by decide) fun vs bs lf y hl hb hy => by
    unfold spec_AreOps.body at hb
    split at hb
    · obtain ⟨_, rfl, hb_1⟩ := asO_bind hb
      obtain rfl := Option.some.inj hb_1
      exact ⟨spec_AreOps.out, spec_AreOps.out_ok, (spec_AreOps.den k _).trans hy⟩
    · cases hb
/-! ### spec_l21Value -/
def spec_l21Value.f (k : Nat) (a0 : List Int) (a1 : Int) : Option Int :=
  (bif decide (a1 > (a0.length : Int)) then some (0 : Int) else (bif decide (0 ≤ (w64 (a1 - (1 : Int)))) then (bif decide ((w64 (a1 - (1 : Int))) < (a0.length : Int)) then (spec_l1In.f k (rd_i64 a0 (w64 (a1 - (1 : Int)))) (0 : Int) (999 : Int)).bind fun t1 => (bif !t1 then some (0 : Int) else (bif decide (0 ≤ (w64 (a1 - (1 : Int)))) then (bif decide ((w64 (a1 - (1 : Int))) < (a0.length : Int)) then some (rd_i64 a0 (w64 (a1 - (1 : Int)))) else none) else none)) else none) else none))
def spec_l21Value.Γ (k : Nat) : Ct κ := assoc [(93, spec_l1In.C k)]
def spec_l21Value.LH (k : Nat) : Nat → Option (LHi κ) := assoc []
theorem spec_l21Value.hΓ (k : Nat) : ∀ f g, spec_l21Value.Γ k f = some g → CSound Try.prog f g := G_cons (spec_l1In.ok k) G_nil
theorem spec_l21Value.lok (k : Nat) : LOK ti (spec_l21Value.Γ k) (spec_l21Value.LH k) 1 (loopsOf (bodyOf Try.f84)) :=
  (show loopsOf (bodyOf Try.f84) = [] by kernel_rfl) ▸ LOK_nil
def spec_l21Value.sig : List PSh := [.one (.ro 2), .one .sc]
def spec_l21Value.g (y : Int) : Ret κ := ⟨.v (.int .i64 y), [], []⟩
def spec_l21Value.out (r : Ret κ) : Option Int :=
  match r with
  | ⟨.v (.int .i64 z0), [], []⟩ => some (z0)
  | _ => none
theorem spec_l21Value.out_ok (r : Ret κ) (y : Int) (h : spec_l21Value.out r = some y) : r = spec_l21Value.g y := by
  unfold spec_l21Value.out at h
  split at h
  · obtain rfl := Option.some.inj h
    rfl
  · cases h
def spec_l21Value.body (k : Nat) (vs : List AV) (bs : List (Blk κ)) : Option (Lf κ) :=
  match vs, bs with
  | [.v (.sl 0), .v (.int .i64 a1)], [qb0] => (asO 2 false qb0).bind fun a0 => some ⟨Int, spec_l21Value.f k a0 a1, spec_l21Value.g⟩
  | _, _ => none
def spec_l21Value.C (k : Nat) : Nat → List AV → AP κ AV := contract spec_l21Value.sig (spec_l21Value.body k)
theorem spec_l21Value.den (k : Nat) (a0 : List Int) (a1 : Int) : Code.den ti (spec_l21Value.Γ k) (spec_l21Value.LH k) (bodyOf Try.f84) (finK ti Try.f84.results.toList [] (flags spec_l21Value.sig).length (rwI (flags spec_l21Value.sig) 0) spec_l21Value.out) ⟨envOf (([.v (.sl 0), .v (.int .i64 a1)]).zipIdx.map fun q => (q.2, q.1)), hpOf [.rows 2 false a0], (flags spec_l21Value.sig).length⟩ = spec_l21Value.f k a0 a1 := by kernel_rfl
theorem spec_l21Value.ok (k : Nat) : CSound Try.prog 84 (spec_l21Value.C k) :=
  csound κ_ok mixed tok (spec_l21Value.hΓ k) (LH := spec_l21Value.LH k) (fn := Try.f84) (c := bodyOf Try.f84) Try.func84 rfl Try.call84 spec_l21Value.sig [] (spec_l21Value.body k) (by kernel_rfl) (spec_l21Value.lok k) (by decide) fun vs bs lf y hl hb hy => by
    unfold spec_l21Value.body at hb
    split at hb
    · obtain ⟨_, rfl, hb_1⟩ := asO_bind hb
      obtain rfl := Option.some.inj hb_1
      exact ⟨spec_l21Value.out, spec_l21Value.out_ok, (spec_l21Value.den k _ _).trans hy⟩
    · cases hb
/-! ### spec_l7Has -/
def spec_l7Has.L2 {R : Type} (k : Nat) (x1 : Int) (xl0 : List Int) (X0 : Bool → Option R) (X1 : Unit → Option R) (rec : Int → Option R) (x2 : Int) : Option R :=
  (bif decide (x2 < (xl0.length : Int)) then (bif decide (0 ≤ x2) then (bif decide (x2 < (xl0.length : Int)) then (bif ((rd_i64 xl0 x2) == x1) then (X0 true) else (rec (w64 (x2 + (1 : Int))))) else none) else none) else (X1 ()))
def spec_l7Has.l2 {R : Type} (k : Nat) (x1 : Int) (xl0 : List Int) (X0 : Bool → Option R) (X1 : Unit → Option R) : Nat → Int → Option R
  | 0 => fun _ => none
  | n + 1 => spec_l7Has.L2 k x1 xl0 X0 X1 (spec_l7Has.l2 k x1 xl0 X0 X1 n)
def spec_l7Has.f (k : Nat) (a0 : List Int) (a1 : Int) : Option Bool :=
  (spec_l7Has.l2 k a1 a0 (fun (y1 : Bool) => some y1) (fun (_ : Unit) => some false) k (0 : Int))
def spec_l7Has.h2 (k : Nat) {R : Type} (K : Ex → St κ → Option R) (vs : List AV) (bs : List (Blk κ)) : Option R :=
  match vs, bs with
  | [.v (.sl 0), .v (.int .i64 x1), .v (.int .i64 x2)], [qb0] => (asO 2 false qb0).bind fun xl0 => spec_l7Has.l2 k x1 xl0 (fun (z0 : Bool) => K .ret (stOf [(4, [])] [.v (.bool z0)] [.rows 2 false xl0])) (fun (_ : Unit) => K (.exit 0) (stOf [(4, [])] [.v .any] [.rows 2 false xl0])) k x2
  | _, _ => none
def spec_l7Has.Γ (k : Nat) : Ct κ := assoc []
def spec_l7Has.LH (k : Nat) : Nat → Option (LHi κ) := assoc [(2, ⟨1, [(0, [some 2]), (1, []), (5, [])], [(4, [])], @spec_l7Has.h2 k⟩)]
theorem spec_l7Has.hΓ (k : Nat) : ∀ f g, spec_l7Has.Γ k f = some g → CSound Try.prog f g := G_nil
theorem spec_l7Has.e2 {R : Type} (K : Ex → St κ → Option R) (k : Nat) (x1 : Int) (xl0 : List Int) : ∀ (n : Nat) (x2 : Int), loopN 1 (Code.den ti (spec_l7Has.Γ k) (spec_l7Has.LH k) (loopAt Try.f102 0)) [(0, [some 2]), (1, []), (5, [])] [(4, [])] K n [.v (.sl 0), .v (.int .i64 x1), .v (.int .i64 x2)] [.rows 2 false xl0] = spec_l7Has.l2 k x1 xl0 (fun (z0 : Bool) => K .ret (stOf [(4, [])] [.v (.bool z0)] [.rows 2 false xl0])) (fun (_ : Unit) => K (.exit 0) (stOf [(4, [])] [.v .any] [.rows 2 false xl0])) n x2
  | 0, _ => rfl
  | n + 1, x2 => (show loopN 1 (Code.den ti (spec_l7Has.Γ k) (spec_l7Has.LH k) (loopAt Try.f102 0)) [(0, [some 2]), (1, []), (5, [])] [(4, [])] K (n + 1) [.v (.sl 0), .v (.int .i64 x1), .v (.int .i64 x2)] [.rows 2 false xl0] = spec_l7Has.L2 k x1 xl0 (fun (z0 : Bool) => K .ret (stOf [(4, [])] [.v (.bool z0)] [.rows 2 false xl0])) (fun (_ : Unit) => K (.exit 0) (stOf [(4, [])] [.v .any] [.rows 2 false xl0])) (fun (x2' : Int) => loopN 1 (Code.den ti (spec_l7Has.Γ k) (spec_l7Has.LH k) (loopAt Try.f102 0)) [(0, [some 2]), (1, []), (5, [])] [(4, [])] K n [.v (.sl 0), .v (.int .i64 x1), .v (.int .i64 x2')] [.rows 2 false xl0]) x2 by kernel_rfl).trans (congrArg (fun rec => spec_l7Has.L2 k x1 xl0 (fun (z0 : Bool) => K .ret (stOf [(4, [])] [.v (.bool z0)] [.rows 2 false xl0])) (fun (_ : Unit) => K (.exit 0) (stOf [(4, [])] [.v .any] [.rows 2 false xl0])) rec x2) (funext fun x2' => spec_l7Has.e2 K k x1 xl0 n x2'))
theorem spec_l7Has.q2 (k : Nat) {R : Type} (K : Ex → St κ → Option R) (vs : List AV) (bs : List (Blk κ)) (r : R) (h : spec_l7Has.h2 k K vs bs = some r) : ∃ n, loopN 1 (Code.den ti (spec_l7Has.Γ k) (spec_l7Has.LH k) (loopAt Try.f102 0)) [(0, [some 2]), (1, []), (5, [])] [(4, [])] K n vs bs = some r := by
  unfold spec_l7Has.h2 at h
  split at h
  · obtain ⟨_, rfl, h_1⟩ := asO_bind h
    exact ⟨k, (spec_l7Has.e2 K k _ _ k _).trans h_1⟩
  · cases h
theorem spec_l7Has.lok (k : Nat) : LOK ti (spec_l7Has.Γ k) (spec_l7Has.LH k) 1 (loopsOf (bodyOf Try.f102)) :=
  (show loopsOf (bodyOf Try.f102) = [loopAt Try.f102 0] by kernel_rfl) ▸ (LOK_cons (g := ⟨1, [(0, [some 2]), (1, []), (5, [])], [(4, [])], @spec_l7Has.h2 k⟩) (by kernel_rfl) rfl (fun K vs xs r h => spec_l7Has.q2 k K vs xs r h) (LOK_nil))
def spec_l7Has.sig : List PSh := [.one (.ro 2), .one .sc]
def spec_l7Has.g (y : Bool) : Ret κ := ⟨.v (.bool y), [], []⟩
def spec_l7Has.out (r : Ret κ) : Option Bool :=
  match r with
  | ⟨.v (.bool z0), [], []⟩ => some (z0)
  | _ => none
theorem spec_l7Has.out_ok (r : Ret κ) (y : Bool) (h : spec_l7Has.out r = some y) : r = spec_l7Has.g y := by
  unfold spec_l7Has.out at h
  split at h
  · obtain rfl := Option.some.inj h
    rfl
  · cases h
def spec_l7Has.body (k : Nat) (vs : List AV) (bs : List (Blk κ)) : Option (Lf κ) :=
  match vs, bs with
  | [.v (.sl 0), .v (.int .i64 a1)], [qb0] => (asO 2 false qb0).bind fun a0 => some ⟨Bool, spec_l7Has.f k a0 a1, spec_l7Has.g⟩
  | _, _ => none
def spec_l7Has.C (k : Nat) : Nat → List AV → AP κ AV := contract spec_l7Has.sig (spec_l7Has.body k)
theorem spec_l7Has.den (k : Nat) (a0 : List Int) (a1 : Int) : Code.den ti (spec_l7Has.Γ k) (spec_l7Has.LH k) (bodyOf Try.f102) (finK ti Try.f102.results.toList [] (flags spec_l7Has.sig).length (rwI (flags spec_l7Has.sig) 0) spec_l7Has.out) ⟨envOf (([.v (.sl 0), .v (.int .i64 a1)]).zipIdx.map fun q => (q.2, q.1)), hpOf [.rows 2 false a0], (flags spec_l7Has.sig).length⟩ = spec_l7Has.f k a0 a1 := by kernel_rfl
theorem spec_l7Has.ok (k : Nat) : CSound Try.prog 102 (spec_l7Has.C k) :=
  csound κ_ok mixed tok (spec_l7Has.hΓ k) (LH := spec_l7Has.LH k) (fn := Try.f102) (c := bodyOf Try.f102) Try.func102 rfl Try.call102 spec_l7Has.sig [] (spec_l7Has.body k) (by kernel_rfl) (spec_l7Has.lok k) (by decide) fun vs bs lf y hl hb hy => by
    unfold spec_l7Has.body at hb
    split at hb
    · obtain ⟨_, rfl, hb_1⟩ := asO_bind hb
      obtain rfl := Option.some.inj hb_1
      exact ⟨spec_l7Has.out, spec_l7Has.out_ok, (spec_l7Has.den k _ _).trans hy⟩
    · cases hb
/-! ### spec_l19Bit -/
def spec_l19Bit.L3 {R : Type} (k : Nat) (x0 : Int) (X0 : Int → Option R) (rec : Int → Int → Option R) (x1 : Int) (x2 : Int) : Option R :=
  (bif decide (x2 < x0) then (rec (w64 ((2 : Int) * x1)) (w64 (x2 + (1 : Int)))) else (X0 x1))
def spec_l19Bit.l3 {R : Type} (k : Nat) (x0 : Int) (X0 : Int → Option R) : Nat → Int → Int → Option R
  | 0 => fun _ _ => none
  | n + 1 => spec_l19Bit.L3 k x0 X0 (spec_l19Bit.l3 k x0 X0 n)
def spec_l19Bit.f (k : Nat) (a0 : Int) : Option Int :=
  (spec_l19Bit.l3 k a0 (fun (y1 : Int) => some y1) k (1 : Int) (0 : Int))
def spec_l19Bit.h3 (k : Nat) {R : Type} (K : Ex → St κ → Option R) (vs : List AV) (bs : List (Blk κ)) : Option R :=
  match vs, bs with
  | [.v (.int .i64 x0), .v (.int .i64 x1), .v (.int .i64 x2)], [] => spec_l19Bit.l3 k x0 (fun (z0 : Int) => K (.exit 0) (stOf [(3, [])] [.v (.int .i64 z0)] [])) k x1 x2
  | _, _ => none
def spec_l19Bit.Γ (k : Nat) : Ct κ := assoc []
def spec_l19Bit.LH (k : Nat) : Nat → Option (LHi κ) := assoc [(3, ⟨0, [(0, []), (3, []), (4, [])], [(3, [])], @spec_l19Bit.h3 k⟩)]
theorem spec_l19Bit.hΓ (k : Nat) : ∀ f g, spec_l19Bit.Γ k f = some g → CSound Try.prog f g := G_nil
theorem spec_l19Bit.e3 {R : Type} (K : Ex → St κ → Option R) (k : Nat) (x0 : Int) : ∀ (n : Nat) (x1 : Int) (x2 : Int), loopN 0 (Code.den ti (spec_l19Bit.Γ k) (spec_l19Bit.LH k) (loopAt Try.f96 0)) [(0, []), (3, []), (4, [])] [(3, [])] K n [.v (.int .i64 x0), .v (.int .i64 x1), .v (.int .i64 x2)] [] = spec_l19Bit.l3 k x0 (fun (z0 : Int) => K (.exit 0) (stOf [(3, [])] [.v (.int .i64 z0)] [])) n x1 x2
  | 0, _, _ => rfl
  | n + 1, x1, x2 => (show loopN 0 (Code.den ti (spec_l19Bit.Γ k) (spec_l19Bit.LH k) (loopAt Try.f96 0)) [(0, []), (3, []), (4, [])] [(3, [])] K (n + 1) [.v (.int .i64 x0), .v (.int .i64 x1), .v (.int .i64 x2)] [] = spec_l19Bit.L3 k x0 (fun (z0 : Int) => K (.exit 0) (stOf [(3, [])] [.v (.int .i64 z0)] [])) (fun (x1' : Int) (x2' : Int) => loopN 0 (Code.den ti (spec_l19Bit.Γ k) (spec_l19Bit.LH k) (loopAt Try.f96 0)) [(0, []), (3, []), (4, [])] [(3, [])] K n [.v (.int .i64 x0), .v (.int .i64 x1'), .v (.int .i64 x2')] []) x1 x2 by kernel_rfl).trans (congrArg (fun rec => spec_l19Bit.L3 k x0 (fun (z0 : Int) => K (.exit 0) (stOf [(3, [])] [.v (.int .i64 z0)] [])) rec x1 x2) (funext fun x1' => funext fun x2' => spec_l19Bit.e3 K k x0 n x1' x2'))
theorem spec_l19Bit.q3 (k : Nat) {R : Type} (K : Ex → St κ → Option R) (vs : List AV) (bs : List (Blk κ)) (r : R) (h : spec_l19Bit.h3 k K vs bs = some r) : ∃ n, loopN 0 (Code.den ti (spec_l19Bit.Γ k) (spec_l19Bit.LH k) (loopAt Try.f96 0)) [(0, []), (3, []), (4, [])] [(3, [])] K n vs bs = some r := by
  unfold spec_l19Bit.h3 at h
  split at h
  · exact ⟨k, (spec_l19Bit.e3 K k _ k _ _).trans h⟩
  · cases h
theorem spec_l19Bit.lok (k : Nat) : LOK ti (spec_l19Bit.Γ k) (spec_l19Bit.LH k) 0 (loopsOf (bodyOf Try.f96)) :=
  (show loopsOf (bodyOf Try.f96) = [loopAt Try.f96 0] by kernel_rfl) ▸ (LOK_cons (g := ⟨0, [(0, []), (3, []), (4, [])], [(3, [])], @spec_l19Bit.h3 k⟩) (by kernel_rfl) rfl (fun K vs xs r h => spec_l19Bit.q3 k K vs xs r h) (LOK_nil))
def spec_l19Bit.sig : List PSh := [.one .sc]
def spec_l19Bit.g (y : Int) : Ret κ := ⟨.v (.int .i64 y), [], []⟩
def spec_l19Bit.out (r : Ret κ) : Option Int :=
  match r with
  | ⟨.v (.int .i64 z0), [], []⟩ => some (z0)
  | _ => none
theorem spec_l19Bit.out_ok (r : Ret κ) (y : Int) (h : spec_l19Bit.out r = some y) : r = spec_l19Bit.g y := by
  unfold spec_l19Bit.out at h
  split at h
  · obtain rfl := Option.some.inj h
    rfl
  · cases h
def spec_l19Bit.body (k : Nat) (vs : List AV) (bs : List (Blk κ)) : Option (Lf κ) :=
  match vs, bs with
  | [.v (.int .i64 a0)], [] => some ⟨Int, spec_l19Bit.f k a0, spec_l19Bit.g⟩
  | _, _ => none
def spec_l19Bit.C (k : Nat) : Nat → List AV → AP κ AV := contract spec_l19Bit.sig (spec_l19Bit.body k)
theorem spec_l19Bit.den (k : Nat) (a0 : Int) : Code.den ti (spec_l19Bit.Γ k) (spec_l19Bit.LH k) (bodyOf Try.f96) (finK ti Try.f96.results.toList [] (flags spec_l19Bit.sig).length (rwI (flags spec_l19Bit.sig) 0) spec_l19Bit.out) ⟨envOf (([.v (.int .i64 a0)]).zipIdx.map fun q => (q.2, q.1)), hpOf [], (flags spec_l19Bit.sig).length⟩ = spec_l19Bit.f k a0 := by kernel_rfl
theorem spec_l19Bit.ok (k : Nat) : CSound Try.prog 96 (spec_l19Bit.C k) :=
  csound κ_ok mixed tok (spec_l19Bit.hΓ k) (LH := spec_l19Bit.LH k) (fn := Try.f96) (c := bodyOf Try.f96) Try.func96 rfl Try.call96 spec_l19Bit.sig [] (spec_l19Bit.body k) (by kernel_rfl) (spec_l19Bit.lok k) (by decide) fun vs bs lf y hl hb hy => by
    unfold spec_l19Bit.body at hb
    split at hb
    · obtain rfl := Option.some.inj hb
      exact ⟨spec_l19Bit.out, spec_l19Bit.out_ok, (spec_l19Bit.den k _).trans hy⟩
    · cases hb
/-! ### spec_LabelOf -/
def spec_LabelOf.L3 {R : Type} (k : Nat) (xl0 : List Int) (X0 : Int → Option R) (rec : Int → Int → Option R) (x1 : Int) (x2 : Int) : Option R :=
  (bif decide (x2 ≤ (9 : Int)) then (spec_l7Has.f k xl0 x2).bind fun t1 => (bif t1 then (spec_l19Bit.f k x2).bind fun t2 => (rec (w64 (x1 + t2)) (w64 (x2 + (1 : Int)))) else (rec x1 (w64 (x2 + (1 : Int))))) else (X0 x1))
def spec_LabelOf.l3 {R : Type} (k : Nat) (xl0 : List Int) (X0 : Int → Option R) : Nat → Int → Int → Option R
  | 0 => fun _ _ => none
  | n + 1 => spec_LabelOf.L3 k xl0 X0 (spec_LabelOf.l3 k xl0 X0 n)
def spec_LabelOf.f (k : Nat) (a0 : List Int) : Option Int :=
  (spec_LabelOf.l3 k a0 (fun (y3 : Int) => some y3) k (0 : Int) (1 : Int))
def spec_LabelOf.h3 (k : Nat) {R : Type} (K : Ex → St κ → Option R) (vs : List AV) (bs : List (Blk κ)) : Option R :=
  match vs, bs with
  | [.v (.sl 0), .v (.int .i64 x1), .v (.int .i64 x2)], [qb0] => (asO 2 false qb0).bind fun xl0 => spec_LabelOf.l3 k xl0 (fun (z0 : Int) => K (.exit 0) (stOf [(3, [])] [.v (.int .i64 z0)] [.rows 2 false xl0])) k x1 x2
  | _, _ => none
def spec_LabelOf.Γ (k : Nat) : Ct κ := assoc [(102, spec_l7Has.C k), (96, spec_l19Bit.C k)]
def spec_LabelOf.LH (k : Nat) : Nat → Option (LHi κ) := assoc [(3, ⟨1, [(0, [some 2]), (3, []), (4, [])], [(3, [])], @spec_LabelOf.h3 k⟩)]
theorem spec_LabelOf.hΓ (k : Nat) : ∀ f g, spec_LabelOf.Γ k f = some g → CSound Try.prog f g := G_cons (spec_l7Has.ok k) (G_cons (spec_l19Bit.ok k) G_nil)
theorem spec_LabelOf.e3 {R : Type} (K : Ex → St κ → Option R) (k : Nat) (xl0 : List Int) : ∀ (n : Nat) (x1 : Int) (x2 : Int), loopN 1 (Code.den ti (spec_LabelOf.Γ k) (spec_LabelOf.LH k) (loopAt Try.f85 0)) [(0, [some 2]), (3, []), (4, [])] [(3, [])] K n [.v (.sl 0), .v (.int .i64 x1), .v (.int .i64 x2)] [.rows 2 false xl0] = spec_LabelOf.l3 k xl0 (fun (z0 : Int) => K (.exit 0) (stOf [(3, [])] [.v (.int .i64 z0)] [.rows 2 false xl0])) n x1 x2
  | 0, _, _ => rfl
  | n + 1, x1, x2 => (show loopN 1 (Code.den ti (spec_LabelOf.Γ k) (spec_LabelOf.LH k) (loopAt Try.f85 0)) [(0, [some 2]), (3, []), (4, [])] [(3, [])] K (n + 1) [.v (.sl 0), .v (.int .i64 x1), .v (.int .i64 x2)] [.rows 2 false xl0] = spec_LabelOf.L3 k xl0 (fun (z0 : Int) => K (.exit 0) (stOf [(3, [])] [.v (.int .i64 z0)] [.rows 2 false xl0])) (fun (x1' : Int) (x2' : Int) => loopN 1 (Code.den ti (spec_LabelOf.Γ k) (spec_LabelOf.LH k) (loopAt Try.f85 0)) [(0, [some 2]), (3, []), (4, [])] [(3, [])] K n [.v (.sl 0), .v (.int .i64 x1'), .v (.int .i64 x2')] [.rows 2 false xl0]) x1 x2 by kernel_rfl).trans (congrArg (fun rec => spec_LabelOf.L3 k xl0 (fun (z0 : Int) => K (.exit 0) (stOf [(3, [])] [.v (.int .i64 z0)] [.rows 2 false xl0])) rec x1 x2) (funext fun x1' => funext fun x2' => spec_LabelOf.e3 K k xl0 n x1' x2'))
theorem spec_LabelOf.q3 (k : Nat) {R : Type} (K : Ex → St κ → Option R) (vs : List AV) (bs : List (Blk κ)) (r : R) (h : spec_LabelOf.h3 k K vs bs = some r) : ∃ n, loopN 1 (Code.den ti (spec_LabelOf.Γ k) (spec_LabelOf.LH k) (loopAt Try.f85 0)) [(0, [some 2]), (3, []), (4, [])] [(3, [])] K n vs bs = some r := by
  unfold spec_LabelOf.h3 at h
  split at h
  · obtain ⟨_, rfl, h_1⟩ := asO_bind h
    exact ⟨k, (spec_LabelOf.e3 K k _ k _ _).trans h_1⟩
  · cases h
theorem spec_LabelOf.lok (k : Nat) : LOK ti (spec_LabelOf.Γ k) (spec_LabelOf.LH k) 1 (loopsOf (bodyOf Try.f85)) :=
  (show loopsOf (bodyOf Try.f85) = [loopAt Try.f85 0] by kernel_rfl) ▸ (LOK_cons (g := ⟨1, [(0, [some 2]), (3, []), (4, [])], [(3, [])], @spec_LabelOf.h3 k⟩) (by kernel_rfl) rfl (fun K vs xs r h => spec_LabelOf.q3 k K vs xs r h) (LOK_nil))
def spec_LabelOf.sig : List PSh := [.one (.ro 2)]
def spec_LabelOf.g (y : Int) : Ret κ := ⟨.v (.int .i64 y), [], []⟩
def spec_LabelOf.out (r : Ret κ) : Option Int :=
  match r with
  | ⟨.v (.int .i64 z0), [], []⟩ => some (z0)
  | _ => none
theorem spec_LabelOf.out_ok (r : Ret κ) (y : Int) (h : spec_LabelOf.out r = some y) : r = spec_LabelOf.g y := by
  unfold spec_LabelOf.out at h
  split at h
  · obtain rfl := Option.some.inj h
    rfl
  · cases h
def spec_LabelOf.body (k : Nat) (vs : List AV) (bs : List (Blk κ)) : Option (Lf κ) :=
  match vs, bs with
  | [.v (.sl 0)], [qb0] => (asO 2 false qb0).bind fun a0 => some ⟨Int, spec_LabelOf.f k a0, spec_LabelOf.g⟩
  | _, _ => none
def spec_LabelOf.C (k : Nat) : Nat → List AV → AP κ AV := contract spec_LabelOf.sig (spec_LabelOf.body k)
theorem spec_LabelOf.den (k : Nat) (a0 : List Int) : Code.den ti (spec_LabelOf.Γ k) (spec_LabelOf.LH k) (bodyOf Try.f85) (finK ti Try.f85.results.toList [] (flags spec_LabelOf.sig).length (rwI (flags spec_LabelOf.sig) 0) spec_LabelOf.out) ⟨envOf (([.v (.sl 0)]).zipIdx.map fun q => (q.2, q.1)), hpOf [.rows 2 false a0], (flags spec_LabelOf.sig).length⟩ = spec_LabelOf.f k a0 := by kernel_rfl
theorem spec_LabelOf.ok (k : Nat) : CSound Try.prog 85 (spec_LabelOf.C k) :=
  csound κ_ok mixed tok (spec_LabelOf.hΓ k) (LH := spec_LabelOf.LH k) (fn := Try.f85) (c := bodyOf Try.f85) Try.func85 rfl Try.call85 spec_LabelOf.sig [] (spec_LabelOf.body k) (by kernel_rfl) (spec_LabelOf.lok k) (by decide) fun vs bs lf y hl hb hy => by
    unfold spec_LabelOf.body at hb
    split at hb
    · obtain ⟨_, rfl, hb_1⟩ := asO_bind hb
      obtain rfl := Option.some.inj hb_1
      exact ⟨spec_LabelOf.out, spec_LabelOf.out_ok, (spec_LabelOf.den k _).trans hy⟩
    · cases hb
/-! ### spec_IsLabel -/
def spec_IsLabel.f (k : Nat) (a0 : Int) : Option Bool :=
  (spec_l1In.f k a0 (0 : Int) (1022 : Int)).bind fun t1 => (bif t1 then some ((a0.tmod (2 : Int)) == (0 : Int)) else some false)
def spec_IsLabel.Γ (k : Nat) : Ct κ := assoc [(93, spec_l1In.C k)]
def spec_IsLabel.LH (k : Nat) : Nat → Option (LHi κ) := assoc []
theorem spec_IsLabel.hΓ (k : Nat) : ∀ f g, spec_IsLabel.Γ k f = some g → CSound Try.prog f g := G_cons (spec_l1In.ok k) G_nil
theorem spec_IsLabel.lok (k : Nat) : LOK ti (spec_IsLabel.Γ k) (spec_IsLabel.LH k) 0 (loopsOf (bodyOf Try.f95)) :=
  (show loopsOf (bodyOf Try.f95) = [] by kernel_rfl) ▸ LOK_nil
def spec_IsLabel.sig : List PSh := [.one .sc]
def spec_IsLabel.g (y : Bool) : Ret κ := ⟨.v (.bool y), [], []⟩
def spec_IsLabel.out (r : Ret κ) : Option Bool :=
  match r with
  | ⟨.v (.bool z0), [], []⟩ => some (z0)
  | _ => none
theorem spec_IsLabel.out_ok (r : Ret κ) (y : Bool) (h : spec_IsLabel.out r = some y) : r = spec_IsLabel.g y := by
  unfold spec_IsLabel.out at h
  split at h
  · obtain rfl := Option.some.inj h
    rfl
  · cases h
def spec_IsLabel.body (k : Nat) (vs : List AV) (bs : List (Blk κ)) : Option (Lf κ) :=
  match vs, bs with
  | [.v (.int .i64 a0)], [] => some ⟨Bool, spec_IsLabel.f k a0, spec_IsLabel.g⟩
  | _, _ => none
def spec_IsLabel.C (k : Nat) : Nat → List AV → AP κ AV := contract spec_IsLabel.sig (spec_IsLabel.body k)
theorem spec_IsLabel.den (k : Nat) (a0 : Int) : Code.den ti (spec_IsLabel.Γ k) (spec_IsLabel.LH k) (bodyOf Try.f95) (finK ti Try.f95.results.toList [] (flags spec_IsLabel.sig).length (rwI (flags spec_IsLabel.sig) 0) spec_IsLabel.out) ⟨envOf (([.v (.int .i64 a0)]).zipIdx.map fun q => (q.2, q.1)), hpOf [], (flags spec_IsLabel.sig).length⟩ = spec_IsLabel.f k a0 := by kernel_rfl
theorem spec_IsLabel.ok (k : Nat) : CSound Try.prog 95 (spec_IsLabel.C k) :=
  csound κ_ok mixed tok (spec_IsLabel.hΓ k) (LH := spec_IsLabel.LH k) (fn := Try.f95) (c := bodyOf Try.f95) Try.func95 rfl Try.call95 spec_IsLabel.sig [] (spec_IsLabel.body k) (by kernel_rfl) (spec_IsLabel.lok k) (by decide) fun vs bs lf y hl hb hy => by
    unfold spec_IsLabel.body at hb
    split at hb
    · obtain rfl := Option.some.inj hb
      exact ⟨spec_IsLabel.out, spec_IsLabel.out_ok, (spec_IsLabel.den k _).trans hy⟩
    · cases hb
/-! ### spec_OwnersIn -/
def spec_OwnersIn.L3 {R : Type} (k : Nat) (x0 : Int) (X0 : List Int → Option R) (rec : Int → List Int → Option R) (x2 : Int) (xl0 : List Int) : Option R :=
  (bif decide (x2 ≤ (9 : Int)) then (spec_IsLabel.f k x0).bind fun t1 => (bif t1 then (spec_l19Bit.f k x2).bind fun t2 => (bif decide (t2 = 0) then none else (bif (((w64 (x0.tdiv t2)).tmod (2 : Int)) == (1 : Int)) then (bif decide ((xl0.length + ([x2] : List Int).length) * 8 ≤ cap48) then (rec (w64 (x2 + (1 : Int))) (xl0 ++ ([x2] : List Int))) else none) else (rec (w64 (x2 + (1 : Int))) xl0))) else (X0 xl0)) else (X0 xl0))
def spec_OwnersIn.l3 {R : Type} (k : Nat) (x0 : Int) (X0 : List Int → Option R) : Nat → Int → List Int → Option R
  | 0 => fun _ _ => none
  | n + 1 => spec_OwnersIn.L3 k x0 X0 (spec_OwnersIn.l3 k x0 X0 n)
def spec_OwnersIn.f (k : Nat) (a0 : Int) : Option (List Int) :=
  (spec_OwnersIn.l3 k a0 (fun (y3 : List Int) => some y3) k (1 : Int) ([] : List Int))
def spec_OwnersIn.h3 (k : Nat) {R : Type} (K : Ex → St κ → Option R) (vs : List AV) (bs : List (Blk κ)) : Option R :=
  match vs, bs with
  | [.v (.int .i64 x0), .v (.sl 0), .v (.int .i64 x2)], [qb0] => (asO 2 true qb0).bind fun xl0 => spec_OwnersIn.l3 k x0 (fun (zl0 : List Int) => K (.exit 0) (stOf [(3, [some 2])] [.v (.sl 0)] [.rows 2 true zl0])) k x2 xl0
  | _, _ => none
def spec_OwnersIn.Γ (k : Nat) : Ct κ := assoc [(95, spec_IsLabel.C k), (96, spec_l19Bit.C k)]
def spec_OwnersIn.LH (k : Nat) : Nat → Option (LHi κ) := assoc [(3, ⟨0, [(0, []), (3, [some 2]), (4, [])], [(3, [some 2])], @spec_OwnersIn.h3 k⟩)]
theorem spec_OwnersIn.hΓ (k : Nat) : ∀ f g, spec_OwnersIn.Γ k f = some g → CSound Try.prog f g := G_cons (spec_IsLabel.ok k) (G_cons (spec_l19Bit.ok k) G_nil)
theorem spec_OwnersIn.e3 {R : Type} (K : Ex → St κ → Option R) (k : Nat) (x0 : Int) : ∀ (n : Nat) (x2 : Int) (xl0 : List Int), loopN 0 (Code.den ti (spec_OwnersIn.Γ k) (spec_OwnersIn.LH k) (loopAt Try.f71 0)) [(0, []), (3, [some 2]), (4, [])] [(3, [some 2])] K n [.v (.int .i64 x0), .v (.sl 0), .v (.int .i64 x2)] [.rows 2 true xl0] = spec_OwnersIn.l3 k x0 (fun (zl0 : List Int) => K (.exit 0) (stOf [(3, [some 2])] [.v (.sl 0)] [.rows 2 true zl0])) n x2 xl0
  | 0, _, _ => rfl
  | n + 1, x2, xl0 => (show loopN 0 (Code.den ti (spec_OwnersIn.Γ k) (spec_OwnersIn.LH k) (loopAt Try.f71 0)) [(0, []), (3, [some 2]), (4, [])] [(3, [some 2])] K (n + 1) [.v (.int .i64 x0), .v (.sl 0), .v (.int .i64 x2)] [.rows 2 true xl0] = spec_OwnersIn.L3 k x0 (fun (zl0 : List Int) => K (.exit 0) (stOf [(3, [some 2])] [.v (.sl 0)] [.rows 2 true zl0])) (fun (x2' : Int) (xl0' : List Int) => loopN 0 (Code.den ti (spec_OwnersIn.Γ k) (spec_OwnersIn.LH k) (loopAt Try.f71 0)) [(0, []), (3, [some 2]), (4, [])] [(3, [some 2])] K n [.v (.int .i64 x0), .v (.sl 0), .v (.int .i64 x2')] [.rows 2 true xl0']) x2 xl0 by kernel_rfl).trans (congrArg (fun rec => spec_OwnersIn.L3 k x0 (fun (zl0 : List Int) => K (.exit 0) (stOf [(3, [some 2])] [.v (.sl 0)] [.rows 2 true zl0])) rec x2 xl0) (funext fun x2' => funext fun xl0' => spec_OwnersIn.e3 K k x0 n x2' xl0'))
theorem spec_OwnersIn.q3 (k : Nat) {R : Type} (K : Ex → St κ → Option R) (vs : List AV) (bs : List (Blk κ)) (r : R) (h : spec_OwnersIn.h3 k K vs bs = some r) : ∃ n, loopN 0 (Code.den ti (spec_OwnersIn.Γ k) (spec_OwnersIn.LH k) (loopAt Try.f71 0)) [(0, []), (3, [some 2]), (4, [])] [(3, [some 2])] K n vs bs = some r := by
  unfold spec_OwnersIn.h3 at h
  split at h
  · obtain ⟨_, rfl, h_1⟩ := asO_bind h
    exact ⟨k, (spec_OwnersIn.e3 K k _ k _ _).trans h_1⟩
  · cases h
theorem spec_OwnersIn.lok (k : Nat) : LOK ti (spec_OwnersIn.Γ k) (spec_OwnersIn.LH k) 0 (loopsOf (bodyOf Try.f71)) :=
  (show loopsOf (bodyOf Try.f71) = [loopAt Try.f71 0] by kernel_rfl) ▸ (LOK_cons (g := ⟨0, [(0, []), (3, [some 2]), (4, [])], [(3, [some 2])], @spec_OwnersIn.h3 k⟩) (by kernel_rfl) rfl (fun K vs xs r h => spec_OwnersIn.q3 k K vs xs r h) (LOK_nil))
def spec_OwnersIn.sig : List PSh := [.one .sc]
def spec_OwnersIn.g (y : List Int) : Ret κ := ⟨.v (.sl 0), [], [.rows 2 true y]⟩
def spec_OwnersIn.out (r : Ret κ) : Option (List Int) :=
  match r with
  | ⟨.v (.sl 0), [], [q0]⟩ => (asO 2 true q0).bind fun z0 => some (z0)
  | _ => none
theorem spec_OwnersIn.out_ok (r : Ret κ) (y : List Int) (h : spec_OwnersIn.out r = some y) : r = spec_OwnersIn.g y := by
  unfold spec_OwnersIn.out at h
  split at h
  · obtain ⟨_, rfl, h_1⟩ := asO_bind h
    obtain rfl := Option.some.inj h_1
    rfl
  · cases h
def spec_OwnersIn.body (k : Nat) (vs : List AV) (bs : List (Blk κ)) : Option (Lf κ) :=
  match vs, bs with
  | [.v (.int .i64 a0)], [] => some ⟨List Int, spec_OwnersIn.f k a0, spec_OwnersIn.g⟩
  | _, _ => none
def spec_OwnersIn.C (k : Nat) : Nat → List AV → AP κ AV := contract spec_OwnersIn.sig (spec_OwnersIn.body k)
theorem spec_OwnersIn.den (k : Nat) (a0 : Int) : Code.den ti (spec_OwnersIn.Γ k) (spec_OwnersIn.LH k) (bodyOf Try.f71) (finK ti Try.f71.results.toList [(2, [some 2])] (flags spec_OwnersIn.sig).length (rwI (flags spec_OwnersIn.sig) 0) spec_OwnersIn.out) ⟨envOf (([.v (.int .i64 a0)]).zipIdx.map fun q => (q.2, q.1)), hpOf [], (flags spec_OwnersIn.sig).length⟩ = spec_OwnersIn.f k a0 := by kernel_rfl
theorem spec_OwnersIn.ok (k : Nat) : CSound Try.prog 71 (spec_OwnersIn.C k) :=
  csound κ_ok mixed tok (spec_OwnersIn.hΓ k) (LH := spec_OwnersIn.LH k) (fn := Try.f71) (c := bodyOf Try.f71) Try.func71 rfl Try.call71 spec_OwnersIn.sig [(2, [some 2])] (spec_OwnersIn.body k) (by kernel_rfl) (spec_OwnersIn.lok k) (by decide) fun vs bs lf y hl hb hy => by
    unfold spec_OwnersIn.body at hb
    split at hb
    · obtain rfl := Option.some.inj hb
      exact ⟨spec_OwnersIn.out, spec_OwnersIn.out_ok, (spec_OwnersIn.den k _).trans hy⟩
    · cases hb
/-! ### spec_JoinLabels -/
def spec_JoinLabels.f (k : Nat) (a0 : Int) (a1 : Int) : Option Int :=
  (spec_IsLabel.f k a0).bind fun t1 => (bif !t1 then some (0 : Int) else (spec_IsLabel.f k a1).bind fun t2 => (bif !t2 then some (0 : Int) else (spec_OwnersIn.f k a0).bind fun t3 => (spec_OwnersIn.f k a1).bind fun t4 => (bif decide ((t3.length + t4.length) * 8 ≤ cap48) then (spec_LabelOf.f k (t3 ++ t4)).bind fun t5 => some t5 else none)))
def spec_JoinLabels.Γ (k : Nat) : Ct κ := assoc [(95, spec_IsLabel.C k), (71, spec_OwnersIn.C k), (85, spec_LabelOf.C k)]
def spec_JoinLabels.LH (k : Nat) : Nat → Option (LHi κ) := assoc []
theorem spec_JoinLabels.hΓ (k : Nat) : ∀ f g, spec_JoinLabels.Γ k f = some g → CSound Try.prog f g := G_cons (spec_IsLabel.ok k) (G_cons (spec_OwnersIn.ok k) (G_cons (spec_LabelOf.ok k) G_nil))
theorem spec_JoinLabels.lok (k : Nat) : LOK ti (spec_JoinLabels.Γ k) (spec_JoinLabels.LH k) 0 (loopsOf (bodyOf Try.f86)) :=
  (show loopsOf (bodyOf Try.f86) = [] by kernel_rfl) ▸ LOK_nil
def spec_JoinLabels.sig : List PSh := [.one .sc, .one .sc]
def spec_JoinLabels.g (y : Int) : Ret κ := ⟨.v (.int .i64 y), [], []⟩
def spec_JoinLabels.out (r : Ret κ) : Option Int :=
  match r with
  | ⟨.v (.int .i64 z0), [], []⟩ => some (z0)
  | _ => none
theorem spec_JoinLabels.out_ok (r : Ret κ) (y : Int) (h : spec_JoinLabels.out r = some y) : r = spec_JoinLabels.g y := by
  unfold spec_JoinLabels.out at h
  split at h
  · obtain rfl := Option.some.inj h
    rfl
  · cases h
def spec_JoinLabels.body (k : Nat) (vs : List AV) (bs : List (Blk κ)) : Option (Lf κ) :=
  match vs, bs with
  | [.v (.int .i64 a0), .v (.int .i64 a1)], [] => some ⟨Int, spec_JoinLabels.f k a0 a1, spec_JoinLabels.g⟩
  | _, _ => none
def spec_JoinLabels.C (k : Nat) : Nat → List AV → AP κ AV := contract spec_JoinLabels.sig (spec_JoinLabels.body k)
theorem spec_JoinLabels.den (k : Nat) (a0 : Int) (a1 : Int) : Code.den ti (spec_JoinLabels.Γ k) (spec_JoinLabels.LH k) (bodyOf Try.f86) (finK ti Try.f86.results.toList [] (flags spec_JoinLabels.sig).length (rwI (flags spec_JoinLabels.sig) 0) spec_JoinLabels.out) ⟨envOf (([.v (.int .i64 a0), .v (.int .i64 a1)]).zipIdx.map fun q => (q.2, q.1)), hpOf [], (flags spec_JoinLabels.sig).length⟩ = spec_JoinLabels.f k a0 a1 := by kernel_rfl
theorem spec_JoinLabels.ok (k : Nat) : CSound Try.prog 86 (spec_JoinLabels.C k) :=
  csound κ_ok mixed tok (spec_JoinLabels.hΓ k) (LH := spec_JoinLabels.LH k) (fn := Try.f86) (c := bodyOf Try.f86) Try.func86 rfl Try.call86 spec_JoinLabels.sig [] (spec_JoinLabels.body k) (by kernel_rfl) (spec_JoinLabels.lok k) (by decide) fun vs bs lf y hl hb hy => by
    unfold spec_JoinLabels.body at hb
    split at hb
    · obtain rfl := Option.some.inj hb
      exact ⟨spec_JoinLabels.out, spec_JoinLabels.out_ok, (spec_JoinLabels.den k _ _).trans hy⟩
    · cases hb
/-! ### spec_l21Step -/
def spec_l21Step.f (k : Nat) (a0_0 : Int) (a0_1 : Int) (a0_2 : Int) (a0_3 : Int) (a1 : List Int) (a2 : List Int) (a3 : List Int) : Option (Int × Int × Int × Bool × List Int × List Int) :=
  (bif (a0_0 == (1 : Int)) then (spec_l21Value.f k a1 a0_2).bind fun t1 => (bif decide (0 ≤ a0_1) then (bif decide (a0_1 < (a2.length : Int)) then (spec_LabelOf.f k ([a0_2] : List Int)).bind fun t2 => (bif decide (0 ≤ a0_1) then (bif decide (a0_1 < (a3.length : Int)) then some ((0 : Int), (0 : Int), (0 : Int), false, (a2.set (a0_1).toNat t1), (a3.set (a0_1).toNat t2)) else none) else none) else none) else none) else (bif (a0_0 == (2 : Int)) then (bif decide (0 ≤ a0_1) then (bif decide (a0_1 < (a2.length : Int)) then (bif decide (0 ≤ a0_1) then (bif decide (a0_1 < (a3.length : Int)) then some ((0 : Int), (0 : Int), (0 : Int), false, (a2.set (a0_1).toNat a0_2), (a3.set (a0_1).toNat (0 : Int))) else none) else none) else none) else none) else (bif (a0_0 == (3 : Int)) then (bif decide (0 ≤ a0_2) then (bif decide (a0_2 < (a2.length : Int)) then (bif decide (0 ≤ a0_3) then (bif decide (a0_3 < (a2.length : Int)) then (bif decide (0 ≤ a0_1) then (bif decide (a0_1 < (a2.length : Int)) then (let l3 : List Int := (a2.set (a0_1).toNat ((w64 ((rd_i64 a2 a0_2) + (rd_i64 a2 a0_3))).tmod (1000 : Int))); (bif decide (0 ≤ a0_2) then (bif decide (a0_2 < (a3.length : Int)) then (bif decide (0 ≤ a0_3) then (bif decide (a0_3 < (a3.length : Int)) then (spec_JoinLabels.f k (rd_i64 a3 a0_2) (rd_i64 a3 a0_3)).bind fun t4 => (bif decide (0 ≤ a0_1) then (bif decide (a0_1 < (a3.length : Int)) then some ((0 : Int), (0 : Int), (0 : Int), false, l3, (a3.set (a0_1).toNat t4)) else none) else none) else none) else none) else none) else none)) else none) else none) else none) else none) else none) else none) else (bif (a0_0 == (4 : Int)) then (bif decide (0 ≤ a0_1) then (bif decide (a0_1 < (a3.length : Int)) then (bif decide (0 ≤ a0_2) then (bif decide (a0_2 < (a3.length : Int)) then (bif decide (0 ≤ a0_3) then (bif decide (a0_3 < (a3.length : Int)) then (spec_JoinLabels.f k (rd_i64 a3 a0_2) (rd_i64 a3 a0_3)).bind fun t5 => (spec_JoinLabels.f k (rd_i64 a3 a0_1) t5).bind fun t6 => (bif decide (0 ≤ a0_1) then (bif decide (a0_1 < (a3.length : Int)) then (bif decide (0 ≤ a0_2) then (bif decide (a0_2 < (a2.length : Int)) then (bif (((rd_i64 a2 a0_2).tmod (2 : Int)) == (0 : Int)) then (bif decide (0 ≤ a0_3) then (bif decide (a0_3 < (a2.length : Int)) then (bif decide (0 ≤ a0_1) then (bif decide (a0_1 < (a2.length : Int)) then some ((0 : Int), (0 : Int), (0 : Int), false, (a2.set (a0_1).toNat (rd_i64 a2 a0_3)), (a3.set (a0_1).toNat t6)) else none) else none) else none) else none) else some ((0 : Int), (0 : Int), (0 : Int), false, a2, (a3.set (a0_1).toNat t6))) else none) else none) else none) else none) else none) else none) else none) else none) else none) else none) else (bif (a0_0 == (5 : Int)) then (bif decide (0 ≤ a0_1) then (bif decide (a0_1 < (a2.length : Int)) then (bif decide (0 ≤ a0_1) then (bif decide (a0_1 < (a3.length : Int)) then some (a0_2, (rd_i64 a2 a0_1), (rd_i64 a3 a0_1), true, a2, a3) else none) else none) else none) else none) else some ((0 : Int), (0 : Int), (0 : Int), false, a2, a3))))))
def spec_l21Step.Γ (k : Nat) : Ct κ := assoc [(84, spec_l21Value.C k), (85, spec_LabelOf.C k), (86, spec_JoinLabels.C k)]
def spec_l21Step.LH (k : Nat) : Nat → Option (LHi κ) := assoc []
theorem spec_l21Step.hΓ (k : Nat) : ∀ f g, spec_l21Step.Γ k f = some g → CSound Try.prog f g := G_cons (spec_l21Value.ok k) (G_cons (spec_LabelOf.ok k) (G_cons (spec_JoinLabels.ok k) G_nil))
theorem spec_l21Step.lok (k : Nat) : LOK ti (spec_l21Step.Γ k) (spec_l21Step.LH k) 3 (loopsOf (bodyOf Try.f55)) :=
  (show loopsOf (bodyOf Try.f55) = [] by kernel_rfl) ▸ LOK_nil
def spec_l21Step.sig : List PSh := [.agg [.sc, .sc, .sc, .sc], .one (.ro 2), .one (.rw 2), .one (.rw 2)]
def spec_l21Step.g (y : Int × Int × Int × Bool × List Int × List Int) : Ret κ := ⟨.tup [(true, [.int .i64 y.1, .int .i64 y.2.1, .int .i64 y.2.2.1]), (false, [.bool y.2.2.2.1])], [.rows 2 true y.2.2.2.2.1, .rows 2 true y.2.2.2.2.2], []⟩
def spec_l21Step.out (r : Ret κ) : Option (Int × Int × Int × Bool × List Int × List Int) :=
  match r with
  | ⟨.tup [(true, [.int .i64 z0, .int .i64 z1, .int .i64 z2]), (false, [.bool z3])], [q4, q5], []⟩ => (asO 2 true q4).bind fun z4 => (asO 2 true q5).bind fun z5 => some (z0, z1, z2, z3, z4, z5)
  | _ => none
theorem spec_l21Step.out_ok (r : Ret κ) (y : Int × Int × Int × Bool × List Int × List Int) (h : spec_l21Step.out r = some y) : r = spec_l21Step.g y := by
  unfold spec_l21Step.out at h
  split at h
  · obtain ⟨_, rfl, h_1⟩ := asO_bind h
    obtain ⟨_, rfl, h_2⟩ := asO_bind h_1
    obtain rfl := Option.some.inj h_2
    rfl
  · cases h
def spec_l21Step.body (k : Nat) (vs : List AV) (bs : List (Blk κ)) : Option (Lf κ) :=
  match vs, bs with
  | [.agg [.int .i64 a0_0, .int .i64 a0_1, .int .i64 a0_2, .int .i64 a0_3], .v (.sl 0), .v (.sl 1), .v (.sl 2)], [qb0, qb1, qb2] => (asO 2 false qb0).bind fun a1 => (asO 2 true qb1).bind fun a2 => (asO 2 true qb2).bind fun a3 => some ⟨Int × Int × Int × Bool × List Int × List Int, spec_l21Step.f k a0_0 a0_1 a0_2 a0_3 a1 a2 a3, spec_l21Step.g⟩
  | _, _ => none
def spec_l21Step.C (k : Nat) : Nat → List AV → AP κ AV := contract spec_l21Step.sig (spec_l21Step.body k)
theorem spec_l21Step.den (k : Nat) (a0_0 : Int) (a0_1 : Int) (a0_2 : Int) (a0_3 : Int) (a1 : List Int) (a2 : List Int) (a3 : List Int) : Code.den ti (spec_l21Step.Γ k) (spec_l21Step.LH k) (bodyOf Try.f55) (finK ti Try.f55.results.toList [] (flags spec_l21Step.sig).length (rwI (flags spec_l21Step.sig) 0) spec_l21Step.out) ⟨envOf (([.agg [.int .i64 a0_0, .int .i64 a0_1, .int .i64 a0_2, .int .i64 a0_3], .v (.sl 0), .v (.sl 1), .v (.sl 2)]).zipIdx.map fun q => (q.2, q.1)), hpOf [.rows 2 false a1, .rows 2 true a2, .rows 2 true a3], (flags spec_l21Step.sig).length⟩ = spec_l21Step.f k a0_0 a0_1 a0_2 a0_3 a1 a2 a3 := by kernel_rfl
theorem spec_l21Step.ok (k : Nat) : CSound Try.prog 55 (spec_l21Step.C k) :=
  csound κ_ok mixed tok (spec_l21Step.hΓ k) (LH := spec_l21Step.LH k) (fn := Try.f55) (c := bodyOf Try.f55) Try.func55 rfl Try.call55 spec_l21Step.sig [] (spec_l21Step.body k) (by kernel_rfl) (spec_l21Step.lok k) (by decide) fun vs bs lf y hl hb hy => by
    unfold spec_l21Step.body at hb
    split at hb
    · obtain ⟨_, rfl, hb_1⟩ := asO_bind hb
      obtain ⟨_, rfl, hb_2⟩ := asO_bind hb_1
      obtain ⟨_, rfl, hb_3⟩ := asO_bind hb_2
      obtain rfl := Option.some.inj hb_3
      exact ⟨spec_l21Step.out, spec_l21Step.out_ok, (spec_l21Step.den k _ _ _ _ _ _ _).trans hy⟩
    · cases hb
/-! ### spec_l20Has -/
def spec_l20Has.L2 {R : Type} (k : Nat) (xl0 : List T_impl_Flow) (xc1_0 : Int) (xc1_1 : Int) (xc1_2 : Int) (X0 : Bool → Option R) (X1 : Unit → Option R) (rec : Int → Option R) (x2 : Int) : Option R :=
  (bif decide (x2 < (xl0.length : Int)) then (bif decide (0 ≤ x2) then (bif decide (x2 < (xl0.length : Int)) then (bif ((((rd_impl_Flow xl0 x2).f0) == xc1_0) && ((((rd_impl_Flow xl0 x2).f1) == xc1_1) && (((rd_impl_Flow xl0 x2).f2) == xc1_2))) then (X0 true) else (rec (w64 (x2 + (1 : Int))))) else none) else none) else (X1 ()))
def spec_l20Has.l2 {R : Type} (k : Nat) (xl0 : List T_impl_Flow) (xc1_0 : Int) (xc1_1 : Int) (xc1_2 : Int) (X0 : Bool → Option R) (X1 : Unit → Option R) : Nat → Int → Option R
  | 0 => fun _ => none
  | n + 1 => spec_l20Has.L2 k xl0 xc1_0 xc1_1 xc1_2 X0 X1 (spec_l20Has.l2 k xl0 xc1_0 xc1_1 xc1_2 X0 X1 n)
def spec_l20Has.f (k : Nat) (a0 : List T_impl_Flow) (a1_0 : Int) (a1_1 : Int) (a1_2 : Int) : Option Bool :=
  (spec_l20Has.l2 k a0 a1_0 a1_1 a1_2 (fun (y1 : Bool) => some y1) (fun (_ : Unit) => some false) k (0 : Int))
def spec_l20Has.h2 (k : Nat) {R : Type} (K : Ex → St κ → Option R) (vs : List AV) (bs : List (Blk κ)) : Option R :=
  match vs, bs with
  | [.v (.sl 0), .v (.ptr 1 0 0), .v (.int .i64 x2)], [qb0, .cells 85 [.int .i64 xc1_0, .int .i64 xc1_1, .int .i64 xc1_2]] => (asO 3 false qb0).bind fun xl0 => spec_l20Has.l2 k xl0 xc1_0 xc1_1 xc1_2 (fun (z0 : Bool) => K .ret (stOf [(4, [])] [.v (.bool z0)] [.rows 3 false xl0])) (fun (_ : Unit) => K (.exit 0) (stOf [(4, [])] [.v .any] [.rows 3 false xl0])) k x2
  | _, _ => none
def spec_l20Has.Γ (k : Nat) : Ct κ := assoc []
def spec_l20Has.LH (k : Nat) : Nat → Option (LHi κ) := assoc [(2, ⟨1, [(0, [some 3]), (3, []), (5, [])], [(4, [])], @spec_l20Has.h2 k⟩)]
theorem spec_l20Has.hΓ (k : Nat) : ∀ f g, spec_l20Has.Γ k f = some g → CSound Try.prog f g := G_nil
theorem spec_l20Has.e2 {R : Type} (K : Ex → St κ → Option R) (k : Nat) (xl0 : List T_impl_Flow) (xc1_0 : Int) (xc1_1 : Int) (xc1_2 : Int) : ∀ (n : Nat) (x2 : Int), loopN 1 (Code.den ti (spec_l20Has.Γ k) (spec_l20Has.LH k) (loopAt Try.f72 0)) [(0, [some 3]), (3, []), (5, [])] [(4, [])] K n [.v (.sl 0), .v (.ptr 1 0 0), .v (.int .i64 x2)] [.rows 3 false xl0, .cells 85 [.int .i64 xc1_0, .int .i64 xc1_1, .int .i64 xc1_2]] = spec_l20Has.l2 k xl0 xc1_0 xc1_1 xc1_2 (fun (z0 : Bool) => K .ret (stOf [(4, [])] [.v (.bool z0)] [.rows 3 false xl0])) (fun (_ : Unit) => K (.exit 0) (stOf [(4, [])] [.v .any] [.rows 3 false xl0])) n x2
  | 0, _ => rfl
  | n + 1, x2 => (show loopN 1 (Code.den ti (spec_l20Has.Γ k) (spec_l20Has.LH k) (loopAt Try.f72 0)) [(0, [some 3]), (3, []), (5, [])] [(4, [])] K (n + 1) [.v (.sl 0), .v (.ptr 1 0 0), .v (.int .i64 x2)] [.rows 3 false xl0, .cells 85 [.int .i64 xc1_0, .int .i64 xc1_1, .int .i64 xc1_2]] = spec_l20Has.L2 k xl0 xc1_0 xc1_1 xc1_2 (fun (z0 : Bool) => K .ret (stOf [(4, [])] [.v (.bool z0)] [.rows 3 false xl0])) (fun (_ : Unit) => K (.exit 0) (stOf [(4, [])] [.v .any] [.rows 3 false xl0])) (fun (x2' : Int) => loopN 1 (Code.den ti (spec_l20Has.Γ k) (spec_l20Has.LH k) (loopAt Try.f72 0)) [(0, [some 3]), (3, []), (5, [])] [(4, [])] K n [.v (.sl 0), .v (.ptr 1 0 0), .v (.int .i64 x2')] [.rows 3 false xl0, .cells 85 [.int .i64 xc1_0, .int .i64 xc1_1, .int .i64 xc1_2]]) x2 by kernel_rfl).trans (congrArg (fun rec => spec_l20Has.L2 k xl0 xc1_0 xc1_1 xc1_2 (fun (z0 : Bool) => K .ret (stOf [(4, [])] [.v (.bool z0)] [.rows 3 false xl0])) (fun (_ : Unit) => K (.exit 0) (stOf [(4, [])] [.v .any] [.rows 3 false xl0])) rec x2) (funext fun x2' => spec_l20Has.e2 K k xl0 xc1_0 xc1_1 xc1_2 n x2'))
theorem spec_l20Has.q2 (k : Nat) {R : Type} (K : Ex → St κ → Option R) (vs : List AV) (bs : List (Blk κ)) (r : R) (h : spec_l20Has.h2 k K vs bs = some r) : ∃ n, loopN 1 (Code.den ti (spec_l20Has.Γ k) (spec_l20Has.LH k) (loopAt Try.f72 0)) [(0, [some 3]), (3, []), (5, [])] [(4, [])] K n vs bs = some r := by
  unfold spec_l20Has.h2 at h
  split at h
  · obtain ⟨_, rfl, h_1⟩ := asO_bind h
    exact ⟨k, (spec_l20Has.e2 K k _ _ _ _ k _).trans h_1⟩
  · cases h
theorem spec_l20Has.lok (k : Nat) : LOK ti (spec_l20Has.Γ k) (spec_l20Has.LH k) 1 (loopsOf (bodyOf Try.f72)) :=
  (show loopsOf (bodyOf Try.f72) = [loopAt Try.f72 0] by kernel_rfl) ▸ (LOK_cons (g := ⟨1, [(0, [some 3]), (3, []), (5, [])], [(4, [])], @spec_l20Has.h2 k⟩) (by kernel_rfl) rfl (fun K vs xs r h => spec_l20Has.q2 k K vs xs r h) (LOK_nil))
def spec_l20Has.sig : List PSh := [.one (.ro 3), .agg [.sc, .sc, .sc]]
def spec_l20Has.g (y : Bool) : Ret κ := ⟨.v (.bool y), [], []⟩
def spec_l20Has.out (r : Ret κ) : Option Bool :=
  match r with
  | ⟨.v (.bool z0), [], []⟩ => some (z0)
  | _ => none
theorem spec_l20Has.out_ok (r : Ret κ) (y : Bool) (h : spec_l20Has.out r = some y) : r = spec_l20Has.g y := by
  unfold spec_l20Has.out at h
  split at h
  · obtain rfl := Option.some.inj h
    rfl
  · cases h
def spec_l20Has.body (k : Nat) (vs : List AV) (bs : List (Blk κ)) : Option (Lf κ) :=
  match vs, bs with
  | [.v (.sl 0), .agg [.int .i64 a1_0, .int .i64 a1_1, .int .i64 a1_2]], [qb0] => (asO 3 false qb0).bind fun a0 => some ⟨Bool, spec_l20Has.f k a0 a1_0 a1_1 a1_2, spec_l20Has.g⟩
  | _, _ => none
def spec_l20Has.C (k : Nat) : Nat → List AV → AP κ AV := contract spec_l20Has.sig (spec_l20Has.body k)
theorem spec_l20Has.den (k : Nat) (a0 : List T_impl_Flow) (a1_0 : Int) (a1_1 : Int) (a1_2 : Int) : Code.den ti (spec_l20Has.Γ k) (spec_l20Has.LH k) (bodyOf Try.f72) (finK ti Try.f72.results.toList [] (flags spec_l20Has.sig).length (rwI (flags spec_l20Has.sig) 0) spec_l20Has.out) ⟨envOf (([.v (.sl 0), .agg [.int .i64 a1_0, .int .i64 a1_1, .int .i64 a1_2]]).zipIdx.map fun q => (q.2, q.1)), hpOf [.rows 3 false a0], (flags spec_l20Has.sig).length⟩ = spec_l20Has.f k a0 a1_0 a1_1 a1_2 := by kernel_rfl
theorem spec_l20Has.ok (k : Nat) : CSound Try.prog 72 (spec_l20Has.C k) :=
  csound κ_ok mixed tok (spec_l20Has.hΓ k) (LH := spec_l20Has.LH k) (fn := Try.f72) (c := bodyOf Try.f72) Try.func72 rfl Try.call72 spec_l20Has.sig [] (spec_l20Has.body k) (by kernel_rfl) (spec_l20Has.lok k) (by decide) fun vs bs lf y hl hb hy => by
    unfold spec_l20Has.body at hb
    split at hb
    · obtain ⟨_, rfl, hb_1⟩ := asO_bind hb
      obtain rfl := Option.some.inj hb_1
      exact ⟨spec_l20Has.out, spec_l20Has.out_ok, (spec_l20Has.den k _ _ _ _).trans hy⟩
    · cases hb
end Go.Proofs.Ythjdecnheaifkaa.PFnLeaks
