/- What the functions that the law FnRolledBack reaches come to; no conditions. -/
import Derived.Test.YtmjflahlhgibnaaGreatDoorPFnRolledBack10
set_option linter.unusedVariables false
set_option maxRecDepth 100000
namespace Go.Proofs.YtmjflahlhgibnaaGreatDoor.PFnRolledBack
open Go Go.Eng Go.Proofs
/-! ### impl_IsLabel -/
def impl_IsLabel.f (k : Nat) (a0 : Int) : Option Bool :=
  (impl_InRange.f k a0 (0 : Int) (1022 : Int)).bind fun t1 => (bif t1 then some ((a0.tmod (2 : Int)) == (0 : Int)) else some false)
def impl_IsLabel.Γ (k : Nat) : Ct κ := assoc [(27, impl_InRange.C k)]
def impl_IsLabel.LH (k : Nat) : Nat → Option (LHi κ) := assoc []
theorem impl_IsLabel.hΓ (k : Nat) : ∀ f g, impl_IsLabel.Γ k f = some g → CSound Tryz.prog f g := G_cons (impl_InRange.ok k) G_nil
theorem impl_IsLabel.lok (k : Nat) : LOK ti (impl_IsLabel.Γ k) (impl_IsLabel.LH k) 0 (loopsOf (bodyOf Tryz.f131)) :=
  (show loopsOf (bodyOf Tryz.f131) = [] by kernel_rfl) ▸ LOK_nil
def impl_IsLabel.sig : List PSh := [.one .sc]
def impl_IsLabel.g (y : Bool) : Ret κ := ⟨.v (.bool y), [], []⟩
def impl_IsLabel.out (r : Ret κ) : Option Bool :=
  match r with
  | ⟨.v (.bool z0), [], []⟩ => some (z0)
  | _ => none
theorem impl_IsLabel.out_ok (r : Ret κ) (y : Bool) (h : impl_IsLabel.out r = some y) : r = impl_IsLabel.g y := by
  unfold impl_IsLabel.out at h
  split at h
  · obtain rfl := Option.some.inj h
    rfl
  · cases h
def impl_IsLabel.body (k : Nat) (vs : List AV) (bs : List (Blk κ)) : Option (Lf κ) :=
  match vs, bs with
  | [.v (.int .i64 a0)], [] => some ⟨Bool, impl_IsLabel.f k a0, impl_IsLabel.g⟩
  | _, _ => none
def impl_IsLabel.C (k : Nat) : Nat → List AV → AP κ AV := contract impl_IsLabel.sig (impl_IsLabel.body k)
theorem impl_IsLabel.den (k : Nat) (a0 : Int) : Code.den ti (impl_IsLabel.Γ k) (impl_IsLabel.LH k) (bodyOf Tryz.f131) (finK ti Tryz.f131.results.toList [] (flags impl_IsLabel.sig).length (rwI (flags impl_IsLabel.sig) 0) impl_IsLabel.out) ⟨envOf (([.v (.int .i64 a0)]).zipIdx.map fun q => (q.2, q.1)), hpOf [], (flags impl_IsLabel.sig).length⟩ = impl_IsLabel.f k a0 := by kernel_rfl
theorem impl_IsLabel.ok (k : Nat) : CSound Tryz.prog 131 (impl_IsLabel.C k) :=
  csound κ_ok mixed tok (impl_IsLabel.hΓ k) (LH := impl_IsLabel.LH k) (fn := Tryz.f131) (c := bodyOf Tryz.f131) Tryz.func131 rfl Tryz.call131 impl_IsLabel.sig [] (impl_IsLabel.body k) (by kernel_rfl) (impl_IsLabel.lok k) (by decide) fun vs bs lf y hl hb hy => by
    unfold impl_IsLabel.body at hb
    split at hb
    · obtain rfl := Option.some.inj hb
      exact ⟨impl_IsLabel.out, impl_IsLabel.out_ok, (impl_IsLabel.den k _).trans hy⟩
    · cases hb
/-! ### impl_OwnersIn -/
def impl_OwnersIn.L5 {R : Type} (k : Nat) (x0 : Int) (X0 : List Int → Option R) (rec : Int → List Int → Option R) (x2 : Int) (xl0 : List Int) : Option R :=
  (bif decide (x2 ≤ (9 : Int)) then (bif decide (x2 < 0) then none else (bif ((bitop .and .i64 (x0.fdiv (2 ^ (min (x2).toNat 64))) (1 : Int)) == (1 : Int)) then (bif decide ((xl0.length + ([x2] : List Int).length) * 8 ≤ cap48) then (rec (w64 (x2 + (1 : Int))) (xl0 ++ ([x2] : List Int))) else none) else (rec (w64 (x2 + (1 : Int))) xl0))) else (X0 xl0))
def impl_OwnersIn.l5 {R : Type} (k : Nat) (x0 : Int) (X0 : List Int → Option R) : Nat → Int → List Int → Option R
  | 0 => fun _ _ => none
  | n + 1 => impl_OwnersIn.L5 k x0 X0 (impl_OwnersIn.l5 k x0 X0 n)
def impl_OwnersIn.f (k : Nat) (a0 : Int) : Option (List Int) :=
  (impl_IsLabel.f k a0).bind fun t1 => (bif !t1 then some ([] : List Int) else (impl_OwnersIn.l5 k a0 (fun (y2 : List Int) => some y2) k (1 : Int) ([] : List Int)))
def impl_OwnersIn.h5 (k : Nat) {R : Type} (K : Ex → St κ → Option R) (vs : List AV) (bs : List (Blk κ)) : Option R :=
  match vs, bs with
  | [.v (.int .i64 x0), .v (.sl 0), .v (.int .i64 x2)], [qb0] => (asO 5 true qb0).bind fun xl0 => impl_OwnersIn.l5 k x0 (fun (zl0 : List Int) => K (.exit 0) (stOf [(3, [some 5])] [.v (.sl 0)] [.rows 5 true zl0])) k x2 xl0
  | _, _ => none
def impl_OwnersIn.Γ (k : Nat) : Ct κ := assoc [(131, impl_IsLabel.C k)]
def impl_OwnersIn.LH (k : Nat) : Nat → Option (LHi κ) := assoc [(5, ⟨0, [(0, []), (3, [some 5]), (4, [])], [(3, [some 5])], @impl_OwnersIn.h5 k⟩)]
theorem impl_OwnersIn.hΓ (k : Nat) : ∀ f g, impl_OwnersIn.Γ k f = some g → CSound Tryz.prog f g := G_cons (impl_IsLabel.ok k) G_nil
theorem impl_OwnersIn.e5 {R : Type} (K : Ex → St κ → Option R) (k : Nat) (x0 : Int) : ∀ (n : Nat) (x2 : Int) (xl0 : List Int), loopN 0 (Code.den ti (impl_OwnersIn.Γ k) (impl_OwnersIn.LH k) (loopAt Tryz.f103 0)) [(0, []), (3, [some 5]), (4, [])] [(3, [some 5])] K n [.v (.int .i64 x0), .v (.sl 0), .v (.int .i64 x2)] [.rows 5 true xl0] = impl_OwnersIn.l5 k x0 (fun (zl0 : List Int) => K (.exit 0) (stOf [(3, [some 5])] [.v (.sl 0)] [.rows 5 true zl0])) n x2 xl0
  | 0, _, _ => rfl
  | n + 1, x2, xl0 => (show loopN 0 (Code.den ti (impl_OwnersIn.Γ k) (impl_OwnersIn.LH k) (loopAt Tryz.f103 0)) [(0, []), (3, [some 5]), (4, [])] [(3, [some 5])] K (n + 1) [.v (.int .i64 x0), .v (.sl 0), .v (.int .i64 x2)] [.rows 5 true xl0] = impl_OwnersIn.L5 k x0 (fun (zl0 : List Int) => K (.exit 0) (stOf [(3, [some 5])] [.v (.sl 0)] [.rows 5 true zl0])) (fun (x2' : Int) (xl0' : List Int) => loopN 0 (Code.den ti (impl_OwnersIn.Γ k) (impl_OwnersIn.LH k) (loopAt Tryz.f103 0)) [(0, []), (3, [some 5]), (4, [])] [(3, [some 5])] K n [.v (.int .i64 x0), .v (.sl 0), .v (.int .i64 x2')] [.rows 5 true xl0']) x2 xl0 by kernel_rfl).trans (congrArg (fun rec => impl_OwnersIn.L5 k x0 (fun (zl0 : List Int) => K (.exit 0) (stOf [(3, [some 5])] [.v (.sl 0)] [.rows 5 true zl0])) rec x2 xl0) (funext fun x2' => funext fun xl0' => impl_OwnersIn.e5 K k x0 n x2' xl0'))
theorem impl_OwnersIn.q5 (k : Nat) {R : Type} (K : Ex → St κ → Option R) (vs : List AV) (bs : List (Blk κ)) (r : R) (h : impl_OwnersIn.h5 k K vs bs = some r) : ∃ n, loopN 0 (Code.den ti (impl_OwnersIn.Γ k) (impl_OwnersIn.LH k) (loopAt Tryz.f103 0)) [(0, []), (3, [some 5]), (4, [])] [(3, [some 5])] K n vs bs = some r := by
  unfold impl_OwnersIn.h5 at h
  split at h
  · obtain ⟨_, rfl, h_1⟩ := asO_bind h
    exact ⟨k, (impl_OwnersIn.e5 K k _ k _ _).trans h_1⟩
  · cases h
theorem impl_OwnersIn.lok (k : Nat) : LOK ti (impl_OwnersIn.Γ k) (impl_OwnersIn.LH k) 0 (loopsOf (bodyOf Tryz.f103)) :=
  (show loopsOf (bodyOf Tryz.f103) = [loopAt Tryz.f103 0] by kernel_rfl) ▸ (LOK_cons (g := ⟨0, [(0, []), (3, [some 5]), (4, [])], [(3, [some 5])], @impl_OwnersIn.h5 k⟩) (by kernel_rfl) rfl (fun K vs xs r h => impl_OwnersIn.q5 k K vs xs r h) (LOK_nil))
def impl_OwnersIn.sig : List PSh := [.one .sc]
def impl_OwnersIn.g (y : List Int) : Ret κ := ⟨.v (.sl 0), [], [.rows 5 true y]⟩
def impl_OwnersIn.out (r : Ret κ) : Option (List Int) :=
  match r with
  | ⟨.v (.sl 0), [], [q0]⟩ => (asO 5 true q0).bind fun z0 => some (z0)
  | _ => none
theorem impl_OwnersIn.out_ok (r : Ret κ) (y : List Int) (h : impl_OwnersIn.out r = some y) : r = impl_OwnersIn.g y := by
  unfold impl_OwnersIn.out at h
  split at h
  · obtain ⟨_, rfl, h_1⟩ := asO_bind h
    obtain rfl := Option.some.inj h_1
    rfl
  · cases h
def impl_OwnersIn.body (k : Nat) (vs : List AV) (bs : List (Blk κ)) : Option (Lf κ) :=
  match vs, bs with
  | [.v (.int .i64 a0)], [] => some ⟨List Int, impl_OwnersIn.f k a0, impl_OwnersIn.g⟩
  | _, _ => none
def impl_OwnersIn.C (k : Nat) : Nat → List AV → AP κ AV := contract impl_OwnersIn.sig (impl_OwnersIn.body k)
theorem impl_OwnersIn.den (k : Nat) (a0 : Int) : Code.den ti (impl_OwnersIn.Γ k) (impl_OwnersIn.LH k) (bodyOf Tryz.f103) (finK ti Tryz.f103.results.toList [(2, [some 5])] (flags impl_OwnersIn.sig).length (rwI (flags impl_OwnersIn.sig) 0) impl_OwnersIn.out) ⟨envOf (([.v (.int .i64 a0)]).zipIdx.map fun q => (q.2, q.1)), hpOf [], (flags impl_OwnersIn.sig).length⟩ = impl_OwnersIn.f k a0 := by kernel_rfl
theorem impl_OwnersIn.ok (k : Nat) : CSound Tryz.prog 103 (impl_OwnersIn.C k) :=
  csound κ_ok mixed tok (impl_OwnersIn.hΓ k) (LH := impl_OwnersIn.LH k) (fn := Tryz.f103) (c := bodyOf Tryz.f103) Tryz.func103 rfl Tryz.call103 impl_OwnersIn.sig [(2, [some 5])] (impl_OwnersIn.body k) (by kernel_rfl) (impl_OwnersIn.lok k) (by decide) fun vs bs lf y hl hb hy => by
    unfold impl_OwnersIn.body at hb
    split at hb
    · obtain rfl := Option.some.inj hb
      exact ⟨impl_OwnersIn.out, impl_OwnersIn.out_ok, (impl_OwnersIn.den k _).trans hy⟩
    · cases hb
/-! ### slices_Index_Flow -/
def slices_Index_Flow.L2 {R : Type} (k : Nat) (x2 : Int) (xl0 : List T_impl_Flow) (xc1_0 : Int) (xc1_1 : Int) (xc1_2 : Int) (X0 : Int → Option R) (X1 : Unit → Option R) (rec : Int → Option R) (x3 : Int) : Option R :=
  (bif decide (x3 < x2) then (bif decide (0 ≤ x3) then (bif decide (x3 < (xl0.length : Int)) then (bif ((xc1_0 == ((rd_impl_Flow xl0 x3).f0)) && ((xc1_1 == ((rd_impl_Flow xl0 x3).f1)) && (xc1_2 == ((rd_impl_Flow xl0 x3).f2)))) then (X0 x3) else (rec (w64 (x3 + (1 : Int))))) else none) else none) else (X1 ()))
def slices_Index_Flow.l2 {R : Type} (k : Nat) (x2 : Int) (xl0 : List T_impl_Flow) (xc1_0 : Int) (xc1_1 : Int) (xc1_2 : Int) (X0 : Int → Option R) (X1 : Unit → Option R) : Nat → Int → Option R
  | 0 => fun _ => none
  | n + 1 => slices_Index_Flow.L2 k x2 xl0 xc1_0 xc1_1 xc1_2 X0 X1 (slices_Index_Flow.l2 k x2 xl0 xc1_0 xc1_1 xc1_2 X0 X1 n)
def slices_Index_Flow.f (k : Nat) (a0 : List T_impl_Flow) (a1_0 : Int) (a1_1 : Int) (a1_2 : Int) : Option Int :=
  (slices_Index_Flow.l2 k (a0.length : Int) a0 a1_0 a1_1 a1_2 (fun (y1 : Int) => some y1) (fun (_ : Unit) => some (-1 : Int)) k (0 : Int))
def slices_Index_Flow.h2 (k : Nat) {R : Type} (K : Ex → St κ → Option R) (vs : List AV) (bs : List (Blk κ)) : Option R :=
  match vs, bs with
  | [.v (.sl 0), .v (.ptr 1 0 0), .v (.int .i64 x2), .v (.int .i64 x3)], [qb0, .cells 93 [.int .i64 xc1_0, .int .i64 xc1_1, .int .i64 xc1_2]] => (asO 3 false qb0).bind fun xl0 => slices_Index_Flow.l2 k x2 xl0 xc1_0 xc1_1 xc1_2 (fun (z0 : Int) => K .ret (stOf [(4, [])] [.v (.int .i64 z0)] [.rows 3 false xl0])) (fun (_ : Unit) => K (.exit 0) (stOf [(4, [])] [.v .any] [.rows 3 false xl0])) k x3
  | _, _ => none
def slices_Index_Flow.Γ (k : Nat) : Ct κ := assoc []
def slices_Index_Flow.LH (k : Nat) : Nat → Option (LHi κ) := assoc [(2, ⟨1, [(0, [some 3]), (3, []), (7, []), (8, [])], [(4, [])], @slices_Index_Flow.h2 k⟩)]
theorem slices_Index_Flow.hΓ (k : Nat) : ∀ f g, slices_Index_Flow.Γ k f = some g → CSound Tryz.prog f g := G_nil
theorem slices_Index_Flow.e2 {R : Type} (K : Ex → St κ → Option R) (k : Nat) (x2 : Int) (xl0 : List T_impl_Flow) (xc1_0 : Int) (xc1_1 : Int) (xc1_2 : Int) : ∀ (n : Nat) (x3 : Int), loopN 1 (Code.den ti (slices_Index_Flow.Γ k) (slices_Index_Flow.LH k) (loopAt Tryz.f129 0)) [(0, [some 3]), (3, []), (7, []), (8, [])] [(4, [])] K n [.v (.sl 0), .v (.ptr 1 0 0), .v (.int .i64 x2), .v (.int .i64 x3)] [.rows 3 false xl0, .cells 93 [.int .i64 xc1_0, .int .i64 xc1_1, .int .i64 xc1_2]] = slices_Index_Flow.l2 k x2 xl0 xc1_0 xc1_1 xc1_2 (fun (z0 : Int) => K .ret (stOf [(4, [])] [.v (.int .i64 z0)] [.rows 3 false xl0])) (fun (_ : Unit) => K (.exit 0) (stOf [(4, [])] [.v .any] [.rows 3 false xl0])) n x3
  | 0, _ => rfl
  | n + 1, x3 => (show loopN 1 (Code.den ti (slices_Index_Flow.Γ k) (slices_Index_Flow.LH k) (loopAt Tryz.f129 0)) [(0, [some 3]), (3, []), (7, []), (8, [])] [(4, [])] K (n + 1) [.v (.sl 0), .v (.ptr 1 0 0), .v (.int .i64 x2), .v (.int .i64 x3)] [.rows 3 false xl0, .cells 93 [.int .i64 xc1_0, .int .i64 xc1_1, .int .i64 xc1_2]] = slices_Index_Flow.L2 k x2 xl0 xc1_0 xc1_1 xc1_2 (fun (z0 : Int) => K .ret (stOf [(4, [])] [.v (.int .i64 z0)] [.rows 3 false xl0])) (fun (_ : Unit) => K (.exit 0) (stOf [(4, [])] [.v .any] [.rows 3 false xl0])) (fun (x3' : Int) => loopN 1 (Code.den ti (slices_Index_Flow.Γ k) (slices_Index_Flow.LH k) (loopAt Tryz.f129 0)) [(0, [some 3]), (3, []), (7, []), (8, [])] [(4, [])] K n [.v (.sl 0), .v (.ptr 1 0 0), .v (.int .i64 x2), .v (.int .i64 x3')] [.rows 3 false xl0, .cells 93 [.int .i64 xc1_0, .int .i64 xc1_1, .int .i64 xc1_2]]) x3 by kernel_rfl).trans (congrArg (fun rec => slices_Index_Flow.L2 k x2 xl0 xc1_0 xc1_1 xc1_2 (fun (z0 : Int) => K .ret (stOf [(4, [])] [.v (.int .i64 z0)] [.rows 3 false xl0])) (fun (_ : Unit) => K (.exit 0) (stOf [(4, [])] [.v .any] [.rows 3 false xl0])) rec x3) (funext fun x3' => slices_Index_Flow.e2 K k x2 xl0 xc1_0 xc1_1 xc1_2 n x3'))
theorem slices_Index_Flow.q2 (k : Nat) {R : Type} (K : Ex → St κ → Option R) (vs : List AV) (bs : List (Blk κ)) (r : R) (h : slices_Index_Flow.h2 k K vs bs = some r) : ∃ n, loopN 1 (Code.den ti (slices_Index_Flow.Γ k) (slices_Index_Flow.LH k) (loopAt Tryz.f129 0)) [(0, [some 3]), (3, []), (7, []), (8, [])] [(4, [])] K n vs bs = some r := by
  unfold slices_Index_Flow.h2 at h
  split at h
  · obtain ⟨_, rfl, h_1⟩ := asO_bind h
    exact ⟨k, (slices_Index_Flow.e2 K k _ _ _ _ _ k _).trans h_1⟩
  · cases h
theorem slices_Index_Flow.lok (k : Nat) : LOK ti (slices_Index_Flow.Γ k) (slices_Index_Flow.LH k) 1 (loopsOf (bodyOf Tryz.f129)) :=
  (show loopsOf (bodyOf Tryz.f129) = [loopAt Tryz.f129 0] by kernel_rfl) ▸ (LOK_cons (g := ⟨1, [(0, [some 3]), (3, []), (7, []), (8, [])], [(4, [])], @slices_Index_Flow.h2 k⟩) (by kernel_rfl) rfl (fun K vs xs r h => slices_Index_Flow.q2 k K vs xs r h) (LOK_nil))
def slices_Index_Flow.sig : List PSh := [.one (.ro 3), .agg [.sc, .sc, .sc]]
def slices_Index_Flow.g (y : Int) : Ret κ := ⟨.v (.int .i64 y), [], []⟩
def slices_Index_Flow.out (r : Ret κ) : Option Int :=
  match r with
  | ⟨.v (.int .i64 z0), [], []⟩ => some (z0)
  | _ => none
theorem slices_Index_Flow.out_ok (r : Ret κ) (y : Int) (h : slices_Index_Flow.out r = some y) : r = slices_Index_Flow.g y := by
  unfold slices_Index_Flow.out at h
  split at h
  · obtain rfl := Option.some.inj h
    rfl
  · cases h
def slices_Index_Flow.body (k : Nat) (vs : List AV) (bs : List (Blk κ)) : Option (Lf κ) :=
  match vs, bs with
  | [.v (.sl 0), .agg [.int .i64 a1_0, .int .i64 a1_1, .int .i64 a1_2]], [qb0] => (asO 3 false qb0).bind fun a0 => some ⟨Int, slices_Index_Flow.f k a0 a1_0 a1_1 a1_2, slices_Index_Flow.g⟩
  | _, _ => none
def slices_Index_Flow.C (k : Nat) : Nat → List AV → AP κ AV := contract slices_Index_Flow.sig (slices_Index_Flow.body k)
theorem slices_Index_Flow.den (k : Nat) (a0 : List T_impl_Flow) (a1_0 : Int) (a1_1 : Int) (a1_2 : Int) : Code.den ti (slices_Index_Flow.Γ k) (slices_Index_Flow.LH k) (bodyOf Tryz.f129) (finK ti Tryz.f129.results.toList [] (flags slices_Index_Flow.sig).length (rwI (flags slices_Index_Flow.sig) 0) slices_Index_Flow.out) ⟨envOf (([.v (.sl 0), .agg [.int .i64 a1_0, .int .i64 a1_1, .int .i64 a1_2]]).zipIdx.map fun q => (q.2, q.1)), hpOf [.rows 3 false a0], (flags slices_Index_Flow.sig).length⟩ = slices_Index_Flow.f k a0 a1_0 a1_1 a1_2 := by kernel_rfl
theorem slices_Index_Flow.ok (k : Nat) : CSound Tryz.prog 129 (slices_Index_Flow.C k) :=
  csound κ_ok mixed tok (slices_Index_Flow.hΓ k) (LH := slices_Index_Flow.LH k) (fn := Tryz.f129) (c := bodyOf Tryz.f129) Tryz.func129 rfl Tryz.call129 slices_Index_Flow.sig [] (slices_Index_Flow.body k) (by kernel_rfl) (slices_Index_Flow.lok k) (by decide) fun vs bs lf y hl hb hy => by
    unfold slices_Index_Flow.body at hb
    split at hb
    · obtain ⟨_, rfl, hb_1⟩ := asO_bind hb
      obtain rfl := Option.some.inj hb_1
      exact ⟨slices_Index_Flow.out, slices_Index_Flow.out_ok, (slices_Index_Flow.den k _ _ _ _).trans hy⟩
    · cases hb
/-! ### slices_Contains_Flow -/
def slices_Contains_Flow.f (k : Nat) (a0 : List T_impl_Flow) (a1_0 : Int) (a1_1 : Int) (a1_2 : Int) : Option Bool :=
  (slices_Index_Flow.f k a0 a1_0 a1_1 a1_2).bind fun t1 => some (decide (t1 ≥ (0 : Int)))
def slices_Contains_Flow.Γ (k : Nat) : Ct κ := assoc [(129, slices_Index_Flow.C k)]
def slices_Contains_Flow.LH (k : Nat) : Nat → Option (LHi κ) := assoc []
theorem slices_Contains_Flow.hΓ (k : Nat) : ∀ f g, slices_Contains_Flow.Γ k f = some g → CSound Tryz.prog f g := G_cons (slices_Index_Flow.ok k) G_nil
theorem slices_Contains_Flow.lok (k : Nat) : LOK ti (slices_Contains_Flow.Γ k) (slices_Contains_Flow.LH k) 1 (loopsOf (bodyOf Tryz.f101)) :=
  (show loopsOf (bodyOf Tryz.f101) = [] by kernel_rfl) ▸ LOK_nil
def slices_Contains_Flow.sig : List PSh := [.one (.ro 3), .agg [.sc, .sc, .sc]]
def slices_Contains_Flow.g (y : Bool) : Ret κ := ⟨.v (.bool y), [], []⟩
def slices_Contains_Flow.out (r : Ret κ) : Option Bool :=
  match r with
  | ⟨.v (.bool z0), [], []⟩ => some (z0)
  | _ => none
theorem slices_Contains_Flow.out_ok (r : Ret κ) (y : Bool) (h : slices_Contains_Flow.out r = some y) : r = slices_Contains_Flow.g y := by
  unfold slices_Contains_Flow.out at h
  split at h
  · obtain rfl := Option.some.inj h
    rfl
  · cases h
def slices_Contains_Flow.body (k : Nat) (vs : List AV) (bs : List (Blk κ)) : Option (Lf κ) :=
  match vs, bs with
  | [.v (.sl 0), .agg [.int .i64 a1_0, .int .i64 a1_1, .int .i64 a1_2]], [qb0] => (asO 3 false qb0).bind fun a0 => some ⟨Bool, slices_Contains_Flow.f k a0 a1_0 a1_1 a1_2, slices_Contains_Flow.g⟩
  | _, _ => none
def slices_Contains_Flow.C (k : Nat) : Nat → List AV → AP κ AV := contract slices_Contains_Flow.sig (slices_Contains_Flow.body k)
theorem slices_Contains_Flow.den (k : Nat) (a0 : List T_impl_Flow) (a1_0 : Int) (a1_1 : Int) (a1_2 : Int) : Code.den ti (slices_Contains_Flow.Γ k) (slices_Contains_Flow.LH k) (bodyOf Tryz.f101) (finK ti Tryz.f101.results.toList [] (flags slices_Contains_Flow.sig).length (rwI (flags slices_Contains_Flow.sig) 0) slices_Contains_Flow.out) ⟨envOf (([.v (.sl 0), .agg [.int .i64 a1_0, .int .i64 a1_1, .int .i64 a1_2]]).zipIdx.map fun q => (q.2, q.1)), hpOf [.rows 3 false a0], (flags slices_Contains_Flow.sig).length⟩ = slices_Contains_Flow.f k a0 a1_0 a1_1 a1_2 := by kernel_rfl
theorem slices_Contains_Flow.ok (k : Nat) : CSound Tryz.prog 101 (slices_Contains_Flow.C k) :=
  csound κ_ok mixed tok (slices_Contains_Flow.hΓ k) (LH := slices_Contains_Flow.LH k) (fn := Tryz.f101) (c := bodyOf Tryz.f101) Tryz.func101 rfl Tryz.call101 slices_Contains_Flow.sig [] (slices_Contains_Flow.body k) (by kernel_rfl) (slices_Contains_Flow.lok k) (by decide) fun vs bs lf y hl hb hy => by
    unfold slices_Contains_Flow.body at hb
    split at hb
    · obtain ⟨_, rfl, hb_1⟩ := asO_bind hb
      obtain rfl := Option.some.inj hb_1
      exact ⟨slices_Contains_Flow.out, slices_Contains_Flow.out_ok, (slices_Contains_Flow.den k _ _ _ _).trans hy⟩
    · cases hb
/-! ### impl_NeedsFlows -/
def impl_NeedsFlows.L9 {R : Type} (k : Nat) (x0 : Int) (x4 : Int) (x5 : Int) (x7 : Int) (xl0 : List T_impl_Op) (xc2_0 : Int) (xc2_1 : Int) (xc2_2 : Int) (xl3 : List T_impl_Sent) (xl4 : List Int) (X0 : List T_impl_Flow → Option R) (rec : Int → List T_impl_Flow → Option R) (x8 : Int) (xl1 : List T_impl_Flow) : Option R :=
  (bif decide (x8 < x7) then (bif decide (0 ≤ x8) then (bif decide (x8 < (xl4.length : Int)) then (bif ((rd_i64 xl4 x8) != xc2_0) then (slices_Contains_Flow.f k xl1 x0 (rd_i64 xl4 x8) xc2_0).bind fun t4 => (bif !t4 then (bif decide ((xl1.length + ([(⟨x0, (rd_i64 xl4 x8), xc2_0⟩ : T_impl_Flow)] : List T_impl_Flow).length) * 24 ≤ cap48) then (let l5 : List T_impl_Flow := (xl1 ++ ([(⟨x0, (rd_i64 xl4 x8), xc2_0⟩ : T_impl_Flow)] : List T_impl_Flow)); (rec (w64 (x8 + (1 : Int))) l5)) else none) else (rec (w64 (x8 + (1 : Int))) xl1)) else (rec (w64 (x8 + (1 : Int))) xl1)) else none) else none) else (X0 xl1))
def impl_NeedsFlows.l9 {R : Type} (k : Nat) (x0 : Int) (x4 : Int) (x5 : Int) (x7 : Int) (xl0 : List T_impl_Op) (xc2_0 : Int) (xc2_1 : Int) (xc2_2 : Int) (xl3 : List T_impl_Sent) (xl4 : List Int) (X0 : List T_impl_Flow → Option R) : Nat → Int → List T_impl_Flow → Option R
  | 0 => fun _ _ => none
  | n + 1 => impl_NeedsFlows.L9 k x0 x4 x5 x7 xl0 xc2_0 xc2_1 xc2_2 xl3 xl4 X0 (impl_NeedsFlows.l9 k x0 x4 x5 x7 xl0 xc2_0 xc2_1 xc2_2 xl3 xl4 X0 n)
def impl_NeedsFlows.L6 {R : Type} (k : Nat) (x0 : Int) (x3 : Int) (xl0 : List T_impl_Op) (xl2 : List T_impl_Sent) (X0 : List T_impl_Flow → Option R) (rec : Int → List T_impl_Flow → Option R) (x4 : Int) (xl1 : List T_impl_Flow) : Option R :=
  (bif decide (x4 < x3) then (bif decide (0 ≤ x4) then (bif decide (x4 < (xl2.length : Int)) then (impl_OwnersIn.f k ((rd_impl_Sent xl2 x4).f2)).bind fun t3 => (impl_NeedsFlows.l9 k x0 x3 x4 (t3.length : Int) xl0 ((rd_impl_Sent xl2 x4).f0) ((rd_impl_Sent xl2 x4).f1) ((rd_impl_Sent xl2 x4).f2) xl2 t3 (fun (y4 : List T_impl_Flow) => (rec (w64 (x4 + (1 : Int))) y4)) k (0 : Int) xl1) else none) else none) else (X0 xl1))
def impl_NeedsFlows.l6 {R : Type} (k : Nat) (x0 : Int) (x3 : Int) (xl0 : List T_impl_Op) (xl2 : List T_impl_Sent) (X0 : List T_impl_Flow → Option R) : Nat → Int → List T_impl_Flow → Option R
  | 0 => fun _ _ => none
  | n + 1 => impl_NeedsFlows.L6 k x0 x3 xl0 xl2 X0 (impl_NeedsFlows.l6 k x0 x3 xl0 xl2 X0 n)
def impl_NeedsFlows.f (k : Nat) (a0 : List T_impl_Op) (a1 : Int) : Option (List T_impl_Flow) :=
  (impl_AreOps.f k a0).bind fun t1 => (bif !t1 then some ([] : List T_impl_Flow) else (impl_executed.f k a0 ([] : List Int)).bind fun t2 => (impl_NeedsFlows.l6 k a1 (t2.1.length : Int) a0 t2.1 (fun (y5 : List T_impl_Flow) => some y5) k (0 : Int) ([] : List T_impl_Flow)))
def impl_NeedsFlows.h9 (k : Nat) {R : Type} (K : Ex → St κ → Option R) (vs : List AV) (bs : List (Blk κ)) : Option R :=
  match vs, bs with
  | [.v (.int .i64 x0), .v (.sl 1), .v (.ptr 2 0 0), .v (.sl 3), .v (.int .i64 x4), .v (.int .i64 x5), .v (.sl 4), .v (.int .i64 x7), .v (.int .i64 x8)], [qb0, qb1, .cells 138 [.int .i64 xc2_0, .int .i64 xc2_1, .int .i64 xc2_2], qb3, qb4] => (asO 1 false qb0).bind fun xl0 => (asO 3 true qb1).bind fun xl1 => (asO 7 true qb3).bind fun xl3 => (asO 5 true qb4).bind fun xl4 => impl_NeedsFlows.l9 k x0 x4 x5 x7 xl0 xc2_0 xc2_1 xc2_2 xl3 xl4 (fun (zl1 : List T_impl_Flow) => K (.exit 2) (stOf [(1, []), (5, [some 3]), (23, [some 7]), (24, []), (25, [])] [.v (.int .i64 x0), .v (.sl 1), .v (.sl 2), .v (.int .i64 x4), .v (.int .i64 x5)] [.rows 1 false xl0, .rows 3 true zl1, .rows 7 true xl3])) k x8 xl1
  | _, _ => none
def impl_NeedsFlows.h6 (k : Nat) {R : Type} (K : Ex → St κ → Option R) (vs : List AV) (bs : List (Blk κ)) : Option R :=
  match vs, bs with
  | [.v (.int .i64 x0), .v (.sl 1), .v (.sl 2), .v (.int .i64 x3), .v (.int .i64 x4)], [qb0, qb1, qb2] => (asO 1 false qb0).bind fun xl0 => (asO 3 true qb1).bind fun xl1 => (asO 7 true qb2).bind fun xl2 => impl_NeedsFlows.l6 k x0 x3 xl0 xl2 (fun (zl1 : List T_impl_Flow) => K (.exit 0) (stOf [(5, [some 3])] [.v (.sl 1)] [.rows 1 false xl0, .rows 3 true zl1])) k x4 xl1
  | _, _ => none
def impl_NeedsFlows.Γ (k : Nat) : Ct κ := assoc [(61, impl_AreOps.C k), (102, impl_executed.C k), (103, impl_OwnersIn.C k), (101, slices_Contains_Flow.C k)]
def impl_NeedsFlows.LH (k : Nat) : Nat → Option (LHi κ) := assoc [(9, ⟨1, [(1, []), (5, [some 3]), (9, []), (23, [some 7]), (24, []), (25, []), (31, [some 5]), (32, []), (33, [])], [(1, []), (5, [some 3]), (23, [some 7]), (24, []), (25, [])], @impl_NeedsFlows.h9 k⟩), (6, ⟨1, [(1, []), (5, [some 3]), (23, [some 7]), (24, []), (25, [])], [(5, [some 3])], @impl_NeedsFlows.h6 k⟩)]
theorem impl_NeedsFlows.hΓ (k : Nat) : ∀ f g, impl_NeedsFlows.Γ k f = some g → CSound Tryz.prog f g := G_cons (impl_AreOps.ok k) (G_cons (impl_executed.ok k) (G_cons (impl_OwnersIn.ok k) (G_cons (slices_Contains_Flow.ok k) G_nil)))
theorem impl_NeedsFlows.e9 {R : Type} (K : Ex → St κ → Option R) (k : Nat) (x0 : Int) (x4 : Int) (x5 : Int) (x7 : Int) (xl0 : List T_impl_Op) (xc2_0 : Int) (xc2_1 : Int) (xc2_2 : Int) (xl3 : List T_impl_Sent) (xl4 : List Int) : ∀ (n : Nat) (x8 : Int) (xl1 : List T_impl_Flow), loopN 1 (Code.den ti (impl_NeedsFlows.Γ k) (impl_NeedsFlows.LH k) (loopAt Tryz.f68 1)) [(1, []), (5, [some 3]), (9, []), (23, [some 7]), (24, []), (25, []), (31, [some 5]), (32, []), (33, [])] [(1, []), (5, [some 3]), (23, [some 7]), (24, []), (25, [])] K n [.v (.int .i64 x0), .v (.sl 1), .v (.ptr 2 0 0), .v (.sl 3), .v (.int .i64 x4), .v (.int .i64 x5), .v (.sl 4), .v (.int .i64 x7), .v (.int .i64 x8)] [.rows 1 false xl0, .rows 3 true xl1, .cells 138 [.int .i64 xc2_0, .int .i64 xc2_1, .int .i64 xc2_2], .rows 7 true xl3, .rows 5 true xl4] = impl_NeedsFlows.l9 k x0 x4 x5 x7 xl0 xc2_0 xc2_1 xc2_2 xl3 xl4 (fun (zl1 : List T_impl_Flow) => K (.exit 2) (stOf [(1, []), (5, [some 3]), (23, [some 7]), (24, []), (25, [])] [.v (.int .i64 x0), .v (.sl 1), .v (.sl 2), .v (.int .i64 x4), .v (.int .i64 x5)] [.rows 1 false xl0, .rows 3 true zl1, .rows 7 true xl3])) n x8 xl1
  | 0, _, _ => rfl
  | n + 1, x8, xl1 => (show loopN 1 (Code.den ti (impl_NeedsFlows.Γ k) (impl_NeedsFlows.LH k) (loopAt Tryz.f68 1)) [(1, []), (5, [some 3]), (9, []), (23, [some 7]), (24, []), (25, []), (31, [some 5]), (32, []), (33, [])] [(1, []), (5, [some 3]), (23, [some 7]), (24, []), (25, [])] K (n + 1) [.v (.int .i64 x0), .v (.sl 1), .v (.ptr 2 0 0), .v (.sl 3), .v (.int .i64 x4), .v (.int .i64 x5), .v (.sl 4), .v (.int .i64 x7), .v (.int .i64 x8)] [.rows 1 false xl0, .rows 3 true xl1, .cells 138 [.int .i64 xc2_0, .int .i64 xc2_1, .int .i64 xc2_2], .rows 7 true xl3, .rows 5 true xl4] = impl_NeedsFlows.L9 k x0 x4 x5 x7 xl0 xc2_0 xc2_1 xc2_2 xl3 xl4 (fun (zl1 : List T_impl_Flow) => K (.exit 2) (stOf [(1, []), (5, [some 3]), (23, [some 7]), (24, []), (25, [])] [.v (.int .i64 x0), .v (.sl 1), .v (.sl 2), .v (.int .i64 x4), .v (.int .i64 x5)] [.rows 1 false xl0, .rows 3 true zl1, .rows 7 true xl3])) (fun (x8' : Int) (xl1' : List T_impl_Flow) => loopN 1 (Code.den ti (impl_NeedsFlows.Γ k) (impl_NeedsFlows.LH k) (loopAt Tryz.f68 1)) [(1, []), (5, [some 3]), (9, []), (23, [some 7]), (24, []), (25, []), (31, [some 5]), (32, []), (33, [])] [(1, []), (5, [some 3]), (23, [some 7]), (24, []), (25, [])] K n [.v (.int .i64 x0), .v (.sl 1), .v (.ptr 2 0 0), .v (.sl 3), .v (.int .i64 x4), .v (.int .i64 x5), .v (.sl 4), .v (.int .i64 x7), .v (.int .i64 x8')] [.rows 1 false xl0, .rows 3 true xl1', .cells 138 [.int .i64 xc2_0, .int .i64 xc2_1, .int .i64 xc2_2], .rows 7 true xl3, .rows 5 true xl4]) x8 xl1 by kernel_rfl).trans (congrArg (fun rec => impl_NeedsFlows.L9 k x0 x4 x5 x7 xl0 xc2_0 xc2_1 xc2_2 xl3 xl4 (fun (zl1 : List T_impl_Flow) => K (.exit 2) (stOf [(1, []), (5, [some 3]), (23, [some 7]), (24, []), (25, [])] [.v (.int .i64 x0), .v (.sl 1), .v (.sl 2), .v (.int .i64 x4), .v (.int .i64 x5)] [.rows 1 false xl0, .rows 3 true zl1, .rows 7 true xl3])) rec x8 xl1) (funext fun x8' => funext fun xl1' => impl_NeedsFlows.e9 K k x0 x4 x5 x7 xl0 xc2_0 xc2_1 xc2_2 xl3 xl4 n x8' xl1'))
theorem impl_NeedsFlows.q9 (k : Nat) {R : Type} (K : Ex → St κ → Option R) (vs : List AV) (bs : List (Blk κ)) (r : R) (h : impl_NeedsFlows.h9 k K vs bs = some r) : ∃ n, loopN 1 (Code.den ti (impl_NeedsFlows.Γ k) (impl_NeedsFlows.LH k) (loopAt Tryz.f68 1)) [(1, []), (5, [some 3]), (9, []), (23, [some 7]), (24, []), (25, []), (31, [some 5]), (32, []), (33, [])] [(1, []), (5, [some 3]), (23, [some 7]), (24, []), (25, [])] K n vs bs = some r := by
  unfold impl_NeedsFlows.h9 at h
  split at h
  · obtain ⟨_, rfl, h_1⟩ := asO_bind h
    obtain ⟨_, rfl, h_2⟩ := asO_bind h_1
    obtain ⟨_, rfl, h_3⟩ := asO_bind h_2
    obtain ⟨_, rfl, h_4⟩ := asO_bind h_3
    exact ⟨k, (impl_NeedsFlows.e9 K k _ _ _ _ _ _ _ _ _ _ k _ _).trans h_4⟩
  · cases h
theorem impl_NeedsFlows.e6 {R : Type} (K : Ex → St κ → Option R) (k : Nat) (x0 : Int) (x3 : Int) (xl0 : List T_impl_Op) (xl2 : List T_impl_Sent) : ∀ (n : Nat) (x4 : Int) (xl1 : List T_impl_Flow), loopN 1 (Code.den ti (impl_NeedsFlows.Γ k) (impl_NeedsFlows.LH k) (loopAt Tryz.f68 0)) [(1, []), (5, [some 3]), (23, [some 7]), (24, []), (25, [])] [(5, [some 3])] K n [.v (.int .i64 x0), .v (.sl 1), .v (.sl 2), .v (.int .i64 x3), .v (.int .i64 x4)] [.rows 1 false xl0, .rows 3 true xl1, .rows 7 true xl2] = impl_NeedsFlows.l6 k x0 x3 xl0 xl2 (fun (zl1 : List T_impl_Flow) => K (.exit 0) (stOf [(5, [some 3])] [.v (.sl 1)] [.rows 1 false xl0, .rows 3 true zl1])) n x4 xl1
  | 0, _, _ => rfl
  | n + 1, x4, xl1 => (show loopN 1 (Code.den ti (impl_NeedsFlows.Γ k) (impl_NeedsFlows.LH k) (loopAt Tryz.f68 0)) [(1, []), (5, [some 3]), (23, [some 7]), (24, []), (25, [])] [(5, [some 3])] K (n + 1) [.v (.int .i64 x0), .v (.sl 1), .v (.sl 2), .v (.int .i64 x3), .v (.int .i64 x4)] [.rows 1 false xl0, .rows 3 true xl1, .rows 7 true xl2] = impl_NeedsFlows.L6 k x0 x3 xl0 xl2 (fun (zl1 : List T_impl_Flow) => K (.exit 0) (stOf [(5, [some 3])] [.v (.sl 1)] [.rows 1 false xl0, .rows 3 true zl1])) (fun (x4' : Int) (xl1' : List T_impl_Flow) => loopN 1 (Code.den ti (impl_NeedsFlows.Γ k) (impl_NeedsFlows.LH k) (loopAt Tryz.f68 0)) [(1, []), (5, [some 3]), (23, [some 7]), (24, []), (25, [])] [(5, [some 3])] K n [.v (.int .i64 x0), .v (.sl 1), .v (.sl 2), .v (.int .i64 x3), .v (.int .i64 x4')] [.rows 1 false xl0, .rows 3 true xl1', .rows 7 true xl2]) x4 xl1 by kernel_rfl).trans (congrArg (fun rec => impl_NeedsFlows.L6 k x0 x3 xl0 xl2 (fun (zl1 : List T_impl_Flow) => K (.exit 0) (stOf [(5, [some 3])] [.v (.sl 1)] [.rows 1 false xl0, .rows 3 true zl1])) rec x4 xl1) (funext fun x4' => funext fun xl1' => impl_NeedsFlows.e6 K k x0 x3 xl0 xl2 n x4' xl1'))
theorem impl_NeedsFlows.q6 (k : Nat) {R : Type} (K : Ex → St κ → Option R) (vs : List AV) (bs : List (Blk κ)) (r : R) (h : impl_NeedsFlows.h6 k K vs bs = some r) : ∃ n, loopN 1 (Code.den ti (impl_NeedsFlows.Γ k) (impl_NeedsFlows.LH k) (loopAt Tryz.f68 0)) [(1, []), (5, [some 3]), (23, [some 7]), (24, []), (25, [])] [(5, [some 3])] K n vs bs = some r := by
  unfold impl_NeedsFlows.h6 at h
  split at h
  · obtain ⟨_, rfl, h_1⟩ := asO_bind h
    obtain ⟨_, rfl, h_2⟩ := asO_bind h_1
    obtain ⟨_, rfl, h_3⟩ := asO_bind h_2
    exact ⟨k, (impl_NeedsFlows.e6 K k _ _ _ _ k _ _).trans h_3⟩
  · cases h
theorem impl_NeedsFlows.lok (k : Nat) : LOK ti (impl_NeedsFlows.Γ k) (impl_NeedsFlows.LH k) 1 (loopsOf (bodyOf Tryz.f68)) :=
  (show loopsOf (bodyOf Tryz.f68) = [loopAt Tryz.f68 0, loopAt Tryz.f68 1] by kernel_rfl) ▸ (LOK_cons (g := ⟨1, [(1, []), (5, [some 3]), (23, [some 7]), (24, []), (25, [])], [(5, [some 3])], @impl_NeedsFlows.h6 k⟩) (by kernel_rfl) rfl (fun K vs xs r h => impl_NeedsFlows.q6 k K vs xs r h) (LOK_cons (g := ⟨1, [(1, []), (5, [some 3]), (9, []), (23, [some 7]), (24, []), (25, []), (31, [some 5]), (32, []), (33, [])], [(1, []), (5, [some 3]), (23, [some 7]), (24, []), (25, [])], @impl_NeedsFlows.h9 k⟩) (by kernel_rfl) rfl (fun K vs xs r h => impl_NeedsFlows.q9 k K vs xs r h) (LOK_nil)))
def impl_NeedsFlows.sig : List PSh := [.one (.ro 1), .one .sc]
def impl_NeedsFlows.g (y : List T_impl_Flow) : Ret κ := ⟨.v (.sl 1), [], [.rows 3 true y]⟩
def impl_NeedsFlows.out (r : Ret κ) : Option (List T_impl_Flow) :=
  match r with
  | ⟨.v (.sl 1), [], [q0]⟩ => (asO 3 true q0).bind fun z0 => some (z0)
  | _ => none
theorem impl_NeedsFlows.out_ok (r : Ret κ) (y : List T_impl_Flow) (h : impl_NeedsFlows.out r = some y) : r = impl_NeedsFlows.g y := by
  unfold impl_NeedsFlows.out at h
  split at h
  · obtain ⟨_, rfl, h_1⟩ := asO_bind h
    obtain rfl := Option.some.inj h_1
    rfl
  · cases h
def impl_NeedsFlows.body (k : Nat) (vs : List AV) (bs : List (Blk κ)) : Option (Lf κ) :=
  match vs, bs with
  | [.v (.sl 0), .v (.int .i64 a1)], [qb0] => (asO 1 false qb0).bind fun a0 => some ⟨List T_impl_Flow, impl_NeedsFlows.f k a0 a1, impl_NeedsFlows.g⟩
  | _, _ => none
def impl_NeedsFlows.C (k : Nat) : Nat → List AV → AP κ AV := contract impl_NeedsFlows.sig (impl_NeedsFlows.body k)
theorem impl_NeedsFlows.den (k : Nat) (a0 : List T_impl_Op) (a1 : Int) : Code.den ti (impl_NeedsFlows.Γ k) (impl_NeedsFlows.LH k) (bodyOf Tryz.f68) (finK ti Tryz.f68.results.toList [(4, [some 3])] (flags impl_NeedsFlows.sig).length (rwI (flags impl_NeedsFlows.sig) 0) impl_NeedsFlows.out) ⟨envOf (([.v (.sl 0), .v (.int .i64 a1)]).zipIdx.map fun q => (q.2, q.1)), hpOf [.rows 1 false a0], (flags impl_NeedsFlows.sig).length⟩ = impl_NeedsFlows.f k a0 a1 := by kernel_rfl
theorem impl_NeedsFlows.ok (k : Nat) : CSound Tryz.prog 68 (impl_NeedsFlows.C k) :=
  csound κ_ok mixed tok (impl_NeedsFlows.hΓ k) (LH := impl_NeedsFlows.LH k) (fn := Tryz.f68) (c := bodyOf Tryz.f68) Tryz.func68 rfl Tryz.call68 impl_NeedsFlows.sig [(4, [some 3])] (impl_NeedsFlows.body k) (by kernel_rfl) (impl_NeedsFlows.lok k) (by decide) fun vs bs lf y hl hb hy => by
    unfold impl_NeedsFlows.body at hb
    split at hb
    · obtain ⟨_, rfl, hb_1⟩ := asO_bind hb
      obtain rfl := Option.some.inj hb_1
      exact ⟨impl_NeedsFlows.out, impl_NeedsFlows.out_ok, (impl_NeedsFlows.den k _ _).trans hy⟩
    · cases hb
/-! ### impl_FlowsWithin -/
def impl_FlowsWithin.L2 {R : Type} (k : Nat) (x2 : Int) (xl0 : List T_impl_Flow) (xl1 : List T_impl_Flow) (X0 : Bool → Option R) (X1 : Unit → Option R) (rec : Int → Option R) (x3 : Int) : Option R :=
  (bif decide (x3 < x2) then (bif decide (0 ≤ x3) then (bif decide (x3 < (xl0.length : Int)) then (impl_IsFlow.f k ((rd_impl_Flow xl0 x3).f0) ((rd_impl_Flow xl0 x3).f1) ((rd_impl_Flow xl0 x3).f2)).bind fun t1 => (bif !t1 then (X0 false) else (slices_Contains_Flow.f k xl1 ((rd_impl_Flow xl0 x3).f0) ((rd_impl_Flow xl0 x3).f1) ((rd_impl_Flow xl0 x3).f2)).bind fun t2 => (bif !t2 then (X0 false) else (rec (w64 (x3 + (1 : Int)))))) else none) else none) else (X1 ()))
def impl_FlowsWithin.l2 {R : Type} (k : Nat) (x2 : Int) (xl0 : List T_impl_Flow) (xl1 : List T_impl_Flow) (X0 : Bool → Option R) (X1 : Unit → Option R) : Nat → Int → Option R
  | 0 => fun _ => none
  | n + 1 => impl_FlowsWithin.L2 k x2 xl0 xl1 X0 X1 (impl_FlowsWithin.l2 k x2 xl0 xl1 X0 X1 n)
def impl_FlowsWithin.f (k : Nat) (a0 : List T_impl_Flow) (a1 : List T_impl_Flow) : Option Bool :=
  (impl_FlowsWithin.l2 k (a0.length : Int) a0 a1 (fun (y3 : Bool) => some y3) (fun (_ : Unit) => some true) k (0 : Int))
def impl_FlowsWithin.h2 (k : Nat) {R : Type} (K : Ex → St κ → Option R) (vs : List AV) (bs : List (Blk κ)) : Option R :=
  match vs, bs with
  | [.v (.sl 1), .v (.sl 0), .v (.int .i64 x2), .v (.int .i64 x3)], [qb0, qb1] => (asO 3 false qb0).bind fun xl0 => (asO 3 false qb1).bind fun xl1 => impl_FlowsWithin.l2 k x2 xl0 xl1 (fun (z0 : Bool) => K .ret (stOf [(4, [])] [.v (.bool z0)] [.rows 3 false xl0, .rows 3 false xl1])) (fun (_ : Unit) => K (.exit 0) (stOf [(4, [])] [.v .any] [.rows 3 false xl0, .rows 3 false xl1])) k x3
  | _, _ => none
def impl_FlowsWithin.Γ (k : Nat) : Ct κ := assoc [(59, impl_IsFlow.C k), (101, slices_Contains_Flow.C k)]
def impl_FlowsWithin.LH (k : Nat) : Nat → Option (LHi κ) := assoc [(2, ⟨2, [(1, [some 3]), (7, [some 3]), (8, []), (9, [])], [(4, [])], @impl_FlowsWithin.h2 k⟩)]
theorem impl_FlowsWithin.hΓ (k : Nat) : ∀ f g, impl_FlowsWithin.Γ k f = some g → CSound Tryz.prog f g := G_cons (impl_IsFlow.ok k) (G_cons (slices_Contains_Flow.ok k) G_nil)
theorem impl_FlowsWithin.e2 {R : Type} (K : Ex → St κ → Option R) (k : Nat) (x2 : Int) (xl0 : List T_impl_Flow) (xl1 : List T_impl_Flow) : ∀ (n : Nat) (x3 : Int), loopN 2 (Code.den ti (impl_FlowsWithin.Γ k) (impl_FlowsWithin.LH k) (loopAt Tryz.f67 0)) [(1, [some 3]), (7, [some 3]), (8, []), (9, [])] [(4, [])] K n [.v (.sl 1), .v (.sl 0), .v (.int .i64 x2), .v (.int .i64 x3)] [.rows 3 false xl0, .rows 3 false xl1] = impl_FlowsWithin.l2 k x2 xl0 xl1 (fun (z0 : Bool) => K .ret (stOf [(4, [])] [.v (.bool z0)] [.rows 3 false xl0, .rows 3 false xl1])) (fun (_ : Unit) => K (.exit 0) (stOf [(4, [])] [.v .any] [.rows 3 false xl0, .rows 3 false xl1])) n x3
  | 0, _ => rfl
  | n + 1, x3 => (show loopN 2 (Code.den ti (impl_FlowsWithin.Γ k) (impl_FlowsWithin.LH k) (loopAt Tryz.f67 0)) [(1, [some 3]), (7, [some 3]), (8, []), (9, [])] [(4, [])] K (n + 1) [.v (.sl 1), .v (.sl 0), .v (.int .i64 x2), .v (.int .i64 x3)] [.rows 3 false xl0, .rows 3 false xl1] = impl_FlowsWithin.L2 k x2 xl0 xl1 (fun (z0 : Bool) => K .ret (stOf [(4, [])] [.v (.bool z0)] [.rows 3 false xl0, .rows 3 false xl1])) (fun (_ : Unit) => K (.exit 0) (stOf [(4, [])] [.v .any] [.rows 3 false xl0, .rows 3 false xl1])) (fun (x3' : Int) => loopN 2 (Code.den ti (impl_FlowsWithin.Γ k) (impl_FlowsWithin.LH k) (loopAt Tryz.f67 0)) [(1, [some 3]), (7, [some 3]), (8, []), (9, [])] [(4, [])] K n [.v (.sl 1), .v (.sl 0), .v (.int .i64 x2), .v (.int .i64 x3')] [.rows 3 false xl0, .rows 3 false xl1]) x3 by kernel_rfl).trans (congrArg (fun rec => impl_FlowsWithin.L2 k x2 xl0 xl1 (fun (z0 : Bool) => K .ret (stOf [(4, [])] [.v (.bool z0)] [.rows 3 false xl0, .rows 3 false xl1])) (fun (_ : Unit) => K (.exit 0) (stOf [(4, [])] [.v .any] [.rows 3 false xl0, .rows 3 false xl1])) rec x3) (funext fun x3' => impl_FlowsWithin.e2 K k x2 xl0 xl1 n x3'))
theorem impl_FlowsWithin.q2 (k : Nat) {R : Type} (K : Ex → St κ → Option R) (vs : List AV) (bs : List (Blk κ)) (r : R) (h : impl_FlowsWithin.h2 k K vs bs = some r) : ∃ n, loopN 2 (Code.den ti (impl_FlowsWithin.Γ k) (impl_FlowsWithin.LH k) (loopAt Tryz.f67 0)) [(1, [some 3]), (7, [some 3]), (8, []), (9, [])] [(4, [])] K n vs bs = some r := by
  unfold impl_FlowsWithin.h2 at h
  split at h
  · obtain ⟨_, rfl, h_1⟩ := asO_bind h
    obtain ⟨_, rfl, h_2⟩ := asO_bind h_1
    exact ⟨k, (impl_FlowsWithin.e2 K k _ _ _ k _).trans h_2⟩
  · cases h
theorem impl_FlowsWithin.lok (k : Nat) : LOK ti (impl_FlowsWithin.Γ k) (impl_FlowsWithin.LH k) 2 (loopsOf (bodyOf Tryz.f67)) :=
  (show loopsOf (bodyOf Tryz.f67) = [loopAt Tryz.f67 0] by kernel_rfl) ▸ (LOK_cons (g := ⟨2, [(1, [some 3]), (7, [some 3]), (8, []), (9, [])], [(4, [])], @impl_FlowsWithin.h2 k⟩) (by kernel_rfl) rfl (fun K vs xs r h => impl_FlowsWithin.q2 k K vs xs r h) (LOK_nil))
def impl_FlowsWithin.sig : List PSh := [.one (.ro 3), .one (.ro 3)]
def impl_FlowsWithin.g (y : Bool) : Ret κ := ⟨.v (.bool y), [], []⟩
def impl_FlowsWithin.out (r : Ret κ) : Option Bool :=
  match r with
  | ⟨.v (.bool z0), [], []⟩ => some (z0)
  | _ => none
theorem impl_FlowsWithin.out_ok (r : Ret κ) (y : Bool) (h : impl_FlowsWithin.out r = some y) : r = impl_FlowsWithin.g y := by
  unfold impl_FlowsWithin.out at h
  split at h
  · obtain rfl := Option.some.inj h
    rfl
  · cases h
def impl_FlowsWithin.body (k : Nat) (vs : List AV) (bs : List (Blk κ)) : Option (Lf κ) :=
  match vs, bs with
  | [.v (.sl 0), .v (.sl 1)], [qb0, qb1] => (asO 3 false qb0).bind fun a0 => (asO 3 false qb1).bind fun a1 => some ⟨Bool, impl_FlowsWithin.f k a0 a1, impl_FlowsWithin.g⟩
  | _, _ => none
def impl_FlowsWithin.C (k : Nat) : Nat → List AV → AP κ AV := contract impl_FlowsWithin.sig (impl_FlowsWithin.body k)
theorem impl_FlowsWithin.den (k : Nat) (a0 : List T_impl_Flow) (a1 : List T_impl_Flow) : Code.den ti (impl_FlowsWithin.Γ k) (impl_FlowsWithin.LH k) (bodyOf Tryz.f67) (finK ti Tryz.f67.results.toList [] (flags impl_FlowsWithin.sig).length (rwI (flags impl_FlowsWithin.sig) 0) impl_FlowsWithin.out) ⟨envOf (([.v (.sl 0), .v (.sl 1)]).zipIdx.map fun q => (q.2, q.1)), hpOf [.rows 3 false a0, .rows 3 false a1], (flags impl_FlowsWithin.sig).length⟩ = impl_FlowsWithin.f k a0 a1 := by kernel_rfl
theorem impl_FlowsWithin.ok (k : Nat) : CSound Tryz.prog 67 (impl_FlowsWithin.C k) :=
  csound κ_ok mixed tok (impl_FlowsWithin.hΓ k) (LH := impl_FlowsWithin.LH k) (fn := Tryz.f67) (c := bodyOf Tryz.f67) Tryz.func67 rfl Tryz.call67 impl_FlowsWithin.sig [] (impl_FlowsWithin.body k) (by kernel_rfl) (impl_FlowsWithin.lok k) (by decide) fun vs bs lf y hl hb hy => by
    unfold impl_FlowsWithin.body at hb
    split at hb
    · obtain ⟨_, rfl, hb_1⟩ := asO_bind hb
      obtain ⟨_, rfl, hb_2⟩ := asO_bind hb_1
      obtain rfl := Option.some.inj hb_2
      exact ⟨impl_FlowsWithin.out, impl_FlowsWithin.out_ok, (impl_FlowsWithin.den k _ _).trans hy⟩
    · cases hb
/-! ### impl_IsTightFor -/
def impl_IsTightFor.f (k : Nat) (a0 : List T_impl_Op) (a1 : List T_impl_Flow) (a2 : Int) : Option Bool :=
  (impl_AreOps.f k a0).bind fun t1 => (bif t1 then (impl_NeedsFlows.f k a0 a2).bind fun t2 => (impl_FlowsWithin.f k t2 a1).bind fun t3 => some t3 else some false)
def impl_IsTightFor.Γ (k : Nat) : Ct κ := assoc [(61, impl_AreOps.C k), (68, impl_NeedsFlows.C k), (67, impl_FlowsWithin.C k)]
def impl_IsTightFor.LH (k : Nat) : Nat → Option (LHi κ) := assoc []
theorem impl_IsTightFor.hΓ (k : Nat) : ∀ f g, impl_IsTightFor.Γ k f = some g → CSound Tryz.prog f g := G_cons (impl_AreOps.ok k) (G_cons (impl_NeedsFlows.ok k) (G_cons (impl_FlowsWithin.ok k) G_nil))
theorem impl_IsTightFor.lok (k : Nat) : LOK ti (impl_IsTightFor.Γ k) (impl_IsTightFor.LH k) 2 (loopsOf (bodyOf Tryz.f37)) :=
  (show loopsOf (bodyOf Tryz.f37) = [] by kernel_rfl) ▸ LOK_nil
def impl_IsTightFor.sig : List PSh := [.one (.ro 1), .one (.ro 3), .one .sc]
def impl_IsTightFor.g (y : Bool) : Ret κ := ⟨.v (.bool y), [], []⟩
def impl_IsTightFor.out (r : Ret κ) : Option Bool :=
  match r with
  | ⟨.v (.bool z0), [], []⟩ => some (z0)
  | _ => none
theorem impl_IsTightFor.out_ok (r : Ret κ) (y : Bool) (h : impl_IsTightFor.out r = some y) : r = impl_IsTightFor.g y := by
  unfold impl_IsTightFor.out at h
  split at h
  · obtain rfl := Option.some.inj h
    rfl
  · cases h
def impl_IsTightFor.body (k : Nat) (vs : List AV) (bs : List (Blk κ)) : Option (Lf κ) :=
  match vs, bs with
  | [.v (.sl 0), .v (.sl 1), .v (.int .i64 a2)], [qb0, qb1] => (asO 1 false qb0).bind fun a0 => (asO 3 false qb1).bind fun a1 => some ⟨Bool, impl_IsTightFor.f k a0 a1 a2, impl_IsTightFor.g⟩
  | _, _ => none
def impl_IsTightFor.C (k : Nat) : Nat → List AV → AP κ AV := contract impl_IsTightFor.sig (impl_IsTightFor.body k)
theorem impl_IsTightFor.den (k : Nat) (a0 : List T_impl_Op) (a1 : List T_impl_Flow) (a2 : Int) : Code.den ti (impl_IsTightFor.Γ k) (impl_IsTightFor.LH k) (bodyOf Tryz.f37) (finK ti Tryz.f37.results.toList [] (flags impl_IsTightFor.sig).length (rwI (flags impl_IsTightFor.sig) 0) impl_IsTightFor.out) ⟨envOf (([.v (.sl 0), .v (.sl 1), .v (.int .i64 a2)]).zipIdx.map fun q => (q.2, q.1)), hpOf [.rows 1 false a0, .rows 3 false a1], (flags impl_IsTightFor.sig).length⟩ = impl_IsTightFor.f k a0 a1 a2 := by kernel_rfl
theorem impl_IsTightFor.ok (k : Nat) : CSound Tryz.prog 37 (impl_IsTightFor.C k) :=
  csound κ_ok mixed tok (impl_IsTightFor.hΓ k) (LH := impl_IsTightFor.LH k) (fn := Tryz.f37) (c := bodyOf Tryz.f37) Tryz.func37 rfl Tryz.call37 impl_IsTightFor.sig [] (impl_IsTightFor.body k) (by kernel_rfl) (impl_IsTightFor.lok k) (by decide) fun vs bs lf y hl hb hy => by
    unfold impl_IsTightFor.body at hb
    split at hb
    · obtain ⟨_, rfl, hb_1⟩ := asO_bind hb
      obtain ⟨_, rfl, hb_2⟩ := asO_bind hb_1
      obtain rfl := Option.some.inj hb_2
      exact ⟨impl_IsTightFor.out, impl_IsTightFor.out_ok, (impl_IsTightFor.den k _ _ _).trans hy⟩
    · cases hb
/-! ### impl_ReviewPackage -/
def impl_ReviewPackage.L6 {R : Type} (k : Nat) (x2 : Int) (xl0 : List T_impl_Grant) (xl1 : List T_impl_Flow) (xl2 : List T_impl_Rule) (xl3 : List T_impl_Op) (xc4_0 : Int) (xc4_1 : Int) (xc4_2 : Int) (xc4_7 : Int) (X0 : Int → Option R) (X1 : Unit → Option R) (rec : Int → Option R) (x3 : Int) : Option R :=
  (bif decide (x3 < x2) then (bif decide (0 ≤ x3) then (bif decide (x3 < (xl2.length : Int)) then (impl_covered.f k xl0 ((rd_impl_Rule xl2 x3).f2.f0) ((rd_impl_Rule xl2 x3).f2.f1)).bind fun t3 => (bif !t3 then (X0 (3 : Int)) else (rec (w64 (x3 + (1 : Int))))) else none) else none) else (X1 ()))
def impl_ReviewPackage.l6 {R : Type} (k : Nat) (x2 : Int) (xl0 : List T_impl_Grant) (xl1 : List T_impl_Flow) (xl2 : List T_impl_Rule) (xl3 : List T_impl_Op) (xc4_0 : Int) (xc4_1 : Int) (xc4_2 : Int) (xc4_7 : Int) (X0 : Int → Option R) (X1 : Unit → Option R) : Nat → Int → Option R
  | 0 => fun _ => none
  | n + 1 => impl_ReviewPackage.L6 k x2 xl0 xl1 xl2 xl3 xc4_0 xc4_1 xc4_2 xc4_7 X0 X1 (impl_ReviewPackage.l6 k x2 xl0 xl1 xl2 xl3 xc4_0 xc4_1 xc4_2 xc4_7 X0 X1 n)
def impl_ReviewPackage.f (k : Nat) (a0 : Int) (a1_0 : Int) (a1_1 : Int) (a1_2 : Int) (a1_3 : List T_impl_Grant) (a1_4 : List T_impl_Flow) (a1_5 : List T_impl_Rule) (a1_6 : List T_impl_Op) (a1_7 : Int) : Option Int :=
  (impl_IsPackage.f k a1_0 a1_1 a1_2 a1_3 a1_4 a1_5 a1_6 a1_7).bind fun t1 => (bif !t1 then some (1 : Int) else (impl_IsSealed.f k a0 a1_0 a1_1 a1_2 a1_3 a1_4 a1_5 a1_6 a1_7).bind fun t2 => (bif !t2 then some (2 : Int) else (impl_ReviewPackage.l6 k (a1_5.length : Int) a1_3 a1_4 a1_5 a1_6 a1_0 a1_1 a1_2 a1_7 (fun (y4 : Int) => some y4) (fun (_ : Unit) => (impl_OwnersRead.f k a1_6).bind fun t5 => (impl_allGranted.f k a1_3 (1 : Int) t5).bind fun t6 => (bif !t6 then some (4 : Int) else (impl_OwnersSent.f k a1_6).bind fun t7 => (impl_allGranted.f k a1_3 (3 : Int) t7).bind fun t8 => (bif !t8 then some (5 : Int) else (impl_IsTightFor.f k a1_6 a1_4 a1_0).bind fun t9 => (bif !t9 then some (6 : Int) else some (0 : Int))))) k (0 : Int))))
def impl_ReviewPackage.h6 (k : Nat) {R : Type} (K : Ex → St κ → Option R) (vs : List AV) (bs : List (Blk κ)) : Option R :=
  match vs, bs with
  | [.v (.ptr 4 0 0), .v (.sl 2), .v (.int .i64 x2), .v (.int .i64 x3)], [qb0, qb1, qb2, qb3, .cells 30 [.int .i64 xc4_0, .int .i64 xc4_1, .int .i64 xc4_2, .sl 0, .sl 1, .sl 2, .sl 3, .int .i64 xc4_7]] => (asO 2 false qb0).bind fun xl0 => (asO 3 false qb1).bind fun xl1 => (asO 4 false qb2).bind fun xl2 => (asO 1 false qb3).bind fun xl3 => impl_ReviewPackage.l6 k x2 xl0 xl1 xl2 xl3 xc4_0 xc4_1 xc4_2 xc4_7 (fun (z1 : Int) => K .ret (stOf [(3, [none, none, none, some 2, some 3, some 4, some 1, none]), (4, [])] [.v (.ptr 4 0 0), .v (.int .i64 z1)] [.rows 2 false xl0, .rows 3 false xl1, .rows 4 false xl2, .rows 1 false xl3, .cells 30 [.int .i64 xc4_0, .int .i64 xc4_1, .int .i64 xc4_2, .sl 0, .sl 1, .sl 2, .sl 3, .int .i64 xc4_7]])) (fun (_ : Unit) => K (.exit 0) (stOf [(3, [none, none, none, some 2, some 3, some 4, some 1, none]), (4, [])] [.v (.ptr 4 0 0), .v .any] [.rows 2 false xl0, .rows 3 false xl1, .rows 4 false xl2, .rows 1 false xl3, .cells 30 [.int .i64 xc4_0, .int .i64 xc4_1, .int .i64 xc4_2, .sl 0, .sl 1, .sl 2, .sl 3, .int .i64 xc4_7]])) k x3
  | _, _ => none
def impl_ReviewPackage.Γ (k : Nat) : Ct κ := assoc [(31, impl_IsPackage.C k), (32, impl_IsSealed.C k), (33, impl_covered.C k), (35, impl_OwnersRead.C k), (34, impl_allGranted.C k), (36, impl_OwnersSent.C k), (37, impl_IsTightFor.C k)]
def impl_ReviewPackage.LH (k : Nat) : Nat → Option (LHi κ) := assoc [(6, ⟨4, [(3, [none, none, none, some 2, some 3, some 4, some 1, none]), (15, [some 4]), (16, []), (17, [])], [(3, [none, none, none, some 2, some 3, some 4, some 1, none]), (4, [])], @impl_ReviewPackage.h6 k⟩)]
theorem impl_ReviewPackage.hΓ (k : Nat) : ∀ f g, impl_ReviewPackage.Γ k f = some g → CSound Tryz.prog f g := G_cons (impl_IsPackage.ok k) (G_cons (impl_IsSealed.ok k) (G_cons (impl_covered.ok k) (G_cons (impl_OwnersRead.ok k) (G_cons (impl_allGranted.ok k) (G_cons (impl_OwnersSent.ok k) (G_cons (impl_IsTightFor.ok k) G_nil))))))
theorem impl_ReviewPackage.e6 {R : Type} (K : Ex → St κ → Option R) (k : Nat) (x2 : Int) (xl0 : List T_impl_Grant) (xl1 : List T_impl_Flow) (xl2 : List T_impl_Rule) (xl3 : List T_impl_Op) (xc4_0 : Int) (xc4_1 : Int) (xc4_2 : Int) (xc4_7 : Int) : ∀ (n : Nat) (x3 : Int), loopN 4 (Code.den ti (impl_ReviewPackage.Γ k) (impl_ReviewPackage.LH k) (loopAt Tryz.f14 0)) [(3, [none, none, none, some 2, some 3, some 4, some 1, none]), (15, [some 4]), (16, []), (17, [])] [(3, [none, none, none, some 2, some 3, some 4, some 1, none]), (4, [])] K n [.v (.ptr 4 0 0), .v (.sl 2), .v (.int .i64 x2), .v (.int .i64 x3)] [.rows 2 false xl0, .rows 3 false xl1, .rows 4 false xl2, .rows 1 false xl3, .cells 30 [.int .i64 xc4_0, .int .i64 xc4_1, .int .i64 xc4_2, .sl 0, .sl 1, .sl 2, .sl 3, .int .i64 xc4_7]] = impl_ReviewPackage.l6 k x2 xl0 xl1 xl2 xl3 xc4_0 xc4_1 xc4_2 xc4_7 (fun (z1 : Int) => K .ret (stOf [(3, [none, none, none, some 2, some 3, some 4, some 1, none]), (4, [])] [.v (.ptr 4 0 0), .v (.int .i64 z1)] [.rows 2 false xl0, .rows 3 false xl1, .rows 4 false xl2, .rows 1 false xl3, .cells 30 [.int .i64 xc4_0, .int .i64 xc4_1, .int .i64 xc4_2, .sl 0, .sl 1, .sl 2, .sl 3, .int .i64 xc4_7]])) (fun (_ : Unit) => K (.exit 0) (stOf [(3, [none, none, none, some 2, some 3, some 4, some 1, none]), (4, [])] [.v (.ptr 4 0 0), .v .any] [.rows 2 false xl0, .rows 3 false xl1, .rows 4 false xl2, .rows 1 false xl3, .cells 30 [.int .i64 xc4_0, .int .i64 xc4_1, .int .i64 xc4_2, .sl 0, .sl 1, .sl 2, .sl 3, .int .i64 xc4_7]])) n x3
  | 0, _ => rfl
  | n + 1, x3 => (show loopN 4 (Code.den ti (impl_ReviewPackage.Γ k) (impl_ReviewPackage.LH k) (loopAt Tryz.f14 0)) [(3, [none, none, none, some 2, some 3, some 4, some 1, none]), (15, [some 4]), (16, []), (17, [])] [(3, [none, none, none, some 2, some 3, some 4, some 1, none]), (4, [])] K (n + 1) [.v (.ptr 4 0 0), .v (.sl 2), .v (.int .i64 x2), .v (.int .i64 x3)] [.rows 2 false xl0, .rows 3 false xl1, .rows 4 false xl2, .rows 1 false xl3, .cells 30 [.int .i64 xc4_0, .int .i64 xc4_1, .int .i64 xc4_2, .sl 0, .sl 1, .sl 2, .sl 3, .int .i64 xc4_7]] = impl_ReviewPackage.L6 k x2 xl0 xl1 xl2 xl3 xc4_0 xc4_1 xc4_2 xc4_7 (fun (z1 : Int) => K .ret (stOf [(3, [none, none, none, some 2, some 3, some 4, some 1, none]), (4, [])] [.v (.ptr 4 0 0), .v (.int .i64 z1)] [.rows 2 false xl0, .rows 3 false xl1, .rows 4 false xl2, .rows 1 false xl3, .cells 30 [.int .i64 xc4_0, .int .i64 xc4_1, .int .i64 xc4_2, .sl 0, .sl 1, .sl 2, .sl 3, .int .i64 xc4_7]])) (fun (_ : Unit) => K (.exit 0) (stOf [(3, [none, none, none, some 2, some 3, some 4, some 1, none]), (4, [])] [.v (.ptr 4 0 0), .v .any] [.rows 2 false xl0, .rows 3 false xl1, .rows 4 false xl2, .rows 1 false xl3, .cells 30 [.int .i64 xc4_0, .int .i64 xc4_1, .int .i64 xc4_2, .sl 0, .sl 1, .sl 2, .sl 3, .int .i64 xc4_7]])) (fun (x3' : Int) => loopN 4 (Code.den ti (impl_ReviewPackage.Γ k) (impl_ReviewPackage.LH k) (loopAt Tryz.f14 0)) [(3, [none, none, none, some 2, some 3, some 4, some 1, none]), (15, [some 4]), (16, []), (17, [])] [(3, [none, none, none, some 2, some 3, some 4, some 1, none]), (4, [])] K n [.v (.ptr 4 0 0), .v (.sl 2), .v (.int .i64 x2), .v (.int .i64 x3')] [.rows 2 false xl0, .rows 3 false xl1, .rows 4 false xl2, .rows 1 false xl3, .cells 30 [.int .i64 xc4_0, .int .i64 xc4_1, .int .i64 xc4_2, .sl 0, .sl 1, .sl 2, .sl 3, .int .i64 xc4_7]]) x3 by kernel_rfl).trans (congrArg (fun rec => impl_ReviewPackage.L6 k x2 xl0 xl1 xl2 xl3 xc4_0 xc4_1 xc4_2 xc4_7 (fun (z1 : Int) => K .ret (stOf [(3, [none, none, none, some 2, some 3, some 4, some 1, none]), (4, [])] [.v (.ptr 4 0 0), .v (.int .i64 z1)] [.rows 2 false xl0, .rows 3 false xl1, .rows 4 false xl2, .rows 1 false xl3, .cells 30 [.int .i64 xc4_0, .int .i64 xc4_1, .int .i64 xc4_2, .sl 0, .sl 1, .sl 2, .sl 3, .int .i64 xc4_7]])) (fun (_ : Unit) => K (.exit 0) (stOf [(3, [none, none, none, some 2, some 3, some 4, some 1, none]), (4, [])] [.v (.ptr 4 0 0), .v .any] [.rows 2 false xl0, .rows 3 false xl1, .rows 4 false xl2, .rows 1 false xl3, .cells 30 [.int .i64 xc4_0, .int .i64 xc4_1, .int .i64 xc4_2, .sl 0, .sl 1, .sl 2, .sl 3, .int .i64 xc4_7]])) rec x3) (funext fun x3' => impl_ReviewPackage.e6 K k x2 xl0 xl1 xl2 xl3 xc4_0 xc4_1 xc4_2 xc4_7 n x3'))
theorem impl_ReviewPackage.q6 (k : Nat) {R : Type} (K : Ex → St κ → Option R) (vs : List AV) (bs : List (Blk κ)) (r : R) (h : impl_ReviewPackage.h6 k K vs bs = some r) : ∃ n, loopN 4 (Code.den ti (impl_ReviewPackage.Γ k) (impl_ReviewPackage.LH k) (loopAt Tryz.f14 0)) [(3, [none, none, none, some 2, some 3, some 4, some 1, none]), (15, [some 4]), (16, []), (17, [])] [(3, [none, none, none, some 2, some 3, some 4, some 1, none]), (4, [])] K n vs bs = some r := by
  unfold impl_ReviewPackage.h6 at h
  split at h
  · obtain ⟨_, rfl, h_1⟩ := asO_bind h
    obtain ⟨_, rfl, h_2⟩ := asO_bind h_1
    obtain ⟨_, rfl, h_3⟩ := asO_bind h_2
    obtain ⟨_, rfl, h_4⟩ := asO_bind h_3
    exact ⟨k, (impl_ReviewPackage.e6 K k _ _ _ _ _ _ _ _ _ k _).trans h_4⟩
  · cases h
theorem impl_ReviewPackage.lok (k : Nat) : LOK ti (impl_ReviewPackage.Γ k) (impl_ReviewPackage.LH k) 4 (loopsOf (bodyOf Tryz.f14)) :=
  (show loopsOf (bodyOf Tryz.f14) = [loopAt Tryz.f14 0] by kernel_rfl) ▸ (LOK_cons (g := ⟨4, [(3, [none, none, none, some 2, some 3, some 4, some 1, none]), (15, [some 4]), (16, []), (17, [])], [(3, [none, none, none, some 2, some 3, some 4, some 1, none]), (4, [])], @impl_ReviewPackage.h6 k⟩) (by kernel_rfl) rfl (fun K vs xs r h => impl_ReviewPackage.q6 k K vs xs r h) (LOK_nil))
def impl_ReviewPackage.sig : List PSh := [.one .sc, .agg [.sc, .sc, .sc, .ro 2, .ro 3, .ro 4, .ro 1, .sc]]
def impl_ReviewPackage.g (y : Int) : Ret κ := ⟨.v (.int .i64 y), [], []⟩
def impl_ReviewPackage.out (r : Ret κ) : Option Int :=
  match r with
  | ⟨.v (.int .i64 z0), [], []⟩ => some (z0)
  | _ => none
theorem impl_ReviewPackage.out_ok (r : Ret κ) (y : Int) (h : impl_ReviewPackage.out r = some y) : r = impl_ReviewPackage.g y := by
  unfold impl_ReviewPackage.out at h
  split at h
  · obtain rfl := Option.some.inj h
    rfl
  · cases h
def impl_ReviewPackage.body (k : Nat) (vs : List AV) (bs : List (Blk κ)) : Option (Lf κ) :=
  match vs, bs with
  | [.v (.int .i64 a0), .agg [.int .i64 a1_0, .int .i64 a1_1, .int .i64 a1_2, .sl 0, .sl 1, .sl 2, .sl 3, .int .i64 a1_7]], [qb0, qb1, qb2, qb3] => (asO 2 false qb0).bind fun a1_3 => (asO 3 false qb1).bind fun a1_4 => (asO 4 false qb2).bind fun a1_5 => (asO 1 false qb3).bind fun a1_6 => some ⟨Int, impl_ReviewPackage.f k a0 a1_0 a1_1 a1_2 a1_3 a1_4 a1_5 a1_6 a1_7, impl_ReviewPackage.g⟩
  | _, _ => none
def impl_ReviewPackage.C (k : Nat) : Nat → List AV → AP κ AV := contract impl_ReviewPackage.sig (impl_ReviewPackage.body k)
theorem impl_ReviewPackage.den (k : Nat) (a0 : Int) (a1_0 : Int) (a1_1 : Int) (a1_2 : Int) (a1_3 : List T_impl_Grant) (a1_4 : List T_impl_Flow) (a1_5 : List T_impl_Rule) (a1_6 : List T_impl_Op) (a1_7 : Int) : Code.den ti (impl_ReviewPackage.Γ k) (impl_ReviewPackage.LH k) (bodyOf Tryz.f14) (finK ti Tryz.f14.results.toList [] (flags impl_ReviewPackage.sig).length (rwI (flags impl_ReviewPackage.sig) 0) impl_ReviewPackage.out) ⟨envOf (([.v (.int .i64 a0), .agg [.int .i64 a1_0, .int .i64 a1_1, .int .i64 a1_2, .sl 0, .sl 1, .sl 2, .sl 3, .int .i64 a1_7]]).zipIdx.map fun q => (q.2, q.1)), hpOf [.rows 2 false a1_3, .rows 3 false a1_4, .rows 4 false a1_5, .rows 1 false a1_6], (flags impl_ReviewPackage.sig).length⟩ = impl_ReviewPackage.f k a0 a1_0 a1_1 a1_2 a1_3 a1_4 a1_5 a1_6 a1_7 := by kernel_rfl
theorem impl_ReviewPackage.ok (k : Nat) : CSound Tryz.prog 14 (impl_ReviewPackage.C k) :=
  csound κ_ok mixed tok (impl_ReviewPackage.hΓ k) (LH := impl_ReviewPackage.LH k) (fn := Tryz.f14) (c := bodyOf Tryz.f14) Tryz.func14 rfl Tryz.call14 impl_ReviewPackage.sig [] (impl_ReviewPackage.body k) (by kernel_rfl) (impl_ReviewPackage.lok k) (by decide) fun vs bs lf y hl hb hy => by
    unfold impl_ReviewPackage.body at hb
    split at hb
    · obtain ⟨_, rfl, hb_1⟩ := asO_bind hb
      obtain ⟨_, rfl, hb_2⟩ := asO_bind hb_1
      obtain ⟨_, rfl, hb_3⟩ := asO_bind hb_2
      obtain ⟨_, rfl, hb_4⟩ := asO_bind hb_3
      obtain rfl := Option.some.inj hb_4
      exact ⟨impl_ReviewPackage.out, impl_ReviewPackage.out_ok, (impl_ReviewPackage.den k _ _ _ _ _ _ _ _ _).trans hy⟩
    · cases hb
/-! ### impl_CanRollBack -/
def impl_CanRollBack.f (k : Nat) (a0 : Int) (a1_0 : Int) (a1_1 : Int) (a1_2 : Int) (a1_3 : List T_impl_Grant) (a1_4 : List T_impl_Flow) (a1_5 : List T_impl_Rule) (a1_6 : List T_impl_Op) (a1_7 : Int) (a1_8 : List T_impl_Stored) (a2_0 : Int) (a2_1 : Int) (a2_2 : Int) (a2_3 : List T_impl_Grant) (a2_4 : List T_impl_Flow) (a2_5 : List T_impl_Rule) (a2_6 : List T_impl_Op) (a2_7 : Int) : Option Bool :=
  (impl_ReviewPackage.f k a0 a1_0 a1_1 a1_2 a1_3 a1_4 a1_5 a1_6 a1_7).bind fun t1 => (bif (t1 == (0 : Int)) then (impl_IsPackage.f k a2_0 a2_1 a2_2 a2_3 a2_4 a2_5 a2_6 a2_7).bind fun t2 => (bif t2 then (bif (a2_0 == a1_0) then some (decide (a2_2 > a1_2)) else some false) else some false) else some false)
def impl_CanRollBack.Γ (k : Nat) : Ct κ := assoc [(14, impl_ReviewPackage.C k), (31, impl_IsPackage.C k)]
def impl_CanRollBack.LH (k : Nat) : Nat → Option (LHi κ) := assoc []
theorem impl_CanRollBack.hΓ (k : Nat) : ∀ f g, impl_CanRollBack.Γ k f = some g → CSound Tryz.prog f g := G_cons (impl_ReviewPackage.ok k) (G_cons (impl_IsPackage.ok k) G_nil)
theorem impl_CanRollBack.lok (k : Nat) : LOK ti (impl_CanRollBack.Γ k) (impl_CanRollBack.LH k) 9 (loopsOf (bodyOf Tryz.f13)) :=
  (show loopsOf (bodyOf Tryz.f13) = [] by kernel_rfl) ▸ LOK_nil
def impl_CanRollBack.sig : List PSh := [.one .sc, .agg [.sc, .sc, .sc, .ro 2, .ro 3, .ro 4, .ro 1, .sc, .ro 6], .agg [.sc, .sc, .sc, .ro 2, .ro 3, .ro 4, .ro 1, .sc]]
def impl_CanRollBack.g (y : Bool) : Ret κ := ⟨.v (.bool y), [], []⟩
def impl_CanRollBack.out (r : Ret κ) : Option Bool :=
  match r with
  | ⟨.v (.bool z0), [], []⟩ => some (z0)
  | _ => none
theorem impl_CanRollBack.out_ok (r : Ret κ) (y : Bool) (h : impl_CanRollBack.out r = some y) : r = impl_CanRollBack.g y := by
  unfold impl_CanRollBack.out at h
  split at h
  · obtain rfl := Option.some.inj h
    rfl
  · cases h
def impl_CanRollBack.body (k : Nat) (vs : List AV) (bs : List (Blk κ)) : Option (Lf κ) :=
  match vs, bs with
  | [.v (.int .i64 a0), .agg [.int .i64 a1_0, .int .i64 a1_1, .int .i64 a1_2, .sl 0, .sl 1, .sl 2, .sl 3, .int .i64 a1_7, .sl 4], .agg [.int .i64 a2_0, .int .i64 a2_1, .int .i64 a2_2, .sl 5, .sl 6, .sl 7, .sl 8, .int .i64 a2_7]], [qb0, qb1, qb2, qb3, qb4, qb5, qb6, qb7, qb8] => (asO 2 false qb0).bind fun a1_3 => (asO 3 false qb1).bind fun a1_4 => (asO 4 false qb2).bind fun a1_5 => (asO 1 false qb3).bind fun a1_6 => (asO 6 false qb4).bind fun a1_8 => (asO 2 false qb5).bind fun a2_3 => (asO 3 false qb6).bind fun a2_4 => (asO 4 false qb7).bind fun a2_5 => (asO 1 false qb8).bind fun a2_6 => some ⟨Bool, impl_CanRollBack.f k a0 a1_0 a1_1 a1_2 a1_3 a1_4 a1_5 a1_6 a1_7 a1_8 a2_0 a2_1 a2_2 a2_3 a2_4 a2_5 a2_6 a2_7, impl_CanRollBack.g⟩
  | _, _ => none
def impl_CanRollBack.C (k : Nat) : Nat → List AV → AP κ AV := contract impl_CanRollBack.sig (impl_CanRollBack.body k)
theorem impl_CanRollBack.den (k : Nat) (a0 : Int) (a1_0 : Int) (a1_1 : Int) (a1_2 : Int) (a1_3 : List T_impl_Grant) (a1_4 : List T_impl_Flow) (a1_5 : List T_impl_Rule) (a1_6 : List T_impl_Op) (a1_7 : Int) (a1_8 : List T_impl_Stored) (a2_0 : Int) (a2_1 : Int) (a2_2 : Int) (a2_3 : List T_impl_Grant) (a2_4 : List T_impl_Flow) (a2_5 : List T_impl_Rule) (a2_6 : List T_impl_Op) (a2_7 : Int) : Code.den ti (impl_CanRollBack.Γ k) (impl_CanRollBack.LH k) (bodyOf Tryz.f13) (finK ti Tryz.f13.results.toList [] (flags impl_CanRollBack.sig).length (rwI (flags impl_CanRollBack.sig) 0) impl_CanRollBack.out) ⟨envOf (([.v (.int .i64 a0), .agg [.int .i64 a1_0, .int .i64 a1_1, .int .i64 a1_2, .sl 0, .sl 1, .sl 2, .sl 3, .int .i64 a1_7, .sl 4], .agg [.int .i64 a2_0, .int .i64 a2_1, .int .i64 a2_2, .sl 5, .sl 6, .sl 7, .sl 8, .int .i64 a2_7]]).zipIdx.map fun q => (q.2, q.1)), hpOf [.rows 2 false a1_3, .rows 3 false a1_4, .rows 4 false a1_5, .rows 1 false a1_6, .rows 6 false a1_8, .rows 2 false a2_3, .rows 3 false a2_4, .rows 4 false a2_5, .rows 1 false a2_6], (flags impl_CanRollBack.sig).length⟩ = impl_CanRollBack.f k a0 a1_0 a1_1 a1_2 a1_3 a1_4 a1_5 a1_6 a1_7 a1_8 a2_0 a2_1 a2_2 a2_3 a2_4 a2_5 a2_6 a2_7 := by kernel_rfl
theorem impl_CanRollBack.ok (k : Nat) : CSound Tryz.prog 13 (impl_CanRollBack.C k) :=
  csound κ_ok mixed tok (impl_CanRollBack.hΓ k) (LH := impl_CanRollBack.LH k) (fn := Tryz.f13) (c := bodyOf Tryz.f13) Tryz.func13 rfl Tryz.call13 impl_CanRollBack.sig [] (impl_CanRollBack.body k) (by kernel_rfl) (impl_CanRollBack.lok k) (by decide) fun vs bs lf y hl hb hy => by
    unfold impl_CanRollBack.body at hb
    split at hb
    · obtain ⟨_, rfl, hb_1⟩ := asO_bind hb
      obtain ⟨_, rfl, hb_2⟩ := asO_bind hb_1
      obtain ⟨_, rfl, hb_3⟩ := asO_bind hb_2
      obtain ⟨_, rfl, hb_4⟩ := asO_bind hb_3
      obtain ⟨_, rfl, hb_5⟩ := asO_bind hb_4
      obtain ⟨_, rfl, hb_6⟩ := asO_bind hb_5
      obtain ⟨_, rfl, hb_7⟩ := asO_bind hb_6
      obtain ⟨_, rfl, hb_8⟩ := asO_bind hb_7
      obtain ⟨_, rfl, hb_9⟩ := asO_bind hb_8
      obtain rfl := Option.some.inj hb_9
      exact ⟨impl_CanRollBack.out, impl_CanRollBack.out_ok, (impl_CanRollBack.den k _ _ _ _ _ _ _ _ _ _ _ _ _ _ _ _ _ _).trans hy⟩
    · cases hb
/-! ### laws_FnRolledBack -/
def laws_FnRolledBack.f (k : Nat) (a0 : List Int) : Option Bool :=
  (laws_big.f k a0).bind fun t1 => (bif t1 then some true else (spec_DrawRestoreStore.f k a0).bind fun t2 => (impl_RestoreStore.f k t2.2.2.2.2.1 t2.1 t2.2.1 t2.2.2.1 t2.2.2.2.2.2.1 t2.2.2.2.2.2.2.1 t2.2.2.2.2.2.2.2.1 t2.2.2.2.2.2.2.2.2.1 t2.2.2.2.1 t2.2.2.2.2.2.2.2.2.2).bind fun t3 => (bif !t3.1 then (impl_EqualStores.f k t3.2 t2.2.2.2.2.1).bind fun t4 => some t4 else (impl_TakeSnapshot.f k t2.1 t2.2.1 t2.2.2.1 t2.2.2.2.2.2.1 t2.2.2.2.2.2.2.1 t2.2.2.2.2.2.2.2.1 t2.2.2.2.2.2.2.2.2.1 t2.2.2.2.1 t3.2).bind fun t5 => (impl_EqualStores.f k t5.2.2.2.2.2.2.2.2 t2.2.2.2.2.2.2.2.2.2).bind fun t6 => (bif !t6 then some false else (impl_DropStored.f k t3.2 t2.1).bind fun t7 => (impl_DropStored.f k t2.2.2.2.2.1 t2.1).bind fun t8 => (impl_EqualStores.f k t7 t8).bind fun t9 => (bif !t9 then some false else (impl_IsStore.f k t3.2).bind fun t10 => (bif !t10 then some false else (spec_DrawCanRollBack.f k a0).bind fun t11 => (impl_SnapshotText.f k t2.1 t2.2.1 t2.2.2.1 t2.2.2.2.2.2.1 t2.2.2.2.2.2.2.1 t2.2.2.2.2.2.2.2.1 t2.2.2.2.2.2.2.2.2.1 t2.2.2.2.1 t2.2.2.2.2.2.2.2.2.2).bind fun t12 => (bif !(t12.toList == (ByteArray.mk #[]).toList) then (impl_CanRollBack.f k t11.1 t11.2.1 t11.2.2.1 t11.2.2.2.1 t11.2.2.2.2.2.2.2.2.2.1 t11.2.2.2.2.2.2.2.2.2.2.1 t11.2.2.2.2.2.2.2.2.2.2.2.1 t11.2.2.2.2.2.2.2.2.2.2.2.2.1 t11.2.2.2.2.1 t11.2.2.2.2.2.2.2.2.2.2.2.2.2.1 t11.2.2.2.2.2.1 t11.2.2.2.2.2.2.1 t11.2.2.2.2.2.2.2.1 t11.2.2.2.2.2.2.2.2.2.2.2.2.2.2.1 t11.2.2.2.2.2.2.2.2.2.2.2.2.2.2.2.1 t11.2.2.2.2.2.2.2.2.2.2.2.2.2.2.2.2.1 t11.2.2.2.2.2.2.2.2.2.2.2.2.2.2.2.2.2 t11.2.2.2.2.2.2.2.2.1).bind fun t13 => (bif !t13 then some true else (bif decide (t11.2.2.2.2.2.2.2.1 > t11.2.2.2.1) then (impl_ReviewPackage.f k t11.1 t11.2.1 t11.2.2.1 t11.2.2.2.1 t11.2.2.2.2.2.2.2.2.2.1 t11.2.2.2.2.2.2.2.2.2.2.1 t11.2.2.2.2.2.2.2.2.2.2.2.1 t11.2.2.2.2.2.2.2.2.2.2.2.2.1 t11.2.2.2.2.1).bind fun t14 => some (t14 == (0 : Int)) else some false)) else some false))))))
def laws_FnRolledBack.Γ (k : Nat) : Ct κ := assoc [(4, laws_big.C k), (5, spec_DrawRestoreStore.C k), (6, impl_RestoreStore.C k), (7, impl_EqualStores.C k), (8, impl_TakeSnapshot.C k), (9, impl_DropStored.C k), (10, impl_IsStore.C k), (11, spec_DrawCanRollBack.C k), (12, impl_SnapshotText.C k), (13, impl_CanRollBack.C k), (14, impl_ReviewPackage.C k)]
def laws_FnRolledBack.LH (k : Nat) : Nat → Option (LHi κ) := assoc []
theorem laws_FnRolledBack.hΓ (k : Nat) : ∀ f g, laws_FnRolledBack.Γ k f = some g → CSound Tryz.prog f g := G_cons (laws_big.ok k) (G_cons (spec_DrawRestoreStore.ok k) (G_cons (impl_RestoreStore.ok k) (G_cons (impl_EqualStores.ok k) (G_cons (impl_TakeSnapshot.ok k) (G_cons (impl_DropStored.ok k) (G_cons (impl_IsStore.ok k) (G_cons (spec_DrawCanRollBack.ok k) (G_cons (impl_SnapshotText.ok k) (G_cons (impl_CanRollBack.ok k) (G_cons (impl_ReviewPackage.ok k) G_nil))))))))))
theorem laws_FnRolledBack.lok (k : Nat) : LOK ti (laws_FnRolledBack.Γ k) (laws_FnRolledBack.LH k) 1 (loopsOf (bodyOf Tryz.f3)) :=
  (show loopsOf (bodyOf Tryz.f3) = [] by kernel_rfl) ▸ LOK_nil
def laws_FnRolledBack.sig : List PSh := [.one (.ro 0)]
def laws_FnRolledBack.g (y : Bool) : Ret κ := ⟨.v (.bool y), [], []⟩
def laws_FnRolledBack.out (r : Ret κ) : Option Bool :=
  match r with
  | ⟨.v (.bool z0), [], []⟩ => some (z0)
  | _ => none
theorem laws_FnRolledBack.out_ok (r : Ret κ) (y : Bool) (h : laws_FnRolledBack.out r = some y) : r = laws_FnRolledBack.g y := by
  unfold laws_FnRolledBack.out at h
  split at h
  · obtain rfl := Option.some.inj h
    rfl
  · cases h
def laws_FnRolledBack.body (k : Nat) (vs : List AV) (bs : List (Blk κ)) : Option (Lf κ) :=
  match vs, bs with
  | [.v (.sl 0)], [qb0] => (asO 0 false qb0).bind fun a0 => some ⟨Bool, laws_FnRolledBack.f k a0, laws_FnRolledBack.g⟩
  | _, _ => none
def laws_FnRolledBack.C (k : Nat) : Nat → List AV → AP κ AV := contract laws_FnRolledBack.sig (laws_FnRolledBack.body k)
theorem laws_FnRolledBack.den (k : Nat) (a0 : List Int) : Code.den ti (laws_FnRolledBack.Γ k) (laws_FnRolledBack.LH k) (bodyOf Tryz.f3) (finK ti Tryz.f3.results.toList [] (flags laws_FnRolledBack.sig).length (rwI (flags laws_FnRolledBack.sig) 0) laws_FnRolledBack.out) ⟨envOf (([.v (.sl 0)]).zipIdx.map fun q => (q.2, q.1)), hpOf [.rows 0 false a0], (flags laws_FnRolledBack.sig).length⟩ = laws_FnRolledBack.f k a0 := by kernel_rfl
theorem laws_FnRolledBack.ok (k : Nat) : CSound Tryz.prog 3 (laws_FnRolledBack.C k) :=
  csound κ_ok mixed tok (laws_FnRolledBack.hΓ k) (LH := laws_FnRolledBack.LH k) (fn := Tryz.f3) (c := bodyOf Tryz.f3) Tryz.func3 rfl Tryz.call3 laws_FnRolledBack.sig [] (laws_FnRolledBack.body k) (by kernel_rfl) (laws_FnRolledBack.lok k) (by decide) fun vs bs lf y hl hb hy => by
    unfold laws_FnRolledBack.body at hb
    split at hb
    · obtain ⟨_, rfl, hb_1⟩ := asO_bind hb
      obtain rfl := Option.some.inj hb_1
      exact ⟨laws_FnRolledBack.out, laws_FnRolledBack.out_ok, (laws_FnRolledBack.den k _).trans hy⟩
    · cases hb
end Go.Proofs.YtmjflahlhgibnaaGreatDoor.PFnRolledBack
