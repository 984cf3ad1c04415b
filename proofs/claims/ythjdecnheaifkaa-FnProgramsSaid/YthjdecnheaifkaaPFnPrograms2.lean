/- What the functions that the law FnPrograms reaches come to; no conditions. -/
import Derived.Test.YthjdecnheaifkaaPFnPrograms1
set_option linter.unusedVariables false
set_option maxRecDepth 100000
namespace Go.Proofs.Ythjdecnheaifkaa.PFnPrograms
open Go Go.Eng Go.Proofs
/-! ### impl_InRange -/
def impl_InRange.f (k : Nat) (a0 : Int) (a1 : Int) (a2 : Int) : Option Bool :=
  (bif decide (a1 ≤ a0) then some (decide (a0 ≤ a2)) else some false)
def impl_InRange.Γ (k : Nat) : Ct κ := assoc []
def impl_InRange.LH (k : Nat) : Nat → Option (LHi κ) := assoc []
theorem impl_InRange.hΓ (k : Nat) : ∀ f g, impl_InRange.Γ k f = some g → CSound Try.prog f g := G_nil
theorem impl_InRange.lok (k : Nat) : LOK ti (impl_InRange.Γ k) (impl_InRange.LH k) 0 (loopsOf (bodyOf Try.f68)) :=
  (show loopsOf (bodyOf Try.f68) = [] by kernel_rfl) ▸ LOK_nil
def impl_InRange.sig : List PSh := [.one .sc, .one .sc, .one .sc]
def impl_InRange.g (y : Bool) : Ret κ := ⟨.v (.bool y), [], []⟩
def impl_InRange.out (r : Ret κ) : Option Bool :=
  match r with
  | ⟨.v (.bool z0), [], []⟩ => some (z0)
  | _ => none
theorem impl_InRange.out_ok (r : Ret κ) (y : Bool) (h : impl_InRange.out r = some y) : r = impl_InRange.g y := by
  unfold impl_InRange.out at h
  split at h
  · obtain rfl := Option.some.inj h
    rfl
  · cases h
def impl_InRange.body (k : Nat) (vs : List AV) (bs : List (Blk κ)) : Option (Lf κ) :=
  match vs, bs with
  | [.v (.int .i64 a0), .v (.int .i64 a1), .v (.int .i64 a2)], [] => some ⟨Bool, impl_InRange.f k a0 a1 a2, impl_InRange.g⟩
  | _, _ => none
def impl_InRange.C (k : Nat) : Nat → List AV → AP κ AV := contract impl_InRange.sig (impl_InRange.body k)
theorem impl_InRange.den (k : Nat) (a0 : Int) (a1 : Int) (a2 : Int) : Code.den ti (impl_InRange.Γ k) (impl_InRange.LH k) (bodyOf Try.f68) (finK ti Try.f68.results.toList [] (flags impl_InRange.sig).length (rwI (flags impl_InRange.sig) 0) impl_InRange.out) ⟨envOf (([.v (.int .i64 a0), .v (.int .i64 a1), .v (.int .i64 a2)]).zipIdx.map fun q => (q.2, q.1)), hpOf [], (flags impl_InRange.sig).length⟩ = impl_InRange.f k a0 a1 a2 := by kernel_rfl
theorem impl_InRange.ok (k : Nat) : CSound Try.prog 68 (impl_InRange.C k) :=
  csound κ_ok mixed tok (impl_InRange.hΓ k) (LH := impl_InRange.LH k) (fn := Try.f68) (c := bodyOf Try.f68) Try.func68 rfl Try.call68 impl_InRange.sig [] (impl_InRange.body k) (by kernel_rfl) (impl_InRange.lok k) (by decide) fun vs bs lf y hl hb hy => by
    unfold impl_InRange.body at hb
    split at hb
    · obtain rfl := Option.some.inj hb
      exact ⟨impl_InRange.out, impl_InRange.out_ok, (impl_InRange.den k _ _ _).trans hy⟩
    · cases hb
/-! ### impl_isRegister -/
def impl_isRegister.f (k : Nat) (a0 : Int) : Option Bool :=
  (impl_InRange.f k a0 (0 : Int) (5 : Int)).bind fun t1 => some t1
def impl_isRegister.Γ (k : Nat) : Ct κ := assoc [(68, impl_InRange.C k)]
def impl_isRegister.LH (k : Nat) : Nat → Option (LHi κ) := assoc []
theorem impl_isRegister.hΓ (k : Nat) : ∀ f g, impl_isRegister.Γ k f = some g → CSound Try.prog f g := G_cons (impl_InRange.ok k) G_nil
theorem impl_isRegister.lok (k : Nat) : LOK ti (impl_isRegister.Γ k) (impl_isRegister.LH k) 0 (loopsOf (bodyOf Try.f92)) :=
  (show loopsOf (bodyOf Try.f92) = [] by kernel_rfl) ▸ LOK_nil
def impl_isRegister.sig : List PSh := [.one .sc]
def impl_isRegister.g (y : Bool) : Ret κ := ⟨.v (.bool y), [], []⟩
def impl_isRegister.out (r : Ret κ) : Option Bool :=
  match r with
  | ⟨.v (.bool z0), [], []⟩ => some (z0)
  | _ => none
theorem impl_isRegister.out_ok (r : Ret κ) (y : Bool) (h : impl_isRegister.out r = some y) : r = impl_isRegister.g y := by
  unfold impl_isRegister.out at h
  split at h
  · obtain rfl := Option.some.inj h
    rfl
  · cases h
def impl_isRegister.body (k : Nat) (vs : List AV) (bs : List (Blk κ)) : Option (Lf κ) :=
  match vs, bs with
  | [.v (.int .i64 a0)], [] => some ⟨Bool, impl_isRegister.f k a0, impl_isRegister.g⟩
  | _, _ => none
def impl_isRegister.C (k : Nat) : Nat → List AV → AP κ AV := contract impl_isRegister.sig (impl_isRegister.body k)
theorem impl_isRegister.den (k : Nat) (a0 : Int) : Code.den ti (impl_isRegister.Γ k) (impl_isRegister.LH k) (bodyOf Try.f92) (finK ti Try.f92.results.toList [] (flags impl_isRegister.sig).length (rwI (flags impl_isRegister.sig) 0) impl_isRegister.out) ⟨envOf (([.v (.int .i64 a0)]).zipIdx.map fun q => (q.2, q.1)), hpOf [], (flags impl_isRegister.sig).length⟩ = impl_isRegister.f k a0 := by kernel_rfl
theorem impl_isRegister.ok (k : Nat) : CSound Try.prog 92 (impl_isRegister.C k) :=
  csound κ_ok mixed tok (impl_isRegister.hΓ k) (LH := impl_isRegister.LH k) (fn := Try.f92) (c := bodyOf Try.f92) Try.func92 rfl Try.call92 impl_isRegister.sig [] (impl_isRegister.body k) (by kernel_rfl) (impl_isRegister.lok k) (by decide) fun vs bs lf y hl hb hy => by
    unfold impl_isRegister.body at hb
    split at hb
    · obtain rfl := Option.some.inj hb
      exact ⟨impl_isRegister.out, impl_isRegister.out_ok, (impl_isRegister.den k _).trans hy⟩
    · cases hb
/-! ### impl_isOp -/
def impl_isOp.f (k : Nat) (a0_0 : Int) (a0_1 : Int) (a0_2 : Int) (a0_3 : Int) : Option Bool :=
  (impl_isRegister.f k a0_1).bind fun t1 => (bif !t1 then some false else (bif (a0_0 == (1 : Int)) then (impl_InRange.f k a0_2 (1 : Int) (9 : Int)).bind fun t2 => (bif t2 then some (a0_3 == (0 : Int)) else some false) else (bif (a0_0 == (5 : Int)) then (impl_InRange.f k a0_2 (1 : Int) (9 : Int)).bind fun t3 => (bif t3 then some (a0_3 == (0 : Int)) else some false) else (bif (a0_0 == (2 : Int)) then (impl_InRange.f k a0_2 (0 : Int) (999 : Int)).bind fun t4 => (bif t4 then some (a0_3 == (0 : Int)) else some false) else (bif (a0_0 == (3 : Int)) then (impl_isRegister.f k a0_2).bind fun t5 => (bif t5 then (impl_isRegister.f k a0_3).bind fun t6 => some t6 else some false) else (bif (a0_0 == (4 : Int)) then (impl_isRegister.f k a0_2).bind fun t7 => (bif t7 then (impl_isRegister.f k a0_3).bind fun t8 => some t8 else some false) else some false))))))
def impl_isOp.Γ (k : Nat) : Ct κ := assoc [(92, impl_isRegister.C k), (68, impl_InRange.C k)]
def impl_isOp.LH (k : Nat) : Nat → Option (LHi κ) := assoc []
theorem impl_isOp.hΓ (k : Nat) : ∀ f g, impl_isOp.Γ k f = some g → CSound Try.prog f g := G_cons (impl_isRegister.ok k) (G_cons (impl_InRange.ok k) G_nil)
theorem impl_isOp.lok (k : Nat) : LOK ti (impl_isOp.Γ k) (impl_isOp.LH k) 0 (loopsOf (bodyOf Try.f64)) :=
  (show loopsOf (bodyOf Try.f64) = [] by kernel_rfl) ▸ LOK_nil
def impl_isOp.sig : List PSh := [.agg [.sc, .sc, .sc, .sc]]
def impl_isOp.g (y : Bool) : Ret κ := ⟨.v (.bool y), [], []⟩
def impl_isOp.out (r : Ret κ) : Option Bool :=
  match r with
  | ⟨.v (.bool z0), [], []⟩ => some (z0)
  | _ => none
theorem impl_isOp.out_ok (r : Ret κ) (y : Bool) (h : impl_isOp.out r = some y) : r = impl_isOp.g y := by
  unfold impl_isOp.out at h
  split at h
  · obtain rfl := Option.some.inj h
    rfl
  · cases h
def impl_isOp.body (k : Nat) (vs : List AV) (bs : List (Blk κ)) : Option (Lf κ) :=
  match vs, bs with
  | [.agg [.int .i64 a0_0, .int .i64 a0_1, .int .i64 a0_2, .int .i64 a0_3]], [] => some ⟨Bool, impl_isOp.f k a0_0 a0_1 a0_2 a0_3, impl_isOp.g⟩
  | _, _ => none
def impl_isOp.C (k : Nat) : Nat → List AV → AP κ AV := contract impl_isOp.sig (impl_isOp.body k)
theorem impl_isOp.den (k : Nat) (a0_0 : Int) (a0_1 : Int) (a0_2 : Int) (a0_3 : Int) : Code.den ti (impl_isOp.Γ k) (impl_isOp.LH k) (bodyOf Try.f64) (finK ti Try.f64.results.toList [] (flags impl_isOp.sig).length (rwI (flags impl_isOp.sig) 0) impl_isOp.out) ⟨envOf (([.agg [.int .i64 a0_0, .int .i64 a0_1, .int .i64 a0_2, .int .i64 a0_3]]).zipIdx.map fun q => (q.2, q.1)), hpOf [], (flags impl_isOp.sig).length⟩ = impl_isOp.f k a0_0 a0_1 a0_2 a0_3 := by kernel_rfl
theorem impl_isOp.ok (k : Nat) : CSound Try.prog 64 (impl_isOp.C k) :=
  csound κ_ok mixed tok (impl_isOp.hΓ k) (LH := impl_isOp.LH k) (fn := Try.f64) (c := bodyOf Try.f64) Try.func64 rfl Try.call64 impl_isOp.sig [] (impl_isOp.body k) (by kernel_rfl) (impl_isOp.lok k) (by decide) fun vs bs lf y hl hb hy => by
    unfold impl_isOp.body at hb
    split at hb
    · obtain rfl := Option.some.inj hb
      exact ⟨impl_isOp.out, impl_isOp.out_ok, (impl_isOp.den k _ _ _ _).trans hy⟩
    · cases hb
/-! ### impl_AreOps -/
def impl_AreOps.L4 {R : Type} (k : Nat) (x1 : Int) (xl0 : List T_impl_Op) (X0 : Bool → Option R) (X1 : Unit → Option R) (rec : Int → Option R) (x2 : Int) : Option R :=
  (bif decide (x2 < x1) then (bif decide (0 ≤ x2) then (bif decide (x2 < (xl0.length : Int)) then (impl_isOp.f k ((rd_impl_Op xl0 x2).f0) ((rd_impl_Op xl0 x2).f1) ((rd_impl_Op xl0 x2).f2) ((rd_impl_Op xl0 x2).f3)).bind fun t1 => (bif !t1 then (X0 false) else (rec (w64 (x2 + (1 : Int))))) else none) else none) else (X1 ()))
def impl_AreOps.l4 {R : Type} (k : Nat) (x1 : Int) (xl0 : List T_impl_Op) (X0 : Bool → Option R) (X1 : Unit → Option R) : Nat → Int → Option R
  | 0 => fun _ => none
  | n + 1 => impl_AreOps.L4 k x1 xl0 X0 X1 (impl_AreOps.l4 k x1 xl0 X0 X1 n)
def impl_AreOps.f (k : Nat) (a0 : List T_impl_Op) : Option Bool :=
  (bif decide ((a0.length : Int) > (16 : Int)) then some false else (impl_AreOps.l4 k (a0.length : Int) a0 (fun (y2 : Bool) => some y2) (fun (_ : Unit) => some true) k (0 : Int)))
def impl_AreOps.h4 (k : Nat) {R : Type} (K : Ex → St κ → Option R) (vs : List AV) (bs : List (Blk κ)) : Option R :=
  match vs, bs with
  | [.v (.sl 0), .v (.int .i64 x1), .v (.int .i64 x2)], [qb0] => (asO 1 false qb0).bind fun xl0 => impl_AreOps.l4 k x1 xl0 (fun (z0 : Bool) => K .ret (stOf [(2, [])] [.v (.bool z0)] [.rows 1 false xl0])) (fun (_ : Unit) => K (.exit 0) (stOf [(2, [])] [.v .any] [.rows 1 false xl0])) k x2
  | _, _ => none
def impl_AreOps.Γ (k : Nat) : Ct κ := assoc [(64, impl_isOp.C k)]
def impl_AreOps.LH (k : Nat) : Nat → Option (LHi κ) := assoc [(4, ⟨1, [(8, [some 1]), (9, []), (10, [])], [(2, [])], @impl_AreOps.h4 k⟩)]
theorem impl_AreOps.hΓ (k : Nat) : ∀ f g, impl_AreOps.Γ k f = some g → CSound Try.prog f g := G_cons (impl_isOp.ok k) G_nil
theorem impl_AreOps.e4 {R : Type} (K : Ex → St κ → Option R) (k : Nat) (x1 : Int) (xl0 : List T_impl_Op) : ∀ (n : Nat) (x2 : Int), loopN 1 (Code.den ti (impl_AreOps.Γ k) (impl_AreOps.LH k) (loopAt Try.f23 0)) [(8, [some 1]), (9, []), (10, [])] [(2, [])] K n [.v (.sl 0), .v (.int .i64 x1), .v (.int .i64 x2)] [.rows 1 false xl0] = impl_AreOps.l4 k x1 xl0 (fun (z0 : Bool) => K .ret (stOf [(2, [])] [.v (.bool z0)] [.rows 1 false xl0])) (fun (_ : Unit) => K (.exit 0) (stOf [(2, [])] [.v .any] [.rows 1 false xl0])) n x2
  | 0, _ => rfl
  | n + 1, x2 => (show loopN 1 (Code.den ti (impl_AreOps.Γ k) (impl_AreOps.LH k) (loopAt Try.f23 0)) [(8, [some 1]), (9, []), (10, [])] [(2, [])] K (n + 1) [.v (.sl 0), .v (.int .i64 x1), .v (.int .i64 x2)] [.rows 1 false xl0] = impl_AreOps.L4 k x1 xl0 (fun (z0 : Bool) => K .ret (stOf [(2, [])] [.v (.bool z0)] [.rows 1 false xl0])) (fun (_ : Unit) => K (.exit 0) (stOf [(2, [])] [.v .any] [.rows 1 false xl0])) (fun (x2' : Int) => loopN 1 (Code.den ti (impl_AreOps.Γ k) (impl_AreOps.LH k) (loopAt Try.f23 0)) [(8, [some 1]), (9, []), (10, [])] [(2, [])] K n [.v (.sl 0), .v (.int .i64 x1), .v (.int .i64 x2')] [.rows 1 false xl0]) x2 by kernel_rfl).trans (congrArg (fun rec => impl_AreOps.L4 k x1 xl0 (fun (z0 : Bool) => K .ret (stOf [(2, [])] [.v (.bool z0)] [.rows 1 false xl0])) (fun (_ : Unit) => K (.exit 0) (stOf [(2, [])] [.v .any] [.rows 1 false xl0])) rec x2) (funext fun x2' => impl_AreOps.e4 K k x1 xl0 n x2'))
theorem impl_AreOps.q4 (k : Nat) {R : Type} (K : Ex → St κ → Option R) (vs : List AV) (bs : List (Blk κ)) (r : R) (h : impl_AreOps.h4 k K vs bs = some r) : ∃ n, loopN 1 (Code.den ti (impl_AreOps.Γ k) (impl_AreOps.LH k) (loopAt Try.f23 0)) [(8, [some 1]), (9, []), (10, [])] [(2, [])] K n vs bs = some r := by
  unfold impl_AreOps.h4 at h
  split at h
  · obtain ⟨_, rfl, h_1⟩ := asO_bind h
    exact ⟨k, (impl_AreOps.e4 K k _ _ k _).trans h_1⟩
  · cases h
theorem impl_AreOps.lok (k : Nat) : LOK ti (impl_AreOps.Γ k) (impl_AreOps.LH k) 1 (loopsOf (bodyOf Try.f23)) :=
  (show loopsOf (bodyOf Try.f23) = [loopAt Try.f23 0] by kernel_rfl) ▸ (LOK_cons (g := ⟨1, [(8, [some 1]), (9, []), (10, [])], [(2, [])], @impl_AreOps.h4 k⟩) (by kernel_rfl) rfl (fun K vs xs r h => impl_AreOps.q4 k K vs xs r h) (LOK_nil))
def impl_AreOps.sig : List PSh := [.one (.ro 1)]
def impl_AreOps.g (y : Bool) : Ret κ := ⟨.v (.bool y), [], []⟩
def impl_AreOps.out (r : Ret κ) : Option Bool :=
  match r with
  | ⟨.v (.bool z0), [], []⟩ => some (z0)
  | _ => none
theorem impl_AreOps.out_ok (r : Ret κ) (y : Bool) (h : impl_AreOps.out r = some y) : r = impl_AreOps.g y := by
  unfold impl_AreOps.out at h
  split at h
  · obtain rfl := Option.some.inj h
    rfl
  · cases h
def impl_AreOps.body (k : Nat) (vs : List AV) (bs : List (Blk κ)) : Option (Lf κ) :=
  match vs, bs with
  | [.v (.sl 0)], [qb0] => (asO 1 false qb0).bind fun a0 => some ⟨Bool, impl_AreOps.f k a0, impl_AreOps.g⟩
  | _, _ => none
def impl_AreOps.C (k : Nat) : Nat → List AV → AP κ AV := contract impl_AreOps.sig (impl_AreOps.body k)
theorem impl_AreOps.den (k : Nat) (a0 : List T_impl_Op) : Code.den ti (impl_AreOps.Γ k) (impl_AreOps.LH k) (bodyOf Try.f23) (finK ti Try.f23.results.toList [] (flags impl_AreOps.sig).length (rwI (flags impl_AreOps.sig) 0) impl_AreOps.out) ⟨envOf (([.v (.sl 0)]).zipIdx.map fun q => (q.2, q.1)), hpOf [.rows 1 false a0], (flags impl_AreOps.sig).length⟩ = impl_AreOps.f k a0 := by kernel_rfl
theorem impl_AreOps.ok (k : Nat) : CSound Try.prog 23 (impl_AreOps.C k) :=
  csound κ_ok mixed tok (impl_AreOps.hΓ k) (LH := impl_AreOps.LH k) (fn := Try.f23) (c := bodyOf Try.f23) Try.func23 rfl Try.call23 impl_AreOps.sig [] (impl_AreOps.body k) (by kernel_rfl) (impl_AreOps.lok k) (by decide) fun vs bs lf y hl hb hy => by
    unfold impl_AreOps.body at hb
    split at hb
    · obtain ⟨_, rfl, hb_1⟩ := asO_bind hb
      obtain rfl := Option.some.inj hb_1
      exact ⟨impl_AreOps.out, impl_AreOps.out_ok, (impl_AreOps.den k _).trans hy⟩
    · cases hb
/-! ### impl_valueOf -/
def impl_valueOf.f (k : Nat) (a0 : List Int) (a1 : Int) : Option Int :=
  (bif decide (a1 < (1 : Int)) then some (0 : Int) else (bif decide (a1 > (a0.length : Int)) then some (0 : Int) else (bif decide (0 ≤ (w64 (a1 - (1 : Int)))) then (bif decide ((w64 (a1 - (1 : Int))) < (a0.length : Int)) then (impl_InRange.f k (rd_i64 a0 (w64 (a1 - (1 : Int)))) (0 : Int) (999 : Int)).bind fun t1 => (bif !t1 then some (0 : Int) else (bif decide (0 ≤ (w64 (a1 - (1 : Int)))) then (bif decide ((w64 (a1 - (1 : Int))) < (a0.length : Int)) then some (rd_i64 a0 (w64 (a1 - (1 : Int)))) else none) else none)) else none) else none)))
def impl_valueOf.Γ (k : Nat) : Ct κ := assoc [(68, impl_InRange.C k)]
def impl_valueOf.LH (k : Nat) : Nat → Option (LHi κ) := assoc []
theorem impl_valueOf.hΓ (k : Nat) : ∀ f g, impl_valueOf.Γ k f = some g → CSound Try.prog f g := G_cons (impl_InRange.ok k) G_nil
theorem impl_valueOf.lok (k : Nat) : LOK ti (impl_valueOf.Γ k) (impl_valueOf.LH k) 1 (loopsOf (bodyOf Try.f80)) :=
  (show loopsOf (bodyOf Try.f80) = [] by kernel_rfl) ▸ LOK_nil
def impl_valueOf.sig : List PSh := [.one (.ro 2), .one .sc]
def impl_valueOf.g (y : Int) : Ret κ := ⟨.v (.int .i64 y), [], []⟩
def impl_valueOf.out (r : Ret κ) : Option Int :=
  match r with
  | ⟨.v (.int .i64 z0), [], []⟩ => some (z0)
  | _ => none
theorem impl_valueOf.out_ok (r : Ret κ) (y : Int) (h : impl_valueOf.out r = some y) : r = impl_valueOf.g y := by
  unfold impl_valueOf.out at h
  split at h
  · obtain rfl := Option.some.inj h
    rfl
  · cases h
def impl_valueOf.body (k : Nat) (vs : List AV) (bs : List (Blk κ)) : Option (Lf κ) :=
  match vs, bs with
  | [.v (.sl 0), .v (.int .i64 a1)], [qb0] => (asO 2 false qb0).bind fun a0 => some ⟨Int, impl_valueOf.f k a0 a1, impl_valueOf.g⟩
  | _, _ => none
def impl_valueOf.C (k : Nat) : Nat → List AV → AP κ AV := contract impl_valueOf.sig (impl_valueOf.body k)
theorem impl_valueOf.den (k : Nat) (a0 : List Int) (a1 : Int) : Code.den ti (impl_valueOf.Γ k) (impl_valueOf.LH k) (bodyOf Try.f80) (finK ti Try.f80.results.toList [] (flags impl_valueOf.sig).length (rwI (flags impl_valueOf.sig) 0) impl_valueOf.out) ⟨envOf (([.v (.sl 0), .v (.int .i64 a1)]).zipIdx.map fun q => (q.2, q.1)), hpOf [.rows 2 false a0], (flags impl_valueOf.sig).length⟩ = impl_valueOf.f k a0 a1 := by kernel_rfl
theorem impl_valueOf.ok (k : Nat) : CSound Try.prog 80 (impl_valueOf.C k) :=
  csound κ_ok mixed tok (impl_valueOf.hΓ k) (LH := impl_valueOf.LH k) (fn := Try.f80) (c := bodyOf Try.f80) Try.func80 rfl Try.call80 impl_valueOf.sig [] (impl_valueOf.body k) (by kernel_rfl) (impl_valueOf.lok k) (by decide) fun vs bs lf y hl hb hy => by
    unfold impl_valueOf.body at hb
    split at hb
    · obtain ⟨_, rfl, hb_1⟩ := asO_bind hb
      obtain rfl := Option.some.inj hb_1
      exact ⟨impl_valueOf.out, impl_valueOf.out_ok, (impl_valueOf.den k _ _).trans hy⟩
    · cases hb
/-! ### impl_executed -/
def impl_executed.L3 {R : Type} (k : Nat) (x5 : Int) (xl0 : List T_impl_Op) (xl1 : List Int) (X0 : List T_impl_Sent → List Int → Option R) (rec : Int → List T_impl_Sent → List Int → List Int → Option R) (x6 : Int) (xl2 : List T_impl_Sent) (xl3 : List Int) (xl4 : List Int) : Option R :=
  (bif decide (x6 < x5) then (bif decide (0 ≤ x6) then (bif decide (x6 < (xl0.length : Int)) then (bif ((rd_impl_Op xl0 x6).f0 == (1 : Int)) then (impl_valueOf.f k xl1 ((rd_impl_Op xl0 x6).f2)).bind fun t1 => (bif decide ((rd_impl_Op xl0 x6).f2 < 0) then none else (bif decide (0 ≤ (rd_impl_Op xl0 x6).f1) then (bif decide ((rd_impl_Op xl0 x6).f1 < (xl3.length : Int)) then (bif decide (0 ≤ (rd_impl_Op xl0 x6).f1) then (bif decide ((rd_impl_Op xl0 x6).f1 < (xl4.length : Int)) then (let l2 : List Int := (xl4.set ((rd_impl_Op xl0 x6).f1).toNat (w64 ((1 : Int) * 2 ^ (min ((rd_impl_Op xl0 x6).f2).toNat 64)))); (rec (w64 (x6 + (1 : Int))) xl2 (xl3.set ((rd_impl_Op xl0 x6).f1).toNat t1) l2)) else none) else none) else none) else none)) else (bif ((rd_impl_Op xl0 x6).f0 == (2 : Int)) then (bif decide (0 ≤ (rd_impl_Op xl0 x6).f1) then (bif decide ((rd_impl_Op xl0 x6).f1 < (xl3.length : Int)) then (let l3 : List Int := (xl3.set ((rd_impl_Op xl0 x6).f1).toNat (rd_impl_Op xl0 x6).f2); (bif decide (0 ≤ (rd_impl_Op xl0 x6).f1) then (bif decide ((rd_impl_Op xl0 x6).f1 < (xl4.length : Int)) then (rec (w64 (x6 + (1 : Int))) xl2 l3 (xl4.set ((rd_impl_Op xl0 x6).f1).toNat (0 : Int))) else none) else none)) else none) else none) else (bif ((rd_impl_Op xl0 x6).f0 == (3 : Int)) then (bif decide (0 ≤ (rd_impl_Op xl0 x6).f2) then (bif decide ((rd_impl_Op xl0 x6).f2 < (xl3.length : Int)) then (bif decide (0 ≤ (rd_impl_Op xl0 x6).f3) then (bif decide ((rd_impl_Op xl0 x6).f3 < (xl3.length : Int)) then (bif decide (0 ≤ (rd_impl_Op xl0 x6).f2) then (bif decide ((rd_impl_Op xl0 x6).f2 < (xl4.length : Int)) then (bif decide (0 ≤ (rd_impl_Op xl0 x6).f3) then (bif decide ((rd_impl_Op xl0 x6).f3 < (xl4.length : Int)) then (bif decide (0 ≤ (rd_impl_Op xl0 x6).f1) then (bif decide ((rd_impl_Op xl0 x6).f1 < (xl3.length : Int)) then (let l4 : List Int := (xl3.set ((rd_impl_Op xl0 x6).f1).toNat ((w64 ((rd_i64 xl3 ((rd_impl_Op xl0 x6).f2)) + (rd_i64 xl3 ((rd_impl_Op xl0 x6).f3)))).tmod (1000 : Int))); (bif decide (0 ≤ (rd_impl_Op xl0 x6).f1) then (bif decide ((rd_impl_Op xl0 x6).f1 < (xl4.length : Int)) then (let l5 : List Int := (xl4.set ((rd_impl_Op xl0 x6).f1).toNat (bitop .or .i64 (rd_i64 xl4 ((rd_impl_Op xl0 x6).f2)) (rd_i64 xl4 ((rd_impl_Op xl0 x6).f3)))); (rec (w64 (x6 + (1 : Int))) xl2 l4 l5)) else none) else none)) else none) else none) else none) else none) else none) else none) else none) else none) else none) else none) else (bif ((rd_impl_Op xl0 x6).f0 == (4 : Int)) then (bif decide (0 ≤ (rd_impl_Op xl0 x6).f1) then (bif decide ((rd_impl_Op xl0 x6).f1 < (xl4.length : Int)) then (bif decide (0 ≤ (rd_impl_Op xl0 x6).f2) then (bif decide ((rd_impl_Op xl0 x6).f2 < (xl4.length : Int)) then (bif decide (0 ≤ (rd_impl_Op xl0 x6).f3) then (bif decide ((rd_impl_Op xl0 x6).f3 < (xl4.length : Int)) then (bif decide (0 ≤ (rd_impl_Op xl0 x6).f2) then (bif decide ((rd_impl_Op xl0 x6).f2 < (xl3.length : Int)) then (bif (((rd_i64 xl3 ((rd_impl_Op xl0 x6).f2)).tmod (2 : Int)) == (0 : Int)) then (bif decide (0 ≤ (rd_impl_Op xl0 x6).f3) then (bif decide ((rd_impl_Op xl0 x6).f3 < (xl3.length : Int)) then (bif decide (0 ≤ (rd_impl_Op xl0 x6).f1) then (bif decide ((rd_impl_Op xl0 x6).f1 < (xl3.length : Int)) then (let l6 : List Int := (xl3.set ((rd_impl_Op xl0 x6).f1).toNat (rd_i64 xl3 ((rd_impl_Op xl0 x6).f3))); (bif decide (0 ≤ (rd_impl_Op xl0 x6).f1) then (bif decide ((rd_impl_Op xl0 x6).f1 < (xl4.length : Int)) then (let l7 : List Int := (xl4.set ((rd_impl_Op xl0 x6).f1).toNat (bitop .or .i64 (bitop .or .i64 (rd_i64 xl4 ((rd_impl_Op xl0 x6).f1)) (rd_i64 xl4 ((rd_impl_Op xl0 x6).f2))) (rd_i64 xl4 ((rd_impl_Op xl0 x6).f3)))); (rec (w64 (x6 + (1 : Int))) xl2 l6 l7)) else none) else none)) else none) else none) else none) else none) else (bif decide (0 ≤ (rd_impl_Op xl0 x6).f1) then (bif decide ((rd_impl_Op xl0 x6).f1 < (xl4.length : Int)) then (let l8 : List Int := (xl4.set ((rd_impl_Op xl0 x6).f1).toNat (bitop .or .i64 (bitop .or .i64 (rd_i64 xl4 ((rd_impl_Op xl0 x6).f1)) (rd_i64 xl4 ((rd_impl_Op xl0 x6).f2))) (rd_i64 xl4 ((rd_impl_Op xl0 x6).f3)))); (rec (w64 (x6 + (1 : Int))) xl2 xl3 l8)) else none) else none)) else none) else none) else none) else none) else none) else none) else none) else none) else (bif ((rd_impl_Op xl0 x6).f0 == (5 : Int)) then (bif decide (0 ≤ (rd_impl_Op xl0 x6).f1) then (bif decide ((rd_impl_Op xl0 x6).f1 < (xl3.length : Int)) then (bif decide (0 ≤ (rd_impl_Op xl0 x6).f1) then (bif decide ((rd_impl_Op xl0 x6).f1 < (xl4.length : Int)) then (bif decide ((xl2.length + ([(⟨(rd_impl_Op xl0 x6).f2, (rd_i64 xl3 ((rd_impl_Op xl0 x6).f1)), (rd_i64 xl4 ((rd_impl_Op xl0 x6).f1))⟩ : T_impl_Sent)] : List T_impl_Sent).length) * 24 ≤ cap48) then (let l9 : List T_impl_Sent := (xl2 ++ ([(⟨(rd_impl_Op xl0 x6).f2, (rd_i64 xl3 ((rd_impl_Op xl0 x6).f1)), (rd_i64 xl4 ((rd_impl_Op xl0 x6).f1))⟩ : T_impl_Sent)] : List T_impl_Sent)); (rec (w64 (x6 + (1 : Int))) l9 xl3 xl4)) else none) else none) else none) else none) else none) else (rec (w64 (x6 + (1 : Int))) xl2 xl3 xl4)))))) else none) else none) else (X0 xl2 xl4))
def impl_executed.l3 {R : Type} (k : Nat) (x5 : Int) (xl0 : List T_impl_Op) (xl1 : List Int) (X0 : List T_impl_Sent → List Int → Option R) : Nat → Int → List T_impl_Sent → List Int → List Int → Option R
  | 0 => fun _ _ _ _ => none
  | n + 1 => impl_executed.L3 k x5 xl0 xl1 X0 (impl_executed.l3 k x5 xl0 xl1 X0 n)
def impl_executed.f (k : Nat) (a0 : List T_impl_Op) (a1 : List Int) : Option (List T_impl_Sent × List Int) :=
  (bif decide (0 ≤ (6 : Int)) then (bif decide (((6 : Int)).toNat * 8 ≤ cap48) then (bif decide (0 ≤ (6 : Int)) then (bif decide (((6 : Int)).toNat * 8 ≤ cap48) then (impl_executed.l3 k (a0.length : Int) a0 a1 (fun (y10 : List T_impl_Sent) (y11 : List Int) => some (y10, y11)) k (0 : Int) ([] : List T_impl_Sent) (List.replicate ((6 : Int)).toNat z_i64) (List.replicate ((6 : Int)).toNat z_i64)) else none) else none) else none) else none)
def impl_executed.h3 (k : Nat) {R : Type} (K : Ex → St κ → Option R) (vs : List AV) (bs : List (Blk κ)) : Option R :=
  match vs, bs with
  | [.v (.sl 1), .v (.sl 2), .v (.sl 3), .v (.sl 4), .v (.sl 0), .v (.int .i64 x5), .v (.int .i64 x6)], [qb0, qb1, qb2, qb3, qb4] => (asO 1 false qb0).bind fun xl0 => (asO 2 false qb1).bind fun xl1 => (asO 4 true qb2).bind fun xl2 => (asO 2 true qb3).bind fun xl3 => (asO 2 true qb4).bind fun xl4 => impl_executed.l3 k x5 xl0 xl1 (fun (zl2 : List T_impl_Sent) (zl3 : List Int) => K (.exit 0) (stOf [(6, [some 4]), (8, [some 2])] [.v (.sl 2), .v (.sl 3)] [.rows 1 false xl0, .rows 2 false xl1, .rows 4 true zl2, .rows 2 true zl3])) k x6 xl2 xl3 xl4
  | _, _ => none
def impl_executed.Γ (k : Nat) : Ct κ := assoc [(80, impl_valueOf.C k)]
def impl_executed.LH (k : Nat) : Nat → Option (LHi κ) := assoc [(3, ⟨2, [(1, [some 2]), (6, [some 4]), (7, [some 2]), (8, [some 2]), (15, [some 1]), (16, []), (17, [])], [(6, [some 4]), (8, [some 2])], @impl_executed.h3 k⟩)]
theorem impl_executed.hΓ (k : Nat) : ∀ f g, impl_executed.Γ k f = some g → CSound Try.prog f g := G_cons (impl_valueOf.ok k) G_nil
theorem impl_executed.e3 {R : Type} (K : Ex → St κ → Option R) (k : Nat) (x5 : Int) (xl0 : List T_impl_Op) (xl1 : List Int) : ∀ (n : Nat) (x6 : Int) (xl2 : List T_impl_Sent) (xl3 : List Int) (xl4 : List Int), loopN 2 (Code.den ti (impl_executed.Γ k) (impl_executed.LH k) (loopAt Try.f57 0)) [(1, [some 2]), (6, [some 4]), (7, [some 2]), (8, [some 2]), (15, [some 1]), (16, []), (17, [])] [(6, [some 4]), (8, [some 2])] K n [.v (.sl 1), .v (.sl 2), .v (.sl 3), .v (.sl 4), .v (.sl 0), .v (.int .i64 x5), .v (.int .i64 x6)] [.rows 1 false xl0, .rows 2 false xl1, .rows 4 true xl2, .rows 2 true xl3, .rows 2 true xl4] = impl_executed.l3 k x5 xl0 xl1 (fun (zl2 : List T_impl_Sent) (zl3 : List Int) => K (.exit 0) (stOf [(6, [some 4]), (8, [some 2])] [.v (.sl 2), .v (.sl 3)] [.rows 1 false xl0, .rows 2 false xl1, .rows 4 true zl2, .rows 2 true zl3])) n x6 xl2 xl3 xl4
  | 0, _, _, _, _ => rfl
  | n + 1, x6, xl2, xl3, xl4 => (show loopN 2 (Code.den ti (impl_executed.Γ k) (impl_executed.LH k) (loopAt Try.f57 0)) [(1, [some 2]), (6, [some 4]), (7, [some 2]), (8, [some 2]), (15, [some 1]), (16, []), (17, [])] [(6, [some 4]), (8, [some 2])] K (n + 1) [.v (.sl 1), .v (.sl 2), .v (.sl 3), .v (.sl 4), .v (.sl 0), .v (.int .i64 x5), .v (.int .i64 x6)] [.rows 1 false xl0, .rows 2 false xl1, .rows 4 true xl2, .rows 2 true xl3, .rows 2 true xl4] = impl_executed.L3 k x5 xl0 xl1 (fun (zl2 : List T_impl_Sent) (zl3 : List Int) => K (.exit 0) (stOf [(6, [some 4]), (8, [some 2])] [.v (.sl 2), .v (.sl 3)] [.rows 1 false xl0, .rows 2 false xl1, .rows 4 true zl2, .rows 2 true zl3])) (fun (x6' : Int) (xl2' : List T_impl_Sent) (xl3' : List Int) (xl4' : List Int) => loopN 2 (Code.den ti (impl_executed.Γ k) (impl_executed.LH k) (loopAt Try.f57 0)) [(1, [some 2]), (6, [some 4]), (7, [some 2]), (8, [some 2]), (15, [some 1]), (16, []), (17, [])] [(6, [some 4]), (8, [some 2])] K n [.v (.sl 1), .v (.sl 2), .v (.sl 3), .v (.sl 4), .v (.sl 0), .v (.int .i64 x5), .v (.int .i64 x6')] [.rows 1 false xl0, .rows 2 false xl1, .rows 4 true xl2', .rows 2 true xl3', .rows 2 true xl4']) x6 xl2 xl3 xl4 by kernel_rfl).trans (congrArg (fun rec => impl_executed.L3 k x5 xl0 xl1 (fun (zl2 : List T_impl_Sent) (zl3 : List Int) => K (.exit 0) (stOf [(6, [some 4]), (8, [some 2])] [.v (.sl 2), .v (.sl 3)] [.rows 1 false xl0, .rows 2 false xl1, .rows 4 true zl2, .rows 2 true zl3])) rec x6 xl2 xl3 xl4) (funext fun x6' => funext fun xl2' => funext fun xl3' => funext fun xl4' => impl_executed.e3 K k x5 xl0 xl1 n x6' xl2' xl3' xl4'))
theorem impl_executed.q3 (k : Nat) {R : Type} (K : Ex → St κ → Option R) (vs : List AV) (bs : List (Blk κ)) (r : R) (h : impl_executed.h3 k K vs bs = some r) : ∃ n, loopN 2 (Code.den ti (impl_executed.Γ k) (impl_executed.LH k) (loopAt Try.f57 0)) [(1, [some 2]), (6, [some 4]), (7, [some 2]), (8, [some 2]), (15, [some 1]), (16, []), (17, [])] [(6, [some 4]), (8, [some 2])] K n vs bs = some r := by
  unfold impl_executed.h3 at h
  split at h
  · obtain ⟨_, rfl, h_1⟩ := asO_bind h
    obtain ⟨_, rfl, h_2⟩ := asO_bind h_1
    obtain ⟨_, rfl, h_3⟩ := asO_bind h_2
    obtain ⟨_, rfl, h_4⟩ := asO_bind h_3
    obtain ⟨_, rfl, h_5⟩ := asO_bind h_4
    exact ⟨k, (impl_executed.e3 K k _ _ _ k _ _ _ _).trans h_5⟩
  · cases h
theorem impl_executed.lok (k : Nat) : LOK ti (impl_executed.Γ k) (impl_executed.LH k) 2 (loopsOf (bodyOf Try.f57)) :=
  (show loopsOf (bodyOf Try.f57) = [loopAt Try.f57 0] by kernel_rfl) ▸ (LOK_cons (g := ⟨2, [(1, [some 2]), (6, [some 4]), (7, [some 2]), (8, [some 2]), (15, [some 1]), (16, []), (17, [])], [(6, [some 4]), (8, [some 2])], @impl_executed.h3 k⟩) (by kernel_rfl) rfl (fun K vs xs r h => impl_executed.q3 k K vs xs r h) (LOK_nil))
def impl_executed.sig : List PSh := [.one (.ro 1), .one (.ro 2)]
def impl_executed.g (y : List T_impl_Sent × List Int) : Ret κ := ⟨.tup [(false, [.sl 2]), (false, [.sl 3])], [], [.rows 4 true y.1, .rows 2 true y.2]⟩
def impl_executed.out (r : Ret κ) : Option (List T_impl_Sent × List Int) :=
  match r with
  | ⟨.tup [(false, [.sl 2]), (false, [.sl 3])], [], [q0, q1]⟩ => (asO 4 true q0).bind fun z0 => (asO 2 true q1).bind fun z1 => some (z0, z1)
  | _ => none
theorem impl_executed.out_ok (r : Ret κ) (y : List T_impl_Sent × List Int) (h : impl_executed.out r = some y) : r = impl_executed.g y := by
  unfold impl_executed.out at h
  split at h
  · obtain ⟨_, rfl, h_1⟩ := asO_bind h
    obtain ⟨_, rfl, h_2⟩ := asO_bind h_1
    obtain rfl := Option.some.inj h_2
    rfl
  · cases h
def impl_executed.body (k : Nat) (vs : List AV) (bs : List (Blk κ)) : Option (Lf κ) :=
  match vs, bs with
  | [.v (.sl 0), .v (.sl 1)], [qb0, qb1] => (asO 1 false qb0).bind fun a0 => (asO 2 false qb1).bind fun a1 => some ⟨List T_impl_Sent × List Int, impl_executed.f k a0 a1, impl_executed.g⟩
  | _, _ => none
def impl_executed.C (k : Nat) : Nat → List AV → AP κ AV := contract impl_executed.sig (impl_executed.body k)
theorem impl_executed.den (k : Nat) (a0 : List T_impl_Op) (a1 : List Int) : Code.den ti (impl_executed.Γ k) (impl_executed.LH k) (bodyOf Try.f57) (finK ti Try.f57.results.toList [(4, [some 4]), (5, [some 2])] (flags impl_executed.sig).length (rwI (flags impl_executed.sig) 0) impl_executed.out) ⟨envOf (([.v (.sl 0), .v (.sl 1)]).zipIdx.map fun q => (q.2, q.1)), hpOf [.rows 1 false a0, .rows 2 false a1], (flags impl_executed.sig).length⟩ = impl_executed.f k a0 a1 := by kernel_rfl
theorem impl_executed.ok (k : Nat) : CSound Try.prog 57 (impl_executed.C k) :=
  csound κ_ok mixed tok (impl_executed.hΓ k) (LH := impl_executed.LH k) (fn := Try.f57) (c := bodyOf Try.f57) Try.func57 rfl Try.call57 impl_executed.sig [(4, [some 4]), (5, [some 2])] (impl_executed.body k) (by kernel_rfl) (impl_executed.lok k) (by decide) fun vs bs lf y hl hb hy => by
    unfold impl_executed.body at hb
    split at hb
    · obtain ⟨_, rfl, hb_1⟩ := asO_bind hb
      obtain ⟨_, rfl, hb_2⟩ := asO_bind hb_1
      obtain rfl := Option.some.inj hb_2
      exact ⟨impl_executed.out, impl_executed.out_ok, (impl_executed.den k _ _).trans hy⟩
    · cases hb
/-! ### impl_IsLabel -/
def impl_IsLabel.f (k : Nat) (a0 : Int) : Option Bool :=
  (impl_InRange.f k a0 (0 : Int) (1022 : Int)).bind fun t1 => (bif t1 then some ((a0.tmod (2 : Int)) == (0 : Int)) else some false)
def impl_IsLabel.Γ (k : Nat) : Ct κ := assoc [(68, impl_InRange.C k)]
def impl_IsLabel.LH (k : Nat) : Nat → Option (LHi κ) := assoc []
theorem impl_IsLabel.hΓ (k : Nat) : ∀ f g, impl_IsLabel.Γ k f = some g → CSound Try.prog f g := G_cons (impl_InRange.ok k) G_nil
theorem impl_IsLabel.lok (k : Nat) : LOK ti (impl_IsLabel.Γ k) (impl_IsLabel.LH k) 0 (loopsOf (bodyOf Try.f27)) :=
  (show loopsOf (bodyOf Try.f27) = [] by kernel_rfl) ▸ LOK_nil
def impl_IsLabel.sig : List PSh := [.one .sc]
def impl_IsLabel.g (y : Bool) : Ret κ := ⟨.v (.bool y), [], []⟩
def impl_IsLabel.out (r : Ret κ) : Option Bool :=
  match r with
  | ⟨.v (.bool z0), [], []⟩ => some (z0)
  | _ => none
theorem impl_IsLabel.out_ok (r : Ret κ) (y : Bool) (h : impl_IsLabel.out r = some y) : r = impl_IsLabel.g y := by
  unfold impl_IsLabel.out at h
  split at h
  · obtain rfl := Option.some.inj h
    rfl
  · cases h
def impl_IsLabel.body (k : Nat) (vs : List AV) (bs : List (Blk κ)) : Option (Lf κ) :=
  match vs, bs with
  | [.v (.int .i64 a0)], [] => some ⟨Bool, impl_IsLabel.f k a0, impl_IsLabel.g⟩
  | _, _ => none
def impl_IsLabel.C (k : Nat) : Nat → List AV → AP κ AV := contract impl_IsLabel.sig (impl_IsLabel.body k)
theorem impl_IsLabel.den (k : Nat) (a0 : Int) : Code.den ti (impl_IsLabel.Γ k) (impl_IsLabel.LH k) (bodyOf Try.f27) (finK ti Try.f27.results.toList [] (flags impl_IsLabel.sig).length (rwI (flags impl_IsLabel.sig) 0) impl_IsLabel.out) ⟨envOf (([.v (.int .i64 a0)]).zipIdx.map fun q => (q.2, q.1)), hpOf [], (flags impl_IsLabel.sig).length⟩ = impl_IsLabel.f k a0 := by kernel_rfl
theorem impl_IsLabel.ok (k : Nat) : CSound Try.prog 27 (impl_IsLabel.C k) :=
  csound κ_ok mixed tok (impl_IsLabel.hΓ k) (LH := impl_IsLabel.LH k) (fn := Try.f27) (c := bodyOf Try.f27) Try.func27 rfl Try.call27 impl_IsLabel.sig [] (impl_IsLabel.body k) (by kernel_rfl) (impl_IsLabel.lok k) (by decide) fun vs bs lf y hl hb hy => by
    unfold impl_IsLabel.body at hb
    split at hb
    · obtain rfl := Option.some.inj hb
      exact ⟨impl_IsLabel.out, impl_IsLabel.out_ok, (impl_IsLabel.den k _).trans hy⟩
    · cases hb
/-! ### impl_OwnersIn -/
def impl_OwnersIn.L5 {R : Type} (k : Nat) (x0 : Int) (X0 : List Int → Option R) (rec : Int → List Int → Option R) (x2 : Int) (xl0 : List Int) : Option R :=
  (bif decide (x2 ≤ (9 : Int)) then (bif decide (x2 < 0) then none else (bif ((bitop .and .i64 (x0.fdiv (2 ^ (min (x2).toNat 64))) (1 : Int)) == (1 : Int)) then (bif decide ((xl0.length + ([x2] : List Int).length) * 8 ≤ cap48) then (rec (w64 (x2 + (1 : Int))) (xl0 ++ ([x2] : List Int))) else none) else (rec (w64 (x2 + (1 : Int))) xl0))) else (X0 xl0))
def impl_OwnersIn.l5 {R : Type} (k : Nat) (x0 : Int) (X0 : List Int → Option R) : Nat → Int → List Int → Option R
  | 0 => fun _ _ => none
  | n + 1 => impl_OwnersIn.L5 k x0 X0 (impl_OwnersIn.l5 k x0 X0 n)
def impl_OwnersIn.f (k : Nat) (a0 : Int) : Option (List Int) :=
  (impl_IsLabel.f k a0).bind fun t1 => (bif !t1 then some ([] : List Int) else (impl_OwnersIn.l5 k a0 (fun (y2 : List Int) => some y2) k (1 : Int) ([] : List Int)))
def impl_OwnersIn.h5 (k : Nat) {R : Type} (K : Ex → St κ → Option R) (vs : List AV) (bs : List (Blk κ)) : Option R :=
  match vs, bs with
  | [.v (.int .i64 x0), .v (.sl 0), .v (.int .i64 x2)], [qb0] => (asO 2 true qb0).bind fun xl0 => impl_OwnersIn.l5 k x0 (fun (zl0 : List Int) => K (.exit 0) (stOf [(3, [some 2])] [.v (.sl 0)] [.rows 2 true zl0])) k x2 xl0
  | _, _ => none
def impl_OwnersIn.Γ (k : Nat) : Ct κ := assoc [(27, impl_IsLabel.C k)]
def impl_OwnersIn.LH (k : Nat) : Nat → Option (LHi κ) := assoc [(5, ⟨0, [(0, []), (3, [some 2]), (4, [])], [(3, [some 2])], @impl_OwnersIn.h5 k⟩)]
theorem impl_OwnersIn.hΓ (k : Nat) : ∀ f g, impl_OwnersIn.Γ k f = some g → CSound Try.prog f g := G_cons (impl_IsLabel.ok k) G_nil
theorem impl_OwnersIn.e5 {R : Type} (K : Ex → St κ → Option R) (k : Nat) (x0 : Int) : ∀ (n : Nat) (x2 : Int) (xl0 : List Int), loopN 0 (Code.den ti (impl_OwnersIn.Γ k) (impl_OwnersIn.LH k) (loopAt Try.f66 0)) [(0, []), (3, [some 2]), (4, [])] [(3, [some 2])] K n [.v (.int .i64 x0), .v (.sl 0), .v (.int .i64 x2)] [.rows 2 true xl0] = impl_OwnersIn.l5 k x0 (fun (zl0 : List Int) => K (.exit 0) (stOf [(3, [some 2])] [.v (.sl 0)] [.rows 2 true zl0])) n x2 xl0
  | 0, _, _ => rfl
  | n + 1, x2, xl0 => (show loopN 0 (Code.den ti (impl_OwnersIn.Γ k) (impl_OwnersIn.LH k) (loopAt Try.f66 0)) [(0, []), (3, [some 2]), (4, [])] [(3, [some 2])] K (n + 1) [.v (.int .i64 x0), .v (.sl 0), .v (.int .i64 x2)] [.rows 2 true xl0] = impl_OwnersIn.L5 k x0 (fun (zl0 : List Int) => K (.exit 0) (stOf [(3, [some 2])] [.v (.sl 0)] [.rows 2 true zl0])) (fun (x2' : Int) (xl0' : List Int) => loopN 0 (Code.den ti (impl_OwnersIn.Γ k) (impl_OwnersIn.LH k) (loopAt Try.f66 0)) [(0, []), (3, [some 2]), (4, [])] [(3, [some 2])] K n [.v (.int .i64 x0), .v (.sl 0), .v (.int .i64 x2')] [.rows 2 true xl0']) x2 xl0 by kernel_rfl).trans (congrArg (fun rec => impl_OwnersIn.L5 k x0 (fun (zl0 : List Int) => K (.exit 0) (stOf [(3, [some 2])] [.v (.sl 0)] [.rows 2 true zl0])) rec x2 xl0) (funext fun x2' => funext fun xl0' => impl_OwnersIn.e5 K k x0 n x2' xl0'))
theorem impl_OwnersIn.q5 (k : Nat) {R : Type} (K : Ex → St κ → Option R) (vs : List AV) (bs : List (Blk κ)) (r : R) (h : impl_OwnersIn.h5 k K vs bs = some r) : ∃ n, loopN 0 (Code.den ti (impl_OwnersIn.Γ k) (impl_OwnersIn.LH k) (loopAt Try.f66 0)) [(0, []), (3, [some 2]), (4, [])] [(3, [some 2])] K n vs bs = some r := by
  unfold impl_OwnersIn.h5 at h
  split at h
  · obtain ⟨_, rfl, h_1⟩ := asO_bind h
    exact ⟨k, (impl_OwnersIn.e5 K k _ k _ _).trans h_1⟩
  · cases h
theorem impl_OwnersIn.lok (k : Nat) : LOK ti (impl_OwnersIn.Γ k) (impl_OwnersIn.LH k) 0 (loopsOf (bodyOf Try.f66)) :=
  (show loopsOf (bodyOf Try.f66) = [loopAt Try.f66 0] by kernel_rfl) ▸ (LOK_cons (g := ⟨0, [(0, []), (3, [some 2]), (4, [])], [(3, [some 2])], @impl_OwnersIn.h5 k⟩) (by kernel_rfl) rfl (fun K vs xs r h => impl_OwnersIn.q5 k K vs xs r h) (LOK_nil))
def impl_OwnersIn.sig : List PSh := [.one .sc]
def impl_OwnersIn.g (y : List Int) : Ret κ := ⟨.v (.sl 0), [], [.rows 2 true y]⟩
def impl_OwnersIn.out (r : Ret κ) : Option (List Int) :=
  match r with
  | ⟨.v (.sl 0), [], [q0]⟩ => (asO 2 true q0).bind fun z0 => some (z0)
  | _ => none
theorem impl_OwnersIn.out_ok (r : Ret κ) (y : List Int) (h : impl_OwnersIn.out r = some y) : r = impl_OwnersIn.g y := by
  unfold impl_OwnersIn.out at h
  split at h
  · obtain ⟨_, rfl, h_1⟩ := asO_bind h
    obtain rfl := Option.some.inj h_1
    rfl
  · cases h
def impl_OwnersIn.body (k : Nat) (vs : List AV) (bs : List (Blk κ)) : Option (Lf κ) :=
  match vs, bs with
  | [.v (.int .i64 a0)], [] => some ⟨List Int, impl_OwnersIn.f k a0, impl_OwnersIn.g⟩
  | _, _ => none
def impl_OwnersIn.C (k : Nat) : Nat → List AV → AP κ AV := contract impl_OwnersIn.sig (impl_OwnersIn.body k)
theorem impl_OwnersIn.den (k : Nat) (a0 : Int) : Code.den ti (impl_OwnersIn.Γ k) (impl_OwnersIn.LH k) (bodyOf Try.f66) (finK ti Try.f66.results.toList [(2, [some 2])] (flags impl_OwnersIn.sig).length (rwI (flags impl_OwnersIn.sig) 0) impl_OwnersIn.out) ⟨envOf (([.v (.int .i64 a0)]).zipIdx.map fun q => (q.2, q.1)), hpOf [], (flags impl_OwnersIn.sig).length⟩ = impl_OwnersIn.f k a0 := by kernel_rfl
theorem impl_OwnersIn.ok (k : Nat) : CSound Try.prog 66 (impl_OwnersIn.C k) :=
  csound κ_ok mixed tok (impl_OwnersIn.hΓ k) (LH := impl_OwnersIn.LH k) (fn := Try.f66) (c := bodyOf Try.f66) Try.func66 rfl Try.call66 impl_OwnersIn.sig [(2, [some 2])] (impl_OwnersIn.body k) (by kernel_rfl) (impl_OwnersIn.lok k) (by decide) fun vs bs lf y hl hb hy => by
    unfold impl_OwnersIn.body at hb
    split at hb
    · obtain rfl := Option.some.inj hb
      exact ⟨impl_OwnersIn.out, impl_OwnersIn.out_ok, (impl_OwnersIn.den k _).trans hy⟩
    · cases hb
/-! ### impl_IsFlow -/
def impl_IsFlow.f (k : Nat) (a0_0 : Int) (a0_1 : Int) (a0_2 : Int) : Option Bool :=
  (impl_InRange.f k a0_0 (1 : Int) (5 : Int)).bind fun t1 => (bif t1 then (impl_InRange.f k a0_1 (1 : Int) (9 : Int)).bind fun t2 => (bif t2 then (impl_InRange.f k a0_2 (1 : Int) (9 : Int)).bind fun t3 => some t3 else some false) else some false)
def impl_IsFlow.Γ (k : Nat) : Ct κ := assoc [(68, impl_InRange.C k)]
def impl_IsFlow.LH (k : Nat) : Nat → Option (LHi κ) := assoc []
theorem impl_IsFlow.hΓ (k : Nat) : ∀ f g, impl_IsFlow.Γ k f = some g → CSound Try.prog f g := G_cons (impl_InRange.ok k) G_nil
theorem impl_IsFlow.lok (k : Nat) : LOK ti (impl_IsFlow.Γ k) (impl_IsFlow.LH k) 0 (loopsOf (bodyOf Try.f69)) :=
  (show loopsOf (bodyOf Try.f69) = [] by kernel_rfl) ▸ LOK_nil
def impl_IsFlow.sig : List PSh := [.agg [.sc, .sc, .sc]]
def impl_IsFlow.g (y : Bool) : Ret κ := ⟨.v (.bool y), [], []⟩
def impl_IsFlow.out (r : Ret κ) : Option Bool :=
  match r with
  | ⟨.v (.bool z0), [], []⟩ => some (z0)
  | _ => none
theorem impl_IsFlow.out_ok (r : Ret κ) (y : Bool) (h : impl_IsFlow.out r = some y) : r = impl_IsFlow.g y := by
  unfold impl_IsFlow.out at h
  split at h
  · obtain rfl := Option.some.inj h
    rfl
  · cases h
def impl_IsFlow.body (k : Nat) (vs : List AV) (bs : List (Blk κ)) : Option (Lf κ) :=
  match vs, bs with
  | [.agg [.int .i64 a0_0, .int .i64 a0_1, .int .i64 a0_2]], [] => some ⟨Bool, impl_IsFlow.f k a0_0 a0_1 a0_2, impl_IsFlow.g⟩
  | _, _ => none
def impl_IsFlow.C (k : Nat) : Nat → List AV → AP κ AV := contract impl_IsFlow.sig (impl_IsFlow.body k)
theorem impl_IsFlow.den (k : Nat) (a0_0 : Int) (a0_1 : Int) (a0_2 : Int) : Code.den ti (impl_IsFlow.Γ k) (impl_IsFlow.LH k) (bodyOf Try.f69) (finK ti Try.f69.results.toList [] (flags impl_IsFlow.sig).length (rwI (flags impl_IsFlow.sig) 0) impl_IsFlow.out) ⟨envOf (([.agg [.int .i64 a0_0, .int .i64 a0_1, .int .i64 a0_2]]).zipIdx.map fun q => (q.2, q.1)), hpOf [], (flags impl_IsFlow.sig).length⟩ = impl_IsFlow.f k a0_0 a0_1 a0_2 := by kernel_rfl
theorem impl_IsFlow.ok (k : Nat) : CSound Try.prog 69 (impl_IsFlow.C k) :=
  csound κ_ok mixed tok (impl_IsFlow.hΓ k) (LH := impl_IsFlow.LH k) (fn := Try.f69) (c := bodyOf Try.f69) Try.func69 rfl Try.call69 impl_IsFlow.sig [] (impl_IsFlow.body k) (by kernel_rfl) (impl_IsFlow.lok k) (by decide) fun vs bs lf y hl hb hy => by
    unfold impl_IsFlow.body at hb
    split at hb
    · obtain rfl := Option.some.inj hb
      exact ⟨impl_IsFlow.out, impl_IsFlow.out_ok, (impl_IsFlow.den k _ _ _).trans hy⟩
    · cases hb
/-! ### slices_Index_Flow -/
def slices_Index_Flow.L2 {R : Type} (k : Nat) (x2 : Int) (xl0 : List T_impl_Flow) (xc1_0 : Int) (xc1_1 : Int) (xc1_2 : Int) (X0 : Int → Option R) (X1 : Unit → Option R) (rec : Int → Option R) (x3 : Int) : Option R :=
  (bif decide (x3 < x2) then (bif decide (0 ≤ x3) then (bif decide (x3 < (xl0.length : Int)) then (bif ((xc1_0 == ((rd_impl_Flow xl0 x3).f0)) && ((xc1_1 == ((rd_impl_Flow xl0 x3).f1)) && (xc1_2 == ((rd_impl_Flow xl0 x3).f2)))) then (X0 x3) else (rec (w64 (x3 + (1 : Int))))) else none) else none) else (X1 ()))
def slices_Index_Flow.l2 {R : Type} (k : Nat) (x2 : Int) (xl0 : List T_impl_Flow) (xc1_0 : Int) (xc1_1 : Int) (xc1_2 : Int) (X0 : Int → Option R) (X1 : Unit → Option R) : Nat → Int → Option R
  | 0 => fun _ => none
  | n + 1 => slices_Index_Flow.L2 k x2 xl0 xc1_0 xc1_1 xc1_2 X0 X1 (slices_Index_Flow.l2 k x2 xl0 xc1_0 xc1_1 xc1_2 X0 X1 n)
def slices_Index_Flow.f (k : Nat) (a0 : List T_impl_Flow) (a1_0 : Int) (a1_1 : Int) (a1_2 : Int) : Option Int :=
  (slices_Index_Flow.l2 k (a0.length : Int) a0 a1_0 a1_1 a1_2 (fun (y1 : Int) => some y1) (fun (_ : Unit) => some (-1 : Int)) k (0 : Int))
def slices_Index_Flow.h2 (k : Nat) {R : Type} (K : Ex → St κ → Option R) (vs : List AV) (bs : List (Blk κ)) : Option R :=
  match vs, bs with
  | [.v (.sl 0), .v (.ptr 1 0 0), .v (.int .i64 x2), .v (.int .i64 x3)], [qb0, .cells 85 [.int .i64 xc1_0, .int .i64 xc1_1, .int .i64 xc1_2]] => (asO 3 false qb0).bind fun xl0 => slices_Index_Flow.l2 k x2 xl0 xc1_0 xc1_1 xc1_2 (fun (z0 : Int) => K .ret (stOf [(4, [])] [.v (.int .i64 z0)] [.rows 3 false xl0])) (fun (_ : Unit) => K (.exit 0) (stOf [(4, [])] [.v .any] [.rows 3 false xl0])) k x3
  | _, _ => none
def slices_Index_Flow.Γ (k : Nat) : Ct κ := assoc []
def slices_Index_Flow.LH (k : Nat) : Nat → Option (LHi κ) := assoc [(2, ⟨1, [(0, [some 3]), (3, []), (7, []), (8, [])], [(4, [])], @slices_Index_Flow.h2 k⟩)]
theorem slices_Index_Flow.hΓ (k : Nat) : ∀ f g, slices_Index_Flow.Γ k f = some g → CSound Try.prog f g := G_nil
theorem slices_Index_Flow.e2 {R : Type} (K : Ex → St κ → Option R) (k : Nat) (x2 : Int) (xl0 : List T_impl_Flow) (xc1_0 : Int) (xc1_1 : Int) (xc1_2 : Int) : ∀ (n : Nat) (x3 : Int), loopN 1 (Code.den ti (slices_Index_Flow.Γ k) (slices_Index_Flow.LH k) (loopAt Try.f94 0)) [(0, [some 3]), (3, []), (7, []), (8, [])] [(4, [])] K n [.v (.sl 0), .v (.ptr 1 0 0), .v (.int .i64 x2), .v (.int .i64 x3)] [.rows 3 false xl0, .cells 85 [.int .i64 xc1_0, .int .i64 xc1_1, .int .i64 xc1_2]] = slices_Index_Flow.l2 k x2 xl0 xc1_0 xc1_1 xc1_2 (fun (z0 : Int) => K .ret (stOf [(4, [])] [.v (.int .i64 z0)] [.rows 3 false xl0])) (fun (_ : Unit) => K (.exit 0) (stOf [(4, [])] [.v .any] [.rows 3 false xl0])) n x3
  | 0, _ => rfl
  | n + 1, x3 => (show loopN 1 (Code.den ti (slices_Index_Flow.Γ k) (slices_Index_Flow.LH k) (loopAt Try.f94 0)) [(0, [some 3]), (3, []), (7, []), (8, [])] [(4, [])] K (n + 1) [.v (.sl 0), .v (.ptr 1 0 0), .v (.int .i64 x2), .v (.int .i64 x3)] [.rows 3 false xl0, .cells 85 [.int .i64 xc1_0, .int .i64 xc1_1, .int .i64 xc1_2]] = slices_Index_Flow.L2 k x2 xl0 xc1_0 xc1_1 xc1_2 (fun (z0 : Int) => K .ret (stOf [(4, [])] [.v (.int .i64 z0)] [.rows 3 false xl0])) (fun (_ : Unit) => K (.exit 0) (stOf [(4, [])] [.v .any] [.rows 3 false xl0])) (fun (x3' : Int) => loopN 1 (Code.den ti (slices_Index_Flow.Γ k) (slices_Index_Flow.LH k) (loopAt Try.f94 0)) [(0, [some 3]), (3, []), (7, []), (8, [])] [(4, [])] K n [.v (.sl 0), .v (.ptr 1 0 0), .v (.int .i64 x2), .v (.int .i64 x3')] [.rows 3 false xl0, .cells 85 [.int .i64 xc1_0, .int .i64 xc1_1, .int .i64 xc1_2]]) x3 by kernel_rfl).trans (congrArg (fun rec => slices_Index_Flow.L2 k x2 xl0 xc1_0 xc1_1 xc1_2 (fun (z0 : Int) => K .ret (stOf [(4, [])] [.v (.int .i64 z0)] [.rows 3 false xl0])) (fun (_ : Unit) => K (.exit 0) (stOf [(4, [])] [.v .any] [.rows 3 false xl0])) rec x3) (funext fun x3' => slices_Index_Flow.e2 K k x2 xl0 xc1_0 xc1_1 xc1_2 n x3'))
theorem slices_Index_Flow.q2 (k : Nat) {R : Type} (K : Ex → St κ → Option R) (vs : List AV) (bs : List (Blk κ)) (r : R) (h : slices_Index_Flow.h2 k K vs bs = some r) : ∃ n, loopN 1 (Code.den ti (slices_Index_Flow.Γ k) (slices_Index_Flow.LH k) (loopAt Try.f94 0)) [(0, [some 3]), (3, []), (7, []), (8, [])] [(4, [])] K n vs bs = some r := by
  unfold slices_Index_Flow.h2 at h
  split at h
  · obtain ⟨_, rfl, h_1⟩ := asO_bind h
    exact ⟨k, (slices_Index_Flow.e2 K k _ _ _ _ _ k _).trans h_1⟩
  · cases h
theorem slices_Index_Flow.lok (k : Nat) : LOK ti (slices_Index_Flow.Γ k) (slices_Index_Flow.LH k) 1 (loopsOf (bodyOf Try.f94)) :=
  (show loopsOf (bodyOf Try.f94) = [loopAt Try.f94 0] by kernel_rfl) ▸ (LOK_cons (g := ⟨1, [(0, [some 3]), (3, []), (7, []), (8, [])], [(4, [])], @slices_Index_Flow.h2 k⟩) (by kernel_rfl) rfl (fun K vs xs r h => slices_Index_Flow.q2 k K vs xs r h) (LOK_nil))
def slices_Index_Flow.sig : List PSh := [.one (.ro 3), .agg [.sc, .sc, .sc]]
def slices_Index_Flow.g (y : Int) : Ret κ := ⟨.v (.int .i64 y), [], []⟩
def slices_Index_Flow.out (r : Ret κ) : Option Int :=
  match r with
  | ⟨.v (.int .i64 z0), [], []⟩ => some (z0)
  | _ => none
theorem slices_Index_Flow.out_ok (r : Ret κ) (y : Int) (h : slices_Index_Flow.out r = some y) : r = slices_Index_Flow.g y := by
  unfold slices_Index_Flow.out at h
  split at h
  · obtain rfl := Option.some.inj h
    rfl
  · cases h
def slices_Index_Flow.body (k : Nat) (vs : List AV) (bs : List (Blk κ)) : Option (Lf κ) :=
  match vs, bs with
  | [.v (.sl 0), .agg [.int .i64 a1_0, .int .i64 a1_1, .int .i64 a1_2]], [qb0] => (asO 3 false qb0).bind fun a0 => some ⟨Int, slices_Index_Flow.f k a0 a1_0 a1_1 a1_2, slices_Index_Flow.g⟩
  | _, _ => none
def slices_Index_Flow.C (k : Nat) : Nat → List AV → AP κ AV := contract slices_Index_Flow.sig (slices_Index_Flow.body k)
theorem slices_Index_Flow.den (k : Nat) (a0 : List T_impl_Flow) (a1_0 : Int) (a1_1 : Int) (a1_2 : Int) : Code.den ti (slices_Index_Flow.Γ k) (slices_Index_Flow.LH k) (bodyOf Try.f94) (finK ti Try.f94.results.toList [] (flags slices_Index_Flow.sig).length (rwI (flags slices_Index_Flow.sig) 0) slices_Index_Flow.out) ⟨envOf (([.v (.sl 0), .agg [.int .i64 a1_0, .int .i64 a1_1, .int .i64 a1_2]]).zipIdx.map fun q => (q.2, q.1)), hpOf [.rows 3 false a0], (flags slices_Index_Flow.sig).length⟩ = slices_Index_Flow.f k a0 a1_0 a1_1 a1_2 := by kernel_rfl
theorem slices_Index_Flow.ok (k : Nat) : CSound Try.prog 94 (slices_Index_Flow.C k) :=
  csound κ_ok mixed tok (slices_Index_Flow.hΓ k) (LH := slices_Index_Flow.LH k) (fn := Try.f94) (c := bodyOf Try.f94) Try.func94 rfl Try.call94 slices_Index_Flow.sig [] (slices_Index_Flow.body k) (by kernel_rfl) (slices_Index_Flow.lok k) (by decide) fun vs bs lf y hl hb hy => by
    unfold slices_Index_Flow.body at hb
    split at hb
    · obtain ⟨_, rfl, hb_1⟩ := asO_bind hb
      obtain rfl := Option.some.inj hb_1
      exact ⟨slices_Index_Flow.out, slices_Index_Flow.out_ok, (slices_Index_Flow.den k _ _ _ _).trans hy⟩
    · cases hb
/-! ### slices_Contains_Flow -/
def slices_Contains_Flow.f (k : Nat) (a0 : List T_impl_Flow) (a1_0 : Int) (a1_1 : Int) (a1_2 : Int) : Option Bool :=
  (slices_Index_Flow.f k a0 a1_0 a1_1 a1_2).bind fun t1 => some (decide (t1 ≥ (0 : Int)))
def slices_Contains_Flow.Γ (k : Nat) : Ct κ := assoc [(94, slices_Index_Flow.C k)]
def slices_Contains_Flow.LH (k : Nat) : Nat → Option (LHi κ) := assoc []
theorem slices_Contains_Flow.hΓ (k : Nat) : ∀ f g, slices_Contains_Flow.Γ k f = some g → CSound Try.prog f g := G_cons (slices_Index_Flow.ok k) G_nil
theorem slices_Contains_Flow.lok (k : Nat) : LOK ti (slices_Contains_Flow.Γ k) (slices_Contains_Flow.LH k) 1 (loopsOf (bodyOf Try.f67)) :=
  (show loopsOf (bodyOf Try.f67) = [] by kernel_rfl) ▸ LOK_nil
def slices_Contains_Flow.sig : List PSh := [.one (.ro 3), .agg [.sc, .sc, .sc]]
def slices_Contains_Flow.g (y : Bool) : Ret κ := ⟨.v (.bool y), [], []⟩
def slices_Contains_Flow.out (r : Ret κ) : Option Bool :=
  match r with
  | ⟨.v (.bool z0), [], []⟩ => some (z0)
  | _ => none
theorem slices_Contains_Flow.out_ok (r : Ret κ) (y : Bool) (h : slices_Contains_Flow.out r = some y) : r = slices_Contains_Flow.g y := by
  unfold slices_Contains_Flow.out at h
  split at h
  · obtain rfl := Option.some.inj h
    rfl
  · cases h
def slices_Contains_Flow.body (k : Nat) (vs : List AV) (bs : List (Blk κ)) : Option (Lf κ) :=
  match vs, bs with
  | [.v (.sl 0), .agg [.int .i64 a1_0, .int .i64 a1_1, .int .i64 a1_2]], [qb0] => (asO 3 false qb0).bind fun a0 => some ⟨Bool, slices_Contains_Flow.f k a0 a1_0 a1_1 a1_2, slices_Contains_Flow.g⟩
  | _, _ => none
def slices_Contains_Flow.C (k : Nat) : Nat → List AV → AP κ AV := contract slices_Contains_Flow.sig (slices_Contains_Flow.body k)
theorem slices_Contains_Flow.den (k : Nat) (a0 : List T_impl_Flow) (a1_0 : Int) (a1_1 : Int) (a1_2 : Int) : Code.den ti (slices_Contains_Flow.Γ k) (slices_Contains_Flow.LH k) (bodyOf Try.f67) (finK ti Try.f67.results.toList [] (flags slices_Contains_Flow.sig).length (rwI (flags slices_Contains_Flow.sig) 0) slices_Contains_Flow.out) ⟨envOf (([.v (.sl 0), .agg [.int .i64 a1_0, .int .i64 a1_1, .int .i64 a1_2]]).zipIdx.map fun q => (q.2, q.1)), hpOf [.rows 3 false a0], (flags slices_Contains_Flow.sig).length⟩ = slices_Contains_Flow.f k a0 a1_0 a1_1 a1_2 := by kernel_rfl
theorem slices_Contains_Flow.ok (k : Nat) : CSound Try.prog 67 (slices_Contains_Flow.C k) :=
  csound κ_ok mixed tok (slices_Contains_Flow.hΓ k) (LH := slices_Contains_Flow.LH k) (fn := Try.f67) (c := bodyOf Try.f67) Try.func67 rfl Try.call67 slices_Contains_Flow.sig [] (slices_Contains_Flow.body k) (by kernel_rfl) (slices_Contains_Flow.lok k) (by decide) fun vs bs lf y hl hb hy => by
    unfold slices_Contains_Flow.body at hb
    split at hb
    · obtain ⟨_, rfl, hb_1⟩ := asO_bind hb
      obtain rfl := Option.some.inj hb_1
      exact ⟨slices_Contains_Flow.out, slices_Contains_Flow.out_ok, (slices_Contains_Flow.den k _ _ _ _).trans hy⟩
    · cases hb
/-! ### impl_MayFlow -/
def impl_MayFlow.L4 {R : Type} (k : Nat) (x1 : Int) (x2 : Int) (x4 : Int) (xl0 : List T_impl_Flow) (xl1 : List Int) (X0 : Bool → Option R) (X1 : Unit → Option R) (rec : Int → Option R) (x5 : Int) : Option R :=
  (bif decide (x5 < x4) then (bif decide (0 ≤ x5) then (bif decide (x5 < (xl1.length : Int)) then (bif ((rd_i64 xl1 x5) != x2) then (impl_IsFlow.f k x1 (rd_i64 xl1 x5) x2).bind fun t4 => (bif !t4 then (X0 false) else (slices_Contains_Flow.f k xl0 x1 (rd_i64 xl1 x5) x2).bind fun t5 => (bif !t5 then (X0 false) else (rec (w64 (x5 + (1 : Int)))))) else (rec (w64 (x5 + (1 : Int))))) else none) else none) else (X1 ()))
def impl_MayFlow.l4 {R : Type} (k : Nat) (x1 : Int) (x2 : Int) (x4 : Int) (xl0 : List T_impl_Flow) (xl1 : List Int) (X0 : Bool → Option R) (X1 : Unit → Option R) : Nat → Int → Option R
  | 0 => fun _ => none
  | n + 1 => impl_MayFlow.L4 k x1 x2 x4 xl0 xl1 X0 X1 (impl_MayFlow.l4 k x1 x2 x4 xl0 xl1 X0 X1 n)
def impl_MayFlow.f (k : Nat) (a0 : List T_impl_Flow) (a1 : Int) (a2 : Int) (a3 : Int) : Option Bool :=
  (impl_IsLabel.f k a2).bind fun t1 => (bif !t1 then some false else (impl_InRange.f k a3 (1 : Int) (9 : Int)).bind fun t2 => (bif !t2 then some false else (impl_OwnersIn.f k a2).bind fun t3 => (impl_MayFlow.l4 k a1 a3 (t3.length : Int) a0 t3 (fun (y6 : Bool) => some y6) (fun (_ : Unit) => some true) k (0 : Int))))
def impl_MayFlow.h4 (k : Nat) {R : Type} (K : Ex → St κ → Option R) (vs : List AV) (bs : List (Blk κ)) : Option R :=
  match vs, bs with
  | [.v (.sl 0), .v (.int .i64 x1), .v (.int .i64 x2), .v (.sl 1), .v (.int .i64 x4), .v (.int .i64 x5)], [qb0, qb1] => (asO 3 false qb0).bind fun xl0 => (asO 2 true qb1).bind fun xl1 => impl_MayFlow.l4 k x1 x2 x4 xl0 xl1 (fun (z0 : Bool) => K .ret (stOf [(8, [])] [.v (.bool z0)] [.rows 3 false xl0])) (fun (_ : Unit) => K (.exit 0) (stOf [(8, [])] [.v .any] [.rows 3 false xl0])) k x5
  | _, _ => none
def impl_MayFlow.Γ (k : Nat) : Ct κ := assoc [(27, impl_IsLabel.C k), (68, impl_InRange.C k), (66, impl_OwnersIn.C k), (69, impl_IsFlow.C k), (67, slices_Contains_Flow.C k)]
def impl_MayFlow.LH (k : Nat) : Nat → Option (LHi κ) := assoc [(4, ⟨1, [(0, [some 3]), (1, []), (3, []), (21, [some 2]), (22, []), (23, [])], [(8, [])], @impl_MayFlow.h4 k⟩)]
theorem impl_MayFlow.hΓ (k : Nat) : ∀ f g, impl_MayFlow.Γ k f = some g → CSound Try.prog f g := G_cons (impl_IsLabel.ok k) (G_cons (impl_InRange.ok k) (G_cons (impl_OwnersIn.ok k) (G_cons (impl_IsFlow.ok k) (G_cons (slices_Contains_Flow.ok k) G_nil))))
theorem impl_MayFlow.e4 {R : Type} (K : Ex → St κ → Option R) (k : Nat) (x1 : Int) (x2 : Int) (x4 : Int) (xl0 : List T_impl_Flow) (xl1 : List Int) : ∀ (n : Nat) (x5 : Int), loopN 1 (Code.den ti (impl_MayFlow.Γ k) (impl_MayFlow.LH k) (loopAt Try.f26 0)) [(0, [some 3]), (1, []), (3, []), (21, [some 2]), (22, []), (23, [])] [(8, [])] K n [.v (.sl 0), .v (.int .i64 x1), .v (.int .i64 x2), .v (.sl 1), .v (.int .i64 x4), .v (.int .i64 x5)] [.rows 3 false xl0, .rows 2 true xl1] = impl_MayFlow.l4 k x1 x2 x4 xl0 xl1 (fun (z0 : Bool) => K .ret (stOf [(8, [])] [.v (.bool z0)] [.rows 3 false xl0])) (fun (_ : Unit) => K (.exit 0) (stOf [(8, [])] [.v .any] [.rows 3 false xl0])) n x5
  | 0, _ => rfl
  | n + 1, x5 => (show loopN 1 (Code.den ti (impl_MayFlow.Γ k) (impl_MayFlow.LH k) (loopAt Try.f26 0)) [(0, [some 3]), (1, []), (3, []), (21, [some 2]), (22, []), (23, [])] [(8, [])] K (n + 1) [.v (.sl 0), .v (.int .i64 x1), .v (.int .i64 x2), .v (.sl 1), .v (.int .i64 x4), .v (.int .i64 x5)] [.rows 3 false xl0, .rows 2 true xl1] = impl_MayFlow.L4 k x1 x2 x4 xl0 xl1 (fun (z0 : Bool) => K .ret (stOf [(8, [])] [.v (.bool z0)] [.rows 3 false xl0])) (fun (_ : Unit) => K (.exit 0) (stOf [(8, [])] [.v .any] [.rows 3 false xl0])) (fun (x5' : Int) => loopN 1 (Code.den ti (impl_MayFlow.Γ k) (impl_MayFlow.LH k) (loopAt Try.f26 0)) [(0, [some 3]), (1, []), (3, []), (21, [some 2]), (22, []), (23, [])] [(8, [])] K n [.v (.sl 0), .v (.int .i64 x1), .v (.int .i64 x2), .v (.sl 1), .v (.int .i64 x4), .v (.int .i64 x5')] [.rows 3 false xl0, .rows 2 true xl1]) x5 by kernel_rfl).trans (congrArg (fun rec => impl_MayFlow.L4 k x1 x2 x4 xl0 xl1 (fun (z0 : Bool) => K .ret (stOf [(8, [])] [.v (.bool z0)] [.rows 3 false xl0])) (fun (_ : Unit) => K (.exit 0) (stOf [(8, [])] [.v .any] [.rows 3 false xl0])) rec x5) (funext fun x5' => impl_MayFlow.e4 K k x1 x2 x4 xl0 xl1 n x5'))
theorem impl_MayFlow.q4 (k : Nat) {R : Type} (K : Ex → St κ → Option R) (vs : List AV) (bs : List (Blk κ)) (r : R) (h : impl_MayFlow.h4 k K vs bs = some r) : ∃ n, loopN 1 (Code.den ti (impl_MayFlow.Γ k) (impl_MayFlow.LH k) (loopAt Try.f26 0)) [(0, [some 3]), (1, []), (3, []), (21, [some 2]), (22, []), (23, [])] [(8, [])] K n vs bs = some r := by
  unfold impl_MayFlow.h4 at h
  split at h
  · obtain ⟨_, rfl, h_1⟩ := asO_bind h
    obtain ⟨_, rfl, h_2⟩ := asO_bind h_1
    exact ⟨k, (impl_MayFlow.e4 K k _ _ _ _ _ k _).trans h_2⟩
  · cases h
theorem impl_MayFlow.lok (k : Nat) : LOK ti (impl_MayFlow.Γ k) (impl_MayFlow.LH k) 1 (loopsOf (bodyOf Try.f26)) :=
  (show loopsOf (bodyOf Try.f26) = [loopAt Try.f26 0] by kernel_rfl) ▸ (LOK_cons (g := ⟨1, [(0, [some 3]), (1, []), (3, []), (21, [some 2]), (22, []), (23, [])], [(8, [])], @impl_MayFlow.h4 k⟩) (by kernel_rfl) rfl (fun K vs xs r h => impl_MayFlow.q4 k K vs xs r h) (LOK_nil))
def impl_MayFlow.sig : List PSh := [.one (.ro 3), .one .sc, .one .sc, .one .sc]
def impl_MayFlow.g (y : Bool) : Ret κ := ⟨.v (.bool y), [], []⟩
def impl_MayFlow.out (r : Ret κ) : Option Bool :=
  match r with
  | ⟨.v (.bool z0), [], []⟩ => some (z0)
  | _ => none
theorem impl_MayFlow.out_ok (r : Ret κ) (y : Bool) (h : impl_MayFlow.out r = some y) : r = impl_MayFlow.g y := by
  unfold impl_MayFlow.out at h
  split at h
  · obtain rfl := Option.some.inj h
    rfl
  · cases h
def impl_MayFlow.body (k : Nat) (vs : List AV) (bs : List (Blk κ)) : Option (Lf κ) :=
  match vs, bs with
  | [.v (.sl 0), .v (.int .i64 a1), .v (.int .i64 a2), .v (.int .i64 a3)], [qb0] => (asO 3 false qb0).bind fun a0 => some ⟨Bool, impl_MayFlow.f k a0 a1 a2 a3, impl_MayFlow.g⟩
  | _, _ => none
def impl_MayFlow.C (k : Nat) : Nat → List AV → AP κ AV := contract impl_MayFlow.sig (impl_MayFlow.body k)
theorem impl_MayFlow.den (k : Nat) (a0 : List T_impl_Flow) (a1 : Int) (a2 : Int) (a3 : Int) : Code.den ti (impl_MayFlow.Γ k) (impl_MayFlow.LH k) (bodyOf Try.f26) (finK ti Try.f26.results.toList [] (flags impl_MayFlow.sig).length (rwI (flags impl_MayFlow.sig) 0) impl_MayFlow.out) ⟨envOf (([.v (.sl 0), .v (.int .i64 a1), .v (.int .i64 a2), .v (.int .i64 a3)]).zipIdx.map fun q => (q.2, q.1)), hpOf [.rows 3 false a0], (flags impl_MayFlow.sig).length⟩ = impl_MayFlow.f k a0 a1 a2 a3 := by kernel_rfl
theorem impl_MayFlow.ok (k : Nat) : CSound Try.prog 26 (impl_MayFlow.C k) :=
  csound κ_ok mixed tok (impl_MayFlow.hΓ k) (LH := impl_MayFlow.LH k) (fn := Try.f26) (c := bodyOf Try.f26) Try.func26 rfl Try.call26 impl_MayFlow.sig [] (impl_MayFlow.body k) (by kernel_rfl) (impl_MayFlow.lok k) (by decide) fun vs bs lf y hl hb hy => by
    unfold impl_MayFlow.body at hb
    split at hb
    · obtain ⟨_, rfl, hb_1⟩ := asO_bind hb
      obtain rfl := Option.some.inj hb_1
      exact ⟨impl_MayFlow.out, impl_MayFlow.out_ok, (impl_MayFlow.den k _ _ _ _).trans hy⟩
    · cases hb
/-! ### impl_RunOps -/
def impl_RunOps.L6 {R : Type} (k : Nat) (x1 : Int) (x4 : Int) (xl0 : List T_impl_Op) (xl1 : List Int) (xl2 : List T_impl_Flow) (xl4 : List T_impl_Sent) (X0 : List T_impl_Sent → Option R) (rec : Int → List T_impl_Sent → Option R) (x5 : Int) (xl3 : List T_impl_Sent) : Option R :=
  (bif decide (x5 < x4) then (bif decide (0 ≤ x5) then (bif decide (x5 < (xl4.length : Int)) then (impl_MayFlow.f k xl2 x1 ((rd_impl_Sent xl4 x5).f2) ((rd_impl_Sent xl4 x5).f0)).bind fun t3 => (bif t3 then (bif decide ((xl3.length + ([(⟨(rd_impl_Sent xl4 x5).f0, (rd_impl_Sent xl4 x5).f1, (rd_impl_Sent xl4 x5).f2⟩ : T_impl_Sent)] : List T_impl_Sent).length) * 24 ≤ cap48) then (let l4 : List T_impl_Sent := (xl3 ++ ([(⟨(rd_impl_Sent xl4 x5).f0, (rd_impl_Sent xl4 x5).f1, (rd_impl_Sent xl4 x5).f2⟩ : T_impl_Sent)] : List T_impl_Sent)); (rec (w64 (x5 + (1 : Int))) l4)) else none) else (rec (w64 (x5 + (1 : Int))) xl3)) else none) else none) else (X0 xl3))
def impl_RunOps.l6 {R : Type} (k : Nat) (x1 : Int) (x4 : Int) (xl0 : List T_impl_Op) (xl1 : List Int) (xl2 : List T_impl_Flow) (xl4 : List T_impl_Sent) (X0 : List T_impl_Sent → Option R) : Nat → Int → List T_impl_Sent → Option R
  | 0 => fun _ _ => none
  | n + 1 => impl_RunOps.L6 k x1 x4 xl0 xl1 xl2 xl4 X0 (impl_RunOps.l6 k x1 x4 xl0 xl1 xl2 xl4 X0 n)
def impl_RunOps.f (k : Nat) (a0 : List T_impl_Op) (a1 : List Int) (a2 : List T_impl_Flow) (a3 : Int) : Option (List T_impl_Sent) :=
  (impl_AreOps.f k a0).bind fun t1 => (bif !t1 then some ([] : List T_impl_Sent) else (impl_executed.f k a0 a1).bind fun t2 => (impl_RunOps.l6 k a3 (t2.1.length : Int) a0 a1 a2 t2.1 (fun (y5 : List T_impl_Sent) => some y5) k (0 : Int) ([] : List T_impl_Sent)))
def impl_RunOps.h6 (k : Nat) {R : Type} (K : Ex → St κ → Option R) (vs : List AV) (bs : List (Blk κ)) : Option R :=
  match vs, bs with
  | [.v (.sl 2), .v (.int .i64 x1), .v (.sl 3), .v (.sl 4), .v (.int .i64 x4), .v (.int .i64 x5)], [qb0, qb1, qb2, qb3, qb4] => (asO 1 false qb0).bind fun xl0 => (asO 2 false qb1).bind fun xl1 => (asO 3 false qb2).bind fun xl2 => (asO 4 true qb3).bind fun xl3 => (asO 4 true qb4).bind fun xl4 => impl_RunOps.l6 k x1 x4 xl0 xl1 xl2 xl4 (fun (zl3 : List T_impl_Sent) => K (.exit 0) (stOf [(9, [some 4])] [.v (.sl 3)] [.rows 1 false xl0, .rows 2 false xl1, .rows 3 false xl2, .rows 4 true zl3])) k x5 xl3
  | _, _ => none
def impl_RunOps.Γ (k : Nat) : Ct κ := assoc [(23, impl_AreOps.C k), (57, impl_executed.C k), (26, impl_MayFlow.C k)]
def impl_RunOps.LH (k : Nat) : Nat → Option (LHi κ) := assoc [(6, ⟨3, [(2, [some 3]), (3, []), (9, [some 4]), (25, [some 4]), (26, []), (27, [])], [(9, [some 4])], @impl_RunOps.h6 k⟩)]
theorem impl_RunOps.hΓ (k : Nat) : ∀ f g, impl_RunOps.Γ k f = some g → CSound Try.prog f g := G_cons (impl_AreOps.ok k) (G_cons (impl_executed.ok k) (G_cons (impl_MayFlow.ok k) G_nil))
theorem impl_RunOps.e6 {R : Type} (K : Ex → St κ → Option R) (k : Nat) (x1 : Int) (x4 : Int) (xl0 : List T_impl_Op) (xl1 : List Int) (xl2 : List T_impl_Flow) (xl4 : List T_impl_Sent) : ∀ (n : Nat) (x5 : Int) (xl3 : List T_impl_Sent), loopN 3 (Code.den ti (impl_RunOps.Γ k) (impl_RunOps.LH k) (loopAt Try.f22 0)) [(2, [some 3]), (3, []), (9, [some 4]), (25, [some 4]), (26, []), (27, [])] [(9, [some 4])] K n [.v (.sl 2), .v (.int .i64 x1), .v (.sl 3), .v (.sl 4), .v (.int .i64 x4), .v (.int .i64 x5)] [.rows 1 false xl0, .rows 2 false xl1, .rows 3 false xl2, .rows 4 true xl3, .rows 4 true xl4] = impl_RunOps.l6 k x1 x4 xl0 xl1 xl2 xl4 (fun (zl3 : List T_impl_Sent) => K (.exit 0) (stOf [(9, [some 4])] [.v (.sl 3)] [.rows 1 false xl0, .rows 2 false xl1, .rows 3 false xl2, .rows 4 true zl3])) n x5 xl3
  | 0, _, _ => rfl
  | n + 1, x5, xl3 => (show loopN 3 (Code.den ti (impl_RunOps.Γ k) (impl_RunOps.LH k) (loopAt Try.f22 0)) [(2, [some 3]), (3, []), (9, [some 4]), (25, [some 4]), (26, []), (27, [])] [(9, [some 4])] K (n + 1) [.v (.sl 2), .v (.int .i64 x1), .v (.sl 3), .v (.sl 4), .v (.int .i64 x4), .v (.int .i64 x5)] [.rows 1 false xl0, .rows 2 false xl1, .rows 3 false xl2, .rows 4 true xl3, .rows 4 true xl4] = impl_RunOps.L6 k x1 x4 xl0 xl1 xl2 xl4 (fun (zl3 : List T_impl_Sent) => K (.exit 0) (stOf [(9, [some 4])] [.v (.sl 3)] [.rows 1 false xl0, .rows 2 false xl1, .rows 3 false xl2, .rows 4 true zl3])) (fun (x5' : Int) (xl3' : List T_impl_Sent) => loopN 3 (Code.den ti (impl_RunOps.Γ k) (impl_RunOps.LH k) (loopAt Try.f22 0)) [(2, [some 3]), (3, []), (9, [some 4]), (25, [some 4]), (26, []), (27, [])] [(9, [some 4])] K n [.v (.sl 2), .v (.int .i64 x1), .v (.sl 3), .v (.sl 4), .v (.int .i64 x4), .v (.int .i64 x5')] [.rows 1 false xl0, .rows 2 false xl1, .rows 3 false xl2, .rows 4 true xl3', .rows 4 true xl4]) x5 xl3 by kernel_rfl).trans (congrArg (fun rec => impl_RunOps.L6 k x1 x4 xl0 xl1 xl2 xl4 (fun (zl3 : List T_impl_Sent) => K (.exit 0) (stOf [(9, [some 4])] [.v (.sl 3)] [.rows 1 false xl0, .rows 2 false xl1, .rows 3 false xl2, .rows 4 true zl3])) rec x5 xl3) (funext fun x5' => funext fun xl3' => impl_RunOps.e6 K k x1 x4 xl0 xl1 xl2 xl4 n x5' xl3'))
theorem impl_RunOps.q6 (k : Nat) {R : Type} (K : Ex → St κ → Option R) (vs : List AV) (bs : List (Blk κ)) (r : R) (h : impl_RunOps.h6 k K vs bs = some r) : ∃ n, loopN 3 (Code.den ti (impl_RunOps.Γ k) (impl_RunOps.LH k) (loopAt Try.f22 0)) [(2, [some 3]), (3, []), (9, [some 4]), (25, [some 4]), (26, []), (27, [])] [(9, [some 4])] K n vs bs = some r := by
  unfold impl_RunOps.h6 at h
  split at h
  · obtain ⟨_, rfl, h_1⟩ := asO_bind h
    obtain ⟨_, rfl, h_2⟩ := asO_bind h_1
    obtain ⟨_, rfl, h_3⟩ := asO_bind h_2
    obtain ⟨_, rfl, h_4⟩ := asO_bind h_3
    obtain ⟨_, rfl, h_5⟩ := asO_bind h_4
    exact ⟨k, (impl_RunOps.e6 K k _ _ _ _ _ _ k _ _).trans h_5⟩
  · cases h
theorem impl_RunOps.lok (k : Nat) : LOK ti (impl_RunOps.Γ k) (impl_RunOps.LH k) 3 (loopsOf (bodyOf Try.f22)) :=
  (show loopsOf (bodyOf Try.f22) = [loopAt Try.f22 0] by kernel_rfl) ▸ (LOK_cons (g := ⟨3, [(2, [some 3]), (3, []), (9, [some 4]), (25, [some 4]), (26, []), (27, [])], [(9, [some 4])], @impl_RunOps.h6 k⟩) (by kernel_rfl) rfl (fun K vs xs r h => impl_RunOps.q6 k K vs xs r h) (LOK_nil))
def impl_RunOps.sig : List PSh := [.one (.ro 1), .one (.ro 2), .one (.ro 3), .one .sc]
def impl_RunOps.g (y : List T_impl_Sent) : Ret κ := ⟨.v (.sl 3), [], [.rows 4 true y]⟩
def impl_RunOps.out (r : Ret κ) : Option (List T_impl_Sent) :=
  match r with
  | ⟨.v (.sl 3), [], [q0]⟩ => (asO 4 true q0).bind fun z0 => some (z0)
  | _ => none
theorem impl_RunOps.out_ok (r : Ret κ) (y : List T_impl_Sent) (h : impl_RunOps.out r = some y) : r = impl_RunOps.g y := by
  unfold impl_RunOps.out at h
  split at h
  · obtain ⟨_, rfl, h_1⟩ := asO_bind h
    obtain rfl := Option.some.inj h_1
    rfl
  · cases h
def impl_RunOps.body (k : Nat) (vs : List AV) (bs : List (Blk κ)) : Option (Lf κ) :=
  match vs, bs with
  | [.v (.sl 0), .v (.sl 1), .v (.sl 2), .v (.int .i64 a3)], [qb0, qb1, qb2] => (asO 1 false qb0).bind fun a0 => (asO 2 false qb1).bind fun a1 => (asO 3 false qb2).bind fun a2 => some ⟨List T_impl_Sent, impl_RunOps.f k a0 a1 a2 a3, impl_RunOps.g⟩
  | _, _ => none
def impl_RunOps.C (k : Nat) : Nat → List AV → AP κ AV := contract impl_RunOps.sig (impl_RunOps.body k)
theorem impl_RunOps.den (k : Nat) (a0 : List T_impl_Op) (a1 : List Int) (a2 : List T_impl_Flow) (a3 : Int) : Code.den ti (impl_RunOps.Γ k) (impl_RunOps.LH k) (bodyOf Try.f22) (finK ti Try.f22.results.toList [(8, [some 4])] (flags impl_RunOps.sig).length (rwI (flags impl_RunOps.sig) 0) impl_RunOps.out) ⟨envOf (([.v (.sl 0), .v (.sl 1), .v (.sl 2), .v (.int .i64 a3)]).zipIdx.map fun q => (q.2, q.1)), hpOf [.rows 1 false a0, .rows 2 false a1, .rows 3 false a2], (flags impl_RunOps.sig).length⟩ = impl_RunOps.f k a0 a1 a2 a3 := by kernel_rfl
theorem impl_RunOps.ok (k : Nat) : CSound Try.prog 22 (impl_RunOps.C k) :=
  csound κ_ok mixed tok (impl_RunOps.hΓ k) (LH := impl_RunOps.LH k) (fn := Try.f22) (c := bodyOf Try.f22) Try.func22 rfl Try.call22 impl_RunOps.sig [(8, [some 4])] (impl_RunOps.body k) (by kernel_rfl) (impl_RunOps.lok k) (by decide) fun vs bs lf y hl hb hy => by
    unfold impl_RunOps.body at hb
    split at hb
    · obtain ⟨_, rfl, hb_1⟩ := asO_bind hb
      obtain ⟨_, rfl, hb_2⟩ := asO_bind hb_1
      obtain ⟨_, rfl, hb_3⟩ := asO_bind hb_2
      obtain rfl := Option.some.inj hb_3
      exact ⟨impl_RunOps.out, impl_RunOps.out_ok, (impl_RunOps.den k _ _ _ _).trans hy⟩
    · cases hb
end Go.Proofs.Ythjdecnheaifkaa.PFnPrograms
