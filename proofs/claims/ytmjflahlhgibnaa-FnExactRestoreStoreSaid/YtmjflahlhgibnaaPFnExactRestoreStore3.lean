/- What the functions that the law FnExactRestoreStore reaches come to; no conditions. -/
import Derived.Test.YtmjflahlhgibnaaPFnExactRestoreStore2
set_option linter.unusedVariables false
set_option maxRecDepth 100000
namespace Go.Proofs.Ytmjflahlhgibnaa.PFnExactRestoreStore
open Go Go.Eng Go.Proofs
/-! ### impl_InRange -/
def impl_InRange.f (k : Nat) (a0 : Int) (a1 : Int) (a2 : Int) : Option Bool :=
  (bif decide (a1 ≤ a0) then some (decide (a0 ≤ a2)) else some false)
def impl_InRange.Γ (k : Nat) : Ct κ := assoc []
def impl_InRange.LH (k : Nat) : Nat → Option (LHi κ) := assoc []
theorem impl_InRange.hΓ (k : Nat) : ∀ f g, impl_InRange.Γ k f = some g → CSound Try.prog f g := G_nil
theorem impl_InRange.lok (k : Nat) : LOK ti (impl_InRange.Γ k) (impl_InRange.LH k) 0 (loopsOf (bodyOf Try.f43)) :=
  (show loopsOf (bodyOf Try.f43) = [] by kernel_rfl) ▸ LOK_nil
def impl_InRange.sig : List PSh := [.one .sc, .one .sc, .one .sc]
def impl_InRange.g (y : Bool) : Ret κ := ⟨.v (.bool y), [], []⟩
def impl_InRange.out (r : Ret κ) : Option Bool :=
  match r with
  | ⟨.v (.bool z0), [], []⟩ => some (z0)
  | _ => none
theorem impl_InRange.out_ok (r : Ret κ) (y : Bool) (h : impl_InRange.out r = some y) : r = impl_InRange.g y := by
  unfold impl_InRange.out at h
  split at h
  · obtain rfl := Option.some.inj h
    rfl
  · cases h
def impl_InRange.body (k : Nat) (vs : List AV) (bs : List (Blk κ)) : Option (Lf κ) :=
  match vs, bs with
  | [.v (.int .i64 a0), .v (.int .i64 a1), .v (.int .i64 a2)], [] => some ⟨Bool, impl_InRange.f k a0 a1 a2, impl_InRange.g⟩
  | _, _ => none
def impl_InRange.C (k : Nat) : Nat → List AV → AP κ AV := contract impl_InRange.sig (impl_InRange.body k)
theorem impl_InRange.den (k : Nat) (a0 : Int) (a1 : Int) (a2 : Int) : Code.den ti (impl_InRange.Γ k) (impl_InRange.LH k) (bodyOf Try.f43) (finK ti Try.f43.results.toList [] (flags impl_InRange.sig).length (rwI (flags impl_InRange.sig) 0) impl_InRange.out) ⟨envOf (([.v (.int .i64 a0), .v (.int .i64 a1), .v (.int .i64 a2)]).zipIdx.map fun q => (q.2, q.1)), hpOf [], (flags impl_InRange.sig).length⟩ = impl_InRange.f k a0 a1 a2 := by kernel_rfl
theorem impl_InRange.ok (k : Nat) : CSound Try.prog 43 (impl_InRange.C k) :=
  csound κ_ok mixed tok (impl_InRange.hΓ k) (LH := impl_InRange.LH k) (fn := Try.f43) (c := bodyOf Try.f43) Try.func43 rfl Try.call43 impl_InRange.sig [] (impl_InRange.body k) (by kernel_rfl) (impl_InRange.lok k) (by decide) fun vs bs lf y hl hb hy => by
    unfold impl_InRange.body at hb
    split at hb
    · obtain rfl := Option.some.inj hb
      exact ⟨impl_InRange.out, impl_InRange.out_ok, (impl_InRange.den k _ _ _).trans hy⟩
    · cases hb
/-! ### cmp_isNaN_int -/
def cmp_isNaN_int.f (k : Nat) (a0 : Int) : Option Bool :=
  some (a0 != a0)
def cmp_isNaN_int.Γ (k : Nat) : Ct κ := assoc []
def cmp_isNaN_int.LH (k : Nat) : Nat → Option (LHi κ) := assoc []
theorem cmp_isNaN_int.hΓ (k : Nat) : ∀ f g, cmp_isNaN_int.Γ k f = some g → CSound Try.prog f g := G_nil
theorem cmp_isNaN_int.lok (k : Nat) : LOK ti (cmp_isNaN_int.Γ k) (cmp_isNaN_int.LH k) 0 (loopsOf (bodyOf Try.f92)) :=
  (show loopsOf (bodyOf Try.f92) = [] by kernel_rfl) ▸ LOK_nil
def cmp_isNaN_int.sig : List PSh := [.one .sc]
def cmp_isNaN_int.g (y : Bool) : Ret κ := ⟨.v (.bool y), [], []⟩
def cmp_isNaN_int.out (r : Ret κ) : Option Bool :=
  match r with
  | ⟨.v (.bool z0), [], []⟩ => some (z0)
  | _ => none
theorem cmp_isNaN_int.out_ok (r : Ret κ) (y : Bool) (h : cmp_isNaN_int.out r = some y) : r = cmp_isNaN_int.g y := by
  unfold cmp_isNaN_int.out at h
  split at h
  · obtain rfl := Option.some.inj h
    rfl
  · cases h
def cmp_isNaN_int.body (k : Nat) (vs : List AV) (bs : List (Blk κ)) : Option (Lf κ) :=
  match vs, bs with
  | [.v (.int .i64 a0)], [] => some ⟨Bool, cmp_isNaN_int.f k a0, cmp_isNaN_int.g⟩
  | _, _ => none
def cmp_isNaN_int.C (k : Nat) : Nat → List AV → AP κ AV := contract cmp_isNaN_int.sig (cmp_isNaN_int.body k)
theorem cmp_isNaN_int.den (k : Nat) (a0 : Int) : Code.den ti (cmp_isNaN_int.Γ k) (cmp_isNaN_int.LH k) (bodyOf Try.f92) (finK ti Try.f92.results.toList [] (flags cmp_isNaN_int.sig).length (rwI (flags cmp_isNaN_int.sig) 0) cmp_isNaN_int.out) ⟨envOf (([.v (.int .i64 a0)]).zipIdx.map fun q => (q.2, q.1)), hpOf [], (flags cmp_isNaN_int.sig).length⟩ = cmp_isNaN_int.f k a0 := by kernel_rfl
theorem cmp_isNaN_int.ok (k : Nat) : CSound Try.prog 92 (cmp_isNaN_int.C k) :=
  csound κ_ok mixed tok (cmp_isNaN_int.hΓ k) (LH := cmp_isNaN_int.LH k) (fn := Try.f92) (c := bodyOf Try.f92) Try.func92 rfl Try.call92 cmp_isNaN_int.sig [] (cmp_isNaN_int.body k) (by kernel_rfl) (cmp_isNaN_int.lok k) (by decide) fun vs bs lf y hl hb hy => by
    unfold cmp_isNaN_int.body at hb
    split at hb
    · obtain rfl := Option.some.inj hb
      exact ⟨cmp_isNaN_int.out, cmp_isNaN_int.out_ok, (cmp_isNaN_int.den k _).trans hy⟩
    · cases hb
/-! ### cmp_Compare_int -/
def cmp_Compare_int.f (k : Nat) (a0 : Int) (a1 : Int) : Option Int :=
  (cmp_isNaN_int.f k a0).bind fun t1 => (cmp_isNaN_int.f k a1).bind fun t2 => (bif t1 then (bif t2 then some (0 : Int) else some (-1 : Int)) else (bif t2 then some (1 : Int) else (bif decide (a0 < a1) then some (-1 : Int) else (bif decide (a0 > a1) then some (1 : Int) else some (0 : Int)))))
def cmp_Compare_int.Γ (k : Nat) : Ct κ := assoc [(92, cmp_isNaN_int.C k)]
def cmp_Compare_int.LH (k : Nat) : Nat → Option (LHi κ) := assoc []
theorem cmp_Compare_int.hΓ (k : Nat) : ∀ f g, cmp_Compare_int.Γ k f = some g → CSound Try.prog f g := G_cons (cmp_isNaN_int.ok k) G_nil
theorem cmp_Compare_int.lok (k : Nat) : LOK ti (cmp_Compare_int.Γ k) (cmp_Compare_int.LH k) 0 (loopsOf (bodyOf Try.f65)) :=
  (show loopsOf (bodyOf Try.f65) = [] by kernel_rfl) ▸ LOK_nil
def cmp_Compare_int.sig : List PSh := [.one .sc, .one .sc]
def cmp_Compare_int.g (y : Int) : Ret κ := ⟨.v (.int .i64 y), [], []⟩
def cmp_Compare_int.out (r : Ret κ) : Option Int :=
  match r with
  | ⟨.v (.int .i64 z0), [], []⟩ => some (z0)
  | _ => none
theorem cmp_Compare_int.out_ok (r : Ret κ) (y : Int) (h : cmp_Compare_int.out r = some y) : r = cmp_Compare_int.g y := by
  unfold cmp_Compare_int.out at h
  split at h
  · obtain rfl := Option.some.inj h
    rfl
  · cases h
def cmp_Compare_int.body (k : Nat) (vs : List AV) (bs : List (Blk κ)) : Option (Lf κ) :=
  match vs, bs with
  | [.v (.int .i64 a0), .v (.int .i64 a1)], [] => some ⟨Int, cmp_Compare_int.f k a0 a1, cmp_Compare_int.g⟩
  | _, _ => none
def cmp_Compare_int.C (k : Nat) : Nat → List AV → AP κ AV := contract cmp_Compare_int.sig (cmp_Compare_int.body k)
theorem cmp_Compare_int.den (k : Nat) (a0 : Int) (a1 : Int) : Code.den ti (cmp_Compare_int.Γ k) (cmp_Compare_int.LH k) (bodyOf Try.f65) (finK ti Try.f65.results.toList [] (flags cmp_Compare_int.sig).length (rwI (flags cmp_Compare_int.sig) 0) cmp_Compare_int.out) ⟨envOf (([.v (.int .i64 a0), .v (.int .i64 a1)]).zipIdx.map fun q => (q.2, q.1)), hpOf [], (flags cmp_Compare_int.sig).length⟩ = cmp_Compare_int.f k a0 a1 := by kernel_rfl
theorem cmp_Compare_int.ok (k : Nat) : CSound Try.prog 65 (cmp_Compare_int.C k) :=
  csound κ_ok mixed tok (cmp_Compare_int.hΓ k) (LH := cmp_Compare_int.LH k) (fn := Try.f65) (c := bodyOf Try.f65) Try.func65 rfl Try.call65 cmp_Compare_int.sig [] (cmp_Compare_int.body k) (by kernel_rfl) (cmp_Compare_int.lok k) (by decide) fun vs bs lf y hl hb hy => by
    unfold cmp_Compare_int.body at hb
    split at hb
    · obtain rfl := Option.some.inj hb
      exact ⟨cmp_Compare_int.out, cmp_Compare_int.out_ok, (cmp_Compare_int.den k _ _).trans hy⟩
    · cases hb
/-! ### cmp_Or_int -/
def cmp_Or_int.L3 {R : Type} (k : Nat) (x0 : Int) (x2 : Int) (xl0 : List Int) (X0 : Int → Option R) (X1 : Unit → Option R) (rec : Int → Option R) (x3 : Int) : Option R :=
  (bif decide (x3 < x2) then (bif decide (0 ≤ x3) then (bif decide (x3 < (xl0.length : Int)) then (bif ((rd_i64 xl0 x3) != x0) then (X0 (rd_i64 xl0 x3)) else (rec (w64 (x3 + (1 : Int))))) else none) else none) else (X1 ()))
def cmp_Or_int.l3 {R : Type} (k : Nat) (x0 : Int) (x2 : Int) (xl0 : List Int) (X0 : Int → Option R) (X1 : Unit → Option R) : Nat → Int → Option R
  | 0 => fun _ => none
  | n + 1 => cmp_Or_int.L3 k x0 x2 xl0 X0 X1 (cmp_Or_int.l3 k x0 x2 xl0 X0 X1 n)
def cmp_Or_int.f (k : Nat) (a0 : List Int) : Option Int :=
  (cmp_Or_int.l3 k (0 : Int) (a0.length : Int) a0 (fun (y1 : Int) => some y1) (fun (_ : Unit) => some (0 : Int)) k (0 : Int))
def cmp_Or_int.h3 (k : Nat) {R : Type} (K : Ex → St κ → Option R) (vs : List AV) (bs : List (Blk κ)) : Option R :=
  match vs, bs with
  | [.v (.int .i64 x0), .v (.sl 0), .v (.int .i64 x2), .v (.int .i64 x3)], [qb0] => (asO 10 false qb0).bind fun xl0 => cmp_Or_int.l3 k x0 x2 xl0 (fun (z0 : Int) => K .ret (stOf [(2, []), (3, [])] [.v (.int .i64 z0), .v (.int .i64 x0)] [.rows 10 false xl0])) (fun (_ : Unit) => K (.exit 0) (stOf [(2, []), (3, [])] [.v .any, .v (.int .i64 x0)] [.rows 10 false xl0])) k x3
  | _, _ => none
def cmp_Or_int.Γ (k : Nat) : Ct κ := assoc []
def cmp_Or_int.LH (k : Nat) : Nat → Option (LHi κ) := assoc [(3, ⟨1, [(3, []), (6, [some 10]), (7, []), (8, [])], [(2, []), (3, [])], @cmp_Or_int.h3 k⟩)]
theorem cmp_Or_int.hΓ (k : Nat) : ∀ f g, cmp_Or_int.Γ k f = some g → CSound Try.prog f g := G_nil
theorem cmp_Or_int.e3 {R : Type} (K : Ex → St κ → Option R) (k : Nat) (x0 : Int) (x2 : Int) (xl0 : List Int) : ∀ (n : Nat) (x3 : Int), loopN 1 (Code.den ti (cmp_Or_int.Γ k) (cmp_Or_int.LH k) (loopAt Try.f64 0)) [(3, []), (6, [some 10]), (7, []), (8, [])] [(2, []), (3, [])] K n [.v (.int .i64 x0), .v (.sl 0), .v (.int .i64 x2), .v (.int .i64 x3)] [.rows 10 false xl0] = cmp_Or_int.l3 k x0 x2 xl0 (fun (z0 : Int) => K .ret (stOf [(2, []), (3, [])] [.v (.int .i64 z0), .v (.int .i64 x0)] [.rows 10 false xl0])) (fun (_ : Unit) => K (.exit 0) (stOf [(2, []), (3, [])] [.v .any, .v (.int .i64 x0)] [.rows 10 false xl0])) n x3
  | 0, _ => rfl
  | n + 1, x3 => (show loopN 1 (Code.den ti (cmp_Or_int.Γ k) (cmp_Or_int.LH k) (loopAt Try.f64 0)) [(3, []), (6, [some 10]), (7, []), (8, [])] [(2, []), (3, [])] K (n + 1) [.v (.int .i64 x0), .v (.sl 0), .v (.int .i64 x2), .v (.int .i64 x3)] [.rows 10 false xl0] = cmp_Or_int.L3 k x0 x2 xl0 (fun (z0 : Int) => K .ret (stOf [(2, []), (3, [])] [.v (.int .i64 z0), .v (.int .i64 x0)] [.rows 10 false xl0])) (fun (_ : Unit) => K (.exit 0) (stOf [(2, []), (3, [])] [.v .any, .v (.int .i64 x0)] [.rows 10 false xl0])) (fun (x3' : Int) => loopN 1 (Code.den ti (cmp_Or_int.Γ k) (cmp_Or_int.LH k) (loopAt Try.f64 0)) [(3, []), (6, [some 10]), (7, []), (8, [])] [(2, []), (3, [])] K n [.v (.int .i64 x0), .v (.sl 0), .v (.int .i64 x2), .v (.int .i64 x3')] [.rows 10 false xl0]) x3 by kernel_rfl).trans (congrArg (fun rec => cmp_Or_int.L3 k x0 x2 xl0 (fun (z0 : Int) => K .ret (stOf [(2, []), (3, [])] [.v (.int .i64 z0), .v (.int .i64 x0)] [.rows 10 false xl0])) (fun (_ : Unit) => K (.exit 0) (stOf [(2, []), (3, [])] [.v .any, .v (.int .i64 x0)] [.rows 10 false xl0])) rec x3) (funext fun x3' => cmp_Or_int.e3 K k x0 x2 xl0 n x3'))
theorem cmp_Or_int.q3 (k : Nat) {R : Type} (K : Ex → St κ → Option R) (vs : List AV) (bs : List (Blk κ)) (r : R) (h : cmp_Or_int.h3 k K vs bs = some r) : ∃ n, loopN 1 (Code.den ti (cmp_Or_int.Γ k) (cmp_Or_int.LH k) (loopAt Try.f64 0)) [(3, []), (6, [some 10]), (7, []), (8, [])] [(2, []), (3, [])] K n vs bs = some r := by
  unfold cmp_Or_int.h3 at h
  split at h
  · obtain ⟨_, rfl, h_1⟩ := asO_bind h
    exact ⟨k, (cmp_Or_int.e3 K k _ _ _ k _).trans h_1⟩
  · cases h
theorem cmp_Or_int.lok (k : Nat) : LOK ti (cmp_Or_int.Γ k) (cmp_Or_int.LH k) 1 (loopsOf (bodyOf Try.f64)) :=
  (show loopsOf (bodyOf Try.f64) = [loopAt Try.f64 0] by kernel_rfl) ▸ (LOK_cons (g := ⟨1, [(3, []), (6, [some 10]), (7, []), (8, [])], [(2, []), (3, [])], @cmp_Or_int.h3 k⟩) (by kernel_rfl) rfl (fun K vs xs r h => cmp_Or_int.q3 k K vs xs r h) (LOK_nil))
def cmp_Or_int.sig : List PSh := [.one (.ro 10)]
def cmp_Or_int.g (y : Int) : Ret κ := ⟨.v (.int .i64 y), [], []⟩
def cmp_Or_int.out (r : Ret κ) : Option Int :=
  match r with
  | ⟨.v (.int .i64 z0), [], []⟩ => some (z0)
  | _ => none
theorem cmp_Or_int.out_ok (r : Ret κ) (y : Int) (h : cmp_Or_int.out r = some y) : r = cmp_Or_int.g y := by
  unfold cmp_Or_int.out at h
  split at h
  · obtain rfl := Option.some.inj h
    rfl
  · cases h
def cmp_Or_int.body (k : Nat) (vs : List AV) (bs : List (Blk κ)) : Option (Lf κ) :=
  match vs, bs with
  | [.v (.sl 0)], [qb0] => (asO 10 false qb0).bind fun a0 => some ⟨Int, cmp_Or_int.f k a0, cmp_Or_int.g⟩
  | _, _ => none
def cmp_Or_int.C (k : Nat) : Nat → List AV → AP κ AV := contract cmp_Or_int.sig (cmp_Or_int.body k)
theorem cmp_Or_int.den (k : Nat) (a0 : List Int) : Code.den ti (cmp_Or_int.Γ k) (cmp_Or_int.LH k) (bodyOf Try.f64) (finK ti Try.f64.results.toList [] (flags cmp_Or_int.sig).length (rwI (flags cmp_Or_int.sig) 0) cmp_Or_int.out) ⟨envOf (([.v (.sl 0)]).zipIdx.map fun q => (q.2, q.1)), hpOf [.rows 10 false a0], (flags cmp_Or_int.sig).length⟩ = cmp_Or_int.f k a0 := by kernel_rfl
theorem cmp_Or_int.ok (k : Nat) : CSound Try.prog 64 (cmp_Or_int.C k) :=
  csound κ_ok mixed tok (cmp_Or_int.hΓ k) (LH := cmp_Or_int.LH k) (fn := Try.f64) (c := bodyOf Try.f64) Try.func64 rfl Try.call64 cmp_Or_int.sig [] (cmp_Or_int.body k) (by kernel_rfl) (cmp_Or_int.lok k) (by decide) fun vs bs lf y hl hb hy => by
    unfold cmp_Or_int.body at hb
    split at hb
    · obtain ⟨_, rfl, hb_1⟩ := asO_bind hb
      obtain rfl := Option.some.inj hb_1
      exact ⟨cmp_Or_int.out, cmp_Or_int.out_ok, (cmp_Or_int.den k _).trans hy⟩
    · cases hb
/-! ### impl_compareStored -/
def impl_compareStored.f (k : Nat) (a0_0 : Int) (a0_1 : Int) (a0_2 : Int) (a0_3 : Int) (a1_0 : Int) (a1_1 : Int) (a1_2 : Int) (a1_3 : Int) : Option Int :=
  (cmp_Compare_int.f k a0_0 a1_0).bind fun t1 => (cmp_Compare_int.f k a0_1 a1_1).bind fun t2 => (cmp_Or_int.f k ([t1, t2] : List Int)).bind fun t3 => some t3
def impl_compareStored.Γ (k : Nat) : Ct κ := assoc [(65, cmp_Compare_int.C k), (64, cmp_Or_int.C k)]
def impl_compareStored.LH (k : Nat) : Nat → Option (LHi κ) := assoc []
theorem impl_compareStored.hΓ (k : Nat) : ∀ f g, impl_compareStored.Γ k f = some g → CSound Try.prog f g := G_cons (cmp_Compare_int.ok k) (G_cons (cmp_Or_int.ok k) G_nil)
theorem impl_compareStored.lok (k : Nat) : LOK ti (impl_compareStored.Γ k) (impl_compareStored.LH k) 0 (loopsOf (bodyOf Try.f44)) :=
  (show loopsOf (bodyOf Try.f44) = [] by kernel_rfl) ▸ LOK_nil
def impl_compareStored.sig : List PSh := [.agg [.sc, .sc, .sc, .sc], .agg [.sc, .sc, .sc, .sc]]
def impl_compareStored.g (y : Int) : Ret κ := ⟨.v (.int .i64 y), [], []⟩
def impl_compareStored.out (r : Ret κ) : Option Int :=
  match r with
  | ⟨.v (.int .i64 z0), [], []⟩ => some (z0)
  | _ => none
theorem impl_compareStored.out_ok (r : Ret κ) (y : Int) (h : impl_compareStored.out r = some y) : r = impl_compareStored.g y := by
  unfold impl_compareStored.out at h
  split at h
  · obtain rfl := Option.some.inj h
    rfl
  · cases h
def impl_compareStored.body (k : Nat) (vs : List AV) (bs : List (Blk κ)) : Option (Lf κ) :=
  match vs, bs with
  | [.agg [.int .i64 a0_0, .int .i64 a0_1, .int .i64 a0_2, .int .i64 a0_3], .agg [.int .i64 a1_0, .int .i64 a1_1, .int .i64 a1_2, .int .i64 a1_3]], [] => some ⟨Int, impl_compareStored.f k a0_0 a0_1 a0_2 a0_3 a1_0 a1_1 a1_2 a1_3, impl_compareStored.g⟩
  | _, _ => none
def impl_compareStored.C (k : Nat) : Nat → List AV → AP κ AV := contract impl_compareStored.sig (impl_compareStored.body k)
theorem impl_compareStored.den (k : Nat) (a0_0 : Int) (a0_1 : Int) (a0_2 : Int) (a0_3 : Int) (a1_0 : Int) (a1_1 : Int) (a1_2 : Int) (a1_3 : Int) : Code.den ti (impl_compareStored.Γ k) (impl_compareStored.LH k) (bodyOf Try.f44) (finK ti Try.f44.results.toList [] (flags impl_compareStored.sig).length (rwI (flags impl_compareStored.sig) 0) impl_compareStored.out) ⟨envOf (([.agg [.int .i64 a0_0, .int .i64 a0_1, .int .i64 a0_2, .int .i64 a0_3], .agg [.int .i64 a1_0, .int .i64 a1_1, .int .i64 a1_2, .int .i64 a1_3]]).zipIdx.map fun q => (q.2, q.1)), hpOf [], (flags impl_compareStored.sig).length⟩ = impl_compareStored.f k a0_0 a0_1 a0_2 a0_3 a1_0 a1_1 a1_2 a1_3 := by kernel_rfl
theorem impl_compareStored.ok (k : Nat) : CSound Try.prog 44 (impl_compareStored.C k) :=
  csound κ_ok mixed tok (impl_compareStored.hΓ k) (LH := impl_compareStored.LH k) (fn := Try.f44) (c := bodyOf Try.f44) Try.func44 rfl Try.call44 impl_compareStored.sig [] (impl_compareStored.body k) (by kernel_rfl) (impl_compareStored.lok k) (by decide) fun vs bs lf y hl hb hy => by
    unfold impl_compareStored.body at hb
    split at hb
    · obtain rfl := Option.some.inj hb
      exact ⟨impl_compareStored.out, impl_compareStored.out_ok, (impl_compareStored.den k _ _ _ _ _ _ _ _).trans hy⟩
    · cases hb
/-! ### impl_IsStore -/
def impl_IsStore.L4 {R : Type} (k : Nat) (x2 : Int) (xl0 : List T_impl_Stored) (X0 : Bool → Option R) (X1 : Unit → Option R) (rec : Int → Option R) (x3 : Int) : Option R :=
  (bif decide (x3 < x2) then (bif decide (0 ≤ x3) then (bif decide (x3 < (xl0.length : Int)) then (impl_InRange.f k ((rd_impl_Stored xl0 x3).f0) (1 : Int) (5 : Int)).bind fun t1 => (bif !t1 then (X0 false) else (impl_InRange.f k ((rd_impl_Stored xl0 x3).f1) (0 : Int) (9 : Int)).bind fun t2 => (bif !t2 then (X0 false) else (impl_InRange.f k ((rd_impl_Stored xl0 x3).f2) (0 : Int) (999 : Int)).bind fun t3 => (bif !t3 then (X0 false) else (impl_InRange.f k ((rd_impl_Stored xl0 x3).f3) (1 : Int) (999 : Int)).bind fun t4 => (bif !t4 then (X0 false) else (bif decide (x3 > (0 : Int)) then (bif decide (0 ≤ (w64 (x3 - (1 : Int)))) then (bif decide ((w64 (x3 - (1 : Int))) < (xl0.length : Int)) then (impl_compareStored.f k ((rd_impl_Stored xl0 (w64 (x3 - (1 : Int)))).f0) ((rd_impl_Stored xl0 (w64 (x3 - (1 : Int)))).f1) ((rd_impl_Stored xl0 (w64 (x3 - (1 : Int)))).f2) ((rd_impl_Stored xl0 (w64 (x3 - (1 : Int)))).f3) ((rd_impl_Stored xl0 x3).f0) ((rd_impl_Stored xl0 x3).f1) ((rd_impl_Stored xl0 x3).f2) ((rd_impl_Stored xl0 x3).f3)).bind fun t5 => (bif decide (t5 ≥ (0 : Int)) then (X0 false) else (rec (w64 (x3 + (1 : Int))))) else none) else none) else (rec (w64 (x3 + (1 : Int))))))))) else none) else none) else (X1 ()))
def impl_IsStore.l4 {R : Type} (k : Nat) (x2 : Int) (xl0 : List T_impl_Stored) (X0 : Bool → Option R) (X1 : Unit → Option R) : Nat → Int → Option R
  | 0 => fun _ => none
  | n + 1 => impl_IsStore.L4 k x2 xl0 X0 X1 (impl_IsStore.l4 k x2 xl0 X0 X1 n)
def impl_IsStore.f (k : Nat) (a0 : List T_impl_Stored) : Option Bool :=
  (bif decide ((a0.length : Int) > (24 : Int)) then some false else (impl_IsStore.l4 k (a0.length : Int) a0 (fun (y6 : Bool) => some y6) (fun (_ : Unit) => some true) k (0 : Int)))
def impl_IsStore.h4 (k : Nat) {R : Type} (K : Ex → St κ → Option R) (vs : List AV) (bs : List (Blk κ)) : Option R :=
  match vs, bs with
  | [.v (.sl 0), .v (.sl 0), .v (.int .i64 x2), .v (.int .i64 x3)], [qb0] => (asO 5 false qb0).bind fun xl0 => impl_IsStore.l4 k x2 xl0 (fun (z0 : Bool) => K .ret (stOf [(2, [])] [.v (.bool z0)] [.rows 5 false xl0])) (fun (_ : Unit) => K (.exit 0) (stOf [(2, [])] [.v .any] [.rows 5 false xl0])) k x3
  | _, _ => none
def impl_IsStore.Γ (k : Nat) : Ct κ := assoc [(43, impl_InRange.C k), (44, impl_compareStored.C k)]
def impl_IsStore.LH (k : Nat) : Nat → Option (LHi κ) := assoc [(4, ⟨1, [(0, [some 5]), (8, [some 5]), (9, []), (10, [])], [(2, [])], @impl_IsStore.h4 k⟩)]
theorem impl_IsStore.hΓ (k : Nat) : ∀ f g, impl_IsStore.Γ k f = some g → CSound Try.prog f g := G_cons (impl_InRange.ok k) (G_cons (impl_compareStored.ok k) G_nil)
theorem impl_IsStore.e4 {R : Type} (K : Ex → St κ → Option R) (k : Nat) (x2 : Int) (xl0 : List T_impl_Stored) : ∀ (n : Nat) (x3 : Int), loopN 1 (Code.den ti (impl_IsStore.Γ k) (impl_IsStore.LH k) (loopAt Try.f15 0)) [(0, [some 5]), (8, [some 5]), (9, []), (10, [])] [(2, [])] K n [.v (.sl 0), .v (.sl 0), .v (.int .i64 x2), .v (.int .i64 x3)] [.rows 5 false xl0] = impl_IsStore.l4 k x2 xl0 (fun (z0 : Bool) => K .ret (stOf [(2, [])] [.v (.bool z0)] [.rows 5 false xl0])) (fun (_ : Unit) => K (.exit 0) (stOf [(2, [])] [.v .any] [.rows 5 false xl0])) n x3
  | 0, _ => rfl
  | n + 1, x3 => (show loopN 1 (Code.den ti (impl_IsStore.Γ k) (impl_IsStore.LH k) (loopAt Try.f15 0)) [(0, [some 5]), (8, [some 5]), (9, []), (10, [])] [(2, [])] K (n + 1) [.v (.sl 0), .v (.sl 0), .v (.int .i64 x2), .v (.int .i64 x3)] [.rows 5 false xl0] = impl_IsStore.L4 k x2 xl0 (fun (z0 : Bool) => K .ret (stOf [(2, [])] [.v (.bool z0)] [.rows 5 false xl0])) (fun (_ : Unit) => K (.exit 0) (stOf [(2, [])] [.v .any] [.rows 5 false xl0])) (fun (x3' : Int) => loopN 1 (Code.den ti (impl_IsStore.Γ k) (impl_IsStore.LH k) (loopAt Try.f15 0)) [(0, [some 5]), (8, [some 5]), (9, []), (10, [])] [(2, [])] K n [.v (.sl 0), .v (.sl 0), .v (.int .i64 x2), .v (.int .i64 x3')] [.rows 5 false xl0]) x3 by kernel_rfl).trans (congrArg (fun rec => impl_IsStore.L4 k x2 xl0 (fun (z0 : Bool) => K .ret (stOf [(2, [])] [.v (.bool z0)] [.rows 5 false xl0])) (fun (_ : Unit) => K (.exit 0) (stOf [(2, [])] [.v .any] [.rows 5 false xl0])) rec x3) (funext fun x3' => impl_IsStore.e4 K k x2 xl0 n x3'))
theorem impl_IsStore.q4 (k : Nat) {R : Type} (K : Ex → St κ → Option R) (vs : List AV) (bs : List (Blk κ)) (r : R) (h : impl_IsStore.h4 k K vs bs = some r) : ∃ n, loopN 1 (Code.den ti (impl_IsStore.Γ k) (impl_IsStore.LH k) (loopAt Try.f15 0)) [(0, [some 5]), (8, [some 5]), (9, []), (10, [])] [(2, [])] K n vs bs = some r := by
  unfold impl_IsStore.h4 at h
  split at h
  · obtain ⟨_, rfl, h_1⟩ := asO_bind h
    exact ⟨k, (impl_IsStore.e4 K k _ _ k _).trans h_1⟩
  · cases h
theorem impl_IsStore.lok (k : Nat) : LOK ti (impl_IsStore.Γ k) (impl_IsStore.LH k) 1 (loopsOf (bodyOf Try.f15)) :=
  (show loopsOf (bodyOf Try.f15) = [loopAt Try.f15 0] by kernel_rfl) ▸ (LOK_cons (g := ⟨1, [(0, [some 5]), (8, [some 5]), (9, []), (10, [])], [(2, [])], @impl_IsStore.h4 k⟩) (by kernel_rfl) rfl (fun K vs xs r h => impl_IsStore.q4 k K vs xs r h) (LOK_nil))
def impl_IsStore.sig : List PSh := [.one (.ro 5)]
def impl_IsStore.g (y : Bool) : Ret κ := ⟨.v (.bool y), [], []⟩
def impl_IsStore.out (r : Ret κ) : Option Bool :=
  match r with
  | ⟨.v (.bool z0), [], []⟩ => some (z0)
  | _ => none
theorem impl_IsStore.out_ok (r : Ret κ) (y : Bool) (h : impl_IsStore.out r = some y) : r = impl_IsStore.g y := by
  unfold impl_IsStore.out at h
  split at h
  · obtain rfl := Option.some.inj h
    rfl
  · cases h
def impl_IsStore.body (k : Nat) (vs : List AV) (bs : List (Blk κ)) : Option (Lf κ) :=
  match vs, bs with
  | [.v (.sl 0)], [qb0] => (asO 5 false qb0).bind fun a0 => some ⟨Bool, impl_IsStore.f k a0, impl_IsStore.g⟩
  | _, _ => none
def impl_IsStore.C (k : Nat) : Nat → List AV → AP κ AV := contract impl_IsStore.sig (impl_IsStore.body k)
theorem impl_IsStore.den (k : Nat) (a0 : List T_impl_Stored) : Code.den ti (impl_IsStore.Γ k) (impl_IsStore.LH k) (bodyOf Try.f15) (finK ti Try.f15.results.toList [] (flags impl_IsStore.sig).length (rwI (flags impl_IsStore.sig) 0) impl_IsStore.out) ⟨envOf (([.v (.sl 0)]).zipIdx.map fun q => (q.2, q.1)), hpOf [.rows 5 false a0], (flags impl_IsStore.sig).length⟩ = impl_IsStore.f k a0 := by kernel_rfl
theorem impl_IsStore.ok (k : Nat) : CSound Try.prog 15 (impl_IsStore.C k) :=
  csound κ_ok mixed tok (impl_IsStore.hΓ k) (LH := impl_IsStore.LH k) (fn := Try.f15) (c := bodyOf Try.f15) Try.func15 rfl Try.call15 impl_IsStore.sig [] (impl_IsStore.body k) (by kernel_rfl) (impl_IsStore.lok k) (by decide) fun vs bs lf y hl hb hy => by
    unfold impl_IsStore.body at hb
    split at hb
    · obtain ⟨_, rfl, hb_1⟩ := asO_bind hb
      obtain rfl := Option.some.inj hb_1
      exact ⟨impl_IsStore.out, impl_IsStore.out_ok, (impl_IsStore.den k _).trans hy⟩
    · cases hb
/-! ### slices_Clone_Stored -/
def slices_Clone_Stored.f (k : Nat) (l : List T_impl_Stored) : Option (List T_impl_Stored) := cloneF 5 κ l
def slices_Clone_Stored.C (k : Nat) : Nat → List AV → AP κ AV := contract [.one (.ro 5)] (cloneB 5 κ)
theorem slices_Clone_Stored.ok (k : Nat) : CSound Try.prog 39 (slices_Clone_Stored.C k) :=
  clone_sound κ_ok mixed tok (fn := Try.f39) 5 Try.func39 rfl Try.call39 rfl rfl rfl rfl rfl rfl Try.underlying24 rfl (by kernel_rfl) (by kernel_rfl) (by kernel_rfl) rfl rfl rfl (fun l => by kernel_rfl) (fun q l => by cases q <;> kernel_rfl)
/-! ### impl_DropStored -/
def impl_DropStored.L3 {R : Type} (k : Nat) (x0 : Int) (x3 : Int) (xl0 : List T_impl_Stored) (X0 : List T_impl_Stored → Option R) (rec : Int → List T_impl_Stored → Option R) (x4 : Int) (xl1 : List T_impl_Stored) : Option R :=
  (bif decide (x4 < x3) then (bif decide (0 ≤ x4) then (bif decide (x4 < (xl0.length : Int)) then (bif ((rd_impl_Stored xl0 x4).f0 != x0) then (bif decide ((xl1.length + ([(⟨(rd_impl_Stored xl0 x4).f0, (rd_impl_Stored xl0 x4).f1, (rd_impl_Stored xl0 x4).f2, (rd_impl_Stored xl0 x4).f3⟩ : T_impl_Stored)] : List T_impl_Stored).length) * 32 ≤ cap48) then (let l1 : List T_impl_Stored := (xl1 ++ ([(⟨(rd_impl_Stored xl0 x4).f0, (rd_impl_Stored xl0 x4).f1, (rd_impl_Stored xl0 x4).f2, (rd_impl_Stored xl0 x4).f3⟩ : T_impl_Stored)] : List T_impl_Stored)); (rec (w64 (x4 + (1 : Int))) l1)) else none) else (rec (w64 (x4 + (1 : Int))) xl1)) else none) else none) else (X0 xl1))
def impl_DropStored.l3 {R : Type} (k : Nat) (x0 : Int) (x3 : Int) (xl0 : List T_impl_Stored) (X0 : List T_impl_Stored → Option R) : Nat → Int → List T_impl_Stored → Option R
  | 0 => fun _ _ => none
  | n + 1 => impl_DropStored.L3 k x0 x3 xl0 X0 (impl_DropStored.l3 k x0 x3 xl0 X0 n)
def impl_DropStored.f (k : Nat) (a0 : List T_impl_Stored) (a1 : Int) : Option (List T_impl_Stored) :=
  (impl_DropStored.l3 k a1 (a0.length : Int) a0 (fun (y2 : List T_impl_Stored) => some y2) k (0 : Int) ([] : List T_impl_Stored))
def impl_DropStored.h3 (k : Nat) {R : Type} (K : Ex → St κ → Option R) (vs : List AV) (bs : List (Blk κ)) : Option R :=
  match vs, bs with
  | [.v (.int .i64 x0), .v (.sl 1), .v (.sl 0), .v (.int .i64 x3), .v (.int .i64 x4)], [qb0, qb1] => (asO 5 false qb0).bind fun xl0 => (asO 5 true qb1).bind fun xl1 => impl_DropStored.l3 k x0 x3 xl0 (fun (zl1 : List T_impl_Stored) => K (.exit 0) (stOf [(5, [some 5])] [.v (.sl 1)] [.rows 5 false xl0, .rows 5 true zl1])) k x4 xl1
  | _, _ => none
def impl_DropStored.Γ (k : Nat) : Ct κ := assoc []
def impl_DropStored.LH (k : Nat) : Nat → Option (LHi κ) := assoc [(3, ⟨1, [(1, []), (5, [some 5]), (9, [some 5]), (10, []), (11, [])], [(5, [some 5])], @impl_DropStored.h3 k⟩)]
theorem impl_DropStored.hΓ (k : Nat) : ∀ f g, impl_DropStored.Γ k f = some g → CSound Try.prog f g := G_nil
theorem impl_DropStored.e3 {R : Type} (K : Ex → St κ → Option R) (k : Nat) (x0 : Int) (x3 : Int) (xl0 : List T_impl_Stored) : ∀ (n : Nat) (x4 : Int) (xl1 : List T_impl_Stored), loopN 1 (Code.den ti (impl_DropStored.Γ k) (impl_DropStored.LH k) (loopAt Try.f29 0)) [(1, []), (5, [some 5]), (9, [some 5]), (10, []), (11, [])] [(5, [some 5])] K n [.v (.int .i64 x0), .v (.sl 1), .v (.sl 0), .v (.int .i64 x3), .v (.int .i64 x4)] [.rows 5 false xl0, .rows 5 true xl1] = impl_DropStored.l3 k x0 x3 xl0 (fun (zl1 : List T_impl_Stored) => K (.exit 0) (stOf [(5, [some 5])] [.v (.sl 1)] [.rows 5 false xl0, .rows 5 true zl1])) n x4 xl1
  | 0, _, _ => rfl
  | n + 1, x4, xl1 => (show loopN 1 (Code.den ti (impl_DropStored.Γ k) (impl_DropStored.LH k) (loopAt Try.f29 0)) [(1, []), (5, [some 5]), (9, [some 5]), (10, []), (11, [])] [(5, [some 5])] K (n + 1) [.v (.int .i64 x0), .v (.sl 1), .v (.sl 0), .v (.int .i64 x3), .v (.int .i64 x4)] [.rows 5 false xl0, .rows 5 true xl1] = impl_DropStored.L3 k x0 x3 xl0 (fun (zl1 : List T_impl_Stored) => K (.exit 0) (stOf [(5, [some 5])] [.v (.sl 1)] [.rows 5 false xl0, .rows 5 true zl1])) (fun (x4' : Int) (xl1' : List T_impl_Stored) => loopN 1 (Code.den ti (impl_DropStored.Γ k) (impl_DropStored.LH k) (loopAt Try.f29 0)) [(1, []), (5, [some 5]), (9, [some 5]), (10, []), (11, [])] [(5, [some 5])] K n [.v (.int .i64 x0), .v (.sl 1), .v (.sl 0), .v (.int .i64 x3), .v (.int .i64 x4')] [.rows 5 false xl0, .rows 5 true xl1']) x4 xl1 by kernel_rfl).trans (congrArg (fun rec => impl_DropStored.L3 k x0 x3 xl0 (fun (zl1 : List T_impl_Stored) => K (.exit 0) (stOf [(5, [some 5])] [.v (.sl 1)] [.rows 5 false xl0, .rows 5 true zl1])) rec x4 xl1) (funext fun x4' => funext fun xl1' => impl_DropStored.e3 K k x0 x3 xl0 n x4' xl1'))
theorem impl_DropStored.q3 (k : Nat) {R : Type} (K : Ex → St κ → Option R) (vs : List AV) (bs : List (Blk κ)) (r : R) (h : impl_DropStored.h3 k K vs bs = some r) : ∃ n, loopN 1 (Code.den ti (impl_DropStored.Γ k) (impl_DropStored.LH k) (loopAt Try.f29 0)) [(1, []), (5, [some 5]), (9, [some 5]), (10, []), (11, [])] [(5, [some 5])] K n vs bs = some r := by
  unfold impl_DropStored.h3 at h
  split at h
  · obtain ⟨_, rfl, h_1⟩ := asO_bind h
    obtain ⟨_, rfl, h_2⟩ := asO_bind h_1
    exact ⟨k, (impl_DropStored.e3 K k _ _ _ k _ _).trans h_2⟩
  · cases h
theorem impl_DropStored.lok (k : Nat) : LOK ti (impl_DropStored.Γ k) (impl_DropStored.LH k) 1 (loopsOf (bodyOf Try.f29)) :=
  (show loopsOf (bodyOf Try.f29) = [loopAt Try.f29 0] by kernel_rfl) ▸ (LOK_cons (g := ⟨1, [(1, []), (5, [some 5]), (9, [some 5]), (10, []), (11, [])], [(5, [some 5])], @impl_DropStored.h3 k⟩) (by kernel_rfl) rfl (fun K vs xs r h => impl_DropStored.q3 k K vs xs r h) (LOK_nil))
def impl_DropStored.sig : List PSh := [.one (.ro 5), .one .sc]
def impl_DropStored.g (y : List T_impl_Stored) : Ret κ := ⟨.v (.sl 1), [], [.rows 5 true y]⟩
def impl_DropStored.out (r : Ret κ) : Option (List T_impl_Stored) :=
  match r with
  | ⟨.v (.sl 1), [], [q0]⟩ => (asO 5 true q0).bind fun z0 => some (z0)
  | _ => none
theorem impl_DropStored.out_ok (r : Ret κ) (y : List T_impl_Stored) (h : impl_DropStored.out r = some y) : r = impl_DropStored.g y := by
  unfold impl_DropStored.out at h
  split at h
  · obtain ⟨_, rfl, h_1⟩ := asO_bind h
    obtain rfl := Option.some.inj h_1
    rfl
  · cases h
def impl_DropStored.body (k : Nat) (vs : List AV) (bs : List (Blk κ)) : Option (Lf κ) :=
  match vs, bs with
  | [.v (.sl 0), .v (.int .i64 a1)], [qb0] => (asO 5 false qb0).bind fun a0 => some ⟨List T_impl_Stored, impl_DropStored.f k a0 a1, impl_DropStored.g⟩
  | _, _ => none
def impl_DropStored.C (k : Nat) : Nat → List AV → AP κ AV := contract impl_DropStored.sig (impl_DropStored.body k)
theorem impl_DropStored.den (k : Nat) (a0 : List T_impl_Stored) (a1 : Int) : Code.den ti (impl_DropStored.Γ k) (impl_DropStored.LH k) (bodyOf Try.f29) (finK ti Try.f29.results.toList [(4, [some 5])] (flags impl_DropStored.sig).length (rwI (flags impl_DropStored.sig) 0) impl_DropStored.out) ⟨envOf (([.v (.sl 0), .v (.int .i64 a1)]).zipIdx.map fun q => (q.2, q.1)), hpOf [.rows 5 false a0], (flags impl_DropStored.sig).length⟩ = impl_DropStored.f k a0 a1 := by kernel_rfl
theorem impl_DropStored.ok (k : Nat) : CSound Try.prog 29 (impl_DropStored.C k) :=
  csound κ_ok mixed tok (impl_DropStored.hΓ k) (LH := impl_DropStored.LH k) (fn := Try.f29) (c := bodyOf Try.f29) Try.func29 rfl Try.call29 impl_DropStored.sig [(4, [some 5])] (impl_DropStored.body k) (by kernel_rfl) (impl_DropStored.lok k) (by decide) fun vs bs lf y hl hb hy => by
    unfold impl_DropStored.body at hb
    split at hb
    · obtain ⟨_, rfl, hb_1⟩ := asO_bind hb
      obtain rfl := Option.some.inj hb_1
      exact ⟨impl_DropStored.out, impl_DropStored.out_ok, (impl_DropStored.den k _ _).trans hy⟩
    · cases hb
/-! ### slices_SortFunc_Stored -/
def slices_SortFunc_Stored.cf (x y : T_impl_Stored) : Int := bif decide (x.f0 < y.f0) then -1 else bif decide (x.f0 > y.f0) then 1 else bif decide (x.f1 < y.f1) then -1 else bif decide (x.f1 > y.f1) then 1 else 0
theorem slices_SortFunc_Stored.val (x y : T_impl_Stored) : impl_compareStored.f 9 x.f0 x.f1 x.f2 x.f3 y.f0 y.f1 y.f2 y.f3 = some (slices_SortFunc_Stored.cf x y) := by
  unfold impl_compareStored.f cmp_Compare_int.f slices_SortFunc_Stored.cf
  simp only [cmp_isNaN_int.f, bne_self_eq_false, Option.bind_some]
  cases decide (x.f0 < y.f0) <;> cases decide (x.f0 > y.f0) <;> cases decide (x.f1 < y.f1) <;> cases decide (x.f1 > y.f1) <;> rfl
theorem slices_SortFunc_Stored.cmp (x y : T_impl_Stored) (w : World) : Calls Try.prog 44 #[.agg (encV (κ 5) x).toArray, .agg (encV (κ 5) y).toArray] w fun e w' => e = .returned (.int .i64 (slices_SortFunc_Stored.cf x y)) ∧ ∃ q os', w' = Go.Sort.grow (w.drewN q) os' := by
  refine plain_calls (impl_compareStored.ok 9) (args := [.agg ((κ 5).enc x), .agg ((κ 5).enc y)]) (M := fun _ => undef) rfl (enc_args (κ_ok 5) x y) ?_ w
  refine (show _ = (impl_compareStored.f 9 x.f0 x.f1 x.f2 x.f3 y.f0 y.f1 y.f2 y.f3).bind fun y => some (AV.v (.int .i64 y)) by kernel_rfl).trans ?_
  rw [slices_SortFunc_Stored.val]
  rfl
theorem slices_SortFunc_Stored.lt (x y : T_impl_Stored) : Go.Proofs.ltOf slices_SortFunc_Stored.cf x y = (decide (x.f0 < y.f0) || (decide (x.f0 = y.f0) && decide (x.f1 < y.f1))) := by
  unfold Go.Proofs.ltOf slices_SortFunc_Stored.cf
  by_cases h1 : x.f0 < y.f0
  · simp [h1]
  · by_cases h2 : x.f0 > y.f0
    · simp [h1, h2]; omega
    · have h3 : x.f0 = y.f0 := by omega
      by_cases h4 : x.f1 < y.f1
      · simp [h3, h4]
      · by_cases h5 : x.f1 > y.f1 <;> simp [h3, h4, h5]
theorem slices_SortFunc_Stored.swo : Go.Sort.SWO (Go.Proofs.ltOf slices_SortFunc_Stored.cf) where
  irrefl x := by rw [slices_SortFunc_Stored.lt]; simp
  trans x y z h1 h2 := by rw [slices_SortFunc_Stored.lt] at *; simp at *; omega
  ntrans x y z h1 h2 := by rw [slices_SortFunc_Stored.lt] at *; simp at *; omega
def slices_SortFunc_Stored.f (k : Nat) (l : List T_impl_Stored) : Option (List T_impl_Stored) := sortByF z_impl_Stored (Go.Proofs.ltOf slices_SortFunc_Stored.cf) l
def slices_SortFunc_Stored.C (k : Nat) : Nat → List AV → AP κ AV := contract (inSig 5 (some 44)) (inB 5 κ (some 44) (slices_SortFunc_Stored.f k))
theorem slices_SortFunc_Stored.ok (k : Nat) : CSound Try.prog 50 (slices_SortFunc_Stored.C k) :=
  sortFunc_sound κ_ok Try.laysSortFunc Try.call50 5 Try.isAgg48 Try.sizeOf48 Try.call44 slices_SortFunc_Stored.cf slices_SortFunc_Stored.swo slices_SortFunc_Stored.cmp
/-! ### impl_RestoreStore -/
def impl_RestoreStore.L5 {R : Type} (k : Nat) (x4 : Int) (xl0 : List T_impl_Stored) (xl1 : List T_impl_Grant) (xl2 : List T_impl_Flow) (xl3 : List T_impl_Rule) (xl4 : List T_impl_Op) (xl5 : List T_impl_Stored) (xc6_0 : Int) (xc6_1 : Int) (xc6_2 : Int) (xc6_7 : Int) (X0 : Bool → List T_impl_Stored → List T_impl_Stored → Option R) (X1 : List T_impl_Stored → Option R) (rec : Int → List T_impl_Stored → Option R) (x5 : Int) (xl7 : List T_impl_Stored) : Option R :=
  (bif decide (x5 < x4) then (bif decide (0 ≤ x5) then (bif decide (x5 < (xl5.length : Int)) then (bif ((rd_impl_Stored xl5 x5).f0 != xc6_0) then (slices_Clone_Stored.f k xl0).bind fun t6 => (X0 false t6 xl7) else (bif decide ((xl7.length + ([(⟨(rd_impl_Stored xl5 x5).f0, (rd_impl_Stored xl5 x5).f1, (rd_impl_Stored xl5 x5).f2, (rd_impl_Stored xl5 x5).f3⟩ : T_impl_Stored)] : List T_impl_Stored).length) * 32 ≤ cap48) then (let l7 : List T_impl_Stored := (xl7 ++ ([(⟨(rd_impl_Stored xl5 x5).f0, (rd_impl_Stored xl5 x5).f1, (rd_impl_Stored xl5 x5).f2, (rd_impl_Stored xl5 x5).f3⟩ : T_impl_Stored)] : List T_impl_Stored)); (rec (w64 (x5 + (1 : Int))) l7)) else none)) else none) else none) else (X1 xl7))
def impl_RestoreStore.l5 {R : Type} (k : Nat) (x4 : Int) (xl0 : List T_impl_Stored) (xl1 : List T_impl_Grant) (xl2 : List T_impl_Flow) (xl3 : List T_impl_Rule) (xl4 : List T_impl_Op) (xl5 : List T_impl_Stored) (xc6_0 : Int) (xc6_1 : Int) (xc6_2 : Int) (xc6_7 : Int) (X0 : Bool → List T_impl_Stored → List T_impl_Stored → Option R) (X1 : List T_impl_Stored → Option R) : Nat → Int → List T_impl_Stored → Option R
  | 0 => fun _ _ => none
  | n + 1 => impl_RestoreStore.L5 k x4 xl0 xl1 xl2 xl3 xl4 xl5 xc6_0 xc6_1 xc6_2 xc6_7 X0 X1 (impl_RestoreStore.l5 k x4 xl0 xl1 xl2 xl3 xl4 xl5 xc6_0 xc6_1 xc6_2 xc6_7 X0 X1 n)
def impl_RestoreStore.f (k : Nat) (a0 : List T_impl_Stored) (a1_0 : Int) (a1_1 : Int) (a1_2 : Int) (a1_3 : List T_impl_Grant) (a1_4 : List T_impl_Flow) (a1_5 : List T_impl_Rule) (a1_6 : List T_impl_Op) (a1_7 : Int) (a1_8 : List T_impl_Stored) : Option (Bool × List T_impl_Stored) :=
  (impl_IsStore.f k a0).bind fun t1 => (bif !t1 then (slices_Clone_Stored.f k a0).bind fun t2 => some (false, t2) else (impl_IsStore.f k a1_8).bind fun t3 => (bif !t3 then (slices_Clone_Stored.f k a0).bind fun t4 => some (false, t4) else (impl_DropStored.f k a0 a1_0).bind fun t5 => (impl_RestoreStore.l5 k (a1_8.length : Int) a0 a1_3 a1_4 a1_5 a1_6 a1_8 a1_0 a1_1 a1_2 a1_7 (fun (y8 : Bool) (y9 : List T_impl_Stored) (y10 : List T_impl_Stored) => some (y8, y9)) (fun (y11 : List T_impl_Stored) => (slices_SortFunc_Stored.f k y11).bind fun t12 => (impl_IsStore.f k t12).bind fun t13 => (bif !t13 then (slices_Clone_Stored.f k a0).bind fun t14 => some (false, t14) else some (true, t12))) k (0 : Int) t5)))
def impl_RestoreStore.h5 (k : Nat) {R : Type} (K : Ex → St κ → Option R) (vs : List AV) (bs : List (Blk κ)) : Option R :=
  match vs, bs with
  | [.v (.sl 0), .v (.ptr 6 0 0), .v (.sl 7), .v (.sl 5), .v (.int .i64 x4), .v (.int .i64 x5)], [qb0, qb1, qb2, qb3, qb4, qb5, .cells 73 [.int .i64 xc6_0, .int .i64 xc6_1, .int .i64 xc6_2, .sl 1, .sl 2, .sl 3, .sl 4, .int .i64 xc6_7, .sl 5], qb7] => (asO 5 false qb0).bind fun xl0 => (asO 6 false qb1).bind fun xl1 => (asO 7 false qb2).bind fun xl2 => (asO 8 false qb3).bind fun xl3 => (asO 9 false qb4).bind fun xl4 => (asO 5 false qb5).bind fun xl5 => (asO 5 true qb7).bind fun xl7 => impl_RestoreStore.l5 k x4 xl0 xl1 xl2 xl3 xl4 xl5 xc6_0 xc6_1 xc6_2 xc6_7 (fun (z2 : Bool) (zl6 : List T_impl_Stored) (zl7 : List T_impl_Stored) => K .ret (stOf [(0, [some 5]), (4, [some 5]), (5, []), (6, [some 5])] [.v (.sl 0), .v (.sl 6), .v (.bool z2), .v (.sl 7)] [.rows 5 false xl0, .rows 6 false xl1, .rows 7 false xl2, .rows 8 false xl3, .rows 9 false xl4, .rows 5 false xl5, .rows 5 true zl6, .rows 5 true zl7])) (fun (zl6 : List T_impl_Stored) => K (.exit 0) (stOf [(0, [some 5]), (4, [some 5]), (5, []), (6, [some 5])] [.v (.sl 0), .v .any, .v .any, .v (.sl 6)] [.rows 5 false xl0, .rows 6 false xl1, .rows 7 false xl2, .rows 8 false xl3, .rows 9 false xl4, .rows 5 false xl5, .rows 5 true zl6])) k x5 xl7
  | _, _ => none
def impl_RestoreStore.Γ (k : Nat) : Ct κ := assoc [(15, impl_IsStore.C k), (39, slices_Clone_Stored.C k), (29, impl_DropStored.C k), (50, slices_SortFunc_Stored.C k)]
def impl_RestoreStore.LH (k : Nat) : Nat → Option (LHi κ) := assoc [(5, ⟨6, [(0, [some 5]), (3, [none, none, none, some 6, some 7, some 8, some 9, none, some 5]), (6, [some 5]), (26, [some 5]), (27, []), (28, [])], [(0, [some 5]), (4, [some 5]), (5, []), (6, [some 5])], @impl_RestoreStore.h5 k⟩)]
theorem impl_RestoreStore.hΓ (k : Nat) : ∀ f g, impl_RestoreStore.Γ k f = some g → CSound Try.prog f g := G_cons (impl_IsStore.ok k) (G_cons (slices_Clone_Stored.ok k) (G_cons (impl_DropStored.ok k) (G_cons (slices_SortFunc_Stored.ok k) G_nil)))
theorem impl_RestoreStore.e5 {R : Type} (K : Ex → St κ → Option R) (k : Nat) (x4 : Int) (xl0 : List T_impl_Stored) (xl1 : List T_impl_Grant) (xl2 : List T_impl_Flow) (xl3 : List T_impl_Rule) (xl4 : List T_impl_Op) (xl5 : List T_impl_Stored) (xc6_0 : Int) (xc6_1 : Int) (xc6_2 : Int) (xc6_7 : Int) : ∀ (n : Nat) (x5 : Int) (xl7 : List T_impl_Stored), loopN 6 (Code.den ti (impl_RestoreStore.Γ k) (impl_RestoreStore.LH k) (loopAt Try.f33 0)) [(0, [some 5]), (3, [none, none, none, some 6, some 7, some 8, some 9, none, some 5]), (6, [some 5]), (26, [some 5]), (27, []), (28, [])] [(0, [some 5]), (4, [some 5]), (5, []), (6, [some 5])] K n [.v (.sl 0), .v (.ptr 6 0 0), .v (.sl 7), .v (.sl 5), .v (.int .i64 x4), .v (.int .i64 x5)] [.rows 5 false xl0, .rows 6 false xl1, .rows 7 false xl2, .rows 8 false xl3, .rows 9 false xl4, .rows 5 false xl5, .cells 73 [.int .i64 xc6_0, .int .i64 xc6_1, .int .i64 xc6_2, .sl 1, .sl 2, .sl 3, .sl 4, .int .i64 xc6_7, .sl 5], .rows 5 true xl7] = impl_RestoreStore.l5 k x4 xl0 xl1 xl2 xl3 xl4 xl5 xc6_0 xc6_1 xc6_2 xc6_7 (fun (z2 : Bool) (zl6 : List T_impl_Stored) (zl7 : List T_impl_Stored) => K .ret (stOf [(0, [some 5]), (4, [some 5]), (5, []), (6, [some 5])] [.v (.sl 0), .v (.sl 6), .v (.bool z2), .v (.sl 7)] [.rows 5 false xl0, .rows 6 false xl1, .rows 7 false xl2, .rows 8 false xl3, .rows 9 false xl4, .rows 5 false xl5, .rows 5 true zl6, .rows 5 true zl7])) (fun (zl6 : List T_impl_Stored) => K (.exit 0) (stOf [(0, [some 5]), (4, [some 5]), (5, []), (6, [some 5])] [.v (.sl 0), .v .any, .v .any, .v (.sl 6)] [.rows 5 false xl0, .rows 6 false xl1, .rows 7 false xl2, .rows 8 false xl3, .rows 9 false xl4, .rows 5 false xl5, .rows 5 true zl6])) n x5 xl7
  | 0, _, _ => rfl
  | n + 1, x5, xl7 => (show loopN 6 (Code.den ti (impl_RestoreStore.Γ k) (impl_RestoreStore.LH k) (loopAt Try.f33 0)) [(0, [some 5]), (3, [none, none, none, some 6, some 7, some 8, some 9, none, some 5]), (6, [some 5]), (26, [some 5]), (27, []), (28, [])] [(0, [some 5]), (4, [some 5]), (5, []), (6, [some 5])] K (n + 1) [.v (.sl 0), .v (.ptr 6 0 0), .v (.sl 7), .v (.sl 5), .v (.int .i64 x4), .v (.int .i64 x5)] [.rows 5 false xl0, .rows 6 false xl1, .rows 7 false xl2, .rows 8 false xl3, .rows 9 false xl4, .rows 5 false xl5, .cells 73 [.int .i64 xc6_0, .int .i64 xc6_1, .int .i64 xc6_2, .sl 1, .sl 2, .sl 3, .sl 4, .int .i64 xc6_7, .sl 5], .rows 5 true xl7] = impl_RestoreStore.L5 k x4 xl0 xl1 xl2 xl3 xl4 xl5 xc6_0 xc6_1 xc6_2 xc6_7 (fun (z2 : Bool) (zl6 : List T_impl_Stored) (zl7 : List T_impl_Stored) => K .ret (stOf [(0, [some 5]), (4, [some 5]), (5, []), (6, [some 5])] [.v (.sl 0), .v (.sl 6), .v (.bool z2), .v (.sl 7)] [.rows 5 false xl0, .rows 6 false xl1, .rows 7 false xl2, .rows 8 false xl3, .rows 9 false xl4, .rows 5 false xl5, .rows 5 true zl6, .rows 5 true zl7])) (fun (zl6 : List T_impl_Stored) => K (.exit 0) (stOf [(0, [some 5]), (4, [some 5]), (5, []), (6, [some 5])] [.v (.sl 0), .v .any, .v .any, .v (.sl 6)] [.rows 5 false xl0, .rows 6 false xl1, .rows 7 false xl2, .rows 8 false xl3, .rows 9 false xl4, .rows 5 false xl5, .rows 5 true zl6])) (fun (x5' : Int) (xl7' : List T_impl_Stored) => loopN 6 (Code.den ti (impl_RestoreStore.Γ k) (impl_RestoreStore.LH k) (loopAt Try.f33 0)) [(0, [some 5]), (3, [none, none, none, some 6, some 7, some 8, some 9, none, some 5]), (6, [some 5]), (26, [some 5]), (27, []), (28, [])] [(0, [some 5]), (4, [some 5]), (5, []), (6, [some 5])] K n [.v (.sl 0), .v (.ptr 6 0 0), .v (.sl 7), .v (.sl 5), .v (.int .i64 x4), .v (.int .i64 x5')] [.rows 5 false xl0, .rows 6 false xl1, .rows 7 false xl2, .rows 8 false xl3, .rows 9 false xl4, .rows 5 false xl5, .cells 73 [.int .i64 xc6_0, .int .i64 xc6_1, .int .i64 xc6_2, .sl 1, .sl 2, .sl 3, .sl 4, .int .i64 xc6_7, .sl 5], .rows 5 true xl7']) x5 xl7 by kernel_rfl).trans (congrArg (fun rec => impl_RestoreStore.L5 k x4 xl0 xl1 xl2 xl3 xl4 xl5 xc6_0 xc6_1 xc6_2 xc6_7 (fun (z2 : Bool) (zl6 : List T_impl_Stored) (zl7 : List T_impl_Stored) => K .ret (stOf [(0, [some 5]), (4, [some 5]), (5, []), (6, [some 5])] [.v (.sl 0), .v (.sl 6), .v (.bool z2), .v (.sl 7)] [.rows 5 false xl0, .rows 6 false xl1, .rows 7 false xl2, .rows 8 false xl3, .rows 9 false xl4, .rows 5 false xl5, .rows 5 true zl6, .rows 5 true zl7])) (fun (zl6 : List T_impl_Stored) => K (.exit 0) (stOf [(0, [some 5]), (4, [some 5]), (5, []), (6, [some 5])] [.v (.sl 0), .v .any, .v .any, .v (.sl 6)] [.rows 5 false xl0, .rows 6 false xl1, .rows 7 false xl2, .rows 8 false xl3, .rows 9 false xl4, .rows 5 false xl5, .rows 5 true zl6])) rec x5 xl7) (funext fun x5' => funext fun xl7' => impl_RestoreStore.e5 K k x4 xl0 xl1 xl2 xl3 xl4 xl5 xc6_0 xc6_1 xc6_2 xc6_7 n x5' xl7'))
theorem impl_RestoreStore.q5 (k : Nat) {R : Type} (K : Ex → St κ → Option R) (vs : List AV) (bs : List (Blk κ)) (r : R) (h : impl_RestoreStore.h5 k K vs bs = some r) : ∃ n, loopN 6 (Code.den ti (impl_RestoreStore.Γ k) (impl_RestoreStore.LH k) (loopAt Try.f33 0)) [(0, [some 5]), (3, [none, none, none, some 6, some 7, some 8, some 9, none, some 5]), (6, [some 5]), (26, [some 5]), (27, []), (28, [])] [(0, [some 5]), (4, [some 5]), (5, []), (6, [some 5])] K n vs bs = some r := by
  unfold impl_RestoreStore.h5 at h
  split at h
  · obtain ⟨_, rfl, h_1⟩ := asO_bind h
    obtain ⟨_, rfl, h_2⟩ := asO_bind h_1
    obtain ⟨_, rfl, h_3⟩ := asO_bind h_2
    obtain ⟨_, rfl, h_4⟩ := asO_bind h_3
    obtain ⟨_, rfl, h_5⟩ := asO_bind h_4
    obtain ⟨_, rfl, h_6⟩ := asO_bind h_5
    obtain ⟨_, rfl, h_7⟩ := asO_bind h_6
    exact ⟨k, (impl_RestoreStore.e5 K k _ _ _ _ _ _ _ _ _ _ _ k _ _).trans h_7⟩
  · cases h
theorem impl_RestoreStore.lok (k : Nat) : LOK ti (impl_RestoreStore.Γ k) (impl_RestoreStore.LH k) 6 (loopsOf (bodyOf Try.f33)) :=
  (show loopsOf (bodyOf Try.f33) = [loopAt Try.f33 0] by kernel_rfl) ▸ (LOK_cons (g := ⟨6, [(0, [some 5]), (3, [none, none, none, some 6, some 7, some 8, some 9, none, some 5]), (6, [some 5]), (26, [some 5]), (27, []), (28, [])], [(0, [some 5]), (4, [some 5]), (5, []), (6, [some 5])], @impl_RestoreStore.h5 k⟩) (by kernel_rfl) rfl (fun K vs xs r h => impl_RestoreStore.q5 k K vs xs r h) (LOK_nil))
def impl_RestoreStore.sig : List PSh := [.one (.ro 5), .agg [.sc, .sc, .sc, .ro 6, .ro 7, .ro 8, .ro 9, .sc, .ro 5]]
def impl_RestoreStore.g (y : Bool × List T_impl_Stored) : Ret κ := ⟨.tup [(false, [.sl 6]), (false, [.bool y.1])], [], [.rows 5 true y.2]⟩
def impl_RestoreStore.out (r : Ret κ) : Option (Bool × List T_impl_Stored) :=
  match r with
  | ⟨.tup [(false, [.sl 6]), (false, [.bool z0])], [], [q1]⟩ => (asO 5 true q1).bind fun z1 => some (z0, z1)
  | _ => none
theorem impl_RestoreStore.out_ok (r : Ret κ) (y : Bool × List T_impl_Stored) (h : impl_RestoreStore.out r = some y) : r = impl_RestoreStore.g y := by
  unfold impl_RestoreStore.out at h
  split at h
  · obtain ⟨_, rfl, h_1⟩ := asO_bind h
    obtain rfl := Option.some.inj h_1
    rfl
  · cases h
def impl_RestoreStore.body (k : Nat) (vs : List AV) (bs : List (Blk κ)) : Option (Lf κ) :=
  match vs, bs with
  | [.v (.sl 0), .agg [.int .i64 a1_0, .int .i64 a1_1, .int .i64 a1_2, .sl 1, .sl 2, .sl 3, .sl 4, .int .i64 a1_7, .sl 5]], [qb0, qb1, qb2, qb3, qb4, qb5] => (asO 5 false qb0).bind fun a0 => (asO 6 false qb1).bind fun a1_3 => (asO 7 false qb2).bind fun a1_4 => (asO 8 false qb3).bind fun a1_5 => (asO 9 false qb4).bind fun a1_6 => (asO 5 false qb5).bind fun a1_8 => some ⟨Bool × List T_impl_Stored, impl_RestoreStore.f k a0 a1_0 a1_1 a1_2 a1_3 a1_4 a1_5 a1_6 a1_7 a1_8, impl_RestoreStore.g⟩
  | _, _ => none
def impl_RestoreStore.C (k : Nat) : Nat → List AV → AP κ AV := contract impl_RestoreStore.sig (impl_RestoreStore.body k)
theorem impl_RestoreStore.den (k : Nat) (a0 : List T_impl_Stored) (a1_0 : Int) (a1_1 : Int) (a1_2 : Int) (a1_3 : List T_impl_Grant) (a1_4 : List T_impl_Flow) (a1_5 : List T_impl_Rule) (a1_6 : List T_impl_Op) (a1_7 : Int) (a1_8 : List T_impl_Stored) : Code.den ti (impl_RestoreStore.Γ k) (impl_RestoreStore.LH k) (bodyOf Try.f33) (finK ti Try.f33.results.toList [(4, [some 5])] (flags impl_RestoreStore.sig).length (rwI (flags impl_RestoreStore.sig) 0) impl_RestoreStore.out) ⟨envOf (([.v (.sl 0), .agg [.int .i64 a1_0, .int .i64 a1_1, .int .i64 a1_2, .sl 1, .sl 2, .sl 3, .sl 4, .int .i64 a1_7, .sl 5]]).zipIdx.map fun q => (q.2, q.1)), hpOf [.rows 5 false a0, .rows 6 false a1_3, .rows 7 false a1_4, .rows 8 false a1_5, .rows 9 false a1_6, .rows 5 false a1_8], (flags impl_RestoreStore.sig).length⟩ = impl_RestoreStore.f k a0 a1_0 a1_1 a1_2 a1_3 a1_4 a1_5 a1_6 a1_7 a1_8 := by kernel_rfl
theorem impl_RestoreStore.ok (k : Nat) : CSound Try.prog 33 (impl_RestoreStore.C k) :=
  csound κ_ok mixed tok (impl_RestoreStore.hΓ k) (LH := impl_RestoreStore.LH k) (fn := Try.f33) (c := bodyOf Try.f33) Try.func33 rfl Try.call33 impl_RestoreStore.sig [(4, [some 5])] (impl_RestoreStore.body k) (by kernel_rfl) (impl_RestoreStore.lok k) (by decide) fun vs bs lf y hl hb hy => by
    unfold impl_RestoreStore.body at hb
    split at hb
    · obtain ⟨_, rfl, hb_1⟩ := asO_bind hb
      obtain ⟨_, rfl, hb_2⟩ := asO_bind hb_1
      obtain ⟨_, rfl, hb_3⟩ := asO_bind hb_2
      obtain ⟨_, rfl, hb_4⟩ := asO_bind hb_3
      obtain ⟨_, rfl, hb_5⟩ := asO_bind hb_4
      obtain ⟨_, rfl, hb_6⟩ := asO_bind hb_5
      obtain rfl := Option.some.inj hb_6
      exact ⟨impl_RestoreStore.out, impl_RestoreStore.out_ok, (impl_RestoreStore.den k _ _ _ _ _ _ _ _ _ _).trans hy⟩
    · cases hb
/-! ### laws_eqStored -/
def laws_eqStored.f (k : Nat) (a0_0 : Int) (a0_1 : Int) (a0_2 : Int) (a0_3 : Int) (a1_0 : Int) (a1_1 : Int) (a1_2 : Int) (a1_3 : Int) : Option Bool :=
  (bif (a0_0 != a1_0) then some false else (bif (a0_1 != a1_1) then some false else (bif (a0_2 != a1_2) then some false else (bif (a0_3 != a1_3) then some false else some true))))
def laws_eqStored.Γ (k : Nat) : Ct κ := assoc []
def laws_eqStored.LH (k : Nat) : Nat → Option (LHi κ) := assoc []
theorem laws_eqStored.hΓ (k : Nat) : ∀ f g, laws_eqStored.Γ k f = some g → CSound Try.prog f g := G_nil
theorem laws_eqStored.lok (k : Nat) : LOK ti (laws_eqStored.Γ k) (laws_eqStored.LH k) 0 (loopsOf (bodyOf Try.f51)) :=
  (show loopsOf (bodyOf Try.f51) = [] by kernel_rfl) ▸ LOK_nil
def laws_eqStored.sig : List PSh := [.agg [.sc, .sc, .sc, .sc], .agg [.sc, .sc, .sc, .sc]]
def laws_eqStored.g (y : Bool) : Ret κ := ⟨.v (.bool y), [], []⟩
def laws_eqStored.out (r : Ret κ) : Option Bool :=
  match r with
  | ⟨.v (.bool z0), [], []⟩ => some (z0)
  | _ => none
theorem laws_eqStored.out_ok (r : Ret κ) (y : Bool) (h : laws_eqStored.out r = some y) : r = laws_eqStored.g y := by
  unfold laws_eqStored.out at h
  split at h
  · obtain rfl := Option.some.inj h
    rfl
  · cases h
def laws_eqStored.body (k : Nat) (vs : List AV) (bs : List (Blk κ)) : Option (Lf κ) :=
  match vs, bs with
  | [.agg [.int .i64 a0_0, .int .i64 a0_1, .int .i64 a0_2, .int .i64 a0_3], .agg [.int .i64 a1_0, .int .i64 a1_1, .int .i64 a1_2, .int .i64 a1_3]], [] => some ⟨Bool, laws_eqStored.f k a0_0 a0_1 a0_2 a0_3 a1_0 a1_1 a1_2 a1_3, laws_eqStored.g⟩
  | _, _ => none
def laws_eqStored.C (k : Nat) : Nat → List AV → AP κ AV := contract laws_eqStored.sig (laws_eqStored.body k)
theorem laws_eqStored.den (k : Nat) (a0_0 : Int) (a0_1 : Int) (a0_2 : Int) (a0_3 : Int) (a1_0 : Int) (a1_1 : Int) (a1_2 : Int) (a1_3 : Int) : Code.den ti (laws_eqStored.Γ k) (laws_eqStored.LH k) (bodyOf Try.f51) (finK ti Try.f51.results.toList [] (flags laws_eqStored.sig).length (rwI (flags laws_eqStored.sig) 0) laws_eqStored.out) ⟨envOf (([.agg [.int .i64 a0_0, .int .i64 a0_1, .int .i64 a0_2, .int .i64 a0_3], .agg [.int .i64 a1_0, .int .i64 a1_1, .int .i64 a1_2, .int .i64 a1_3]]).zipIdx.map fun q => (q.2, q.1)), hpOf [], (flags laws_eqStored.sig).length⟩ = laws_eqStored.f k a0_0 a0_1 a0_2 a0_3 a1_0 a1_1 a1_2 a1_3 := by kernel_rfl
theorem laws_eqStored.ok (k : Nat) : CSound Try.prog 51 (laws_eqStored.C k) :=
  csound κ_ok mixed tok (laws_eqStored.hΓ k) (LH := laws_eqStored.LH k) (fn := Try.f51) (c := bodyOf Try.f51) Try.func51 rfl Try.call51 laws_eqStored.sig [] (laws_eqStored.body k) (by kernel_rfl) (laws_eqStored.lok k) (by decide) fun vs bs lf y hl hb hy => by
    unfold laws_eqStored.body at hb
    split at hb
    · obtain rfl := Option.some.inj hb
      exact ⟨laws_eqStored.out, laws_eqStored.out_ok, (laws_eqStored.den k _ _ _ _ _ _ _ _).trans hy⟩
    · cases hb
/-! ### laws_eqStoredS -/
def laws_eqStoredS.L4 {R : Type} (k : Nat) (xl0 : List T_impl_Stored) (xl1 : List T_impl_Stored) (X0 : Bool → Option R) (X1 : Unit → Option R) (rec : Int → Option R) (x2 : Int) : Option R :=
  (bif decide (x2 < (xl0.length : Int)) then (bif decide (0 ≤ x2) then (bif decide (x2 < (xl0.length : Int)) then (bif decide (0 ≤ x2) then (bif decide (x2 < (xl1.length : Int)) then (laws_eqStored.f k ((rd_impl_Stored xl0 x2).f0) ((rd_impl_Stored xl0 x2).f1) ((rd_impl_Stored xl0 x2).f2) ((rd_impl_Stored xl0 x2).f3) ((rd_impl_Stored xl1 x2).f0) ((rd_impl_Stored xl1 x2).f1) ((rd_impl_Stored xl1 x2).f2) ((rd_impl_Stored xl1 x2).f3)).bind fun t1 => (bif !t1 then (X0 false) else (rec (w64 (x2 + (1 : Int))))) else none) else none) else none) else none) else (X1 ()))
def laws_eqStoredS.l4 {R : Type} (k : Nat) (xl0 : List T_impl_Stored) (xl1 : List T_impl_Stored) (X0 : Bool → Option R) (X1 : Unit → Option R) : Nat → Int → Option R
  | 0 => fun _ => none
  | n + 1 => laws_eqStoredS.L4 k xl0 xl1 X0 X1 (laws_eqStoredS.l4 k xl0 xl1 X0 X1 n)
def laws_eqStoredS.f (k : Nat) (a0 : List T_impl_Stored) (a1 : List T_impl_Stored) : Option Bool :=
  (bif ((a0.length : Int) != (a1.length : Int)) then some false else (laws_eqStoredS.l4 k a0 a1 (fun (y2 : Bool) => some y2) (fun (_ : Unit) => some true) k (0 : Int)))
def laws_eqStoredS.h4 (k : Nat) {R : Type} (K : Ex → St κ → Option R) (vs : List AV) (bs : List (Blk κ)) : Option R :=
  match vs, bs with
  | [.v (.sl 0), .v (.sl 1), .v (.int .i64 x2)], [qb0, qb1] => (asO 5 false qb0).bind fun xl0 => (asO 5 false qb1).bind fun xl1 => laws_eqStoredS.l4 k xl0 xl1 (fun (z0 : Bool) => K .ret (stOf [(4, [])] [.v (.bool z0)] [.rows 5 false xl0, .rows 5 false xl1])) (fun (_ : Unit) => K (.exit 0) (stOf [(4, [])] [.v .any] [.rows 5 false xl0, .rows 5 false xl1])) k x2
  | _, _ => none
def laws_eqStoredS.Γ (k : Nat) : Ct κ := assoc [(51, laws_eqStored.C k)]
def laws_eqStoredS.LH (k : Nat) : Nat → Option (LHi κ) := assoc [(4, ⟨2, [(0, [some 5]), (1, [some 5]), (5, [])], [(4, [])], @laws_eqStoredS.h4 k⟩)]
theorem laws_eqStoredS.hΓ (k : Nat) : ∀ f g, laws_eqStoredS.Γ k f = some g → CSound Try.prog f g := G_cons (laws_eqStored.ok k) G_nil
theorem laws_eqStoredS.e4 {R : Type} (K : Ex → St κ → Option R) (k : Nat) (xl0 : List T_impl_Stored) (xl1 : List T_impl_Stored) : ∀ (n : Nat) (x2 : Int), loopN 2 (Code.den ti (laws_eqStoredS.Γ k) (laws_eqStoredS.LH k) (loopAt Try.f20 0)) [(0, [some 5]), (1, [some 5]), (5, [])] [(4, [])] K n [.v (.sl 0), .v (.sl 1), .v (.int .i64 x2)] [.rows 5 false xl0, .rows 5 false xl1] = laws_eqStoredS.l4 k xl0 xl1 (fun (z0 : Bool) => K .ret (stOf [(4, [])] [.v (.bool z0)] [.rows 5 false xl0, .rows 5 false xl1])) (fun (_ : Unit) => K (.exit 0) (stOf [(4, [])] [.v .any] [.rows 5 false xl0, .rows 5 false xl1])) n x2
  | 0, _ => rfl
  | n + 1, x2 => (show loopN 2 (Code.den ti (laws_eqStoredS.Γ k) (laws_eqStoredS.LH k) (loopAt Try.f20 0)) [(0, [some 5]), (1, [some 5]), (5, [])] [(4, [])] K (n + 1) [.v (.sl 0), .v (.sl 1), .v (.int .i64 x2)] [.rows 5 false xl0, .rows 5 false xl1] = laws_eqStoredS.L4 k xl0 xl1 (fun (z0 : Bool) => K .ret (stOf [(4, [])] [.v (.bool z0)] [.rows 5 false xl0, .rows 5 false xl1])) (fun (_ : Unit) => K (.exit 0) (stOf [(4, [])] [.v .any] [.rows 5 false xl0, .rows 5 false xl1])) (fun (x2' : Int) => loopN 2 (Code.den ti (laws_eqStoredS.Γ k) (laws_eqStoredS.LH k) (loopAt Try.f20 0)) [(0, [some 5]), (1, [some 5]), (5, [])] [(4, [])] K n [.v (.sl 0), .v (.sl 1), .v (.int .i64 x2')] [.rows 5 false xl0, .rows 5 false xl1]) x2 by kernel_rfl).trans (congrArg (fun rec => laws_eqStoredS.L4 k xl0 xl1 (fun (z0 : Bool) => K .ret (stOf [(4, [])] [.v (.bool z0)] [.rows 5 false xl0, .rows 5 false xl1])) (fun (_ : Unit) => K (.exit 0) (stOf [(4, [])] [.v .any] [.rows 5 false xl0, .rows 5 false xl1])) rec x2) (funext fun x2' => laws_eqStoredS.e4 K k xl0 xl1 n x2'))
theorem laws_eqStoredS.q4 (k : Nat) {R : Type} (K : Ex → St κ → Option R) (vs : List AV) (bs : List (Blk κ)) (r : R) (h : laws_eqStoredS.h4 k K vs bs = some r) : ∃ n, loopN 2 (Code.den ti (laws_eqStoredS.Γ k) (laws_eqStoredS.LH k) (loopAt Try.f20 0)) [(0, [some 5]), (1, [some 5]), (5, [])] [(4, [])] K n vs bs = some r := by
  unfold laws_eqStoredS.h4 at h
  split at h
  · obtain ⟨_, rfl, h_1⟩ := asO_bind h
    obtain ⟨_, rfl, h_2⟩ := asO_bind h_1
    exact ⟨k, (laws_eqStoredS.e4 K k _ _ k _).trans h_2⟩
  · cases h
theorem laws_eqStoredS.lok (k : Nat) : LOK ti (laws_eqStoredS.Γ k) (laws_eqStoredS.LH k) 2 (loopsOf (bodyOf Try.f20)) :=
  (show loopsOf (bodyOf Try.f20) = [loopAt Try.f20 0] by kernel_rfl) ▸ (LOK_cons (g := ⟨2, [(0, [some 5]), (1, [some 5]), (5, [])], [(4, [])], @laws_eqStoredS.h4 k⟩) (by kernel_rfl) rfl (fun K vs xs r h => laws_eqStoredS.q4 k K vs xs r h) (LOK_nil))
def laws_eqStoredS.sig : List PSh := [.one (.ro 5), .one (.ro 5)]
def laws_eqStoredS.g (y : Bool) : Ret κ := ⟨.v (.bool y), [], []⟩
def laws_eqStoredS.out (r : Ret κ) : Option Bool :=
  match r with
  | ⟨.v (.bool z0), [], []⟩ => some (z0)
  | _ => none
theorem laws_eqStoredS.out_ok (r : Ret κ) (y : Bool) (h : laws_eqStoredS.out r = some y) : r = laws_eqStoredS.g y := by
  unfold laws_eqStoredS.out at h
  split at h
  · obtain rfl := Option.some.inj h
    rfl
  · cases h
def laws_eqStoredS.body (k : Nat) (vs : List AV) (bs : List (Blk κ)) : Option (Lf κ) :=
  match vs, bs with
  | [.v (.sl 0), .v (.sl 1)], [qb0, qb1] => (asO 5 false qb0).bind fun a0 => (asO 5 false qb1).bind fun a1 => some ⟨Bool, laws_eqStoredS.f k a0 a1, laws_eqStoredS.g⟩
  | _, _ => none
def laws_eqStoredS.C (k : Nat) : Nat → List AV → AP κ AV := contract laws_eqStoredS.sig (laws_eqStoredS.body k)
theorem laws_eqStoredS.den (k : Nat) (a0 : List T_impl_Stored) (a1 : List T_impl_Stored) : Code.den ti (laws_eqStoredS.Γ k) (laws_eqStoredS.LH k) (bodyOf Try.f20) (finK ti Try.f20.results.toList [] (flags laws_eqStoredS.sig).length (rwI (flags laws_eqStoredS.sig) 0) laws_eqStoredS.out) ⟨envOf (([.v (.sl 0), .v (.sl 1)]).zipIdx.map fun q => (q.2, q.1)), hpOf [.rows 5 false a0, .rows 5 false a1], (flags laws_eqStoredS.sig).length⟩ = laws_eqStoredS.f k a0 a1 := by kernel_rfl
theorem laws_eqStoredS.ok (k : Nat) : CSound Try.prog 20 (laws_eqStoredS.C k) :=
  csound κ_ok mixed tok (laws_eqStoredS.hΓ k) (LH := laws_eqStoredS.LH k) (fn := Try.f20) (c := bodyOf Try.f20) Try.func20 rfl Try.call20 laws_eqStoredS.sig [] (laws_eqStoredS.body k) (by kernel_rfl) (laws_eqStoredS.lok k) (by decide) fun vs bs lf y hl hb hy => by
    unfold laws_eqStoredS.body at hb
    split at hb
    · obtain ⟨_, rfl, hb_1⟩ := asO_bind hb
      obtain ⟨_, rfl, hb_2⟩ := asO_bind hb_1
      obtain rfl := Option.some.inj hb_2
      exact ⟨laws_eqStoredS.out, laws_eqStoredS.out_ok, (laws_eqStoredS.den k _ _).trans hy⟩
    · cases hb
/-! ### laws_eqPattern -/
def laws_eqPattern.f (k : Nat) (a0_0 : Int) (a0_1 : Int) (a1_0 : Int) (a1_1 : Int) : Option Bool :=
  (bif (a0_0 != a1_0) then some false else (bif (a0_1 != a1_1) then some false else some true))
def laws_eqPattern.Γ (k : Nat) : Ct κ := assoc []
def laws_eqPattern.LH (k : Nat) : Nat → Option (LHi κ) := assoc []
theorem laws_eqPattern.hΓ (k : Nat) : ∀ f g, laws_eqPattern.Γ k f = some g → CSound Try.prog f g := G_nil
theorem laws_eqPattern.lok (k : Nat) : LOK ti (laws_eqPattern.Γ k) (laws_eqPattern.LH k) 0 (loopsOf (bodyOf Try.f121)) :=
  (show loopsOf (bodyOf Try.f121) = [] by kernel_rfl) ▸ LOK_nil
def laws_eqPattern.sig : List PSh := [.agg [.sc, .sc], .agg [.sc, .sc]]
def laws_eqPattern.g (y : Bool) : Ret κ := ⟨.v (.bool y), [], []⟩
def laws_eqPattern.out (r : Ret κ) : Option Bool :=
  match r with
  | ⟨.v (.bool z0), [], []⟩ => some (z0)
  | _ => none
theorem laws_eqPattern.out_ok (r : Ret κ) (y : Bool) (h : laws_eqPattern.out r = some y) : r = laws_eqPattern.g y := by
  unfold laws_eqPattern.out at h
  split at h
  · obtain rfl := Option.some.inj h
    rfl
  · cases h
def laws_eqPattern.body (k : Nat) (vs : List AV) (bs : List (Blk κ)) : Option (Lf κ) :=
  match vs, bs with
  | [.agg [.int .i64 a0_0, .int .i64 a0_1], .agg [.int .i64 a1_0, .int .i64 a1_1]], [] => some ⟨Bool, laws_eqPattern.f k a0_0 a0_1 a1_0 a1_1, laws_eqPattern.g⟩
  | _, _ => none
def laws_eqPattern.C (k : Nat) : Nat → List AV → AP κ AV := contract laws_eqPattern.sig (laws_eqPattern.body k)
theorem laws_eqPattern.den (k : Nat) (a0_0 : Int) (a0_1 : Int) (a1_0 : Int) (a1_1 : Int) : Code.den ti (laws_eqPattern.Γ k) (laws_eqPattern.LH k) (bodyOf Try.f121) (finK ti Try.f121.results.toList [] (flags laws_eqPattern.sig).length (rwI (flags laws_eqPattern.sig) 0) laws_eqPattern.out) ⟨envOf (([.agg [.int .i64 a0_0, .int .i64 a0_1], .agg [.int .i64 a1_0, .int .i64 a1_1]]).zipIdx.map fun q => (q.2, q.1)), hpOf [], (flags laws_eqPattern.sig).length⟩ = laws_eqPattern.f k a0_0 a0_1 a1_0 a1_1 := by kernel_rfl
theorem laws_eqPattern.ok (k : Nat) : CSound Try.prog 121 (laws_eqPattern.C k) :=
  csound κ_ok mixed tok (laws_eqPattern.hΓ k) (LH := laws_eqPattern.LH k) (fn := Try.f121) (c := bodyOf Try.f121) Try.func121 rfl Try.call121 laws_eqPattern.sig [] (laws_eqPattern.body k) (by kernel_rfl) (laws_eqPattern.lok k) (by decide) fun vs bs lf y hl hb hy => by
    unfold laws_eqPattern.body at hb
    split at hb
    · obtain rfl := Option.some.inj hb
      exact ⟨laws_eqPattern.out, laws_eqPattern.out_ok, (laws_eqPattern.den k _ _ _ _).trans hy⟩
    · cases hb
end Go.Proofs.Ytmjflahlhgibnaa.PFnExactRestoreStore
