/- What the functions that the law FnPrivate reaches come to; no conditions. -/
import Derived.Test.YtmjflahlhgibnaaPFnPrivateT
set_option linter.unusedVariables false
set_option maxRecDepth 100000
namespace Go.Proofs.Ytmjflahlhgibnaa.PFnPrivate
open Go Go.Eng Go.Proofs
/-! ### laws_big -/
def laws_big.f (k : Nat) (a0 : List Int) : Option Bool :=
  some (decide ((a0.length : Int) > (1048576 : Int)))
def laws_big.Γ (k : Nat) : Ct κ := assoc []
def laws_big.LH (k : Nat) : Nat → Option (LHi κ) := assoc []
theorem laws_big.hΓ (k : Nat) : ∀ f g, laws_big.Γ k f = some g → CSound Try.prog f g := G_nil
theorem laws_big.lok (k : Nat) : LOK ti (laws_big.Γ k) (laws_big.LH k) 1 (loopsOf (bodyOf Try.f7)) :=
  (show loopsOf (bodyOf Try.f7) = [] by kernel_rfl) ▸ LOK_nil
def laws_big.sig : List PSh := [.one (.ro 0)]
def laws_big.g (y : Bool) : Ret κ := ⟨.v (.bool y), [], []⟩
def laws_big.out (r : Ret κ) : Option Bool :=
  match r with
  | ⟨.v (.bool z0), [], []⟩ => some (z0)
  | _ => none
theorem laws_big.out_ok (r : Ret κ) (y : Bool) (h : laws_big.out r = some y) : r = laws_big.g y := by
  unfold laws_big.out at h
  split at h
  · obtain rfl := Option.some.inj h
    rfl
  · cases h
def laws_big.body (k : Nat) (vs : List AV) (bs : List (Blk κ)) : Option (Lf κ) :=
  match vs, bs with
  | [.v (.sl 0)], [qb0] => (asO 0 false qb0).bind fun a0 => some ⟨Bool, laws_big.f k a0, laws_big.g⟩
  | _, _ => none
def laws_big.C (k : Nat) : Nat → List AV → AP κ AV := contract laws_big.sig (laws_big.body k)
theorem laws_big.den (k : Nat) (a0 : List Int) : Code.den ti (laws_big.Γ k) (laws_big.LH k) (bodyOf Try.f7) (finK ti Try.f7.results.toList [] (flags laws_big.sig).length (rwI (flags laws_big.sig) 0) laws_big.out) ⟨envOf (([.v (.sl 0)]).zipIdx.map fun q => (q.2, q.1)), hpOf [.rows 0 false a0], (flags laws_big.sig).length⟩ = laws_big.f k a0 := by kernel_rfl
theorem laws_big.ok (k : Nat) : CSound Try.prog 7 (laws_big.C k) :=
  csound κ_ok mixed tok (laws_big.hΓ k) (LH := laws_big.LH k) (fn := Try.f7) (c := bodyOf Try.f7) Try.func7 rfl Try.call7 laws_big.sig [] (laws_big.body k) (by kernel_rfl) (laws_big.lok k) (by decide) fun vs bs lf y hl hb hy => by
    unfold laws_big.body at hb
    split at hb
    · obtain ⟨_, rfl, hb_1⟩ := asO_bind hb
      obtain rfl := Option.some.inj hb_1
      exact ⟨laws_big.out, laws_big.out_ok, (laws_big.den k _).trans hy⟩
    · cases hb
/-! ### spec_l1New -/
def spec_l1New.L3 {R : Type} (k : Nat) (xl0 : List Int) (X0 : Int → Option R) (rec : Int → Int → Option R) (x1 : Int) (x2 : Int) : Option R :=
  (bif decide (x2 < (xl0.length : Int)) then (bif decide (x2 < (4000 : Int)) then (bif decide (0 ≤ x2) then (bif decide (x2 < (xl0.length : Int)) then (rec (bitop .and .i64 (w64 ((w64 ((w64 (x1 * (137 : Int))) + (w64 ((rd_u8 xl0 x2))))) + (11 : Int))) (1073741823 : Int)) (w64 (x2 + (1 : Int)))) else none) else none) else (X0 x1)) else (X0 x1))
def spec_l1New.l3 {R : Type} (k : Nat) (xl0 : List Int) (X0 : Int → Option R) : Nat → Int → Int → Option R
  | 0 => fun _ _ => none
  | n + 1 => spec_l1New.L3 k xl0 X0 (spec_l1New.l3 k xl0 X0 n)
def spec_l1New.f (k : Nat) (a0 : List Int) : Option (Int × Int) :=
  (spec_l1New.l3 k a0 (fun (y1 : Int) => some ((0 : Int), y1)) k (w64 ((193017 : Int) + (a0.length : Int))) (0 : Int))
def spec_l1New.h3 (k : Nat) {R : Type} (K : Ex → St κ → Option R) (vs : List AV) (bs : List (Blk κ)) : Option R :=
  match vs, bs with
  | [.v (.sl 0), .v (.int .i64 x1), .v (.int .i64 x2)], [qb0] => (asO 0 false qb0).bind fun xl0 => spec_l1New.l3 k xl0 (fun (z1 : Int) => K (.exit 0) (stOf [(0, [some 0]), (3, [])] [.v (.sl 0), .v (.int .i64 z1)] [.rows 0 false xl0])) k x1 x2
  | _, _ => none
def spec_l1New.Γ (k : Nat) : Ct κ := assoc []
def spec_l1New.LH (k : Nat) : Nat → Option (LHi κ) := assoc [(3, ⟨1, [(0, [some 0]), (3, []), (4, [])], [(0, [some 0]), (3, [])], @spec_l1New.h3 k⟩)]
theorem spec_l1New.hΓ (k : Nat) : ∀ f g, spec_l1New.Γ k f = some g → CSound Try.prog f g := G_nil
theorem spec_l1New.e3 {R : Type} (K : Ex → St κ → Option R) (k : Nat) (xl0 : List Int) : ∀ (n : Nat) (x1 : Int) (x2 : Int), loopN 1 (Code.den ti (spec_l1New.Γ k) (spec_l1New.LH k) (loopAt Try.f37 0)) [(0, [some 0]), (3, []), (4, [])] [(0, [some 0]), (3, [])] K n [.v (.sl 0), .v (.int .i64 x1), .v (.int .i64 x2)] [.rows 0 false xl0] = spec_l1New.l3 k xl0 (fun (z1 : Int) => K (.exit 0) (stOf [(0, [some 0]), (3, [])] [.v (.sl 0), .v (.int .i64 z1)] [.rows 0 false xl0])) n x1 x2
  | 0, _, _ => rfl
  | n + 1, x1, x2 => (show loopN 1 (Code.den ti (spec_l1New.Γ k) (spec_l1New.LH k) (loopAt Try.f37 0)) [(0, [some 0]), (3, []), (4, [])] [(0, [some 0]), (3, [])] K (n + 1) [.v (.sl 0), .v (.int .i64 x1), .v (.int .i64 x2)] [.rows 0 false xl0] = spec_l1New.L3 k xl0 (fun (z1 : Int) => K (.exit 0) (stOf [(0, [some 0]), (3, [])] [.v (.sl 0), .v (.int .i64 z1)] [.rows 0 false xl0])) (fun (x1' : Int) (x2' : Int) => loopN 1 (Code.den ti (spec_l1New.Γ k) (spec_l1New.LH k) (loopAt Try.f37 0)) [(0, [some 0]), (3, []), (4, [])] [(0, [some 0]), (3, [])] K n [.v (.sl 0), .v (.int .i64 x1'), .v (.int .i64 x2')] [.rows 0 false xl0]) x1 x2 by kernel_rfl).trans (congrArg (fun rec => spec_l1New.L3 k xl0 (fun (z1 : Int) => K (.exit 0) (stOf [(0, [some 0]), (3, [])] [.v (.sl 0), .v (.int .i64 z1)] [.rows 0 false xl0])) rec x1 x2) (funext fun x1' => funext fun x2' => spec_l1New.e3 K k xl0 n x1' x2'))
theorem spec_l1New.q3 (k : Nat) {R : Type} (K : Ex → St κ → Option R) (vs : List AV) (bs : List (Blk κ)) (r : R) (h : spec_l1New.h3 k K vs bs = some r) : ∃ n, loopN 1 (Code.den ti (spec_l1New.Γ k) (spec_l1New.LH k) (loopAt Try.f37 0)) [(0, [some 0]), (3, []), (4, [])] [(0, [some 0]), (3, [])] K n vs bs = some r := by
  unfold spec_l1New.h3 at h
  split at h
  · obtain ⟨_, rfl, h_1⟩ := asO_bind h
    exact ⟨k, (spec_l1New.e3 K k _ k _ _).trans h_1⟩
  · cases h
theorem spec_l1New.lok (k : Nat) : LOK ti (spec_l1New.Γ k) (spec_l1New.LH k) 1 (loopsOf (bodyOf Try.f37)) :=
  (show loopsOf (bodyOf Try.f37) = [loopAt Try.f37 0] by kernel_rfl) ▸ (LOK_cons (g := ⟨1, [(0, [some 0]), (3, []), (4, [])], [(0, [some 0]), (3, [])], @spec_l1New.h3 k⟩) (by kernel_rfl) rfl (fun K vs xs r h => spec_l1New.q3 k K vs xs r h) (LOK_nil))
def spec_l1New.sig : List PSh := [.one (.ro 0)]
def spec_l1New.g (y : Int × Int) : Ret κ := ⟨.v (.ptr 1 0 0), [], [.cells 106 [.sl 0, .int .i64 y.1, .int .i64 y.2]]⟩
def spec_l1New.out (r : Ret κ) : Option (Int × Int) :=
  match r with
  | ⟨.v (.ptr 1 0 0), [], [.cells 106 [.sl 0, .int .i64 z0, .int .i64 z1]]⟩ => some (z0, z1)
  | _ => none
theorem spec_l1New.out_ok (r : Ret κ) (y : Int × Int) (h : spec_l1New.out r = some y) : r = spec_l1New.g y := by
  unfold spec_l1New.out at h
  split at h
  · obtain rfl := Option.some.inj h
    rfl
  · cases h
def spec_l1New.body (k : Nat) (vs : List AV) (bs : List (Blk κ)) : Option (Lf κ) :=
  match vs, bs with
  | [.v (.sl 0)], [qb0] => (asO 0 false qb0).bind fun a0 => some ⟨Int × Int, spec_l1New.f k a0, spec_l1New.g⟩
  | _, _ => none
def spec_l1New.C (k : Nat) : Nat → List AV → AP κ AV := contract spec_l1New.sig (spec_l1New.body k)
theorem spec_l1New.den (k : Nat) (a0 : List Int) : Code.den ti (spec_l1New.Γ k) (spec_l1New.LH k) (bodyOf Try.f37) (finK ti Try.f37.results.toList [(2, [some 0, none, none])] (flags spec_l1New.sig).length (rwI (flags spec_l1New.sig) 0) spec_l1New.out) ⟨envOf (([.v (.sl 0)]).zipIdx.map fun q => (q.2, q.1)), hpOf [.rows 0 false a0], (flags spec_l1New.sig).length⟩ = spec_l1New.f k a0 := by kernel_rfl
theorem spec_l1New.ok (k : Nat) : CSound Try.prog 37 (spec_l1New.C k) :=
  csound κ_ok mixed tok (spec_l1New.hΓ k) (LH := spec_l1New.LH k) (fn := Try.f37) (c := bodyOf Try.f37) Try.func37 rfl Try.call37 spec_l1New.sig [(2, [some 0, none, none])] (spec_l1New.body k) (by kernel_rfl) (spec_l1New.lok k) (by decide) fun vs bs lf y hl hb hy => by
    unfold spec_l1New.body at hb
    split at hb
    · obtain ⟨_, rfl, hb_1⟩ := asO_bind hb
      obtain rfl := Option.some.inj hb_1
      exact ⟨spec_l1New.out, spec_l1New.out_ok, (spec_l1New.den k _).trans hy⟩
    · cases hb
/-! ### spec_l1Byte -/
def spec_l1Byte.f (k : Nat) (a0_0 : List Int) (a0_1 : Int) (a0_2 : Int) : Option (Int × Int × Int) :=
  (bif decide (a0_1 < (a0_0.length : Int)) then (bif decide (0 ≤ a0_1) then (bif decide (a0_1 < (a0_0.length : Int)) then some ((bitop .and .i64 (w64 ((bitop .and .i64 (bitop .xor .i64 ((w64 ((w64 (a0_2 * (6364136223846793005 : Int))) + (1442695040888963407 : Int))).fdiv (2 ^ 33)) ((w64 ((w64 (a0_2 * (6364136223846793005 : Int))) + (1442695040888963407 : Int))).fdiv (2 ^ 47))) (255 : Int)) + (w64 ((rd_u8 a0_0 a0_1))))) (255 : Int)), (w64 (a0_1 + (1 : Int))), (w64 ((w64 (a0_2 * (6364136223846793005 : Int))) + (1442695040888963407 : Int)))) else none) else none) else some ((bitop .and .i64 (bitop .xor .i64 ((w64 ((w64 (a0_2 * (6364136223846793005 : Int))) + (1442695040888963407 : Int))).fdiv (2 ^ 33)) ((w64 ((w64 (a0_2 * (6364136223846793005 : Int))) + (1442695040888963407 : Int))).fdiv (2 ^ 47))) (255 : Int)), a0_1, (w64 ((w64 (a0_2 * (6364136223846793005 : Int))) + (1442695040888963407 : Int)))))
def spec_l1Byte.Γ (k : Nat) : Ct κ := assoc []
def spec_l1Byte.LH (k : Nat) : Nat → Option (LHi κ) := assoc []
theorem spec_l1Byte.hΓ (k : Nat) : ∀ f g, spec_l1Byte.Γ k f = some g → CSound Try.prog f g := G_nil
theorem spec_l1Byte.lok (k : Nat) : LOK ti (spec_l1Byte.Γ k) (spec_l1Byte.LH k) 2 (loopsOf (bodyOf Try.f90)) :=
  (show loopsOf (bodyOf Try.f90) = [] by kernel_rfl) ▸ LOK_nil
def spec_l1Byte.sig : List PSh := [.cur 106 [.ro 0, .sc, .sc]]
def spec_l1Byte.g (y : Int × Int × Int) : Ret κ := ⟨.v (.int .i64 y.1), [.cells 106 [.sl 1, .int .i64 y.2.1, .int .i64 y.2.2]], []⟩
def spec_l1Byte.out (r : Ret κ) : Option (Int × Int × Int) :=
  match r with
  | ⟨.v (.int .i64 z0), [.cells 106 [.sl 1, .int .i64 z1, .int .i64 z2]], []⟩ => some (z0, z1, z2)
  | _ => none
theorem spec_l1Byte.out_ok (r : Ret κ) (y : Int × Int × Int) (h : spec_l1Byte.out r = some y) : r = spec_l1Byte.g y := by
  unfold spec_l1Byte.out at h
  split at h
  · obtain rfl := Option.some.inj h
    rfl
  · cases h
def spec_l1Byte.body (k : Nat) (vs : List AV) (bs : List (Blk κ)) : Option (Lf κ) :=
  match vs, bs with
  | [.v (.ptr 0 0 0)], [.cells 106 [.sl 1, .int .i64 a0_1, .int .i64 a0_2], qb1] => (asO 0 false qb1).bind fun a0_0 => some ⟨Int × Int × Int, spec_l1Byte.f k a0_0 a0_1 a0_2, spec_l1Byte.g⟩
  | _, _ => none
def spec_l1Byte.C (k : Nat) : Nat → List AV → AP κ AV := contract spec_l1Byte.sig (spec_l1Byte.body k)
theorem spec_l1Byte.den (k : Nat) (a0_0 : List Int) (a0_1 : Int) (a0_2 : Int) : Code.den ti (spec_l1Byte.Γ k) (spec_l1Byte.LH k) (bodyOf Try.f90) (finK ti Try.f90.results.toList [] (flags spec_l1Byte.sig).length (rwI (flags spec_l1Byte.sig) 0) spec_l1Byte.out) ⟨envOf (([.v (.ptr 0 0 0)]).zipIdx.map fun q => (q.2, q.1)), hpOf [.cells 106 [.sl 1, .int .i64 a0_1, .int .i64 a0_2], .rows 0 false a0_0], (flags spec_l1Byte.sig).length⟩ = spec_l1Byte.f k a0_0 a0_1 a0_2 := by kernel_rfl
theorem spec_l1Byte.ok (k : Nat) : CSound Try.prog 90 (spec_l1Byte.C k) :=
  csound κ_ok mixed tok (spec_l1Byte.hΓ k) (LH := spec_l1Byte.LH k) (fn := Try.f90) (c := bodyOf Try.f90) Try.func90 rfl Try.call90 spec_l1Byte.sig [] (spec_l1Byte.body k) (by kernel_rfl) (spec_l1Byte.lok k) (by decide) fun vs bs lf y hl hb hy => by
    unfold spec_l1Byte.body at hb
    split at hb
    · obtain ⟨_, rfl, hb_1⟩ := asO_bind hb
      obtain rfl := Option.some.inj hb_1
      exact ⟨spec_l1Byte.out, spec_l1Byte.out_ok, (spec_l1Byte.den k _ _ _).trans hy⟩
    · cases hb
/-! ### spec_l1Below -/
def spec_l1Below.f (k : Nat) (a0_0 : List Int) (a0_1 : Int) (a0_2 : Int) (a1 : Int) : Option (Int × Int × Int) :=
  (bif decide (a1 ≤ (0 : Int)) then some ((0 : Int), a0_1, a0_2) else (bif decide (a1 ≤ (256 : Int)) then (spec_l1Byte.f k a0_0 a0_1 a0_2).bind fun t1 => (bif decide (a1 = 0) then none else some ((t1.1.tmod a1), t1.2.1, t1.2.2)) else (spec_l1Byte.f k a0_0 a0_1 a0_2).bind fun t2 => (spec_l1Byte.f k a0_0 t2.2.1 t2.2.2).bind fun t3 => (spec_l1Byte.f k a0_0 t3.2.1 t3.2.2).bind fun t4 => (bif decide (a1 = 0) then none else some (((w64 ((w64 ((w64 (t2.1 * (65536 : Int))) + (w64 (t3.1 * (256 : Int))))) + t4.1)).tmod a1), t4.2.1, t4.2.2))))
def spec_l1Below.Γ (k : Nat) : Ct κ := assoc [(90, spec_l1Byte.C k)]
def spec_l1Below.LH (k : Nat) : Nat → Option (LHi κ) := assoc []
theorem spec_l1Below.hΓ (k : Nat) : ∀ f g, spec_l1Below.Γ k f = some g → CSound Try.prog f g := G_cons (spec_l1Byte.ok k) G_nil
theorem spec_l1Below.lok (k : Nat) : LOK ti (spec_l1Below.Γ k) (spec_l1Below.LH k) 2 (loopsOf (bodyOf Try.f62)) :=
  (show loopsOf (bodyOf Try.f62) = [] by kernel_rfl) ▸ LOK_nil
def spec_l1Below.sig : List PSh := [.cur 106 [.ro 0, .sc, .sc], .one .sc]
def spec_l1Below.g (y : Int × Int × Int) : Ret κ := ⟨.v (.int .i64 y.1), [.cells 106 [.sl 1, .int .i64 y.2.1, .int .i64 y.2.2]], []⟩
def spec_l1Below.out (r : Ret κ) : Option (Int × Int × Int) :=
  match r with
  | ⟨.v (.int .i64 z0), [.cells 106 [.sl 1, .int .i64 z1, .int .i64 z2]], []⟩ => some (z0, z1, z2)
  | _ => none
theorem spec_l1Below.out_ok (r : Ret κ) (y : Int × Int × Int) (h : spec_l1Below.out r = some y) : r = spec_l1Below.g y := by
  unfold spec_l1Below.out at h
  split at h
  · obtain rfl := Option.some.inj h
    rfl
  · cases h
def spec_l1Below.body (k : Nat) (vs : List AV) (bs : List (Blk κ)) : Option (Lf κ) :=
  match vs, bs with
  | [.v (.ptr 0 0 0), .v (.int .i64 a1)], [.cells 106 [.sl 1, .int .i64 a0_1, .int .i64 a0_2], qb1] => (asO 0 false qb1).bind fun a0_0 => some ⟨Int × Int × Int, spec_l1Below.f k a0_0 a0_1 a0_2 a1, spec_l1Below.g⟩
  | _, _ => none
def spec_l1Below.C (k : Nat) : Nat → List AV → AP κ AV := contract spec_l1Below.sig (spec_l1Below.body k)
theorem spec_l1Below.den (k : Nat) (a0_0 : List Int) (a0_1 : Int) (a0_2 : Int) (a1 : Int) : Code.den ti (spec_l1Below.Γ k) (spec_l1Below.LH k) (bodyOf Try.f62) (finK ti Try.f62.results.toList [] (flags spec_l1Below.sig).length (rwI (flags spec_l1Below.sig) 0) spec_l1Below.out) ⟨envOf (([.v (.ptr 0 0 0), .v (.int .i64 a1)]).zipIdx.map fun q => (q.2, q.1)), hpOf [.cells 106 [.sl 1, .int .i64 a0_1, .int .i64 a0_2], .rows 0 false a0_0], (flags spec_l1Below.sig).length⟩ = spec_l1Below.f k a0_0 a0_1 a0_2 a1 := by kernel_rfl
theorem spec_l1Below.ok (k : Nat) : CSound Try.prog 62 (spec_l1Below.C k) :=
  csound κ_ok mixed tok (spec_l1Below.hΓ k) (LH := spec_l1Below.LH k) (fn := Try.f62) (c := bodyOf Try.f62) Try.func62 rfl Try.call62 spec_l1Below.sig [] (spec_l1Below.body k) (by kernel_rfl) (spec_l1Below.lok k) (by decide) fun vs bs lf y hl hb hy => by
    unfold spec_l1Below.body at hb
    split at hb
    · obtain ⟨_, rfl, hb_1⟩ := asO_bind hb
      obtain rfl := Option.some.inj hb_1
      exact ⟨spec_l1Below.out, spec_l1Below.out_ok, (spec_l1Below.den k _ _ _ _).trans hy⟩
    · cases hb
/-! ### spec_l1In -/
def spec_l1In.f (k : Nat) (a0 : Int) (a1 : Int) (a2 : Int) : Option Bool :=
  (bif decide (a0 ≥ a1) then some (decide (a0 ≤ a2)) else some false)
def spec_l1In.Γ (k : Nat) : Ct κ := assoc []
def spec_l1In.LH (k : Nat) : Nat → Option (LHi κ) := assoc []
theorem spec_l1In.hΓ (k : Nat) : ∀ f g, spec_l1In.Γ k f = some g → CSound Try.prog f g := G_nil
theorem spec_l1In.lok (k : Nat) : LOK ti (spec_l1In.Γ k) (spec_l1In.LH k) 0 (loopsOf (bodyOf Try.f66)) :=
  (show loopsOf (bodyOf Try.f66) = [] by kernel_rfl) ▸ LOK_nil
def spec_l1In.sig : List PSh := [.one .sc, .one .sc, .one .sc]
def spec_l1In.g (y : Bool) : Ret κ := ⟨.v (.bool y), [], []⟩
def spec_l1In.out (r : Ret κ) : Option Bool :=
  match r with
  | ⟨.v (.bool z0), [], []⟩ => some (z0)
  | _ => none
theorem spec_l1In.out_ok (r : Ret κ) (y : Bool) (h : spec_l1In.out r = some y) : r = spec_l1In.g y := by
  unfold spec_l1In.out at h
  split at h
  · obtain rfl := Option.some.inj h
    rfl
  · cases h
def spec_l1In.body (k : Nat) (vs : List AV) (bs : List (Blk κ)) : Option (Lf κ) :=
  match vs, bs with
  | [.v (.int .i64 a0), .v (.int .i64 a1), .v (.int .i64 a2)], [] => some ⟨Bool, spec_l1In.f k a0 a1 a2, spec_l1In.g⟩
  | _, _ => none
def spec_l1In.C (k : Nat) : Nat → List AV → AP κ AV := contract spec_l1In.sig (spec_l1In.body k)
theorem spec_l1In.den (k : Nat) (a0 : Int) (a1 : Int) (a2 : Int) : Code.den ti (spec_l1In.Γ k) (spec_l1In.LH k) (bodyOf Try.f66) (finK ti Try.f66.results.toList [] (flags spec_l1In.sig).length (rwI (flags spec_l1In.sig) 0) spec_l1In.out) ⟨envOf (([.v (.int .i64 a0), .v (.int .i64 a1), .v (.int .i64 a2)]).zipIdx.map fun q => (q.2, q.1)), hpOf [], (flags spec_l1In.sig).length⟩ = spec_l1In.f k a0 a1 a2 := by kernel_rfl
theorem spec_l1In.ok (k : Nat) : CSound Try.prog 66 (spec_l1In.C k) :=
  csound κ_ok mixed tok (spec_l1In.hΓ k) (LH := spec_l1In.LH k) (fn := Try.f66) (c := bodyOf Try.f66) Try.func66 rfl Try.call66 spec_l1In.sig [] (spec_l1In.body k) (by kernel_rfl) (spec_l1In.lok k) (by decide) fun vs bs lf y hl hb hy => by
    unfold spec_l1In.body at hb
    split at hb
    · obtain rfl := Option.some.inj hb
      exact ⟨spec_l1In.out, spec_l1In.out_ok, (spec_l1In.den k _ _ _).trans hy⟩
    · cases hb
/-! ### spec_l24Less -/
def spec_l24Less.f (k : Nat) (a0_0 : Int) (a0_1 : Int) (a0_2 : Int) (a0_3 : Int) (a1_0 : Int) (a1_1 : Int) (a1_2 : Int) (a1_3 : Int) : Option Bool :=
  (bif decide (a0_0 < a1_0) then some true else (bif (a0_0 == a1_0) then some (decide (a0_1 < a1_1)) else some false))
def spec_l24Less.Γ (k : Nat) : Ct κ := assoc []
def spec_l24Less.LH (k : Nat) : Nat → Option (LHi κ) := assoc []
theorem spec_l24Less.hΓ (k : Nat) : ∀ f g, spec_l24Less.Γ k f = some g → CSound Try.prog f g := G_nil
theorem spec_l24Less.lok (k : Nat) : LOK ti (spec_l24Less.Γ k) (spec_l24Less.LH k) 0 (loopsOf (bodyOf Try.f67)) :=
  (show loopsOf (bodyOf Try.f67) = [] by kernel_rfl) ▸ LOK_nil
def spec_l24Less.sig : List PSh := [.agg [.sc, .sc, .sc, .sc], .agg [.sc, .sc, .sc, .sc]]
def spec_l24Less.g (y : Bool) : Ret κ := ⟨.v (.bool y), [], []⟩
def spec_l24Less.out (r : Ret κ) : Option Bool :=
  match r with
  | ⟨.v (.bool z0), [], []⟩ => some (z0)
  | _ => none
theorem spec_l24Less.out_ok (r : Ret κ) (y : Bool) (h : spec_l24Less.out r = some y) : r = spec_l24Less.g y := by
  unfold spec_l24Less.out at h
  split at h
  · obtain rfl := Option.some.inj h
    rfl
  · cases h
def spec_l24Less.body (k : Nat) (vs : List AV) (bs : List (Blk κ)) : Option (Lf κ) :=
  match vs, bs with
  | [.agg [.int .i64 a0_0, .int .i64 a0_1, .int .i64 a0_2, .int .i64 a0_3], .agg [.int .i64 a1_0, .int .i64 a1_1, .int .i64 a1_2, .int .i64 a1_3]], [] => some ⟨Bool, spec_l24Less.f k a0_0 a0_1 a0_2 a0_3 a1_0 a1_1 a1_2 a1_3, spec_l24Less.g⟩
  | _, _ => none
def spec_l24Less.C (k : Nat) : Nat → List AV → AP κ AV := contract spec_l24Less.sig (spec_l24Less.body k)
theorem spec_l24Less.den (k : Nat) (a0_0 : Int) (a0_1 : Int) (a0_2 : Int) (a0_3 : Int) (a1_0 : Int) (a1_1 : Int) (a1_2 : Int) (a1_3 : Int) : Code.den ti (spec_l24Less.Γ k) (spec_l24Less.LH k) (bodyOf Try.f67) (finK ti Try.f67.results.toList [] (flags spec_l24Less.sig).length (rwI (flags spec_l24Less.sig) 0) spec_l24Less.out) ⟨envOf (([.agg [.int .i64 a0_0, .int .i64 a0_1, .int .i64 a0_2, .int .i64 a0_3], .agg [.int .i64 a1_0, .int .i64 a1_1, .int .i64 a1_2, .int .i64 a1_3]]).zipIdx.map fun q => (q.2, q.1)), hpOf [], (flags spec_l24Less.sig).length⟩ = spec_l24Less.f k a0_0 a0_1 a0_2 a0_3 a1_0 a1_1 a1_2 a1_3 := by kernel_rfl
theorem spec_l24Less.ok (k : Nat) : CSound Try.prog 67 (spec_l24Less.C k) :=
  csound κ_ok mixed tok (spec_l24Less.hΓ k) (LH := spec_l24Less.LH k) (fn := Try.f67) (c := bodyOf Try.f67) Try.func67 rfl Try.call67 spec_l24Less.sig [] (spec_l24Less.body k) (by kernel_rfl) (spec_l24Less.lok k) (by decide) fun vs bs lf y hl hb hy => by
    unfold spec_l24Less.body at hb
    split at hb
    · obtain rfl := Option.some.inj hb
      exact ⟨spec_l24Less.out, spec_l24Less.out_ok, (spec_l24Less.den k _ _ _ _ _ _ _ _).trans hy⟩
    · cases hb
/-! ### spec_IsStore -/
def spec_IsStore.L2 {R : Type} (k : Nat) (xl0 : List T_impl_Stored) (X0 : Bool → Option R) (X1 : Unit → Option R) (rec : Int → Option R) (x1 : Int) : Option R :=
  (bif decide (x1 < (xl0.length : Int)) then (bif decide (0 ≤ x1) then (bif decide (x1 < (xl0.length : Int)) then (spec_l1In.f k ((rd_impl_Stored xl0 x1).f0) (1 : Int) (5 : Int)).bind fun t1 => (bif !t1 then (X0 false) else (spec_l1In.f k ((rd_impl_Stored xl0 x1).f1) (0 : Int) (9 : Int)).bind fun t2 => (bif !t2 then (X0 false) else (spec_l1In.f k ((rd_impl_Stored xl0 x1).f2) (0 : Int) (999 : Int)).bind fun t3 => (bif !t3 then (X0 false) else (spec_l1In.f k ((rd_impl_Stored xl0 x1).f3) (1 : Int) (999 : Int)).bind fun t4 => (bif !t4 then (X0 false) else (bif decide (x1 > (0 : Int)) then (bif decide (0 ≤ (w64 (x1 - (1 : Int)))) then (bif decide ((w64 (x1 - (1 : Int))) < (xl0.length : Int)) then (spec_l24Less.f k ((rd_impl_Stored xl0 (w64 (x1 - (1 : Int)))).f0) ((rd_impl_Stored xl0 (w64 (x1 - (1 : Int)))).f1) ((rd_impl_Stored xl0 (w64 (x1 - (1 : Int)))).f2) ((rd_impl_Stored xl0 (w64 (x1 - (1 : Int)))).f3) ((rd_impl_Stored xl0 x1).f0) ((rd_impl_Stored xl0 x1).f1) ((rd_impl_Stored xl0 x1).f2) ((rd_impl_Stored xl0 x1).f3)).bind fun t5 => (bif !t5 then (X0 false) else (rec (w64 (x1 + (1 : Int))))) else none) else none) else (rec (w64 (x1 + (1 : Int))))))))) else none) else none) else (X1 ()))
def spec_IsStore.l2 {R : Type} (k : Nat) (xl0 : List T_impl_Stored) (X0 : Bool → Option R) (X1 : Unit → Option R) : Nat → Int → Option R
  | 0 => fun _ => none
  | n + 1 => spec_IsStore.L2 k xl0 X0 X1 (spec_IsStore.l2 k xl0 X0 X1 n)
def spec_IsStore.f (k : Nat) (a0 : List T_impl_Stored) : Option Bool :=
  (spec_IsStore.l2 k a0 (fun (y6 : Bool) => some y6) (fun (_ : Unit) => some (decide ((a0.length : Int) ≤ (24 : Int)))) k (0 : Int))
def spec_IsStore.h2 (k : Nat) {R : Type} (K : Ex → St κ → Option R) (vs : List AV) (bs : List (Blk κ)) : Option R :=
  match vs, bs with
  | [.v (.sl 0), .v (.int .i64 x1)], [qb0] => (asO 1 false qb0).bind fun xl0 => spec_IsStore.l2 k xl0 (fun (z1 : Bool) => K .ret (stOf [(0, [some 1]), (2, [])] [.v (.sl 0), .v (.bool z1)] [.rows 1 false xl0])) (fun (_ : Unit) => K (.exit 0) (stOf [(0, [some 1]), (2, [])] [.v (.sl 0), .v .any] [.rows 1 false xl0])) k x1
  | _, _ => none
def spec_IsStore.Γ (k : Nat) : Ct κ := assoc [(66, spec_l1In.C k), (67, spec_l24Less.C k)]
def spec_IsStore.LH (k : Nat) : Nat → Option (LHi κ) := assoc [(2, ⟨1, [(0, [some 1]), (3, [])], [(0, [some 1]), (2, [])], @spec_IsStore.h2 k⟩)]
theorem spec_IsStore.hΓ (k : Nat) : ∀ f g, spec_IsStore.Γ k f = some g → CSound Try.prog f g := G_cons (spec_l1In.ok k) (G_cons (spec_l24Less.ok k) G_nil)
theorem spec_IsStore.e2 {R : Type} (K : Ex → St κ → Option R) (k : Nat) (xl0 : List T_impl_Stored) : ∀ (n : Nat) (x1 : Int), loopN 1 (Code.den ti (spec_IsStore.Γ k) (spec_IsStore.LH k) (loopAt Try.f45 0)) [(0, [some 1]), (3, [])] [(0, [some 1]), (2, [])] K n [.v (.sl 0), .v (.int .i64 x1)] [.rows 1 false xl0] = spec_IsStore.l2 k xl0 (fun (z1 : Bool) => K .ret (stOf [(0, [some 1]), (2, [])] [.v (.sl 0), .v (.bool z1)] [.rows 1 false xl0])) (fun (_ : Unit) => K (.exit 0) (stOf [(0, [some 1]), (2, [])] [.v (.sl 0), .v .any] [.rows 1 false xl0])) n x1
  | 0, _ => rfl
  | n + 1, x1 => (show loopN 1 (Code.den ti (spec_IsStore.Γ k) (spec_IsStore.LH k) (loopAt Try.f45 0)) [(0, [some 1]), (3, [])] [(0, [some 1]), (2, [])] K (n + 1) [.v (.sl 0), .v (.int .i64 x1)] [.rows 1 false xl0] = spec_IsStore.L2 k xl0 (fun (z1 : Bool) => K .ret (stOf [(0, [some 1]), (2, [])] [.v (.sl 0), .v (.bool z1)] [.rows 1 false xl0])) (fun (_ : Unit) => K (.exit 0) (stOf [(0, [some 1]), (2, [])] [.v (.sl 0), .v .any] [.rows 1 false xl0])) (fun (x1' : Int) => loopN 1 (Code.den ti (spec_IsStore.Γ k) (spec_IsStore.LH k) (loopAt Try.f45 0)) [(0, [some 1]), (3, [])] [(0, [some 1]), (2, [])] K n [.v (.sl 0), .v (.int .i64 x1')] [.rows 1 false xl0]) x1 by kernel_rfl).trans (congrArg (fun rec => spec_IsStore.L2 k xl0 (fun (z1 : Bool) => K .ret (stOf [(0, [some 1]), (2, [])] [.v (.sl 0), .v (.bool z1)] [.rows 1 false xl0])) (fun (_ : Unit) => K (.exit 0) (stOf [(0, [some 1]), (2, [])] [.v (.sl 0), .v .any] [.rows 1 false xl0])) rec x1) (funext fun x1' => spec_IsStore.e2 K k xl0 n x1'))
theorem spec_IsStore.q2 (k : Nat) {R : Type} (K : Ex → St κ → Option R) (vs : List AV) (bs : List (Blk κ)) (r : R) (h : spec_IsStore.h2 k K vs bs = some r) : ∃ n, loopN 1 (Code.den ti (spec_IsStore.Γ k) (spec_IsStore.LH k) (loopAt Try.f45 0)) [(0, [some 1]), (3, [])] [(0, [some 1]), (2, [])] K n vs bs = some r := by
  unfold spec_IsStore.h2 at h
  split at h
  · obtain ⟨_, rfl, h_1⟩ := asO_bind h
    exact ⟨k, (spec_IsStore.e2 K k _ k _).trans h_1⟩
  · cases h
theorem spec_IsStore.lok (k : Nat) : LOK ti (spec_IsStore.Γ k) (spec_IsStore.LH k) 1 (loopsOf (bodyOf Try.f45)) :=
  (show loopsOf (bodyOf Try.f45) = [loopAt Try.f45 0] by kernel_rfl) ▸ (LOK_cons (g := ⟨1, [(0, [some 1]), (3, [])], [(0, [some 1]), (2, [])], @spec_IsStore.h2 k⟩) (by kernel_rfl) rfl (fun K vs xs r h => spec_IsStore.q2 k K vs xs r h) (LOK_nil))
def spec_IsStore.sig : List PSh := [.one (.ro 1)]
def spec_IsStore.g (y : Bool) : Ret κ := ⟨.v (.bool y), [], []⟩
def spec_IsStore.out (r : Ret κ) : Option Bool :=
  match r with
  | ⟨.v (.bool z0), [], []⟩ => some (z0)
  | _ => none
theorem spec_IsStore.out_ok (r : Ret κ) (y : Bool) (h : spec_IsStore.out r = some y) : r = spec_IsStore.g y := by
  unfold spec_IsStore.out at h
  split at h
  · obtain rfl := Option.some.inj h
    rfl
  · cases h
def spec_IsStore.body (k : Nat) (vs : List AV) (bs : List (Blk κ)) : Option (Lf κ) :=
  match vs, bs with
  | [.v (.sl 0)], [qb0] => (asO 1 false qb0).bind fun a0 => some ⟨Bool, spec_IsStore.f k a0, spec_IsStore.g⟩
  | _, _ => none
def spec_IsStore.C (k : Nat) : Nat → List AV → AP κ AV := contract spec_IsStore.sig (spec_IsStore.body k)
theorem spec_IsStore.den (k : Nat) (a0 : List T_impl_Stored) : Code.den ti (spec_IsStore.Γ k) (spec_IsStore.LH k) (bodyOf Try.f45) (finK ti Try.f45.results.toList [] (flags spec_IsStore.sig).length (rwI (flags spec_IsStore.sig) 0) spec_IsStore.out) ⟨envOf (([.v (.sl 0)]).zipIdx.map fun q => (q.2, q.1)), hpOf [.rows 1 false a0], (flags spec_IsStore.sig).length⟩ = spec_IsStore.f k a0 := by kernel_rfl
theorem spec_IsStore.ok (k : Nat) : CSound Try.prog 45 (spec_IsStore.C k) :=
  csound κ_ok mixed tok (spec_IsStore.hΓ k) (LH := spec_IsStore.LH k) (fn := Try.f45) (c := bodyOf Try.f45) Try.func45 rfl Try.call45 spec_IsStore.sig [] (spec_IsStore.body k) (by kernel_rfl) (spec_IsStore.lok k) (by decide) fun vs bs lf y hl hb hy => by
    unfold spec_IsStore.body at hb
    split at hb
    · obtain ⟨_, rfl, hb_1⟩ := asO_bind hb
      obtain rfl := Option.some.inj hb_1
      exact ⟨spec_IsStore.out, spec_IsStore.out_ok, (spec_IsStore.den k _).trans hy⟩
    · cases hb
/-! ### spec_l24Find -/
def spec_l24Find.L2 {R : Type} (k : Nat) (x1 : Int) (x2 : Int) (xl0 : List T_impl_Stored) (X0 : Int → Option R) (X1 : Unit → Option R) (rec : Int → Option R) (x3 : Int) : Option R :=
  (bif decide (x3 < (xl0.length : Int)) then (bif decide (0 ≤ x3) then (bif decide (x3 < (xl0.length : Int)) then (bif ((rd_impl_Stored xl0 x3).f0 == x1) then (bif decide (0 ≤ x3) then (bif decide (x3 < (xl0.length : Int)) then (bif ((rd_impl_Stored xl0 x3).f1 == x2) then (X0 x3) else (rec (w64 (x3 + (1 : Int))))) else none) else none) else (rec (w64 (x3 + (1 : Int))))) else none) else none) else (X1 ()))
def spec_l24Find.l2 {R : Type} (k : Nat) (x1 : Int) (x2 : Int) (xl0 : List T_impl_Stored) (X0 : Int → Option R) (X1 : Unit → Option R) : Nat → Int → Option R
  | 0 => fun _ => none
  | n + 1 => spec_l24Find.L2 k x1 x2 xl0 X0 X1 (spec_l24Find.l2 k x1 x2 xl0 X0 X1 n)
def spec_l24Find.f (k : Nat) (a0 : List T_impl_Stored) (a1 : Int) (a2 : Int) : Option Int :=
  (spec_l24Find.l2 k a1 a2 a0 (fun (y1 : Int) => some y1) (fun (_ : Unit) => some (-1 : Int)) k (0 : Int))
def spec_l24Find.h2 (k : Nat) {R : Type} (K : Ex → St κ → Option R) (vs : List AV) (bs : List (Blk κ)) : Option R :=
  match vs, bs with
  | [.v (.sl 0), .v (.int .i64 x1), .v (.int .i64 x2), .v (.int .i64 x3)], [qb0] => (asO 1 false qb0).bind fun xl0 => spec_l24Find.l2 k x1 x2 xl0 (fun (z0 : Int) => K .ret (stOf [(6, [])] [.v (.int .i64 z0)] [.rows 1 false xl0])) (fun (_ : Unit) => K (.exit 0) (stOf [(6, [])] [.v .any] [.rows 1 false xl0])) k x3
  | _, _ => none
def spec_l24Find.Γ (k : Nat) : Ct κ := assoc []
def spec_l24Find.LH (k : Nat) : Nat → Option (LHi κ) := assoc [(2, ⟨1, [(0, [some 1]), (1, []), (2, []), (7, [])], [(6, [])], @spec_l24Find.h2 k⟩)]
theorem spec_l24Find.hΓ (k : Nat) : ∀ f g, spec_l24Find.Γ k f = some g → CSound Try.prog f g := G_nil
theorem spec_l24Find.e2 {R : Type} (K : Ex → St κ → Option R) (k : Nat) (x1 : Int) (x2 : Int) (xl0 : List T_impl_Stored) : ∀ (n : Nat) (x3 : Int), loopN 1 (Code.den ti (spec_l24Find.Γ k) (spec_l24Find.LH k) (loopAt Try.f46 0)) [(0, [some 1]), (1, []), (2, []), (7, [])] [(6, [])] K n [.v (.sl 0), .v (.int .i64 x1), .v (.int .i64 x2), .v (.int .i64 x3)] [.rows 1 false xl0] = spec_l24Find.l2 k x1 x2 xl0 (fun (z0 : Int) => K .ret (stOf [(6, [])] [.v (.int .i64 z0)] [.rows 1 false xl0])) (fun (_ : Unit) => K (.exit 0) (stOf [(6, [])] [.v .any] [.rows 1 false xl0])) n x3
  | 0, _ => rfl
  | n + 1, x3 => (show loopN 1 (Code.den ti (spec_l24Find.Γ k) (spec_l24Find.LH k) (loopAt Try.f46 0)) [(0, [some 1]), (1, []), (2, []), (7, [])] [(6, [])] K (n + 1) [.v (.sl 0), .v (.int .i64 x1), .v (.int .i64 x2), .v (.int .i64 x3)] [.rows 1 false xl0] = spec_l24Find.L2 k x1 x2 xl0 (fun (z0 : Int) => K .ret (stOf [(6, [])] [.v (.int .i64 z0)] [.rows 1 false xl0])) (fun (_ : Unit) => K (.exit 0) (stOf [(6, [])] [.v .any] [.rows 1 false xl0])) (fun (x3' : Int) => loopN 1 (Code.den ti (spec_l24Find.Γ k) (spec_l24Find.LH k) (loopAt Try.f46 0)) [(0, [some 1]), (1, []), (2, []), (7, [])] [(6, [])] K n [.v (.sl 0), .v (.int .i64 x1), .v (.int .i64 x2), .v (.int .i64 x3')] [.rows 1 false xl0]) x3 by kernel_rfl).trans (congrArg (fun rec => spec_l24Find.L2 k x1 x2 xl0 (fun (z0 : Int) => K .ret (stOf [(6, [])] [.v (.int .i64 z0)] [.rows 1 false xl0])) (fun (_ : Unit) => K (.exit 0) (stOf [(6, [])] [.v .any] [.rows 1 false xl0])) rec x3) (funext fun x3' => spec_l24Find.e2 K k x1 x2 xl0 n x3'))
theorem spec_l24Find.q2 (k : Nat) {R : Type} (K : Ex → St κ → Option R) (vs : List AV) (bs : List (Blk κ)) (r : R) (h : spec_l24Find.h2 k K vs bs = some r) : ∃ n, loopN 1 (Code.den ti (spec_l24Find.Γ k) (spec_l24Find.LH k) (loopAt Try.f46 0)) [(0, [some 1]), (1, []), (2, []), (7, [])] [(6, [])] K n vs bs = some r := by
  unfold spec_l24Find.h2 at h
  split at h
  · obtain ⟨_, rfl, h_1⟩ := asO_bind h
    exact ⟨k, (spec_l24Find.e2 K k _ _ _ k _).trans h_1⟩
  · cases h
theorem spec_l24Find.lok (k : Nat) : LOK ti (spec_l24Find.Γ k) (spec_l24Find.LH k) 1 (loopsOf (bodyOf Try.f46)) :=
  (show loopsOf (bodyOf Try.f46) = [loopAt Try.f46 0] by kernel_rfl) ▸ (LOK_cons (g := ⟨1, [(0, [some 1]), (1, []), (2, []), (7, [])], [(6, [])], @spec_l24Find.h2 k⟩) (by kernel_rfl) rfl (fun K vs xs r h => spec_l24Find.q2 k K vs xs r h) (LOK_nil))
def spec_l24Find.sig : List PSh := [.one (.ro 1), .one .sc, .one .sc]
def spec_l24Find.g (y : Int) : Ret κ := ⟨.v (.int .i64 y), [], []⟩
def spec_l24Find.out (r : Ret κ) : Option Int :=
  match r with
  | ⟨.v (.int .i64 z0), [], []⟩ => some (z0)
  | _ => none
theorem spec_l24Find.out_ok (r : Ret κ) (y : Int) (h : spec_l24Find.out r = some y) : r = spec_l24Find.g y := by
  unfold spec_l24Find.out at h
  split at h
  · obtain rfl := Option.some.inj h
    rfl
  · cases h
def spec_l24Find.body (k : Nat) (vs : List AV) (bs : List (Blk κ)) : Option (Lf κ) :=
  match vs, bs with
  | [.v (.sl 0), .v (.int .i64 a1), .v (.int .i64 a2)], [qb0] => (asO 1 false qb0).bind fun a0 => some ⟨Int, spec_l24Find.f k a0 a1 a2, spec_l24Find.g⟩
  | _, _ => none
def spec_l24Find.C (k : Nat) : Nat → List AV → AP κ AV := contract spec_l24Find.sig (spec_l24Find.body k)
theorem spec_l24Find.den (k : Nat) (a0 : List T_impl_Stored) (a1 : Int) (a2 : Int) : Code.den ti (spec_l24Find.Γ k) (spec_l24Find.LH k) (bodyOf Try.f46) (finK ti Try.f46.results.toList [] (flags spec_l24Find.sig).length (rwI (flags spec_l24Find.sig) 0) spec_l24Find.out) ⟨envOf (([.v (.sl 0), .v (.int .i64 a1), .v (.int .i64 a2)]).zipIdx.map fun q => (q.2, q.1)), hpOf [.rows 1 false a0], (flags spec_l24Find.sig).length⟩ = spec_l24Find.f k a0 a1 a2 := by kernel_rfl
theorem spec_l24Find.ok (k : Nat) : CSound Try.prog 46 (spec_l24Find.C k) :=
  csound κ_ok mixed tok (spec_l24Find.hΓ k) (LH := spec_l24Find.LH k) (fn := Try.f46) (c := bodyOf Try.f46) Try.func46 rfl Try.call46 spec_l24Find.sig [] (spec_l24Find.body k) (by kernel_rfl) (spec_l24Find.lok k) (by decide) fun vs bs lf y hl hb hy => by
    unfold spec_l24Find.body at hb
    split at hb
    · obtain ⟨_, rfl, hb_1⟩ := asO_bind hb
      obtain rfl := Option.some.inj hb_1
      exact ⟨spec_l24Find.out, spec_l24Find.out_ok, (spec_l24Find.den k _ _ _).trans hy⟩
    · cases hb
/-! ### spec_l24Set -/
def spec_l24Set.L3 {R : Type} (k : Nat) (xl0 : List T_impl_Stored) (xc1_0 : Int) (xc1_1 : Int) (xc1_2 : Int) (xc1_3 : Int) (X0 : Int → List T_impl_Stored → Option R) (rec : Int → List T_impl_Stored → Option R) (x3 : Int) (xl2 : List T_impl_Stored) : Option R :=
  (bif decide (x3 < (xl0.length : Int)) then (bif decide (0 ≤ x3) then (bif decide (x3 < (xl0.length : Int)) then (spec_l24Less.f k ((rd_impl_Stored xl0 x3).f0) ((rd_impl_Stored xl0 x3).f1) ((rd_impl_Stored xl0 x3).f2) ((rd_impl_Stored xl0 x3).f3) xc1_0 xc1_1 xc1_2 xc1_3).bind fun t1 => (bif t1 then (bif decide (0 ≤ x3) then (bif decide (x3 < (xl0.length : Int)) then (bif decide ((xl2.length + ([(⟨(rd_impl_Stored xl0 x3).f0, (rd_impl_Stored xl0 x3).f1, (rd_impl_Stored xl0 x3).f2, (rd_impl_Stored xl0 x3).f3⟩ : T_impl_Stored)] : List T_impl_Stored).length) * 32 ≤ cap48) then (let l2 : List T_impl_Stored := (xl2 ++ ([(⟨(rd_impl_Stored xl0 x3).f0, (rd_impl_Stored xl0 x3).f1, (rd_impl_Stored xl0 x3).f2, (rd_impl_Stored xl0 x3).f3⟩ : T_impl_Stored)] : List T_impl_Stored)); (rec (w64 (x3 + (1 : Int))) l2)) else none) else none) else none) else (X0 x3 xl2)) else none) else none) else (X0 x3 xl2))
def spec_l24Set.l3 {R : Type} (k : Nat) (xl0 : List T_impl_Stored) (xc1_0 : Int) (xc1_1 : Int) (xc1_2 : Int) (xc1_3 : Int) (X0 : Int → List T_impl_Stored → Option R) : Nat → Int → List T_impl_Stored → Option R
  | 0 => fun _ _ => none
  | n + 1 => spec_l24Set.L3 k xl0 xc1_0 xc1_1 xc1_2 xc1_3 X0 (spec_l24Set.l3 k xl0 xc1_0 xc1_1 xc1_2 xc1_3 X0 n)
def spec_l24Set.f (k : Nat) (a0 : List T_impl_Stored) (a1_0 : Int) (a1_1 : Int) (a1_2 : Int) (a1_3 : Int) : Option (List T_impl_Stored) :=
  (spec_l24Set.l3 k a0 a1_0 a1_1 a1_2 a1_3 (fun (y3 : Int) (y4 : List T_impl_Stored) => (bif decide ((y4.length + ([(⟨a1_0, a1_1, a1_2, a1_3⟩ : T_impl_Stored)] : List T_impl_Stored).length) * 32 ≤ cap48) then (let l5 : List T_impl_Stored := (y4 ++ ([(⟨a1_0, a1_1, a1_2, a1_3⟩ : T_impl_Stored)] : List T_impl_Stored)); (bif decide (y3 < (a0.length : Int)) then (bif decide (0 ≤ y3) then (bif decide (y3 < (a0.length : Int)) then (spec_l24Less.f k a1_0 a1_1 a1_2 a1_3 ((rd_impl_Stored a0 y3).f0) ((rd_impl_Stored a0 y3).f1) ((rd_impl_Stored a0 y3).f2) ((rd_impl_Stored a0 y3).f3)).bind fun t6 => (bif !t6 then (bif decide (0 ≤ (a0.length : Int)) then (bif decide ((a0.length : Int) ≤ (a0.length : Int)) then (bif decide (0 ≤ (w64 (y3 + (1 : Int)))) then (bif decide ((w64 (y3 + (1 : Int))) ≤ (a0.length : Int)) then (bif decide ((l5.length + ((a0.take ((a0.length : Int)).toNat).drop ((w64 (y3 + (1 : Int)))).toNat).length) * 32 ≤ cap48) then (let l7 : List T_impl_Stored := (l5 ++ ((a0.take ((a0.length : Int)).toNat).drop ((w64 (y3 + (1 : Int)))).toNat)); some l7) else none) else none) else none) else none) else none) else (bif decide (0 ≤ (a0.length : Int)) then (bif decide ((a0.length : Int) ≤ (a0.length : Int)) then (bif decide (0 ≤ y3) then (bif decide (y3 ≤ (a0.length : Int)) then (bif decide ((l5.length + ((a0.take ((a0.length : Int)).toNat).drop (y3).toNat).length) * 32 ≤ cap48) then (let l8 : List T_impl_Stored := (l5 ++ ((a0.take ((a0.length : Int)).toNat).drop (y3).toNat)); some l8) else none) else none) else none) else none) else none)) else none) else none) else (bif decide (0 ≤ (a0.length : Int)) then (bif decide ((a0.length : Int) ≤ (a0.length : Int)) then (bif decide (0 ≤ y3) then (bif decide (y3 ≤ (a0.length : Int)) then (bif decide ((l5.length + ((a0.take ((a0.length : Int)).toNat).drop (y3).toNat).length) * 32 ≤ cap48) then (let l9 : List T_impl_Stored := (l5 ++ ((a0.take ((a0.length : Int)).toNat).drop (y3).toNat)); some l9) else none) else none) else none) else none) else none))) else none)) k (0 : Int) ([] : List T_impl_Stored))
def spec_l24Set.h3 (k : Nat) {R : Type} (K : Ex → St κ → Option R) (vs : List AV) (bs : List (Blk κ)) : Option R :=
  match vs, bs with
  | [.v (.sl 0), .v (.ptr 1 0 0), .v (.sl 2), .v (.int .i64 x3)], [qb0, .cells 48 [.int .i64 xc1_0, .int .i64 xc1_1, .int .i64 xc1_2, .int .i64 xc1_3], qb2] => (asO 1 false qb0).bind fun xl0 => (asO 1 true qb2).bind fun xl2 => spec_l24Set.l3 k xl0 xc1_0 xc1_1 xc1_2 xc1_3 (fun (z3 : Int) (zl2 : List T_impl_Stored) => K (.exit 0) (stOf [(0, [some 1]), (3, []), (5, [some 1]), (6, [])] [.v (.sl 0), .v (.ptr 1 0 0), .v (.sl 2), .v (.int .i64 z3)] [.rows 1 false xl0, .cells 48 [.int .i64 xc1_0, .int .i64 xc1_1, .int .i64 xc1_2, .int .i64 xc1_3], .rows 1 true zl2])) k x3 xl2
  | _, _ => none
def spec_l24Set.Γ (k : Nat) : Ct κ := assoc [(67, spec_l24Less.C k)]
def spec_l24Set.LH (k : Nat) : Nat → Option (LHi κ) := assoc [(3, ⟨1, [(0, [some 1]), (3, []), (5, [some 1]), (6, [])], [(0, [some 1]), (3, []), (5, [some 1]), (6, [])], @spec_l24Set.h3 k⟩)]
theorem spec_l24Set.hΓ (k : Nat) : ∀ f g, spec_l24Set.Γ k f = some g → CSound Try.prog f g := G_cons (spec_l24Less.ok k) G_nil
theorem spec_l24Set.e3 {R : Type} (K : Ex → St κ → Option R) (k : Nat) (xl0 : List T_impl_Stored) (xc1_0 : Int) (xc1_1 : Int) (xc1_2 : Int) (xc1_3 : Int) : ∀ (n : Nat) (x3 : Int) (xl2 : List T_impl_Stored), loopN 1 (Code.den ti (spec_l24Set.Γ k) (spec_l24Set.LH k) (loopAt Try.f47 0)) [(0, [some 1]), (3, []), (5, [some 1]), (6, [])] [(0, [some 1]), (3, []), (5, [some 1]), (6, [])] K n [.v (.sl 0), .v (.ptr 1 0 0), .v (.sl 2), .v (.int .i64 x3)] [.rows 1 false xl0, .cells 48 [.int .i64 xc1_0, .int .i64 xc1_1, .int .i64 xc1_2, .int .i64 xc1_3], .rows 1 true xl2] = spec_l24Set.l3 k xl0 xc1_0 xc1_1 xc1_2 xc1_3 (fun (z3 : Int) (zl2 : List T_impl_Stored) => K (.exit 0) (stOf [(0, [some 1]), (3, []), (5, [some 1]), (6, [])] [.v (.sl 0), .v (.ptr 1 0 0), .v (.sl 2), .v (.int .i64 z3)] [.rows 1 false xl0, .cells 48 [.int .i64 xc1_0, .int .i64 xc1_1, .int .i64 xc1_2, .int .i64 xc1_3], .rows 1 true zl2])) n x3 xl2
  | 0, _, _ => rfl
  | n + 1, x3, xl2 => (show loopN 1 (Code.den ti (spec_l24Set.Γ k) (spec_l24Set.LH k) (loopAt Try.f47 0)) [(0, [some 1]), (3, []), (5, [some 1]), (6, [])] [(0, [some 1]), (3, []), (5, [some 1]), (6, [])] K (n + 1) [.v (.sl 0), .v (.ptr 1 0 0), .v (.sl 2), .v (.int .i64 x3)] [.rows 1 false xl0, .cells 48 [.int .i64 xc1_0, .int .i64 xc1_1, .int .i64 xc1_2, .int .i64 xc1_3], .rows 1 true xl2] = spec_l24Set.L3 k xl0 xc1_0 xc1_1 xc1_2 xc1_3 (fun (z3 : Int) (zl2 : List T_impl_Stored) => K (.exit 0) (stOf [(0, [some 1]), (3, []), (5, [some 1]), (6, [])] [.v (.sl 0), .v (.ptr 1 0 0), .v (.sl 2), .v (.int .i64 z3)] [.rows 1 false xl0, .cells 48 [.int .i64 xc1_0, .int .i64 xc1_1, .int .i64 xc1_2, .int .i64 xc1_3], .rows 1 true zl2])) (fun (x3' : Int) (xl2' : List T_impl_Stored) => loopN 1 (Code.den ti (spec_l24Set.Γ k) (spec_l24Set.LH k) (loopAt Try.f47 0)) [(0, [some 1]), (3, []), (5, [some 1]), (6, [])] [(0, [some 1]), (3, []), (5, [some 1]), (6, [])] K n [.v (.sl 0), .v (.ptr 1 0 0), .v (.sl 2), .v (.int .i64 x3')] [.rows 1 false xl0, .cells 48 [.int .i64 xc1_0, .int .i64 xc1_1, .int .i64 xc1_2, .int .i64 xc1_3], .rows 1 true xl2']) x3 xl2 by kernel_rfl).trans (congrArg (fun rec => spec_l24Set.L3 k xl0 xc1_0 xc1_1 xc1_2 xc1_3 (fun (z3 : Int) (zl2 : List T_impl_Stored) => K (.exit 0) (stOf [(0, [some 1]), (3, []), (5, [some 1]), (6, [])] [.v (.sl 0), .v (.ptr 1 0 0), .v (.sl 2), .v (.int .i64 z3)] [.rows 1 false xl0, .cells 48 [.int .i64 xc1_0, .int .i64 xc1_1, .int .i64 xc1_2, .int .i64 xc1_3], .rows 1 true zl2])) rec x3 xl2) (funext fun x3' => funext fun xl2' => spec_l24Set.e3 K k xl0 xc1_0 xc1_1 xc1_2 xc1_3 n x3' xl2'))
theorem spec_l24Set.q3 (k : Nat) {R : Type} (K : Ex → St κ → Option R) (vs : List AV) (bs : List (Blk κ)) (r : R) (h : spec_l24Set.h3 k K vs bs = some r) : ∃ n, loopN 1 (Code.den ti (spec_l24Set.Γ k) (spec_l24Set.LH k) (loopAt Try.f47 0)) [(0, [some 1]), (3, []), (5, [some 1]), (6, [])] [(0, [some 1]), (3, []), (5, [some 1]), (6, [])] K n vs bs = some r := by
  unfold spec_l24Set.h3 at h
  split at h
  · obtain ⟨_, rfl, h_1⟩ := asO_bind h
    obtain ⟨_, rfl, h_2⟩ := asO_bind h_1
    exact ⟨k, (spec_l24Set.e3 K k _ _ _ _ _ k _ _).trans h_2⟩
  · cases h
theorem spec_l24Set.lok (k : Nat) : LOK ti (spec_l24Set.Γ k) (spec_l24Set.LH k) 1 (loopsOf (bodyOf Try.f47)) :=
  (show loopsOf (bodyOf Try.f47) = [loopAt Try.f47 0] by kernel_rfl) ▸ (LOK_cons (g := ⟨1, [(0, [some 1]), (3, []), (5, [some 1]), (6, [])], [(0, [some 1]), (3, []), (5, [some 1]), (6, [])], @spec_l24Set.h3 k⟩) (by kernel_rfl) rfl (fun K vs xs r h => spec_l24Set.q3 k K vs xs r h) (LOK_nil))
def spec_l24Set.sig : List PSh := [.one (.ro 1), .agg [.sc, .sc, .sc, .sc]]
def spec_l24Set.g (y : List T_impl_Stored) : Ret κ := ⟨.v (.sl 1), [], [.rows 1 true y]⟩
def spec_l24Set.out (r : Ret κ) : Option (List T_impl_Stored) :=
  match r with
  | ⟨.v (.sl 1), [], [q0]⟩ => (asO 1 true q0).bind fun z0 => some (z0)
  | _ => none
theorem spec_l24Set.out_ok (r : Ret κ) (y : List T_impl_Stored) (h : spec_l24Set.out r = some y) : r = spec_l24Set.g y := by
  unfold spec_l24Set.out at h
  split at h
  · obtain ⟨_, rfl, h_1⟩ := asO_bind h
    obtain rfl := Option.some.inj h_1
    rfl
  · cases h
def spec_l24Set.body (k : Nat) (vs : List AV) (bs : List (Blk κ)) : Option (Lf κ) :=
  match vs, bs with
  | [.v (.sl 0), .agg [.int .i64 a1_0, .int .i64 a1_1, .int .i64 a1_2, .int .i64 a1_3]], [qb0] => (asO 1 false qb0).bind fun a0 => some ⟨List T_impl_Stored, spec_l24Set.f k a0 a1_0 a1_1 a1_2 a1_3, spec_l24Set.g⟩
  | _, _ => none
def spec_l24Set.C (k : Nat) : Nat → List AV → AP κ AV := contract spec_l24Set.sig (spec_l24Set.body k)
theorem spec_l24Set.den (k : Nat) (a0 : List T_impl_Stored) (a1_0 : Int) (a1_1 : Int) (a1_2 : Int) (a1_3 : Int) : Code.den ti (spec_l24Set.Γ k) (spec_l24Set.LH k) (bodyOf Try.f47) (finK ti Try.f47.results.toList [(4, [some 1])] (flags spec_l24Set.sig).length (rwI (flags spec_l24Set.sig) 0) spec_l24Set.out) ⟨envOf (([.v (.sl 0), .agg [.int .i64 a1_0, .int .i64 a1_1, .int .i64 a1_2, .int .i64 a1_3]]).zipIdx.map fun q => (q.2, q.1)), hpOf [.rows 1 false a0], (flags spec_l24Set.sig).length⟩ = spec_l24Set.f k a0 a1_0 a1_1 a1_2 a1_3 := by kernel_rfl
theorem spec_l24Set.ok (k : Nat) : CSound Try.prog 47 (spec_l24Set.C k) :=
  csound κ_ok mixed tok (spec_l24Set.hΓ k) (LH := spec_l24Set.LH k) (fn := Try.f47) (c := bodyOf Try.f47) Try.func47 rfl Try.call47 spec_l24Set.sig [(4, [some 1])] (spec_l24Set.body k) (by kernel_rfl) (spec_l24Set.lok k) (by decide) fun vs bs lf y hl hb hy => by
    unfold spec_l24Set.body at hb
    split at hb
    · obtain ⟨_, rfl, hb_1⟩ := asO_bind hb
      obtain rfl := Option.some.inj hb_1
      exact ⟨spec_l24Set.out, spec_l24Set.out_ok, (spec_l24Set.den k _ _ _ _ _).trans hy⟩
    · cases hb
/-! ### spec_PutStored -/
def spec_PutStored.f (k : Nat) (a0 : List T_impl_Stored) (a1 : Int) (a2 : Int) (a3 : Int) : Option (Bool × List T_impl_Stored) :=
  (spec_IsStore.f k a0).bind fun t1 => (bif !t1 then (bif decide ((([] : List T_impl_Stored).length + a0.length) * 32 ≤ cap48) then some (false, (([] : List T_impl_Stored) ++ a0)) else none) else (spec_l24Find.f k a0 a1 a2).bind fun t2 => (bif decide (t2 ≥ (0 : Int)) then (bif decide (0 ≤ t2) then (bif decide (t2 < (a0.length : Int)) then (spec_l24Set.f k a0 a1 a2 a3 (w64 ((rd_impl_Stored a0 t2).f3 + (1 : Int)))).bind fun t3 => (spec_IsStore.f k t3).bind fun t4 => (bif !t4 then (bif decide ((([] : List T_impl_Stored).length + a0.length) * 32 ≤ cap48) then some (false, (([] : List T_impl_Stored) ++ a0)) else none) else some (true, t3)) else none) else none) else (spec_l24Set.f k a0 a1 a2 a3 (1 : Int)).bind fun t5 => (spec_IsStore.f k t5).bind fun t6 => (bif !t6 then (bif decide ((([] : List T_impl_Stored).length + a0.length) * 32 ≤ cap48) then some (false, (([] : List T_impl_Stored) ++ a0)) else none) else some (true, t5))))
def spec_PutStored.Γ (k : Nat) : Ct κ := assoc [(45, spec_IsStore.C k), (46, spec_l24Find.C k), (47, spec_l24Set.C k)]
def spec_PutStored.LH (k : Nat) : Nat → Option (LHi κ) := assoc []
theorem spec_PutStored.hΓ (k : Nat) : ∀ f g, spec_PutStored.Γ k f = some g → CSound Try.prog f g := G_cons (spec_IsStore.ok k) (G_cons (spec_l24Find.ok k) (G_cons (spec_l24Set.ok k) G_nil))
theorem spec_PutStored.lok (k : Nat) : LOK ti (spec_PutStored.Γ k) (spec_PutStored.LH k) 1 (loopsOf (bodyOf Try.f91)) :=
  (show loopsOf (bodyOf Try.f91) = [] by kernel_rfl) ▸ LOK_nil
def spec_PutStored.sig : List PSh := [.one (.ro 1), .one .sc, .one .sc, .one .sc]
def spec_PutStored.g (y : Bool × List T_impl_Stored) : Ret κ := ⟨.tup [(false, [.sl 1]), (false, [.bool y.1])], [], [.rows 1 true y.2]⟩
def spec_PutStored.out (r : Ret κ) : Option (Bool × List T_impl_Stored) :=
  match r with
  | ⟨.tup [(false, [.sl 1]), (false, [.bool z0])], [], [q1]⟩ => (asO 1 true q1).bind fun z1 => some (z0, z1)
  | _ => none
theorem spec_PutStored.out_ok (r : Ret κ) (y : Bool × List T_impl_Stored) (h : spec_PutStored.out r = some y) : r = spec_PutStored.g y := by
  unfold spec_PutStored.out at h
  split at h
  · obtain ⟨_, rfl, h_1⟩ := asO_bind h
    obtain rfl := Option.some.inj h_1
    rfl
  · cases h
def spec_PutStored.body (k : Nat) (vs : List AV) (bs : List (Blk κ)) : Option (Lf κ) :=
  match vs, bs with
  | [.v (.sl 0), .v (.int .i64 a1), .v (.int .i64 a2), .v (.int .i64 a3)], [qb0] => (asO 1 false qb0).bind fun a0 => some ⟨Bool × List T_impl_Stored, spec_PutStored.f k a0 a1 a2 a3, spec_PutStored.g⟩
  | _, _ => none
def spec_PutStored.C (k : Nat) : Nat → List AV → AP κ AV := contract spec_PutStored.sig (spec_PutStored.body k)
theorem spec_PutStored.den (k : Nat) (a0 : List T_impl_Stored) (a1 : Int) (a2 : Int) (a3 : Int) : Code.den ti (spec_PutStored.Γ k) (spec_PutStored.LH k) (bodyOf Try.f91) (finK ti Try.f91.results.toList [(8, [some 1])] (flags spec_PutStored.sig).length (rwI (flags spec_PutStored.sig) 0) spec_PutStored.out) ⟨envOf (([.v (.sl 0), .v (.int .i64 a1), .v (.int .i64 a2), .v (.int .i64 a3)]).zipIdx.map fun q => (q.2, q.1)), hpOf [.rows 1 false a0], (flags spec_PutStored.sig).length⟩ = spec_PutStored.f k a0 a1 a2 a3 := by kernel_rfl
theorem spec_PutStored.ok (k : Nat) : CSound Try.prog 91 (spec_PutStored.C k) :=
  csound κ_ok mixed tok (spec_PutStored.hΓ k) (LH := spec_PutStored.LH k) (fn := Try.f91) (c := bodyOf Try.f91) Try.func91 rfl Try.call91 spec_PutStored.sig [(8, [some 1])] (spec_PutStored.body k) (by kernel_rfl) (spec_PutStored.lok k) (by decide) fun vs bs lf y hl hb hy => by
    unfold spec_PutStored.body at hb
    split at hb
    · obtain ⟨_, rfl, hb_1⟩ := asO_bind hb
      obtain rfl := Option.some.inj hb_1
      exact ⟨spec_PutStored.out, spec_PutStored.out_ok, (spec_PutStored.den k _ _ _ _).trans hy⟩
    · cases hb
/-! ### spec_l24Draw -/
def spec_l24Draw.L3 {R : Type} (k : Nat) (xl1 : List Int) (X0 : Int → Int → List T_impl_Stored → Option R) (rec : Int → Int → Int → List T_impl_Stored → Option R) (x2 : Int) (xc0_1 : Int) (xc0_2 : Int) (xl2 : List T_impl_Stored) : Option R :=
  (bif decide (x2 > (0 : Int)) then (spec_l1Below.f k xl1 xc0_1 xc0_2 (3 : Int)).bind fun t2 => (spec_l1Below.f k xl1 t2.2.1 t2.2.2 (4 : Int)).bind fun t3 => (spec_l1Below.f k xl1 t3.2.1 t3.2.2 (9 : Int)).bind fun t4 => (spec_PutStored.f k xl2 (w64 ((1 : Int) + t2.1)) t3.1 t4.1).bind fun t5 => (rec (w64 (x2 - (1 : Int))) t4.2.1 t4.2.2 t5.2) else (X0 xc0_1 xc0_2 xl2))
def spec_l24Draw.l3 {R : Type} (k : Nat) (xl1 : List Int) (X0 : Int → Int → List T_impl_Stored → Option R) : Nat → Int → Int → Int → List T_impl_Stored → Option R
  | 0 => fun _ _ _ _ => none
  | n + 1 => spec_l24Draw.L3 k xl1 X0 (spec_l24Draw.l3 k xl1 X0 n)
def spec_l24Draw.f (k : Nat) (a0_0 : List Int) (a0_1 : Int) (a0_2 : Int) : Option (Int × Int × List T_impl_Stored) :=
  (spec_l1Below.f k a0_0 a0_1 a0_2 (9 : Int)).bind fun t1 => (spec_l24Draw.l3 k a0_0 (fun (y6 : Int) (y7 : Int) (y8 : List T_impl_Stored) => some (y6, y7, y8)) k t1.1 t1.2.1 t1.2.2 ([] : List T_impl_Stored))
def spec_l24Draw.h3 (k : Nat) {R : Type} (K : Ex → St κ → Option R) (vs : List AV) (bs : List (Blk κ)) : Option R :=
  match vs, bs with
  | [.v (.ptr 0 0 0), .v (.sl 2), .v (.int .i64 x2)], [.cells 106 [.sl 1, .int .i64 xc0_1, .int .i64 xc0_2], qb1, qb2] => (asO 0 false qb1).bind fun xl1 => (asO 1 true qb2).bind fun xl2 => spec_l24Draw.l3 k xl1 (fun (zc0_1 : Int) (zc0_2 : Int) (zl2 : List T_impl_Stored) => K (.exit 0) (stOf [(3, [some 1])] [.v (.sl 2)] [.cells 106 [.sl 1, .int .i64 zc0_1, .int .i64 zc0_2], .rows 0 false xl1, .rows 1 true zl2])) k x2 xc0_1 xc0_2 xl2
  | _, _ => none
def spec_l24Draw.Γ (k : Nat) : Ct κ := assoc [(62, spec_l1Below.C k), (91, spec_PutStored.C k)]
def spec_l24Draw.LH (k : Nat) : Nat → Option (LHi κ) := assoc [(3, ⟨2, [(0, [some 0, none, none]), (3, [some 1]), (4, [])], [(3, [some 1])], @spec_l24Draw.h3 k⟩)]
theorem spec_l24Draw.hΓ (k : Nat) : ∀ f g, spec_l24Draw.Γ k f = some g → CSound Try.prog f g := G_cons (spec_l1Below.ok k) (G_cons (spec_PutStored.ok k) G_nil)
theorem spec_l24Draw.e3 {R : Type} (K : Ex → St κ → Option R) (k : Nat) (xl1 : List Int) : ∀ (n : Nat) (x2 : Int) (xc0_1 : Int) (xc0_2 : Int) (xl2 : List T_impl_Stored), loopN 2 (Code.den ti (spec_l24Draw.Γ k) (spec_l24Draw.LH k) (loopAt Try.f63 0)) [(0, [some 0, none, none]), (3, [some 1]), (4, [])] [(3, [some 1])] K n [.v (.ptr 0 0 0), .v (.sl 2), .v (.int .i64 x2)] [.cells 106 [.sl 1, .int .i64 xc0_1, .int .i64 xc0_2], .rows 0 false xl1, .rows 1 true xl2] = spec_l24Draw.l3 k xl1 (fun (zc0_1 : Int) (zc0_2 : Int) (zl2 : List T_impl_Stored) => K (.exit 0) (stOf [(3, [some 1])] [.v (.sl 2)] [.cells 106 [.sl 1, .int .i64 zc0_1, .int .i64 zc0_2], .rows 0 false xl1, .rows 1 true zl2])) n x2 xc0_1 xc0_2 xl2
  | 0, _, _, _, _ => rfl
  | n + 1, x2, xc0_1, xc0_2, xl2 => (show loopN 2 (Code.den ti (spec_l24Draw.Γ k) (spec_l24Draw.LH k) (loopAt Try.f63 0)) [(0, [some 0, none, none]), (3, [some 1]), (4, [])] [(3, [some 1])] K (n + 1) [.v (.ptr 0 0 0), .v (.sl 2), .v (.int .i64 x2)] [.cells 106 [.sl 1, .int .i64 xc0_1, .int .i64 xc0_2], .rows 0 false xl1, .rows 1 true xl2] = spec_l24Draw.L3 k xl1 (fun (zc0_1 : Int) (zc0_2 : Int) (zl2 : List T_impl_Stored) => K (.exit 0) (stOf [(3, [some 1])] [.v (.sl 2)] [.cells 106 [.sl 1, .int .i64 zc0_1, .int .i64 zc0_2], .rows 0 false xl1, .rows 1 true zl2])) (fun (x2' : Int) (xc0_1' : Int) (xc0_2' : Int) (xl2' : List T_impl_Stored) => loopN 2 (Code.den ti (spec_l24Draw.Γ k) (spec_l24Draw.LH k) (loopAt Try.f63 0)) [(0, [some 0, none, none]), (3, [some 1]), (4, [])] [(3, [some 1])] K n [.v (.ptr 0 0 0), .v (.sl 2), .v (.int .i64 x2')] [.cells 106 [.sl 1, .int .i64 xc0_1', .int .i64 xc0_2'], .rows 0 false xl1, .rows 1 true xl2']) x2 xc0_1 xc0_2 xl2 by kernel_rfl).trans (congrArg (fun rec => spec_l24Draw.L3 k xl1 (fun (zc0_1 : Int) (zc0_2 : Int) (zl2 : List T_impl_Stored) => K (.exit 0) (stOf [(3, [some 1])] [.v (.sl 2)] [.cells 106 [.sl 1, .int .i64 zc0_1, .int .i64 zc0_2], .rows 0 false xl1, .rows 1 true zl2])) rec x2 xc0_1 xc0_2 xl2) (funext fun x2' => funext fun xc0_1' => funext fun xc0_2' => funext fun xl2' => spec_l24Draw.e3 K k xl1 n x2' xc0_1' xc0_2' xl2'))
theorem spec_l24Draw.q3 (k : Nat) {R : Type} (K : Ex → St κ → Option R) (vs : List AV) (bs : List (Blk κ)) (r : R) (h : spec_l24Draw.h3 k K vs bs = some r) : ∃ n, loopN 2 (Code.den ti (spec_l24Draw.Γ k) (spec_l24Draw.LH k) (loopAt Try.f63 0)) [(0, [some 0, none, none]), (3, [some 1]), (4, [])] [(3, [some 1])] K n vs bs = some r := by
  unfold spec_l24Draw.h3 at h
  split at h
  · obtain ⟨_, rfl, h_1⟩ := asO_bind h
    obtain ⟨_, rfl, h_2⟩ := asO_bind h_1
    exact ⟨k, (spec_l24Draw.e3 K k _ k _ _ _ _).trans h_2⟩
  · cases h
theorem spec_l24Draw.lok (k : Nat) : LOK ti (spec_l24Draw.Γ k) (spec_l24Draw.LH k) 2 (loopsOf (bodyOf Try.f63)) :=
  (show loopsOf (bodyOf Try.f63) = [loopAt Try.f63 0] by kernel_rfl) ▸ (LOK_cons (g := ⟨2, [(0, [some 0, none, none]), (3, [some 1]), (4, [])], [(3, [some 1])], @spec_l24Draw.h3 k⟩) (by kernel_rfl) rfl (fun K vs xs r h => spec_l24Draw.q3 k K vs xs r h) (LOK_nil))
def spec_l24Draw.sig : List PSh := [.cur 106 [.ro 0, .sc, .sc]]
def spec_l24Draw.g (y : Int × Int × List T_impl_Stored) : Ret κ := ⟨.v (.sl 2), [.cells 106 [.sl 1, .int .i64 y.1, .int .i64 y.2.1]], [.rows 1 true y.2.2]⟩
def spec_l24Draw.out (r : Ret κ) : Option (Int × Int × List T_impl_Stored) :=
  match r with
  | ⟨.v (.sl 2), [.cells 106 [.sl 1, .int .i64 z0, .int .i64 z1]], [q2]⟩ => (asO 1 true q2).bind fun z2 => some (z0, z1, z2)
  | _ => none
theorem spec_l24Draw.out_ok (r : Ret κ) (y : Int × Int × List T_impl_Stored) (h : spec_l24Draw.out r = some y) : r = spec_l24Draw.g y := by
  unfold spec_l24Draw.out at h
  split at h
  · obtain ⟨_, rfl, h_1⟩ := asO_bind h
    obtain rfl := Option.some.inj h_1
    rfl
  · cases h
def spec_l24Draw.body (k : Nat) (vs : List AV) (bs : List (Blk κ)) : Option (Lf κ) :=
  match vs, bs with
  | [.v (.ptr 0 0 0)], [.cells 106 [.sl 1, .int .i64 a0_1, .int .i64 a0_2], qb1] => (asO 0 false qb1).bind fun a0_0 => some ⟨Int × Int × List T_impl_Stored, spec_l24Draw.f k a0_0 a0_1 a0_2, spec_l24Draw.g⟩
  | _, _ => none
def spec_l24Draw.C (k : Nat) : Nat → List AV → AP κ AV := contract spec_l24Draw.sig (spec_l24Draw.body k)
theorem spec_l24Draw.den (k : Nat) (a0_0 : List Int) (a0_1 : Int) (a0_2 : Int) : Code.den ti (spec_l24Draw.Γ k) (spec_l24Draw.LH k) (bodyOf Try.f63) (finK ti Try.f63.results.toList [(2, [some 1])] (flags spec_l24Draw.sig).length (rwI (flags spec_l24Draw.sig) 0) spec_l24Draw.out) ⟨envOf (([.v (.ptr 0 0 0)]).zipIdx.map fun q => (q.2, q.1)), hpOf [.cells 106 [.sl 1, .int .i64 a0_1, .int .i64 a0_2], .rows 0 false a0_0], (flags spec_l24Draw.sig).length⟩ = spec_l24Draw.f k a0_0 a0_1 a0_2 := by kernel_rfl
theorem spec_l24Draw.ok (k : Nat) : CSound Try.prog 63 (spec_l24Draw.C k) :=
  csound κ_ok mixed tok (spec_l24Draw.hΓ k) (LH := spec_l24Draw.LH k) (fn := Try.f63) (c := bodyOf Try.f63) Try.func63 rfl Try.call63 spec_l24Draw.sig [(2, [some 1])] (spec_l24Draw.body k) (by kernel_rfl) (spec_l24Draw.lok k) (by decide) fun vs bs lf y hl hb hy => by
    unfold spec_l24Draw.body at hb
    split at hb
    · obtain ⟨_, rfl, hb_1⟩ := asO_bind hb
      obtain rfl := Option.some.inj hb_1
      exact ⟨spec_l24Draw.out, spec_l24Draw.out_ok, (spec_l24Draw.den k _ _ _).trans hy⟩
    · cases hb
/-! ### spec_l1Once -/
def spec_l1Once.f (k : Nat) (a0_0 : List Int) (a0_1 : Int) (a0_2 : Int) (a1 : Int) : Option (Bool × Int × Int) :=
  (spec_l1Below.f k a0_0 a0_1 a0_2 a1).bind fun t1 => some ((t1.1 == (0 : Int)), t1.2.1, t1.2.2)
def spec_l1Once.Γ (k : Nat) : Ct κ := assoc [(62, spec_l1Below.C k)]
def spec_l1Once.LH (k : Nat) : Nat → Option (LHi κ) := assoc []
theorem spec_l1Once.hΓ (k : Nat) : ∀ f g, spec_l1Once.Γ k f = some g → CSound Try.prog f g := G_cons (spec_l1Below.ok k) G_nil
theorem spec_l1Once.lok (k : Nat) : LOK ti (spec_l1Once.Γ k) (spec_l1Once.LH k) 2 (loopsOf (bodyOf Try.f42)) :=
  (show loopsOf (bodyOf Try.f42) = [] by kernel_rfl) ▸ LOK_nil
def spec_l1Once.sig : List PSh := [.cur 106 [.ro 0, .sc, .sc], .one .sc]
def spec_l1Once.g (y : Bool × Int × Int) : Ret κ := ⟨.v (.bool y.1), [.cells 106 [.sl 1, .int .i64 y.2.1, .int .i64 y.2.2]], []⟩
def spec_l1Once.out (r : Ret κ) : Option (Bool × Int × Int) :=
  match r with
  | ⟨.v (.bool z0), [.cells 106 [.sl 1, .int .i64 z1, .int .i64 z2]], []⟩ => some (z0, z1, z2)
  | _ => none
theorem spec_l1Once.out_ok (r : Ret κ) (y : Bool × Int × Int) (h : spec_l1Once.out r = some y) : r = spec_l1Once.g y := by
  unfold spec_l1Once.out at h
  split at h
  · obtain rfl := Option.some.inj h
    rfl
  · cases h
def spec_l1Once.body (k : Nat) (vs : List AV) (bs : List (Blk κ)) : Option (Lf κ) :=
  match vs, bs with
  | [.v (.ptr 0 0 0), .v (.int .i64 a1)], [.cells 106 [.sl 1, .int .i64 a0_1, .int .i64 a0_2], qb1] => (asO 0 false qb1).bind fun a0_0 => some ⟨Bool × Int × Int, spec_l1Once.f k a0_0 a0_1 a0_2 a1, spec_l1Once.g⟩
  | _, _ => none
def spec_l1Once.C (k : Nat) : Nat → List AV → AP κ AV := contract spec_l1Once.sig (spec_l1Once.body k)
theorem spec_l1Once.den (k : Nat) (a0_0 : List Int) (a0_1 : Int) (a0_2 : Int) (a1 : Int) : Code.den ti (spec_l1Once.Γ k) (spec_l1Once.LH k) (bodyOf Try.f42) (finK ti Try.f42.results.toList [] (flags spec_l1Once.sig).length (rwI (flags spec_l1Once.sig) 0) spec_l1Once.out) ⟨envOf (([.v (.ptr 0 0 0), .v (.int .i64 a1)]).zipIdx.map fun q => (q.2, q.1)), hpOf [.cells 106 [.sl 1, .int .i64 a0_1, .int .i64 a0_2], .rows 0 false a0_0], (flags spec_l1Once.sig).length⟩ = spec_l1Once.f k a0_0 a0_1 a0_2 a1 := by kernel_rfl
theorem spec_l1Once.ok (k : Nat) : CSound Try.prog 42 (spec_l1Once.C k) :=
  csound κ_ok mixed tok (spec_l1Once.hΓ k) (LH := spec_l1Once.LH k) (fn := Try.f42) (c := bodyOf Try.f42) Try.func42 rfl Try.call42 spec_l1Once.sig [] (spec_l1Once.body k) (by kernel_rfl) (spec_l1Once.lok k) (by decide) fun vs bs lf y hl hb hy => by
    unfold spec_l1Once.body at hb
    split at hb
    · obtain ⟨_, rfl, hb_1⟩ := asO_bind hb
      obtain rfl := Option.some.inj hb_1
      exact ⟨spec_l1Once.out, spec_l1Once.out_ok, (spec_l1Once.den k _ _ _ _).trans hy⟩
    · cases hb
/-! ### spec_l25Copy -/
def spec_l25Copy.f (k : Nat) (a0_0 : Bool) (a0_1 : List T_impl_Stored) (a0_2 : List T_impl_Stored) : Option (Bool × List T_impl_Stored × List T_impl_Stored) :=
  (bif decide ((([] : List T_impl_Stored).length + a0_1.length) * 32 ≤ cap48) then (bif decide ((([] : List T_impl_Stored).length + a0_2.length) * 32 ≤ cap48) then some (a0_0, (([] : List T_impl_Stored) ++ a0_1), (([] : List T_impl_Stored) ++ a0_2)) else none) else none)
def spec_l25Copy.Γ (k : Nat) : Ct κ := assoc []
def spec_l25Copy.LH (k : Nat) : Nat → Option (LHi κ) := assoc []
theorem spec_l25Copy.hΓ (k : Nat) : ∀ f g, spec_l25Copy.Γ k f = some g → CSound Try.prog f g := G_nil
theorem spec_l25Copy.lok (k : Nat) : LOK ti (spec_l25Copy.Γ k) (spec_l25Copy.LH k) 2 (loopsOf (bodyOf Try.f112)) :=
  (show loopsOf (bodyOf Try.f112) = [] by kernel_rfl) ▸ LOK_nil
def spec_l25Copy.sig : List PSh := [.agg [.sc, .ro 1, .ro 1]]
def spec_l25Copy.g (y : Bool × List T_impl_Stored × List T_impl_Stored) : Ret κ := ⟨.agg [.bool y.1, .sl 2, .sl 3], [], [.rows 1 true y.2.1, .rows 1 true y.2.2]⟩
def spec_l25Copy.out (r : Ret κ) : Option (Bool × List T_impl_Stored × List T_impl_Stored) :=
  match r with
  | ⟨.agg [.bool z0, .sl 2, .sl 3], [], [q1, q2]⟩ => (asO 1 true q1).bind fun z1 => (asO 1 true q2).bind fun z2 => some (z0, z1, z2)
  | _ => none
theorem spec_l25Copy.out_ok (r : Ret κ) (y : Bool × List T_impl_Stored × List T_impl_Stored) (h : spec_l25Copy.out r = some y) : r = spec_l25Copy.g y := by
  unfold spec_l25Copy.out at h
  split at h
  · obtain ⟨_, rfl, h_1⟩ := asO_bind h
    obtain ⟨_, rfl, h_2⟩ := asO_bind h_1
    obtain rfl := Option.some.inj h_2
    rfl
  · cases h
def spec_l25Copy.body (k : Nat) (vs : List AV) (bs : List (Blk κ)) : Option (Lf κ) :=
  match vs, bs with
  | [.agg [.bool a0_0, .sl 0, .sl 1]], [qb0, qb1] => (asO 1 false qb0).bind fun a0_1 => (asO 1 false qb1).bind fun a0_2 => some ⟨Bool × List T_impl_Stored × List T_impl_Stored, spec_l25Copy.f k a0_0 a0_1 a0_2, spec_l25Copy.g⟩
  | _, _ => none
def spec_l25Copy.C (k : Nat) : Nat → List AV → AP κ AV := contract spec_l25Copy.sig (spec_l25Copy.body k)
theorem spec_l25Copy.den (k : Nat) (a0_0 : Bool) (a0_1 : List T_impl_Stored) (a0_2 : List T_impl_Stored) : Code.den ti (spec_l25Copy.Γ k) (spec_l25Copy.LH k) (bodyOf Try.f112) (finK ti Try.f112.results.toList [(2, [none, some 1, some 1])] (flags spec_l25Copy.sig).length (rwI (flags spec_l25Copy.sig) 0) spec_l25Copy.out) ⟨envOf (([.agg [.bool a0_0, .sl 0, .sl 1]]).zipIdx.map fun q => (q.2, q.1)), hpOf [.rows 1 false a0_1, .rows 1 false a0_2], (flags spec_l25Copy.sig).length⟩ = spec_l25Copy.f k a0_0 a0_1 a0_2 := by kernel_rfl
theorem spec_l25Copy.ok (k : Nat) : CSound Try.prog 112 (spec_l25Copy.C k) :=
  csound κ_ok mixed tok (spec_l25Copy.hΓ k) (LH := spec_l25Copy.LH k) (fn := Try.f112) (c := bodyOf Try.f112) Try.func112 rfl Try.call112 spec_l25Copy.sig [(2, [none, some 1, some 1])] (spec_l25Copy.body k) (by kernel_rfl) (spec_l25Copy.lok k) (by decide) fun vs bs lf y hl hb hy => by
    unfold spec_l25Copy.body at hb
    split at hb
    · obtain ⟨_, rfl, hb_1⟩ := asO_bind hb
      obtain ⟨_, rfl, hb_2⟩ := asO_bind hb_1
      obtain rfl := Option.some.inj hb_2
      exact ⟨spec_l25Copy.out, spec_l25Copy.out_ok, (spec_l25Copy.den k _ _ _).trans hy⟩
    · cases hb
end Go.Proofs.Ytmjflahlhgibnaa.PFnPrivate
