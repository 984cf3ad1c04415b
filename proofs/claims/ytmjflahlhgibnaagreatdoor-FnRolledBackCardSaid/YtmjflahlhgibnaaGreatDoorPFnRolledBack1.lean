/- What the functions that the law FnRolledBack reaches come to; no conditions. -/
import Derived.Test.YtmjflahlhgibnaaGreatDoorPFnRolledBackT
set_option linter.unusedVariables false
set_option maxRecDepth 100000
namespace Go.Proofs.YtmjflahlhgibnaaGreatDoor.PFnRolledBack
open Go Go.Eng Go.Proofs
/-! ### laws_big -/
def laws_big.f (k : Nat) (a0 : List Int) : Option Bool :=
  some (decide ((a0.length : Int) > (1048576 : Int)))
def laws_big.Γ (k : Nat) : Ct κ := assoc []
def laws_big.LH (k : Nat) : Nat → Option (LHi κ) := assoc []
theorem laws_big.hΓ (k : Nat) : ∀ f g, laws_big.Γ k f = some g → CSound Tryz.prog f g := G_nil
theorem laws_big.lok (k : Nat) : LOK ti (laws_big.Γ k) (laws_big.LH k) 1 (loopsOf (bodyOf Tryz.f4)) :=
  (show loopsOf (bodyOf Tryz.f4) = [] by kernel_rfl) ▸ LOK_nil
def laws_big.sig : List PSh := [.one (.ro 0)]
def laws_big.g (y : Bool) : Ret κ := ⟨.v (.bool y), [], []⟩
def laws_big.out (r : Ret κ) : Option Bool :=
  match r with
  | ⟨.v (.bool z0), [], []⟩ => some (z0)
  | _ => none
theorem laws_big.out_ok (r : Ret κ) (y : Bool) (h : laws_big.out r = some y) : r = laws_big.g y := by
  unfold laws_big.out at h
  split at h
  · obtain rfl := Option.some.inj h
    rfl
  · cases h
def laws_big.body (k : Nat) (vs : List AV) (bs : List (Blk κ)) : Option (Lf κ) :=
  match vs, bs with
  | [.v (.sl 0)], [qb0] => (asO 0 false qb0).bind fun a0 => some ⟨Bool, laws_big.f k a0, laws_big.g⟩
  | _, _ => none
def laws_big.C (k : Nat) : Nat → List AV → AP κ AV := contract laws_big.sig (laws_big.body k)
theorem laws_big.den (k : Nat) (a0 : List Int) : Code.den ti (laws_big.Γ k) (laws_big.LH k) (bodyOf Tryz.f4) (finK ti Tryz.f4.results.toList [] (flags laws_big.sig).length (rwI (flags laws_big.sig) 0) laws_big.out) ⟨envOf (([.v (.sl 0)]).zipIdx.map fun q => (q.2, q.1)), hpOf [.rows 0 false a0], (flags laws_big.sig).length⟩ = laws_big.f k a0 := by kernel_rfl
theorem laws_big.ok (k : Nat) : CSound Tryz.prog 4 (laws_big.C k) :=
  csound κ_ok mixed tok (laws_big.hΓ k) (LH := laws_big.LH k) (fn := Tryz.f4) (c := bodyOf Tryz.f4) Tryz.func4 rfl Tryz.call4 laws_big.sig [] (laws_big.body k) (by kernel_rfl) (laws_big.lok k) (by decide) fun vs bs lf y hl hb hy => by
    unfold laws_big.body at hb
    split at hb
    · obtain ⟨_, rfl, hb_1⟩ := asO_bind hb
      obtain rfl := Option.some.inj hb_1
      exact ⟨laws_big.out, laws_big.out_ok, (laws_big.den k _).trans hy⟩
    · cases hb
/-! ### spec_l1New -/
def spec_l1New.L3 {R : Type} (k : Nat) (xl0 : List Int) (X0 : Int → Option R) (rec : Int → Int → Option R) (x1 : Int) (x2 : Int) : Option R :=
  (bif decide (x2 < (xl0.length : Int)) then (bif decide (x2 < (4000 : Int)) then (bif decide (0 ≤ x2) then (bif decide (x2 < (xl0.length : Int)) then (rec (bitop .and .i64 (w64 ((w64 ((w64 (x1 * (137 : Int))) + (w64 ((rd_u8 xl0 x2))))) + (11 : Int))) (1073741823 : Int)) (w64 (x2 + (1 : Int)))) else none) else none) else (X0 x1)) else (X0 x1))
def spec_l1New.l3 {R : Type} (k : Nat) (xl0 : List Int) (X0 : Int → Option R) : Nat → Int → Int → Option R
  | 0 => fun _ _ => none
  | n + 1 => spec_l1New.L3 k xl0 X0 (spec_l1New.l3 k xl0 X0 n)
def spec_l1New.f (k : Nat) (a0 : List Int) : Option (Int × Int) :=
  (spec_l1New.l3 k a0 (fun (y1 : Int) => some ((0 : Int), y1)) k (w64 ((193017 : Int) + (a0.length : Int))) (0 : Int))
def spec_l1New.h3 (k : Nat) {R : Type} (K : Ex → St κ → Option R) (vs : List AV) (bs : List (Blk κ)) : Option R :=
  match vs, bs with
  | [.v (.sl 0), .v (.int .i64 x1), .v (.int .i64 x2)], [qb0] => (asO 0 false qb0).bind fun xl0 => spec_l1New.l3 k xl0 (fun (z1 : Int) => K (.exit 0) (stOf [(0, [some 0]), (3, [])] [.v (.sl 0), .v (.int .i64 z1)] [.rows 0 false xl0])) k x1 x2
  | _, _ => none
def spec_l1New.Γ (k : Nat) : Ct κ := assoc []
def spec_l1New.LH (k : Nat) : Nat → Option (LHi κ) := assoc [(3, ⟨1, [(0, [some 0]), (3, []), (4, [])], [(0, [some 0]), (3, [])], @spec_l1New.h3 k⟩)]
theorem spec_l1New.hΓ (k : Nat) : ∀ f g, spec_l1New.Γ k f = some g → CSound Tryz.prog f g := G_nil
theorem spec_l1New.e3 {R : Type} (K : Ex → St κ → Option R) (k : Nat) (xl0 : List Int) : ∀ (n : Nat) (x1 : Int) (x2 : Int), loopN 1 (Code.den ti (spec_l1New.Γ k) (spec_l1New.LH k) (loopAt Tryz.f16 0)) [(0, [some 0]), (3, []), (4, [])] [(0, [some 0]), (3, [])] K n [.v (.sl 0), .v (.int .i64 x1), .v (.int .i64 x2)] [.rows 0 false xl0] = spec_l1New.l3 k xl0 (fun (z1 : Int) => K (.exit 0) (stOf [(0, [some 0]), (3, [])] [.v (.sl 0), .v (.int .i64 z1)] [.rows 0 false xl0])) n x1 x2
  | 0, _, _ => rfl
  | n + 1, x1, x2 => (show loopN 1 (Code.den ti (spec_l1New.Γ k) (spec_l1New.LH k) (loopAt Tryz.f16 0)) [(0, [some 0]), (3, []), (4, [])] [(0, [some 0]), (3, [])] K (n + 1) [.v (.sl 0), .v (.int .i64 x1), .v (.int .i64 x2)] [.rows 0 false xl0] = spec_l1New.L3 k xl0 (fun (z1 : Int) => K (.exit 0) (stOf [(0, [some 0]), (3, [])] [.v (.sl 0), .v (.int .i64 z1)] [.rows 0 false xl0])) (fun (x1' : Int) (x2' : Int) => loopN 1 (Code.den ti (spec_l1New.Γ k) (spec_l1New.LH k) (loopAt Tryz.f16 0)) [(0, [some 0]), (3, []), (4, [])] [(0, [some 0]), (3, [])] K n [.v (.sl 0), .v (.int .i64 x1'), .v (.int .i64 x2')] [.rows 0 false xl0]) x1 x2 by kernel_rfl).trans (congrArg (fun rec => spec_l1New.L3 k xl0 (fun (z1 : Int) => K (.exit 0) (stOf [(0, [some 0]), (3, [])] [.v (.sl 0), .v (.int .i64 z1)] [.rows 0 false xl0])) rec x1 x2) (funext fun x1' => funext fun x2' => spec_l1New.e3 K k xl0 n x1' x2'))
theorem spec_l1New.q3 (k : Nat) {R : Type} (K : Ex → St κ → Option R) (vs : List AV) (bs : List (Blk κ)) (r : R) (h : spec_l1New.h3 k K vs bs = some r) : ∃ n, loopN 1 (Code.den ti (spec_l1New.Γ k) (spec_l1New.LH k) (loopAt Tryz.f16 0)) [(0, [some 0]), (3, []), (4, [])] [(0, [some 0]), (3, [])] K n vs bs = some r := by
  unfold spec_l1New.h3 at h
  split at h
  · obtain ⟨_, rfl, h_1⟩ := asO_bind h
    exact ⟨k, (spec_l1New.e3 K k _ k _ _).trans h_1⟩
  · cases h
theorem spec_l1New.lok (k : Nat) : LOK ti (spec_l1New.Γ k) (spec_l1New.LH k) 1 (loopsOf (bodyOf Tryz.f16)) :=
  (show loopsOf (bodyOf Tryz.f16) = [loopAt Tryz.f16 0] by kernel_rfl) ▸ (LOK_cons (g := ⟨1, [(0, [some 0]), (3, []), (4, [])], [(0, [some 0]), (3, [])], @spec_l1New.h3 k⟩) (by kernel_rfl) rfl (fun K vs xs r h => spec_l1New.q3 k K vs xs r h) (LOK_nil))
def spec_l1New.sig : List PSh := [.one (.ro 0)]
def spec_l1New.g (y : Int × Int) : Ret κ := ⟨.v (.ptr 1 0 0), [], [.cells 79 [.sl 0, .int .i64 y.1, .int .i64 y.2]]⟩
def spec_l1New.out (r : Ret κ) : Option (Int × Int) :=
  match r with
  | ⟨.v (.ptr 1 0 0), [], [.cells 79 [.sl 0, .int .i64 z0, .int .i64 z1]]⟩ => some (z0, z1)
  | _ => none
theorem spec_l1New.out_ok (r : Ret κ) (y : Int × Int) (h : spec_l1New.out r = some y) : r = spec_l1New.g y := by
  unfold spec_l1New.out at h
  split at h
  · obtain rfl := Option.some.inj h
    rfl
  · cases h
def spec_l1New.body (k : Nat) (vs : List AV) (bs : List (Blk κ)) : Option (Lf κ) :=
  match vs, bs with
  | [.v (.sl 0)], [qb0] => (asO 0 false qb0).bind fun a0 => some ⟨Int × Int, spec_l1New.f k a0, spec_l1New.g⟩
  | _, _ => none
def spec_l1New.C (k : Nat) : Nat → List AV → AP κ AV := contract spec_l1New.sig (spec_l1New.body k)
theorem spec_l1New.den (k : Nat) (a0 : List Int) : Code.den ti (spec_l1New.Γ k) (spec_l1New.LH k) (bodyOf Tryz.f16) (finK ti Tryz.f16.results.toList [(2, [some 0, none, none])] (flags spec_l1New.sig).length (rwI (flags spec_l1New.sig) 0) spec_l1New.out) ⟨envOf (([.v (.sl 0)]).zipIdx.map fun q => (q.2, q.1)), hpOf [.rows 0 false a0], (flags spec_l1New.sig).length⟩ = spec_l1New.f k a0 := by kernel_rfl
theorem spec_l1New.ok (k : Nat) : CSound Tryz.prog 16 (spec_l1New.C k) :=
  csound κ_ok mixed tok (spec_l1New.hΓ k) (LH := spec_l1New.LH k) (fn := Tryz.f16) (c := bodyOf Tryz.f16) Tryz.func16 rfl Tryz.call16 spec_l1New.sig [(2, [some 0, none, none])] (spec_l1New.body k) (by kernel_rfl) (spec_l1New.lok k) (by decide) fun vs bs lf y hl hb hy => by
    unfold spec_l1New.body at hb
    split at hb
    · obtain ⟨_, rfl, hb_1⟩ := asO_bind hb
      obtain rfl := Option.some.inj hb_1
      exact ⟨spec_l1New.out, spec_l1New.out_ok, (spec_l1New.den k _).trans hy⟩
    · cases hb
/-! ### spec_l1Byte -/
def spec_l1Byte.f (k : Nat) (a0_0 : List Int) (a0_1 : Int) (a0_2 : Int) : Option (Int × Int × Int) :=
  (bif decide (a0_1 < (a0_0.length : Int)) then (bif decide (0 ≤ a0_1) then (bif decide (a0_1 < (a0_0.length : Int)) then some ((bitop .and .i64 (w64 ((bitop .and .i64 (bitop .xor .i64 ((w64 ((w64 (a0_2 * (6364136223846793005 : Int))) + (1442695040888963407 : Int))).fdiv (2 ^ 33)) ((w64 ((w64 (a0_2 * (6364136223846793005 : Int))) + (1442695040888963407 : Int))).fdiv (2 ^ 47))) (255 : Int)) + (w64 ((rd_u8 a0_0 a0_1))))) (255 : Int)), (w64 (a0_1 + (1 : Int))), (w64 ((w64 (a0_2 * (6364136223846793005 : Int))) + (1442695040888963407 : Int)))) else none) else none) else some ((bitop .and .i64 (bitop .xor .i64 ((w64 ((w64 (a0_2 * (6364136223846793005 : Int))) + (1442695040888963407 : Int))).fdiv (2 ^ 33)) ((w64 ((w64 (a0_2 * (6364136223846793005 : Int))) + (1442695040888963407 : Int))).fdiv (2 ^ 47))) (255 : Int)), a0_1, (w64 ((w64 (a0_2 * (6364136223846793005 : Int))) + (1442695040888963407 : Int)))))
def spec_l1Byte.Γ (k : Nat) : Ct κ := assoc []
def spec_l1Byte.LH (k : Nat) : Nat → Option (LHi κ) := assoc []
theorem spec_l1Byte.hΓ (k : Nat) : ∀ f g, spec_l1Byte.Γ k f = some g → CSound Tryz.prog f g := G_nil
theorem spec_l1Byte.lok (k : Nat) : LOK ti (spec_l1Byte.Γ k) (spec_l1Byte.LH k) 2 (loopsOf (bodyOf Tryz.f41)) :=
  (show loopsOf (bodyOf Tryz.f41) = [] by kernel_rfl) ▸ LOK_nil
def spec_l1Byte.sig : List PSh := [.cur 79 [.ro 0, .sc, .sc]]
def spec_l1Byte.g (y : Int × Int × Int) : Ret κ := ⟨.v (.int .i64 y.1), [.cells 79 [.sl 1, .int .i64 y.2.1, .int .i64 y.2.2]], []⟩
def spec_l1Byte.out (r : Ret κ) : Option (Int × Int × Int) :=
  match r with
  | ⟨.v (.int .i64 z0), [.cells 79 [.sl 1, .int .i64 z1, .int .i64 z2]], []⟩ => some (z0, z1, z2)
  | _ => none
theorem spec_l1Byte.out_ok (r : Ret κ) (y : Int × Int × Int) (h : spec_l1Byte.out r = some y) : r = spec_l1Byte.g y := by
  unfold spec_l1Byte.out at h
  split at h
  · obtain rfl := Option.some.inj h
    rfl
  · cases h
def spec_l1Byte.body (k : Nat) (vs : List AV) (bs : List (Blk κ)) : Option (Lf κ) :=
  match vs, bs with
  | [.v (.ptr 0 0 0)], [.cells 79 [.sl 1, .int .i64 a0_1, .int .i64 a0_2], qb1] => (asO 0 false qb1).bind fun a0_0 => some ⟨Int × Int × Int, spec_l1Byte.f k a0_0 a0_1 a0_2, spec_l1Byte.g⟩
  | _, _ => none
def spec_l1Byte.C (k : Nat) : Nat → List AV → AP κ AV := contract spec_l1Byte.sig (spec_l1Byte.body k)
theorem spec_l1Byte.den (k : Nat) (a0_0 : List Int) (a0_1 : Int) (a0_2 : Int) : Code.den ti (spec_l1Byte.Γ k) (spec_l1Byte.LH k) (bodyOf Tryz.f41) (finK ti Tryz.f41.results.toList [] (flags spec_l1Byte.sig).length (rwI (flags spec_l1Byte.sig) 0) spec_l1Byte.out) ⟨envOf (([.v (.ptr 0 0 0)]).zipIdx.map fun q => (q.2, q.1)), hpOf [.cells 79 [.sl 1, .int .i64 a0_1, .int .i64 a0_2], .rows 0 false a0_0], (flags spec_l1Byte.sig).length⟩ = spec_l1Byte.f k a0_0 a0_1 a0_2 := by kernel_rfl
theorem spec_l1Byte.ok (k : Nat) : CSound Tryz.prog 41 (spec_l1Byte.C k) :=
  csound κ_ok mixed tok (spec_l1Byte.hΓ k) (LH := spec_l1Byte.LH k) (fn := Tryz.f41) (c := bodyOf Tryz.f41) Tryz.func41 rfl Tryz.call41 spec_l1Byte.sig [] (spec_l1Byte.body k) (by kernel_rfl) (spec_l1Byte.lok k) (by decide) fun vs bs lf y hl hb hy => by
    unfold spec_l1Byte.body at hb
    split at hb
    · obtain ⟨_, rfl, hb_1⟩ := asO_bind hb
      obtain rfl := Option.some.inj hb_1
      exact ⟨spec_l1Byte.out, spec_l1Byte.out_ok, (spec_l1Byte.den k _ _ _).trans hy⟩
    · cases hb
/-! ### spec_l1Below -/
def spec_l1Below.f (k : Nat) (a0_0 : List Int) (a0_1 : Int) (a0_2 : Int) (a1 : Int) : Option (Int × Int × Int) :=
  (bif decide (a1 ≤ (0 : Int)) then some ((0 : Int), a0_1, a0_2) else (bif decide (a1 ≤ (256 : Int)) then (spec_l1Byte.f k a0_0 a0_1 a0_2).bind fun t1 => (bif decide (a1 = 0) then none else some ((t1.1.tmod a1), t1.2.1, t1.2.2)) else (spec_l1Byte.f k a0_0 a0_1 a0_2).bind fun t2 => (spec_l1Byte.f k a0_0 t2.2.1 t2.2.2).bind fun t3 => (spec_l1Byte.f k a0_0 t3.2.1 t3.2.2).bind fun t4 => (bif decide (a1 = 0) then none else some (((w64 ((w64 ((w64 (t2.1 * (65536 : Int))) + (w64 (t3.1 * (256 : Int))))) + t4.1)).tmod a1), t4.2.1, t4.2.2))))
def spec_l1Below.Γ (k : Nat) : Ct κ := assoc [(41, spec_l1Byte.C k)]
def spec_l1Below.LH (k : Nat) : Nat → Option (LHi κ) := assoc []
theorem spec_l1Below.hΓ (k : Nat) : ∀ f g, spec_l1Below.Γ k f = some g → CSound Tryz.prog f g := G_cons (spec_l1Byte.ok k) G_nil
theorem spec_l1Below.lok (k : Nat) : LOK ti (spec_l1Below.Γ k) (spec_l1Below.LH k) 2 (loopsOf (bodyOf Tryz.f18)) :=
  (show loopsOf (bodyOf Tryz.f18) = [] by kernel_rfl) ▸ LOK_nil
def spec_l1Below.sig : List PSh := [.cur 79 [.ro 0, .sc, .sc], .one .sc]
def spec_l1Below.g (y : Int × Int × Int) : Ret κ := ⟨.v (.int .i64 y.1), [.cells 79 [.sl 1, .int .i64 y.2.1, .int .i64 y.2.2]], []⟩
def spec_l1Below.out (r : Ret κ) : Option (Int × Int × Int) :=
  match r with
  | ⟨.v (.int .i64 z0), [.cells 79 [.sl 1, .int .i64 z1, .int .i64 z2]], []⟩ => some (z0, z1, z2)
  | _ => none
theorem spec_l1Below.out_ok (r : Ret κ) (y : Int × Int × Int) (h : spec_l1Below.out r = some y) : r = spec_l1Below.g y := by
  unfold spec_l1Below.out at h
  split at h
  · obtain rfl := Option.some.inj h
    rfl
  · cases h
def spec_l1Below.body (k : Nat) (vs : List AV) (bs : List (Blk κ)) : Option (Lf κ) :=
  match vs, bs with
  | [.v (.ptr 0 0 0), .v (.int .i64 a1)], [.cells 79 [.sl 1, .int .i64 a0_1, .int .i64 a0_2], qb1] => (asO 0 false qb1).bind fun a0_0 => some ⟨Int × Int × Int, spec_l1Below.f k a0_0 a0_1 a0_2 a1, spec_l1Below.g⟩
  | _, _ => none
def spec_l1Below.C (k : Nat) : Nat → List AV → AP κ AV := contract spec_l1Below.sig (spec_l1Below.body k)
theorem spec_l1Below.den (k : Nat) (a0_0 : List Int) (a0_1 : Int) (a0_2 : Int) (a1 : Int) : Code.den ti (spec_l1Below.Γ k) (spec_l1Below.LH k) (bodyOf Tryz.f18) (finK ti Tryz.f18.results.toList [] (flags spec_l1Below.sig).length (rwI (flags spec_l1Below.sig) 0) spec_l1Below.out) ⟨envOf (([.v (.ptr 0 0 0), .v (.int .i64 a1)]).zipIdx.map fun q => (q.2, q.1)), hpOf [.cells 79 [.sl 1, .int .i64 a0_1, .int .i64 a0_2], .rows 0 false a0_0], (flags spec_l1Below.sig).length⟩ = spec_l1Below.f k a0_0 a0_1 a0_2 a1 := by kernel_rfl
theorem spec_l1Below.ok (k : Nat) : CSound Tryz.prog 18 (spec_l1Below.C k) :=
  csound κ_ok mixed tok (spec_l1Below.hΓ k) (LH := spec_l1Below.LH k) (fn := Tryz.f18) (c := bodyOf Tryz.f18) Tryz.func18 rfl Tryz.call18 spec_l1Below.sig [] (spec_l1Below.body k) (by kernel_rfl) (spec_l1Below.lok k) (by decide) fun vs bs lf y hl hb hy => by
    unfold spec_l1Below.body at hb
    split at hb
    · obtain ⟨_, rfl, hb_1⟩ := asO_bind hb
      obtain rfl := Option.some.inj hb_1
      exact ⟨spec_l1Below.out, spec_l1Below.out_ok, (spec_l1Below.den k _ _ _ _).trans hy⟩
    · cases hb
/-! ### spec_l21Op -/
def spec_l21Op.f (k : Nat) (a0_0 : List Int) (a0_1 : Int) (a0_2 : Int) : Option (Int × Int × Int × Int × Int × Int) :=
  (spec_l1Below.f k a0_0 a0_1 a0_2 (5 : Int)).bind fun t1 => (spec_l1Below.f k a0_0 t1.2.1 t1.2.2 (4 : Int)).bind fun t2 => (bif ((w64 ((1 : Int) + t1.1)) == (1 : Int)) then (spec_l1Below.f k a0_0 t2.2.1 t2.2.2 (4 : Int)).bind fun t3 => some ((w64 ((1 : Int) + t1.1)), t2.1, (w64 ((1 : Int) + t3.1)), (0 : Int), t3.2.1, t3.2.2) else (bif ((w64 ((1 : Int) + t1.1)) == (5 : Int)) then (spec_l1Below.f k a0_0 t2.2.1 t2.2.2 (4 : Int)).bind fun t4 => some ((w64 ((1 : Int) + t1.1)), t2.1, (w64 ((1 : Int) + t4.1)), (0 : Int), t4.2.1, t4.2.2) else (bif ((w64 ((1 : Int) + t1.1)) == (2 : Int)) then (spec_l1Below.f k a0_0 t2.2.1 t2.2.2 (20 : Int)).bind fun t5 => some ((w64 ((1 : Int) + t1.1)), t2.1, t5.1, (0 : Int), t5.2.1, t5.2.2) else (spec_l1Below.f k a0_0 t2.2.1 t2.2.2 (4 : Int)).bind fun t6 => (spec_l1Below.f k a0_0 t6.2.1 t6.2.2 (4 : Int)).bind fun t7 => some ((w64 ((1 : Int) + t1.1)), t2.1, t6.1, t7.1, t7.2.1, t7.2.2))))
def spec_l21Op.Γ (k : Nat) : Ct κ := assoc [(18, spec_l1Below.C k)]
def spec_l21Op.LH (k : Nat) : Nat → Option (LHi κ) := assoc []
theorem spec_l21Op.hΓ (k : Nat) : ∀ f g, spec_l21Op.Γ k f = some g → CSound Tryz.prog f g := G_cons (spec_l1Below.ok k) G_nil
theorem spec_l21Op.lok (k : Nat) : LOK ti (spec_l21Op.Γ k) (spec_l21Op.LH k) 2 (loopsOf (bodyOf Tryz.f111)) :=
  (show loopsOf (bodyOf Tryz.f111) = [] by kernel_rfl) ▸ LOK_nil
def spec_l21Op.sig : List PSh := [.cur 79 [.ro 0, .sc, .sc]]
def spec_l21Op.g (y : Int × Int × Int × Int × Int × Int) : Ret κ := ⟨.agg [.int .i64 y.1, .int .i64 y.2.1, .int .i64 y.2.2.1, .int .i64 y.2.2.2.1], [.cells 79 [.sl 1, .int .i64 y.2.2.2.2.1, .int .i64 y.2.2.2.2.2]], []⟩
def spec_l21Op.out (r : Ret κ) : Option (Int × Int × Int × Int × Int × Int) :=
  match r with
  | ⟨.agg [.int .i64 z0, .int .i64 z1, .int .i64 z2, .int .i64 z3], [.cells 79 [.sl 1, .int .i64 z4, .int .i64 z5]], []⟩ => some (z0, z1, z2, z3, z4, z5)
  | _ => none
theorem spec_l21Op.out_ok (r : Ret κ) (y : Int × Int × Int × Int × Int × Int) (h : spec_l21Op.out r = some y) : r = spec_l21Op.g y := by
  unfold spec_l21Op.out at h
  split at h
  · obtain rfl := Option.some.inj h
    rfl
  · cases h
def spec_l21Op.body (k : Nat) (vs : List AV) (bs : List (Blk κ)) : Option (Lf κ) :=
  match vs, bs with
  | [.v (.ptr 0 0 0)], [.cells 79 [.sl 1, .int .i64 a0_1, .int .i64 a0_2], qb1] => (asO 0 false qb1).bind fun a0_0 => some ⟨Int × Int × Int × Int × Int × Int, spec_l21Op.f k a0_0 a0_1 a0_2, spec_l21Op.g⟩
  | _, _ => none
def spec_l21Op.C (k : Nat) : Nat → List AV → AP κ AV := contract spec_l21Op.sig (spec_l21Op.body k)
theorem spec_l21Op.den (k : Nat) (a0_0 : List Int) (a0_1 : Int) (a0_2 : Int) : Code.den ti (spec_l21Op.Γ k) (spec_l21Op.LH k) (bodyOf Tryz.f111) (finK ti Tryz.f111.results.toList [] (flags spec_l21Op.sig).length (rwI (flags spec_l21Op.sig) 0) spec_l21Op.out) ⟨envOf (([.v (.ptr 0 0 0)]).zipIdx.map fun q => (q.2, q.1)), hpOf [.cells 79 [.sl 1, .int .i64 a0_1, .int .i64 a0_2], .rows 0 false a0_0], (flags spec_l21Op.sig).length⟩ = spec_l21Op.f k a0_0 a0_1 a0_2 := by kernel_rfl
theorem spec_l21Op.ok (k : Nat) : CSound Tryz.prog 111 (spec_l21Op.C k) :=
  csound κ_ok mixed tok (spec_l21Op.hΓ k) (LH := spec_l21Op.LH k) (fn := Tryz.f111) (c := bodyOf Tryz.f111) Tryz.func111 rfl Tryz.call111 spec_l21Op.sig [] (spec_l21Op.body k) (by kernel_rfl) (spec_l21Op.lok k) (by decide) fun vs bs lf y hl hb hy => by
    unfold spec_l21Op.body at hb
    split at hb
    · obtain ⟨_, rfl, hb_1⟩ := asO_bind hb
      obtain rfl := Option.some.inj hb_1
      exact ⟨spec_l21Op.out, spec_l21Op.out_ok, (spec_l21Op.den k _ _ _).trans hy⟩
    · cases hb
/-! ### spec_l21Ops -/
def spec_l21Ops.L3 {R : Type} (k : Nat) (xl1 : List Int) (X0 : Int → Int → List T_impl_Op → Option R) (rec : Int → Int → Int → List T_impl_Op → Option R) (x2 : Int) (xc0_1 : Int) (xc0_2 : Int) (xl2 : List T_impl_Op) : Option R :=
  (bif decide (x2 > (0 : Int)) then (spec_l21Op.f k xl1 xc0_1 xc0_2).bind fun t2 => (bif decide ((xl2.length + ([(⟨t2.1, t2.2.1, t2.2.2.1, t2.2.2.2.1⟩ : T_impl_Op)] : List T_impl_Op).length) * 32 ≤ cap48) then (let l3 : List T_impl_Op := (xl2 ++ ([(⟨t2.1, t2.2.1, t2.2.2.1, t2.2.2.2.1⟩ : T_impl_Op)] : List T_impl_Op)); (rec (w64 (x2 - (1 : Int))) t2.2.2.2.2.1 t2.2.2.2.2.2 l3)) else none) else (X0 xc0_1 xc0_2 xl2))
def spec_l21Ops.l3 {R : Type} (k : Nat) (xl1 : List Int) (X0 : Int → Int → List T_impl_Op → Option R) : Nat → Int → Int → Int → List T_impl_Op → Option R
  | 0 => fun _ _ _ _ => none
  | n + 1 => spec_l21Ops.L3 k xl1 X0 (spec_l21Ops.l3 k xl1 X0 n)
def spec_l21Ops.f (k : Nat) (a0_0 : List Int) (a0_1 : Int) (a0_2 : Int) : Option (Int × Int × List T_impl_Op) :=
  (spec_l1Below.f k a0_0 a0_1 a0_2 (10 : Int)).bind fun t1 => (spec_l21Ops.l3 k a0_0 (fun (y4 : Int) (y5 : Int) (y6 : List T_impl_Op) => some (y4, y5, y6)) k t1.1 t1.2.1 t1.2.2 ([] : List T_impl_Op))
def spec_l21Ops.h3 (k : Nat) {R : Type} (K : Ex → St κ → Option R) (vs : List AV) (bs : List (Blk κ)) : Option R :=
  match vs, bs with
  | [.v (.ptr 0 0 0), .v (.sl 2), .v (.int .i64 x2)], [.cells 79 [.sl 1, .int .i64 xc0_1, .int .i64 xc0_2], qb1, qb2] => (asO 0 false qb1).bind fun xl1 => (asO 1 true qb2).bind fun xl2 => spec_l21Ops.l3 k xl1 (fun (zc0_1 : Int) (zc0_2 : Int) (zl2 : List T_impl_Op) => K (.exit 0) (stOf [(3, [some 1])] [.v (.sl 2)] [.cells 79 [.sl 1, .int .i64 zc0_1, .int .i64 zc0_2], .rows 0 false xl1, .rows 1 true zl2])) k x2 xc0_1 xc0_2 xl2
  | _, _ => none
def spec_l21Ops.Γ (k : Nat) : Ct κ := assoc [(18, spec_l1Below.C k), (111, spec_l21Op.C k)]
def spec_l21Ops.LH (k : Nat) : Nat → Option (LHi κ) := assoc [(3, ⟨2, [(0, [some 0, none, none]), (3, [some 1]), (4, [])], [(3, [some 1])], @spec_l21Ops.h3 k⟩)]
theorem spec_l21Ops.hΓ (k : Nat) : ∀ f g, spec_l21Ops.Γ k f = some g → CSound Tryz.prog f g := G_cons (spec_l1Below.ok k) (G_cons (spec_l21Op.ok k) G_nil)
theorem spec_l21Ops.e3 {R : Type} (K : Ex → St κ → Option R) (k : Nat) (xl1 : List Int) : ∀ (n : Nat) (x2 : Int) (xc0_1 : Int) (xc0_2 : Int) (xl2 : List T_impl_Op), loopN 2 (Code.den ti (spec_l21Ops.Γ k) (spec_l21Ops.LH k) (loopAt Tryz.f87 0)) [(0, [some 0, none, none]), (3, [some 1]), (4, [])] [(3, [some 1])] K n [.v (.ptr 0 0 0), .v (.sl 2), .v (.int .i64 x2)] [.cells 79 [.sl 1, .int .i64 xc0_1, .int .i64 xc0_2], .rows 0 false xl1, .rows 1 true xl2] = spec_l21Ops.l3 k xl1 (fun (zc0_1 : Int) (zc0_2 : Int) (zl2 : List T_impl_Op) => K (.exit 0) (stOf [(3, [some 1])] [.v (.sl 2)] [.cells 79 [.sl 1, .int .i64 zc0_1, .int .i64 zc0_2], .rows 0 false xl1, .rows 1 true zl2])) n x2 xc0_1 xc0_2 xl2
  | 0, _, _, _, _ => rfl
  | n + 1, x2, xc0_1, xc0_2, xl2 => (show loopN 2 (Code.den ti (spec_l21Ops.Γ k) (spec_l21Ops.LH k) (loopAt Tryz.f87 0)) [(0, [some 0, none, none]), (3, [some 1]), (4, [])] [(3, [some 1])] K (n + 1) [.v (.ptr 0 0 0), .v (.sl 2), .v (.int .i64 x2)] [.cells 79 [.sl 1, .int .i64 xc0_1, .int .i64 xc0_2], .rows 0 false xl1, .rows 1 true xl2] = spec_l21Ops.L3 k xl1 (fun (zc0_1 : Int) (zc0_2 : Int) (zl2 : List T_impl_Op) => K (.exit 0) (stOf [(3, [some 1])] [.v (.sl 2)] [.cells 79 [.sl 1, .int .i64 zc0_1, .int .i64 zc0_2], .rows 0 false xl1, .rows 1 true zl2])) (fun (x2' : Int) (xc0_1' : Int) (xc0_2' : Int) (xl2' : List T_impl_Op) => loopN 2 (Code.den ti (spec_l21Ops.Γ k) (spec_l21Ops.LH k) (loopAt Tryz.f87 0)) [(0, [some 0, none, none]), (3, [some 1]), (4, [])] [(3, [some 1])] K n [.v (.ptr 0 0 0), .v (.sl 2), .v (.int .i64 x2')] [.cells 79 [.sl 1, .int .i64 xc0_1', .int .i64 xc0_2'], .rows 0 false xl1, .rows 1 true xl2']) x2 xc0_1 xc0_2 xl2 by kernel_rfl).trans (congrArg (fun rec => spec_l21Ops.L3 k xl1 (fun (zc0_1 : Int) (zc0_2 : Int) (zl2 : List T_impl_Op) => K (.exit 0) (stOf [(3, [some 1])] [.v (.sl 2)] [.cells 79 [.sl 1, .int .i64 zc0_1, .int .i64 zc0_2], .rows 0 false xl1, .rows 1 true zl2])) rec x2 xc0_1 xc0_2 xl2) (funext fun x2' => funext fun xc0_1' => funext fun xc0_2' => funext fun xl2' => spec_l21Ops.e3 K k xl1 n x2' xc0_1' xc0_2' xl2'))
theorem spec_l21Ops.q3 (k : Nat) {R : Type} (K : Ex → St κ → Option R) (vs : List AV) (bs : List (Blk κ)) (r : R) (h : spec_l21Ops.h3 k K vs bs = some r) : ∃ n, loopN 2 (Code.den ti (spec_l21Ops.Γ k) (spec_l21Ops.LH k) (loopAt Tryz.f87 0)) [(0, [some 0, none, none]), (3, [some 1]), (4, [])] [(3, [some 1])] K n vs bs = some r := by
  unfold spec_l21Ops.h3 at h
  split at h
  · obtain ⟨_, rfl, h_1⟩ := asO_bind h
    obtain ⟨_, rfl, h_2⟩ := asO_bind h_1
    exact ⟨k, (spec_l21Ops.e3 K k _ k _ _ _ _).trans h_2⟩
  · cases h
theorem spec_l21Ops.lok (k : Nat) : LOK ti (spec_l21Ops.Γ k) (spec_l21Ops.LH k) 2 (loopsOf (bodyOf Tryz.f87)) :=
  (show loopsOf (bodyOf Tryz.f87) = [loopAt Tryz.f87 0] by kernel_rfl) ▸ (LOK_cons (g := ⟨2, [(0, [some 0, none, none]), (3, [some 1]), (4, [])], [(3, [some 1])], @spec_l21Ops.h3 k⟩) (by kernel_rfl) rfl (fun K vs xs r h => spec_l21Ops.q3 k K vs xs r h) (LOK_nil))
def spec_l21Ops.sig : List PSh := [.cur 79 [.ro 0, .sc, .sc]]
def spec_l21Ops.g (y : Int × Int × List T_impl_Op) : Ret κ := ⟨.v (.sl 2), [.cells 79 [.sl 1, .int .i64 y.1, .int .i64 y.2.1]], [.rows 1 true y.2.2]⟩
def spec_l21Ops.out (r : Ret κ) : Option (Int × Int × List T_impl_Op) :=
  match r with
  | ⟨.v (.sl 2), [.cells 79 [.sl 1, .int .i64 z0, .int .i64 z1]], [q2]⟩ => (asO 1 true q2).bind fun z2 => some (z0, z1, z2)
  | _ => none
theorem spec_l21Ops.out_ok (r : Ret κ) (y : Int × Int × List T_impl_Op) (h : spec_l21Ops.out r = some y) : r = spec_l21Ops.g y := by
  unfold spec_l21Ops.out at h
  split at h
  · obtain ⟨_, rfl, h_1⟩ := asO_bind h
    obtain rfl := Option.some.inj h_1
    rfl
  · cases h
def spec_l21Ops.body (k : Nat) (vs : List AV) (bs : List (Blk κ)) : Option (Lf κ) :=
  match vs, bs with
  | [.v (.ptr 0 0 0)], [.cells 79 [.sl 1, .int .i64 a0_1, .int .i64 a0_2], qb1] => (asO 0 false qb1).bind fun a0_0 => some ⟨Int × Int × List T_impl_Op, spec_l21Ops.f k a0_0 a0_1 a0_2, spec_l21Ops.g⟩
  | _, _ => none
def spec_l21Ops.C (k : Nat) : Nat → List AV → AP κ AV := contract spec_l21Ops.sig (spec_l21Ops.body k)
theorem spec_l21Ops.den (k : Nat) (a0_0 : List Int) (a0_1 : Int) (a0_2 : Int) : Code.den ti (spec_l21Ops.Γ k) (spec_l21Ops.LH k) (bodyOf Tryz.f87) (finK ti Tryz.f87.results.toList [(2, [some 1])] (flags spec_l21Ops.sig).length (rwI (flags spec_l21Ops.sig) 0) spec_l21Ops.out) ⟨envOf (([.v (.ptr 0 0 0)]).zipIdx.map fun q => (q.2, q.1)), hpOf [.cells 79 [.sl 1, .int .i64 a0_1, .int .i64 a0_2], .rows 0 false a0_0], (flags spec_l21Ops.sig).length⟩ = spec_l21Ops.f k a0_0 a0_1 a0_2 := by kernel_rfl
theorem spec_l21Ops.ok (k : Nat) : CSound Tryz.prog 87 (spec_l21Ops.C k) :=
  csound κ_ok mixed tok (spec_l21Ops.hΓ k) (LH := spec_l21Ops.LH k) (fn := Tryz.f87) (c := bodyOf Tryz.f87) Tryz.func87 rfl Tryz.call87 spec_l21Ops.sig [(2, [some 1])] (spec_l21Ops.body k) (by kernel_rfl) (spec_l21Ops.lok k) (by decide) fun vs bs lf y hl hb hy => by
    unfold spec_l21Ops.body at hb
    split at hb
    · obtain ⟨_, rfl, hb_1⟩ := asO_bind hb
      obtain rfl := Option.some.inj hb_1
      exact ⟨spec_l21Ops.out, spec_l21Ops.out_ok, (spec_l21Ops.den k _ _ _).trans hy⟩
    · cases hb
/-! ### spec_l9Pattern -/
def spec_l9Pattern.f (k : Nat) (a0_0 : List Int) (a0_1 : Int) (a0_2 : Int) : Option (Int × Int × Int × Int) :=
  (spec_l1Below.f k a0_0 a0_1 a0_2 (5 : Int)).bind fun t1 => (spec_l1Below.f k a0_0 t1.2.1 t1.2.2 (4 : Int)).bind fun t2 => some (t1.1, (w64 (t2.1 - (1 : Int))), t2.2.1, t2.2.2)
def spec_l9Pattern.Γ (k : Nat) : Ct κ := assoc [(18, spec_l1Below.C k)]
def spec_l9Pattern.LH (k : Nat) : Nat → Option (LHi κ) := assoc []
theorem spec_l9Pattern.hΓ (k : Nat) : ∀ f g, spec_l9Pattern.Γ k f = some g → CSound Tryz.prog f g := G_cons (spec_l1Below.ok k) G_nil
theorem spec_l9Pattern.lok (k : Nat) : LOK ti (spec_l9Pattern.Γ k) (spec_l9Pattern.LH k) 2 (loopsOf (bodyOf Tryz.f112)) :=
  (show loopsOf (bodyOf Tryz.f112) = [] by kernel_rfl) ▸ LOK_nil
def spec_l9Pattern.sig : List PSh := [.cur 79 [.ro 0, .sc, .sc]]
def spec_l9Pattern.g (y : Int × Int × Int × Int) : Ret κ := ⟨.agg [.int .i64 y.1, .int .i64 y.2.1], [.cells 79 [.sl 1, .int .i64 y.2.2.1, .int .i64 y.2.2.2]], []⟩
def spec_l9Pattern.out (r : Ret κ) : Option (Int × Int × Int × Int) :=
  match r with
  | ⟨.agg [.int .i64 z0, .int .i64 z1], [.cells 79 [.sl 1, .int .i64 z2, .int .i64 z3]], []⟩ => some (z0, z1, z2, z3)
  | _ => none
theorem spec_l9Pattern.out_ok (r : Ret κ) (y : Int × Int × Int × Int) (h : spec_l9Pattern.out r = some y) : r = spec_l9Pattern.g y := by
  unfold spec_l9Pattern.out at h
  split at h
  · obtain rfl := Option.some.inj h
    rfl
  · cases h
def spec_l9Pattern.body (k : Nat) (vs : List AV) (bs : List (Blk κ)) : Option (Lf κ) :=
  match vs, bs with
  | [.v (.ptr 0 0 0)], [.cells 79 [.sl 1, .int .i64 a0_1, .int .i64 a0_2], qb1] => (asO 0 false qb1).bind fun a0_0 => some ⟨Int × Int × Int × Int, spec_l9Pattern.f k a0_0 a0_1 a0_2, spec_l9Pattern.g⟩
  | _, _ => none
def spec_l9Pattern.C (k : Nat) : Nat → List AV → AP κ AV := contract spec_l9Pattern.sig (spec_l9Pattern.body k)
theorem spec_l9Pattern.den (k : Nat) (a0_0 : List Int) (a0_1 : Int) (a0_2 : Int) : Code.den ti (spec_l9Pattern.Γ k) (spec_l9Pattern.LH k) (bodyOf Tryz.f112) (finK ti Tryz.f112.results.toList [] (flags spec_l9Pattern.sig).length (rwI (flags spec_l9Pattern.sig) 0) spec_l9Pattern.out) ⟨envOf (([.v (.ptr 0 0 0)]).zipIdx.map fun q => (q.2, q.1)), hpOf [.cells 79 [.sl 1, .int .i64 a0_1, .int .i64 a0_2], .rows 0 false a0_0], (flags spec_l9Pattern.sig).length⟩ = spec_l9Pattern.f k a0_0 a0_1 a0_2 := by kernel_rfl
theorem spec_l9Pattern.ok (k : Nat) : CSound Tryz.prog 112 (spec_l9Pattern.C k) :=
  csound κ_ok mixed tok (spec_l9Pattern.hΓ k) (LH := spec_l9Pattern.LH k) (fn := Tryz.f112) (c := bodyOf Tryz.f112) Tryz.func112 rfl Tryz.call112 spec_l9Pattern.sig [] (spec_l9Pattern.body k) (by kernel_rfl) (spec_l9Pattern.lok k) (by decide) fun vs bs lf y hl hb hy => by
    unfold spec_l9Pattern.body at hb
    split at hb
    · obtain ⟨_, rfl, hb_1⟩ := asO_bind hb
      obtain rfl := Option.some.inj hb_1
      exact ⟨spec_l9Pattern.out, spec_l9Pattern.out_ok, (spec_l9Pattern.den k _ _ _).trans hy⟩
    · cases hb
/-! ### spec_l1Once -/
def spec_l1Once.f (k : Nat) (a0_0 : List Int) (a0_1 : Int) (a0_2 : Int) (a1 : Int) : Option (Bool × Int × Int) :=
  (spec_l1Below.f k a0_0 a0_1 a0_2 a1).bind fun t1 => some ((t1.1 == (0 : Int)), t1.2.1, t1.2.2)
def spec_l1Once.Γ (k : Nat) : Ct κ := assoc [(18, spec_l1Below.C k)]
def spec_l1Once.LH (k : Nat) : Nat → Option (LHi κ) := assoc []
theorem spec_l1Once.hΓ (k : Nat) : ∀ f g, spec_l1Once.Γ k f = some g → CSound Tryz.prog f g := G_cons (spec_l1Below.ok k) G_nil
theorem spec_l1Once.lok (k : Nat) : LOK ti (spec_l1Once.Γ k) (spec_l1Once.LH k) 2 (loopsOf (bodyOf Tryz.f20)) :=
  (show loopsOf (bodyOf Tryz.f20) = [] by kernel_rfl) ▸ LOK_nil
def spec_l1Once.sig : List PSh := [.cur 79 [.ro 0, .sc, .sc], .one .sc]
def spec_l1Once.g (y : Bool × Int × Int) : Ret κ := ⟨.v (.bool y.1), [.cells 79 [.sl 1, .int .i64 y.2.1, .int .i64 y.2.2]], []⟩
def spec_l1Once.out (r : Ret κ) : Option (Bool × Int × Int) :=
  match r with
  | ⟨.v (.bool z0), [.cells 79 [.sl 1, .int .i64 z1, .int .i64 z2]], []⟩ => some (z0, z1, z2)
  | _ => none
theorem spec_l1Once.out_ok (r : Ret κ) (y : Bool × Int × Int) (h : spec_l1Once.out r = some y) : r = spec_l1Once.g y := by
  unfold spec_l1Once.out at h
  split at h
  · obtain rfl := Option.some.inj h
    rfl
  · cases h
def spec_l1Once.body (k : Nat) (vs : List AV) (bs : List (Blk κ)) : Option (Lf κ) :=
  match vs, bs with
  | [.v (.ptr 0 0 0), .v (.int .i64 a1)], [.cells 79 [.sl 1, .int .i64 a0_1, .int .i64 a0_2], qb1] => (asO 0 false qb1).bind fun a0_0 => some ⟨Bool × Int × Int, spec_l1Once.f k a0_0 a0_1 a0_2 a1, spec_l1Once.g⟩
  | _, _ => none
def spec_l1Once.C (k : Nat) : Nat → List AV → AP κ AV := contract spec_l1Once.sig (spec_l1Once.body k)
theorem spec_l1Once.den (k : Nat) (a0_0 : List Int) (a0_1 : Int) (a0_2 : Int) (a1 : Int) : Code.den ti (spec_l1Once.Γ k) (spec_l1Once.LH k) (bodyOf Tryz.f20) (finK ti Tryz.f20.results.toList [] (flags spec_l1Once.sig).length (rwI (flags spec_l1Once.sig) 0) spec_l1Once.out) ⟨envOf (([.v (.ptr 0 0 0), .v (.int .i64 a1)]).zipIdx.map fun q => (q.2, q.1)), hpOf [.cells 79 [.sl 1, .int .i64 a0_1, .int .i64 a0_2], .rows 0 false a0_0], (flags spec_l1Once.sig).length⟩ = spec_l1Once.f k a0_0 a0_1 a0_2 a1 := by kernel_rfl
theorem spec_l1Once.ok (k : Nat) : CSound Tryz.prog 20 (spec_l1Once.C k) :=
  csound κ_ok mixed tok (spec_l1Once.hΓ k) (LH := spec_l1Once.LH k) (fn := Tryz.f20) (c := bodyOf Tryz.f20) Tryz.func20 rfl Tryz.call20 spec_l1Once.sig [] (spec_l1Once.body k) (by kernel_rfl) (spec_l1Once.lok k) (by decide) fun vs bs lf y hl hb hy => by
    unfold spec_l1Once.body at hb
    split at hb
    · obtain ⟨_, rfl, hb_1⟩ := asO_bind hb
      obtain rfl := Option.some.inj hb_1
      exact ⟨spec_l1Once.out, spec_l1Once.out_ok, (spec_l1Once.den k _ _ _ _).trans hy⟩
    · cases hb
/-! ### spec_l10Draw -/
def spec_l10Draw.f (k : Nat) (a0_0 : List Int) (a0_1 : Int) (a0_2 : Int) : Option (Int × Int × Int × Int × Int × Int × Bool × Int × Int) :=
  (spec_l1Below.f k a0_0 a0_1 a0_2 (9 : Int)).bind fun t1 => (spec_l1Below.f k a0_0 t1.2.1 t1.2.2 (3 : Int)).bind fun t2 => (spec_l9Pattern.f k a0_0 t2.2.1 t2.2.2).bind fun t3 => (spec_l1Below.f k a0_0 t3.2.2.1 t3.2.2.2 (4 : Int)).bind fun t4 => (spec_l1Below.f k a0_0 t4.2.1 t4.2.2 (12 : Int)).bind fun t5 => (spec_l1Once.f k a0_0 t5.2.1 t5.2.2 (4 : Int)).bind fun t6 => some ((w64 ((1 : Int) + t2.1)), t3.1, t3.2.1, (w64 ((1 : Int) + t4.1)), t1.1, (w64 (t1.1 + t5.1)), t6.1, t6.2.1, t6.2.2)
def spec_l10Draw.Γ (k : Nat) : Ct κ := assoc [(18, spec_l1Below.C k), (112, spec_l9Pattern.C k), (20, spec_l1Once.C k)]
def spec_l10Draw.LH (k : Nat) : Nat → Option (LHi κ) := assoc []
theorem spec_l10Draw.hΓ (k : Nat) : ∀ f g, spec_l10Draw.Γ k f = some g → CSound Tryz.prog f g := G_cons (spec_l1Below.ok k) (G_cons (spec_l9Pattern.ok k) (G_cons (spec_l1Once.ok k) G_nil))
theorem spec_l10Draw.lok (k : Nat) : LOK ti (spec_l10Draw.Γ k) (spec_l10Draw.LH k) 2 (loopsOf (bodyOf Tryz.f104)) :=
  (show loopsOf (bodyOf Tryz.f104) = [] by kernel_rfl) ▸ LOK_nil
def spec_l10Draw.sig : List PSh := [.cur 79 [.ro 0, .sc, .sc]]
def spec_l10Draw.g (y : Int × Int × Int × Int × Int × Int × Bool × Int × Int) : Ret κ := ⟨.agg [.int .i64 y.1, .int .i64 y.2.1, .int .i64 y.2.2.1, .int .i64 y.2.2.2.1, .int .i64 y.2.2.2.2.1, .int .i64 y.2.2.2.2.2.1, .bool y.2.2.2.2.2.2.1], [.cells 79 [.sl 1, .int .i64 y.2.2.2.2.2.2.2.1, .int .i64 y.2.2.2.2.2.2.2.2]], []⟩
def spec_l10Draw.out (r : Ret κ) : Option (Int × Int × Int × Int × Int × Int × Bool × Int × Int) :=
  match r with
  | ⟨.agg [.int .i64 z0, .int .i64 z1, .int .i64 z2, .int .i64 z3, .int .i64 z4, .int .i64 z5, .bool z6], [.cells 79 [.sl 1, .int .i64 z7, .int .i64 z8]], []⟩ => some (z0, z1, z2, z3, z4, z5, z6, z7, z8)
  | _ => none
theorem spec_l10Draw.out_ok (r : Ret κ) (y : Int × Int × Int × Int × Int × Int × Bool × Int × Int) (h : spec_l10Draw.out r = some y) : r = spec_l10Draw.g y := by
  unfold spec_l10Draw.out at h
  split at h
  · obtain rfl := Option.some.inj h
    rfl
  · cases h
def spec_l10Draw.body (k : Nat) (vs : List AV) (bs : List (Blk κ)) : Option (Lf κ) :=
  match vs, bs with
  | [.v (.ptr 0 0 0)], [.cells 79 [.sl 1, .int .i64 a0_1, .int .i64 a0_2], qb1] => (asO 0 false qb1).bind fun a0_0 => some ⟨Int × Int × Int × Int × Int × Int × Bool × Int × Int, spec_l10Draw.f k a0_0 a0_1 a0_2, spec_l10Draw.g⟩
  | _, _ => none
def spec_l10Draw.C (k : Nat) : Nat → List AV → AP κ AV := contract spec_l10Draw.sig (spec_l10Draw.body k)
theorem spec_l10Draw.den (k : Nat) (a0_0 : List Int) (a0_1 : Int) (a0_2 : Int) : Code.den ti (spec_l10Draw.Γ k) (spec_l10Draw.LH k) (bodyOf Tryz.f104) (finK ti Tryz.f104.results.toList [] (flags spec_l10Draw.sig).length (rwI (flags spec_l10Draw.sig) 0) spec_l10Draw.out) ⟨envOf (([.v (.ptr 0 0 0)]).zipIdx.map fun q => (q.2, q.1)), hpOf [.cells 79 [.sl 1, .int .i64 a0_1, .int .i64 a0_2], .rows 0 false a0_0], (flags spec_l10Draw.sig).length⟩ = spec_l10Draw.f k a0_0 a0_1 a0_2 := by kernel_rfl
theorem spec_l10Draw.ok (k : Nat) : CSound Tryz.prog 104 (spec_l10Draw.C k) :=
  csound κ_ok mixed tok (spec_l10Draw.hΓ k) (LH := spec_l10Draw.LH k) (fn := Tryz.f104) (c := bodyOf Tryz.f104) Tryz.func104 rfl Tryz.call104 spec_l10Draw.sig [] (spec_l10Draw.body k) (by kernel_rfl) (spec_l10Draw.lok k) (by decide) fun vs bs lf y hl hb hy => by
    unfold spec_l10Draw.body at hb
    split at hb
    · obtain ⟨_, rfl, hb_1⟩ := asO_bind hb
      obtain rfl := Option.some.inj hb_1
      exact ⟨spec_l10Draw.out, spec_l10Draw.out_ok, (spec_l10Draw.den k _ _ _).trans hy⟩
    · cases hb
/-! ### spec_l20Draw -/
def spec_l20Draw.f (k : Nat) (a0_0 : List Int) (a0_1 : Int) (a0_2 : Int) : Option (Int × Int × Int × Int × Int) :=
  (spec_l1Below.f k a0_0 a0_1 a0_2 (3 : Int)).bind fun t1 => (spec_l1Below.f k a0_0 t1.2.1 t1.2.2 (4 : Int)).bind fun t2 => (spec_l1Below.f k a0_0 t2.2.1 t2.2.2 (4 : Int)).bind fun t3 => some ((w64 ((1 : Int) + t1.1)), (w64 ((1 : Int) + t2.1)), (w64 ((1 : Int) + t3.1)), t3.2.1, t3.2.2)
def spec_l20Draw.Γ (k : Nat) : Ct κ := assoc [(18, spec_l1Below.C k)]
def spec_l20Draw.LH (k : Nat) : Nat → Option (LHi κ) := assoc []
theorem spec_l20Draw.hΓ (k : Nat) : ∀ f g, spec_l20Draw.Γ k f = some g → CSound Tryz.prog f g := G_cons (spec_l1Below.ok k) G_nil
theorem spec_l20Draw.lok (k : Nat) : LOK ti (spec_l20Draw.Γ k) (spec_l20Draw.LH k) 2 (loopsOf (bodyOf Tryz.f71)) :=
  (show loopsOf (bodyOf Tryz.f71) = [] by kernel_rfl) ▸ LOK_nil
def spec_l20Draw.sig : List PSh := [.cur 79 [.ro 0, .sc, .sc]]
def spec_l20Draw.g (y : Int × Int × Int × Int × Int) : Ret κ := ⟨.agg [.int .i64 y.1, .int .i64 y.2.1, .int .i64 y.2.2.1], [.cells 79 [.sl 1, .int .i64 y.2.2.2.1, .int .i64 y.2.2.2.2]], []⟩
def spec_l20Draw.out (r : Ret κ) : Option (Int × Int × Int × Int × Int) :=
  match r with
  | ⟨.agg [.int .i64 z0, .int .i64 z1, .int .i64 z2], [.cells 79 [.sl 1, .int .i64 z3, .int .i64 z4]], []⟩ => some (z0, z1, z2, z3, z4)
  | _ => none
theorem spec_l20Draw.out_ok (r : Ret κ) (y : Int × Int × Int × Int × Int) (h : spec_l20Draw.out r = some y) : r = spec_l20Draw.g y := by
  unfold spec_l20Draw.out at h
  split at h
  · obtain rfl := Option.some.inj h
    rfl
  · cases h
def spec_l20Draw.body (k : Nat) (vs : List AV) (bs : List (Blk κ)) : Option (Lf κ) :=
  match vs, bs with
  | [.v (.ptr 0 0 0)], [.cells 79 [.sl 1, .int .i64 a0_1, .int .i64 a0_2], qb1] => (asO 0 false qb1).bind fun a0_0 => some ⟨Int × Int × Int × Int × Int, spec_l20Draw.f k a0_0 a0_1 a0_2, spec_l20Draw.g⟩
  | _, _ => none
def spec_l20Draw.C (k : Nat) : Nat → List AV → AP κ AV := contract spec_l20Draw.sig (spec_l20Draw.body k)
theorem spec_l20Draw.den (k : Nat) (a0_0 : List Int) (a0_1 : Int) (a0_2 : Int) : Code.den ti (spec_l20Draw.Γ k) (spec_l20Draw.LH k) (bodyOf Tryz.f71) (finK ti Tryz.f71.results.toList [] (flags spec_l20Draw.sig).length (rwI (flags spec_l20Draw.sig) 0) spec_l20Draw.out) ⟨envOf (([.v (.ptr 0 0 0)]).zipIdx.map fun q => (q.2, q.1)), hpOf [.cells 79 [.sl 1, .int .i64 a0_1, .int .i64 a0_2], .rows 0 false a0_0], (flags spec_l20Draw.sig).length⟩ = spec_l20Draw.f k a0_0 a0_1 a0_2 := by kernel_rfl
theorem spec_l20Draw.ok (k : Nat) : CSound Tryz.prog 71 (spec_l20Draw.C k) :=
  csound κ_ok mixed tok (spec_l20Draw.hΓ k) (LH := spec_l20Draw.LH k) (fn := Tryz.f71) (c := bodyOf Tryz.f71) Tryz.func71 rfl Tryz.call71 spec_l20Draw.sig [] (spec_l20Draw.body k) (by kernel_rfl) (spec_l20Draw.lok k) (by decide) fun vs bs lf y hl hb hy => by
    unfold spec_l20Draw.body at hb
    split at hb
    · obtain ⟨_, rfl, hb_1⟩ := asO_bind hb
      obtain rfl := Option.some.inj hb_1
      exact ⟨spec_l20Draw.out, spec_l20Draw.out_ok, (spec_l20Draw.den k _ _ _).trans hy⟩
    · cases hb
/-! ### spec_l9Site -/
def spec_l9Site.f (k : Nat) (a0_0 : List Int) (a0_1 : Int) (a0_2 : Int) : Option (Int × Int × Int × Int) :=
  (spec_l1Below.f k a0_0 a0_1 a0_2 (4 : Int)).bind fun t1 => (spec_l1Below.f k a0_0 t1.2.1 t1.2.2 (3 : Int)).bind fun t2 => some ((w64 ((1 : Int) + t1.1)), t2.1, t2.2.1, t2.2.2)
def spec_l9Site.Γ (k : Nat) : Ct κ := assoc [(18, spec_l1Below.C k)]
def spec_l9Site.LH (k : Nat) : Nat → Option (LHi κ) := assoc []
theorem spec_l9Site.hΓ (k : Nat) : ∀ f g, spec_l9Site.Γ k f = some g → CSound Tryz.prog f g := G_cons (spec_l1Below.ok k) G_nil
theorem spec_l9Site.lok (k : Nat) : LOK ti (spec_l9Site.Γ k) (spec_l9Site.LH k) 2 (loopsOf (bodyOf Tryz.f113)) :=
  (show loopsOf (bodyOf Tryz.f113) = [] by kernel_rfl) ▸ LOK_nil
def spec_l9Site.sig : List PSh := [.cur 79 [.ro 0, .sc, .sc]]
def spec_l9Site.g (y : Int × Int × Int × Int) : Ret κ := ⟨.agg [.int .i64 y.1, .int .i64 y.2.1], [.cells 79 [.sl 1, .int .i64 y.2.2.1, .int .i64 y.2.2.2]], []⟩
def spec_l9Site.out (r : Ret κ) : Option (Int × Int × Int × Int) :=
  match r with
  | ⟨.agg [.int .i64 z0, .int .i64 z1], [.cells 79 [.sl 1, .int .i64 z2, .int .i64 z3]], []⟩ => some (z0, z1, z2, z3)
  | _ => none
theorem spec_l9Site.out_ok (r : Ret κ) (y : Int × Int × Int × Int) (h : spec_l9Site.out r = some y) : r = spec_l9Site.g y := by
  unfold spec_l9Site.out at h
  split at h
  · obtain rfl := Option.some.inj h
    rfl
  · cases h
def spec_l9Site.body (k : Nat) (vs : List AV) (bs : List (Blk κ)) : Option (Lf κ) :=
  match vs, bs with
  | [.v (.ptr 0 0 0)], [.cells 79 [.sl 1, .int .i64 a0_1, .int .i64 a0_2], qb1] => (asO 0 false qb1).bind fun a0_0 => some ⟨Int × Int × Int × Int, spec_l9Site.f k a0_0 a0_1 a0_2, spec_l9Site.g⟩
  | _, _ => none
def spec_l9Site.C (k : Nat) : Nat → List AV → AP κ AV := contract spec_l9Site.sig (spec_l9Site.body k)
theorem spec_l9Site.den (k : Nat) (a0_0 : List Int) (a0_1 : Int) (a0_2 : Int) : Code.den ti (spec_l9Site.Γ k) (spec_l9Site.LH k) (bodyOf Tryz.f113) (finK ti Tryz.f113.results.toList [] (flags spec_l9Site.sig).length (rwI (flags spec_l9Site.sig) 0) spec_l9Site.out) ⟨envOf (([.v (.ptr 0 0 0)]).zipIdx.map fun q => (q.2, q.1)), hpOf [.cells 79 [.sl 1, .int .i64 a0_1, .int .i64 a0_2], .rows 0 false a0_0], (flags spec_l9Site.sig).length⟩ = spec_l9Site.f k a0_0 a0_1 a0_2 := by kernel_rfl
theorem spec_l9Site.ok (k : Nat) : CSound Tryz.prog 113 (spec_l9Site.C k) :=
  csound κ_ok mixed tok (spec_l9Site.hΓ k) (LH := spec_l9Site.LH k) (fn := Tryz.f113) (c := bodyOf Tryz.f113) Tryz.func113 rfl Tryz.call113 spec_l9Site.sig [] (spec_l9Site.body k) (by kernel_rfl) (spec_l9Site.lok k) (by decide) fun vs bs lf y hl hb hy => by
    unfold spec_l9Site.body at hb
    split at hb
    · obtain ⟨_, rfl, hb_1⟩ := asO_bind hb
      obtain rfl := Option.some.inj hb_1
      exact ⟨spec_l9Site.out, spec_l9Site.out_ok, (spec_l9Site.den k _ _ _).trans hy⟩
    · cases hb
/-! ### spec_l13Draw -/
def spec_l13Draw.f (k : Nat) (a0_0 : List Int) (a0_1 : Int) (a0_2 : Int) : Option (Int × Int × Int × Int × Int × Int × Int × Int × Int × Int) :=
  (spec_l1Below.f k a0_0 a0_1 a0_2 (3 : Int)).bind fun t1 => (spec_l1Below.f k a0_0 t1.2.1 t1.2.2 (3 : Int)).bind fun t2 => (spec_l9Pattern.f k a0_0 t2.2.1 t2.2.2).bind fun t3 => (spec_l1Below.f k a0_0 t3.2.2.1 t3.2.2.2 (3 : Int)).bind fun t4 => (spec_l1Below.f k a0_0 t4.2.1 t4.2.2 (3 : Int)).bind fun t5 => (bif ((w64 ((1 : Int) + t5.1)) == (3 : Int)) then (spec_l9Site.f k a0_0 t5.2.1 t5.2.2).bind fun t6 => some ((w64 ((1 : Int) + t1.1)), (w64 ((1 : Int) + t2.1)), t3.1, t3.2.1, t4.1, (w64 ((1 : Int) + t5.1)), t6.1, t6.2.1, t6.2.2.1, t6.2.2.2) else some ((w64 ((1 : Int) + t1.1)), (w64 ((1 : Int) + t2.1)), t3.1, t3.2.1, t4.1, (w64 ((1 : Int) + t5.1)), (0 : Int), (0 : Int), t5.2.1, t5.2.2))
def spec_l13Draw.Γ (k : Nat) : Ct κ := assoc [(18, spec_l1Below.C k), (112, spec_l9Pattern.C k), (113, spec_l9Site.C k)]
def spec_l13Draw.LH (k : Nat) : Nat → Option (LHi κ) := assoc []
theorem spec_l13Draw.hΓ (k : Nat) : ∀ f g, spec_l13Draw.Γ k f = some g → CSound Tryz.prog f g := G_cons (spec_l1Below.ok k) (G_cons (spec_l9Pattern.ok k) (G_cons (spec_l9Site.ok k) G_nil))
theorem spec_l13Draw.lok (k : Nat) : LOK ti (spec_l13Draw.Γ k) (spec_l13Draw.LH k) 2 (loopsOf (bodyOf Tryz.f88)) :=
  (show loopsOf (bodyOf Tryz.f88) = [] by kernel_rfl) ▸ LOK_nil
def spec_l13Draw.sig : List PSh := [.cur 79 [.ro 0, .sc, .sc]]
def spec_l13Draw.g (y : Int × Int × Int × Int × Int × Int × Int × Int × Int × Int) : Ret κ := ⟨.agg [.int .i64 y.1, .int .i64 y.2.1, .int .i64 y.2.2.1, .int .i64 y.2.2.2.1, .int .i64 y.2.2.2.2.1, .int .i64 y.2.2.2.2.2.1, .int .i64 y.2.2.2.2.2.2.1, .int .i64 y.2.2.2.2.2.2.2.1], [.cells 79 [.sl 1, .int .i64 y.2.2.2.2.2.2.2.2.1, .int .i64 y.2.2.2.2.2.2.2.2.2]], []⟩
def spec_l13Draw.out (r : Ret κ) : Option (Int × Int × Int × Int × Int × Int × Int × Int × Int × Int) :=
  match r with
  | ⟨.agg [.int .i64 z0, .int .i64 z1, .int .i64 z2, .int .i64 z3, .int .i64 z4, .int .i64 z5, .int .i64 z6, .int .i64 z7], [.cells 79 [.sl 1, .int .i64 z8, .int .i64 z9]], []⟩ => some (z0, z1, z2, z3, z4, z5, z6, z7, z8, z9)
  | _ => none
theorem spec_l13Draw.out_ok (r : Ret κ) (y : Int × Int × Int × Int × Int × Int × Int × Int × Int × Int) (h : spec_l13Draw.out r = some y) : r = spec_l13Draw.g y := by
  unfold spec_l13Draw.out at h
  split at h
  · obtain rfl := Option.some.inj h
    rfl
  · cases h
def spec_l13Draw.body (k : Nat) (vs : List AV) (bs : List (Blk κ)) : Option (Lf κ) :=
  match vs, bs with
  | [.v (.ptr 0 0 0)], [.cells 79 [.sl 1, .int .i64 a0_1, .int .i64 a0_2], qb1] => (asO 0 false qb1).bind fun a0_0 => some ⟨Int × Int × Int × Int × Int × Int × Int × Int × Int × Int, spec_l13Draw.f k a0_0 a0_1 a0_2, spec_l13Draw.g⟩
  | _, _ => none
def spec_l13Draw.C (k : Nat) : Nat → List AV → AP κ AV := contract spec_l13Draw.sig (spec_l13Draw.body k)
theorem spec_l13Draw.den (k : Nat) (a0_0 : List Int) (a0_1 : Int) (a0_2 : Int) : Code.den ti (spec_l13Draw.Γ k) (spec_l13Draw.LH k) (bodyOf Tryz.f88) (finK ti Tryz.f88.results.toList [] (flags spec_l13Draw.sig).length (rwI (flags spec_l13Draw.sig) 0) spec_l13Draw.out) ⟨envOf (([.v (.ptr 0 0 0)]).zipIdx.map fun q => (q.2, q.1)), hpOf [.cells 79 [.sl 1, .int .i64 a0_1, .int .i64 a0_2], .rows 0 false a0_0], (flags spec_l13Draw.sig).length⟩ = spec_l13Draw.f k a0_0 a0_1 a0_2 := by kernel_rfl
theorem spec_l13Draw.ok (k : Nat) : CSound Tryz.prog 88 (spec_l13Draw.C k) :=
  csound κ_ok mixed tok (spec_l13Draw.hΓ k) (LH := spec_l13Draw.LH k) (fn := Tryz.f88) (c := bodyOf Tryz.f88) Tryz.func88 rfl Tryz.call88 spec_l13Draw.sig [] (spec_l13Draw.body k) (by kernel_rfl) (spec_l13Draw.lok k) (by decide) fun vs bs lf y hl hb hy => by
    unfold spec_l13Draw.body at hb
    split at hb
    · obtain ⟨_, rfl, hb_1⟩ := asO_bind hb
      obtain rfl := Option.some.inj hb_1
      exact ⟨spec_l13Draw.out, spec_l13Draw.out_ok, (spec_l13Draw.den k _ _ _).trans hy⟩
    · cases hb
/-! ### spec_l26Copy -/
def spec_l26Copy.f (k : Nat) (a0_0 : Int) (a0_1 : Int) (a0_2 : Int) (a0_3 : List T_impl_Grant) (a0_4 : List T_impl_Flow) (a0_5 : List T_impl_Rule) (a0_6 : List T_impl_Op) (a0_7 : Int) : Option (Int × Int × Int × Int × List T_impl_Grant × List T_impl_Flow × List T_impl_Rule × List T_impl_Op) :=
  (bif decide ((([] : List T_impl_Grant).length + a0_3.length) * 56 ≤ cap48) then (bif decide ((([] : List T_impl_Flow).length + a0_4.length) * 24 ≤ cap48) then (bif decide ((([] : List T_impl_Rule).length + a0_5.length) * 64 ≤ cap48) then (bif decide ((([] : List T_impl_Op).length + a0_6.length) * 32 ≤ cap48) then some (a0_0, a0_1, a0_2, a0_7, (([] : List T_impl_Grant) ++ a0_3), (([] : List T_impl_Flow) ++ a0_4), (([] : List T_impl_Rule) ++ a0_5), (([] : List T_impl_Op) ++ a0_6)) else none) else none) else none) else none)
def spec_l26Copy.Γ (k : Nat) : Ct κ := assoc []
def spec_l26Copy.LH (k : Nat) : Nat → Option (LHi κ) := assoc []
theorem spec_l26Copy.hΓ (k : Nat) : ∀ f g, spec_l26Copy.Γ k f = some g → CSound Tryz.prog f g := G_nil
theorem spec_l26Copy.lok (k : Nat) : LOK ti (spec_l26Copy.Γ k) (spec_l26Copy.LH k) 4 (loopsOf (bodyOf Tryz.f39)) :=
  (show loopsOf (bodyOf Tryz.f39) = [] by kernel_rfl) ▸ LOK_nil
def spec_l26Copy.sig : List PSh := [.agg [.sc, .sc, .sc, .ro 2, .ro 3, .ro 4, .ro 1, .sc]]
def spec_l26Copy.g (y : Int × Int × Int × Int × List T_impl_Grant × List T_impl_Flow × List T_impl_Rule × List T_impl_Op) : Ret κ := ⟨.agg [.int .i64 y.1, .int .i64 y.2.1, .int .i64 y.2.2.1, .sl 4, .sl 5, .sl 6, .sl 7, .int .i64 y.2.2.2.1], [], [.rows 2 true y.2.2.2.2.1, .rows 3 true y.2.2.2.2.2.1, .rows 4 true y.2.2.2.2.2.2.1, .rows 1 true y.2.2.2.2.2.2.2]⟩
def spec_l26Copy.out (r : Ret κ) : Option (Int × Int × Int × Int × List T_impl_Grant × List T_impl_Flow × List T_impl_Rule × List T_impl_Op) :=
  match r with
  | ⟨.agg [.int .i64 z0, .int .i64 z1, .int .i64 z2, .sl 4, .sl 5, .sl 6, .sl 7, .int .i64 z3], [], [q4, q5, q6, q7]⟩ => (asO 2 true q4).bind fun z4 => (asO 3 true q5).bind fun z5 => (asO 4 true q6).bind fun z6 => (asO 1 true q7).bind fun z7 => some (z0, z1, z2, z3, z4, z5, z6, z7)
  | _ => none
theorem spec_l26Copy.out_ok (r : Ret κ) (y : Int × Int × Int × Int × List T_impl_Grant × List T_impl_Flow × List T_impl_Rule × List T_impl_Op) (h : spec_l26Copy.out r = some y) : r = spec_l26Copy.g y := by
  unfold spec_l26Copy.out at h
  split at h
  · obtain ⟨_, rfl, h_1⟩ := asO_bind h
    obtain ⟨_, rfl, h_2⟩ := asO_bind h_1
    obtain ⟨_, rfl, h_3⟩ := asO_bind h_2
    obtain ⟨_, rfl, h_4⟩ := asO_bind h_3
    obtain rfl := Option.some.inj h_4
    rfl
  · cases h
def spec_l26Copy.body (k : Nat) (vs : List AV) (bs : List (Blk κ)) : Option (Lf κ) :=
  match vs, bs with
  | [.agg [.int .i64 a0_0, .int .i64 a0_1, .int .i64 a0_2, .sl 0, .sl 1, .sl 2, .sl 3, .int .i64 a0_7]], [qb0, qb1, qb2, qb3] => (asO 2 false qb0).bind fun a0_3 => (asO 3 false qb1).bind fun a0_4 => (asO 4 false qb2).bind fun a0_5 => (asO 1 false qb3).bind fun a0_6 => some ⟨Int × Int × Int × Int × List T_impl_Grant × List T_impl_Flow × List T_impl_Rule × List T_impl_Op, spec_l26Copy.f k a0_0 a0_1 a0_2 a0_3 a0_4 a0_5 a0_6 a0_7, spec_l26Copy.g⟩
  | _, _ => none
def spec_l26Copy.C (k : Nat) : Nat → List AV → AP κ AV := contract spec_l26Copy.sig (spec_l26Copy.body k)
theorem spec_l26Copy.den (k : Nat) (a0_0 : Int) (a0_1 : Int) (a0_2 : Int) (a0_3 : List T_impl_Grant) (a0_4 : List T_impl_Flow) (a0_5 : List T_impl_Rule) (a0_6 : List T_impl_Op) (a0_7 : Int) : Code.den ti (spec_l26Copy.Γ k) (spec_l26Copy.LH k) (bodyOf Tryz.f39) (finK ti Tryz.f39.results.toList [(2, [none, none, none, some 2, some 3, some 4, some 1, none])] (flags spec_l26Copy.sig).length (rwI (flags spec_l26Copy.sig) 0) spec_l26Copy.out) ⟨envOf (([.agg [.int .i64 a0_0, .int .i64 a0_1, .int .i64 a0_2, .sl 0, .sl 1, .sl 2, .sl 3, .int .i64 a0_7]]).zipIdx.map fun q => (q.2, q.1)), hpOf [.rows 2 false a0_3, .rows 3 false a0_4, .rows 4 false a0_5, .rows 1 false a0_6], (flags spec_l26Copy.sig).length⟩ = spec_l26Copy.f k a0_0 a0_1 a0_2 a0_3 a0_4 a0_5 a0_6 a0_7 := by kernel_rfl
theorem spec_l26Copy.ok (k : Nat) : CSound Tryz.prog 39 (spec_l26Copy.C k) :=
  csound κ_ok mixed tok (spec_l26Copy.hΓ k) (LH := spec_l26Copy.LH k) (fn := Tryz.f39) (c := bodyOf Tryz.f39) Tryz.func39 rfl Tryz.call39 spec_l26Copy.sig [(2, [none, none, none, some 2, some 3, some 4, some 1, none])] (spec_l26Copy.body k) (by kernel_rfl) (spec_l26Copy.lok k) (by decide) fun vs bs lf y hl hb hy => by
    unfold spec_l26Copy.body at hb
    split at hb
    · obtain ⟨_, rfl, hb_1⟩ := asO_bind hb
      obtain ⟨_, rfl, hb_2⟩ := asO_bind hb_1
      obtain ⟨_, rfl, hb_3⟩ := asO_bind hb_2
      obtain ⟨_, rfl, hb_4⟩ := asO_bind hb_3
      obtain rfl := Option.some.inj hb_4
      exact ⟨spec_l26Copy.out, spec_l26Copy.out_ok, (spec_l26Copy.den k _ _ _ _ _ _ _ _).trans hy⟩
    · cases hb
/-! ### spec_l1In -/
def spec_l1In.f (k : Nat) (a0 : Int) (a1 : Int) (a2 : Int) : Option Bool :=
  (bif decide (a0 ≥ a1) then some (decide (a0 ≤ a2)) else some false)
def spec_l1In.Γ (k : Nat) : Ct κ := assoc []
def spec_l1In.LH (k : Nat) : Nat → Option (LHi κ) := assoc []
theorem spec_l1In.hΓ (k : Nat) : ∀ f g, spec_l1In.Γ k f = some g → CSound Tryz.prog f g := G_nil
theorem spec_l1In.lok (k : Nat) : LOK ti (spec_l1In.Γ k) (spec_l1In.LH k) 0 (loopsOf (bodyOf Tryz.f74)) :=
  (show loopsOf (bodyOf Tryz.f74) = [] by kernel_rfl) ▸ LOK_nil
def spec_l1In.sig : List PSh := [.one .sc, .one .sc, .one .sc]
def spec_l1In.g (y : Bool) : Ret κ := ⟨.v (.bool y), [], []⟩
def spec_l1In.out (r : Ret κ) : Option Bool :=
  match r with
  | ⟨.v (.bool z0), [], []⟩ => some (z0)
  | _ => none
theorem spec_l1In.out_ok (r : Ret κ) (y : Bool) (h : spec_l1In.out r = some y) : r = spec_l1In.g y := by
  unfold spec_l1In.out at h
  split at h
  · obtain rfl := Option.some.inj h
    rfl
  · cases h
def spec_l1In.body (k : Nat) (vs : List AV) (bs : List (Blk κ)) : Option (Lf κ) :=
  match vs, bs with
  | [.v (.int .i64 a0), .v (.int .i64 a1), .v (.int .i64 a2)], [] => some ⟨Bool, spec_l1In.f k a0 a1 a2, spec_l1In.g⟩
  | _, _ => none
def spec_l1In.C (k : Nat) : Nat → List AV → AP κ AV := contract spec_l1In.sig (spec_l1In.body k)
theorem spec_l1In.den (k : Nat) (a0 : Int) (a1 : Int) (a2 : Int) : Code.den ti (spec_l1In.Γ k) (spec_l1In.LH k) (bodyOf Tryz.f74) (finK ti Tryz.f74.results.toList [] (flags spec_l1In.sig).length (rwI (flags spec_l1In.sig) 0) spec_l1In.out) ⟨envOf (([.v (.int .i64 a0), .v (.int .i64 a1), .v (.int .i64 a2)]).zipIdx.map fun q => (q.2, q.1)), hpOf [], (flags spec_l1In.sig).length⟩ = spec_l1In.f k a0 a1 a2 := by kernel_rfl
theorem spec_l1In.ok (k : Nat) : CSound Tryz.prog 74 (spec_l1In.C k) :=
  csound κ_ok mixed tok (spec_l1In.hΓ k) (LH := spec_l1In.LH k) (fn := Tryz.f74) (c := bodyOf Tryz.f74) Tryz.func74 rfl Tryz.call74 spec_l1In.sig [] (spec_l1In.body k) (by kernel_rfl) (spec_l1In.lok k) (by decide) fun vs bs lf y hl hb hy => by
    unfold spec_l1In.body at hb
    split at hb
    · obtain rfl := Option.some.inj hb
      exact ⟨spec_l1In.out, spec_l1In.out_ok, (spec_l1In.den k _ _ _).trans hy⟩
    · cases hb
/-! ### spec_IsValidKey -/
def spec_IsValidKey.f (k : Nat) (a0 : Int) : Option Bool :=
  (spec_l1In.f k a0 (1 : Int) (2147483646 : Int)).bind fun t1 => some t1
def spec_IsValidKey.Γ (k : Nat) : Ct κ := assoc [(74, spec_l1In.C k)]
def spec_IsValidKey.LH (k : Nat) : Nat → Option (LHi κ) := assoc []
theorem spec_IsValidKey.hΓ (k : Nat) : ∀ f g, spec_IsValidKey.Γ k f = some g → CSound Tryz.prog f g := G_cons (spec_l1In.ok k) G_nil
theorem spec_IsValidKey.lok (k : Nat) : LOK ti (spec_IsValidKey.Γ k) (spec_IsValidKey.LH k) 0 (loopsOf (bodyOf Tryz.f90)) :=
  (show loopsOf (bodyOf Tryz.f90) = [] by kernel_rfl) ▸ LOK_nil
def spec_IsValidKey.sig : List PSh := [.one .sc]
def spec_IsValidKey.g (y : Bool) : Ret κ := ⟨.v (.bool y), [], []⟩
def spec_IsValidKey.out (r : Ret κ) : Option Bool :=
  match r with
  | ⟨.v (.bool z0), [], []⟩ => some (z0)
  | _ => none
theorem spec_IsValidKey.out_ok (r : Ret κ) (y : Bool) (h : spec_IsValidKey.out r = some y) : r = spec_IsValidKey.g y := by
  unfold spec_IsValidKey.out at h
  split at h
  · obtain rfl := Option.some.inj h
    rfl
  · cases h
def spec_IsValidKey.body (k : Nat) (vs : List AV) (bs : List (Blk κ)) : Option (Lf κ) :=
  match vs, bs with
  | [.v (.int .i64 a0)], [] => some ⟨Bool, spec_IsValidKey.f k a0, spec_IsValidKey.g⟩
  | _, _ => none
def spec_IsValidKey.C (k : Nat) : Nat → List AV → AP κ AV := contract spec_IsValidKey.sig (spec_IsValidKey.body k)
theorem spec_IsValidKey.den (k : Nat) (a0 : Int) : Code.den ti (spec_IsValidKey.Γ k) (spec_IsValidKey.LH k) (bodyOf Tryz.f90) (finK ti Tryz.f90.results.toList [] (flags spec_IsValidKey.sig).length (rwI (flags spec_IsValidKey.sig) 0) spec_IsValidKey.out) ⟨envOf (([.v (.int .i64 a0)]).zipIdx.map fun q => (q.2, q.1)), hpOf [], (flags spec_IsValidKey.sig).length⟩ = spec_IsValidKey.f k a0 := by kernel_rfl
theorem spec_IsValidKey.ok (k : Nat) : CSound Tryz.prog 90 (spec_IsValidKey.C k) :=
  csound κ_ok mixed tok (spec_IsValidKey.hΓ k) (LH := spec_IsValidKey.LH k) (fn := Tryz.f90) (c := bodyOf Tryz.f90) Tryz.func90 rfl Tryz.call90 spec_IsValidKey.sig [] (spec_IsValidKey.body k) (by kernel_rfl) (spec_IsValidKey.lok k) (by decide) fun vs bs lf y hl hb hy => by
    unfold spec_IsValidKey.body at hb
    split at hb
    · obtain rfl := Option.some.inj hb
      exact ⟨spec_IsValidKey.out, spec_IsValidKey.out_ok, (spec_IsValidKey.den k _).trans hy⟩
    · cases hb
/-! ### spec_l21Ok -/
def spec_l21Ok.f (k : Nat) (a0_0 : Int) (a0_1 : Int) (a0_2 : Int) (a0_3 : Int) : Option Bool :=
  (spec_l1In.f k a0_1 (0 : Int) (5 : Int)).bind fun t1 => (spec_l1In.f k a0_2 (0 : Int) (5 : Int)).bind fun t2 => (bif (a0_0 == (1 : Int)) then (bif t1 then (spec_l1In.f k a0_2 (1 : Int) (9 : Int)).bind fun t3 => (bif t3 then some (a0_3 == (0 : Int)) else some false) else some false) else (bif (a0_0 == (5 : Int)) then (bif t1 then (spec_l1In.f k a0_2 (1 : Int) (9 : Int)).bind fun t4 => (bif t4 then some (a0_3 == (0 : Int)) else some false) else some false) else (bif (a0_0 == (2 : Int)) then (bif t1 then (spec_l1In.f k a0_2 (0 : Int) (999 : Int)).bind fun t5 => (bif t5 then some (a0_3 == (0 : Int)) else some false) else some false) else (bif (a0_0 == (3 : Int)) then (bif t1 then (bif t2 then (spec_l1In.f k a0_3 (0 : Int) (5 : Int)).bind fun t6 => some t6 else some false) else some false) else (bif (a0_0 == (4 : Int)) then (bif t1 then (bif t2 then (spec_l1In.f k a0_3 (0 : Int) (5 : Int)).bind fun t7 => some t7 else some false) else some false) else some false)))))
def spec_l21Ok.Γ (k : Nat) : Ct κ := assoc [(74, spec_l1In.C k)]
def spec_l21Ok.LH (k : Nat) : Nat → Option (LHi κ) := assoc []
theorem spec_l21Ok.hΓ (k : Nat) : ∀ f g, spec_l21Ok.Γ k f = some g → CSound Tryz.prog f g := G_cons (spec_l1In.ok k) G_nil
theorem spec_l21Ok.lok (k : Nat) : LOK ti (spec_l21Ok.Γ k) (spec_l21Ok.LH k) 0 (loopsOf (bodyOf Tryz.f133)) :=
  (show loopsOf (bodyOf Tryz.f133) = [] by kernel_rfl) ▸ LOK_nil
def spec_l21Ok.sig : List PSh := [.agg [.sc, .sc, .sc, .sc]]
def spec_l21Ok.g (y : Bool) : Ret κ := ⟨.v (.bool y), [], []⟩
def spec_l21Ok.out (r : Ret κ) : Option Bool :=
  match r with
  | ⟨.v (.bool z0), [], []⟩ => some (z0)
  | _ => none
theorem spec_l21Ok.out_ok (r : Ret κ) (y : Bool) (h : spec_l21Ok.out r = some y) : r = spec_l21Ok.g y := by
  unfold spec_l21Ok.out at h
  split at h
  · obtain rfl := Option.some.inj h
    rfl
  · cases h
def spec_l21Ok.body (k : Nat) (vs : List AV) (bs : List (Blk κ)) : Option (Lf κ) :=
  match vs, bs with
  | [.agg [.int .i64 a0_0, .int .i64 a0_1, .int .i64 a0_2, .int .i64 a0_3]], [] => some ⟨Bool, spec_l21Ok.f k a0_0 a0_1 a0_2 a0_3, spec_l21Ok.g⟩
  | _, _ => none
def spec_l21Ok.C (k : Nat) : Nat → List AV → AP κ AV := contract spec_l21Ok.sig (spec_l21Ok.body k)
theorem spec_l21Ok.den (k : Nat) (a0_0 : Int) (a0_1 : Int) (a0_2 : Int) (a0_3 : Int) : Code.den ti (spec_l21Ok.Γ k) (spec_l21Ok.LH k) (bodyOf Tryz.f133) (finK ti Tryz.f133.results.toList [] (flags spec_l21Ok.sig).length (rwI (flags spec_l21Ok.sig) 0) spec_l21Ok.out) ⟨envOf (([.agg [.int .i64 a0_0, .int .i64 a0_1, .int .i64 a0_2, .int .i64 a0_3]]).zipIdx.map fun q => (q.2, q.1)), hpOf [], (flags spec_l21Ok.sig).length⟩ = spec_l21Ok.f k a0_0 a0_1 a0_2 a0_3 := by kernel_rfl
theorem spec_l21Ok.ok (k : Nat) : CSound Tryz.prog 133 (spec_l21Ok.C k) :=
  csound κ_ok mixed tok (spec_l21Ok.hΓ k) (LH := spec_l21Ok.LH k) (fn := Tryz.f133) (c := bodyOf Tryz.f133) Tryz.func133 rfl Tryz.call133 spec_l21Ok.sig [] (spec_l21Ok.body k) (by kernel_rfl) (spec_l21Ok.lok k) (by decide) fun vs bs lf y hl hb hy => by
    unfold spec_l21Ok.body at hb
    split at hb
    · obtain rfl := Option.some.inj hb
      exact ⟨spec_l21Ok.out, spec_l21Ok.out_ok, (spec_l21Ok.den k _ _ _ _).trans hy⟩
    · cases hb
/-! ### spec_AreOps -/
def spec_AreOps.L2 {R : Type} (k : Nat) (xl0 : List T_impl_Op) (X0 : Bool → Option R) (X1 : Unit → Option R) (rec : Int → Option R) (x1 : Int) : Option R :=
  (bif decide (x1 < (xl0.length : Int)) then (bif decide (0 ≤ x1) then (bif decide (x1 < (xl0.length : Int)) then (spec_l21Ok.f k ((rd_impl_Op xl0 x1).f0) ((rd_impl_Op xl0 x1).f1) ((rd_impl_Op xl0 x1).f2) ((rd_impl_Op xl0 x1).f3)).bind fun t1 => (bif !t1 then (X0 false) else (rec (w64 (x1 + (1 : Int))))) else none) else none) else (X1 ()))
def spec_AreOps.l2 {R : Type} (k : Nat) (xl0 : List T_impl_Op) (X0 : Bool → Option R) (X1 : Unit → Option R) : Nat → Int → Option R
  | 0 => fun _ => none
  | n + 1 => spec_AreOps.L2 k xl0 X0 X1 (spec_AreOps.l2 k xl0 X0 X1 n)
def spec_AreOps.f (k : Nat) (a0 : List T_impl_Op) : Option Bool :=
  (spec_AreOps.l2 k a0 (fun (y2 : Bool) => some y2) (fun (_ : Unit) => some (decide ((a0.length : Int) ≤ (16 : Int)))) k (0 : Int))
def spec_AreOps.h2 (k : Nat) {R : Type} (K : Ex → St κ → Option R) (vs : List AV) (bs : List (Blk κ)) : Option R :=
  match vs, bs with
  | [.v (.sl 0), .v (.int .i64 x1)], [qb0] => (asO 1 false qb0).bind fun xl0 => spec_AreOps.l2 k xl0 (fun (z1 : Bool) => K .ret (stOf [(0, [some 1]), (2, [])] [.v (.sl 0), .v (.bool z1)] [.rows 1 false xl0])) (fun (_ : Unit) => K (.exit 0) (stOf [(0, [some 1]), (2, [])] [.v (.sl 0), .v .any] [.rows 1 false xl0])) k x1
  | _, _ => none
def spec_AreOps.Γ (k : Nat) : Ct κ := assoc [(133, spec_l21Ok.C k)]
def spec_AreOps.LH (k : Nat) : Nat → Option (LHi κ) := assoc [(2, ⟨1, [(0, [some 1]), (3, [])], [(0, [some 1]), (2, [])], @spec_AreOps.h2 k⟩)]
theorem spec_AreOps.hΓ (k : Nat) : ∀ f g, spec_AreOps.Γ k f = some g → CSound Tryz.prog f g := G_cons (spec_l21Ok.ok k) G_nil
theorem spec_AreOps.e2 {R : Type} (K : Ex → St κ → Option R) (k : Nat) (xl0 : List T_impl_Op) : ∀ (n : Nat) (x1 : Int), loopN 1 (Code.den ti (spec_AreOps.Γ k) (spec_AreOps.LH k) (loopAt Tryz.f115 0)) [(0, [some 1]), (3, [])] [(0, [some 1]), (2, [])] K n [.v (.sl 0), .v (.int .i64 x1)] [.rows 1 false xl0] = spec_AreOps.l2 k xl0 (fun (z1 : Bool) => K .ret (stOf [(0, [some 1]), (2, [])] [.v (.sl 0), .v (.bool z1)] [.rows 1 false xl0])) (fun (_ : Unit) => K (.exit 0) (stOf [(0, [some 1]), (2, [])] [.v (.sl 0), .v .any] [.rows 1 false xl0])) n x1
  | 0, _ => rfl
  | n + 1, x1 => (show loopN 1 (Code.den ti (spec_AreOps.Γ k) (spec_AreOps.LH k) (loopAt Tryz.f115 0)) [(0, [some 1]), (3, [])] [(0, [some 1]), (2, [])] K (n + 1) [.v (.sl 0), .v (.int .i64 x1)] [.rows 1 false xl0] = spec_AreOps.L2 k xl0 (fun (z1 : Bool) => K .ret (stOf [(0, [some 1]), (2, [])] [.v (.sl 0), .v (.bool z1)] [.rows 1 false xl0])) (fun (_ : Unit) => K (.exit 0) (stOf [(0, [some 1]), (2, [])] [.v (.sl 0), .v .any] [.rows 1 false xl0])) (fun (x1' : Int) => loopN 1 (Code.den ti (spec_AreOps.Γ k) (spec_AreOps.LH k) (loopAt Tryz.f115 0)) [(0, [some 1]), (3, [])] [(0, [some 1]), (2, [])] K n [.v (.sl 0), .v (.int .i64 x1')] [.rows 1 false xl0]) x1 by kernel_rfl).trans (congrArg (fun rec => spec_AreOps.L2 k xl0 (fun (z1 : Bool) => K .ret (stOf [(0, [some 1]), (2, [])] [.v (.sl 0), .v (.bool z1)] [.rows 1 false xl0])) (fun (_ : Unit) => K (.exit 0) (stOf [(0, [some 1]), (2, [])] [.v (.sl 0), .v .any] [.rows 1 false xl0])) rec x1) (funext fun x1' => spec_AreOps.e2 K k xl0 n x1'))
theorem spec_AreOps.q2 (k : Nat) {R : Type} (K : Ex → St κ → Option R) (vs : List AV) (bs : List (Blk κ)) (r : R) (h : spec_AreOps.h2 k K vs bs = some r) : ∃ n, loopN 1 (Code.den ti (spec_AreOps.Γ k) (spec_AreOps.LH k) (loopAt Tryz.f115 0)) [(0, [some 1]), (3, [])] [(0, [some 1]), (2, [])] K n vs bs = some r := by
  unfold spec_AreOps.h2 at h
  split at h
  · obtain ⟨_, rfl, h_1⟩ := asO_bind h
    exact ⟨k, (spec_AreOps.e2 K k _ k _).trans h_1⟩
  · cases h
theorem spec_AreOps.lok (k : Nat) : LOK ti (spec_AreOps.Γ k) (spec_AreOps.LH k) 1 (loopsOf (bodyOf Tryz.f115)) :=
  (show loopsOf (bodyOf Tryz.f115) = [loopAt Tryz.f115 0] by kernel_rfl) ▸ (LOK_cons (g := ⟨1, [(0, [some 1]), (3, [])], [(0, [some 1]), (2, [])], @spec_AreOps.h2 k⟩) (by kernel_rfl) rfl (fun K vs xs r h => spec_AreOps.q2 k K vs xs r h) (LOK_nil))
def spec_AreOps.sig : List PSh := [.one (.ro 1)]
def spec_AreOps.g (y : Bool) : Ret κ := ⟨.v (.bool y), [], []⟩
def spec_AreOps.out (r : Ret κ) : Option Bool :=
  match r with
  | ⟨.v (.bool z0), [], []⟩ => some (z0)
  | _ => none
theorem spec_AreOps.out_ok (r : Ret κ) (y : Bool) (h : spec_AreOps.out r = some y) : r = spec_AreOps.g y := by
  unfold spec_AreOps.out at h
  split at h
  · obtain rfl := Option.some.inj h
    rfl
  · cases h
def spec_AreOps.body (k : Nat) (vs : List AV) (bs : List (Blk κ)) : Option (Lf κ) :=
  match vs, bs with
  | [.v (.sl 0)], [qb0] => (asO 1 false qb0).bind fun a0 => some ⟨Bool, spec_AreOps.f k a0, spec_AreOps.g⟩
  | _, _ => none
def spec_AreOps.C (k : Nat) : Nat → List AV → AP κ AV := contract spec_AreOps.sig (spec_AreOps.body k)
theorem spec_AreOps.den (k : Nat) (a0 : List T_impl_Op) : Code.den ti (spec_AreOps.Γ k) (spec_AreOps.LH k) (bodyOf Tryz.f115) (finK ti Tryz.f115.results.toList [] (flags spec_AreOps.sig).length (rwI (flags spec_AreOps.sig) 0) spec_AreOps.out) ⟨envOf (([.v (.sl 0)]).zipIdx.map fun q => (q.2, q.1)), hpOf [.rows 1 false a0], (flags spec_AreOps.sig).length⟩ = spec_AreOps.f k a0 := by kernel_rfl
theorem spec_AreOps.ok (k : Nat) : CSound Tryz.prog 115 (spec_AreOps.C k) :=
  csound κ_ok mixed tok (spec_AreOps.hΓ k) (LH := spec_AreOps.LH k) (fn := Tryz.f115) (c := bodyOf Tryz.f115) Tryz.func115 rfl Tryz.call115 spec_AreOps.sig [] (spec_AreOps.body k) (by kernel_rfl) (spec_AreOps.lok k) (by decide) fun vs bs lf y hl hb hy => by
    unfold spec_AreOps.body at hb
    split at hb
    · obtain ⟨_, rfl, hb_1⟩ := asO_bind hb
      obtain rfl := Option.some.inj hb_1
      exact ⟨spec_AreOps.out, spec_AreOps.out_ok, (spec_AreOps.den k _).trans hy⟩
    · cases hb
end Go.Proofs.YtmjflahlhgibnaaGreatDoor.PFnRolledBack
