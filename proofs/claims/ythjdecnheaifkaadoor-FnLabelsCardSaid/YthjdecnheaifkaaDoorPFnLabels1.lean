/- What the functions that the law FnLabels reaches come to; no conditions. -/
import Derived.Test.YthjdecnheaifkaaDoorPFnLabelsT
set_option linter.unusedVariables false
set_option maxRecDepth 100000
namespace Go.Proofs.YthjdecnheaifkaaDoor.PFnLabels
open Go Go.Eng Go.Proofs
/-! ### laws_big -/
def laws_big.f (k : Nat) (a0 : List Int) : Option Bool :=
  some (decide ((a0.length : Int) > (1048576 : Int)))
def laws_big.Γ (k : Nat) : Ct κ := assoc []
def laws_big.LH (k : Nat) : Nat → Option (LHi κ) := assoc []
theorem laws_big.hΓ (k : Nat) : ∀ f g, laws_big.Γ k f = some g → CSound Tryd.prog f g := G_nil
theorem laws_big.lok (k : Nat) : LOK ti (laws_big.Γ k) (laws_big.LH k) 1 (loopsOf (bodyOf Tryd.f4)) :=
  (show loopsOf (bodyOf Tryd.f4) = [] by kernel_rfl) ▸ LOK_nil
def laws_big.sig : List PSh := [.one (.ro 0)]
def laws_big.g (y : Bool) : Ret κ := ⟨.v (.bool y), [], []⟩
def laws_big.out (r : Ret κ) : Option Bool :=
  match r with
  | ⟨.v (.bool z0), [], []⟩ => some (z0)
  | _ => none
theorem laws_big.out_ok (r : Ret κ) (y : Bool) (h : laws_big.out r = some y) : r = laws_big.g y := by
  unfold laws_big.out at h
  split at h
  · obtain rfl := Option.some.inj h
    rfl
  · cases h
def laws_big.body (k : Nat) (vs : List AV) (bs : List (Blk κ)) : Option (Lf κ) :=
  match vs, bs with
  | [.v (.sl 0)], [qb0] => (asO 0 false qb0).bind fun a0 => some ⟨Bool, laws_big.f k a0, laws_big.g⟩
  | _, _ => none
def laws_big.C (k : Nat) : Nat → List AV → AP κ AV := contract laws_big.sig (laws_big.body k)
theorem laws_big.den (k : Nat) (a0 : List Int) : Code.den ti (laws_big.Γ k) (laws_big.LH k) (bodyOf Tryd.f4) (finK ti Tryd.f4.results.toList [] (flags laws_big.sig).length (rwI (flags laws_big.sig) 0) laws_big.out) ⟨envOf (([.v (.sl 0)]).zipIdx.map fun q => (q.2, q.1)), hpOf [.rows 0 false a0], (flags laws_big.sig).length⟩ = laws_big.f k a0 := by kernel_rfl
theorem laws_big.ok (k : Nat) : CSound Tryd.prog 4 (laws_big.C k) :=
  csound κ_ok mixed tok (laws_big.hΓ k) (LH := laws_big.LH k) (fn := Tryd.f4) (c := bodyOf Tryd.f4) Tryd.func4 rfl Tryd.call4 laws_big.sig [] (laws_big.body k) (by kernel_rfl) (laws_big.lok k) (by decide) fun vs bs lf y hl hb hy => by
    unfold laws_big.body at hb
    split at hb
    · obtain ⟨_, rfl, hb_1⟩ := asO_bind hb
      obtain rfl := Option.some.inj hb_1
      exact ⟨laws_big.out, laws_big.out_ok, (laws_big.den k _).trans hy⟩
    · cases hb
/-! ### spec_l1New -/
def spec_l1New.L3 {R : Type} (k : Nat) (xl0 : List Int) (X0 : Int → Option R) (rec : Int → Int → Option R) (x1 : Int) (x2 : Int) : Option R :=
  (bif decide (x2 < (xl0.length : Int)) then (bif decide (x2 < (4000 : Int)) then (bif decide (0 ≤ x2) then (bif decide (x2 < (xl0.length : Int)) then (rec (bitop .and .i64 (w64 ((w64 ((w64 (x1 * (137 : Int))) + (w64 ((rd_u8 xl0 x2))))) + (11 : Int))) (1073741823 : Int)) (w64 (x2 + (1 : Int)))) else none) else none) else (X0 x1)) else (X0 x1))
def spec_l1New.l3 {R : Type} (k : Nat) (xl0 : List Int) (X0 : Int → Option R) : Nat → Int → Int → Option R
  | 0 => fun _ _ => none
  | n + 1 => spec_l1New.L3 k xl0 X0 (spec_l1New.l3 k xl0 X0 n)
def spec_l1New.f (k : Nat) (a0 : List Int) : Option (Int × Int) :=
  (spec_l1New.l3 k a0 (fun (y1 : Int) => some ((0 : Int), y1)) k (w64 ((193017 : Int) + (a0.length : Int))) (0 : Int))
def spec_l1New.h3 (k : Nat) {R : Type} (K : Ex → St κ → Option R) (vs : List AV) (bs : List (Blk κ)) : Option R :=
  match vs, bs with
  | [.v (.sl 0), .v (.int .i64 x1), .v (.int .i64 x2)], [qb0] => (asO 0 false qb0).bind fun xl0 => spec_l1New.l3 k xl0 (fun (z1 : Int) => K (.exit 0) (stOf [(0, [some 0]), (3, [])] [.v (.sl 0), .v (.int .i64 z1)] [.rows 0 false xl0])) k x1 x2
  | _, _ => none
def spec_l1New.Γ (k : Nat) : Ct κ := assoc []
def spec_l1New.LH (k : Nat) : Nat → Option (LHi κ) := assoc [(3, ⟨1, [(0, [some 0]), (3, []), (4, [])], [(0, [some 0]), (3, [])], @spec_l1New.h3 k⟩)]
theorem spec_l1New.hΓ (k : Nat) : ∀ f g, spec_l1New.Γ k f = some g → CSound Tryd.prog f g := G_nil
theorem spec_l1New.e3 {R : Type} (K : Ex → St κ → Option R) (k : Nat) (xl0 : List Int) : ∀ (n : Nat) (x1 : Int) (x2 : Int), loopN 1 (Code.den ti (spec_l1New.Γ k) (spec_l1New.LH k) (loopAt Tryd.f15 0)) [(0, [some 0]), (3, []), (4, [])] [(0, [some 0]), (3, [])] K n [.v (.sl 0), .v (.int .i64 x1), .v (.int .i64 x2)] [.rows 0 false xl0] = spec_l1New.l3 k xl0 (fun (z1 : Int) => K (.exit 0) (stOf [(0, [some 0]), (3, [])] [.v (.sl 0), .v (.int .i64 z1)] [.rows 0 false xl0])) n x1 x2
  | 0, _, _ => rfl
  | n + 1, x1, x2 => (show loopN 1 (Code.den ti (spec_l1New.Γ k) (spec_l1New.LH k) (loopAt Tryd.f15 0)) [(0, [some 0]), (3, []), (4, [])] [(0, [some 0]), (3, [])] K (n + 1) [.v (.sl 0), .v (.int .i64 x1), .v (.int .i64 x2)] [.rows 0 false xl0] = spec_l1New.L3 k xl0 (fun (z1 : Int) => K (.exit 0) (stOf [(0, [some 0]), (3, [])] [.v (.sl 0), .v (.int .i64 z1)] [.rows 0 false xl0])) (fun (x1' : Int) (x2' : Int) => loopN 1 (Code.den ti (spec_l1New.Γ k) (spec_l1New.LH k) (loopAt Tryd.f15 0)) [(0, [some 0]), (3, []), (4, [])] [(0, [some 0]), (3, [])] K n [.v (.sl 0), .v (.int .i64 x1'), .v (.int .i64 x2')] [.rows 0 false xl0]) x1 x2 by kernel_rfl).trans (congrArg (fun rec => spec_l1New.L3 k xl0 (fun (z1 : Int) => K (.exit 0) (stOf [(0, [some 0]), (3, [])] [.v (.sl 0), .v (.int .i64 z1)] [.rows 0 false xl0])) rec x1 x2) (funext fun x1' => funext fun x2' => spec_l1New.e3 K k xl0 n x1' x2'))
theorem spec_l1New.q3 (k : Nat) {R : Type} (K : Ex → St κ → Option R) (vs : List AV) (bs : List (Blk κ)) (r : R) (h : spec_l1New.h3 k K vs bs = some r) : ∃ n, loopN 1 (Code.den ti (spec_l1New.Γ k) (spec_l1New.LH k) (loopAt Tryd.f15 0)) [(0, [some 0]), (3, []), (4, [])] [(0, [some 0]), (3, [])] K n vs bs = some r := by
  unfold spec_l1New.h3 at h
  split at h
  · obtain ⟨_, rfl, h_1⟩ := asO_bind h
    exact ⟨k, (spec_l1New.e3 K k _ k _ _).trans h_1⟩
  · cases h
theorem spec_l1New.lok (k : Nat) : LOK ti (spec_l1New.Γ k) (spec_l1New.LH k) 1 (loopsOf (bodyOf Tryd.f15)) :=
  (show loopsOf (bodyOf Tryd.f15) = [loopAt Tryd.f15 0] by kernel_rfl) ▸ (LOK_cons (g := ⟨1, [(0, [some 0]), (3, []), (4, [])], [(0, [some 0]), (3, [])], @spec_l1New.h3 k⟩) (by kernel_rfl) rfl (fun K vs xs r h => spec_l1New.q3 k K vs xs r h) (LOK_nil))
def spec_l1New.sig : List PSh := [.one (.ro 0)]
def spec_l1New.g (y : Int × Int) : Ret κ := ⟨.v (.ptr 1 0 0), [], [.cells 44 [.sl 0, .int .i64 y.1, .int .i64 y.2]]⟩
def spec_l1New.out (r : Ret κ) : Option (Int × Int) :=
  match r with
  | ⟨.v (.ptr 1 0 0), [], [.cells 44 [.sl 0, .int .i64 z0, .int .i64 z1]]⟩ => some (z0, z1)
  | _ => none
theorem spec_l1New.out_ok (r : Ret κ) (y : Int × Int) (h : spec_l1New.out r = some y) : r = spec_l1New.g y := by
  unfold spec_l1New.out at h
  split at h
  · obtain rfl := Option.some.inj h
    rfl
  · cases h
def spec_l1New.body (k : Nat) (vs : List AV) (bs : List (Blk κ)) : Option (Lf κ) :=
  match vs, bs with
  | [.v (.sl 0)], [qb0] => (asO 0 false qb0).bind fun a0 => some ⟨Int × Int, spec_l1New.f k a0, spec_l1New.g⟩
  | _, _ => none
def spec_l1New.C (k : Nat) : Nat → List AV → AP κ AV := contract spec_l1New.sig (spec_l1New.body k)
theorem spec_l1New.den (k : Nat) (a0 : List Int) : Code.den ti (spec_l1New.Γ k) (spec_l1New.LH k) (bodyOf Tryd.f15) (finK ti Tryd.f15.results.toList [(2, [some 0, none, none])] (flags spec_l1New.sig).length (rwI (flags spec_l1New.sig) 0) spec_l1New.out) ⟨envOf (([.v (.sl 0)]).zipIdx.map fun q => (q.2, q.1)), hpOf [.rows 0 false a0], (flags spec_l1New.sig).length⟩ = spec_l1New.f k a0 := by kernel_rfl
theorem spec_l1New.ok (k : Nat) : CSound Tryd.prog 15 (spec_l1New.C k) :=
  csound κ_ok mixed tok (spec_l1New.hΓ k) (LH := spec_l1New.LH k) (fn := Tryd.f15) (c := bodyOf Tryd.f15) Tryd.func15 rfl Tryd.call15 spec_l1New.sig [(2, [some 0, none, none])] (spec_l1New.body k) (by kernel_rfl) (spec_l1New.lok k) (by decide) fun vs bs lf y hl hb hy => by
    unfold spec_l1New.body at hb
    split at hb
    · obtain ⟨_, rfl, hb_1⟩ := asO_bind hb
      obtain rfl := Option.some.inj hb_1
      exact ⟨spec_l1New.out, spec_l1New.out_ok, (spec_l1New.den k _).trans hy⟩
    · cases hb
/-! ### spec_l1Byte -/
def spec_l1Byte.f (k : Nat) (a0_0 : List Int) (a0_1 : Int) (a0_2 : Int) : Option (Int × Int × Int) :=
  (bif decide (a0_1 < (a0_0.length : Int)) then (bif decide (0 ≤ a0_1) then (bif decide (a0_1 < (a0_0.length : Int)) then some ((bitop .and .i64 (w64 ((bitop .and .i64 (bitop .xor .i64 ((w64 ((w64 (a0_2 * (6364136223846793005 : Int))) + (1442695040888963407 : Int))).fdiv (2 ^ 33)) ((w64 ((w64 (a0_2 * (6364136223846793005 : Int))) + (1442695040888963407 : Int))).fdiv (2 ^ 47))) (255 : Int)) + (w64 ((rd_u8 a0_0 a0_1))))) (255 : Int)), (w64 (a0_1 + (1 : Int))), (w64 ((w64 (a0_2 * (6364136223846793005 : Int))) + (1442695040888963407 : Int)))) else none) else none) else some ((bitop .and .i64 (bitop .xor .i64 ((w64 ((w64 (a0_2 * (6364136223846793005 : Int))) + (1442695040888963407 : Int))).fdiv (2 ^ 33)) ((w64 ((w64 (a0_2 * (6364136223846793005 : Int))) + (1442695040888963407 : Int))).fdiv (2 ^ 47))) (255 : Int)), a0_1, (w64 ((w64 (a0_2 * (6364136223846793005 : Int))) + (1442695040888963407 : Int)))))
def spec_l1Byte.Γ (k : Nat) : Ct κ := assoc []
def spec_l1Byte.LH (k : Nat) : Nat → Option (LHi κ) := assoc []
theorem spec_l1Byte.hΓ (k : Nat) : ∀ f g, spec_l1Byte.Γ k f = some g → CSound Tryd.prog f g := G_nil
theorem spec_l1Byte.lok (k : Nat) : LOK ti (spec_l1Byte.Γ k) (spec_l1Byte.LH k) 2 (loopsOf (bodyOf Tryd.f23)) :=
  (show loopsOf (bodyOf Tryd.f23) = [] by kernel_rfl) ▸ LOK_nil
def spec_l1Byte.sig : List PSh := [.cur 44 [.ro 0, .sc, .sc]]
def spec_l1Byte.g (y : Int × Int × Int) : Ret κ := ⟨.v (.int .i64 y.1), [.cells 44 [.sl 1, .int .i64 y.2.1, .int .i64 y.2.2]], []⟩
def spec_l1Byte.out (r : Ret κ) : Option (Int × Int × Int) :=
  match r with
  | ⟨.v (.int .i64 z0), [.cells 44 [.sl 1, .int .i64 z1, .int .i64 z2]], []⟩ => some (z0, z1, z2)
  | _ => none
theorem spec_l1Byte.out_ok (r : Ret κ) (y : Int × Int × Int) (h : spec_l1Byte.out r = some y) : r = spec_l1Byte.g y := by
  unfold spec_l1Byte.out at h
  split at h
  · obtain rfl := Option.some.inj h
    rfl
  · cases h
def spec_l1Byte.body (k : Nat) (vs : List AV) (bs : List (Blk κ)) : Option (Lf κ) :=
  match vs, bs with
  | [.v (.ptr 0 0 0)], [.cells 44 [.sl 1, .int .i64 a0_1, .int .i64 a0_2], qb1] => (asO 0 false qb1).bind fun a0_0 => some ⟨Int × Int × Int, spec_l1Byte.f k a0_0 a0_1 a0_2, spec_l1Byte.g⟩
  | _, _ => none
def spec_l1Byte.C (k : Nat) : Nat → List AV → AP κ AV := contract spec_l1Byte.sig (spec_l1Byte.body k)
theorem spec_l1Byte.den (k : Nat) (a0_0 : List Int) (a0_1 : Int) (a0_2 : Int) : Code.den ti (spec_l1Byte.Γ k) (spec_l1Byte.LH k) (bodyOf Tryd.f23) (finK ti Tryd.f23.results.toList [] (flags spec_l1Byte.sig).length (rwI (flags spec_l1Byte.sig) 0) spec_l1Byte.out) ⟨envOf (([.v (.ptr 0 0 0)]).zipIdx.map fun q => (q.2, q.1)), hpOf [.cells 44 [.sl 1, .int .i64 a0_1, .int .i64 a0_2], .rows 0 false a0_0], (flags spec_l1Byte.sig).length⟩ = spec_l1Byte.f k a0_0 a0_1 a0_2 := by kernel_rfl
theorem spec_l1Byte.ok (k : Nat) : CSound Tryd.prog 23 (spec_l1Byte.C k) :=
  csound κ_ok mixed tok (spec_l1Byte.hΓ k) (LH := spec_l1Byte.LH k) (fn := Tryd.f23) (c := bodyOf Tryd.f23) Tryd.func23 rfl Tryd.call23 spec_l1Byte.sig [] (spec_l1Byte.body k) (by kernel_rfl) (spec_l1Byte.lok k) (by decide) fun vs bs lf y hl hb hy => by
    unfold spec_l1Byte.body at hb
    split at hb
    · obtain ⟨_, rfl, hb_1⟩ := asO_bind hb
      obtain rfl := Option.some.inj hb_1
      exact ⟨spec_l1Byte.out, spec_l1Byte.out_ok, (spec_l1Byte.den k _ _ _).trans hy⟩
    · cases hb
/-! ### spec_l1Below -/
def spec_l1Below.f (k : Nat) (a0_0 : List Int) (a0_1 : Int) (a0_2 : Int) (a1 : Int) : Option (Int × Int × Int) :=
  (bif decide (a1 ≤ (0 : Int)) then some ((0 : Int), a0_1, a0_2) else (bif decide (a1 ≤ (256 : Int)) then (spec_l1Byte.f k a0_0 a0_1 a0_2).bind fun t1 => (bif decide (a1 = 0) then none else some ((t1.1.tmod a1), t1.2.1, t1.2.2)) else (spec_l1Byte.f k a0_0 a0_1 a0_2).bind fun t2 => (spec_l1Byte.f k a0_0 t2.2.1 t2.2.2).bind fun t3 => (spec_l1Byte.f k a0_0 t3.2.1 t3.2.2).bind fun t4 => (bif decide (a1 = 0) then none else some (((w64 ((w64 ((w64 (t2.1 * (65536 : Int))) + (w64 (t3.1 * (256 : Int))))) + t4.1)).tmod a1), t4.2.1, t4.2.2))))
def spec_l1Below.Γ (k : Nat) : Ct κ := assoc [(23, spec_l1Byte.C k)]
def spec_l1Below.LH (k : Nat) : Nat → Option (LHi κ) := assoc []
theorem spec_l1Below.hΓ (k : Nat) : ∀ f g, spec_l1Below.Γ k f = some g → CSound Tryd.prog f g := G_cons (spec_l1Byte.ok k) G_nil
theorem spec_l1Below.lok (k : Nat) : LOK ti (spec_l1Below.Γ k) (spec_l1Below.LH k) 2 (loopsOf (bodyOf Tryd.f18)) :=
  (show loopsOf (bodyOf Tryd.f18) = [] by kernel_rfl) ▸ LOK_nil
def spec_l1Below.sig : List PSh := [.cur 44 [.ro 0, .sc, .sc], .one .sc]
def spec_l1Below.g (y : Int × Int × Int) : Ret κ := ⟨.v (.int .i64 y.1), [.cells 44 [.sl 1, .int .i64 y.2.1, .int .i64 y.2.2]], []⟩
def spec_l1Below.out (r : Ret κ) : Option (Int × Int × Int) :=
  match r with
  | ⟨.v (.int .i64 z0), [.cells 44 [.sl 1, .int .i64 z1, .int .i64 z2]], []⟩ => some (z0, z1, z2)
  | _ => none
theorem spec_l1Below.out_ok (r : Ret κ) (y : Int × Int × Int) (h : spec_l1Below.out r = some y) : r = spec_l1Below.g y := by
  unfold spec_l1Below.out at h
  split at h
  · obtain rfl := Option.some.inj h
    rfl
  · cases h
def spec_l1Below.body (k : Nat) (vs : List AV) (bs : List (Blk κ)) : Option (Lf κ) :=
  match vs, bs with
  | [.v (.ptr 0 0 0), .v (.int .i64 a1)], [.cells 44 [.sl 1, .int .i64 a0_1, .int .i64 a0_2], qb1] => (asO 0 false qb1).bind fun a0_0 => some ⟨Int × Int × Int, spec_l1Below.f k a0_0 a0_1 a0_2 a1, spec_l1Below.g⟩
  | _, _ => none
def spec_l1Below.C (k : Nat) : Nat → List AV → AP κ AV := contract spec_l1Below.sig (spec_l1Below.body k)
theorem spec_l1Below.den (k : Nat) (a0_0 : List Int) (a0_1 : Int) (a0_2 : Int) (a1 : Int) : Code.den ti (spec_l1Below.Γ k) (spec_l1Below.LH k) (bodyOf Tryd.f18) (finK ti Tryd.f18.results.toList [] (flags spec_l1Below.sig).length (rwI (flags spec_l1Below.sig) 0) spec_l1Below.out) ⟨envOf (([.v (.ptr 0 0 0), .v (.int .i64 a1)]).zipIdx.map fun q => (q.2, q.1)), hpOf [.cells 44 [.sl 1, .int .i64 a0_1, .int .i64 a0_2], .rows 0 false a0_0], (flags spec_l1Below.sig).length⟩ = spec_l1Below.f k a0_0 a0_1 a0_2 a1 := by kernel_rfl
theorem spec_l1Below.ok (k : Nat) : CSound Tryd.prog 18 (spec_l1Below.C k) :=
  csound κ_ok mixed tok (spec_l1Below.hΓ k) (LH := spec_l1Below.LH k) (fn := Tryd.f18) (c := bodyOf Tryd.f18) Tryd.func18 rfl Tryd.call18 spec_l1Below.sig [] (spec_l1Below.body k) (by kernel_rfl) (spec_l1Below.lok k) (by decide) fun vs bs lf y hl hb hy => by
    unfold spec_l1Below.body at hb
    split at hb
    · obtain ⟨_, rfl, hb_1⟩ := asO_bind hb
      obtain rfl := Option.some.inj hb_1
      exact ⟨spec_l1Below.out, spec_l1Below.out_ok, (spec_l1Below.den k _ _ _ _).trans hy⟩
    · cases hb
/-! ### spec_l1Once -/
def spec_l1Once.f (k : Nat) (a0_0 : List Int) (a0_1 : Int) (a0_2 : Int) (a1 : Int) : Option (Bool × Int × Int) :=
  (spec_l1Below.f k a0_0 a0_1 a0_2 a1).bind fun t1 => some ((t1.1 == (0 : Int)), t1.2.1, t1.2.2)
def spec_l1Once.Γ (k : Nat) : Ct κ := assoc [(18, spec_l1Below.C k)]
def spec_l1Once.LH (k : Nat) : Nat → Option (LHi κ) := assoc []
theorem spec_l1Once.hΓ (k : Nat) : ∀ f g, spec_l1Once.Γ k f = some g → CSound Tryd.prog f g := G_cons (spec_l1Below.ok k) G_nil
theorem spec_l1Once.lok (k : Nat) : LOK ti (spec_l1Once.Γ k) (spec_l1Once.LH k) 2 (loopsOf (bodyOf Tryd.f21)) :=
  (show loopsOf (bodyOf Tryd.f21) = [] by kernel_rfl) ▸ LOK_nil
def spec_l1Once.sig : List PSh := [.cur 44 [.ro 0, .sc, .sc], .one .sc]
def spec_l1Once.g (y : Bool × Int × Int) : Ret κ := ⟨.v (.bool y.1), [.cells 44 [.sl 1, .int .i64 y.2.1, .int .i64 y.2.2]], []⟩
def spec_l1Once.out (r : Ret κ) : Option (Bool × Int × Int) :=
  match r with
  | ⟨.v (.bool z0), [.cells 44 [.sl 1, .int .i64 z1, .int .i64 z2]], []⟩ => some (z0, z1, z2)
  | _ => none
theorem spec_l1Once.out_ok (r : Ret κ) (y : Bool × Int × Int) (h : spec_l1Once.out r = some y) : r = spec_l1Once.g y := by
  unfold spec_l1Once.out at h
  split at h
  · obtain rfl := Option.some.inj h
    rfl
  · cases h
def spec_l1Once.body (k : Nat) (vs : List AV) (bs : List (Blk κ)) : Option (Lf κ) :=
  match vs, bs with
  | [.v (.ptr 0 0 0), .v (.int .i64 a1)], [.cells 44 [.sl 1, .int .i64 a0_1, .int .i64 a0_2], qb1] => (asO 0 false qb1).bind fun a0_0 => some ⟨Bool × Int × Int, spec_l1Once.f k a0_0 a0_1 a0_2 a1, spec_l1Once.g⟩
  | _, _ => none
def spec_l1Once.C (k : Nat) : Nat → List AV → AP κ AV := contract spec_l1Once.sig (spec_l1Once.body k)
theorem spec_l1Once.den (k : Nat) (a0_0 : List Int) (a0_1 : Int) (a0_2 : Int) (a1 : Int) : Code.den ti (spec_l1Once.Γ k) (spec_l1Once.LH k) (bodyOf Tryd.f21) (finK ti Tryd.f21.results.toList [] (flags spec_l1Once.sig).length (rwI (flags spec_l1Once.sig) 0) spec_l1Once.out) ⟨envOf (([.v (.ptr 0 0 0), .v (.int .i64 a1)]).zipIdx.map fun q => (q.2, q.1)), hpOf [.cells 44 [.sl 1, .int .i64 a0_1, .int .i64 a0_2], .rows 0 false a0_0], (flags spec_l1Once.sig).length⟩ = spec_l1Once.f k a0_0 a0_1 a0_2 a1 := by kernel_rfl
theorem spec_l1Once.ok (k : Nat) : CSound Tryd.prog 21 (spec_l1Once.C k) :=
  csound κ_ok mixed tok (spec_l1Once.hΓ k) (LH := spec_l1Once.LH k) (fn := Tryd.f21) (c := bodyOf Tryd.f21) Tryd.func21 rfl Tryd.call21 spec_l1Once.sig [] (spec_l1Once.body k) (by kernel_rfl) (spec_l1Once.lok k) (by decide) fun vs bs lf y hl hb hy => by
    unfold spec_l1Once.body at hb
    split at hb
    · obtain ⟨_, rfl, hb_1⟩ := asO_bind hb
      obtain rfl := Option.some.inj hb_1
      exact ⟨spec_l1Once.out, spec_l1Once.out_ok, (spec_l1Once.den k _ _ _ _).trans hy⟩
    · cases hb
/-! ### spec_l1Int -/
def spec_l1Int.f (k : Nat) (a0_0 : List Int) (a0_1 : Int) (a0_2 : Int) (a1 : List Int) : Option (Int × Int × Int) :=
  (spec_l1Below.f k a0_0 a0_1 a0_2 (a1.length : Int)).bind fun t1 => (bif decide (0 ≤ t1.1) then (bif decide (t1.1 < (a1.length : Int)) then some ((rd_i64 a1 t1.1), t1.2.1, t1.2.2) else none) else none)
def spec_l1Int.Γ (k : Nat) : Ct κ := assoc [(18, spec_l1Below.C k)]
def spec_l1Int.LH (k : Nat) : Nat → Option (LHi κ) := assoc []
theorem spec_l1Int.hΓ (k : Nat) : ∀ f g, spec_l1Int.Γ k f = some g → CSound Tryd.prog f g := G_cons (spec_l1Below.ok k) G_nil
theorem spec_l1Int.lok (k : Nat) : LOK ti (spec_l1Int.Γ k) (spec_l1Int.LH k) 3 (loopsOf (bodyOf Tryd.f22)) :=
  (show loopsOf (bodyOf Tryd.f22) = [] by kernel_rfl) ▸ LOK_nil
def spec_l1Int.sig : List PSh := [.cur 44 [.ro 0, .sc, .sc], .one (.ro 1)]
def spec_l1Int.g (y : Int × Int × Int) : Ret κ := ⟨.v (.int .i64 y.1), [.cells 44 [.sl 1, .int .i64 y.2.1, .int .i64 y.2.2]], []⟩
def spec_l1Int.out (r : Ret κ) : Option (Int × Int × Int) :=
  match r with
  | ⟨.v (.int .i64 z0), [.cells 44 [.sl 1, .int .i64 z1, .int .i64 z2]], []⟩ => some (z0, z1, z2)
  | _ => none
theorem spec_l1Int.out_ok (r : Ret κ) (y : Int × Int × Int) (h : spec_l1Int.out r = some y) : r = spec_l1Int.g y := by
  unfold spec_l1Int.out at h
  split at h
  · obtain rfl := Option.some.inj h
    rfl
  · cases h
def spec_l1Int.body (k : Nat) (vs : List AV) (bs : List (Blk κ)) : Option (Lf κ) :=
  match vs, bs with
  | [.v (.ptr 0 0 0), .v (.sl 2)], [.cells 44 [.sl 1, .int .i64 a0_1, .int .i64 a0_2], qb1, qb2] => (asO 0 false qb1).bind fun a0_0 => (asO 1 false qb2).bind fun a1 => some ⟨Int × Int × Int, spec_l1Int.f k a0_0 a0_1 a0_2 a1, spec_l1Int.g⟩
  | _, _ => none
def spec_l1Int.C (k : Nat) : Nat → List AV → AP κ AV := contract spec_l1Int.sig (spec_l1Int.body k)
theorem spec_l1Int.den (k : Nat) (a0_0 : List Int) (a0_1 : Int) (a0_2 : Int) (a1 : List Int) : Code.den ti (spec_l1Int.Γ k) (spec_l1Int.LH k) (bodyOf Tryd.f22) (finK ti Tryd.f22.results.toList [] (flags spec_l1Int.sig).length (rwI (flags spec_l1Int.sig) 0) spec_l1Int.out) ⟨envOf (([.v (.ptr 0 0 0), .v (.sl 2)]).zipIdx.map fun q => (q.2, q.1)), hpOf [.cells 44 [.sl 1, .int .i64 a0_1, .int .i64 a0_2], .rows 0 false a0_0, .rows 1 false a1], (flags spec_l1Int.sig).length⟩ = spec_l1Int.f k a0_0 a0_1 a0_2 a1 := by kernel_rfl
theorem spec_l1Int.ok (k : Nat) : CSound Tryd.prog 22 (spec_l1Int.C k) :=
  csound κ_ok mixed tok (spec_l1Int.hΓ k) (LH := spec_l1Int.LH k) (fn := Tryd.f22) (c := bodyOf Tryd.f22) Tryd.func22 rfl Tryd.call22 spec_l1Int.sig [] (spec_l1Int.body k) (by kernel_rfl) (spec_l1Int.lok k) (by decide) fun vs bs lf y hl hb hy => by
    unfold spec_l1Int.body at hb
    split at hb
    · obtain ⟨_, rfl, hb_1⟩ := asO_bind hb
      obtain ⟨_, rfl, hb_2⟩ := asO_bind hb_1
      obtain rfl := Option.some.inj hb_2
      exact ⟨spec_l1Int.out, spec_l1Int.out_ok, (spec_l1Int.den k _ _ _ _).trans hy⟩
    · cases hb
/-! ### spec_l19Draw -/
def spec_l19Draw.f (k : Nat) (a0_0 : List Int) (a0_1 : Int) (a0_2 : Int) : Option (Int × Int × Int) :=
  (spec_l1Once.f k a0_0 a0_1 a0_2 (8 : Int)).bind fun t1 => (bif t1.1 then (spec_l1Int.f k a0_0 t1.2.1 t1.2.2 ([(-2 : Int), (1 : Int), (1022 : Int), (1023 : Int), (1024 : Int), (9223372036854775807 : Int)] : List Int)).bind fun t2 => some (t2.1, t2.2.1, t2.2.2) else (spec_l1Below.f k a0_0 t1.2.1 t1.2.2 (512 : Int)).bind fun t3 => some ((w64 ((2 : Int) * t3.1)), t3.2.1, t3.2.2))
def spec_l19Draw.Γ (k : Nat) : Ct κ := assoc [(21, spec_l1Once.C k), (22, spec_l1Int.C k), (18, spec_l1Below.C k)]
def spec_l19Draw.LH (k : Nat) : Nat → Option (LHi κ) := assoc []
theorem spec_l19Draw.hΓ (k : Nat) : ∀ f g, spec_l19Draw.Γ k f = some g → CSound Tryd.prog f g := G_cons (spec_l1Once.ok k) (G_cons (spec_l1Int.ok k) (G_cons (spec_l1Below.ok k) G_nil))
theorem spec_l19Draw.lok (k : Nat) : LOK ti (spec_l19Draw.Γ k) (spec_l19Draw.LH k) 2 (loopsOf (bodyOf Tryd.f16)) :=
  (show loopsOf (bodyOf Tryd.f16) = [] by kernel_rfl) ▸ LOK_nil
def spec_l19Draw.sig : List PSh := [.cur 44 [.ro 0, .sc, .sc]]
def spec_l19Draw.g (y : Int × Int × Int) : Ret κ := ⟨.v (.int .i64 y.1), [.cells 44 [.sl 1, .int .i64 y.2.1, .int .i64 y.2.2]], []⟩
def spec_l19Draw.out (r : Ret κ) : Option (Int × Int × Int) :=
  match r with
  | ⟨.v (.int .i64 z0), [.cells 44 [.sl 1, .int .i64 z1, .int .i64 z2]], []⟩ => some (z0, z1, z2)
  | _ => none
theorem spec_l19Draw.out_ok (r : Ret κ) (y : Int × Int × Int) (h : spec_l19Draw.out r = some y) : r = spec_l19Draw.g y := by
  unfold spec_l19Draw.out at h
  split at h
  · obtain rfl := Option.some.inj h
    rfl
  · cases h
def spec_l19Draw.body (k : Nat) (vs : List AV) (bs : List (Blk κ)) : Option (Lf κ) :=
  match vs, bs with
  | [.v (.ptr 0 0 0)], [.cells 44 [.sl 1, .int .i64 a0_1, .int .i64 a0_2], qb1] => (asO 0 false qb1).bind fun a0_0 => some ⟨Int × Int × Int, spec_l19Draw.f k a0_0 a0_1 a0_2, spec_l19Draw.g⟩
  | _, _ => none
def spec_l19Draw.C (k : Nat) : Nat → List AV → AP κ AV := contract spec_l19Draw.sig (spec_l19Draw.body k)
theorem spec_l19Draw.den (k : Nat) (a0_0 : List Int) (a0_1 : Int) (a0_2 : Int) : Code.den ti (spec_l19Draw.Γ k) (spec_l19Draw.LH k) (bodyOf Tryd.f16) (finK ti Tryd.f16.results.toList [] (flags spec_l19Draw.sig).length (rwI (flags spec_l19Draw.sig) 0) spec_l19Draw.out) ⟨envOf (([.v (.ptr 0 0 0)]).zipIdx.map fun q => (q.2, q.1)), hpOf [.cells 44 [.sl 1, .int .i64 a0_1, .int .i64 a0_2], .rows 0 false a0_0], (flags spec_l19Draw.sig).length⟩ = spec_l19Draw.f k a0_0 a0_1 a0_2 := by kernel_rfl
theorem spec_l19Draw.ok (k : Nat) : CSound Tryd.prog 16 (spec_l19Draw.C k) :=
  csound κ_ok mixed tok (spec_l19Draw.hΓ k) (LH := spec_l19Draw.LH k) (fn := Tryd.f16) (c := bodyOf Tryd.f16) Tryd.func16 rfl Tryd.call16 spec_l19Draw.sig [] (spec_l19Draw.body k) (by kernel_rfl) (spec_l19Draw.lok k) (by decide) fun vs bs lf y hl hb hy => by
    unfold spec_l19Draw.body at hb
    split at hb
    · obtain ⟨_, rfl, hb_1⟩ := asO_bind hb
      obtain rfl := Option.some.inj hb_1
      exact ⟨spec_l19Draw.out, spec_l19Draw.out_ok, (spec_l19Draw.den k _ _ _).trans hy⟩
    · cases hb
/-! ### spec_DrawJoinLabels -/
def spec_DrawJoinLabels.f (k : Nat) (a0 : List Int) : Option (Int × Int) :=
  (spec_l1New.f k a0).bind fun t1 => (spec_l19Draw.f k a0 t1.1 t1.2).bind fun t2 => (spec_l19Draw.f k a0 t2.2.1 t2.2.2).bind fun t3 => some (t2.1, t3.1)
def spec_DrawJoinLabels.Γ (k : Nat) : Ct κ := assoc [(15, spec_l1New.C k), (16, spec_l19Draw.C k)]
def spec_DrawJoinLabels.LH (k : Nat) : Nat → Option (LHi κ) := assoc []
theorem spec_DrawJoinLabels.hΓ (k : Nat) : ∀ f g, spec_DrawJoinLabels.Γ k f = some g → CSound Tryd.prog f g := G_cons (spec_l1New.ok k) (G_cons (spec_l19Draw.ok k) G_nil)
theorem spec_DrawJoinLabels.lok (k : Nat) : LOK ti (spec_DrawJoinLabels.Γ k) (spec_DrawJoinLabels.LH k) 1 (loopsOf (bodyOf Tryd.f5)) :=
  (show loopsOf (bodyOf Tryd.f5) = [] by kernel_rfl) ▸ LOK_nil
def spec_DrawJoinLabels.sig : List PSh := [.one (.ro 0)]
def spec_DrawJoinLabels.g (y : Int × Int) : Ret κ := ⟨.tup [(false, [.int .i64 y.1]), (false, [.int .i64 y.2])], [], []⟩
def spec_DrawJoinLabels.out (r : Ret κ) : Option (Int × Int) :=
  match r with
  | ⟨.tup [(false, [.int .i64 z0]), (false, [.int .i64 z1])], [], []⟩ => some (z0, z1)
  | _ => none
theorem spec_DrawJoinLabels.out_ok (r : Ret κ) (y : Int × Int) (h : spec_DrawJoinLabels.out r = some y) : r = spec_DrawJoinLabels.g y := by
  unfold spec_DrawJoinLabels.out at h
  split at h
  · obtain rfl := Option.some.inj h
    rfl
  · cases h
def spec_DrawJoinLabels.body (k : Nat) (vs : List AV) (bs : List (Blk κ)) : Option (Lf κ) :=
  match vs, bs with
  | [.v (.sl 0)], [qb0] => (asO 0 false qb0).bind fun a0 => some ⟨Int × Int, spec_DrawJoinLabels.f k a0, spec_DrawJoinLabels.g⟩
  | _, _ => none
def spec_DrawJoinLabels.C (k : Nat) : Nat → List AV → AP κ AV := contract spec_DrawJoinLabels.sig (spec_DrawJoinLabels.body k)
theorem spec_DrawJoinLabels.den (k : Nat) (a0 : List Int) : Code.den ti (spec_DrawJoinLabels.Γ k) (spec_DrawJoinLabels.LH k) (bodyOf Tryd.f5) (finK ti Tryd.f5.results.toList [] (flags spec_DrawJoinLabels.sig).length (rwI (flags spec_DrawJoinLabels.sig) 0) spec_DrawJoinLabels.out) ⟨envOf (([.v (.sl 0)]).zipIdx.map fun q => (q.2, q.1)), hpOf [.rows 0 false a0], (flags spec_DrawJoinLabels.sig).length⟩ = spec_DrawJoinLabels.f k a0 := by kernel_rfl
theorem spec_DrawJoinLabels.ok (k : Nat) : CSound Tryd.prog 5 (spec_DrawJoinLabels.C k) :=
  csound κ_ok mixed tok (spec_DrawJoinLabels.hΓ k) (LH := spec_DrawJoinLabels.LH k) (fn := Tryd.f5) (c := bodyOf Tryd.f5) Tryd.func5 rfl Tryd.call5 spec_DrawJoinLabels.sig [] (spec_DrawJoinLabels.body k) (by kernel_rfl) (spec_DrawJoinLabels.lok k) (by decide) fun vs bs lf y hl hb hy => by
    unfold spec_DrawJoinLabels.body at hb
    split at hb
    · obtain ⟨_, rfl, hb_1⟩ := asO_bind hb
      obtain rfl := Option.some.inj hb_1
      exact ⟨spec_DrawJoinLabels.out, spec_DrawJoinLabels.out_ok, (spec_DrawJoinLabels.den k _).trans hy⟩
    · cases hb
/-! ### impl_InRange -/
def impl_InRange.f (k : Nat) (a0 : Int) (a1 : Int) (a2 : Int) : Option Bool :=
  (bif decide (a1 ≤ a0) then some (decide (a0 ≤ a2)) else some false)
def impl_InRange.Γ (k : Nat) : Ct κ := assoc []
def impl_InRange.LH (k : Nat) : Nat → Option (LHi κ) := assoc []
theorem impl_InRange.hΓ (k : Nat) : ∀ f g, impl_InRange.Γ k f = some g → CSound Tryd.prog f g := G_nil
theorem impl_InRange.lok (k : Nat) : LOK ti (impl_InRange.Γ k) (impl_InRange.LH k) 0 (loopsOf (bodyOf Tryd.f17)) :=
  (show loopsOf (bodyOf Tryd.f17) = [] by kernel_rfl) ▸ LOK_nil
def impl_InRange.sig : List PSh := [.one .sc, .one .sc, .one .sc]
def impl_InRange.g (y : Bool) : Ret κ := ⟨.v (.bool y), [], []⟩
def impl_InRange.out (r : Ret κ) : Option Bool :=
  match r with
  | ⟨.v (.bool z0), [], []⟩ => some (z0)
  | _ => none
theorem impl_InRange.out_ok (r : Ret κ) (y : Bool) (h : impl_InRange.out r = some y) : r = impl_InRange.g y := by
  unfold impl_InRange.out at h
  split at h
  · obtain rfl := Option.some.inj h
    rfl
  · cases h
def impl_InRange.body (k : Nat) (vs : List AV) (bs : List (Blk κ)) : Option (Lf κ) :=
  match vs, bs with
  | [.v (.int .i64 a0), .v (.int .i64 a1), .v (.int .i64 a2)], [] => some ⟨Bool, impl_InRange.f k a0 a1 a2, impl_InRange.g⟩
  | _, _ => none
def impl_InRange.C (k : Nat) : Nat → List AV → AP κ AV := contract impl_InRange.sig (impl_InRange.body k)
theorem impl_InRange.den (k : Nat) (a0 : Int) (a1 : Int) (a2 : Int) : Code.den ti (impl_InRange.Γ k) (impl_InRange.LH k) (bodyOf Tryd.f17) (finK ti Tryd.f17.results.toList [] (flags impl_InRange.sig).length (rwI (flags impl_InRange.sig) 0) impl_InRange.out) ⟨envOf (([.v (.int .i64 a0), .v (.int .i64 a1), .v (.int .i64 a2)]).zipIdx.map fun q => (q.2, q.1)), hpOf [], (flags impl_InRange.sig).length⟩ = impl_InRange.f k a0 a1 a2 := by kernel_rfl
theorem impl_InRange.ok (k : Nat) : CSound Tryd.prog 17 (impl_InRange.C k) :=
  csound κ_ok mixed tok (impl_InRange.hΓ k) (LH := impl_InRange.LH k) (fn := Tryd.f17) (c := bodyOf Tryd.f17) Tryd.func17 rfl Tryd.call17 impl_InRange.sig [] (impl_InRange.body k) (by kernel_rfl) (impl_InRange.lok k) (by decide) fun vs bs lf y hl hb hy => by
    unfold impl_InRange.body at hb
    split at hb
    · obtain rfl := Option.some.inj hb
      exact ⟨impl_InRange.out, impl_InRange.out_ok, (impl_InRange.den k _ _ _).trans hy⟩
    · cases hb
/-! ### impl_IsLabel -/
def impl_IsLabel.f (k : Nat) (a0 : Int) : Option Bool :=
  (impl_InRange.f k a0 (0 : Int) (1022 : Int)).bind fun t1 => (bif t1 then some ((a0.tmod (2 : Int)) == (0 : Int)) else some false)
def impl_IsLabel.Γ (k : Nat) : Ct κ := assoc [(17, impl_InRange.C k)]
def impl_IsLabel.LH (k : Nat) : Nat → Option (LHi κ) := assoc []
theorem impl_IsLabel.hΓ (k : Nat) : ∀ f g, impl_IsLabel.Γ k f = some g → CSound Tryd.prog f g := G_cons (impl_InRange.ok k) G_nil
theorem impl_IsLabel.lok (k : Nat) : LOK ti (impl_IsLabel.Γ k) (impl_IsLabel.LH k) 0 (loopsOf (bodyOf Tryd.f7)) :=
  (show loopsOf (bodyOf Tryd.f7) = [] by kernel_rfl) ▸ LOK_nil
def impl_IsLabel.sig : List PSh := [.one .sc]
def impl_IsLabel.g (y : Bool) : Ret κ := ⟨.v (.bool y), [], []⟩
def impl_IsLabel.out (r : Ret κ) : Option Bool :=
  match r with
  | ⟨.v (.bool z0), [], []⟩ => some (z0)
  | _ => none
theorem impl_IsLabel.out_ok (r : Ret κ) (y : Bool) (h : impl_IsLabel.out r = some y) : r = impl_IsLabel.g y := by
  unfold impl_IsLabel.out at h
  split at h
  · obtain rfl := Option.some.inj h
    rfl
  · cases h
def impl_IsLabel.body (k : Nat) (vs : List AV) (bs : List (Blk κ)) : Option (Lf κ) :=
  match vs, bs with
  | [.v (.int .i64 a0)], [] => some ⟨Bool, impl_IsLabel.f k a0, impl_IsLabel.g⟩
  | _, _ => none
def impl_IsLabel.C (k : Nat) : Nat → List AV → AP κ AV := contract impl_IsLabel.sig (impl_IsLabel.body k)
theorem impl_IsLabel.den (k : Nat) (a0 : Int) : Code.den ti (impl_IsLabel.Γ k) (impl_IsLabel.LH k) (bodyOf Tryd.f7) (finK ti Tryd.f7.results.toList [] (flags impl_IsLabel.sig).length (rwI (flags impl_IsLabel.sig) 0) impl_IsLabel.out) ⟨envOf (([.v (.int .i64 a0)]).zipIdx.map fun q => (q.2, q.1)), hpOf [], (flags impl_IsLabel.sig).length⟩ = impl_IsLabel.f k a0 := by kernel_rfl
theorem impl_IsLabel.ok (k : Nat) : CSound Tryd.prog 7 (impl_IsLabel.C k) :=
  csound κ_ok mixed tok (impl_IsLabel.hΓ k) (LH := impl_IsLabel.LH k) (fn := Tryd.f7) (c := bodyOf Tryd.f7) Tryd.func7 rfl Tryd.call7 impl_IsLabel.sig [] (impl_IsLabel.body k) (by kernel_rfl) (impl_IsLabel.lok k) (by decide) fun vs bs lf y hl hb hy => by
    unfold impl_IsLabel.body at hb
    split at hb
    · obtain rfl := Option.some.inj hb
      exact ⟨impl_IsLabel.out, impl_IsLabel.out_ok, (impl_IsLabel.den k _).trans hy⟩
    · cases hb
/-! ### impl_JoinLabels -/
def impl_JoinLabels.f (k : Nat) (a0 : Int) (a1 : Int) : Option Int :=
  (impl_IsLabel.f k a0).bind fun t1 => (bif !t1 then some (0 : Int) else (impl_IsLabel.f k a1).bind fun t2 => (bif !t2 then some (0 : Int) else some (bitop .or .i64 a0 a1)))
def impl_JoinLabels.Γ (k : Nat) : Ct κ := assoc [(7, impl_IsLabel.C k)]
def impl_JoinLabels.LH (k : Nat) : Nat → Option (LHi κ) := assoc []
theorem impl_JoinLabels.hΓ (k : Nat) : ∀ f g, impl_JoinLabels.Γ k f = some g → CSound Tryd.prog f g := G_cons (impl_IsLabel.ok k) G_nil
theorem impl_JoinLabels.lok (k : Nat) : LOK ti (impl_JoinLabels.Γ k) (impl_JoinLabels.LH k) 0 (loopsOf (bodyOf Tryd.f6)) :=
  (show loopsOf (bodyOf Tryd.f6) = [] by kernel_rfl) ▸ LOK_nil
def impl_JoinLabels.sig : List PSh := [.one .sc, .one .sc]
def impl_JoinLabels.g (y : Int) : Ret κ := ⟨.v (.int .i64 y), [], []⟩
def impl_JoinLabels.out (r : Ret κ) : Option Int :=
  match r with
  | ⟨.v (.int .i64 z0), [], []⟩ => some (z0)
  | _ => none
theorem impl_JoinLabels.out_ok (r : Ret κ) (y : Int) (h : impl_JoinLabels.out r = some y) : r = impl_JoinLabels.g y := by
  unfold impl_JoinLabels.out at h
  split at h
  · obtain rfl := Option.some.inj h
    rfl
  · cases h
def impl_JoinLabels.body (k : Nat) (vs : List AV) (bs : List (Blk κ)) : Option (Lf κ) :=
  match vs, bs with
  | [.v (.int .i64 a0), .v (.int .i64 a1)], [] => some ⟨Int, impl_JoinLabels.f k a0 a1, impl_JoinLabels.g⟩
  | _, _ => none
def impl_JoinLabels.C (k : Nat) : Nat → List AV → AP κ AV := contract impl_JoinLabels.sig (impl_JoinLabels.body k)
theorem impl_JoinLabels.den (k : Nat) (a0 : Int) (a1 : Int) : Code.den ti (impl_JoinLabels.Γ k) (impl_JoinLabels.LH k) (bodyOf Tryd.f6) (finK ti Tryd.f6.results.toList [] (flags impl_JoinLabels.sig).length (rwI (flags impl_JoinLabels.sig) 0) impl_JoinLabels.out) ⟨envOf (([.v (.int .i64 a0), .v (.int .i64 a1)]).zipIdx.map fun q => (q.2, q.1)), hpOf [], (flags impl_JoinLabels.sig).length⟩ = impl_JoinLabels.f k a0 a1 := by kernel_rfl
theorem impl_JoinLabels.ok (k : Nat) : CSound Tryd.prog 6 (impl_JoinLabels.C k) :=
  csound κ_ok mixed tok (impl_JoinLabels.hΓ k) (LH := impl_JoinLabels.LH k) (fn := Tryd.f6) (c := bodyOf Tryd.f6) Tryd.func6 rfl Tryd.call6 impl_JoinLabels.sig [] (impl_JoinLabels.body k) (by kernel_rfl) (impl_JoinLabels.lok k) (by decide) fun vs bs lf y hl hb hy => by
    unfold impl_JoinLabels.body at hb
    split at hb
    · obtain rfl := Option.some.inj hb
      exact ⟨impl_JoinLabels.out, impl_JoinLabels.out_ok, (impl_JoinLabels.den k _ _).trans hy⟩
    · cases hb
/-! ### impl_OwnersIn -/
def impl_OwnersIn.L5 {R : Type} (k : Nat) (x0 : Int) (X0 : List Int → Option R) (rec : Int → List Int → Option R) (x2 : Int) (xl0 : List Int) : Option R :=
  (bif decide (x2 ≤ (9 : Int)) then (bif decide (x2 < 0) then none else (bif ((bitop .and .i64 (x0.fdiv (2 ^ (min (x2).toNat 64))) (1 : Int)) == (1 : Int)) then (bif decide ((xl0.length + ([x2] : List Int).length) * 8 ≤ cap48) then (rec (w64 (x2 + (1 : Int))) (xl0 ++ ([x2] : List Int))) else none) else (rec (w64 (x2 + (1 : Int))) xl0))) else (X0 xl0))
def impl_OwnersIn.l5 {R : Type} (k : Nat) (x0 : Int) (X0 : List Int → Option R) : Nat → Int → List Int → Option R
  | 0 => fun _ _ => none
  | n + 1 => impl_OwnersIn.L5 k x0 X0 (impl_OwnersIn.l5 k x0 X0 n)
def impl_OwnersIn.f (k : Nat) (a0 : Int) : Option (List Int) :=
  (impl_IsLabel.f k a0).bind fun t1 => (bif !t1 then some ([] : List Int) else (impl_OwnersIn.l5 k a0 (fun (y2 : List Int) => some y2) k (1 : Int) ([] : List Int)))
def impl_OwnersIn.h5 (k : Nat) {R : Type} (K : Ex → St κ → Option R) (vs : List AV) (bs : List (Blk κ)) : Option R :=
  match vs, bs with
  | [.v (.int .i64 x0), .v (.sl 0), .v (.int .i64 x2)], [qb0] => (asO 1 true qb0).bind fun xl0 => impl_OwnersIn.l5 k x0 (fun (zl0 : List Int) => K (.exit 0) (stOf [(3, [some 1])] [.v (.sl 0)] [.rows 1 true zl0])) k x2 xl0
  | _, _ => none
def impl_OwnersIn.Γ (k : Nat) : Ct κ := assoc [(7, impl_IsLabel.C k)]
def impl_OwnersIn.LH (k : Nat) : Nat → Option (LHi κ) := assoc [(5, ⟨0, [(0, []), (3, [some 1]), (4, [])], [(3, [some 1])], @impl_OwnersIn.h5 k⟩)]
theorem impl_OwnersIn.hΓ (k : Nat) : ∀ f g, impl_OwnersIn.Γ k f = some g → CSound Tryd.prog f g := G_cons (impl_IsLabel.ok k) G_nil
theorem impl_OwnersIn.e5 {R : Type} (K : Ex → St κ → Option R) (k : Nat) (x0 : Int) : ∀ (n : Nat) (x2 : Int) (xl0 : List Int), loopN 0 (Code.den ti (impl_OwnersIn.Γ k) (impl_OwnersIn.LH k) (loopAt Tryd.f9 0)) [(0, []), (3, [some 1]), (4, [])] [(3, [some 1])] K n [.v (.int .i64 x0), .v (.sl 0), .v (.int .i64 x2)] [.rows 1 true xl0] = impl_OwnersIn.l5 k x0 (fun (zl0 : List Int) => K (.exit 0) (stOf [(3, [some 1])] [.v (.sl 0)] [.rows 1 true zl0])) n x2 xl0
  | 0, _, _ => rfl
  | n + 1, x2, xl0 => (show loopN 0 (Code.den ti (impl_OwnersIn.Γ k) (impl_OwnersIn.LH k) (loopAt Tryd.f9 0)) [(0, []), (3, [some 1]), (4, [])] [(3, [some 1])] K (n + 1) [.v (.int .i64 x0), .v (.sl 0), .v (.int .i64 x2)] [.rows 1 true xl0] = impl_OwnersIn.L5 k x0 (fun (zl0 : List Int) => K (.exit 0) (stOf [(3, [some 1])] [.v (.sl 0)] [.rows 1 true zl0])) (fun (x2' : Int) (xl0' : List Int) => loopN 0 (Code.den ti (impl_OwnersIn.Γ k) (impl_OwnersIn.LH k) (loopAt Tryd.f9 0)) [(0, []), (3, [some 1]), (4, [])] [(3, [some 1])] K n [.v (.int .i64 x0), .v (.sl 0), .v (.int .i64 x2')] [.rows 1 true xl0']) x2 xl0 by kernel_rfl).trans (congrArg (fun rec => impl_OwnersIn.L5 k x0 (fun (zl0 : List Int) => K (.exit 0) (stOf [(3, [some 1])] [.v (.sl 0)] [.rows 1 true zl0])) rec x2 xl0) (funext fun x2' => funext fun xl0' => impl_OwnersIn.e5 K k x0 n x2' xl0'))
theorem impl_OwnersIn.q5 (k : Nat) {R : Type} (K : Ex → St κ → Option R) (vs : List AV) (bs : List (Blk κ)) (r : R) (h : impl_OwnersIn.h5 k K vs bs = some r) : ∃ n, loopN 0 (Code.den ti (impl_OwnersIn.Γ k) (impl_OwnersIn.LH k) (loopAt Tryd.f9 0)) [(0, []), (3, [some 1]), (4, [])] [(3, [some 1])] K n vs bs = some r := by
  unfold impl_OwnersIn.h5 at h
  split at h
  · obtain ⟨_, rfl, h_1⟩ := asO_bind h
    exact ⟨k, (impl_OwnersIn.e5 K k _ k _ _).trans h_1⟩
  · cases h
theorem impl_OwnersIn.lok (k : Nat) : LOK ti (impl_OwnersIn.Γ k) (impl_OwnersIn.LH k) 0 (loopsOf (bodyOf Tryd.f9)) :=
  (show loopsOf (bodyOf Tryd.f9) = [loopAt Tryd.f9 0] by kernel_rfl) ▸ (LOK_cons (g := ⟨0, [(0, []), (3, [some 1]), (4, [])], [(3, [some 1])], @impl_OwnersIn.h5 k⟩) (by kernel_rfl) rfl (fun K vs xs r h => impl_OwnersIn.q5 k K vs xs r h) (LOK_nil))
def impl_OwnersIn.sig : List PSh := [.one .sc]
def impl_OwnersIn.g (y : List Int) : Ret κ := ⟨.v (.sl 0), [], [.rows 1 true y]⟩
def impl_OwnersIn.out (r : Ret κ) : Option (List Int) :=
  match r with
  | ⟨.v (.sl 0), [], [q0]⟩ => (asO 1 true q0).bind fun z0 => some (z0)
  | _ => none
theorem impl_OwnersIn.out_ok (r : Ret κ) (y : List Int) (h : impl_OwnersIn.out r = some y) : r = impl_OwnersIn.g y := by
  unfold impl_OwnersIn.out at h
  split at h
  · obtain ⟨_, rfl, h_1⟩ := asO_bind h
    obtain rfl := Option.some.inj h_1
    rfl
  · cases h
def impl_OwnersIn.body (k : Nat) (vs : List AV) (bs : List (Blk κ)) : Option (Lf κ) :=
  match vs, bs with
  | [.v (.int .i64 a0)], [] => some ⟨List Int, impl_OwnersIn.f k a0, impl_OwnersIn.g⟩
  | _, _ => none
def impl_OwnersIn.C (k : Nat) : Nat → List AV → AP κ AV := contract impl_OwnersIn.sig (impl_OwnersIn.body k)
theorem impl_OwnersIn.den (k : Nat) (a0 : Int) : Code.den ti (impl_OwnersIn.Γ k) (impl_OwnersIn.LH k) (bodyOf Tryd.f9) (finK ti Tryd.f9.results.toList [(2, [some 1])] (flags impl_OwnersIn.sig).length (rwI (flags impl_OwnersIn.sig) 0) impl_OwnersIn.out) ⟨envOf (([.v (.int .i64 a0)]).zipIdx.map fun q => (q.2, q.1)), hpOf [], (flags impl_OwnersIn.sig).length⟩ = impl_OwnersIn.f k a0 := by kernel_rfl
theorem impl_OwnersIn.ok (k : Nat) : CSound Tryd.prog 9 (impl_OwnersIn.C k) :=
  csound κ_ok mixed tok (impl_OwnersIn.hΓ k) (LH := impl_OwnersIn.LH k) (fn := Tryd.f9) (c := bodyOf Tryd.f9) Tryd.func9 rfl Tryd.call9 impl_OwnersIn.sig [(2, [some 1])] (impl_OwnersIn.body k) (by kernel_rfl) (impl_OwnersIn.lok k) (by decide) fun vs bs lf y hl hb hy => by
    unfold impl_OwnersIn.body at hb
    split at hb
    · obtain rfl := Option.some.inj hb
      exact ⟨impl_OwnersIn.out, impl_OwnersIn.out_ok, (impl_OwnersIn.den k _).trans hy⟩
    · cases hb
/-! ### impl_LabelOf -/
def impl_LabelOf.L3 {R : Type} (k : Nat) (x2 : Int) (xl0 : List Int) (X0 : Int → Option R) (rec : Int → Int → Option R) (x0 : Int) (x3 : Int) : Option R :=
  (bif decide (x3 < x2) then (bif decide (0 ≤ x3) then (bif decide (x3 < (xl0.length : Int)) then (impl_InRange.f k (rd_i64 xl0 x3) (1 : Int) (9 : Int)).bind fun t1 => (bif t1 then (bif decide ((rd_i64 xl0 x3) < 0) then none else (rec (bitop .or .i64 x0 (w64 ((1 : Int) * 2 ^ (min ((rd_i64 xl0 x3)).toNat 64)))) (w64 (x3 + (1 : Int))))) else (rec x0 (w64 (x3 + (1 : Int))))) else none) else none) else (X0 x0))
def impl_LabelOf.l3 {R : Type} (k : Nat) (x2 : Int) (xl0 : List Int) (X0 : Int → Option R) : Nat → Int → Int → Option R
  | 0 => fun _ _ => none
  | n + 1 => impl_LabelOf.L3 k x2 xl0 X0 (impl_LabelOf.l3 k x2 xl0 X0 n)
def impl_LabelOf.f (k : Nat) (a0 : List Int) : Option Int :=
  (impl_LabelOf.l3 k (a0.length : Int) a0 (fun (y2 : Int) => some y2) k (0 : Int) (0 : Int))
def impl_LabelOf.h3 (k : Nat) {R : Type} (K : Ex → St κ → Option R) (vs : List AV) (bs : List (Blk κ)) : Option R :=
  match vs, bs with
  | [.v (.int .i64 x0), .v (.sl 0), .v (.int .i64 x2), .v (.int .i64 x3)], [qb0] => (asO 1 false qb0).bind fun xl0 => impl_LabelOf.l3 k x2 xl0 (fun (z0 : Int) => K (.exit 0) (stOf [(3, [])] [.v (.int .i64 z0)] [.rows 1 false xl0])) k x0 x3
  | _, _ => none
def impl_LabelOf.Γ (k : Nat) : Ct κ := assoc [(17, impl_InRange.C k)]
def impl_LabelOf.LH (k : Nat) : Nat → Option (LHi κ) := assoc [(3, ⟨1, [(3, []), (6, [some 1]), (7, []), (8, [])], [(3, [])], @impl_LabelOf.h3 k⟩)]
theorem impl_LabelOf.hΓ (k : Nat) : ∀ f g, impl_LabelOf.Γ k f = some g → CSound Tryd.prog f g := G_cons (impl_InRange.ok k) G_nil
theorem impl_LabelOf.e3 {R : Type} (K : Ex → St κ → Option R) (k : Nat) (x2 : Int) (xl0 : List Int) : ∀ (n : Nat) (x0 : Int) (x3 : Int), loopN 1 (Code.den ti (impl_LabelOf.Γ k) (impl_LabelOf.LH k) (loopAt Tryd.f8 0)) [(3, []), (6, [some 1]), (7, []), (8, [])] [(3, [])] K n [.v (.int .i64 x0), .v (.sl 0), .v (.int .i64 x2), .v (.int .i64 x3)] [.rows 1 false xl0] = impl_LabelOf.l3 k x2 xl0 (fun (z0 : Int) => K (.exit 0) (stOf [(3, [])] [.v (.int .i64 z0)] [.rows 1 false xl0])) n x0 x3
  | 0, _, _ => rfl
  | n + 1, x0, x3 => (show loopN 1 (Code.den ti (impl_LabelOf.Γ k) (impl_LabelOf.LH k) (loopAt Tryd.f8 0)) [(3, []), (6, [some 1]), (7, []), (8, [])] [(3, [])] K (n + 1) [.v (.int .i64 x0), .v (.sl 0), .v (.int .i64 x2), .v (.int .i64 x3)] [.rows 1 false xl0] = impl_LabelOf.L3 k x2 xl0 (fun (z0 : Int) => K (.exit 0) (stOf [(3, [])] [.v (.int .i64 z0)] [.rows 1 false xl0])) (fun (x0' : Int) (x3' : Int) => loopN 1 (Code.den ti (impl_LabelOf.Γ k) (impl_LabelOf.LH k) (loopAt Tryd.f8 0)) [(3, []), (6, [some 1]), (7, []), (8, [])] [(3, [])] K n [.v (.int .i64 x0'), .v (.sl 0), .v (.int .i64 x2), .v (.int .i64 x3')] [.rows 1 false xl0]) x0 x3 by kernel_rfl).trans (congrArg (fun rec => impl_LabelOf.L3 k x2 xl0 (fun (z0 : Int) => K (.exit 0) (stOf [(3, [])] [.v (.int .i64 z0)] [.rows 1 false xl0])) rec x0 x3) (funext fun x0' => funext fun x3' => impl_LabelOf.e3 K k x2 xl0 n x0' x3'))
theorem impl_LabelOf.q3 (k : Nat) {R : Type} (K : Ex → St κ → Option R) (vs : List AV) (bs : List (Blk κ)) (r : R) (h : impl_LabelOf.h3 k K vs bs = some r) : ∃ n, loopN 1 (Code.den ti (impl_LabelOf.Γ k) (impl_LabelOf.LH k) (loopAt Tryd.f8 0)) [(3, []), (6, [some 1]), (7, []), (8, [])] [(3, [])] K n vs bs = some r := by
  unfold impl_LabelOf.h3 at h
  split at h
  · obtain ⟨_, rfl, h_1⟩ := asO_bind h
    exact ⟨k, (impl_LabelOf.e3 K k _ _ k _ _).trans h_1⟩
  · cases h
theorem impl_LabelOf.lok (k : Nat) : LOK ti (impl_LabelOf.Γ k) (impl_LabelOf.LH k) 1 (loopsOf (bodyOf Tryd.f8)) :=
  (show loopsOf (bodyOf Tryd.f8) = [loopAt Tryd.f8 0] by kernel_rfl) ▸ (LOK_cons (g := ⟨1, [(3, []), (6, [some 1]), (7, []), (8, [])], [(3, [])], @impl_LabelOf.h3 k⟩) (by kernel_rfl) rfl (fun K vs xs r h => impl_LabelOf.q3 k K vs xs r h) (LOK_nil))
def impl_LabelOf.sig : List PSh := [.one (.ro 1)]
def impl_LabelOf.g (y : Int) : Ret κ := ⟨.v (.int .i64 y), [], []⟩
def impl_LabelOf.out (r : Ret κ) : Option Int :=
  match r with
  | ⟨.v (.int .i64 z0), [], []⟩ => some (z0)
  | _ => none
theorem impl_LabelOf.out_ok (r : Ret κ) (y : Int) (h : impl_LabelOf.out r = some y) : r = impl_LabelOf.g y := by
  unfold impl_LabelOf.out at h
  split at h
  · obtain rfl := Option.some.inj h
    rfl
  · cases h
def impl_LabelOf.body (k : Nat) (vs : List AV) (bs : List (Blk κ)) : Option (Lf κ) :=
  match vs, bs with
  | [.v (.sl 0)], [qb0] => (asO 1 false qb0).bind fun a0 => some ⟨Int, impl_LabelOf.f k a0, impl_LabelOf.g⟩
  | _, _ => none
def impl_LabelOf.C (k : Nat) : Nat → List AV → AP κ AV := contract impl_LabelOf.sig (impl_LabelOf.body k)
theorem impl_LabelOf.den (k : Nat) (a0 : List Int) : Code.den ti (impl_LabelOf.Γ k) (impl_LabelOf.LH k) (bodyOf Tryd.f8) (finK ti Tryd.f8.results.toList [] (flags impl_LabelOf.sig).length (rwI (flags impl_LabelOf.sig) 0) impl_LabelOf.out) ⟨envOf (([.v (.sl 0)]).zipIdx.map fun q => (q.2, q.1)), hpOf [.rows 1 false a0], (flags impl_LabelOf.sig).length⟩ = impl_LabelOf.f k a0 := by kernel_rfl
theorem impl_LabelOf.ok (k : Nat) : CSound Tryd.prog 8 (impl_LabelOf.C k) :=
  csound κ_ok mixed tok (impl_LabelOf.hΓ k) (LH := impl_LabelOf.LH k) (fn := Tryd.f8) (c := bodyOf Tryd.f8) Tryd.func8 rfl Tryd.call8 impl_LabelOf.sig [] (impl_LabelOf.body k) (by kernel_rfl) (impl_LabelOf.lok k) (by decide) fun vs bs lf y hl hb hy => by
    unfold impl_LabelOf.body at hb
    split at hb
    · obtain ⟨_, rfl, hb_1⟩ := asO_bind hb
      obtain rfl := Option.some.inj hb_1
      exact ⟨impl_LabelOf.out, impl_LabelOf.out_ok, (impl_LabelOf.den k _).trans hy⟩
    · cases hb
/-! ### impl_LabelWithin -/
def impl_LabelWithin.f (k : Nat) (a0 : Int) (a1 : Int) : Option Bool :=
  (impl_IsLabel.f k a0).bind fun t1 => (bif t1 then (impl_IsLabel.f k a1).bind fun t2 => (bif t2 then some ((bitop .andNot .i64 a0 a1) == (0 : Int)) else some false) else some false)
def impl_LabelWithin.Γ (k : Nat) : Ct κ := assoc [(7, impl_IsLabel.C k)]
def impl_LabelWithin.LH (k : Nat) : Nat → Option (LHi κ) := assoc []
theorem impl_LabelWithin.hΓ (k : Nat) : ∀ f g, impl_LabelWithin.Γ k f = some g → CSound Tryd.prog f g := G_cons (impl_IsLabel.ok k) G_nil
theorem impl_LabelWithin.lok (k : Nat) : LOK ti (impl_LabelWithin.Γ k) (impl_LabelWithin.LH k) 0 (loopsOf (bodyOf Tryd.f10)) :=
  (show loopsOf (bodyOf Tryd.f10) = [] by kernel_rfl) ▸ LOK_nil
def impl_LabelWithin.sig : List PSh := [.one .sc, .one .sc]
def impl_LabelWithin.g (y : Bool) : Ret κ := ⟨.v (.bool y), [], []⟩
def impl_LabelWithin.out (r : Ret κ) : Option Bool :=
  match r with
  | ⟨.v (.bool z0), [], []⟩ => some (z0)
  | _ => none
theorem impl_LabelWithin.out_ok (r : Ret κ) (y : Bool) (h : impl_LabelWithin.out r = some y) : r = impl_LabelWithin.g y := by
  unfold impl_LabelWithin.out at h
  split at h
  · obtain rfl := Option.some.inj h
    rfl
  · cases h
def impl_LabelWithin.body (k : Nat) (vs : List AV) (bs : List (Blk κ)) : Option (Lf κ) :=
  match vs, bs with
  | [.v (.int .i64 a0), .v (.int .i64 a1)], [] => some ⟨Bool, impl_LabelWithin.f k a0 a1, impl_LabelWithin.g⟩
  | _, _ => none
def impl_LabelWithin.C (k : Nat) : Nat → List AV → AP κ AV := contract impl_LabelWithin.sig (impl_LabelWithin.body k)
theorem impl_LabelWithin.den (k : Nat) (a0 : Int) (a1 : Int) : Code.den ti (impl_LabelWithin.Γ k) (impl_LabelWithin.LH k) (bodyOf Tryd.f10) (finK ti Tryd.f10.results.toList [] (flags impl_LabelWithin.sig).length (rwI (flags impl_LabelWithin.sig) 0) impl_LabelWithin.out) ⟨envOf (([.v (.int .i64 a0), .v (.int .i64 a1)]).zipIdx.map fun q => (q.2, q.1)), hpOf [], (flags impl_LabelWithin.sig).length⟩ = impl_LabelWithin.f k a0 a1 := by kernel_rfl
theorem impl_LabelWithin.ok (k : Nat) : CSound Tryd.prog 10 (impl_LabelWithin.C k) :=
  csound κ_ok mixed tok (impl_LabelWithin.hΓ k) (LH := impl_LabelWithin.LH k) (fn := Tryd.f10) (c := bodyOf Tryd.f10) Tryd.func10 rfl Tryd.call10 impl_LabelWithin.sig [] (impl_LabelWithin.body k) (by kernel_rfl) (impl_LabelWithin.lok k) (by decide) fun vs bs lf y hl hb hy => by
    unfold impl_LabelWithin.body at hb
    split at hb
    · obtain rfl := Option.some.inj hb
      exact ⟨impl_LabelWithin.out, impl_LabelWithin.out_ok, (impl_LabelWithin.den k _ _).trans hy⟩
    · cases hb
/-! ### laws_contains -/
def laws_contains.L2 {R : Type} (k : Nat) (x1 : Int) (xl0 : List Int) (X0 : Bool → Option R) (X1 : Unit → Option R) (rec : Int → Option R) (x2 : Int) : Option R :=
  (bif decide (x2 < (xl0.length : Int)) then (bif decide (0 ≤ x2) then (bif decide (x2 < (xl0.length : Int)) then (bif ((rd_i64 xl0 x2) == x1) then (X0 true) else (rec (w64 (x2 + (1 : Int))))) else none) else none) else (X1 ()))
def laws_contains.l2 {R : Type} (k : Nat) (x1 : Int) (xl0 : List Int) (X0 : Bool → Option R) (X1 : Unit → Option R) : Nat → Int → Option R
  | 0 => fun _ => none
  | n + 1 => laws_contains.L2 k x1 xl0 X0 X1 (laws_contains.l2 k x1 xl0 X0 X1 n)
def laws_contains.f (k : Nat) (a0 : List Int) (a1 : Int) : Option Bool :=
  (laws_contains.l2 k a1 a0 (fun (y1 : Bool) => some y1) (fun (_ : Unit) => some false) k (0 : Int))
def laws_contains.h2 (k : Nat) {R : Type} (K : Ex → St κ → Option R) (vs : List AV) (bs : List (Blk κ)) : Option R :=
  match vs, bs with
  | [.v (.sl 0), .v (.int .i64 x1), .v (.int .i64 x2)], [qb0] => (asO 1 false qb0).bind fun xl0 => laws_contains.l2 k x1 xl0 (fun (z0 : Bool) => K .ret (stOf [(4, [])] [.v (.bool z0)] [.rows 1 false xl0])) (fun (_ : Unit) => K (.exit 0) (stOf [(4, [])] [.v .any] [.rows 1 false xl0])) k x2
  | _, _ => none
def laws_contains.Γ (k : Nat) : Ct κ := assoc []
def laws_contains.LH (k : Nat) : Nat → Option (LHi κ) := assoc [(2, ⟨1, [(0, [some 1]), (1, []), (5, [])], [(4, [])], @laws_contains.h2 k⟩)]
theorem laws_contains.hΓ (k : Nat) : ∀ f g, laws_contains.Γ k f = some g → CSound Tryd.prog f g := G_nil
theorem laws_contains.e2 {R : Type} (K : Ex → St κ → Option R) (k : Nat) (x1 : Int) (xl0 : List Int) : ∀ (n : Nat) (x2 : Int), loopN 1 (Code.den ti (laws_contains.Γ k) (laws_contains.LH k) (loopAt Tryd.f11 0)) [(0, [some 1]), (1, []), (5, [])] [(4, [])] K n [.v (.sl 0), .v (.int .i64 x1), .v (.int .i64 x2)] [.rows 1 false xl0] = laws_contains.l2 k x1 xl0 (fun (z0 : Bool) => K .ret (stOf [(4, [])] [.v (.bool z0)] [.rows 1 false xl0])) (fun (_ : Unit) => K (.exit 0) (stOf [(4, [])] [.v .any] [.rows 1 false xl0])) n x2
  | 0, _ => rfl
  | n + 1, x2 => (show loopN 1 (Code.den ti (laws_contains.Γ k) (laws_contains.LH k) (loopAt Tryd.f11 0)) [(0, [some 1]), (1, []), (5, [])] [(4, [])] K (n + 1) [.v (.sl 0), .v (.int .i64 x1), .v (.int .i64 x2)] [.rows 1 false xl0] = laws_contains.L2 k x1 xl0 (fun (z0 : Bool) => K .ret (stOf [(4, [])] [.v (.bool z0)] [.rows 1 false xl0])) (fun (_ : Unit) => K (.exit 0) (stOf [(4, [])] [.v .any] [.rows 1 false xl0])) (fun (x2' : Int) => loopN 1 (Code.den ti (laws_contains.Γ k) (laws_contains.LH k) (loopAt Tryd.f11 0)) [(0, [some 1]), (1, []), (5, [])] [(4, [])] K n [.v (.sl 0), .v (.int .i64 x1), .v (.int .i64 x2')] [.rows 1 false xl0]) x2 by kernel_rfl).trans (congrArg (fun rec => laws_contains.L2 k x1 xl0 (fun (z0 : Bool) => K .ret (stOf [(4, [])] [.v (.bool z0)] [.rows 1 false xl0])) (fun (_ : Unit) => K (.exit 0) (stOf [(4, [])] [.v .any] [.rows 1 false xl0])) rec x2) (funext fun x2' => laws_contains.e2 K k x1 xl0 n x2'))
theorem laws_contains.q2 (k : Nat) {R : Type} (K : Ex → St κ → Option R) (vs : List AV) (bs : List (Blk κ)) (r : R) (h : laws_contains.h2 k K vs bs = some r) : ∃ n, loopN 1 (Code.den ti (laws_contains.Γ k) (laws_contains.LH k) (loopAt Tryd.f11 0)) [(0, [some 1]), (1, []), (5, [])] [(4, [])] K n vs bs = some r := by
  unfold laws_contains.h2 at h
  split at h
  · obtain ⟨_, rfl, h_1⟩ := asO_bind h
    exact ⟨k, (laws_contains.e2 K k _ _ k _).trans h_1⟩
  · cases h
theorem laws_contains.lok (k : Nat) : LOK ti (laws_contains.Γ k) (laws_contains.LH k) 1 (loopsOf (bodyOf Tryd.f11)) :=
  (show loopsOf (bodyOf Tryd.f11) = [loopAt Tryd.f11 0] by kernel_rfl) ▸ (LOK_cons (g := ⟨1, [(0, [some 1]), (1, []), (5, [])], [(4, [])], @laws_contains.h2 k⟩) (by kernel_rfl) rfl (fun K vs xs r h => laws_contains.q2 k K vs xs r h) (LOK_nil))
def laws_contains.sig : List PSh := [.one (.ro 1), .one .sc]
def laws_contains.g (y : Bool) : Ret κ := ⟨.v (.bool y), [], []⟩
def laws_contains.out (r : Ret κ) : Option Bool :=
  match r with
  | ⟨.v (.bool z0), [], []⟩ => some (z0)
  | _ => none
theorem laws_contains.out_ok (r : Ret κ) (y : Bool) (h : laws_contains.out r = some y) : r = laws_contains.g y := by
  unfold laws_contains.out at h
  split at h
  · obtain rfl := Option.some.inj h
    rfl
  · cases h
def laws_contains.body (k : Nat) (vs : List AV) (bs : List (Blk κ)) : Option (Lf κ) :=
  match vs, bs with
  | [.v (.sl 0), .v (.int .i64 a1)], [qb0] => (asO 1 false qb0).bind fun a0 => some ⟨Bool, laws_contains.f k a0 a1, laws_contains.g⟩
  | _, _ => none
def laws_contains.C (k : Nat) : Nat → List AV → AP κ AV := contract laws_contains.sig (laws_contains.body k)
theorem laws_contains.den (k : Nat) (a0 : List Int) (a1 : Int) : Code.den ti (laws_contains.Γ k) (laws_contains.LH k) (bodyOf Tryd.f11) (finK ti Tryd.f11.results.toList [] (flags laws_contains.sig).length (rwI (flags laws_contains.sig) 0) laws_contains.out) ⟨envOf (([.v (.sl 0), .v (.int .i64 a1)]).zipIdx.map fun q => (q.2, q.1)), hpOf [.rows 1 false a0], (flags laws_contains.sig).length⟩ = laws_contains.f k a0 a1 := by kernel_rfl
theorem laws_contains.ok (k : Nat) : CSound Tryd.prog 11 (laws_contains.C k) :=
  csound κ_ok mixed tok (laws_contains.hΓ k) (LH := laws_contains.LH k) (fn := Tryd.f11) (c := bodyOf Tryd.f11) Tryd.func11 rfl Tryd.call11 laws_contains.sig [] (laws_contains.body k) (by kernel_rfl) (laws_contains.lok k) (by decide) fun vs bs lf y hl hb hy => by
    unfold laws_contains.body at hb
    split at hb
    · obtain ⟨_, rfl, hb_1⟩ := asO_bind hb
      obtain rfl := Option.some.inj hb_1
      exact ⟨laws_contains.out, laws_contains.out_ok, (laws_contains.den k _ _).trans hy⟩
    · cases hb
/-! ### spec_DrawLabelOf -/
def spec_DrawLabelOf.L4 {R : Type} (k : Nat) (xl0 : List Int) (X0 : List Int → Option R) (rec : Int → Int → Int → List Int → Option R) (x2 : Int) (xc1_1 : Int) (xc1_2 : Int) (xl2 : List Int) : Option R :=
  (bif decide (x2 > (0 : Int)) then (spec_l1Below.f k xl0 xc1_1 xc1_2 (12 : Int)).bind fun t3 => (bif decide ((xl2.length + ([(w64 (t3.1 - (1 : Int)))] : List Int).length) * 8 ≤ cap48) then (rec (w64 (x2 - (1 : Int))) t3.2.1 t3.2.2 (xl2 ++ ([(w64 (t3.1 - (1 : Int)))] : List Int))) else none) else (X0 xl2))
def spec_DrawLabelOf.l4 {R : Type} (k : Nat) (xl0 : List Int) (X0 : List Int → Option R) : Nat → Int → Int → Int → List Int → Option R
  | 0 => fun _ _ _ _ => none
  | n + 1 => spec_DrawLabelOf.L4 k xl0 X0 (spec_DrawLabelOf.l4 k xl0 X0 n)
def spec_DrawLabelOf.f (k : Nat) (a0 : List Int) : Option (List Int) :=
  (spec_l1New.f k a0).bind fun t1 => (spec_l1Below.f k a0 t1.1 t1.2 (6 : Int)).bind fun t2 => (spec_DrawLabelOf.l4 k a0 (fun (y4 : List Int) => some y4) k t2.1 t2.2.1 t2.2.2 ([] : List Int))
def spec_DrawLabelOf.h4 (k : Nat) {R : Type} (K : Ex → St κ → Option R) (vs : List AV) (bs : List (Blk κ)) : Option R :=
  match vs, bs with
  | [.v (.ptr 1 0 0), .v (.sl 2), .v (.int .i64 x2)], [qb0, .cells 44 [.sl 0, .int .i64 xc1_1, .int .i64 xc1_2], qb2] => (asO 0 false qb0).bind fun xl0 => (asO 1 true qb2).bind fun xl2 => spec_DrawLabelOf.l4 k xl0 (fun (zl1 : List Int) => K (.exit 0) (stOf [(4, [some 1])] [.v (.sl 1)] [.rows 0 false xl0, .rows 1 true zl1])) k x2 xc1_1 xc1_2 xl2
  | _, _ => none
def spec_DrawLabelOf.Γ (k : Nat) : Ct κ := assoc [(15, spec_l1New.C k), (18, spec_l1Below.C k)]
def spec_DrawLabelOf.LH (k : Nat) : Nat → Option (LHi κ) := assoc [(4, ⟨1, [(3, [some 0, none, none]), (4, [some 1]), (5, [])], [(4, [some 1])], @spec_DrawLabelOf.h4 k⟩)]
theorem spec_DrawLabelOf.hΓ (k : Nat) : ∀ f g, spec_DrawLabelOf.Γ k f = some g → CSound Tryd.prog f g := G_cons (spec_l1New.ok k) (G_cons (spec_l1Below.ok k) G_nil)
theorem spec_DrawLabelOf.e4 {R : Type} (K : Ex → St κ → Option R) (k : Nat) (xl0 : List Int) : ∀ (n : Nat) (x2 : Int) (xc1_1 : Int) (xc1_2 : Int) (xl2 : List Int), loopN 1 (Code.den ti (spec_DrawLabelOf.Γ k) (spec_DrawLabelOf.LH k) (loopAt Tryd.f12 0)) [(3, [some 0, none, none]), (4, [some 1]), (5, [])] [(4, [some 1])] K n [.v (.ptr 1 0 0), .v (.sl 2), .v (.int .i64 x2)] [.rows 0 false xl0, .cells 44 [.sl 0, .int .i64 xc1_1, .int .i64 xc1_2], .rows 1 true xl2] = spec_DrawLabelOf.l4 k xl0 (fun (zl1 : List Int) => K (.exit 0) (stOf [(4, [some 1])] [.v (.sl 1)] [.rows 0 false xl0, .rows 1 true zl1])) n x2 xc1_1 xc1_2 xl2
  | 0, _, _, _, _ => rfl
  | n + 1, x2, xc1_1, xc1_2, xl2 => (show loopN 1 (Code.den ti (spec_DrawLabelOf.Γ k) (spec_DrawLabelOf.LH k) (loopAt Tryd.f12 0)) [(3, [some 0, none, none]), (4, [some 1]), (5, [])] [(4, [some 1])] K (n + 1) [.v (.ptr 1 0 0), .v (.sl 2), .v (.int .i64 x2)] [.rows 0 false xl0, .cells 44 [.sl 0, .int .i64 xc1_1, .int .i64 xc1_2], .rows 1 true xl2] = spec_DrawLabelOf.L4 k xl0 (fun (zl1 : List Int) => K (.exit 0) (stOf [(4, [some 1])] [.v (.sl 1)] [.rows 0 false xl0, .rows 1 true zl1])) (fun (x2' : Int) (xc1_1' : Int) (xc1_2' : Int) (xl2' : List Int) => loopN 1 (Code.den ti (spec_DrawLabelOf.Γ k) (spec_DrawLabelOf.LH k) (loopAt Tryd.f12 0)) [(3, [some 0, none, none]), (4, [some 1]), (5, [])] [(4, [some 1])] K n [.v (.ptr 1 0 0), .v (.sl 2), .v (.int .i64 x2')] [.rows 0 false xl0, .cells 44 [.sl 0, .int .i64 xc1_1', .int .i64 xc1_2'], .rows 1 true xl2']) x2 xc1_1 xc1_2 xl2 by kernel_rfl).trans (congrArg (fun rec => spec_DrawLabelOf.L4 k xl0 (fun (zl1 : List Int) => K (.exit 0) (stOf [(4, [some 1])] [.v (.sl 1)] [.rows 0 false xl0, .rows 1 true zl1])) rec x2 xc1_1 xc1_2 xl2) (funext fun x2' => funext fun xc1_1' => funext fun xc1_2' => funext fun xl2' => spec_DrawLabelOf.e4 K k xl0 n x2' xc1_1' xc1_2' xl2'))
theorem spec_DrawLabelOf.q4 (k : Nat) {R : Type} (K : Ex → St κ → Option R) (vs : List AV) (bs : List (Blk κ)) (r : R) (h : spec_DrawLabelOf.h4 k K vs bs = some r) : ∃ n, loopN 1 (Code.den ti (spec_DrawLabelOf.Γ k) (spec_DrawLabelOf.LH k) (loopAt Tryd.f12 0)) [(3, [some 0, none, none]), (4, [some 1]), (5, [])] [(4, [some 1])] K n vs bs = some r := by
  unfold spec_DrawLabelOf.h4 at h
  split at h
  · obtain ⟨_, rfl, h_1⟩ := asO_bind h
    obtain ⟨_, rfl, h_2⟩ := asO_bind h_1
    exact ⟨k, (spec_DrawLabelOf.e4 K k _ k _ _ _ _).trans h_2⟩
  · cases h
theorem spec_DrawLabelOf.lok (k : Nat) : LOK ti (spec_DrawLabelOf.Γ k) (spec_DrawLabelOf.LH k) 1 (loopsOf (bodyOf Tryd.f12)) :=
  (show loopsOf (bodyOf Tryd.f12) = [loopAt Tryd.f12 0] by kernel_rfl) ▸ (LOK_cons (g := ⟨1, [(3, [some 0, none, none]), (4, [some 1]), (5, [])], [(4, [some 1])], @spec_DrawLabelOf.h4 k⟩) (by kernel_rfl) rfl (fun K vs xs r h => spec_DrawLabelOf.q4 k K vs xs r h) (LOK_nil))
def spec_DrawLabelOf.sig : List PSh := [.one (.ro 0)]
def spec_DrawLabelOf.g (y : List Int) : Ret κ := ⟨.v (.sl 1), [], [.rows 1 true y]⟩
def spec_DrawLabelOf.out (r : Ret κ) : Option (List Int) :=
  match r with
  | ⟨.v (.sl 1), [], [q0]⟩ => (asO 1 true q0).bind fun z0 => some (z0)
  | _ => none
theorem spec_DrawLabelOf.out_ok (r : Ret κ) (y : List Int) (h : spec_DrawLabelOf.out r = some y) : r = spec_DrawLabelOf.g y := by
  unfold spec_DrawLabelOf.out at h
  split at h
  · obtain ⟨_, rfl, h_1⟩ := asO_bind h
    obtain rfl := Option.some.inj h_1
    rfl
  · cases h
def spec_DrawLabelOf.body (k : Nat) (vs : List AV) (bs : List (Blk κ)) : Option (Lf κ) :=
  match vs, bs with
  | [.v (.sl 0)], [qb0] => (asO 0 false qb0).bind fun a0 => some ⟨List Int, spec_DrawLabelOf.f k a0, spec_DrawLabelOf.g⟩
  | _, _ => none
def spec_DrawLabelOf.C (k : Nat) : Nat → List AV → AP κ AV := contract spec_DrawLabelOf.sig (spec_DrawLabelOf.body k)
theorem spec_DrawLabelOf.den (k : Nat) (a0 : List Int) : Code.den ti (spec_DrawLabelOf.Γ k) (spec_DrawLabelOf.LH k) (bodyOf Tryd.f12) (finK ti Tryd.f12.results.toList [(2, [some 1])] (flags spec_DrawLabelOf.sig).length (rwI (flags spec_DrawLabelOf.sig) 0) spec_DrawLabelOf.out) ⟨envOf (([.v (.sl 0)]).zipIdx.map fun q => (q.2, q.1)), hpOf [.rows 0 false a0], (flags spec_DrawLabelOf.sig).length⟩ = spec_DrawLabelOf.f k a0 := by kernel_rfl
theorem spec_DrawLabelOf.ok (k : Nat) : CSound Tryd.prog 12 (spec_DrawLabelOf.C k) :=
  csound κ_ok mixed tok (spec_DrawLabelOf.hΓ k) (LH := spec_DrawLabelOf.LH k) (fn := Tryd.f12) (c := bodyOf Tryd.f12) Tryd.func12 rfl Tryd.call12 spec_DrawLabelOf.sig [(2, [some 1])] (spec_DrawLabelOf.body k) (by kernel_rfl) (spec_DrawLabelOf.lok k) (by decide) fun vs bs lf y hl hb hy => by
    unfold spec_DrawLabelOf.body at hb
    split at hb
    · obtain ⟨_, rfl, hb_1⟩ := asO_bind hb
      obtain rfl := Option.some.inj hb_1
      exact ⟨spec_DrawLabelOf.out, spec_DrawLabelOf.out_ok, (spec_DrawLabelOf.den k _).trans hy⟩
    · cases hb
end Go.Proofs.YthjdecnheaifkaaDoor.PFnLabels
