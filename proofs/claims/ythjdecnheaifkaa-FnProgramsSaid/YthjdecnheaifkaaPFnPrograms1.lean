/- What the functions that the law FnPrograms reaches come to; no conditions. -/
import Derived.Test.YthjdecnheaifkaaPFnProgramsT
set_option linter.unusedVariables false
set_option maxRecDepth 100000
namespace Go.Proofs.Ythjdecnheaifkaa.PFnPrograms
open Go Go.Eng Go.Proofs
/-! ### laws_big -/
def laws_big.f (k : Nat) (a0 : List Int) : Option Bool :=
  some (decide ((a0.length : Int) > (1048576 : Int)))
def laws_big.Γ (k : Nat) : Ct κ := assoc []
def laws_big.LH (k : Nat) : Nat → Option (LHi κ) := assoc []
theorem laws_big.hΓ (k : Nat) : ∀ f g, laws_big.Γ k f = some g → CSound Try.prog f g := G_nil
theorem laws_big.lok (k : Nat) : LOK ti (laws_big.Γ k) (laws_big.LH k) 1 (loopsOf (bodyOf Try.f20)) :=
  (show loopsOf (bodyOf Try.f20) = [] by kernel_rfl) ▸ LOK_nil
def laws_big.sig : List PSh := [.one (.ro 0)]
def laws_big.g (y : Bool) : Ret κ := ⟨.v (.bool y), [], []⟩
def laws_big.out (r : Ret κ) : Option Bool :=
  match r with
  | ⟨.v (.bool z0), [], []⟩ => some (z0)
  | _ => none
theorem laws_big.out_ok (r : Ret κ) (y : Bool) (h : laws_big.out r = some y) : r = laws_big.g y := by
  unfold laws_big.out at h
  split at h
  · obtain rfl := Option.some.inj h
    rfl
  · cases h
def laws_big.body (k : Nat) (vs : List AV) (bs : List (Blk κ)) : Option (Lf κ) :=
  match vs, bs with
  | [.v (.sl 0)], [qb0] => (asO 0 false qb0).bind fun a0 => some ⟨Bool, laws_big.f k a0, laws_big.g⟩
  | _, _ => none
def laws_big.C (k : Nat) : Nat → List AV → AP κ AV := contract laws_big.sig (laws_big.body k)
theorem laws_big.den (k : Nat) (a0 : List Int) : Code.den ti (laws_big.Γ k) (laws_big.LH k) (bodyOf Try.f20) (finK ti Try.f20.results.toList [] (flags laws_big.sig).length (rwI (flags laws_big.sig) 0) laws_big.out) ⟨envOf (([.v (.sl 0)]).zipIdx.map fun q => (q.2, q.1)), hpOf [.rows 0 false a0], (flags laws_big.sig).length⟩ = laws_big.f k a0 := by kernel_rfl
theorem laws_big.ok (k : Nat) : CSound Try.prog 20 (laws_big.C k) :=
  csound κ_ok mixed tok (laws_big.hΓ k) (LH := laws_big.LH k) (fn := Try.f20) (c := bodyOf Try.f20) Try.func20 rfl Try.call20 laws_big.sig [] (laws_big.body k) (by kernel_rfl) (laws_big.lok k) (by decide) fun vs bs lf y hl hb hy => by
    unfold laws_big.body at hb
    split at hb
    · obtain ⟨_, rfl, hb_1⟩ := asO_bind hb
      obtain rfl := Option.some.inj hb_1
      exact ⟨laws_big.out, laws_big.out_ok, (laws_big.den k _).trans hy⟩
    · cases hb
/-! ### spec_l1New -/
def spec_l1New.L3 {R : Type} (k : Nat) (xl0 : List Int) (X0 : Int → Option R) (rec : Int → Int → Option R) (x1 : Int) (x2 : Int) : Option R :=
  (bif decide (x2 < (xl0.length : Int)) then (bif decide (x2 < (4000 : Int)) then (bif decide (0 ≤ x2) then (bif decide (x2 < (xl0.length : Int)) then (rec (bitop .and .i64 (w64 ((w64 ((w64 (x1 * (137 : Int))) + (w64 ((rd_u8 xl0 x2))))) + (11 : Int))) (1073741823 : Int)) (w64 (x2 + (1 : Int)))) else none) else none) else (X0 x1)) else (X0 x1))
def spec_l1New.l3 {R : Type} (k : Nat) (xl0 : List Int) (X0 : Int → Option R) : Nat → Int → Int → Option R
  | 0 => fun _ _ => none
  | n + 1 => spec_l1New.L3 k xl0 X0 (spec_l1New.l3 k xl0 X0 n)
def spec_l1New.f (k : Nat) (a0 : List Int) : Option (Int × Int) :=
  (spec_l1New.l3 k a0 (fun (y1 : Int) => some ((0 : Int), y1)) k (w64 ((193017 : Int) + (a0.length : Int))) (0 : Int))
def spec_l1New.h3 (k : Nat) {R : Type} (K : Ex → St κ → Option R) (vs : List AV) (bs : List (Blk κ)) : Option R :=
  match vs, bs with
  | [.v (.sl 0), .v (.int .i64 x1), .v (.int .i64 x2)], [qb0] => (asO 0 false qb0).bind fun xl0 => spec_l1New.l3 k xl0 (fun (z1 : Int) => K (.exit 0) (stOf [(0, [some 0]), (3, [])] [.v (.sl 0), .v (.int .i64 z1)] [.rows 0 false xl0])) k x1 x2
  | _, _ => none
def spec_l1New.Γ (k : Nat) : Ct κ := assoc []
def spec_l1New.LH (k : Nat) : Nat → Option (LHi κ) := assoc [(3, ⟨1, [(0, [some 0]), (3, []), (4, [])], [(0, [some 0]), (3, [])], @spec_l1New.h3 k⟩)]
theorem spec_l1New.hΓ (k : Nat) : ∀ f g, spec_l1New.Γ k f = some g → CSound Try.prog f g := G_nil
theorem spec_l1New.e3 {R : Type} (K : Ex → St κ → Option R) (k : Nat) (xl0 : List Int) : ∀ (n : Nat) (x1 : Int) (x2 : Int), loopN 1 (Code.den ti (spec_l1New.Γ k) (spec_l1New.LH k) (loopAt Try.f59 0)) [(0, [some 0]), (3, []), (4, [])] [(0, [some 0]), (3, [])] K n [.v (.sl 0), .v (.int .i64 x1), .v (.int .i64 x2)] [.rows 0 false xl0] = spec_l1New.l3 k xl0 (fun (z1 : Int) => K (.exit 0) (stOf [(0, [some 0]), (3, [])] [.v (.sl 0), .v (.int .i64 z1)] [.rows 0 false xl0])) n x1 x2
  | 0, _, _ => rfl
  | n + 1, x1, x2 => (show loopN 1 (Code.den ti (spec_l1New.Γ k) (spec_l1New.LH k) (loopAt Try.f59 0)) [(0, [some 0]), (3, []), (4, [])] [(0, [some 0]), (3, [])] K (n + 1) [.v (.sl 0), .v (.int .i64 x1), .v (.int .i64 x2)] [.rows 0 false xl0] = spec_l1New.L3 k xl0 (fun (z1 : Int) => K (.exit 0) (stOf [(0, [some 0]), (3, [])] [.v (.sl 0), .v (.int .i64 z1)] [.rows 0 false xl0])) (fun (x1' : Int) (x2' : Int) => loopN 1 (Code.den ti (spec_l1New.Γ k) (spec_l1New.LH k) (loopAt Try.f59 0)) [(0, [some 0]), (3, []), (4, [])] [(0, [some 0]), (3, [])] K n [.v (.sl 0), .v (.int .i64 x1'), .v (.int .i64 x2')] [.rows 0 false xl0]) x1 x2 by kernel_rfl).trans (congrArg (fun rec => spec_l1New.L3 k xl0 (fun (z1 : Int) => K (.exit 0) (stOf [(0, [some 0]), (3, [])] [.v (.sl 0), .v (.int .i64 z1)] [.rows 0 false xl0])) rec x1 x2) (funext fun x1' => funext fun x2' => spec_l1New.e3 K k xl0 n x1' x2'))
theorem spec_l1New.q3 (k : Nat) {R : Type} (K : Ex → St κ → Option R) (vs : List AV) (bs : List (Blk κ)) (r : R) (h : spec_l1New.h3 k K vs bs = some r) : ∃ n, loopN 1 (Code.den ti (spec_l1New.Γ k) (spec_l1New.LH k) (loopAt Try.f59 0)) [(0, [some 0]), (3, []), (4, [])] [(0, [some 0]), (3, [])] K n vs bs = some r := by
  unfold spec_l1New.h3 at h
  split at h
  · obtain ⟨_, rfl, h_1⟩ := asO_bind h
    exact ⟨k, (spec_l1New.e3 K k _ k _ _).trans h_1⟩
  · cases h
theorem spec_l1New.lok (k : Nat) : LOK ti (spec_l1New.Γ k) (spec_l1New.LH k) 1 (loopsOf (bodyOf Try.f59)) :=
  (show loopsOf (bodyOf Try.f59) = [loopAt Try.f59 0] by kernel_rfl) ▸ (LOK_cons (g := ⟨1, [(0, [some 0]), (3, []), (4, [])], [(0, [some 0]), (3, [])], @spec_l1New.h3 k⟩) (by kernel_rfl) rfl (fun K vs xs r h => spec_l1New.q3 k K vs xs r h) (LOK_nil))
def spec_l1New.sig : List PSh := [.one (.ro 0)]
def spec_l1New.g (y : Int × Int) : Ret κ := ⟨.v (.ptr 1 0 0), [], [.cells 98 [.sl 0, .int .i64 y.1, .int .i64 y.2]]⟩
def spec_l1New.out (r : Ret κ) : Option (Int × Int) :=
  match r with
  | ⟨.v (.ptr 1 0 0), [], [.cells 98 [.sl 0, .int .i64 z0, .int .i64 z1]]⟩ => some (z0, z1)
  | _ => none
theorem spec_l1New.out_ok (r : Ret κ) (y : Int × Int) (h : spec_l1New.out r = some y) : r = spec_l1New.g y := by
  unfold spec_l1New.out at h
  split at h
  · obtain rfl := Option.some.inj h
    rfl
  · cases h
def spec_l1New.body (k : Nat) (vs : List AV) (bs : List (Blk κ)) : Option (Lf κ) :=
  match vs, bs with
  | [.v (.sl 0)], [qb0] => (asO 0 false qb0).bind fun a0 => some ⟨Int × Int, spec_l1New.f k a0, spec_l1New.g⟩
  | _, _ => none
def spec_l1New.C (k : Nat) : Nat → List AV → AP κ AV := contract spec_l1New.sig (spec_l1New.body k)
theorem spec_l1New.den (k : Nat) (a0 : List Int) : Code.den ti (spec_l1New.Γ k) (spec_l1New.LH k) (bodyOf Try.f59) (finK ti Try.f59.results.toList [(2, [some 0, none, none])] (flags spec_l1New.sig).length (rwI (flags spec_l1New.sig) 0) spec_l1New.out) ⟨envOf (([.v (.sl 0)]).zipIdx.map fun q => (q.2, q.1)), hpOf [.rows 0 false a0], (flags spec_l1New.sig).length⟩ = spec_l1New.f k a0 := by kernel_rfl
theorem spec_l1New.ok (k : Nat) : CSound Try.prog 59 (spec_l1New.C k) :=
  csound κ_ok mixed tok (spec_l1New.hΓ k) (LH := spec_l1New.LH k) (fn := Try.f59) (c := bodyOf Try.f59) Try.func59 rfl Try.call59 spec_l1New.sig [(2, [some 0, none, none])] (spec_l1New.body k) (by kernel_rfl) (spec_l1New.lok k) (by decide) fun vs bs lf y hl hb hy => by
    unfold spec_l1New.body at hb
    split at hb
    · obtain ⟨_, rfl, hb_1⟩ := asO_bind hb
      obtain rfl := Option.some.inj hb_1
      exact ⟨spec_l1New.out, spec_l1New.out_ok, (spec_l1New.den k _).trans hy⟩
    · cases hb
/-! ### spec_l1Byte -/
def spec_l1Byte.f (k : Nat) (a0_0 : List Int) (a0_1 : Int) (a0_2 : Int) : Option (Int × Int × Int) :=
  (bif decide (a0_1 < (a0_0.length : Int)) then (bif decide (0 ≤ a0_1) then (bif decide (a0_1 < (a0_0.length : Int)) then some ((bitop .and .i64 (w64 ((bitop .and .i64 (bitop .xor .i64 ((w64 ((w64 (a0_2 * (6364136223846793005 : Int))) + (1442695040888963407 : Int))).fdiv (2 ^ 33)) ((w64 ((w64 (a0_2 * (6364136223846793005 : Int))) + (1442695040888963407 : Int))).fdiv (2 ^ 47))) (255 : Int)) + (w64 ((rd_u8 a0_0 a0_1))))) (255 : Int)), (w64 (a0_1 + (1 : Int))), (w64 ((w64 (a0_2 * (6364136223846793005 : Int))) + (1442695040888963407 : Int)))) else none) else none) else some ((bitop .and .i64 (bitop .xor .i64 ((w64 ((w64 (a0_2 * (6364136223846793005 : Int))) + (1442695040888963407 : Int))).fdiv (2 ^ 33)) ((w64 ((w64 (a0_2 * (6364136223846793005 : Int))) + (1442695040888963407 : Int))).fdiv (2 ^ 47))) (255 : Int)), a0_1, (w64 ((w64 (a0_2 * (6364136223846793005 : Int))) + (1442695040888963407 : Int)))))
def spec_l1Byte.Γ (k : Nat) : Ct κ := assoc []
def spec_l1Byte.LH (k : Nat) : Nat → Option (LHi κ) := assoc []
theorem spec_l1Byte.hΓ (k : Nat) : ∀ f g, spec_l1Byte.Γ k f = some g → CSound Try.prog f g := G_nil
theorem spec_l1Byte.lok (k : Nat) : LOK ti (spec_l1Byte.Γ k) (spec_l1Byte.LH k) 2 (loopsOf (bodyOf Try.f91)) :=
  (show loopsOf (bodyOf Try.f91) = [] by kernel_rfl) ▸ LOK_nil
def spec_l1Byte.sig : List PSh := [.cur 98 [.ro 0, .sc, .sc]]
def spec_l1Byte.g (y : Int × Int × Int) : Ret κ := ⟨.v (.int .i64 y.1), [.cells 98 [.sl 1, .int .i64 y.2.1, .int .i64 y.2.2]], []⟩
def spec_l1Byte.out (r : Ret κ) : Option (Int × Int × Int) :=
  match r with
  | ⟨.v (.int .i64 z0), [.cells 98 [.sl 1, .int .i64 z1, .int .i64 z2]], []⟩ => some (z0, z1, z2)
  | _ => none
theorem spec_l1Byte.out_ok (r : Ret κ) (y : Int × Int × Int) (h : spec_l1Byte.out r = some y) : r = spec_l1Byte.g y := by
  unfold spec_l1Byte.out at h
  split at h
  · obtain rfl := Option.some.inj h
    rfl
  · cases h
def spec_l1Byte.body (k : Nat) (vs : List AV) (bs : List (Blk κ)) : Option (Lf κ) :=
  match vs, bs with
  | [.v (.ptr 0 0 0)], [.cells 98 [.sl 1, .int .i64 a0_1, .int .i64 a0_2], qb1] => (asO 0 false qb1).bind fun a0_0 => some ⟨Int × Int × Int, spec_l1Byte.f k a0_0 a0_1 a0_2, spec_l1Byte.g⟩
  | _, _ => none
def spec_l1Byte.C (k : Nat) : Nat → List AV → AP κ AV := contract spec_l1Byte.sig (spec_l1Byte.body k)
theorem spec_l1Byte.den (k : Nat) (a0_0 : List Int) (a0_1 : Int) (a0_2 : Int) : Code.den ti (spec_l1Byte.Γ k) (spec_l1Byte.LH k) (bodyOf Try.f91) (finK ti Try.f91.results.toList [] (flags spec_l1Byte.sig).length (rwI (flags spec_l1Byte.sig) 0) spec_l1Byte.out) ⟨envOf (([.v (.ptr 0 0 0)]).zipIdx.map fun q => (q.2, q.1)), hpOf [.cells 98 [.sl 1, .int .i64 a0_1, .int .i64 a0_2], .rows 0 false a0_0], (flags spec_l1Byte.sig).length⟩ = spec_l1Byte.f k a0_0 a0_1 a0_2 := by kernel_rfl
theorem spec_l1Byte.ok (k : Nat) : CSound Try.prog 91 (spec_l1Byte.C k) :=
  csound κ_ok mixed tok (spec_l1Byte.hΓ k) (LH := spec_l1Byte.LH k) (fn := Try.f91) (c := bodyOf Try.f91) Try.func91 rfl Try.call91 spec_l1Byte.sig [] (spec_l1Byte.body k) (by kernel_rfl) (spec_l1Byte.lok k) (by decide) fun vs bs lf y hl hb hy => by
    unfold spec_l1Byte.body at hb
    split at hb
    · obtain ⟨_, rfl, hb_1⟩ := asO_bind hb
      obtain rfl := Option.some.inj hb_1
      exact ⟨spec_l1Byte.out, spec_l1Byte.out_ok, (spec_l1Byte.den k _ _ _).trans hy⟩
    · cases hb
/-! ### spec_l1Below -/
def spec_l1Below.f (k : Nat) (a0_0 : List Int) (a0_1 : Int) (a0_2 : Int) (a1 : Int) : Option (Int × Int × Int) :=
  (bif decide (a1 ≤ (0 : Int)) then some ((0 : Int), a0_1, a0_2) else (bif decide (a1 ≤ (256 : Int)) then (spec_l1Byte.f k a0_0 a0_1 a0_2).bind fun t1 => (bif decide (a1 = 0) then none else some ((t1.1.tmod a1), t1.2.1, t1.2.2)) else (spec_l1Byte.f k a0_0 a0_1 a0_2).bind fun t2 => (spec_l1Byte.f k a0_0 t2.2.1 t2.2.2).bind fun t3 => (spec_l1Byte.f k a0_0 t3.2.1 t3.2.2).bind fun t4 => (bif decide (a1 = 0) then none else some (((w64 ((w64 ((w64 (t2.1 * (65536 : Int))) + (w64 (t3.1 * (256 : Int))))) + t4.1)).tmod a1), t4.2.1, t4.2.2))))
def spec_l1Below.Γ (k : Nat) : Ct κ := assoc [(91, spec_l1Byte.C k)]
def spec_l1Below.LH (k : Nat) : Nat → Option (LHi κ) := assoc []
theorem spec_l1Below.hΓ (k : Nat) : ∀ f g, spec_l1Below.Γ k f = some g → CSound Try.prog f g := G_cons (spec_l1Byte.ok k) G_nil
theorem spec_l1Below.lok (k : Nat) : LOK ti (spec_l1Below.Γ k) (spec_l1Below.LH k) 2 (loopsOf (bodyOf Try.f63)) :=
  (show loopsOf (bodyOf Try.f63) = [] by kernel_rfl) ▸ LOK_nil
def spec_l1Below.sig : List PSh := [.cur 98 [.ro 0, .sc, .sc], .one .sc]
def spec_l1Below.g (y : Int × Int × Int) : Ret κ := ⟨.v (.int .i64 y.1), [.cells 98 [.sl 1, .int .i64 y.2.1, .int .i64 y.2.2]], []⟩
def spec_l1Below.out (r : Ret κ) : Option (Int × Int × Int) :=
  match r with
  | ⟨.v (.int .i64 z0), [.cells 98 [.sl 1, .int .i64 z1, .int .i64 z2]], []⟩ => some (z0, z1, z2)
  | _ => none
theorem spec_l1Below.out_ok (r : Ret κ) (y : Int × Int × Int) (h : spec_l1Below.out r = some y) : r = spec_l1Below.g y := by
  unfold spec_l1Below.out at h
  split at h
  · obtain rfl := Option.some.inj h
    rfl
  · cases h
def spec_l1Below.body (k : Nat) (vs : List AV) (bs : List (Blk κ)) : Option (Lf κ) :=
  match vs, bs with
  | [.v (.ptr 0 0 0), .v (.int .i64 a1)], [.cells 98 [.sl 1, .int .i64 a0_1, .int .i64 a0_2], qb1] => (asO 0 false qb1).bind fun a0_0 => some ⟨Int × Int × Int, spec_l1Below.f k a0_0 a0_1 a0_2 a1, spec_l1Below.g⟩
  | _, _ => none
def spec_l1Below.C (k : Nat) : Nat → List AV → AP κ AV := contract spec_l1Below.sig (spec_l1Below.body k)
theorem spec_l1Below.den (k : Nat) (a0_0 : List Int) (a0_1 : Int) (a0_2 : Int) (a1 : Int) : Code.den ti (spec_l1Below.Γ k) (spec_l1Below.LH k) (bodyOf Try.f63) (finK ti Try.f63.results.toList [] (flags spec_l1Below.sig).length (rwI (flags spec_l1Below.sig) 0) spec_l1Below.out) ⟨envOf (([.v (.ptr 0 0 0), .v (.int .i64 a1)]).zipIdx.map fun q => (q.2, q.1)), hpOf [.cells 98 [.sl 1, .int .i64 a0_1, .int .i64 a0_2], .rows 0 false a0_0], (flags spec_l1Below.sig).length⟩ = spec_l1Below.f k a0_0 a0_1 a0_2 a1 := by kernel_rfl
theorem spec_l1Below.ok (k : Nat) : CSound Try.prog 63 (spec_l1Below.C k) :=
  csound κ_ok mixed tok (spec_l1Below.hΓ k) (LH := spec_l1Below.LH k) (fn := Try.f63) (c := bodyOf Try.f63) Try.func63 rfl Try.call63 spec_l1Below.sig [] (spec_l1Below.body k) (by kernel_rfl) (spec_l1Below.lok k) (by decide) fun vs bs lf y hl hb hy => by
    unfold spec_l1Below.body at hb
    split at hb
    · obtain ⟨_, rfl, hb_1⟩ := asO_bind hb
      obtain rfl := Option.some.inj hb_1
      exact ⟨spec_l1Below.out, spec_l1Below.out_ok, (spec_l1Below.den k _ _ _ _).trans hy⟩
    · cases hb
/-! ### spec_l21Op -/
def spec_l21Op.f (k : Nat) (a0_0 : List Int) (a0_1 : Int) (a0_2 : Int) : Option (Int × Int × Int × Int × Int × Int) :=
  (spec_l1Below.f k a0_0 a0_1 a0_2 (5 : Int)).bind fun t1 => (spec_l1Below.f k a0_0 t1.2.1 t1.2.2 (4 : Int)).bind fun t2 => (bif ((w64 ((1 : Int) + t1.1)) == (1 : Int)) then (spec_l1Below.f k a0_0 t2.2.1 t2.2.2 (4 : Int)).bind fun t3 => some ((w64 ((1 : Int) + t1.1)), t2.1, (w64 ((1 : Int) + t3.1)), (0 : Int), t3.2.1, t3.2.2) else (bif ((w64 ((1 : Int) + t1.1)) == (5 : Int)) then (spec_l1Below.f k a0_0 t2.2.1 t2.2.2 (4 : Int)).bind fun t4 => some ((w64 ((1 : Int) + t1.1)), t2.1, (w64 ((1 : Int) + t4.1)), (0 : Int), t4.2.1, t4.2.2) else (bif ((w64 ((1 : Int) + t1.1)) == (2 : Int)) then (spec_l1Below.f k a0_0 t2.2.1 t2.2.2 (20 : Int)).bind fun t5 => some ((w64 ((1 : Int) + t1.1)), t2.1, t5.1, (0 : Int), t5.2.1, t5.2.2) else (spec_l1Below.f k a0_0 t2.2.1 t2.2.2 (4 : Int)).bind fun t6 => (spec_l1Below.f k a0_0 t6.2.1 t6.2.2 (4 : Int)).bind fun t7 => some ((w64 ((1 : Int) + t1.1)), t2.1, t6.1, t7.1, t7.2.1, t7.2.2))))
def spec_l21Op.Γ (k : Nat) : Ct κ := assoc [(63, spec_l1Below.C k)]
def spec_l21Op.LH (k : Nat) : Nat → Option (LHi κ) := assoc []
theorem spec_l21Op.hΓ (k : Nat) : ∀ f g, spec_l21Op.Γ k f = some g → CSound Try.prog f g := G_cons (spec_l1Below.ok k) G_nil
theorem spec_l21Op.lok (k : Nat) : LOK ti (spec_l21Op.Γ k) (spec_l21Op.LH k) 2 (loopsOf (bodyOf Try.f103)) :=
  (show loopsOf (bodyOf Try.f103) = [] by kernel_rfl) ▸ LOK_nil
def spec_l21Op.sig : List PSh := [.cur 98 [.ro 0, .sc, .sc]]
def spec_l21Op.g (y : Int × Int × Int × Int × Int × Int) : Ret κ := ⟨.agg [.int .i64 y.1, .int .i64 y.2.1, .int .i64 y.2.2.1, .int .i64 y.2.2.2.1], [.cells 98 [.sl 1, .int .i64 y.2.2.2.2.1, .int .i64 y.2.2.2.2.2]], []⟩
def spec_l21Op.out (r : Ret κ) : Option (Int × Int × Int × Int × Int × Int) :=
  match r with
  | ⟨.agg [.int .i64 z0, .int .i64 z1, .int .i64 z2, .int .i64 z3], [.cells 98 [.sl 1, .int .i64 z4, .int .i64 z5]], []⟩ => some (z0, z1, z2, z3, z4, z5)
  | _ => none
theorem spec_l21Op.out_ok (r : Ret κ) (y : Int × Int × Int × Int × Int × Int) (h : spec_l21Op.out r = some y) : r = spec_l21Op.g y := by
  unfold spec_l21Op.out at h
  split at h
  · obtain rfl := Option.some.inj h
    rfl
  · cases h
def spec_l21Op.body (k : Nat) (vs : List AV) (bs : List (Blk κ)) : Option (Lf κ) :=
  match vs, bs with
  | [.v (.ptr 0 0 0)], [.cells 98 [.sl 1, .int .i64 a0_1, .int .i64 a0_2], qb1] => (asO 0 false qb1).bind fun a0_0 => some ⟨Int × Int × Int × Int × Int × Int, spec_l21Op.f k a0_0 a0_1 a0_2, spec_l21Op.g⟩
  | _, _ => none
def spec_l21Op.C (k : Nat) : Nat → List AV → AP κ AV := contract spec_l21Op.sig (spec_l21Op.body k)
theorem spec_l21Op.den (k : Nat) (a0_0 : List Int) (a0_1 : Int) (a0_2 : Int) : Code.den ti (spec_l21Op.Γ k) (spec_l21Op.LH k) (bodyOf Try.f103) (finK ti Try.f103.results.toList [] (flags spec_l21Op.sig).length (rwI (flags spec_l21Op.sig) 0) spec_l21Op.out) ⟨envOf (([.v (.ptr 0 0 0)]).zipIdx.map fun q => (q.2, q.1)), hpOf [.cells 98 [.sl 1, .int .i64 a0_1, .int .i64 a0_2], .rows 0 false a0_0], (flags spec_l21Op.sig).length⟩ = spec_l21Op.f k a0_0 a0_1 a0_2 := by kernel_rfl
theorem spec_l21Op.ok (k : Nat) : CSound Try.prog 103 (spec_l21Op.C k) :=
  csound κ_ok mixed tok (spec_l21Op.hΓ k) (LH := spec_l21Op.LH k) (fn := Try.f103) (c := bodyOf Try.f103) Try.func103 rfl Try.call103 spec_l21Op.sig [] (spec_l21Op.body k) (by kernel_rfl) (spec_l21Op.lok k) (by decide) fun vs bs lf y hl hb hy => by
    unfold spec_l21Op.body at hb
    split at hb
    · obtain ⟨_, rfl, hb_1⟩ := asO_bind hb
      obtain rfl := Option.some.inj hb_1
      exact ⟨spec_l21Op.out, spec_l21Op.out_ok, (spec_l21Op.den k _ _ _).trans hy⟩
    · cases hb
/-! ### spec_l21Ops -/
def spec_l21Ops.L3 {R : Type} (k : Nat) (xl1 : List Int) (X0 : Int → Int → List T_impl_Op → Option R) (rec : Int → Int → Int → List T_impl_Op → Option R) (x2 : Int) (xc0_1 : Int) (xc0_2 : Int) (xl2 : List T_impl_Op) : Option R :=
  (bif decide (x2 > (0 : Int)) then (spec_l21Op.f k xl1 xc0_1 xc0_2).bind fun t2 => (bif decide ((xl2.length + ([(⟨t2.1, t2.2.1, t2.2.2.1, t2.2.2.2.1⟩ : T_impl_Op)] : List T_impl_Op).length) * 32 ≤ cap48) then (let l3 : List T_impl_Op := (xl2 ++ ([(⟨t2.1, t2.2.1, t2.2.2.1, t2.2.2.2.1⟩ : T_impl_Op)] : List T_impl_Op)); (rec (w64 (x2 - (1 : Int))) t2.2.2.2.2.1 t2.2.2.2.2.2 l3)) else none) else (X0 xc0_1 xc0_2 xl2))
def spec_l21Ops.l3 {R : Type} (k : Nat) (xl1 : List Int) (X0 : Int → Int → List T_impl_Op → Option R) : Nat → Int → Int → Int → List T_impl_Op → Option R
  | 0 => fun _ _ _ _ => none
  | n + 1 => spec_l21Ops.L3 k xl1 X0 (spec_l21Ops.l3 k xl1 X0 n)
def spec_l21Ops.f (k : Nat) (a0_0 : List Int) (a0_1 : Int) (a0_2 : Int) : Option (Int × Int × List T_impl_Op) :=
  (spec_l1Below.f k a0_0 a0_1 a0_2 (10 : Int)).bind fun t1 => (spec_l21Ops.l3 k a0_0 (fun (y4 : Int) (y5 : Int) (y6 : List T_impl_Op) => some (y4, y5, y6)) k t1.1 t1.2.1 t1.2.2 ([] : List T_impl_Op))
def spec_l21Ops.h3 (k : Nat) {R : Type} (K : Ex → St κ → Option R) (vs : List AV) (bs : List (Blk κ)) : Option R :=
  match vs, bs with
  | [.v (.ptr 0 0 0), .v (.sl 2), .v (.int .i64 x2)], [.cells 98 [.sl 1, .int .i64 xc0_1, .int .i64 xc0_2], qb1, qb2] => (asO 0 false qb1).bind fun xl1 => (asO 1 true qb2).bind fun xl2 => spec_l21Ops.l3 k xl1 (fun (zc0_1 : Int) (zc0_2 : Int) (zl2 : List T_impl_Op) => K (.exit 0) (stOf [(3, [some 1])] [.v (.sl 2)] [.cells 98 [.sl 1, .int .i64 zc0_1, .int .i64 zc0_2], .rows 0 false xl1, .rows 1 true zl2])) k x2 xc0_1 xc0_2 xl2
  | _, _ => none
def spec_l21Ops.Γ (k : Nat) : Ct κ := assoc [(63, spec_l1Below.C k), (103, spec_l21Op.C k)]
def spec_l21Ops.LH (k : Nat) : Nat → Option (LHi κ) := assoc [(3, ⟨2, [(0, [some 0, none, none]), (3, [some 1]), (4, [])], [(3, [some 1])], @spec_l21Ops.h3 k⟩)]
theorem spec_l21Ops.hΓ (k : Nat) : ∀ f g, spec_l21Ops.Γ k f = some g → CSound Try.prog f g := G_cons (spec_l1Below.ok k) (G_cons (spec_l21Op.ok k) G_nil)
theorem spec_l21Ops.e3 {R : Type} (K : Ex → St κ → Option R) (k : Nat) (xl1 : List Int) : ∀ (n : Nat) (x2 : Int) (xc0_1 : Int) (xc0_2 : Int) (xl2 : List T_impl_Op), loopN 2 (Code.den ti (spec_l21Ops.Γ k) (spec_l21Ops.LH k) (loopAt Try.f87 0)) [(0, [some 0, none, none]), (3, [some 1]), (4, [])] [(3, [some 1])] K n [.v (.ptr 0 0 0), .v (.sl 2), .v (.int .i64 x2)] [.cells 98 [.sl 1, .int .i64 xc0_1, .int .i64 xc0_2], .rows 0 false xl1, .rows 1 true xl2] = spec_l21Ops.l3 k xl1 (fun (zc0_1 : Int) (zc0_2 : Int) (zl2 : List T_impl_Op) => K (.exit 0) (stOf [(3, [some 1])] [.v (.sl 2)] [.cells 98 [.sl 1, .int .i64 zc0_1, .int .i64 zc0_2], .rows 0 false xl1, .rows 1 true zl2])) n x2 xc0_1 xc0_2 xl2
  | 0, _, _, _, _ => rfl
  | n + 1, x2, xc0_1, xc0_2, xl2 => (show loopN 2 (Code.den ti (spec_l21Ops.Γ k) (spec_l21Ops.LH k) (loopAt Try.f87 0)) [(0, [some 0, none, none]), (3, [some 1]), (4, [])] [(3, [some 1])] K (n + 1) [.v (.ptr 0 0 0), .v (.sl 2), .v (.int .i64 x2)] [.cells 98 [.sl 1, .int .i64 xc0_1, .int .i64 xc0_2], .rows 0 false xl1, .rows 1 true xl2] = spec_l21Ops.L3 k xl1 (fun (zc0_1 : Int) (zc0_2 : Int) (zl2 : List T_impl_Op) => K (.exit 0) (stOf [(3, [some 1])] [.v (.sl 2)] [.cells 98 [.sl 1, .int .i64 zc0_1, .int .i64 zc0_2], .rows 0 false xl1, .rows 1 true zl2])) (fun (x2' : Int) (xc0_1' : Int) (xc0_2' : Int) (xl2' : List T_impl_Op) => loopN 2 (Code.den ti (spec_l21Ops.Γ k) (spec_l21Ops.LH k) (loopAt Try.f87 0)) [(0, [some 0, none, none]), (3, [some 1]), (4, [])] [(3, [some 1])] K n [.v (.ptr 0 0 0), .v (.sl 2), .v (.int .i64 x2')] [.cells 98 [.sl 1, .int .i64 xc0_1', .int .i64 xc0_2'], .rows 0 false xl1, .rows 1 true xl2']) x2 xc0_1 xc0_2 xl2 by kernel_rfl).trans (congrArg (fun rec => spec_l21Ops.L3 k xl1 (fun (zc0_1 : Int) (zc0_2 : Int) (zl2 : List T_impl_Op) => K (.exit 0) (stOf [(3, [some 1])] [.v (.sl 2)] [.cells 98 [.sl 1, .int .i64 zc0_1, .int .i64 zc0_2], .rows 0 false xl1, .rows 1 true zl2])) rec x2 xc0_1 xc0_2 xl2) (funext fun x2' => funext fun xc0_1' => funext fun xc0_2' => funext fun xl2' => spec_l21Ops.e3 K k xl1 n x2' xc0_1' xc0_2' xl2'))
theorem spec_l21Ops.q3 (k : Nat) {R : Type} (K : Ex → St κ → Option R) (vs : List AV) (bs : List (Blk κ)) (r : R) (h : spec_l21Ops.h3 k K vs bs = some r) : ∃ n, loopN 2 (Code.den ti (spec_l21Ops.Γ k) (spec_l21Ops.LH k) (loopAt Try.f87 0)) [(0, [some 0, none, none]), (3, [some 1]), (4, [])] [(3, [some 1])] K n vs bs = some r := by
  unfold spec_l21Ops.h3 at h
  split at h
  · obtain ⟨_, rfl, h_1⟩ := asO_bind h
    obtain ⟨_, rfl, h_2⟩ := asO_bind h_1
    exact ⟨k, (spec_l21Ops.e3 K k _ k _ _ _ _).trans h_2⟩
  · cases h
theorem spec_l21Ops.lok (k : Nat) : LOK ti (spec_l21Ops.Γ k) (spec_l21Ops.LH k) 2 (loopsOf (bodyOf Try.f87)) :=
  (show loopsOf (bodyOf Try.f87) = [loopAt Try.f87 0] by kernel_rfl) ▸ (LOK_cons (g := ⟨2, [(0, [some 0, none, none]), (3, [some 1]), (4, [])], [(3, [some 1])], @spec_l21Ops.h3 k⟩) (by kernel_rfl) rfl (fun K vs xs r h => spec_l21Ops.q3 k K vs xs r h) (LOK_nil))
def spec_l21Ops.sig : List PSh := [.cur 98 [.ro 0, .sc, .sc]]
def spec_l21Ops.g (y : Int × Int × List T_impl_Op) : Ret κ := ⟨.v (.sl 2), [.cells 98 [.sl 1, .int .i64 y.1, .int .i64 y.2.1]], [.rows 1 true y.2.2]⟩
def spec_l21Ops.out (r : Ret κ) : Option (Int × Int × List T_impl_Op) :=
  match r with
  | ⟨.v (.sl 2), [.cells 98 [.sl 1, .int .i64 z0, .int .i64 z1]], [q2]⟩ => (asO 1 true q2).bind fun z2 => some (z0, z1, z2)
  | _ => none
theorem spec_l21Ops.out_ok (r : Ret κ) (y : Int × Int × List T_impl_Op) (h : spec_l21Ops.out r = some y) : r = spec_l21Ops.g y := by
  unfold spec_l21Ops.out at h
  split at h
  · obtain ⟨_, rfl, h_1⟩ := asO_bind h
    obtain rfl := Option.some.inj h_1
    rfl
  · cases h
def spec_l21Ops.body (k : Nat) (vs : List AV) (bs : List (Blk κ)) : Option (Lf κ) :=
  match vs, bs with
  | [.v (.ptr 0 0 0)], [.cells 98 [.sl 1, .int .i64 a0_1, .int .i64 a0_2], qb1] => (asO 0 false qb1).bind fun a0_0 => some ⟨Int × Int × List T_impl_Op, spec_l21Ops.f k a0_0 a0_1 a0_2, spec_l21Ops.g⟩
  | _, _ => none
def spec_l21Ops.C (k : Nat) : Nat → List AV → AP κ AV := contract spec_l21Ops.sig (spec_l21Ops.body k)
theorem spec_l21Ops.den (k : Nat) (a0_0 : List Int) (a0_1 : Int) (a0_2 : Int) : Code.den ti (spec_l21Ops.Γ k) (spec_l21Ops.LH k) (bodyOf Try.f87) (finK ti Try.f87.results.toList [(2, [some 1])] (flags spec_l21Ops.sig).length (rwI (flags spec_l21Ops.sig) 0) spec_l21Ops.out) ⟨envOf (([.v (.ptr 0 0 0)]).zipIdx.map fun q => (q.2, q.1)), hpOf [.cells 98 [.sl 1, .int .i64 a0_1, .int .i64 a0_2], .rows 0 false a0_0], (flags spec_l21Ops.sig).length⟩ = spec_l21Ops.f k a0_0 a0_1 a0_2 := by kernel_rfl
theorem spec_l21Ops.ok (k : Nat) : CSound Try.prog 87 (spec_l21Ops.C k) :=
  csound κ_ok mixed tok (spec_l21Ops.hΓ k) (LH := spec_l21Ops.LH k) (fn := Try.f87) (c := bodyOf Try.f87) Try.func87 rfl Try.call87 spec_l21Ops.sig [(2, [some 1])] (spec_l21Ops.body k) (by kernel_rfl) (spec_l21Ops.lok k) (by decide) fun vs bs lf y hl hb hy => by
    unfold spec_l21Ops.body at hb
    split at hb
    · obtain ⟨_, rfl, hb_1⟩ := asO_bind hb
      obtain rfl := Option.some.inj hb_1
      exact ⟨spec_l21Ops.out, spec_l21Ops.out_ok, (spec_l21Ops.den k _ _ _).trans hy⟩
    · cases hb
/-! ### spec_l1Int -/
def spec_l1Int.f (k : Nat) (a0_0 : List Int) (a0_1 : Int) (a0_2 : Int) (a1 : List Int) : Option (Int × Int × Int) :=
  (spec_l1Below.f k a0_0 a0_1 a0_2 (a1.length : Int)).bind fun t1 => (bif decide (0 ≤ t1.1) then (bif decide (t1.1 < (a1.length : Int)) then some ((rd_i64 a1 t1.1), t1.2.1, t1.2.2) else none) else none)
def spec_l1Int.Γ (k : Nat) : Ct κ := assoc [(63, spec_l1Below.C k)]
def spec_l1Int.LH (k : Nat) : Nat → Option (LHi κ) := assoc []
theorem spec_l1Int.hΓ (k : Nat) : ∀ f g, spec_l1Int.Γ k f = some g → CSound Try.prog f g := G_cons (spec_l1Below.ok k) G_nil
theorem spec_l1Int.lok (k : Nat) : LOK ti (spec_l1Int.Γ k) (spec_l1Int.LH k) 3 (loopsOf (bodyOf Try.f88)) :=
  (show loopsOf (bodyOf Try.f88) = [] by kernel_rfl) ▸ LOK_nil
def spec_l1Int.sig : List PSh := [.cur 98 [.ro 0, .sc, .sc], .one (.ro 2)]
def spec_l1Int.g (y : Int × Int × Int) : Ret κ := ⟨.v (.int .i64 y.1), [.cells 98 [.sl 1, .int .i64 y.2.1, .int .i64 y.2.2]], []⟩
def spec_l1Int.out (r : Ret κ) : Option (Int × Int × Int) :=
  match r with
  | ⟨.v (.int .i64 z0), [.cells 98 [.sl 1, .int .i64 z1, .int .i64 z2]], []⟩ => some (z0, z1, z2)
  | _ => none
theorem spec_l1Int.out_ok (r : Ret κ) (y : Int × Int × Int) (h : spec_l1Int.out r = some y) : r = spec_l1Int.g y := by
  unfold spec_l1Int.out at h
  split at h
  · obtain rfl := Option.some.inj h
    rfl
  · cases h
def spec_l1Int.body (k : Nat) (vs : List AV) (bs : List (Blk κ)) : Option (Lf κ) :=
  match vs, bs with
  | [.v (.ptr 0 0 0), .v (.sl 2)], [.cells 98 [.sl 1, .int .i64 a0_1, .int .i64 a0_2], qb1, qb2] => (asO 0 false qb1).bind fun a0_0 => (asO 2 false qb2).bind fun a1 => some ⟨Int × Int × Int, spec_l1Int.f k a0_0 a0_1 a0_2 a1, spec_l1Int.g⟩
  | _, _ => none
def spec_l1Int.C (k : Nat) : Nat → List AV → AP κ AV := contract spec_l1Int.sig (spec_l1Int.body k)
theorem spec_l1Int.den (k : Nat) (a0_0 : List Int) (a0_1 : Int) (a0_2 : Int) (a1 : List Int) : Code.den ti (spec_l1Int.Γ k) (spec_l1Int.LH k) (bodyOf Try.f88) (finK ti Try.f88.results.toList [] (flags spec_l1Int.sig).length (rwI (flags spec_l1Int.sig) 0) spec_l1Int.out) ⟨envOf (([.v (.ptr 0 0 0), .v (.sl 2)]).zipIdx.map fun q => (q.2, q.1)), hpOf [.cells 98 [.sl 1, .int .i64 a0_1, .int .i64 a0_2], .rows 0 false a0_0, .rows 2 false a1], (flags spec_l1Int.sig).length⟩ = spec_l1Int.f k a0_0 a0_1 a0_2 a1 := by kernel_rfl
theorem spec_l1Int.ok (k : Nat) : CSound Try.prog 88 (spec_l1Int.C k) :=
  csound κ_ok mixed tok (spec_l1Int.hΓ k) (LH := spec_l1Int.LH k) (fn := Try.f88) (c := bodyOf Try.f88) Try.func88 rfl Try.call88 spec_l1Int.sig [] (spec_l1Int.body k) (by kernel_rfl) (spec_l1Int.lok k) (by decide) fun vs bs lf y hl hb hy => by
    unfold spec_l1Int.body at hb
    split at hb
    · obtain ⟨_, rfl, hb_1⟩ := asO_bind hb
      obtain ⟨_, rfl, hb_2⟩ := asO_bind hb_1
      obtain rfl := Option.some.inj hb_2
      exact ⟨spec_l1Int.out, spec_l1Int.out_ok, (spec_l1Int.den k _ _ _ _).trans hy⟩
    · cases hb
/-! ### spec_l9Raw -/
def spec_l9Raw.f (k : Nat) (a0_0 : List Int) (a0_1 : Int) (a0_2 : Int) : Option (Int × Int × Int) :=
  (spec_l1Int.f k a0_0 a0_1 a0_2 ([(-2 : Int), (-1 : Int), (0 : Int), (9 : Int), (10 : Int), (9223372036854775807 : Int), (-9223372036854775808 : Int)] : List Int)).bind fun t1 => some (t1.1, t1.2.1, t1.2.2)
def spec_l9Raw.Γ (k : Nat) : Ct κ := assoc [(88, spec_l1Int.C k)]
def spec_l9Raw.LH (k : Nat) : Nat → Option (LHi κ) := assoc []
theorem spec_l9Raw.hΓ (k : Nat) : ∀ f g, spec_l9Raw.Γ k f = some g → CSound Try.prog f g := G_cons (spec_l1Int.ok k) G_nil
theorem spec_l9Raw.lok (k : Nat) : LOK ti (spec_l9Raw.Γ k) (spec_l9Raw.LH k) 2 (loopsOf (bodyOf Try.f89)) :=
  (show loopsOf (bodyOf Try.f89) = [] by kernel_rfl) ▸ LOK_nil
def spec_l9Raw.sig : List PSh := [.cur 98 [.ro 0, .sc, .sc]]
def spec_l9Raw.g (y : Int × Int × Int) : Ret κ := ⟨.v (.int .i64 y.1), [.cells 98 [.sl 1, .int .i64 y.2.1, .int .i64 y.2.2]], []⟩
def spec_l9Raw.out (r : Ret κ) : Option (Int × Int × Int) :=
  match r with
  | ⟨.v (.int .i64 z0), [.cells 98 [.sl 1, .int .i64 z1, .int .i64 z2]], []⟩ => some (z0, z1, z2)
  | _ => none
theorem spec_l9Raw.out_ok (r : Ret κ) (y : Int × Int × Int) (h : spec_l9Raw.out r = some y) : r = spec_l9Raw.g y := by
  unfold spec_l9Raw.out at h
  split at h
  · obtain rfl := Option.some.inj h
    rfl
  · cases h
def spec_l9Raw.body (k : Nat) (vs : List AV) (bs : List (Blk κ)) : Option (Lf κ) :=
  match vs, bs with
  | [.v (.ptr 0 0 0)], [.cells 98 [.sl 1, .int .i64 a0_1, .int .i64 a0_2], qb1] => (asO 0 false qb1).bind fun a0_0 => some ⟨Int × Int × Int, spec_l9Raw.f k a0_0 a0_1 a0_2, spec_l9Raw.g⟩
  | _, _ => none
def spec_l9Raw.C (k : Nat) : Nat → List AV → AP κ AV := contract spec_l9Raw.sig (spec_l9Raw.body k)
theorem spec_l9Raw.den (k : Nat) (a0_0 : List Int) (a0_1 : Int) (a0_2 : Int) : Code.den ti (spec_l9Raw.Γ k) (spec_l9Raw.LH k) (bodyOf Try.f89) (finK ti Try.f89.results.toList [] (flags spec_l9Raw.sig).length (rwI (flags spec_l9Raw.sig) 0) spec_l9Raw.out) ⟨envOf (([.v (.ptr 0 0 0)]).zipIdx.map fun q => (q.2, q.1)), hpOf [.cells 98 [.sl 1, .int .i64 a0_1, .int .i64 a0_2], .rows 0 false a0_0], (flags spec_l9Raw.sig).length⟩ = spec_l9Raw.f k a0_0 a0_1 a0_2 := by kernel_rfl
theorem spec_l9Raw.ok (k : Nat) : CSound Try.prog 89 (spec_l9Raw.C k) :=
  csound κ_ok mixed tok (spec_l9Raw.hΓ k) (LH := spec_l9Raw.LH k) (fn := Try.f89) (c := bodyOf Try.f89) Try.func89 rfl Try.call89 spec_l9Raw.sig [] (spec_l9Raw.body k) (by kernel_rfl) (spec_l9Raw.lok k) (by decide) fun vs bs lf y hl hb hy => by
    unfold spec_l9Raw.body at hb
    split at hb
    · obtain ⟨_, rfl, hb_1⟩ := asO_bind hb
      obtain rfl := Option.some.inj hb_1
      exact ⟨spec_l9Raw.out, spec_l9Raw.out_ok, (spec_l9Raw.den k _ _ _).trans hy⟩
    · cases hb
/-! ### spec_l21Any -/
def spec_l21Any.L15 {R : Type} (k : Nat) (xc0_1 : Int) (xc0_2 : Int) (xl1 : List Int) (X0 : List T_impl_Op → Option R) (rec : List T_impl_Op → Option R) (xl2 : List T_impl_Op) : Option R :=
  (bif decide ((xl2.length : Int) < (17 : Int)) then (bif decide ((xl2.length + ([(⟨(2 : Int), (0 : Int), (0 : Int), (0 : Int)⟩ : T_impl_Op)] : List T_impl_Op).length) * 32 ≤ cap48) then (let l12 : List T_impl_Op := (xl2 ++ ([(⟨(2 : Int), (0 : Int), (0 : Int), (0 : Int)⟩ : T_impl_Op)] : List T_impl_Op)); (rec l12)) else none) else (X0 xl2))
def spec_l21Any.l15 {R : Type} (k : Nat) (xc0_1 : Int) (xc0_2 : Int) (xl1 : List Int) (X0 : List T_impl_Op → Option R) : Nat → List T_impl_Op → Option R
  | 0 => fun _ => none
  | n + 1 => spec_l21Any.L15 k xc0_1 xc0_2 xl1 X0 (spec_l21Any.l15 k xc0_1 xc0_2 xl1 X0 n)
def spec_l21Any.f (k : Nat) (a0_0 : List Int) (a0_1 : Int) (a0_2 : Int) : Option (Int × Int × List T_impl_Op) :=
  (spec_l21Ops.f k a0_0 a0_1 a0_2).bind fun t1 => (bif ((t1.2.2.length : Int) == (0 : Int)) then some (t1.1, t1.2.1, t1.2.2) else (spec_l1Below.f k a0_0 t1.1 t1.2.1 (t1.2.2.length : Int)).bind fun t2 => (spec_l1Below.f k a0_0 t2.2.1 t2.2.2 (12 : Int)).bind fun t3 => (bif (t3.1 == (0 : Int)) then (spec_l1Int.f k a0_0 t3.2.1 t3.2.2 ([(0 : Int), (6 : Int), (5 : Int)] : List Int)).bind fun t4 => (bif decide (0 ≤ t2.1) then (bif decide (t2.1 < (t1.2.2.length : Int)) then (let l5 : List T_impl_Op := (t1.2.2.set (t2.1).toNat (⟨t4.1, (rd_impl_Op t1.2.2 t2.1).f1, (rd_impl_Op t1.2.2 t2.1).f2, (rd_impl_Op t1.2.2 t2.1).f3⟩ : T_impl_Op)); some (t4.2.1, t4.2.2, l5)) else none) else none) else (bif (t3.1 == (1 : Int)) then (spec_l1Int.f k a0_0 t3.2.1 t3.2.2 ([(-1 : Int), (5 : Int), (6 : Int)] : List Int)).bind fun t6 => (bif decide (0 ≤ t2.1) then (bif decide (t2.1 < (t1.2.2.length : Int)) then (let l7 : List T_impl_Op := (t1.2.2.set (t2.1).toNat (⟨(rd_impl_Op t1.2.2 t2.1).f0, t6.1, (rd_impl_Op t1.2.2 t2.1).f2, (rd_impl_Op t1.2.2 t2.1).f3⟩ : T_impl_Op)); some (t6.2.1, t6.2.2, l7)) else none) else none) else (bif (t3.1 == (2 : Int)) then (spec_l9Raw.f k a0_0 t3.2.1 t3.2.2).bind fun t8 => (bif decide (0 ≤ t2.1) then (bif decide (t2.1 < (t1.2.2.length : Int)) then (let l9 : List T_impl_Op := (t1.2.2.set (t2.1).toNat (⟨(rd_impl_Op t1.2.2 t2.1).f0, (rd_impl_Op t1.2.2 t2.1).f1, t8.1, (rd_impl_Op t1.2.2 t2.1).f3⟩ : T_impl_Op)); some (t8.2.1, t8.2.2, l9)) else none) else none) else (bif (t3.1 == (3 : Int)) then (spec_l1Int.f k a0_0 t3.2.1 t3.2.2 ([(-1 : Int), (1 : Int), (6 : Int)] : List Int)).bind fun t10 => (bif decide (0 ≤ t2.1) then (bif decide (t2.1 < (t1.2.2.length : Int)) then (let l11 : List T_impl_Op := (t1.2.2.set (t2.1).toNat (⟨(rd_impl_Op t1.2.2 t2.1).f0, (rd_impl_Op t1.2.2 t2.1).f1, (rd_impl_Op t1.2.2 t2.1).f2, t10.1⟩ : T_impl_Op)); some (t10.2.1, t10.2.2, l11)) else none) else none) else (bif (t3.1 == (4 : Int)) then (spec_l21Any.l15 k t3.2.1 t3.2.2 a0_0 (fun (y13 : List T_impl_Op) => some (t3.2.1, t3.2.2, y13)) k t1.2.2) else some (t3.2.1, t3.2.2, t1.2.2)))))))
def spec_l21Any.h15 (k : Nat) {R : Type} (K : Ex → St κ → Option R) (vs : List AV) (bs : List (Blk κ)) : Option R :=
  match vs, bs with
  | [.v (.sl 2)], [.cells 98 [.sl 1, .int .i64 xc0_1, .int .i64 xc0_2], qb1, qb2] => (asO 0 false qb1).bind fun xl1 => (asO 1 true qb2).bind fun xl2 => spec_l21Any.l15 k xc0_1 xc0_2 xl1 (fun (zl2 : List T_impl_Op) => K (.exit 1) (stOf [(3, [some 1])] [.v (.sl 2)] [.cells 98 [.sl 1, .int .i64 xc0_1, .int .i64 xc0_2], .rows 0 false xl1, .rows 1 true zl2])) k xl2
  | _, _ => none
def spec_l21Any.Γ (k : Nat) : Ct κ := assoc [(87, spec_l21Ops.C k), (63, spec_l1Below.C k), (88, spec_l1Int.C k), (89, spec_l9Raw.C k)]
def spec_l21Any.LH (k : Nat) : Nat → Option (LHi κ) := assoc [(15, ⟨2, [(3, [some 1])], [(3, [some 1])], @spec_l21Any.h15 k⟩)]
theorem spec_l21Any.hΓ (k : Nat) : ∀ f g, spec_l21Any.Γ k f = some g → CSound Try.prog f g := G_cons (spec_l21Ops.ok k) (G_cons (spec_l1Below.ok k) (G_cons (spec_l1Int.ok k) (G_cons (spec_l9Raw.ok k) G_nil)))
theorem spec_l21Any.e15 {R : Type} (K : Ex → St κ → Option R) (k : Nat) (xc0_1 : Int) (xc0_2 : Int) (xl1 : List Int) : ∀ (n : Nat) (xl2 : List T_impl_Op), loopN 2 (Code.den ti (spec_l21Any.Γ k) (spec_l21Any.LH k) (loopAt Try.f60 0)) [(3, [some 1])] [(3, [some 1])] K n [.v (.sl 2)] [.cells 98 [.sl 1, .int .i64 xc0_1, .int .i64 xc0_2], .rows 0 false xl1, .rows 1 true xl2] = spec_l21Any.l15 k xc0_1 xc0_2 xl1 (fun (zl2 : List T_impl_Op) => K (.exit 1) (stOf [(3, [some 1])] [.v (.sl 2)] [.cells 98 [.sl 1, .int .i64 xc0_1, .int .i64 xc0_2], .rows 0 false xl1, .rows 1 true zl2])) n xl2
  | 0, _ => rfl
  | n + 1, xl2 => (show loopN 2 (Code.den ti (spec_l21Any.Γ k) (spec_l21Any.LH k) (loopAt Try.f60 0)) [(3, [some 1])] [(3, [some 1])] K (n + 1) [.v (.sl 2)] [.cells 98 [.sl 1, .int .i64 xc0_1, .int .i64 xc0_2], .rows 0 false xl1, .rows 1 true xl2] = spec_l21Any.L15 k xc0_1 xc0_2 xl1 (fun (zl2 : List T_impl_Op) => K (.exit 1) (stOf [(3, [some 1])] [.v (.sl 2)] [.cells 98 [.sl 1, .int .i64 xc0_1, .int .i64 xc0_2], .rows 0 false xl1, .rows 1 true zl2])) (fun (xl2' : List T_impl_Op) => loopN 2 (Code.den ti (spec_l21Any.Γ k) (spec_l21Any.LH k) (loopAt Try.f60 0)) [(3, [some 1])] [(3, [some 1])] K n [.v (.sl 2)] [.cells 98 [.sl 1, .int .i64 xc0_1, .int .i64 xc0_2], .rows 0 false xl1, .rows 1 true xl2']) xl2 by kernel_rfl).trans (congrArg (fun rec => spec_l21Any.L15 k xc0_1 xc0_2 xl1 (fun (zl2 : List T_impl_Op) => K (.exit 1) (stOf [(3, [some 1])] [.v (.sl 2)] [.cells 98 [.sl 1, .int .i64 xc0_1, .int .i64 xc0_2], .rows 0 false xl1, .rows 1 true zl2])) rec xl2) (funext fun xl2' => spec_l21Any.e15 K k xc0_1 xc0_2 xl1 n xl2'))
theorem spec_l21Any.q15 (k : Nat) {R : Type} (K : Ex → St κ → Option R) (vs : List AV) (bs : List (Blk κ)) (r : R) (h : spec_l21Any.h15 k K vs bs = some r) : ∃ n, loopN 2 (Code.den ti (spec_l21Any.Γ k) (spec_l21Any.LH k) (loopAt Try.f60 0)) [(3, [some 1])] [(3, [some 1])] K n vs bs = some r := by
  unfold spec_l21Any.h15 at h
  split at h
  · obtain ⟨_, rfl, h_1⟩ := asO_bind h
    obtain ⟨_, rfl, h_2⟩ := asO_bind h_1
    exact ⟨k, (spec_l21Any.e15 K k _ _ _ k _).trans h_2⟩
  · cases h
theorem spec_l21Any.lok (k : Nat) : LOK ti (spec_l21Any.Γ k) (spec_l21Any.LH k) 2 (loopsOf (bodyOf Try.f60)) :=
  (show loopsOf (bodyOf Try.f60) = [loopAt Try.f60 0] by kernel_rfl) ▸ (LOK_cons (g := ⟨2, [(3, [some 1])], [(3, [some 1])], @spec_l21Any.h15 k⟩) (by kernel_rfl) rfl (fun K vs xs r h => spec_l21Any.q15 k K vs xs r h) (LOK_nil))
def spec_l21Any.sig : List PSh := [.cur 98 [.ro 0, .sc, .sc]]
def spec_l21Any.g (y : Int × Int × List T_impl_Op) : Ret κ := ⟨.v (.sl 2), [.cells 98 [.sl 1, .int .i64 y.1, .int .i64 y.2.1]], [.rows 1 true y.2.2]⟩
def spec_l21Any.out (r : Ret κ) : Option (Int × Int × List T_impl_Op) :=
  match r with
  | ⟨.v (.sl 2), [.cells 98 [.sl 1, .int .i64 z0, .int .i64 z1]], [q2]⟩ => (asO 1 true q2).bind fun z2 => some (z0, z1, z2)
  | _ => none
theorem spec_l21Any.out_ok (r : Ret κ) (y : Int × Int × List T_impl_Op) (h : spec_l21Any.out r = some y) : r = spec_l21Any.g y := by
  unfold spec_l21Any.out at h
  split at h
  · obtain ⟨_, rfl, h_1⟩ := asO_bind h
    obtain rfl := Option.some.inj h_1
    rfl
  · cases h
def spec_l21Any.body (k : Nat) (vs : List AV) (bs : List (Blk κ)) : Option (Lf κ) :=
  match vs, bs with
  | [.v (.ptr 0 0 0)], [.cells 98 [.sl 1, .int .i64 a0_1, .int .i64 a0_2], qb1] => (asO 0 false qb1).bind fun a0_0 => some ⟨Int × Int × List T_impl_Op, spec_l21Any.f k a0_0 a0_1 a0_2, spec_l21Any.g⟩
  | _, _ => none
def spec_l21Any.C (k : Nat) : Nat → List AV → AP κ AV := contract spec_l21Any.sig (spec_l21Any.body k)
theorem spec_l21Any.den (k : Nat) (a0_0 : List Int) (a0_1 : Int) (a0_2 : Int) : Code.den ti (spec_l21Any.Γ k) (spec_l21Any.LH k) (bodyOf Try.f60) (finK ti Try.f60.results.toList [(2, [some 1])] (flags spec_l21Any.sig).length (rwI (flags spec_l21Any.sig) 0) spec_l21Any.out) ⟨envOf (([.v (.ptr 0 0 0)]).zipIdx.map fun q => (q.2, q.1)), hpOf [.cells 98 [.sl 1, .int .i64 a0_1, .int .i64 a0_2], .rows 0 false a0_0], (flags spec_l21Any.sig).length⟩ = spec_l21Any.f k a0_0 a0_1 a0_2 := by kernel_rfl
theorem spec_l21Any.ok (k : Nat) : CSound Try.prog 60 (spec_l21Any.C k) :=
  csound κ_ok mixed tok (spec_l21Any.hΓ k) (LH := spec_l21Any.LH k) (fn := Try.f60) (c := bodyOf Try.f60) Try.func60 rfl Try.call60 spec_l21Any.sig [(2, [some 1])] (spec_l21Any.body k) (by kernel_rfl) (spec_l21Any.lok k) (by decide) fun vs bs lf y hl hb hy => by
    unfold spec_l21Any.body at hb
    split at hb
    · obtain ⟨_, rfl, hb_1⟩ := asO_bind hb
      obtain rfl := Option.some.inj hb_1
      exact ⟨spec_l21Any.out, spec_l21Any.out_ok, (spec_l21Any.den k _ _ _).trans hy⟩
    · cases hb
/-! ### spec_l21Values -/
def spec_l21Values.L3 {R : Type} (k : Nat) (xl1 : List Int) (X0 : Int → Int → List Int → Option R) (rec : Int → Int → Int → List Int → Option R) (x2 : Int) (xc0_1 : Int) (xc0_2 : Int) (xl2 : List Int) : Option R :=
  (bif decide (x2 > (0 : Int)) then (spec_l1Below.f k xl1 xc0_1 xc0_2 (50 : Int)).bind fun t2 => (spec_l1Int.f k xl1 t2.2.1 t2.2.2 ([(1 : Int), (2 : Int), (5 : Int), (8 : Int), (999 : Int), (1000 : Int), (-1 : Int), t2.1] : List Int)).bind fun t3 => (bif decide ((xl2.length + ([t3.1] : List Int).length) * 8 ≤ cap48) then (rec (w64 (x2 - (1 : Int))) t3.2.1 t3.2.2 (xl2 ++ ([t3.1] : List Int))) else none) else (X0 xc0_1 xc0_2 xl2))
def spec_l21Values.l3 {R : Type} (k : Nat) (xl1 : List Int) (X0 : Int → Int → List Int → Option R) : Nat → Int → Int → Int → List Int → Option R
  | 0 => fun _ _ _ _ => none
  | n + 1 => spec_l21Values.L3 k xl1 X0 (spec_l21Values.l3 k xl1 X0 n)
def spec_l21Values.f (k : Nat) (a0_0 : List Int) (a0_1 : Int) (a0_2 : Int) : Option (Int × Int × List Int) :=
  (spec_l1Below.f k a0_0 a0_1 a0_2 (6 : Int)).bind fun t1 => (spec_l21Values.l3 k a0_0 (fun (y4 : Int) (y5 : Int) (y6 : List Int) => some (y4, y5, y6)) k t1.1 t1.2.1 t1.2.2 ([] : List Int))
def spec_l21Values.h3 (k : Nat) {R : Type} (K : Ex → St κ → Option R) (vs : List AV) (bs : List (Blk κ)) : Option R :=
  match vs, bs with
  | [.v (.ptr 0 0 0), .v (.sl 2), .v (.int .i64 x2)], [.cells 98 [.sl 1, .int .i64 xc0_1, .int .i64 xc0_2], qb1, qb2] => (asO 0 false qb1).bind fun xl1 => (asO 2 true qb2).bind fun xl2 => spec_l21Values.l3 k xl1 (fun (zc0_1 : Int) (zc0_2 : Int) (zl2 : List Int) => K (.exit 0) (stOf [(3, [some 2])] [.v (.sl 2)] [.cells 98 [.sl 1, .int .i64 zc0_1, .int .i64 zc0_2], .rows 0 false xl1, .rows 2 true zl2])) k x2 xc0_1 xc0_2 xl2
  | _, _ => none
def spec_l21Values.Γ (k : Nat) : Ct κ := assoc [(63, spec_l1Below.C k), (88, spec_l1Int.C k)]
def spec_l21Values.LH (k : Nat) : Nat → Option (LHi κ) := assoc [(3, ⟨2, [(0, [some 0, none, none]), (3, [some 2]), (4, [])], [(3, [some 2])], @spec_l21Values.h3 k⟩)]
theorem spec_l21Values.hΓ (k : Nat) : ∀ f g, spec_l21Values.Γ k f = some g → CSound Try.prog f g := G_cons (spec_l1Below.ok k) (G_cons (spec_l1Int.ok k) G_nil)
theorem spec_l21Values.e3 {R : Type} (K : Ex → St κ → Option R) (k : Nat) (xl1 : List Int) : ∀ (n : Nat) (x2 : Int) (xc0_1 : Int) (xc0_2 : Int) (xl2 : List Int), loopN 2 (Code.den ti (spec_l21Values.Γ k) (spec_l21Values.LH k) (loopAt Try.f61 0)) [(0, [some 0, none, none]), (3, [some 2]), (4, [])] [(3, [some 2])] K n [.v (.ptr 0 0 0), .v (.sl 2), .v (.int .i64 x2)] [.cells 98 [.sl 1, .int .i64 xc0_1, .int .i64 xc0_2], .rows 0 false xl1, .rows 2 true xl2] = spec_l21Values.l3 k xl1 (fun (zc0_1 : Int) (zc0_2 : Int) (zl2 : List Int) => K (.exit 0) (stOf [(3, [some 2])] [.v (.sl 2)] [.cells 98 [.sl 1, .int .i64 zc0_1, .int .i64 zc0_2], .rows 0 false xl1, .rows 2 true zl2])) n x2 xc0_1 xc0_2 xl2
  | 0, _, _, _, _ => rfl
  | n + 1, x2, xc0_1, xc0_2, xl2 => (show loopN 2 (Code.den ti (spec_l21Values.Γ k) (spec_l21Values.LH k) (loopAt Try.f61 0)) [(0, [some 0, none, none]), (3, [some 2]), (4, [])] [(3, [some 2])] K (n + 1) [.v (.ptr 0 0 0), .v (.sl 2), .v (.int .i64 x2)] [.cells 98 [.sl 1, .int .i64 xc0_1, .int .i64 xc0_2], .rows 0 false xl1, .rows 2 true xl2] = spec_l21Values.L3 k xl1 (fun (zc0_1 : Int) (zc0_2 : Int) (zl2 : List Int) => K (.exit 0) (stOf [(3, [some 2])] [.v (.sl 2)] [.cells 98 [.sl 1, .int .i64 zc0_1, .int .i64 zc0_2], .rows 0 false xl1, .rows 2 true zl2])) (fun (x2' : Int) (xc0_1' : Int) (xc0_2' : Int) (xl2' : List Int) => loopN 2 (Code.den ti (spec_l21Values.Γ k) (spec_l21Values.LH k) (loopAt Try.f61 0)) [(0, [some 0, none, none]), (3, [some 2]), (4, [])] [(3, [some 2])] K n [.v (.ptr 0 0 0), .v (.sl 2), .v (.int .i64 x2')] [.cells 98 [.sl 1, .int .i64 xc0_1', .int .i64 xc0_2'], .rows 0 false xl1, .rows 2 true xl2']) x2 xc0_1 xc0_2 xl2 by kernel_rfl).trans (congrArg (fun rec => spec_l21Values.L3 k xl1 (fun (zc0_1 : Int) (zc0_2 : Int) (zl2 : List Int) => K (.exit 0) (stOf [(3, [some 2])] [.v (.sl 2)] [.cells 98 [.sl 1, .int .i64 zc0_1, .int .i64 zc0_2], .rows 0 false xl1, .rows 2 true zl2])) rec x2 xc0_1 xc0_2 xl2) (funext fun x2' => funext fun xc0_1' => funext fun xc0_2' => funext fun xl2' => spec_l21Values.e3 K k xl1 n x2' xc0_1' xc0_2' xl2'))
theorem spec_l21Values.q3 (k : Nat) {R : Type} (K : Ex → St κ → Option R) (vs : List AV) (bs : List (Blk κ)) (r : R) (h : spec_l21Values.h3 k K vs bs = some r) : ∃ n, loopN 2 (Code.den ti (spec_l21Values.Γ k) (spec_l21Values.LH k) (loopAt Try.f61 0)) [(0, [some 0, none, none]), (3, [some 2]), (4, [])] [(3, [some 2])] K n vs bs = some r := by
  unfold spec_l21Values.h3 at h
  split at h
  · obtain ⟨_, rfl, h_1⟩ := asO_bind h
    obtain ⟨_, rfl, h_2⟩ := asO_bind h_1
    exact ⟨k, (spec_l21Values.e3 K k _ k _ _ _ _).trans h_2⟩
  · cases h
theorem spec_l21Values.lok (k : Nat) : LOK ti (spec_l21Values.Γ k) (spec_l21Values.LH k) 2 (loopsOf (bodyOf Try.f61)) :=
  (show loopsOf (bodyOf Try.f61) = [loopAt Try.f61 0] by kernel_rfl) ▸ (LOK_cons (g := ⟨2, [(0, [some 0, none, none]), (3, [some 2]), (4, [])], [(3, [some 2])], @spec_l21Values.h3 k⟩) (by kernel_rfl) rfl (fun K vs xs r h => spec_l21Values.q3 k K vs xs r h) (LOK_nil))
def spec_l21Values.sig : List PSh := [.cur 98 [.ro 0, .sc, .sc]]
def spec_l21Values.g (y : Int × Int × List Int) : Ret κ := ⟨.v (.sl 2), [.cells 98 [.sl 1, .int .i64 y.1, .int .i64 y.2.1]], [.rows 2 true y.2.2]⟩
def spec_l21Values.out (r : Ret κ) : Option (Int × Int × List Int) :=
  match r with
  | ⟨.v (.sl 2), [.cells 98 [.sl 1, .int .i64 z0, .int .i64 z1]], [q2]⟩ => (asO 2 true q2).bind fun z2 => some (z0, z1, z2)
  | _ => none
theorem spec_l21Values.out_ok (r : Ret κ) (y : Int × Int × List Int) (h : spec_l21Values.out r = some y) : r = spec_l21Values.g y := by
  unfold spec_l21Values.out at h
  split at h
  · obtain ⟨_, rfl, h_1⟩ := asO_bind h
    obtain rfl := Option.some.inj h_1
    rfl
  · cases h
def spec_l21Values.body (k : Nat) (vs : List AV) (bs : List (Blk κ)) : Option (Lf κ) :=
  match vs, bs with
  | [.v (.ptr 0 0 0)], [.cells 98 [.sl 1, .int .i64 a0_1, .int .i64 a0_2], qb1] => (asO 0 false qb1).bind fun a0_0 => some ⟨Int × Int × List Int, spec_l21Values.f k a0_0 a0_1 a0_2, spec_l21Values.g⟩
  | _, _ => none
def spec_l21Values.C (k : Nat) : Nat → List AV → AP κ AV := contract spec_l21Values.sig (spec_l21Values.body k)
theorem spec_l21Values.den (k : Nat) (a0_0 : List Int) (a0_1 : Int) (a0_2 : Int) : Code.den ti (spec_l21Values.Γ k) (spec_l21Values.LH k) (bodyOf Try.f61) (finK ti Try.f61.results.toList [(2, [some 2])] (flags spec_l21Values.sig).length (rwI (flags spec_l21Values.sig) 0) spec_l21Values.out) ⟨envOf (([.v (.ptr 0 0 0)]).zipIdx.map fun q => (q.2, q.1)), hpOf [.cells 98 [.sl 1, .int .i64 a0_1, .int .i64 a0_2], .rows 0 false a0_0], (flags spec_l21Values.sig).length⟩ = spec_l21Values.f k a0_0 a0_1 a0_2 := by kernel_rfl
theorem spec_l21Values.ok (k : Nat) : CSound Try.prog 61 (spec_l21Values.C k) :=
  csound κ_ok mixed tok (spec_l21Values.hΓ k) (LH := spec_l21Values.LH k) (fn := Try.f61) (c := bodyOf Try.f61) Try.func61 rfl Try.call61 spec_l21Values.sig [(2, [some 2])] (spec_l21Values.body k) (by kernel_rfl) (spec_l21Values.lok k) (by decide) fun vs bs lf y hl hb hy => by
    unfold spec_l21Values.body at hb
    split at hb
    · obtain ⟨_, rfl, hb_1⟩ := asO_bind hb
      obtain rfl := Option.some.inj hb_1
      exact ⟨spec_l21Values.out, spec_l21Values.out_ok, (spec_l21Values.den k _ _ _).trans hy⟩
    · cases hb
/-! ### spec_l20Draw -/
def spec_l20Draw.f (k : Nat) (a0_0 : List Int) (a0_1 : Int) (a0_2 : Int) : Option (Int × Int × Int × Int × Int) :=
  (spec_l1Below.f k a0_0 a0_1 a0_2 (3 : Int)).bind fun t1 => (spec_l1Below.f k a0_0 t1.2.1 t1.2.2 (4 : Int)).bind fun t2 => (spec_l1Below.f k a0_0 t2.2.1 t2.2.2 (4 : Int)).bind fun t3 => some ((w64 ((1 : Int) + t1.1)), (w64 ((1 : Int) + t2.1)), (w64 ((1 : Int) + t3.1)), t3.2.1, t3.2.2)
def spec_l20Draw.Γ (k : Nat) : Ct κ := assoc [(63, spec_l1Below.C k)]
def spec_l20Draw.LH (k : Nat) : Nat → Option (LHi κ) := assoc []
theorem spec_l20Draw.hΓ (k : Nat) : ∀ f g, spec_l20Draw.Γ k f = some g → CSound Try.prog f g := G_cons (spec_l1Below.ok k) G_nil
theorem spec_l20Draw.lok (k : Nat) : LOK ti (spec_l20Draw.Γ k) (spec_l20Draw.LH k) 2 (loopsOf (bodyOf Try.f90)) :=
  (show loopsOf (bodyOf Try.f90) = [] by kernel_rfl) ▸ LOK_nil
def spec_l20Draw.sig : List PSh := [.cur 98 [.ro 0, .sc, .sc]]
def spec_l20Draw.g (y : Int × Int × Int × Int × Int) : Ret κ := ⟨.agg [.int .i64 y.1, .int .i64 y.2.1, .int .i64 y.2.2.1], [.cells 98 [.sl 1, .int .i64 y.2.2.2.1, .int .i64 y.2.2.2.2]], []⟩
def spec_l20Draw.out (r : Ret κ) : Option (Int × Int × Int × Int × Int) :=
  match r with
  | ⟨.agg [.int .i64 z0, .int .i64 z1, .int .i64 z2], [.cells 98 [.sl 1, .int .i64 z3, .int .i64 z4]], []⟩ => some (z0, z1, z2, z3, z4)
  | _ => none
theorem spec_l20Draw.out_ok (r : Ret κ) (y : Int × Int × Int × Int × Int) (h : spec_l20Draw.out r = some y) : r = spec_l20Draw.g y := by
  unfold spec_l20Draw.out at h
  split at h
  · obtain rfl := Option.some.inj h
    rfl
  · cases h
def spec_l20Draw.body (k : Nat) (vs : List AV) (bs : List (Blk κ)) : Option (Lf κ) :=
  match vs, bs with
  | [.v (.ptr 0 0 0)], [.cells 98 [.sl 1, .int .i64 a0_1, .int .i64 a0_2], qb1] => (asO 0 false qb1).bind fun a0_0 => some ⟨Int × Int × Int × Int × Int, spec_l20Draw.f k a0_0 a0_1 a0_2, spec_l20Draw.g⟩
  | _, _ => none
def spec_l20Draw.C (k : Nat) : Nat → List AV → AP κ AV := contract spec_l20Draw.sig (spec_l20Draw.body k)
theorem spec_l20Draw.den (k : Nat) (a0_0 : List Int) (a0_1 : Int) (a0_2 : Int) : Code.den ti (spec_l20Draw.Γ k) (spec_l20Draw.LH k) (bodyOf Try.f90) (finK ti Try.f90.results.toList [] (flags spec_l20Draw.sig).length (rwI (flags spec_l20Draw.sig) 0) spec_l20Draw.out) ⟨envOf (([.v (.ptr 0 0 0)]).zipIdx.map fun q => (q.2, q.1)), hpOf [.cells 98 [.sl 1, .int .i64 a0_1, .int .i64 a0_2], .rows 0 false a0_0], (flags spec_l20Draw.sig).length⟩ = spec_l20Draw.f k a0_0 a0_1 a0_2 := by kernel_rfl
theorem spec_l20Draw.ok (k : Nat) : CSound Try.prog 90 (spec_l20Draw.C k) :=
  csound κ_ok mixed tok (spec_l20Draw.hΓ k) (LH := spec_l20Draw.LH k) (fn := Try.f90) (c := bodyOf Try.f90) Try.func90 rfl Try.call90 spec_l20Draw.sig [] (spec_l20Draw.body k) (by kernel_rfl) (spec_l20Draw.lok k) (by decide) fun vs bs lf y hl hb hy => by
    unfold spec_l20Draw.body at hb
    split at hb
    · obtain ⟨_, rfl, hb_1⟩ := asO_bind hb
      obtain rfl := Option.some.inj hb_1
      exact ⟨spec_l20Draw.out, spec_l20Draw.out_ok, (spec_l20Draw.den k _ _ _).trans hy⟩
    · cases hb
/-! ### spec_l20List -/
def spec_l20List.L3 {R : Type} (k : Nat) (xl1 : List Int) (X0 : Int → Int → List T_impl_Flow → Option R) (rec : Int → Int → Int → List T_impl_Flow → Option R) (x2 : Int) (xc0_1 : Int) (xc0_2 : Int) (xl2 : List T_impl_Flow) : Option R :=
  (bif decide (x2 > (0 : Int)) then (spec_l20Draw.f k xl1 xc0_1 xc0_2).bind fun t2 => (bif decide ((xl2.length + ([(⟨t2.1, t2.2.1, t2.2.2.1⟩ : T_impl_Flow)] : List T_impl_Flow).length) * 24 ≤ cap48) then (let l3 : List T_impl_Flow := (xl2 ++ ([(⟨t2.1, t2.2.1, t2.2.2.1⟩ : T_impl_Flow)] : List T_impl_Flow)); (rec (w64 (x2 - (1 : Int))) t2.2.2.2.1 t2.2.2.2.2 l3)) else none) else (X0 xc0_1 xc0_2 xl2))
def spec_l20List.l3 {R : Type} (k : Nat) (xl1 : List Int) (X0 : Int → Int → List T_impl_Flow → Option R) : Nat → Int → Int → Int → List T_impl_Flow → Option R
  | 0 => fun _ _ _ _ => none
  | n + 1 => spec_l20List.L3 k xl1 X0 (spec_l20List.l3 k xl1 X0 n)
def spec_l20List.f (k : Nat) (a0_0 : List Int) (a0_1 : Int) (a0_2 : Int) : Option (Int × Int × List T_impl_Flow) :=
  (spec_l1Below.f k a0_0 a0_1 a0_2 (8 : Int)).bind fun t1 => (spec_l20List.l3 k a0_0 (fun (y4 : Int) (y5 : Int) (y6 : List T_impl_Flow) => some (y4, y5, y6)) k t1.1 t1.2.1 t1.2.2 ([] : List T_impl_Flow))
def spec_l20List.h3 (k : Nat) {R : Type} (K : Ex → St κ → Option R) (vs : List AV) (bs : List (Blk κ)) : Option R :=
  match vs, bs with
  | [.v (.ptr 0 0 0), .v (.sl 2), .v (.int .i64 x2)], [.cells 98 [.sl 1, .int .i64 xc0_1, .int .i64 xc0_2], qb1, qb2] => (asO 0 false qb1).bind fun xl1 => (asO 3 true qb2).bind fun xl2 => spec_l20List.l3 k xl1 (fun (zc0_1 : Int) (zc0_2 : Int) (zl2 : List T_impl_Flow) => K (.exit 0) (stOf [(3, [some 3])] [.v (.sl 2)] [.cells 98 [.sl 1, .int .i64 zc0_1, .int .i64 zc0_2], .rows 0 false xl1, .rows 3 true zl2])) k x2 xc0_1 xc0_2 xl2
  | _, _ => none
def spec_l20List.Γ (k : Nat) : Ct κ := assoc [(63, spec_l1Below.C k), (90, spec_l20Draw.C k)]
def spec_l20List.LH (k : Nat) : Nat → Option (LHi κ) := assoc [(3, ⟨2, [(0, [some 0, none, none]), (3, [some 3]), (4, [])], [(3, [some 3])], @spec_l20List.h3 k⟩)]
theorem spec_l20List.hΓ (k : Nat) : ∀ f g, spec_l20List.Γ k f = some g → CSound Try.prog f g := G_cons (spec_l1Below.ok k) (G_cons (spec_l20Draw.ok k) G_nil)
theorem spec_l20List.e3 {R : Type} (K : Ex → St κ → Option R) (k : Nat) (xl1 : List Int) : ∀ (n : Nat) (x2 : Int) (xc0_1 : Int) (xc0_2 : Int) (xl2 : List T_impl_Flow), loopN 2 (Code.den ti (spec_l20List.Γ k) (spec_l20List.LH k) (loopAt Try.f62 0)) [(0, [some 0, none, none]), (3, [some 3]), (4, [])] [(3, [some 3])] K n [.v (.ptr 0 0 0), .v (.sl 2), .v (.int .i64 x2)] [.cells 98 [.sl 1, .int .i64 xc0_1, .int .i64 xc0_2], .rows 0 false xl1, .rows 3 true xl2] = spec_l20List.l3 k xl1 (fun (zc0_1 : Int) (zc0_2 : Int) (zl2 : List T_impl_Flow) => K (.exit 0) (stOf [(3, [some 3])] [.v (.sl 2)] [.cells 98 [.sl 1, .int .i64 zc0_1, .int .i64 zc0_2], .rows 0 false xl1, .rows 3 true zl2])) n x2 xc0_1 xc0_2 xl2
  | 0, _, _, _, _ => rfl
  | n + 1, x2, xc0_1, xc0_2, xl2 => (show loopN 2 (Code.den ti (spec_l20List.Γ k) (spec_l20List.LH k) (loopAt Try.f62 0)) [(0, [some 0, none, none]), (3, [some 3]), (4, [])] [(3, [some 3])] K (n + 1) [.v (.ptr 0 0 0), .v (.sl 2), .v (.int .i64 x2)] [.cells 98 [.sl 1, .int .i64 xc0_1, .int .i64 xc0_2], .rows 0 false xl1, .rows 3 true xl2] = spec_l20List.L3 k xl1 (fun (zc0_1 : Int) (zc0_2 : Int) (zl2 : List T_impl_Flow) => K (.exit 0) (stOf [(3, [some 3])] [.v (.sl 2)] [.cells 98 [.sl 1, .int .i64 zc0_1, .int .i64 zc0_2], .rows 0 false xl1, .rows 3 true zl2])) (fun (x2' : Int) (xc0_1' : Int) (xc0_2' : Int) (xl2' : List T_impl_Flow) => loopN 2 (Code.den ti (spec_l20List.Γ k) (spec_l20List.LH k) (loopAt Try.f62 0)) [(0, [some 0, none, none]), (3, [some 3]), (4, [])] [(3, [some 3])] K n [.v (.ptr 0 0 0), .v (.sl 2), .v (.int .i64 x2')] [.cells 98 [.sl 1, .int .i64 xc0_1', .int .i64 xc0_2'], .rows 0 false xl1, .rows 3 true xl2']) x2 xc0_1 xc0_2 xl2 by kernel_rfl).trans (congrArg (fun rec => spec_l20List.L3 k xl1 (fun (zc0_1 : Int) (zc0_2 : Int) (zl2 : List T_impl_Flow) => K (.exit 0) (stOf [(3, [some 3])] [.v (.sl 2)] [.cells 98 [.sl 1, .int .i64 zc0_1, .int .i64 zc0_2], .rows 0 false xl1, .rows 3 true zl2])) rec x2 xc0_1 xc0_2 xl2) (funext fun x2' => funext fun xc0_1' => funext fun xc0_2' => funext fun xl2' => spec_l20List.e3 K k xl1 n x2' xc0_1' xc0_2' xl2'))
theorem spec_l20List.q3 (k : Nat) {R : Type} (K : Ex → St κ → Option R) (vs : List AV) (bs : List (Blk κ)) (r : R) (h : spec_l20List.h3 k K vs bs = some r) : ∃ n, loopN 2 (Code.den ti (spec_l20List.Γ k) (spec_l20List.LH k) (loopAt Try.f62 0)) [(0, [some 0, none, none]), (3, [some 3]), (4, [])] [(3, [some 3])] K n vs bs = some r := by
  unfold spec_l20List.h3 at h
  split at h
  · obtain ⟨_, rfl, h_1⟩ := asO_bind h
    obtain ⟨_, rfl, h_2⟩ := asO_bind h_1
    exact ⟨k, (spec_l20List.e3 K k _ k _ _ _ _).trans h_2⟩
  · cases h
theorem spec_l20List.lok (k : Nat) : LOK ti (spec_l20List.Γ k) (spec_l20List.LH k) 2 (loopsOf (bodyOf Try.f62)) :=
  (show loopsOf (bodyOf Try.f62) = [loopAt Try.f62 0] by kernel_rfl) ▸ (LOK_cons (g := ⟨2, [(0, [some 0, none, none]), (3, [some 3]), (4, [])], [(3, [some 3])], @spec_l20List.h3 k⟩) (by kernel_rfl) rfl (fun K vs xs r h => spec_l20List.q3 k K vs xs r h) (LOK_nil))
def spec_l20List.sig : List PSh := [.cur 98 [.ro 0, .sc, .sc]]
def spec_l20List.g (y : Int × Int × List T_impl_Flow) : Ret κ := ⟨.v (.sl 2), [.cells 98 [.sl 1, .int .i64 y.1, .int .i64 y.2.1]], [.rows 3 true y.2.2]⟩
def spec_l20List.out (r : Ret κ) : Option (Int × Int × List T_impl_Flow) :=
  match r with
  | ⟨.v (.sl 2), [.cells 98 [.sl 1, .int .i64 z0, .int .i64 z1]], [q2]⟩ => (asO 3 true q2).bind fun z2 => some (z0, z1, z2)
  | _ => none
theorem spec_l20List.out_ok (r : Ret κ) (y : Int × Int × List T_impl_Flow) (h : spec_l20List.out r = some y) : r = spec_l20List.g y := by
  unfold spec_l20List.out at h
  split at h
  · obtain ⟨_, rfl, h_1⟩ := asO_bind h
    obtain rfl := Option.some.inj h_1
    rfl
  · cases h
def spec_l20List.body (k : Nat) (vs : List AV) (bs : List (Blk κ)) : Option (Lf κ) :=
  match vs, bs with
  | [.v (.ptr 0 0 0)], [.cells 98 [.sl 1, .int .i64 a0_1, .int .i64 a0_2], qb1] => (asO 0 false qb1).bind fun a0_0 => some ⟨Int × Int × List T_impl_Flow, spec_l20List.f k a0_0 a0_1 a0_2, spec_l20List.g⟩
  | _, _ => none
def spec_l20List.C (k : Nat) : Nat → List AV → AP κ AV := contract spec_l20List.sig (spec_l20List.body k)
theorem spec_l20List.den (k : Nat) (a0_0 : List Int) (a0_1 : Int) (a0_2 : Int) : Code.den ti (spec_l20List.Γ k) (spec_l20List.LH k) (bodyOf Try.f62) (finK ti Try.f62.results.toList [(2, [some 3])] (flags spec_l20List.sig).length (rwI (flags spec_l20List.sig) 0) spec_l20List.out) ⟨envOf (([.v (.ptr 0 0 0)]).zipIdx.map fun q => (q.2, q.1)), hpOf [.cells 98 [.sl 1, .int .i64 a0_1, .int .i64 a0_2], .rows 0 false a0_0], (flags spec_l20List.sig).length⟩ = spec_l20List.f k a0_0 a0_1 a0_2 := by kernel_rfl
theorem spec_l20List.ok (k : Nat) : CSound Try.prog 62 (spec_l20List.C k) :=
  csound κ_ok mixed tok (spec_l20List.hΓ k) (LH := spec_l20List.LH k) (fn := Try.f62) (c := bodyOf Try.f62) Try.func62 rfl Try.call62 spec_l20List.sig [(2, [some 3])] (spec_l20List.body k) (by kernel_rfl) (spec_l20List.lok k) (by decide) fun vs bs lf y hl hb hy => by
    unfold spec_l20List.body at hb
    split at hb
    · obtain ⟨_, rfl, hb_1⟩ := asO_bind hb
      obtain rfl := Option.some.inj hb_1
      exact ⟨spec_l20List.out, spec_l20List.out_ok, (spec_l20List.den k _ _ _).trans hy⟩
    · cases hb
/-! ### spec_DrawRunOps -/
def spec_DrawRunOps.f (k : Nat) (a0 : List Int) : Option (Int × List T_impl_Op × List Int × List T_impl_Flow) :=
  (spec_l1New.f k a0).bind fun t1 => (spec_l21Any.f k a0 t1.1 t1.2).bind fun t2 => (spec_l21Values.f k a0 t2.1 t2.2.1).bind fun t3 => (spec_l20List.f k a0 t3.1 t3.2.1).bind fun t4 => (spec_l1Below.f k a0 t4.1 t4.2.1 (3 : Int)).bind fun t5 => some ((w64 ((1 : Int) + t5.1)), t2.2.2, t3.2.2, t4.2.2)
def spec_DrawRunOps.Γ (k : Nat) : Ct κ := assoc [(59, spec_l1New.C k), (60, spec_l21Any.C k), (61, spec_l21Values.C k), (62, spec_l20List.C k), (63, spec_l1Below.C k)]
def spec_DrawRunOps.LH (k : Nat) : Nat → Option (LHi κ) := assoc []
theorem spec_DrawRunOps.hΓ (k : Nat) : ∀ f g, spec_DrawRunOps.Γ k f = some g → CSound Try.prog f g := G_cons (spec_l1New.ok k) (G_cons (spec_l21Any.ok k) (G_cons (spec_l21Values.ok k) (G_cons (spec_l20List.ok k) (G_cons (spec_l1Below.ok k) G_nil))))
theorem spec_DrawRunOps.lok (k : Nat) : LOK ti (spec_DrawRunOps.Γ k) (spec_DrawRunOps.LH k) 1 (loopsOf (bodyOf Try.f21)) :=
  (show loopsOf (bodyOf Try.f21) = [] by kernel_rfl) ▸ LOK_nil
def spec_DrawRunOps.sig : List PSh := [.one (.ro 0)]
def spec_DrawRunOps.g (y : Int × List T_impl_Op × List Int × List T_impl_Flow) : Ret κ := ⟨.tup [(false, [.sl 1]), (false, [.sl 2]), (false, [.sl 3]), (false, [.int .i64 y.1])], [], [.rows 1 true y.2.1, .rows 2 true y.2.2.1, .rows 3 true y.2.2.2]⟩
def spec_DrawRunOps.out (r : Ret κ) : Option (Int × List T_impl_Op × List Int × List T_impl_Flow) :=
  match r with
  | ⟨.tup [(false, [.sl 1]), (false, [.sl 2]), (false, [.sl 3]), (false, [.int .i64 z0])], [], [q1, q2, q3]⟩ => (asO 1 true q1).bind fun z1 => (asO 2 true q2).bind fun z2 => (asO 3 true q3).bind fun z3 => some (z0, z1, z2, z3)
  | _ => none
theorem spec_DrawRunOps.out_ok (r : Ret κ) (y : Int × List T_impl_Op × List Int × List T_impl_Flow) (h : spec_DrawRunOps.out r = some y) : r = spec_DrawRunOps.g y := by
  unfold spec_DrawRunOps.out at h
  split at h
  · obtain ⟨_, rfl, h_1⟩ := asO_bind h
    obtain ⟨_, rfl, h_2⟩ := asO_bind h_1
    obtain ⟨_, rfl, h_3⟩ := asO_bind h_2
    obtain rfl := Option.some.inj h_3
    rfl
  · cases h
def spec_DrawRunOps.body (k : Nat) (vs : List AV) (bs : List (Blk κ)) : Option (Lf κ) :=
  match vs, bs with
  | [.v (.sl 0)], [qb0] => (asO 0 false qb0).bind fun a0 => some ⟨Int × List T_impl_Op × List Int × List T_impl_Flow, spec_DrawRunOps.f k a0, spec_DrawRunOps.g⟩
  | _, _ => none
def spec_DrawRunOps.C (k : Nat) : Nat → List AV → AP κ AV := contract spec_DrawRunOps.sig (spec_DrawRunOps.body k)
theorem spec_DrawRunOps.den (k : Nat) (a0 : List Int) : Code.den ti (spec_DrawRunOps.Γ k) (spec_DrawRunOps.LH k) (bodyOf Try.f21) (finK ti Try.f21.results.toList [(2, [some 1]), (3, [some 2]), (4, [some 3])] (flags spec_DrawRunOps.sig).length (rwI (flags spec_DrawRunOps.sig) 0) spec_DrawRunOps.out) ⟨envOf (([.v (.sl 0)]).zipIdx.map fun q => (q.2, q.1)), hpOf [.rows 0 false a0], (flags spec_DrawRunOps.sig).length⟩ = spec_DrawRunOps.f k a0 := by kernel_rfl
theorem spec_DrawRunOps.ok (k : Nat) : CSound Try.prog 21 (spec_DrawRunOps.C k) :=
  csound κ_ok mixed tok (spec_DrawRunOps.hΓ k) (LH := spec_DrawRunOps.LH k) (fn := Try.f21) (c := bodyOf Try.f21) Try.func21 rfl Try.call21 spec_DrawRunOps.sig [(2, [some 1]), (3, [some 2]), (4, [some 3])] (spec_DrawRunOps.body k) (by kernel_rfl) (spec_DrawRunOps.lok k) (by decide) fun vs bs lf y hl hb hy => by
    unfold spec_DrawRunOps.body at hb
    split at hb
    · obtain ⟨_, rfl, hb_1⟩ := asO_bind hb
      obtain rfl := Option.some.inj hb_1
      exact ⟨spec_DrawRunOps.out, spec_DrawRunOps.out_ok, (spec_DrawRunOps.den k _).trans hy⟩
    · cases hb
end Go.Proofs.Ythjdecnheaifkaa.PFnPrograms
