/- What the functions that the law FnRolledBack reaches come to; no conditions. -/
import Derived.Test.YtmjflahlhgibnaaGreatDoorPFnRolledBack4
set_option linter.unusedVariables false
set_option maxRecDepth 100000
namespace Go.Proofs.YtmjflahlhgibnaaGreatDoor.PFnRolledBack
open Go Go.Eng Go.Proofs
/-! ### spec_l24Any -/
def spec_l24Any.f (k : Nat) (a0_0 : List Int) (a0_1 : Int) (a0_2 : Int) : Option (Int × Int × List T_impl_Stored) :=
  (spec_l24Draw.f k a0_0 a0_1 a0_2).bind fun t1 => (bif ((t1.2.2.length : Int) == (0 : Int)) then some (t1.1, t1.2.1, t1.2.2) else (spec_l1Below.f k a0_0 t1.1 t1.2.1 (t1.2.2.length : Int)).bind fun t2 => (spec_l1Below.f k a0_0 t2.2.1 t2.2.2 (9 : Int)).bind fun t3 => (bif (t3.1 == (0 : Int)) then (spec_l9Raw.f k a0_0 t3.2.1 t3.2.2).bind fun t4 => (bif decide (0 ≤ t2.1) then (bif decide (t2.1 < (t1.2.2.length : Int)) then (let l5 : List T_impl_Stored := (t1.2.2.set (t2.1).toNat (⟨t4.1, (rd_impl_Stored t1.2.2 t2.1).f1, (rd_impl_Stored t1.2.2 t2.1).f2, (rd_impl_Stored t1.2.2 t2.1).f3⟩ : T_impl_Stored)); some (t4.2.1, t4.2.2, l5)) else none) else none) else (bif (t3.1 == (1 : Int)) then (spec_l1Int.f k a0_0 t3.2.1 t3.2.2 ([(0 : Int), (999 : Int), (1000 : Int)] : List Int)).bind fun t6 => (bif decide (0 ≤ t2.1) then (bif decide (t2.1 < (t1.2.2.length : Int)) then (let l7 : List T_impl_Stored := (t1.2.2.set (t2.1).toNat (⟨(rd_impl_Stored t1.2.2 t2.1).f0, (rd_impl_Stored t1.2.2 t2.1).f1, (rd_impl_Stored t1.2.2 t2.1).f2, t6.1⟩ : T_impl_Stored)); some (t6.2.1, t6.2.2, l7)) else none) else none) else (bif (t3.1 == (2 : Int)) then (spec_l1Int.f k a0_0 t3.2.1 t3.2.2 ([(-1 : Int), (999 : Int), (1000 : Int)] : List Int)).bind fun t8 => (bif decide (0 ≤ t2.1) then (bif decide (t2.1 < (t1.2.2.length : Int)) then (let l9 : List T_impl_Stored := (t1.2.2.set (t2.1).toNat (⟨(rd_impl_Stored t1.2.2 t2.1).f0, (rd_impl_Stored t1.2.2 t2.1).f1, t8.1, (rd_impl_Stored t1.2.2 t2.1).f3⟩ : T_impl_Stored)); some (t8.2.1, t8.2.2, l9)) else none) else none) else (bif (t3.1 == (3 : Int)) then (bif decide (0 ≤ (0 : Int)) then (bif decide ((0 : Int) < (t1.2.2.length : Int)) then (bif decide ((t1.2.2.length + ([(⟨(rd_impl_Stored t1.2.2 (0 : Int)).f0, (rd_impl_Stored t1.2.2 (0 : Int)).f1, (rd_impl_Stored t1.2.2 (0 : Int)).f2, (rd_impl_Stored t1.2.2 (0 : Int)).f3⟩ : T_impl_Stored)] : List T_impl_Stored).length) * 32 ≤ cap48) then (let l10 : List T_impl_Stored := (t1.2.2 ++ ([(⟨(rd_impl_Stored t1.2.2 (0 : Int)).f0, (rd_impl_Stored t1.2.2 (0 : Int)).f1, (rd_impl_Stored t1.2.2 (0 : Int)).f2, (rd_impl_Stored t1.2.2 (0 : Int)).f3⟩ : T_impl_Stored)] : List T_impl_Stored)); some (t3.2.1, t3.2.2, l10)) else none) else none) else none) else some (t3.2.1, t3.2.2, t1.2.2))))))
def spec_l24Any.Γ (k : Nat) : Ct κ := assoc [(45, spec_l24Draw.C k), (18, spec_l1Below.C k), (46, spec_l9Raw.C k), (29, spec_l1Int.C k)]
def spec_l24Any.LH (k : Nat) : Nat → Option (LHi κ) := assoc []
theorem spec_l24Any.hΓ (k : Nat) : ∀ f g, spec_l24Any.Γ k f = some g → CSound Tryz.prog f g := G_cons (spec_l24Draw.ok k) (G_cons (spec_l1Below.ok k) (G_cons (spec_l9Raw.ok k) (G_cons (spec_l1Int.ok k) G_nil)))
theorem spec_l24Any.lok (k : Nat) : LOK ti (spec_l24Any.Γ k) (spec_l24Any.LH k) 2 (loopsOf (bodyOf Tryz.f21)) :=
  (show loopsOf (bodyOf Tryz.f21) = [] by kernel_rfl) ▸ LOK_nil
def spec_l24Any.sig : List PSh := [.cur 79 [.ro 0, .sc, .sc]]
def spec_l24Any.g (y : Int × Int × List T_impl_Stored) : Ret κ := ⟨.v (.sl 2), [.cells 79 [.sl 1, .int .i64 y.1, .int .i64 y.2.1]], [.rows 6 true y.2.2]⟩
def spec_l24Any.out (r : Ret κ) : Option (Int × Int × List T_impl_Stored) :=
  match r with
  | ⟨.v (.sl 2), [.cells 79 [.sl 1, .int .i64 z0, .int .i64 z1]], [q2]⟩ => (asO 6 true q2).bind fun z2 => some (z0, z1, z2)
  | _ => none
theorem spec_l24Any.out_ok (r : Ret κ) (y : Int × Int × List T_impl_Stored) (h : spec_l24Any.out r = some y) : r = spec_l24Any.g y := by
  unfold spec_l24Any.out at h
  split at h
  · obtain ⟨_, rfl, h_1⟩ := asO_bind h
    obtain rfl := Option.some.inj h_1
    rfl
  · cases h
def spec_l24Any.body (k : Nat) (vs : List AV) (bs : List (Blk κ)) : Option (Lf κ) :=
  match vs, bs with
  | [.v (.ptr 0 0 0)], [.cells 79 [.sl 1, .int .i64 a0_1, .int .i64 a0_2], qb1] => (asO 0 false qb1).bind fun a0_0 => some ⟨Int × Int × List T_impl_Stored, spec_l24Any.f k a0_0 a0_1 a0_2, spec_l24Any.g⟩
  | _, _ => none
def spec_l24Any.C (k : Nat) : Nat → List AV → AP κ AV := contract spec_l24Any.sig (spec_l24Any.body k)
theorem spec_l24Any.den (k : Nat) (a0_0 : List Int) (a0_1 : Int) (a0_2 : Int) : Code.den ti (spec_l24Any.Γ k) (spec_l24Any.LH k) (bodyOf Tryz.f21) (finK ti Tryz.f21.results.toList [(2, [some 6])] (flags spec_l24Any.sig).length (rwI (flags spec_l24Any.sig) 0) spec_l24Any.out) ⟨envOf (([.v (.ptr 0 0 0)]).zipIdx.map fun q => (q.2, q.1)), hpOf [.cells 79 [.sl 1, .int .i64 a0_1, .int .i64 a0_2], .rows 0 false a0_0], (flags spec_l24Any.sig).length⟩ = spec_l24Any.f k a0_0 a0_1 a0_2 := by kernel_rfl
theorem spec_l24Any.ok (k : Nat) : CSound Tryz.prog 21 (spec_l24Any.C k) :=
  csound κ_ok mixed tok (spec_l24Any.hΓ k) (LH := spec_l24Any.LH k) (fn := Tryz.f21) (c := bodyOf Tryz.f21) Tryz.func21 rfl Tryz.call21 spec_l24Any.sig [(2, [some 6])] (spec_l24Any.body k) (by kernel_rfl) (spec_l24Any.lok k) (by decide) fun vs bs lf y hl hb hy => by
    unfold spec_l24Any.body at hb
    split at hb
    · obtain ⟨_, rfl, hb_1⟩ := asO_bind hb
      obtain rfl := Option.some.inj hb_1
      exact ⟨spec_l24Any.out, spec_l24Any.out_ok, (spec_l24Any.den k _ _ _).trans hy⟩
    · cases hb
/-! ### spec_DrawTakeSnapshot -/
def spec_DrawTakeSnapshot.f (k : Nat) (a0 : List Int) : Option (Int × Int × Int × Int × List T_impl_Grant × List T_impl_Flow × List T_impl_Rule × List T_impl_Op × List T_impl_Stored) :=
  (spec_l1New.f k a0).bind fun t1 => (spec_l26Any.f k a0 t1.1 t1.2).bind fun t2 => (spec_l24Any.f k a0 t2.2.2.2.2.1 t2.2.2.2.2.2.1).bind fun t3 => some (t2.1, t2.2.1, t2.2.2.1, t2.2.2.2.1, t2.2.2.2.2.2.2.1, t2.2.2.2.2.2.2.2.1, t2.2.2.2.2.2.2.2.2.1, t2.2.2.2.2.2.2.2.2.2, t3.2.2)
def spec_DrawTakeSnapshot.Γ (k : Nat) : Ct κ := assoc [(16, spec_l1New.C k), (38, spec_l26Any.C k), (21, spec_l24Any.C k)]
def spec_DrawTakeSnapshot.LH (k : Nat) : Nat → Option (LHi κ) := assoc []
theorem spec_DrawTakeSnapshot.hΓ (k : Nat) : ∀ f g, spec_DrawTakeSnapshot.Γ k f = some g → CSound Tryz.prog f g := G_cons (spec_l1New.ok k) (G_cons (spec_l26Any.ok k) (G_cons (spec_l24Any.ok k) G_nil))
theorem spec_DrawTakeSnapshot.lok (k : Nat) : LOK ti (spec_DrawTakeSnapshot.Γ k) (spec_DrawTakeSnapshot.LH k) 1 (loopsOf (bodyOf Tryz.f15)) :=
  (show loopsOf (bodyOf Tryz.f15) = [] by kernel_rfl) ▸ LOK_nil
def spec_DrawTakeSnapshot.sig : List PSh := [.one (.ro 0)]
def spec_DrawTakeSnapshot.g (y : Int × Int × Int × Int × List T_impl_Grant × List T_impl_Flow × List T_impl_Rule × List T_impl_Op × List T_impl_Stored) : Ret κ := ⟨.tup [(true, [.int .i64 y.1, .int .i64 y.2.1, .int .i64 y.2.2.1, .sl 1, .sl 2, .sl 3, .sl 4, .int .i64 y.2.2.2.1]), (false, [.sl 5])], [], [.rows 2 true y.2.2.2.2.1, .rows 3 true y.2.2.2.2.2.1, .rows 4 true y.2.2.2.2.2.2.1, .rows 1 true y.2.2.2.2.2.2.2.1, .rows 6 true y.2.2.2.2.2.2.2.2]⟩
def spec_DrawTakeSnapshot.out (r : Ret κ) : Option (Int × Int × Int × Int × List T_impl_Grant × List T_impl_Flow × List T_impl_Rule × List T_impl_Op × List T_impl_Stored) :=
  match r with
  | ⟨.tup [(true, [.int .i64 z0, .int .i64 z1, .int .i64 z2, .sl 1, .sl 2, .sl 3, .sl 4, .int .i64 z3]), (false, [.sl 5])], [], [q4, q5, q6, q7, q8]⟩ => (asO 2 true q4).bind fun z4 => (asO 3 true q5).bind fun z5 => (asO 4 true q6).bind fun z6 => (asO 1 true q7).bind fun z7 => (asO 6 true q8).bind fun z8 => some (z0, z1, z2, z3, z4, z5, z6, z7, z8)
  | _ => none
theorem spec_DrawTakeSnapshot.out_ok (r : Ret κ) (y : Int × Int × Int × Int × List T_impl_Grant × List T_impl_Flow × List T_impl_Rule × List T_impl_Op × List T_impl_Stored) (h : spec_DrawTakeSnapshot.out r = some y) : r = spec_DrawTakeSnapshot.g y := by
  unfold spec_DrawTakeSnapshot.out at h
  split at h
  · obtain ⟨_, rfl, h_1⟩ := asO_bind h
    obtain ⟨_, rfl, h_2⟩ := asO_bind h_1
    obtain ⟨_, rfl, h_3⟩ := asO_bind h_2
    obtain ⟨_, rfl, h_4⟩ := asO_bind h_3
    obtain ⟨_, rfl, h_5⟩ := asO_bind h_4
    obtain rfl := Option.some.inj h_5
    rfl
  · cases h
def spec_DrawTakeSnapshot.body (k : Nat) (vs : List AV) (bs : List (Blk κ)) : Option (Lf κ) :=
  match vs, bs with
  | [.v (.sl 0)], [qb0] => (asO 0 false qb0).bind fun a0 => some ⟨Int × Int × Int × Int × List T_impl_Grant × List T_impl_Flow × List T_impl_Rule × List T_impl_Op × List T_impl_Stored, spec_DrawTakeSnapshot.f k a0, spec_DrawTakeSnapshot.g⟩
  | _, _ => none
def spec_DrawTakeSnapshot.C (k : Nat) : Nat → List AV → AP κ AV := contract spec_DrawTakeSnapshot.sig (spec_DrawTakeSnapshot.body k)
theorem spec_DrawTakeSnapshot.den (k : Nat) (a0 : List Int) : Code.den ti (spec_DrawTakeSnapshot.Γ k) (spec_DrawTakeSnapshot.LH k) (bodyOf Tryz.f15) (finK ti Tryz.f15.results.toList [(2, [none, none, none, some 2, some 3, some 4, some 1, none]), (3, [some 6])] (flags spec_DrawTakeSnapshot.sig).length (rwI (flags spec_DrawTakeSnapshot.sig) 0) spec_DrawTakeSnapshot.out) ⟨envOf (([.v (.sl 0)]).zipIdx.map fun q => (q.2, q.1)), hpOf [.rows 0 false a0], (flags spec_DrawTakeSnapshot.sig).length⟩ = spec_DrawTakeSnapshot.f k a0 := by kernel_rfl
theorem spec_DrawTakeSnapshot.ok (k : Nat) : CSound Tryz.prog 15 (spec_DrawTakeSnapshot.C k) :=
  csound κ_ok mixed tok (spec_DrawTakeSnapshot.hΓ k) (LH := spec_DrawTakeSnapshot.LH k) (fn := Tryz.f15) (c := bodyOf Tryz.f15) Tryz.func15 rfl Tryz.call15 spec_DrawTakeSnapshot.sig [(2, [none, none, none, some 2, some 3, some 4, some 1, none]), (3, [some 6])] (spec_DrawTakeSnapshot.body k) (by kernel_rfl) (spec_DrawTakeSnapshot.lok k) (by decide) fun vs bs lf y hl hb hy => by
    unfold spec_DrawTakeSnapshot.body at hb
    split at hb
    · obtain ⟨_, rfl, hb_1⟩ := asO_bind hb
      obtain rfl := Option.some.inj hb_1
      exact ⟨spec_DrawTakeSnapshot.out, spec_DrawTakeSnapshot.out_ok, (spec_DrawTakeSnapshot.den k _).trans hy⟩
    · cases hb
/-! ### spec_l30Entries -/
def spec_l30Entries.L3 {R : Type} (k : Nat) (x1 : Int) (xl0 : List T_impl_Stored) (X0 : List T_impl_Stored → Option R) (rec : Int → List T_impl_Stored → Option R) (x3 : Int) (xl1 : List T_impl_Stored) : Option R :=
  (bif decide (x3 < (xl0.length : Int)) then (bif decide (0 ≤ x3) then (bif decide (x3 < (xl0.length : Int)) then (bif ((rd_impl_Stored xl0 x3).f0 == x1) then (bif decide (0 ≤ x3) then (bif decide (x3 < (xl0.length : Int)) then (bif decide ((xl1.length + ([(⟨(rd_impl_Stored xl0 x3).f0, (rd_impl_Stored xl0 x3).f1, (rd_impl_Stored xl0 x3).f2, (rd_impl_Stored xl0 x3).f3⟩ : T_impl_Stored)] : List T_impl_Stored).length) * 32 ≤ cap48) then (let l1 : List T_impl_Stored := (xl1 ++ ([(⟨(rd_impl_Stored xl0 x3).f0, (rd_impl_Stored xl0 x3).f1, (rd_impl_Stored xl0 x3).f2, (rd_impl_Stored xl0 x3).f3⟩ : T_impl_Stored)] : List T_impl_Stored)); (rec (w64 (x3 + (1 : Int))) l1)) else none) else none) else none) else (rec (w64 (x3 + (1 : Int))) xl1)) else none) else none) else (X0 xl1))
def spec_l30Entries.l3 {R : Type} (k : Nat) (x1 : Int) (xl0 : List T_impl_Stored) (X0 : List T_impl_Stored → Option R) : Nat → Int → List T_impl_Stored → Option R
  | 0 => fun _ _ => none
  | n + 1 => spec_l30Entries.L3 k x1 xl0 X0 (spec_l30Entries.l3 k x1 xl0 X0 n)
def spec_l30Entries.f (k : Nat) (a0 : List T_impl_Stored) (a1 : Int) : Option (List T_impl_Stored) :=
  (spec_l30Entries.l3 k a1 a0 (fun (y2 : List T_impl_Stored) => some y2) k (0 : Int) ([] : List T_impl_Stored))
def spec_l30Entries.h3 (k : Nat) {R : Type} (K : Ex → St κ → Option R) (vs : List AV) (bs : List (Blk κ)) : Option R :=
  match vs, bs with
  | [.v (.sl 0), .v (.int .i64 x1), .v (.sl 1), .v (.int .i64 x3)], [qb0, qb1] => (asO 6 false qb0).bind fun xl0 => (asO 6 true qb1).bind fun xl1 => spec_l30Entries.l3 k x1 xl0 (fun (zl1 : List T_impl_Stored) => K (.exit 0) (stOf [(5, [some 6])] [.v (.sl 1)] [.rows 6 false xl0, .rows 6 true zl1])) k x3 xl1
  | _, _ => none
def spec_l30Entries.Γ (k : Nat) : Ct κ := assoc []
def spec_l30Entries.LH (k : Nat) : Nat → Option (LHi κ) := assoc [(3, ⟨1, [(0, [some 6]), (1, []), (5, [some 6]), (6, [])], [(5, [some 6])], @spec_l30Entries.h3 k⟩)]
theorem spec_l30Entries.hΓ (k : Nat) : ∀ f g, spec_l30Entries.Γ k f = some g → CSound Tryz.prog f g := G_nil
theorem spec_l30Entries.e3 {R : Type} (K : Ex → St κ → Option R) (k : Nat) (x1 : Int) (xl0 : List T_impl_Stored) : ∀ (n : Nat) (x3 : Int) (xl1 : List T_impl_Stored), loopN 1 (Code.den ti (spec_l30Entries.Γ k) (spec_l30Entries.LH k) (loopAt Tryz.f40 0)) [(0, [some 6]), (1, []), (5, [some 6]), (6, [])] [(5, [some 6])] K n [.v (.sl 0), .v (.int .i64 x1), .v (.sl 1), .v (.int .i64 x3)] [.rows 6 false xl0, .rows 6 true xl1] = spec_l30Entries.l3 k x1 xl0 (fun (zl1 : List T_impl_Stored) => K (.exit 0) (stOf [(5, [some 6])] [.v (.sl 1)] [.rows 6 false xl0, .rows 6 true zl1])) n x3 xl1
  | 0, _, _ => rfl
  | n + 1, x3, xl1 => (show loopN 1 (Code.den ti (spec_l30Entries.Γ k) (spec_l30Entries.LH k) (loopAt Tryz.f40 0)) [(0, [some 6]), (1, []), (5, [some 6]), (6, [])] [(5, [some 6])] K (n + 1) [.v (.sl 0), .v (.int .i64 x1), .v (.sl 1), .v (.int .i64 x3)] [.rows 6 false xl0, .rows 6 true xl1] = spec_l30Entries.L3 k x1 xl0 (fun (zl1 : List T_impl_Stored) => K (.exit 0) (stOf [(5, [some 6])] [.v (.sl 1)] [.rows 6 false xl0, .rows 6 true zl1])) (fun (x3' : Int) (xl1' : List T_impl_Stored) => loopN 1 (Code.den ti (spec_l30Entries.Γ k) (spec_l30Entries.LH k) (loopAt Tryz.f40 0)) [(0, [some 6]), (1, []), (5, [some 6]), (6, [])] [(5, [some 6])] K n [.v (.sl 0), .v (.int .i64 x1), .v (.sl 1), .v (.int .i64 x3')] [.rows 6 false xl0, .rows 6 true xl1']) x3 xl1 by kernel_rfl).trans (congrArg (fun rec => spec_l30Entries.L3 k x1 xl0 (fun (zl1 : List T_impl_Stored) => K (.exit 0) (stOf [(5, [some 6])] [.v (.sl 1)] [.rows 6 false xl0, .rows 6 true zl1])) rec x3 xl1) (funext fun x3' => funext fun xl1' => spec_l30Entries.e3 K k x1 xl0 n x3' xl1'))
theorem spec_l30Entries.q3 (k : Nat) {R : Type} (K : Ex → St κ → Option R) (vs : List AV) (bs : List (Blk κ)) (r : R) (h : spec_l30Entries.h3 k K vs bs = some r) : ∃ n, loopN 1 (Code.den ti (spec_l30Entries.Γ k) (spec_l30Entries.LH k) (loopAt Tryz.f40 0)) [(0, [some 6]), (1, []), (5, [some 6]), (6, [])] [(5, [some 6])] K n vs bs = some r := by
  unfold spec_l30Entries.h3 at h
  split at h
  · obtain ⟨_, rfl, h_1⟩ := asO_bind h
    obtain ⟨_, rfl, h_2⟩ := asO_bind h_1
    exact ⟨k, (spec_l30Entries.e3 K k _ _ k _ _).trans h_2⟩
  · cases h
theorem spec_l30Entries.lok (k : Nat) : LOK ti (spec_l30Entries.Γ k) (spec_l30Entries.LH k) 1 (loopsOf (bodyOf Tryz.f40)) :=
  (show loopsOf (bodyOf Tryz.f40) = [loopAt Tryz.f40 0] by kernel_rfl) ▸ (LOK_cons (g := ⟨1, [(0, [some 6]), (1, []), (5, [some 6]), (6, [])], [(5, [some 6])], @spec_l30Entries.h3 k⟩) (by kernel_rfl) rfl (fun K vs xs r h => spec_l30Entries.q3 k K vs xs r h) (LOK_nil))
def spec_l30Entries.sig : List PSh := [.one (.ro 6), .one .sc]
def spec_l30Entries.g (y : List T_impl_Stored) : Ret κ := ⟨.v (.sl 1), [], [.rows 6 true y]⟩
def spec_l30Entries.out (r : Ret κ) : Option (List T_impl_Stored) :=
  match r with
  | ⟨.v (.sl 1), [], [q0]⟩ => (asO 6 true q0).bind fun z0 => some (z0)
  | _ => none
theorem spec_l30Entries.out_ok (r : Ret κ) (y : List T_impl_Stored) (h : spec_l30Entries.out r = some y) : r = spec_l30Entries.g y := by
  unfold spec_l30Entries.out at h
  split at h
  · obtain ⟨_, rfl, h_1⟩ := asO_bind h
    obtain rfl := Option.some.inj h_1
    rfl
  · cases h
def spec_l30Entries.body (k : Nat) (vs : List AV) (bs : List (Blk κ)) : Option (Lf κ) :=
  match vs, bs with
  | [.v (.sl 0), .v (.int .i64 a1)], [qb0] => (asO 6 false qb0).bind fun a0 => some ⟨List T_impl_Stored, spec_l30Entries.f k a0 a1, spec_l30Entries.g⟩
  | _, _ => none
def spec_l30Entries.C (k : Nat) : Nat → List AV → AP κ AV := contract spec_l30Entries.sig (spec_l30Entries.body k)
theorem spec_l30Entries.den (k : Nat) (a0 : List T_impl_Stored) (a1 : Int) : Code.den ti (spec_l30Entries.Γ k) (spec_l30Entries.LH k) (bodyOf Tryz.f40) (finK ti Tryz.f40.results.toList [(4, [some 6])] (flags spec_l30Entries.sig).length (rwI (flags spec_l30Entries.sig) 0) spec_l30Entries.out) ⟨envOf (([.v (.sl 0), .v (.int .i64 a1)]).zipIdx.map fun q => (q.2, q.1)), hpOf [.rows 6 false a0], (flags spec_l30Entries.sig).length⟩ = spec_l30Entries.f k a0 a1 := by kernel_rfl
theorem spec_l30Entries.ok (k : Nat) : CSound Tryz.prog 40 (spec_l30Entries.C k) :=
  csound κ_ok mixed tok (spec_l30Entries.hΓ k) (LH := spec_l30Entries.LH k) (fn := Tryz.f40) (c := bodyOf Tryz.f40) Tryz.func40 rfl Tryz.call40 spec_l30Entries.sig [(4, [some 6])] (spec_l30Entries.body k) (by kernel_rfl) (spec_l30Entries.lok k) (by decide) fun vs bs lf y hl hb hy => by
    unfold spec_l30Entries.body at hb
    split at hb
    · obtain ⟨_, rfl, hb_1⟩ := asO_bind hb
      obtain rfl := Option.some.inj hb_1
      exact ⟨spec_l30Entries.out, spec_l30Entries.out_ok, (spec_l30Entries.den k _ _).trans hy⟩
    · cases hb
/-! ### spec_TakeSnapshot -/
def spec_TakeSnapshot.f (k : Nat) (a0_0 : Int) (a0_1 : Int) (a0_2 : Int) (a0_3 : List T_impl_Grant) (a0_4 : List T_impl_Flow) (a0_5 : List T_impl_Rule) (a0_6 : List T_impl_Op) (a0_7 : Int) (a1 : List T_impl_Stored) : Option (Int × Int × Int × Int × List T_impl_Grant × List T_impl_Flow × List T_impl_Rule × List T_impl_Op × List T_impl_Stored) :=
  (spec_l26Copy.f k a0_0 a0_1 a0_2 a0_3 a0_4 a0_5 a0_6 a0_7).bind fun t1 => (spec_l30Entries.f k a1 a0_0).bind fun t2 => some (t1.1, t1.2.1, t1.2.2.1, t1.2.2.2.1, t1.2.2.2.2.1, t1.2.2.2.2.2.1, t1.2.2.2.2.2.2.1, t1.2.2.2.2.2.2.2, t2)
def spec_TakeSnapshot.Γ (k : Nat) : Ct κ := assoc [(39, spec_l26Copy.C k), (40, spec_l30Entries.C k)]
def spec_TakeSnapshot.LH (k : Nat) : Nat → Option (LHi κ) := assoc []
theorem spec_TakeSnapshot.hΓ (k : Nat) : ∀ f g, spec_TakeSnapshot.Γ k f = some g → CSound Tryz.prog f g := G_cons (spec_l26Copy.ok k) (G_cons (spec_l30Entries.ok k) G_nil)
theorem spec_TakeSnapshot.lok (k : Nat) : LOK ti (spec_TakeSnapshot.Γ k) (spec_TakeSnapshot.LH k) 5 (loopsOf (bodyOf Tryz.f17)) :=
  (show loopsOf (bodyOf Tryz.f17) = [] by kernel_rfl) ▸ LOK_nil
def spec_TakeSnapshot.sig : List PSh := [.agg [.sc, .sc, .sc, .ro 2, .ro 3, .ro 4, .ro 1, .sc], .one (.ro 6)]
def spec_TakeSnapshot.g (y : Int × Int × Int × Int × List T_impl_Grant × List T_impl_Flow × List T_impl_Rule × List T_impl_Op × List T_impl_Stored) : Ret κ := ⟨.agg [.int .i64 y.1, .int .i64 y.2.1, .int .i64 y.2.2.1, .sl 5, .sl 6, .sl 7, .sl 8, .int .i64 y.2.2.2.1, .sl 9], [], [.rows 2 true y.2.2.2.2.1, .rows 3 true y.2.2.2.2.2.1, .rows 4 true y.2.2.2.2.2.2.1, .rows 1 true y.2.2.2.2.2.2.2.1, .rows 6 true y.2.2.2.2.2.2.2.2]⟩
def spec_TakeSnapshot.out (r : Ret κ) : Option (Int × Int × Int × Int × List T_impl_Grant × List T_impl_Flow × List T_impl_Rule × List T_impl_Op × List T_impl_Stored) :=
  match r with
  | ⟨.agg [.int .i64 z0, .int .i64 z1, .int .i64 z2, .sl 5, .sl 6, .sl 7, .sl 8, .int .i64 z3, .sl 9], [], [q4, q5, q6, q7, q8]⟩ => (asO 2 true q4).bind fun z4 => (asO 3 true q5).bind fun z5 => (asO 4 true q6).bind fun z6 => (asO 1 true q7).bind fun z7 => (asO 6 true q8).bind fun z8 => some (z0, z1, z2, z3, z4, z5, z6, z7, z8)
  | _ => none
theorem spec_TakeSnapshot.out_ok (r : Ret κ) (y : Int × Int × Int × Int × List T_impl_Grant × List T_impl_Flow × List T_impl_Rule × List T_impl_Op × List T_impl_Stored) (h : spec_TakeSnapshot.out r = some y) : r = spec_TakeSnapshot.g y := by
  unfold spec_TakeSnapshot.out at h
  split at h
  · obtain ⟨_, rfl, h_1⟩ := asO_bind h
    obtain ⟨_, rfl, h_2⟩ := asO_bind h_1
    obtain ⟨_, rfl, h_3⟩ := asO_bind h_2
    obtain ⟨_, rfl, h_4⟩ := asO_bind h_3
    obtain ⟨_, rfl, h_5⟩ := asO_bind h_4
    obtain rfl := Option.some.inj h_5
    rfl
  · cases h
def spec_TakeSnapshot.body (k : Nat) (vs : List AV) (bs : List (Blk κ)) : Option (Lf κ) :=
  match vs, bs with
  | [.agg [.int .i64 a0_0, .int .i64 a0_1, .int .i64 a0_2, .sl 0, .sl 1, .sl 2, .sl 3, .int .i64 a0_7], .v (.sl 4)], [qb0, qb1, qb2, qb3, qb4] => (asO 2 false qb0).bind fun a0_3 => (asO 3 false qb1).bind fun a0_4 => (asO 4 false qb2).bind fun a0_5 => (asO 1 false qb3).bind fun a0_6 => (asO 6 false qb4).bind fun a1 => some ⟨Int × Int × Int × Int × List T_impl_Grant × List T_impl_Flow × List T_impl_Rule × List T_impl_Op × List T_impl_Stored, spec_TakeSnapshot.f k a0_0 a0_1 a0_2 a0_3 a0_4 a0_5 a0_6 a0_7 a1, spec_TakeSnapshot.g⟩
  | _, _ => none
def spec_TakeSnapshot.C (k : Nat) : Nat → List AV → AP κ AV := contract spec_TakeSnapshot.sig (spec_TakeSnapshot.body k)
theorem spec_TakeSnapshot.den (k : Nat) (a0_0 : Int) (a0_1 : Int) (a0_2 : Int) (a0_3 : List T_impl_Grant) (a0_4 : List T_impl_Flow) (a0_5 : List T_impl_Rule) (a0_6 : List T_impl_Op) (a0_7 : Int) (a1 : List T_impl_Stored) : Code.den ti (spec_TakeSnapshot.Γ k) (spec_TakeSnapshot.LH k) (bodyOf Tryz.f17) (finK ti Tryz.f17.results.toList [(4, [none, none, none, some 2, some 3, some 4, some 1, none, some 6])] (flags spec_TakeSnapshot.sig).length (rwI (flags spec_TakeSnapshot.sig) 0) spec_TakeSnapshot.out) ⟨envOf (([.agg [.int .i64 a0_0, .int .i64 a0_1, .int .i64 a0_2, .sl 0, .sl 1, .sl 2, .sl 3, .int .i64 a0_7], .v (.sl 4)]).zipIdx.map fun q => (q.2, q.1)), hpOf [.rows 2 false a0_3, .rows 3 false a0_4, .rows 4 false a0_5, .rows 1 false a0_6, .rows 6 false a1], (flags spec_TakeSnapshot.sig).length⟩ = spec_TakeSnapshot.f k a0_0 a0_1 a0_2 a0_3 a0_4 a0_5 a0_6 a0_7 a1 := by kernel_rfl
theorem spec_TakeSnapshot.ok (k : Nat) : CSound Tryz.prog 17 (spec_TakeSnapshot.C k) :=
  csound κ_ok mixed tok (spec_TakeSnapshot.hΓ k) (LH := spec_TakeSnapshot.LH k) (fn := Tryz.f17) (c := bodyOf Tryz.f17) Tryz.func17 rfl Tryz.call17 spec_TakeSnapshot.sig [(4, [none, none, none, some 2, some 3, some 4, some 1, none, some 6])] (spec_TakeSnapshot.body k) (by kernel_rfl) (spec_TakeSnapshot.lok k) (by decide) fun vs bs lf y hl hb hy => by
    unfold spec_TakeSnapshot.body at hb
    split at hb
    · obtain ⟨_, rfl, hb_1⟩ := asO_bind hb
      obtain ⟨_, rfl, hb_2⟩ := asO_bind hb_1
      obtain ⟨_, rfl, hb_3⟩ := asO_bind hb_2
      obtain ⟨_, rfl, hb_4⟩ := asO_bind hb_3
      obtain ⟨_, rfl, hb_5⟩ := asO_bind hb_4
      obtain rfl := Option.some.inj hb_5
      exact ⟨spec_TakeSnapshot.out, spec_TakeSnapshot.out_ok, (spec_TakeSnapshot.den k _ _ _ _ _ _ _ _ _).trans hy⟩
    · cases hb
/-! ### spec_DrawRestoreStore -/
def spec_DrawRestoreStore.L5 {R : Type} (k : Nat) (xl0 : List Int) (xc1_0 : Int) (xc1_1 : Int) (xc1_2 : Int) (xc1_7 : Int) (xc4_0 : Int) (xc4_1 : Int) (xc4_2 : Int) (xc4_7 : Int) (xl5 : List T_impl_Grant) (xl6 : List T_impl_Flow) (xl7 : List T_impl_Rule) (xl8 : List T_impl_Op) (xl9 : List T_impl_Stored) (xl10 : List T_impl_Grant) (xl11 : List T_impl_Flow) (xl12 : List T_impl_Rule) (xl13 : List T_impl_Op) (xl14 : List T_impl_Stored) (X0 : List T_impl_Stored → Int → Int → Option R) (rec : Int → List T_impl_Stored → Int → Int → Option R) (x4 : Int) (xl2 : List T_impl_Stored) (xc3_1 : Int) (xc3_2 : Int) : Option R :=
  (bif decide (x4 > (0 : Int)) then (spec_l1Below.f k xl0 xc3_1 xc3_2 (3 : Int)).bind fun t5 => (spec_l1Below.f k xl0 t5.2.1 t5.2.2 (4 : Int)).bind fun t6 => (spec_l1Below.f k xl0 t6.2.1 t6.2.2 (9 : Int)).bind fun t7 => (spec_PutStored.f k xl2 (w64 ((1 : Int) + t5.1)) t6.1 t7.1).bind fun t8 => (rec (w64 (x4 - (1 : Int))) t8.2 t7.2.1 t7.2.2) else (X0 xl2 xc3_1 xc3_2))
def spec_DrawRestoreStore.l5 {R : Type} (k : Nat) (xl0 : List Int) (xc1_0 : Int) (xc1_1 : Int) (xc1_2 : Int) (xc1_7 : Int) (xc4_0 : Int) (xc4_1 : Int) (xc4_2 : Int) (xc4_7 : Int) (xl5 : List T_impl_Grant) (xl6 : List T_impl_Flow) (xl7 : List T_impl_Rule) (xl8 : List T_impl_Op) (xl9 : List T_impl_Stored) (xl10 : List T_impl_Grant) (xl11 : List T_impl_Flow) (xl12 : List T_impl_Rule) (xl13 : List T_impl_Op) (xl14 : List T_impl_Stored) (X0 : List T_impl_Stored → Int → Int → Option R) : Nat → Int → List T_impl_Stored → Int → Int → Option R
  | 0 => fun _ _ _ _ => none
  | n + 1 => spec_DrawRestoreStore.L5 k xl0 xc1_0 xc1_1 xc1_2 xc1_7 xc4_0 xc4_1 xc4_2 xc4_7 xl5 xl6 xl7 xl8 xl9 xl10 xl11 xl12 xl13 xl14 X0 (spec_DrawRestoreStore.l5 k xl0 xc1_0 xc1_1 xc1_2 xc1_7 xc4_0 xc4_1 xc4_2 xc4_7 xl5 xl6 xl7 xl8 xl9 xl10 xl11 xl12 xl13 xl14 X0 n)
def spec_DrawRestoreStore.f (k : Nat) (a0 : List Int) : Option (Int × Int × Int × Int × List T_impl_Stored × List T_impl_Grant × List T_impl_Flow × List T_impl_Rule × List T_impl_Op × List T_impl_Stored) :=
  (spec_DrawTakeSnapshot.f k a0).bind fun t1 => (spec_l1New.f k a0).bind fun t2 => (spec_TakeSnapshot.f k t1.1 t1.2.1 t1.2.2.1 t1.2.2.2.2.1 t1.2.2.2.2.2.1 t1.2.2.2.2.2.2.1 t1.2.2.2.2.2.2.2.1 t1.2.2.2.1 t1.2.2.2.2.2.2.2.2).bind fun t3 => (spec_l1Below.f k a0 t2.1 t2.2 (4 : Int)).bind fun t4 => (spec_DrawRestoreStore.l5 k a0 (0 : Int) (0 : Int) (0 : Int) (0 : Int) t3.1 t3.2.1 t3.2.2.1 t3.2.2.2.1 ([] : List T_impl_Grant) ([] : List T_impl_Flow) ([] : List T_impl_Rule) ([] : List T_impl_Op) ([] : List T_impl_Stored) t3.2.2.2.2.1 t3.2.2.2.2.2.1 t3.2.2.2.2.2.2.1 t3.2.2.2.2.2.2.2.1 t3.2.2.2.2.2.2.2.2 (fun (y9 : List T_impl_Stored) (y10 : Int) (y11 : Int) => (spec_l1Once.f k a0 y10 y11 (8 : Int)).bind fun t12 => (bif t12.1 then (spec_l24Any.f k a0 t12.2.1 t12.2.2).bind fun t13 => some (t3.1, t3.2.1, t3.2.2.1, t3.2.2.2.1, y9, t3.2.2.2.2.1, t3.2.2.2.2.2.1, t3.2.2.2.2.2.2.1, t3.2.2.2.2.2.2.2.1, t13.2.2) else some (t3.1, t3.2.1, t3.2.2.1, t3.2.2.2.1, y9, t3.2.2.2.2.1, t3.2.2.2.2.2.1, t3.2.2.2.2.2.2.1, t3.2.2.2.2.2.2.2.1, t3.2.2.2.2.2.2.2.2))) k t4.1 t1.2.2.2.2.2.2.2.2 t4.2.1 t4.2.2)
def spec_DrawRestoreStore.h5 (k : Nat) {R : Type} (K : Ex → St κ → Option R) (vs : List AV) (bs : List (Blk κ)) : Option R :=
  match vs, bs with
  | [.v (.ptr 1 0 0), .v (.sl 2), .v (.ptr 3 0 0), .v (.ptr 4 0 0), .v (.int .i64 x4)], [qb0, .cells 32 [.int .i64 xc1_0, .int .i64 xc1_1, .int .i64 xc1_2, .sl 5, .sl 6, .sl 7, .sl 8, .int .i64 xc1_7, .sl 9], qb2, .cells 79 [.sl 0, .int .i64 xc3_1, .int .i64 xc3_2], .cells 32 [.int .i64 xc4_0, .int .i64 xc4_1, .int .i64 xc4_2, .sl 10, .sl 11, .sl 12, .sl 13, .int .i64 xc4_7, .sl 14], qb5, qb6, qb7, qb8, qb9, qb10, qb11, qb12, qb13, qb14] => (asO 0 false qb0).bind fun xl0 => (asO 6 true qb2).bind fun xl2 => (asO 2 true qb5).bind fun xl5 => (asO 3 true qb6).bind fun xl6 => (asO 4 true qb7).bind fun xl7 => (asO 1 true qb8).bind fun xl8 => (asO 6 true qb9).bind fun xl9 => (asO 2 true qb10).bind fun xl10 => (asO 3 true qb11).bind fun xl11 => (asO 4 true qb12).bind fun xl12 => (asO 1 true qb13).bind fun xl13 => (asO 6 true qb14).bind fun xl14 => spec_DrawRestoreStore.l5 k xl0 xc1_0 xc1_1 xc1_2 xc1_7 xc4_0 xc4_1 xc4_2 xc4_7 xl5 xl6 xl7 xl8 xl9 xl10 xl11 xl12 xl13 xl14 (fun (zl2 : List T_impl_Stored) (zc3_1 : Int) (zc3_2 : Int) => K (.exit 0) (stOf [(3, [none, none, none, some 2, some 3, some 4, some 1, none, some 6]), (5, [some 6]), (6, [some 0, none, none]), (7, [none, none, none, some 2, some 3, some 4, some 1, none, some 6])] [.v (.ptr 1 0 0), .v (.sl 2), .v (.ptr 3 0 0), .v (.ptr 4 0 0)] [.rows 0 false xl0, .cells 32 [.int .i64 xc1_0, .int .i64 xc1_1, .int .i64 xc1_2, .sl 5, .sl 6, .sl 7, .sl 8, .int .i64 xc1_7, .sl 9], .rows 6 true zl2, .cells 79 [.sl 0, .int .i64 zc3_1, .int .i64 zc3_2], .cells 32 [.int .i64 xc4_0, .int .i64 xc4_1, .int .i64 xc4_2, .sl 10, .sl 11, .sl 12, .sl 13, .int .i64 xc4_7, .sl 14], .rows 2 true xl5, .rows 3 true xl6, .rows 4 true xl7, .rows 1 true xl8, .rows 6 true xl9, .rows 2 true xl10, .rows 3 true xl11, .rows 4 true xl12, .rows 1 true xl13, .rows 6 true xl14])) k x4 xl2 xc3_1 xc3_2
  | _, _ => none
def spec_DrawRestoreStore.Γ (k : Nat) : Ct κ := assoc [(15, spec_DrawTakeSnapshot.C k), (16, spec_l1New.C k), (17, spec_TakeSnapshot.C k), (18, spec_l1Below.C k), (19, spec_PutStored.C k), (20, spec_l1Once.C k), (21, spec_l24Any.C k)]
def spec_DrawRestoreStore.LH (k : Nat) : Nat → Option (LHi κ) := assoc [(5, ⟨1, [(3, [none, none, none, some 2, some 3, some 4, some 1, none, some 6]), (5, [some 6]), (6, [some 0, none, none]), (7, [none, none, none, some 2, some 3, some 4, some 1, none, some 6]), (8, [])], [(3, [none, none, none, some 2, some 3, some 4, some 1, none, some 6]), (5, [some 6]), (6, [some 0, none, none]), (7, [none, none, none, some 2, some 3, some 4, some 1, none, some 6])], @spec_DrawRestoreStore.h5 k⟩)]
theorem spec_DrawRestoreStore.hΓ (k : Nat) : ∀ f g, spec_DrawRestoreStore.Γ k f = some g → CSound Tryz.prog f g := G_cons (spec_DrawTakeSnapshot.ok k) (G_cons (spec_l1New.ok k) (G_cons (spec_TakeSnapshot.ok k) (G_cons (spec_l1Below.ok k) (G_cons (spec_PutStored.ok k) (G_cons (spec_l1Once.ok k) (G_cons (spec_l24Any.ok k) G_nil))))))
theorem spec_DrawRestoreStore.e5 {R : Type} (K : Ex → St κ → Option R) (k : Nat) (xl0 : List Int) (xc1_0 : Int) (xc1_1 : Int) (xc1_2 : Int) (xc1_7 : Int) (xc4_0 : Int) (xc4_1 : Int) (xc4_2 : Int) (xc4_7 : Int) (xl5 : List T_impl_Grant) (xl6 : List T_impl_Flow) (xl7 : List T_impl_Rule) (xl8 : List T_impl_Op) (xl9 : List T_impl_Stored) (xl10 : List T_impl_Grant) (xl11 : List T_impl_Flow) (xl12 : List T_impl_Rule) (xl13 : List T_impl_Op) (xl14 : List T_impl_Stored) : ∀ (n : Nat) (x4 : Int) (xl2 : List T_impl_Stored) (xc3_1 : Int) (xc3_2 : Int), loopN 1 (Code.den ti (spec_DrawRestoreStore.Γ k) (spec_DrawRestoreStore.LH k) (loopAt Tryz.f5 0)) [(3, [none, none, none, some 2, some 3, some 4, some 1, none, some 6]), (5, [some 6]), (6, [some 0, none, none]), (7, [none, none, none, some 2, some 3, some 4, some 1, none, some 6]), (8, [])] [(3, [none, none, none, some 2, some 3, some 4, some 1, none, some 6]), (5, [some 6]), (6, [some 0, none, none]), (7, [none, none, none, some 2, some 3, some 4, some 1, none, some 6])] K n [.v (.ptr 1 0 0), .v (.sl 2), .v (.ptr 3 0 0), .v (.ptr 4 0 0), .v (.int .i64 x4)] [.rows 0 false xl0, .cells 32 [.int .i64 xc1_0, .int .i64 xc1_1, .int .i64 xc1_2, .sl 5, .sl 6, .sl 7, .sl 8, .int .i64 xc1_7, .sl 9], .rows 6 true xl2, .cells 79 [.sl 0, .int .i64 xc3_1, .int .i64 xc3_2], .cells 32 [.int .i64 xc4_0, .int .i64 xc4_1, .int .i64 xc4_2, .sl 10, .sl 11, .sl 12, .sl 13, .int .i64 xc4_7, .sl 14], .rows 2 true xl5, .rows 3 true xl6, .rows 4 true xl7, .rows 1 true xl8, .rows 6 true xl9, .rows 2 true xl10, .rows 3 true xl11, .rows 4 true xl12, .rows 1 true xl13, .rows 6 true xl14] = spec_DrawRestoreStore.l5 k xl0 xc1_0 xc1_1 xc1_2 xc1_7 xc4_0 xc4_1 xc4_2 xc4_7 xl5 xl6 xl7 xl8 xl9 xl10 xl11 xl12 xl13 xl14 (fun (zl2 : List T_impl_Stored) (zc3_1 : Int) (zc3_2 : Int) => K (.exit 0) (stOf [(3, [none, none, none, some 2, some 3, some 4, some 1, none, some 6]), (5, [some 6]), (6, [some 0, none, none]), (7, [none, none, none, some 2, some 3, some 4, some 1, none, some 6])] [.v (.ptr 1 0 0), .v (.sl 2), .v (.ptr 3 0 0), .v (.ptr 4 0 0)] [.rows 0 false xl0, .cells 32 [.int .i64 xc1_0, .int .i64 xc1_1, .int .i64 xc1_2, .sl 5, .sl 6, .sl 7, .sl 8, .int .i64 xc1_7, .sl 9], .rows 6 true zl2, .cells 79 [.sl 0, .int .i64 zc3_1, .int .i64 zc3_2], .cells 32 [.int .i64 xc4_0, .int .i64 xc4_1, .int .i64 xc4_2, .sl 10, .sl 11, .sl 12, .sl 13, .int .i64 xc4_7, .sl 14], .rows 2 true xl5, .rows 3 true xl6, .rows 4 true xl7, .rows 1 true xl8, .rows 6 true xl9, .rows 2 true xl10, .rows 3 true xl11, .rows 4 true xl12, .rows 1 true xl13, .rows 6 true xl14])) n x4 xl2 xc3_1 xc3_2
  | 0, _, _, _, _ => rfl
  | n + 1, x4, xl2, xc3_1, xc3_2 => (show loopN 1 (Code.den ti (spec_DrawRestoreStore.Γ k) (spec_DrawRestoreStore.LH k) (loopAt Tryz.f5 0)) [(3, [none, none, none, some 2, some 3, some 4, some 1, none, some 6]), (5, [some 6]), (6, [some 0, none, none]), (7, [none, none, none, some 2, some 3, some 4, some 1, none, some 6]), (8, [])] [(3, [none, none, none, some 2, some 3, some 4, some 1, none, some 6]), (5, [some 6]), (6, [some 0, none, none]), (7, [none, none, none, some 2, some 3, some 4, some 1, none, some 6])] K (n + 1) [.v (.ptr 1 0 0), .v (.sl 2), .v (.ptr 3 0 0), .v (.ptr 4 0 0), .v (.int .i64 x4)] [.rows 0 false xl0, .cells 32 [.int .i64 xc1_0, .int .i64 xc1_1, .int .i64 xc1_2, .sl 5, .sl 6, .sl 7, .sl 8, .int .i64 xc1_7, .sl 9], .rows 6 true xl2, .cells 79 [.sl 0, .int .i64 xc3_1, .int .i64 xc3_2], .cells 32 [.int .i64 xc4_0, .int .i64 xc4_1, .int .i64 xc4_2, .sl 10, .sl 11, .sl 12, .sl 13, .int .i64 xc4_7, .sl 14], .rows 2 true xl5, .rows 3 true xl6, .rows 4 true xl7, .rows 1 true xl8, .rows 6 true xl9, .rows 2 true xl10, .rows 3 true xl11, .rows 4 true xl12, .rows 1 true xl13, .rows 6 true xl14] = spec_DrawRestoreStore.L5 k xl0 xc1_0 xc1_1 xc1_2 xc1_7 xc4_0 xc4_1 xc4_2 xc4_7 xl5 xl6 xl7 xl8 xl9 xl10 xl11 xl12 xl13 xl14 (fun (zl2 : List T_impl_Stored) (zc3_1 : Int) (zc3_2 : Int) => K (.exit 0) (stOf [(3, [none, none, none, some 2, some 3, some 4, some 1, none, some 6]), (5, [some 6]), (6, [some 0, none, none]), (7, [none, none, none, some 2, some 3, some 4, some 1, none, some 6])] [.v (.ptr 1 0 0), .v (.sl 2), .v (.ptr 3 0 0), .v (.ptr 4 0 0)] [.rows 0 false xl0, .cells 32 [.int .i64 xc1_0, .int .i64 xc1_1, .int .i64 xc1_2, .sl 5, .sl 6, .sl 7, .sl 8, .int .i64 xc1_7, .sl 9], .rows 6 true zl2, .cells 79 [.sl 0, .int .i64 zc3_1, .int .i64 zc3_2], .cells 32 [.int .i64 xc4_0, .int .i64 xc4_1, .int .i64 xc4_2, .sl 10, .sl 11, .sl 12, .sl 13, .int .i64 xc4_7, .sl 14], .rows 2 true xl5, .rows 3 true xl6, .rows 4 true xl7, .rows 1 true xl8, .rows 6 true xl9, .rows 2 true xl10, .rows 3 true xl11, .rows 4 true xl12, .rows 1 true xl13, .rows 6 true xl14])) (fun (x4' : Int) (xl2' : List T_impl_Stored) (xc3_1' : Int) (xc3_2' : Int) => loopN 1 (Code.den ti (spec_DrawRestoreStore.Γ k) (spec_DrawRestoreStore.LH k) (loopAt Tryz.f5 0)) [(3, [none, none, none, some 2, some 3, some 4, some 1, none, some 6]), (5, [some 6]), (6, [some 0, none, none]), (7, [none, none, none, some 2, some 3, some 4, some 1, none, some 6]), (8, [])] [(3, [none, none, none, some 2, some 3, some 4, some 1, none, some 6]), (5, [some 6]), (6, [some 0, none, none]), (7, [none, none, none, some 2, some 3, some 4, some 1, none, some 6])] K n [.v (.ptr 1 0 0), .v (.sl 2), .v (.ptr 3 0 0), .v (.ptr 4 0 0), .v (.int .i64 x4')] [.rows 0 false xl0, .cells 32 [.int .i64 xc1_0, .int .i64 xc1_1, .int .i64 xc1_2, .sl 5, .sl 6, .sl 7, .sl 8, .int .i64 xc1_7, .sl 9], .rows 6 true xl2', .cells 79 [.sl 0, .int .i64 xc3_1', .int .i64 xc3_2'], .cells 32 [.int .i64 xc4_0, .int .i64 xc4_1, .int .i64 xc4_2, .sl 10, .sl 11, .sl 12, .sl 13, .int .i64 xc4_7, .sl 14], .rows 2 true xl5, .rows 3 true xl6, .rows 4 true xl7, .rows 1 true xl8, .rows 6 true xl9, .rows 2 true xl10, .rows 3 true xl11, .rows 4 true xl12, .rows 1 true xl13, .rows 6 true xl14]) x4 xl2 xc3_1 xc3_2 by kernel_rfl).trans (congrArg (fun rec => spec_DrawRestoreStore.L5 k xl0 xc1_0 xc1_1 xc1_2 xc1_7 xc4_0 xc4_1 xc4_2 xc4_7 xl5 xl6 xl7 xl8 xl9 xl10 xl11 xl12 xl13 xl14 (fun (zl2 : List T_impl_Stored) (zc3_1 : Int) (zc3_2 : Int) => K (.exit 0) (stOf [(3, [none, none, none, some 2, some 3, some 4, some 1, none, some 6]), (5, [some 6]), (6, [some 0, none, none]), (7, [none, none, none, some 2, some 3, some 4, some 1, none, some 6])] [.v (.ptr 1 0 0), .v (.sl 2), .v (.ptr 3 0 0), .v (.ptr 4 0 0)] [.rows 0 false xl0, .cells 32 [.int .i64 xc1_0, .int .i64 xc1_1, .int .i64 xc1_2, .sl 5, .sl 6, .sl 7, .sl 8, .int .i64 xc1_7, .sl 9], .rows 6 true zl2, .cells 79 [.sl 0, .int .i64 zc3_1, .int .i64 zc3_2], .cells 32 [.int .i64 xc4_0, .int .i64 xc4_1, .int .i64 xc4_2, .sl 10, .sl 11, .sl 12, .sl 13, .int .i64 xc4_7, .sl 14], .rows 2 true xl5, .rows 3 true xl6, .rows 4 true xl7, .rows 1 true xl8, .rows 6 true xl9, .rows 2 true xl10, .rows 3 true xl11, .rows 4 true xl12, .rows 1 true xl13, .rows 6 true xl14])) rec x4 xl2 xc3_1 xc3_2) (funext fun x4' => funext fun xl2' => funext fun xc3_1' => funext fun xc3_2' => spec_DrawRestoreStore.e5 K k xl0 xc1_0 xc1_1 xc1_2 xc1_7 xc4_0 xc4_1 xc4_2 xc4_7 xl5 xl6 xl7 xl8 xl9 xl10 xl11 xl12 xl13 xl14 n x4' xl2' xc3_1' xc3_2'))
theorem spec_DrawRestoreStore.q5 (k : Nat) {R : Type} (K : Ex → St κ → Option R) (vs : List AV) (bs : List (Blk κ)) (r : R) (h : spec_DrawRestoreStore.h5 k K vs bs = some r) : ∃ n, loopN 1 (Code.den ti (spec_DrawRestoreStore.Γ k) (spec_DrawRestoreStore.LH k) (loopAt Tryz.f5 0)) [(3, [none, none, none, some 2, some 3, some 4, some 1, none, some 6]), (5, [some 6]), (6, [some 0, none, none]), (7, [none, none, none, some 2, some 3, some 4, some 1, none, some 6]), (8, [])] [(3, [none, none, none, some 2, some 3, some 4, some 1, none, some 6]), (5, [some 6]), (6, [some 0, none, none]), (7, [none, none, none, some 2, some 3, some 4, some 1, none, some 6])] K n vs bs = some r := by
  unfold spec_DrawRestoreStore.h5 at h
  split at h
  · obtain ⟨_, rfl, h_1⟩ := asO_bind h
    obtain ⟨_, rfl, h_2⟩ := asO_bind h_1
    obtain ⟨_, rfl, h_3⟩ := asO_bind h_2
    obtain ⟨_, rfl, h_4⟩ := asO_bind h_3
    obtain ⟨_, rfl, h_5⟩ := asO_bind h_4
    obtain ⟨_, rfl, h_6⟩ := asO_bind h_5
    obtain ⟨_, rfl, h_7⟩ := asO_bind h_6
    obtain ⟨_, rfl, h_8⟩ := asO_bind h_7
    obtain ⟨_, rfl, h_9⟩ := asO_bind h_8
    obtain ⟨_, rfl, h_10⟩ := asO_bind h_9
    obtain ⟨_, rfl, h_11⟩ := asO_bind h_10
    obtain ⟨_, rfl, h_12⟩ := asO_bind h_11
    exact ⟨k, (spec_DrawRestoreStore.e5 K k _ _ _ _ _ _ _ _ _ _ _ _ _ _ _ _ _ _ _ k _ _ _ _).trans h_12⟩
  · cases h
theorem spec_DrawRestoreStore.lok (k : Nat) : LOK ti (spec_DrawRestoreStore.Γ k) (spec_DrawRestoreStore.LH k) 1 (loopsOf (bodyOf Tryz.f5)) :=
  (show loopsOf (bodyOf Tryz.f5) = [loopAt Tryz.f5 0] by kernel_rfl) ▸ (LOK_cons (g := ⟨1, [(3, [none, none, none, some 2, some 3, some 4, some 1, none, some 6]), (5, [some 6]), (6, [some 0, none, none]), (7, [none, none, none, some 2, some 3, some 4, some 1, none, some 6]), (8, [])], [(3, [none, none, none, some 2, some 3, some 4, some 1, none, some 6]), (5, [some 6]), (6, [some 0, none, none]), (7, [none, none, none, some 2, some 3, some 4, some 1, none, some 6])], @spec_DrawRestoreStore.h5 k⟩) (by kernel_rfl) rfl (fun K vs xs r h => spec_DrawRestoreStore.q5 k K vs xs r h) (LOK_nil))
def spec_DrawRestoreStore.sig : List PSh := [.one (.ro 0)]
def spec_DrawRestoreStore.g (y : Int × Int × Int × Int × List T_impl_Stored × List T_impl_Grant × List T_impl_Flow × List T_impl_Rule × List T_impl_Op × List T_impl_Stored) : Ret κ := ⟨.tup [(false, [.sl 1]), (true, [.int .i64 y.1, .int .i64 y.2.1, .int .i64 y.2.2.1, .sl 2, .sl 3, .sl 4, .sl 5, .int .i64 y.2.2.2.1, .sl 6])], [], [.rows 6 true y.2.2.2.2.1, .rows 2 true y.2.2.2.2.2.1, .rows 3 true y.2.2.2.2.2.2.1, .rows 4 true y.2.2.2.2.2.2.2.1, .rows 1 true y.2.2.2.2.2.2.2.2.1, .rows 6 true y.2.2.2.2.2.2.2.2.2]⟩
def spec_DrawRestoreStore.out (r : Ret κ) : Option (Int × Int × Int × Int × List T_impl_Stored × List T_impl_Grant × List T_impl_Flow × List T_impl_Rule × List T_impl_Op × List T_impl_Stored) :=
  match r with
  | ⟨.tup [(false, [.sl 1]), (true, [.int .i64 z0, .int .i64 z1, .int .i64 z2, .sl 2, .sl 3, .sl 4, .sl 5, .int .i64 z3, .sl 6])], [], [q4, q5, q6, q7, q8, q9]⟩ => (asO 6 true q4).bind fun z4 => (asO 2 true q5).bind fun z5 => (asO 3 true q6).bind fun z6 => (asO 4 true q7).bind fun z7 => (asO 1 true q8).bind fun z8 => (asO 6 true q9).bind fun z9 => some (z0, z1, z2, z3, z4, z5, z6, z7, z8, z9)
  | _ => none
theorem spec_DrawRestoreStore.out_ok (r : Ret κ) (y : Int × Int × Int × Int × List T_impl_Stored × List T_impl_Grant × List T_impl_Flow × List T_impl_Rule × List T_impl_Op × List T_impl_Stored) (h : spec_DrawRestoreStore.out r = some y) : r = spec_DrawRestoreStore.g y := by
  unfold spec_DrawRestoreStore.out at h
  split at h
  · obtain ⟨_, rfl, h_1⟩ := asO_bind h
    obtain ⟨_, rfl, h_2⟩ := asO_bind h_1
    obtain ⟨_, rfl, h_3⟩ := asO_bind h_2
    obtain ⟨_, rfl, h_4⟩ := asO_bind h_3
    obtain ⟨_, rfl, h_5⟩ := asO_bind h_4
    obtain ⟨_, rfl, h_6⟩ := asO_bind h_5
    obtain rfl := Option.some.inj h_6
    rfl
  · cases h
def spec_DrawRestoreStore.body (k : Nat) (vs : List AV) (bs : List (Blk κ)) : Option (Lf κ) :=
  match vs, bs with
  | [.v (.sl 0)], [qb0] => (asO 0 false qb0).bind fun a0 => some ⟨Int × Int × Int × Int × List T_impl_Stored × List T_impl_Grant × List T_impl_Flow × List T_impl_Rule × List T_impl_Op × List T_impl_Stored, spec_DrawRestoreStore.f k a0, spec_DrawRestoreStore.g⟩
  | _, _ => none
def spec_DrawRestoreStore.C (k : Nat) : Nat → List AV → AP κ AV := contract spec_DrawRestoreStore.sig (spec_DrawRestoreStore.body k)
theorem spec_DrawRestoreStore.den (k : Nat) (a0 : List Int) : Code.den ti (spec_DrawRestoreStore.Γ k) (spec_DrawRestoreStore.LH k) (bodyOf Tryz.f5) (finK ti Tryz.f5.results.toList [(2, [some 6]), (3, [none, none, none, some 2, some 3, some 4, some 1, none, some 6])] (flags spec_DrawRestoreStore.sig).length (rwI (flags spec_DrawRestoreStore.sig) 0) spec_DrawRestoreStore.out) ⟨envOf (([.v (.sl 0)]).zipIdx.map fun q => (q.2, q.1)), hpOf [.rows 0 false a0], (flags spec_DrawRestoreStore.sig).length⟩ = spec_DrawRestoreStore.f k a0 := by kernel_rfl
theorem spec_DrawRestoreStore.ok (k : Nat) : CSound Tryz.prog 5 (spec_DrawRestoreStore.C k) :=
  csound κ_ok mixed tok (spec_DrawRestoreStore.hΓ k) (LH := spec_DrawRestoreStore.LH k) (fn := Tryz.f5) (c := bodyOf Tryz.f5) Tryz.func5 rfl Tryz.call5 spec_DrawRestoreStore.sig [(2, [some 6]), (3, [none, none, none, some 2, some 3, some 4, some 1, none, some 6])] (spec_DrawRestoreStore.body k) (by kernel_rfl) (spec_DrawRestoreStore.lok k) (by decide) fun vs bs lf y hl hb hy => by
    unfold spec_DrawRestoreStore.body at hb
    split at hb
    · obtain ⟨_, rfl, hb_1⟩ := asO_bind hb
      obtain rfl := Option.some.inj hb_1
      exact ⟨spec_DrawRestoreStore.out, spec_DrawRestoreStore.out_ok, (spec_DrawRestoreStore.den k _).trans hy⟩
    · cases hb
/-! ### impl_InRange -/
def impl_InRange.f (k : Nat) (a0 : Int) (a1 : Int) (a2 : Int) : Option Bool :=
  (bif decide (a1 ≤ a0) then some (decide (a0 ≤ a2)) else some false)
def impl_InRange.Γ (k : Nat) : Ct κ := assoc []
def impl_InRange.LH (k : Nat) : Nat → Option (LHi κ) := assoc []
theorem impl_InRange.hΓ (k : Nat) : ∀ f g, impl_InRange.Γ k f = some g → CSound Tryz.prog f g := G_nil
theorem impl_InRange.lok (k : Nat) : LOK ti (impl_InRange.Γ k) (impl_InRange.LH k) 0 (loopsOf (bodyOf Tryz.f27)) :=
  (show loopsOf (bodyOf Tryz.f27) = [] by kernel_rfl) ▸ LOK_nil
def impl_InRange.sig : List PSh := [.one .sc, .one .sc, .one .sc]
def impl_InRange.g (y : Bool) : Ret κ := ⟨.v (.bool y), [], []⟩
def impl_InRange.out (r : Ret κ) : Option Bool :=
  match r with
  | ⟨.v (.bool z0), [], []⟩ => some (z0)
  | _ => none
theorem impl_InRange.out_ok (r : Ret κ) (y : Bool) (h : impl_InRange.out r = some y) : r = impl_InRange.g y := by
  unfold impl_InRange.out at h
  split at h
  · obtain rfl := Option.some.inj h
    rfl
  · cases h
def impl_InRange.body (k : Nat) (vs : List AV) (bs : List (Blk κ)) : Option (Lf κ) :=
  match vs, bs with
  | [.v (.int .i64 a0), .v (.int .i64 a1), .v (.int .i64 a2)], [] => some ⟨Bool, impl_InRange.f k a0 a1 a2, impl_InRange.g⟩
  | _, _ => none
def impl_InRange.C (k : Nat) : Nat → List AV → AP κ AV := contract impl_InRange.sig (impl_InRange.body k)
theorem impl_InRange.den (k : Nat) (a0 : Int) (a1 : Int) (a2 : Int) : Code.den ti (impl_InRange.Γ k) (impl_InRange.LH k) (bodyOf Tryz.f27) (finK ti Tryz.f27.results.toList [] (flags impl_InRange.sig).length (rwI (flags impl_InRange.sig) 0) impl_InRange.out) ⟨envOf (([.v (.int .i64 a0), .v (.int .i64 a1), .v (.int .i64 a2)]).zipIdx.map fun q => (q.2, q.1)), hpOf [], (flags impl_InRange.sig).length⟩ = impl_InRange.f k a0 a1 a2 := by kernel_rfl
theorem impl_InRange.ok (k : Nat) : CSound Tryz.prog 27 (impl_InRange.C k) :=
  csound κ_ok mixed tok (impl_InRange.hΓ k) (LH := impl_InRange.LH k) (fn := Tryz.f27) (c := bodyOf Tryz.f27) Tryz.func27 rfl Tryz.call27 impl_InRange.sig [] (impl_InRange.body k) (by kernel_rfl) (impl_InRange.lok k) (by decide) fun vs bs lf y hl hb hy => by
    unfold impl_InRange.body at hb
    split at hb
    · obtain rfl := Option.some.inj hb
      exact ⟨impl_InRange.out, impl_InRange.out_ok, (impl_InRange.den k _ _ _).trans hy⟩
    · cases hb
/-! ### cmp_isNaN_int -/
def cmp_isNaN_int.f (k : Nat) (a0 : Int) : Option Bool :=
  some (a0 != a0)
def cmp_isNaN_int.Γ (k : Nat) : Ct κ := assoc []
def cmp_isNaN_int.LH (k : Nat) : Nat → Option (LHi κ) := assoc []
theorem cmp_isNaN_int.hΓ (k : Nat) : ∀ f g, cmp_isNaN_int.Γ k f = some g → CSound Tryz.prog f g := G_nil
theorem cmp_isNaN_int.lok (k : Nat) : LOK ti (cmp_isNaN_int.Γ k) (cmp_isNaN_int.LH k) 0 (loopsOf (bodyOf Tryz.f86)) :=
  (show loopsOf (bodyOf Tryz.f86) = [] by kernel_rfl) ▸ LOK_nil
def cmp_isNaN_int.sig : List PSh := [.one .sc]
def cmp_isNaN_int.g (y : Bool) : Ret κ := ⟨.v (.bool y), [], []⟩
def cmp_isNaN_int.out (r : Ret κ) : Option Bool :=
  match r with
  | ⟨.v (.bool z0), [], []⟩ => some (z0)
  | _ => none
theorem cmp_isNaN_int.out_ok (r : Ret κ) (y : Bool) (h : cmp_isNaN_int.out r = some y) : r = cmp_isNaN_int.g y := by
  unfold cmp_isNaN_int.out at h
  split at h
  · obtain rfl := Option.some.inj h
    rfl
  · cases h
def cmp_isNaN_int.body (k : Nat) (vs : List AV) (bs : List (Blk κ)) : Option (Lf κ) :=
  match vs, bs with
  | [.v (.int .i64 a0)], [] => some ⟨Bool, cmp_isNaN_int.f k a0, cmp_isNaN_int.g⟩
  | _, _ => none
def cmp_isNaN_int.C (k : Nat) : Nat → List AV → AP κ AV := contract cmp_isNaN_int.sig (cmp_isNaN_int.body k)
theorem cmp_isNaN_int.den (k : Nat) (a0 : Int) : Code.den ti (cmp_isNaN_int.Γ k) (cmp_isNaN_int.LH k) (bodyOf Tryz.f86) (finK ti Tryz.f86.results.toList [] (flags cmp_isNaN_int.sig).length (rwI (flags cmp_isNaN_int.sig) 0) cmp_isNaN_int.out) ⟨envOf (([.v (.int .i64 a0)]).zipIdx.map fun q => (q.2, q.1)), hpOf [], (flags cmp_isNaN_int.sig).length⟩ = cmp_isNaN_int.f k a0 := by kernel_rfl
theorem cmp_isNaN_int.ok (k : Nat) : CSound Tryz.prog 86 (cmp_isNaN_int.C k) :=
  csound κ_ok mixed tok (cmp_isNaN_int.hΓ k) (LH := cmp_isNaN_int.LH k) (fn := Tryz.f86) (c := bodyOf Tryz.f86) Tryz.func86 rfl Tryz.call86 cmp_isNaN_int.sig [] (cmp_isNaN_int.body k) (by kernel_rfl) (cmp_isNaN_int.lok k) (by decide) fun vs bs lf y hl hb hy => by
    unfold cmp_isNaN_int.body at hb
    split at hb
    · obtain rfl := Option.some.inj hb
      exact ⟨cmp_isNaN_int.out, cmp_isNaN_int.out_ok, (cmp_isNaN_int.den k _).trans hy⟩
    · cases hb
/-! ### cmp_Compare_int -/
def cmp_Compare_int.f (k : Nat) (a0 : Int) (a1 : Int) : Option Int :=
  (cmp_isNaN_int.f k a0).bind fun t1 => (cmp_isNaN_int.f k a1).bind fun t2 => (bif t1 then (bif t2 then some (0 : Int) else some (-1 : Int)) else (bif t2 then some (1 : Int) else (bif decide (a0 < a1) then some (-1 : Int) else (bif decide (a0 > a1) then some (1 : Int) else some (0 : Int)))))
def cmp_Compare_int.Γ (k : Nat) : Ct κ := assoc [(86, cmp_isNaN_int.C k)]
def cmp_Compare_int.LH (k : Nat) : Nat → Option (LHi κ) := assoc []
theorem cmp_Compare_int.hΓ (k : Nat) : ∀ f g, cmp_Compare_int.Γ k f = some g → CSound Tryz.prog f g := G_cons (cmp_isNaN_int.ok k) G_nil
theorem cmp_Compare_int.lok (k : Nat) : LOK ti (cmp_Compare_int.Γ k) (cmp_Compare_int.LH k) 0 (loopsOf (bodyOf Tryz.f50)) :=
  (show loopsOf (bodyOf Tryz.f50) = [] by kernel_rfl) ▸ LOK_nil
def cmp_Compare_int.sig : List PSh := [.one .sc, .one .sc]
def cmp_Compare_int.g (y : Int) : Ret κ := ⟨.v (.int .i64 y), [], []⟩
def cmp_Compare_int.out (r : Ret κ) : Option Int :=
  match r with
  | ⟨.v (.int .i64 z0), [], []⟩ => some (z0)
  | _ => none
theorem cmp_Compare_int.out_ok (r : Ret κ) (y : Int) (h : cmp_Compare_int.out r = some y) : r = cmp_Compare_int.g y := by
  unfold cmp_Compare_int.out at h
  split at h
  · obtain rfl := Option.some.inj h
    rfl
  · cases h
def cmp_Compare_int.body (k : Nat) (vs : List AV) (bs : List (Blk κ)) : Option (Lf κ) :=
  match vs, bs with
  | [.v (.int .i64 a0), .v (.int .i64 a1)], [] => some ⟨Int, cmp_Compare_int.f k a0 a1, cmp_Compare_int.g⟩
  | _, _ => none
def cmp_Compare_int.C (k : Nat) : Nat → List AV → AP κ AV := contract cmp_Compare_int.sig (cmp_Compare_int.body k)
theorem cmp_Compare_int.den (k : Nat) (a0 : Int) (a1 : Int) : Code.den ti (cmp_Compare_int.Γ k) (cmp_Compare_int.LH k) (bodyOf Tryz.f50) (finK ti Tryz.f50.results.toList [] (flags cmp_Compare_int.sig).length (rwI (flags cmp_Compare_int.sig) 0) cmp_Compare_int.out) ⟨envOf (([.v (.int .i64 a0), .v (.int .i64 a1)]).zipIdx.map fun q => (q.2, q.1)), hpOf [], (flags cmp_Compare_int.sig).length⟩ = cmp_Compare_int.f k a0 a1 := by kernel_rfl
theorem cmp_Compare_int.ok (k : Nat) : CSound Tryz.prog 50 (cmp_Compare_int.C k) :=
  csound κ_ok mixed tok (cmp_Compare_int.hΓ k) (LH := cmp_Compare_int.LH k) (fn := Tryz.f50) (c := bodyOf Tryz.f50) Tryz.func50 rfl Tryz.call50 cmp_Compare_int.sig [] (cmp_Compare_int.body k) (by kernel_rfl) (cmp_Compare_int.lok k) (by decide) fun vs bs lf y hl hb hy => by
    unfold cmp_Compare_int.body at hb
    split at hb
    · obtain rfl := Option.some.inj hb
      exact ⟨cmp_Compare_int.out, cmp_Compare_int.out_ok, (cmp_Compare_int.den k _ _).trans hy⟩
    · cases hb
/-! ### cmp_Or_int -/
def cmp_Or_int.L3 {R : Type} (k : Nat) (x0 : Int) (x2 : Int) (xl0 : List Int) (X0 : Int → Option R) (X1 : Unit → Option R) (rec : Int → Option R) (x3 : Int) : Option R :=
  (bif decide (x3 < x2) then (bif decide (0 ≤ x3) then (bif decide (x3 < (xl0.length : Int)) then (bif ((rd_i64 xl0 x3) != x0) then (X0 (rd_i64 xl0 x3)) else (rec (w64 (x3 + (1 : Int))))) else none) else none) else (X1 ()))
def cmp_Or_int.l3 {R : Type} (k : Nat) (x0 : Int) (x2 : Int) (xl0 : List Int) (X0 : Int → Option R) (X1 : Unit → Option R) : Nat → Int → Option R
  | 0 => fun _ => none
  | n + 1 => cmp_Or_int.L3 k x0 x2 xl0 X0 X1 (cmp_Or_int.l3 k x0 x2 xl0 X0 X1 n)
def cmp_Or_int.f (k : Nat) (a0 : List Int) : Option Int :=
  (cmp_Or_int.l3 k (0 : Int) (a0.length : Int) a0 (fun (y1 : Int) => some y1) (fun (_ : Unit) => some (0 : Int)) k (0 : Int))
def cmp_Or_int.h3 (k : Nat) {R : Type} (K : Ex → St κ → Option R) (vs : List AV) (bs : List (Blk κ)) : Option R :=
  match vs, bs with
  | [.v (.int .i64 x0), .v (.sl 0), .v (.int .i64 x2), .v (.int .i64 x3)], [qb0] => (asO 5 false qb0).bind fun xl0 => cmp_Or_int.l3 k x0 x2 xl0 (fun (z0 : Int) => K .ret (stOf [(2, []), (3, [])] [.v (.int .i64 z0), .v (.int .i64 x0)] [.rows 5 false xl0])) (fun (_ : Unit) => K (.exit 0) (stOf [(2, []), (3, [])] [.v .any, .v (.int .i64 x0)] [.rows 5 false xl0])) k x3
  | _, _ => none
def cmp_Or_int.Γ (k : Nat) : Ct κ := assoc []
def cmp_Or_int.LH (k : Nat) : Nat → Option (LHi κ) := assoc [(3, ⟨1, [(3, []), (6, [some 5]), (7, []), (8, [])], [(2, []), (3, [])], @cmp_Or_int.h3 k⟩)]
theorem cmp_Or_int.hΓ (k : Nat) : ∀ f g, cmp_Or_int.Γ k f = some g → CSound Tryz.prog f g := G_nil
theorem cmp_Or_int.e3 {R : Type} (K : Ex → St κ → Option R) (k : Nat) (x0 : Int) (x2 : Int) (xl0 : List Int) : ∀ (n : Nat) (x3 : Int), loopN 1 (Code.den ti (cmp_Or_int.Γ k) (cmp_Or_int.LH k) (loopAt Tryz.f49 0)) [(3, []), (6, [some 5]), (7, []), (8, [])] [(2, []), (3, [])] K n [.v (.int .i64 x0), .v (.sl 0), .v (.int .i64 x2), .v (.int .i64 x3)] [.rows 5 false xl0] = cmp_Or_int.l3 k x0 x2 xl0 (fun (z0 : Int) => K .ret (stOf [(2, []), (3, [])] [.v (.int .i64 z0), .v (.int .i64 x0)] [.rows 5 false xl0])) (fun (_ : Unit) => K (.exit 0) (stOf [(2, []), (3, [])] [.v .any, .v (.int .i64 x0)] [.rows 5 false xl0])) n x3
  | 0, _ => rfl
  | n + 1, x3 => (show loopN 1 (Code.den ti (cmp_Or_int.Γ k) (cmp_Or_int.LH k) (loopAt Tryz.f49 0)) [(3, []), (6, [some 5]), (7, []), (8, [])] [(2, []), (3, [])] K (n + 1) [.v (.int .i64 x0), .v (.sl 0), .v (.int .i64 x2), .v (.int .i64 x3)] [.rows 5 false xl0] = cmp_Or_int.L3 k x0 x2 xl0 (fun (z0 : Int) => K .ret (stOf [(2, []), (3, [])] [.v (.int .i64 z0), .v (.int .i64 x0)] [.rows 5 false xl0])) (fun (_ : Unit) => K (.exit 0) (stOf [(2, []), (3, [])] [.v .any, .v (.int .i64 x0)] [.rows 5 false xl0])) (fun (x3' : Int) => loopN 1 (Code.den ti (cmp_Or_int.Γ k) (cmp_Or_int.LH k) (loopAt Tryz.f49 0)) [(3, []), (6, [some 5]), (7, []), (8, [])] [(2, []), (3, [])] K n [.v (.int .i64 x0), .v (.sl 0), .v (.int .i64 x2), .v (.int .i64 x3')] [.rows 5 false xl0]) x3 by kernel_rfl).trans (congrArg (fun rec => cmp_Or_int.L3 k x0 x2 xl0 (fun (z0 : Int) => K .ret (stOf [(2, []), (3, [])] [.v (.int .i64 z0), .v (.int .i64 x0)] [.rows 5 false xl0])) (fun (_ : Unit) => K (.exit 0) (stOf [(2, []), (3, [])] [.v .any, .v (.int .i64 x0)] [.rows 5 false xl0])) rec x3) (funext fun x3' => cmp_Or_int.e3 K k x0 x2 xl0 n x3'))
theorem cmp_Or_int.q3 (k : Nat) {R : Type} (K : Ex → St κ → Option R) (vs : List AV) (bs : List (Blk κ)) (r : R) (h : cmp_Or_int.h3 k K vs bs = some r) : ∃ n, loopN 1 (Code.den ti (cmp_Or_int.Γ k) (cmp_Or_int.LH k) (loopAt Tryz.f49 0)) [(3, []), (6, [some 5]), (7, []), (8, [])] [(2, []), (3, [])] K n vs bs = some r := by
  unfold cmp_Or_int.h3 at h
  split at h
  · obtain ⟨_, rfl, h_1⟩ := asO_bind h
    exact ⟨k, (cmp_Or_int.e3 K k _ _ _ k _).trans h_1⟩
  · cases h
theorem cmp_Or_int.lok (k : Nat) : LOK ti (cmp_Or_int.Γ k) (cmp_Or_int.LH k) 1 (loopsOf (bodyOf Tryz.f49)) :=
  (show loopsOf (bodyOf Tryz.f49) = [loopAt Tryz.f49 0] by kernel_rfl) ▸ (LOK_cons (g := ⟨1, [(3, []), (6, [some 5]), (7, []), (8, [])], [(2, []), (3, [])], @cmp_Or_int.h3 k⟩) (by kernel_rfl) rfl (fun K vs xs r h => cmp_Or_int.q3 k K vs xs r h) (LOK_nil))
def cmp_Or_int.sig : List PSh := [.one (.ro 5)]
def cmp_Or_int.g (y : Int) : Ret κ := ⟨.v (.int .i64 y), [], []⟩
def cmp_Or_int.out (r : Ret κ) : Option Int :=
  match r with
  | ⟨.v (.int .i64 z0), [], []⟩ => some (z0)
  | _ => none
theorem cmp_Or_int.out_ok (r : Ret κ) (y : Int) (h : cmp_Or_int.out r = some y) : r = cmp_Or_int.g y := by
  unfold cmp_Or_int.out at h
  split at h
  · obtain rfl := Option.some.inj h
    rfl
  · cases h
def cmp_Or_int.body (k : Nat) (vs : List AV) (bs : List (Blk κ)) : Option (Lf κ) :=
  match vs, bs with
  | [.v (.sl 0)], [qb0] => (asO 5 false qb0).bind fun a0 => some ⟨Int, cmp_Or_int.f k a0, cmp_Or_int.g⟩
  | _, _ => none
def cmp_Or_int.C (k : Nat) : Nat → List AV → AP κ AV := contract cmp_Or_int.sig (cmp_Or_int.body k)
theorem cmp_Or_int.den (k : Nat) (a0 : List Int) : Code.den ti (cmp_Or_int.Γ k) (cmp_Or_int.LH k) (bodyOf Tryz.f49) (finK ti Tryz.f49.results.toList [] (flags cmp_Or_int.sig).length (rwI (flags cmp_Or_int.sig) 0) cmp_Or_int.out) ⟨envOf (([.v (.sl 0)]).zipIdx.map fun q => (q.2, q.1)), hpOf [.rows 5 false a0], (flags cmp_Or_int.sig).length⟩ = cmp_Or_int.f k a0 := by kernel_rfl
theorem cmp_Or_int.ok (k : Nat) : CSound Tryz.prog 49 (cmp_Or_int.C k) :=
  csound κ_ok mixed tok (cmp_Or_int.hΓ k) (LH := cmp_Or_int.LH k) (fn := Tryz.f49) (c := bodyOf Tryz.f49) Tryz.func49 rfl Tryz.call49 cmp_Or_int.sig [] (cmp_Or_int.body k) (by kernel_rfl) (cmp_Or_int.lok k) (by decide) fun vs bs lf y hl hb hy => by
    unfold cmp_Or_int.body at hb
    split at hb
    · obtain ⟨_, rfl, hb_1⟩ := asO_bind hb
      obtain rfl := Option.some.inj hb_1
      exact ⟨cmp_Or_int.out, cmp_Or_int.out_ok, (cmp_Or_int.den k _).trans hy⟩
    · cases hb
/-! ### impl_compareStored -/
def impl_compareStored.f (k : Nat) (a0_0 : Int) (a0_1 : Int) (a0_2 : Int) (a0_3 : Int) (a1_0 : Int) (a1_1 : Int) (a1_2 : Int) (a1_3 : Int) : Option Int :=
  (cmp_Compare_int.f k a0_0 a1_0).bind fun t1 => (cmp_Compare_int.f k a0_1 a1_1).bind fun t2 => (cmp_Or_int.f k ([t1, t2] : List Int)).bind fun t3 => some t3
def impl_compareStored.Γ (k : Nat) : Ct κ := assoc [(50, cmp_Compare_int.C k), (49, cmp_Or_int.C k)]
def impl_compareStored.LH (k : Nat) : Nat → Option (LHi κ) := assoc []
theorem impl_compareStored.hΓ (k : Nat) : ∀ f g, impl_compareStored.Γ k f = some g → CSound Tryz.prog f g := G_cons (cmp_Compare_int.ok k) (G_cons (cmp_Or_int.ok k) G_nil)
theorem impl_compareStored.lok (k : Nat) : LOK ti (impl_compareStored.Γ k) (impl_compareStored.LH k) 0 (loopsOf (bodyOf Tryz.f24)) :=
  (show loopsOf (bodyOf Tryz.f24) = [] by kernel_rfl) ▸ LOK_nil
def impl_compareStored.sig : List PSh := [.agg [.sc, .sc, .sc, .sc], .agg [.sc, .sc, .sc, .sc]]
def impl_compareStored.g (y : Int) : Ret κ := ⟨.v (.int .i64 y), [], []⟩
def impl_compareStored.out (r : Ret κ) : Option Int :=
  match r with
  | ⟨.v (.int .i64 z0), [], []⟩ => some (z0)
  | _ => none
theorem impl_compareStored.out_ok (r : Ret κ) (y : Int) (h : impl_compareStored.out r = some y) : r = impl_compareStored.g y := by
  unfold impl_compareStored.out at h
  split at h
  · obtain rfl := Option.some.inj h
    rfl
  · cases h
def impl_compareStored.body (k : Nat) (vs : List AV) (bs : List (Blk κ)) : Option (Lf κ) :=
  match vs, bs with
  | [.agg [.int .i64 a0_0, .int .i64 a0_1, .int .i64 a0_2, .int .i64 a0_3], .agg [.int .i64 a1_0, .int .i64 a1_1, .int .i64 a1_2, .int .i64 a1_3]], [] => some ⟨Int, impl_compareStored.f k a0_0 a0_1 a0_2 a0_3 a1_0 a1_1 a1_2 a1_3, impl_compareStored.g⟩
  | _, _ => none
def impl_compareStored.C (k : Nat) : Nat → List AV → AP κ AV := contract impl_compareStored.sig (impl_compareStored.body k)
theorem impl_compareStored.den (k : Nat) (a0_0 : Int) (a0_1 : Int) (a0_2 : Int) (a0_3 : Int) (a1_0 : Int) (a1_1 : Int) (a1_2 : Int) (a1_3 : Int) : Code.den ti (impl_compareStored.Γ k) (impl_compareStored.LH k) (bodyOf Tryz.f24) (finK ti Tryz.f24.results.toList [] (flags impl_compareStored.sig).length (rwI (flags impl_compareStored.sig) 0) impl_compareStored.out) ⟨envOf (([.agg [.int .i64 a0_0, .int .i64 a0_1, .int .i64 a0_2, .int .i64 a0_3], .agg [.int .i64 a1_0, .int .i64 a1_1, .int .i64 a1_2, .int .i64 a1_3]]).zipIdx.map fun q => (q.2, q.1)), hpOf [], (flags impl_compareStored.sig).length⟩ = impl_compareStored.f k a0_0 a0_1 a0_2 a0_3 a1_0 a1_1 a1_2 a1_3 := by kernel_rfl
theorem impl_compareStored.ok (k : Nat) : CSound Tryz.prog 24 (impl_compareStored.C k) :=
  csound κ_ok mixed tok (impl_compareStored.hΓ k) (LH := impl_compareStored.LH k) (fn := Tryz.f24) (c := bodyOf Tryz.f24) Tryz.func24 rfl Tryz.call24 impl_compareStored.sig [] (impl_compareStored.body k) (by kernel_rfl) (impl_compareStored.lok k) (by decide) fun vs bs lf y hl hb hy => by
    unfold impl_compareStored.body at hb
    split at hb
    · obtain rfl := Option.some.inj hb
      exact ⟨impl_compareStored.out, impl_compareStored.out_ok, (impl_compareStored.den k _ _ _ _ _ _ _ _).trans hy⟩
    · cases hb
/-! ### impl_IsStore -/
def impl_IsStore.L4 {R : Type} (k : Nat) (x2 : Int) (xl0 : List T_impl_Stored) (X0 : Bool → Option R) (X1 : Unit → Option R) (rec : Int → Option R) (x3 : Int) : Option R :=
  (bif decide (x3 < x2) then (bif decide (0 ≤ x3) then (bif decide (x3 < (xl0.length : Int)) then (impl_InRange.f k ((rd_impl_Stored xl0 x3).f0) (1 : Int) (5 : Int)).bind fun t1 => (bif !t1 then (X0 false) else (impl_InRange.f k ((rd_impl_Stored xl0 x3).f1) (0 : Int) (9 : Int)).bind fun t2 => (bif !t2 then (X0 false) else (impl_InRange.f k ((rd_impl_Stored xl0 x3).f2) (0 : Int) (999 : Int)).bind fun t3 => (bif !t3 then (X0 false) else (impl_InRange.f k ((rd_impl_Stored xl0 x3).f3) (1 : Int) (999 : Int)).bind fun t4 => (bif !t4 then (X0 false) else (bif decide (x3 > (0 : Int)) then (bif decide (0 ≤ (w64 (x3 - (1 : Int)))) then (bif decide ((w64 (x3 - (1 : Int))) < (xl0.length : Int)) then (impl_compareStored.f k ((rd_impl_Stored xl0 (w64 (x3 - (1 : Int)))).f0) ((rd_impl_Stored xl0 (w64 (x3 - (1 : Int)))).f1) ((rd_impl_Stored xl0 (w64 (x3 - (1 : Int)))).f2) ((rd_impl_Stored xl0 (w64 (x3 - (1 : Int)))).f3) ((rd_impl_Stored xl0 x3).f0) ((rd_impl_Stored xl0 x3).f1) ((rd_impl_Stored xl0 x3).f2) ((rd_impl_Stored xl0 x3).f3)).bind fun t5 => (bif decide (t5 ≥ (0 : Int)) then (X0 false) else (rec (w64 (x3 + (1 : Int))))) else none) else none) else (rec (w64 (x3 + (1 : Int))))))))) else none) else none) else (X1 ()))
def impl_IsStore.l4 {R : Type} (k : Nat) (x2 : Int) (xl0 : List T_impl_Stored) (X0 : Bool → Option R) (X1 : Unit → Option R) : Nat → Int → Option R
  | 0 => fun _ => none
  | n + 1 => impl_IsStore.L4 k x2 xl0 X0 X1 (impl_IsStore.l4 k x2 xl0 X0 X1 n)
def impl_IsStore.f (k : Nat) (a0 : List T_impl_Stored) : Option Bool :=
  (bif decide ((a0.length : Int) > (24 : Int)) then some false else (impl_IsStore.l4 k (a0.length : Int) a0 (fun (y6 : Bool) => some y6) (fun (_ : Unit) => some true) k (0 : Int)))
def impl_IsStore.h4 (k : Nat) {R : Type} (K : Ex → St κ → Option R) (vs : List AV) (bs : List (Blk κ)) : Option R :=
  match vs, bs with
  | [.v (.sl 0), .v (.sl 0), .v (.int .i64 x2), .v (.int .i64 x3)], [qb0] => (asO 6 false qb0).bind fun xl0 => impl_IsStore.l4 k x2 xl0 (fun (z0 : Bool) => K .ret (stOf [(2, [])] [.v (.bool z0)] [.rows 6 false xl0])) (fun (_ : Unit) => K (.exit 0) (stOf [(2, [])] [.v .any] [.rows 6 false xl0])) k x3
  | _, _ => none
def impl_IsStore.Γ (k : Nat) : Ct κ := assoc [(27, impl_InRange.C k), (24, impl_compareStored.C k)]
def impl_IsStore.LH (k : Nat) : Nat → Option (LHi κ) := assoc [(4, ⟨1, [(0, [some 6]), (8, [some 6]), (9, []), (10, [])], [(2, [])], @impl_IsStore.h4 k⟩)]
theorem impl_IsStore.hΓ (k : Nat) : ∀ f g, impl_IsStore.Γ k f = some g → CSound Tryz.prog f g := G_cons (impl_InRange.ok k) (G_cons (impl_compareStored.ok k) G_nil)
theorem impl_IsStore.e4 {R : Type} (K : Ex → St κ → Option R) (k : Nat) (x2 : Int) (xl0 : List T_impl_Stored) : ∀ (n : Nat) (x3 : Int), loopN 1 (Code.den ti (impl_IsStore.Γ k) (impl_IsStore.LH k) (loopAt Tryz.f10 0)) [(0, [some 6]), (8, [some 6]), (9, []), (10, [])] [(2, [])] K n [.v (.sl 0), .v (.sl 0), .v (.int .i64 x2), .v (.int .i64 x3)] [.rows 6 false xl0] = impl_IsStore.l4 k x2 xl0 (fun (z0 : Bool) => K .ret (stOf [(2, [])] [.v (.bool z0)] [.rows 6 false xl0])) (fun (_ : Unit) => K (.exit 0) (stOf [(2, [])] [.v .any] [.rows 6 false xl0])) n x3
  | 0, _ => rfl
  | n + 1, x3 => (show loopN 1 (Code.den ti (impl_IsStore.Γ k) (impl_IsStore.LH k) (loopAt Tryz.f10 0)) [(0, [some 6]), (8, [some 6]), (9, []), (10, [])] [(2, [])] K (n + 1) [.v (.sl 0), .v (.sl 0), .v (.int .i64 x2), .v (.int .i64 x3)] [.rows 6 false xl0] = impl_IsStore.L4 k x2 xl0 (fun (z0 : Bool) => K .ret (stOf [(2, [])] [.v (.bool z0)] [.rows 6 false xl0])) (fun (_ : Unit) => K (.exit 0) (stOf [(2, [])] [.v .any] [.rows 6 false xl0])) (fun (x3' : Int) => loopN 1 (Code.den ti (impl_IsStore.Γ k) (impl_IsStore.LH k) (loopAt Tryz.f10 0)) [(0, [some 6]), (8, [some 6]), (9, []), (10, [])] [(2, [])] K n [.v (.sl 0), .v (.sl 0), .v (.int .i64 x2), .v (.int .i64 x3')] [.rows 6 false xl0]) x3 by kernel_rfl).trans (congrArg (fun rec => impl_IsStore.L4 k x2 xl0 (fun (z0 : Bool) => K .ret (stOf [(2, [])] [.v (.bool z0)] [.rows 6 false xl0])) (fun (_ : Unit) => K (.exit 0) (stOf [(2, [])] [.v .any] [.rows 6 false xl0])) rec x3) (funext fun x3' => impl_IsStore.e4 K k x2 xl0 n x3'))
theorem impl_IsStore.q4 (k : Nat) {R : Type} (K : Ex → St κ → Option R) (vs : List AV) (bs : List (Blk κ)) (r : R) (h : impl_IsStore.h4 k K vs bs = some r) : ∃ n, loopN 1 (Code.den ti (impl_IsStore.Γ k) (impl_IsStore.LH k) (loopAt Tryz.f10 0)) [(0, [some 6]), (8, [some 6]), (9, []), (10, [])] [(2, [])] K n vs bs = some r := by
  unfold impl_IsStore.h4 at h
  split at h
  · obtain ⟨_, rfl, h_1⟩ := asO_bind h
    exact ⟨k, (impl_IsStore.e4 K k _ _ k _).trans h_1⟩
  · cases h
theorem impl_IsStore.lok (k : Nat) : LOK ti (impl_IsStore.Γ k) (impl_IsStore.LH k) 1 (loopsOf (bodyOf Tryz.f10)) :=
  (show loopsOf (bodyOf Tryz.f10) = [loopAt Tryz.f10 0] by kernel_rfl) ▸ (LOK_cons (g := ⟨1, [(0, [some 6]), (8, [some 6]), (9, []), (10, [])], [(2, [])], @impl_IsStore.h4 k⟩) (by kernel_rfl) rfl (fun K vs xs r h => impl_IsStore.q4 k K vs xs r h) (LOK_nil))
def impl_IsStore.sig : List PSh := [.one (.ro 6)]
def impl_IsStore.g (y : Bool) : Ret κ := ⟨.v (.bool y), [], []⟩
def impl_IsStore.out (r : Ret κ) : Option Bool :=
  match r with
  | ⟨.v (.bool z0), [], []⟩ => some (z0)
  | _ => none
theorem impl_IsStore.out_ok (r : Ret κ) (y : Bool) (h : impl_IsStore.out r = some y) : r = impl_IsStore.g y := by
  unfold impl_IsStore.out at h
  split at h
  · obtain rfl := Option.some.inj h
    rfl
  · cases h
def impl_IsStore.body (k : Nat) (vs : List AV) (bs : List (Blk κ)) : Option (Lf κ) :=
  match vs, bs with
  | [.v (.sl 0)], [qb0] => (asO 6 false qb0).bind fun a0 => some ⟨Bool, impl_IsStore.f k a0, impl_IsStore.g⟩
  | _, _ => none
def impl_IsStore.C (k : Nat) : Nat → List AV → AP κ AV := contract impl_IsStore.sig (impl_IsStore.body k)
theorem impl_IsStore.den (k : Nat) (a0 : List T_impl_Stored) : Code.den ti (impl_IsStore.Γ k) (impl_IsStore.LH k) (bodyOf Tryz.f10) (finK ti Tryz.f10.results.toList [] (flags impl_IsStore.sig).length (rwI (flags impl_IsStore.sig) 0) impl_IsStore.out) ⟨envOf (([.v (.sl 0)]).zipIdx.map fun q => (q.2, q.1)), hpOf [.rows 6 false a0], (flags impl_IsStore.sig).length⟩ = impl_IsStore.f k a0 := by kernel_rfl
theorem impl_IsStore.ok (k : Nat) : CSound Tryz.prog 10 (impl_IsStore.C k) :=
  csound κ_ok mixed tok (impl_IsStore.hΓ k) (LH := impl_IsStore.LH k) (fn := Tryz.f10) (c := bodyOf Tryz.f10) Tryz.func10 rfl Tryz.call10 impl_IsStore.sig [] (impl_IsStore.body k) (by kernel_rfl) (impl_IsStore.lok k) (by decide) fun vs bs lf y hl hb hy => by
    unfold impl_IsStore.body at hb
    split at hb
    · obtain ⟨_, rfl, hb_1⟩ := asO_bind hb
      obtain rfl := Option.some.inj hb_1
      exact ⟨impl_IsStore.out, impl_IsStore.out_ok, (impl_IsStore.den k _).trans hy⟩
    · cases hb
end Go.Proofs.YtmjflahlhgibnaaGreatDoor.PFnRolledBack
