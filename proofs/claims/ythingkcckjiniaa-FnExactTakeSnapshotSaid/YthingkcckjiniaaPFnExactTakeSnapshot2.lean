/- What the functions that the law FnExactTakeSnapshot reaches come to; no conditions. -/
import Derived.Test.YthingkcckjiniaaPFnExactTakeSnapshot1
set_option linter.unusedVariables false
set_option maxRecDepth 100000
namespace Go.Proofs.Ythingkcckjiniaa.PFnExactTakeSnapshot
open Go Go.Eng Go.Proofs
/-! ### laws_toStored -/
def laws_toStored.f (k : Nat) (a0_0 : Int) (a0_1 : Int) (a0_2 : Int) (a0_3 : Int) : Option (Int × Int × Int × Int) :=
  some (a0_0, a0_1, a0_2, a0_3)
def laws_toStored.Γ (k : Nat) : Ct κ := assoc []
def laws_toStored.LH (k : Nat) : Nat → Option (LHi κ) := assoc []
theorem laws_toStored.hΓ (k : Nat) : ∀ f g, laws_toStored.Γ k f = some g → CSound Try.prog f g := G_nil
theorem laws_toStored.lok (k : Nat) : LOK ti (laws_toStored.Γ k) (laws_toStored.LH k) 0 (loopsOf (bodyOf Try.f96)) :=
  (show loopsOf (bodyOf Try.f96) = [] by kernel_rfl) ▸ LOK_nil
def laws_toStored.sig : List PSh := [.agg [.sc, .sc, .sc, .sc]]
def laws_toStored.g (y : Int × Int × Int × Int) : Ret κ := ⟨.agg [.int .i64 y.1, .int .i64 y.2.1, .int .i64 y.2.2.1, .int .i64 y.2.2.2], [], []⟩
def laws_toStored.out (r : Ret κ) : Option (Int × Int × Int × Int) :=
  match r with
  | ⟨.agg [.int .i64 z0, .int .i64 z1, .int .i64 z2, .int .i64 z3], [], []⟩ => some (z0, z1, z2, z3)
  | _ => none
theorem laws_toStored.out_ok (r : Ret κ) (y : Int × Int × Int × Int) (h : laws_toStored.out r = some y) : r = laws_toStored.g y := by
  unfold laws_toStored.out at h
  split at h
  · obtain rfl := Option.some.inj h
    rfl
  · cases h
def laws_toStored.body (k : Nat) (vs : List AV) (bs : List (Blk κ)) : Option (Lf κ) :=
  match vs, bs with
  | [.agg [.int .i64 a0_0, .int .i64 a0_1, .int .i64 a0_2, .int .i64 a0_3]], [] => some ⟨Int × Int × Int × Int, laws_toStored.f k a0_0 a0_1 a0_2 a0_3, laws_toStored.g⟩
  | _, _ => none
def laws_toStored.C (k : Nat) : Nat → List AV → AP κ AV := contract laws_toStored.sig (laws_toStored.body k)
theorem laws_toStored.den (k : Nat) (a0_0 : Int) (a0_1 : Int) (a0_2 : Int) (a0_3 : Int) : Code.den ti (laws_toStored.Γ k) (laws_toStored.LH k) (bodyOf Try.f96) (finK ti Try.f96.results.toList [] (flags laws_toStored.sig).length (rwI (flags laws_toStored.sig) 0) laws_toStored.out) ⟨envOf (([.agg [.int .i64 a0_0, .int .i64 a0_1, .int .i64 a0_2, .int .i64 a0_3]]).zipIdx.map fun q => (q.2, q.1)), hpOf [], (flags laws_toStored.sig).length⟩ = laws_toStored.f k a0_0 a0_1 a0_2 a0_3 := by kernel_rfl
theorem laws_toStored.ok (k : Nat) : CSound Try.prog 96 (laws_toStored.C k) :=
  csound κ_ok mixed tok (laws_toStored.hΓ k) (LH := laws_toStored.LH k) (fn := Try.f96) (c := bodyOf Try.f96) Try.func96 rfl Try.call96 laws_toStored.sig [] (laws_toStored.body k) (by kernel_rfl) (laws_toStored.lok k) (by decide) fun vs bs lf y hl hb hy => by
    unfold laws_toStored.body at hb
    split at hb
    · obtain rfl := Option.some.inj hb
      exact ⟨laws_toStored.out, laws_toStored.out_ok, (laws_toStored.den k _ _ _ _).trans hy⟩
    · cases hb
/-! ### laws_toStoredS -/
def laws_toStoredS.L3 {R : Type} (k : Nat) (xl0 : List T_laws_Stored) (X0 : List T_impl_Stored → Option R) (rec : Int → List T_impl_Stored → Option R) (x2 : Int) (xl1 : List T_impl_Stored) : Option R :=
  (bif decide (x2 < (xl0.length : Int)) then (bif decide (0 ≤ x2) then (bif decide (x2 < (xl0.length : Int)) then (laws_toStored.f k ((rd_laws_Stored xl0 x2).f0) ((rd_laws_Stored xl0 x2).f1) ((rd_laws_Stored xl0 x2).f2) ((rd_laws_Stored xl0 x2).f3)).bind fun t1 => (bif decide (0 ≤ x2) then (bif decide (x2 < (xl1.length : Int)) then (let l2 : List T_impl_Stored := (xl1.set (x2).toNat (⟨t1.1, t1.2.1, t1.2.2.1, t1.2.2.2⟩ : T_impl_Stored)); (rec (w64 (x2 + (1 : Int))) l2)) else none) else none) else none) else none) else (X0 xl1))
def laws_toStoredS.l3 {R : Type} (k : Nat) (xl0 : List T_laws_Stored) (X0 : List T_impl_Stored → Option R) : Nat → Int → List T_impl_Stored → Option R
  | 0 => fun _ _ => none
  | n + 1 => laws_toStoredS.L3 k xl0 X0 (laws_toStoredS.l3 k xl0 X0 n)
def laws_toStoredS.f (k : Nat) (a0 : List T_laws_Stored) : Option (List T_impl_Stored) :=
  (bif decide (0 ≤ (a0.length : Int)) then (bif decide (((a0.length : Int)).toNat * 32 ≤ cap48) then (laws_toStoredS.l3 k a0 (fun (y3 : List T_impl_Stored) => some y3) k (0 : Int) (List.replicate ((a0.length : Int)).toNat z_impl_Stored)) else none) else none)
def laws_toStoredS.h3 (k : Nat) {R : Type} (K : Ex → St κ → Option R) (vs : List AV) (bs : List (Blk κ)) : Option R :=
  match vs, bs with
  | [.v (.sl 0), .v (.sl 1), .v (.int .i64 x2)], [qb0, qb1] => (asO 4 false qb0).bind fun xl0 => (asO 9 true qb1).bind fun xl1 => laws_toStoredS.l3 k xl0 (fun (zl1 : List T_impl_Stored) => K (.exit 0) (stOf [(3, [some 9])] [.v (.sl 1)] [.rows 4 false xl0, .rows 9 true zl1])) k x2 xl1
  | _, _ => none
def laws_toStoredS.Γ (k : Nat) : Ct κ := assoc [(96, laws_toStored.C k)]
def laws_toStoredS.LH (k : Nat) : Nat → Option (LHi κ) := assoc [(3, ⟨1, [(0, [some 4]), (3, [some 9]), (4, [])], [(3, [some 9])], @laws_toStoredS.h3 k⟩)]
theorem laws_toStoredS.hΓ (k : Nat) : ∀ f g, laws_toStoredS.Γ k f = some g → CSound Try.prog f g := G_cons (laws_toStored.ok k) G_nil
theorem laws_toStoredS.e3 {R : Type} (K : Ex → St κ → Option R) (k : Nat) (xl0 : List T_laws_Stored) : ∀ (n : Nat) (x2 : Int) (xl1 : List T_impl_Stored), loopN 1 (Code.den ti (laws_toStoredS.Γ k) (laws_toStoredS.LH k) (loopAt Try.f43 0)) [(0, [some 4]), (3, [some 9]), (4, [])] [(3, [some 9])] K n [.v (.sl 0), .v (.sl 1), .v (.int .i64 x2)] [.rows 4 false xl0, .rows 9 true xl1] = laws_toStoredS.l3 k xl0 (fun (zl1 : List T_impl_Stored) => K (.exit 0) (stOf [(3, [some 9])] [.v (.sl 1)] [.rows 4 false xl0, .rows 9 true zl1])) n x2 xl1
  | 0, _, _ => rfl
  | n + 1, x2, xl1 => (show loopN 1 (Code.den ti (laws_toStoredS.Γ k) (laws_toStoredS.LH k) (loopAt Try.f43 0)) [(0, [some 4]), (3, [some 9]), (4, [])] [(3, [some 9])] K (n + 1) [.v (.sl 0), .v (.sl 1), .v (.int .i64 x2)] [.rows 4 false xl0, .rows 9 true xl1] = laws_toStoredS.L3 k xl0 (fun (zl1 : List T_impl_Stored) => K (.exit 0) (stOf [(3, [some 9])] [.v (.sl 1)] [.rows 4 false xl0, .rows 9 true zl1])) (fun (x2' : Int) (xl1' : List T_impl_Stored) => loopN 1 (Code.den ti (laws_toStoredS.Γ k) (laws_toStoredS.LH k) (loopAt Try.f43 0)) [(0, [some 4]), (3, [some 9]), (4, [])] [(3, [some 9])] K n [.v (.sl 0), .v (.sl 1), .v (.int .i64 x2')] [.rows 4 false xl0, .rows 9 true xl1']) x2 xl1 by kernel_rfl).trans (congrArg (fun rec => laws_toStoredS.L3 k xl0 (fun (zl1 : List T_impl_Stored) => K (.exit 0) (stOf [(3, [some 9])] [.v (.sl 1)] [.rows 4 false xl0, .rows 9 true zl1])) rec x2 xl1) (funext fun x2' => funext fun xl1' => laws_toStoredS.e3 K k xl0 n x2' xl1'))
theorem laws_toStoredS.q3 (k : Nat) {R : Type} (K : Ex → St κ → Option R) (vs : List AV) (bs : List (Blk κ)) (r : R) (h : laws_toStoredS.h3 k K vs bs = some r) : ∃ n, loopN 1 (Code.den ti (laws_toStoredS.Γ k) (laws_toStoredS.LH k) (loopAt Try.f43 0)) [(0, [some 4]), (3, [some 9]), (4, [])] [(3, [some 9])] K n vs bs = some r := by
  unfold laws_toStoredS.h3 at h
  split at h
  · obtain ⟨_, rfl, h_1⟩ := asO_bind h
    obtain ⟨_, rfl, h_2⟩ := asO_bind h_1
    exact ⟨k, (laws_toStoredS.e3 K k _ k _ _).trans h_2⟩
  · cases h
theorem laws_toStoredS.lok (k : Nat) : LOK ti (laws_toStoredS.Γ k) (laws_toStoredS.LH k) 1 (loopsOf (bodyOf Try.f43)) :=
  (show loopsOf (bodyOf Try.f43) = [loopAt Try.f43 0] by kernel_rfl) ▸ (LOK_cons (g := ⟨1, [(0, [some 4]), (3, [some 9]), (4, [])], [(3, [some 9])], @laws_toStoredS.h3 k⟩) (by kernel_rfl) rfl (fun K vs xs r h => laws_toStoredS.q3 k K vs xs r h) (LOK_nil))
def laws_toStoredS.sig : List PSh := [.one (.ro 4)]
def laws_toStoredS.g (y : List T_impl_Stored) : Ret κ := ⟨.v (.sl 1), [], [.rows 9 true y]⟩
def laws_toStoredS.out (r : Ret κ) : Option (List T_impl_Stored) :=
  match r with
  | ⟨.v (.sl 1), [], [q0]⟩ => (asO 9 true q0).bind fun z0 => some (z0)
  | _ => none
theorem laws_toStoredS.out_ok (r : Ret κ) (y : List T_impl_Stored) (h : laws_toStoredS.out r = some y) : r = laws_toStoredS.g y := by
  unfold laws_toStoredS.out at h
  split at h
  · obtain ⟨_, rfl, h_1⟩ := asO_bind h
    obtain rfl := Option.some.inj h_1
    rfl
  · cases h
def laws_toStoredS.body (k : Nat) (vs : List AV) (bs : List (Blk κ)) : Option (Lf κ) :=
  match vs, bs with
  | [.v (.sl 0)], [qb0] => (asO 4 false qb0).bind fun a0 => some ⟨List T_impl_Stored, laws_toStoredS.f k a0, laws_toStoredS.g⟩
  | _, _ => none
def laws_toStoredS.C (k : Nat) : Nat → List AV → AP κ AV := contract laws_toStoredS.sig (laws_toStoredS.body k)
theorem laws_toStoredS.den (k : Nat) (a0 : List T_laws_Stored) : Code.den ti (laws_toStoredS.Γ k) (laws_toStoredS.LH k) (bodyOf Try.f43) (finK ti Try.f43.results.toList [(2, [some 9])] (flags laws_toStoredS.sig).length (rwI (flags laws_toStoredS.sig) 0) laws_toStoredS.out) ⟨envOf (([.v (.sl 0)]).zipIdx.map fun q => (q.2, q.1)), hpOf [.rows 4 false a0], (flags laws_toStoredS.sig).length⟩ = laws_toStoredS.f k a0 := by kernel_rfl
theorem laws_toStoredS.ok (k : Nat) : CSound Try.prog 43 (laws_toStoredS.C k) :=
  csound κ_ok mixed tok (laws_toStoredS.hΓ k) (LH := laws_toStoredS.LH k) (fn := Try.f43) (c := bodyOf Try.f43) Try.func43 rfl Try.call43 laws_toStoredS.sig [(2, [some 9])] (laws_toStoredS.body k) (by kernel_rfl) (laws_toStoredS.lok k) (by decide) fun vs bs lf y hl hb hy => by
    unfold laws_toStoredS.body at hb
    split at hb
    · obtain ⟨_, rfl, hb_1⟩ := asO_bind hb
      obtain rfl := Option.some.inj hb_1
      exact ⟨laws_toStoredS.out, laws_toStoredS.out_ok, (laws_toStoredS.den k _).trans hy⟩
    · cases hb
/-! ### spec_l26Copy -/
def spec_l26Copy.f (k : Nat) (a0_0 : Int) (a0_1 : Int) (a0_2 : Int) (a0_3 : List T_impl_Grant) (a0_4 : List T_impl_Flow) (a0_5 : List T_impl_Rule) (a0_6 : List T_impl_Op) (a0_7 : Int) : Option (Int × Int × Int × Int × List T_impl_Grant × List T_impl_Flow × List T_impl_Rule × List T_impl_Op) :=
  (bif decide ((([] : List T_impl_Grant).length + a0_3.length) * 56 ≤ cap48) then (bif decide ((([] : List T_impl_Flow).length + a0_4.length) * 24 ≤ cap48) then (bif decide ((([] : List T_impl_Rule).length + a0_5.length) * 64 ≤ cap48) then (bif decide ((([] : List T_impl_Op).length + a0_6.length) * 32 ≤ cap48) then some (a0_0, a0_1, a0_2, a0_7, (([] : List T_impl_Grant) ++ a0_3), (([] : List T_impl_Flow) ++ a0_4), (([] : List T_impl_Rule) ++ a0_5), (([] : List T_impl_Op) ++ a0_6)) else none) else none) else none) else none)
def spec_l26Copy.Γ (k : Nat) : Ct κ := assoc []
def spec_l26Copy.LH (k : Nat) : Nat → Option (LHi κ) := assoc []
theorem spec_l26Copy.hΓ (k : Nat) : ∀ f g, spec_l26Copy.Γ k f = some g → CSound Try.prog f g := G_nil
theorem spec_l26Copy.lok (k : Nat) : LOK ti (spec_l26Copy.Γ k) (spec_l26Copy.LH k) 4 (loopsOf (bodyOf Try.f92)) :=
  (show loopsOf (bodyOf Try.f92) = [] by kernel_rfl) ▸ LOK_nil
def spec_l26Copy.sig : List PSh := [.agg [.sc, .sc, .sc, .ro 5, .ro 6, .ro 7, .ro 8, .sc]]
def spec_l26Copy.g (y : Int × Int × Int × Int × List T_impl_Grant × List T_impl_Flow × List T_impl_Rule × List T_impl_Op) : Ret κ := ⟨.agg [.int .i64 y.1, .int .i64 y.2.1, .int .i64 y.2.2.1, .sl 4, .sl 5, .sl 6, .sl 7, .int .i64 y.2.2.2.1], [], [.rows 5 true y.2.2.2.2.1, .rows 6 true y.2.2.2.2.2.1, .rows 7 true y.2.2.2.2.2.2.1, .rows 8 true y.2.2.2.2.2.2.2]⟩
def spec_l26Copy.out (r : Ret κ) : Option (Int × Int × Int × Int × List T_impl_Grant × List T_impl_Flow × List T_impl_Rule × List T_impl_Op) :=
  match r with
  | ⟨.agg [.int .i64 z0, .int .i64 z1, .int .i64 z2, .sl 4, .sl 5, .sl 6, .sl 7, .int .i64 z3], [], [q4, q5, q6, q7]⟩ => (asO 5 true q4).bind fun z4 => (asO 6 true q5).bind fun z5 => (asO 7 true q6).bind fun z6 => (asO 8 true q7).bind fun z7 => some (z0, z1, z2, z3, z4, z5, z6, z7)
  | _ => none
theorem spec_l26Copy.out_ok (r : Ret κ) (y : Int × Int × Int × Int × List T_impl_Grant × List T_impl_Flow × List T_impl_Rule × List T_impl_Op) (h : spec_l26Copy.out r = some y) : r = spec_l26Copy.g y := by
  unfold spec_l26Copy.out at h
  split at h
  · obtain ⟨_, rfl, h_1⟩ := asO_bind h
    obtain ⟨_, rfl, h_2⟩ := asO_bind h_1
    obtain ⟨_, rfl, h_3⟩ := asO_bind h_2
    obtain ⟨_, rfl, h_4⟩ := asO_bind h_3
    obtain rfl := Option.some.inj h_4
    rfl
  · cases h
def spec_l26Copy.body (k : Nat) (vs : List AV) (bs : List (Blk κ)) : Option (Lf κ) :=
  match vs, bs with
  | [.agg [.int .i64 a0_0, .int .i64 a0_1, .int .i64 a0_2, .sl 0, .sl 1, .sl 2, .sl 3, .int .i64 a0_7]], [qb0, qb1, qb2, qb3] => (asO 5 false qb0).bind fun a0_3 => (asO 6 false qb1).bind fun a0_4 => (asO 7 false qb2).bind fun a0_5 => (asO 8 false qb3).bind fun a0_6 => some ⟨Int × Int × Int × Int × List T_impl_Grant × List T_impl_Flow × List T_impl_Rule × List T_impl_Op, spec_l26Copy.f k a0_0 a0_1 a0_2 a0_3 a0_4 a0_5 a0_6 a0_7, spec_l26Copy.g⟩
  | _, _ => none
def spec_l26Copy.C (k : Nat) : Nat → List AV → AP κ AV := contract spec_l26Copy.sig (spec_l26Copy.body k)
theorem spec_l26Copy.den (k : Nat) (a0_0 : Int) (a0_1 : Int) (a0_2 : Int) (a0_3 : List T_impl_Grant) (a0_4 : List T_impl_Flow) (a0_5 : List T_impl_Rule) (a0_6 : List T_impl_Op) (a0_7 : Int) : Code.den ti (spec_l26Copy.Γ k) (spec_l26Copy.LH k) (bodyOf Try.f92) (finK ti Try.f92.results.toList [(2, [none, none, none, some 5, some 6, some 7, some 8, none])] (flags spec_l26Copy.sig).length (rwI (flags spec_l26Copy.sig) 0) spec_l26Copy.out) ⟨envOf (([.agg [.int .i64 a0_0, .int .i64 a0_1, .int .i64 a0_2, .sl 0, .sl 1, .sl 2, .sl 3, .int .i64 a0_7]]).zipIdx.map fun q => (q.2, q.1)), hpOf [.rows 5 false a0_3, .rows 6 false a0_4, .rows 7 false a0_5, .rows 8 false a0_6], (flags spec_l26Copy.sig).length⟩ = spec_l26Copy.f k a0_0 a0_1 a0_2 a0_3 a0_4 a0_5 a0_6 a0_7 := by kernel_rfl
theorem spec_l26Copy.ok (k : Nat) : CSound Try.prog 92 (spec_l26Copy.C k) :=
  csound κ_ok mixed tok (spec_l26Copy.hΓ k) (LH := spec_l26Copy.LH k) (fn := Try.f92) (c := bodyOf Try.f92) Try.func92 rfl Try.call92 spec_l26Copy.sig [(2, [none, none, none, some 5, some 6, some 7, some 8, none])] (spec_l26Copy.body k) (by kernel_rfl) (spec_l26Copy.lok k) (by decide) fun vs bs lf y hl hb hy => by
    unfold spec_l26Copy.body at hb
    split at hb
    · obtain ⟨_, rfl, hb_1⟩ := asO_bind hb
      obtain ⟨_, rfl, hb_2⟩ := asO_bind hb_1
      obtain ⟨_, rfl, hb_3⟩ := asO_bind hb_2
      obtain ⟨_, rfl, hb_4⟩ := asO_bind hb_3
      obtain rfl := Option.some.inj hb_4
      exact ⟨spec_l26Copy.out, spec_l26Copy.out_ok, (spec_l26Copy.den k _ _ _ _ _ _ _ _).trans hy⟩
    · cases hb
/-! ### spec_l30Entries -/
def spec_l30Entries.L3 {R : Type} (k : Nat) (x1 : Int) (xl0 : List T_impl_Stored) (X0 : List T_impl_Stored → Option R) (rec : Int → List T_impl_Stored → Option R) (x3 : Int) (xl1 : List T_impl_Stored) : Option R :=
  (bif decide (x3 < (xl0.length : Int)) then (bif decide (0 ≤ x3) then (bif decide (x3 < (xl0.length : Int)) then (bif ((rd_impl_Stored xl0 x3).f0 == x1) then (bif decide (0 ≤ x3) then (bif decide (x3 < (xl0.length : Int)) then (bif decide ((xl1.length + ([(⟨(rd_impl_Stored xl0 x3).f0, (rd_impl_Stored xl0 x3).f1, (rd_impl_Stored xl0 x3).f2, (rd_impl_Stored xl0 x3).f3⟩ : T_impl_Stored)] : List T_impl_Stored).length) * 32 ≤ cap48) then (let l1 : List T_impl_Stored := (xl1 ++ ([(⟨(rd_impl_Stored xl0 x3).f0, (rd_impl_Stored xl0 x3).f1, (rd_impl_Stored xl0 x3).f2, (rd_impl_Stored xl0 x3).f3⟩ : T_impl_Stored)] : List T_impl_Stored)); (rec (w64 (x3 + (1 : Int))) l1)) else none) else none) else none) else (rec (w64 (x3 + (1 : Int))) xl1)) else none) else none) else (X0 xl1))
def spec_l30Entries.l3 {R : Type} (k : Nat) (x1 : Int) (xl0 : List T_impl_Stored) (X0 : List T_impl_Stored → Option R) : Nat → Int → List T_impl_Stored → Option R
  | 0 => fun _ _ => none
  | n + 1 => spec_l30Entries.L3 k x1 xl0 X0 (spec_l30Entries.l3 k x1 xl0 X0 n)
def spec_l30Entries.f (k : Nat) (a0 : List T_impl_Stored) (a1 : Int) : Option (List T_impl_Stored) :=
  (spec_l30Entries.l3 k a1 a0 (fun (y2 : List T_impl_Stored) => some y2) k (0 : Int) ([] : List T_impl_Stored))
def spec_l30Entries.h3 (k : Nat) {R : Type} (K : Ex → St κ → Option R) (vs : List AV) (bs : List (Blk κ)) : Option R :=
  match vs, bs with
  | [.v (.sl 0), .v (.int .i64 x1), .v (.sl 1), .v (.int .i64 x3)], [qb0, qb1] => (asO 9 false qb0).bind fun xl0 => (asO 9 true qb1).bind fun xl1 => spec_l30Entries.l3 k x1 xl0 (fun (zl1 : List T_impl_Stored) => K (.exit 0) (stOf [(5, [some 9])] [.v (.sl 1)] [.rows 9 false xl0, .rows 9 true zl1])) k x3 xl1
  | _, _ => none
def spec_l30Entries.Γ (k : Nat) : Ct κ := assoc []
def spec_l30Entries.LH (k : Nat) : Nat → Option (LHi κ) := assoc [(3, ⟨1, [(0, [some 9]), (1, []), (5, [some 9]), (6, [])], [(5, [some 9])], @spec_l30Entries.h3 k⟩)]
theorem spec_l30Entries.hΓ (k : Nat) : ∀ f g, spec_l30Entries.Γ k f = some g → CSound Try.prog f g := G_nil
theorem spec_l30Entries.e3 {R : Type} (K : Ex → St κ → Option R) (k : Nat) (x1 : Int) (xl0 : List T_impl_Stored) : ∀ (n : Nat) (x3 : Int) (xl1 : List T_impl_Stored), loopN 1 (Code.den ti (spec_l30Entries.Γ k) (spec_l30Entries.LH k) (loopAt Try.f95 0)) [(0, [some 9]), (1, []), (5, [some 9]), (6, [])] [(5, [some 9])] K n [.v (.sl 0), .v (.int .i64 x1), .v (.sl 1), .v (.int .i64 x3)] [.rows 9 false xl0, .rows 9 true xl1] = spec_l30Entries.l3 k x1 xl0 (fun (zl1 : List T_impl_Stored) => K (.exit 0) (stOf [(5, [some 9])] [.v (.sl 1)] [.rows 9 false xl0, .rows 9 true zl1])) n x3 xl1
  | 0, _, _ => rfl
  | n + 1, x3, xl1 => (show loopN 1 (Code.den ti (spec_l30Entries.Γ k) (spec_l30Entries.LH k) (loopAt Try.f95 0)) [(0, [some 9]), (1, []), (5, [some 9]), (6, [])] [(5, [some 9])] K (n + 1) [.v (.sl 0), .v (.int .i64 x1), .v (.sl 1), .v (.int .i64 x3)] [.rows 9 false xl0, .rows 9 true xl1] = spec_l30Entries.L3 k x1 xl0 (fun (zl1 : List T_impl_Stored) => K (.exit 0) (stOf [(5, [some 9])] [.v (.sl 1)] [.rows 9 false xl0, .rows 9 true zl1])) (fun (x3' : Int) (xl1' : List T_impl_Stored) => loopN 1 (Code.den ti (spec_l30Entries.Γ k) (spec_l30Entries.LH k) (loopAt Try.f95 0)) [(0, [some 9]), (1, []), (5, [some 9]), (6, [])] [(5, [some 9])] K n [.v (.sl 0), .v (.int .i64 x1), .v (.sl 1), .v (.int .i64 x3')] [.rows 9 false xl0, .rows 9 true xl1']) x3 xl1 by kernel_rfl).trans (congrArg (fun rec => spec_l30Entries.L3 k x1 xl0 (fun (zl1 : List T_impl_Stored) => K (.exit 0) (stOf [(5, [some 9])] [.v (.sl 1)] [.rows 9 false xl0, .rows 9 true zl1])) rec x3 xl1) (funext fun x3' => funext fun xl1' => spec_l30Entries.e3 K k x1 xl0 n x3' xl1'))
theorem spec_l30Entries.q3 (k : Nat) {R : Type} (K : Ex → St κ → Option R) (vs : List AV) (bs : List (Blk κ)) (r : R) (h : spec_l30Entries.h3 k K vs bs = some r) : ∃ n, loopN 1 (Code.den ti (spec_l30Entries.Γ k) (spec_l30Entries.LH k) (loopAt Try.f95 0)) [(0, [some 9]), (1, []), (5, [some 9]), (6, [])] [(5, [some 9])] K n vs bs = some r := by
  unfold spec_l30Entries.h3 at h
  split at h
  · obtain ⟨_, rfl, h_1⟩ := asO_bind h
    obtain ⟨_, rfl, h_2⟩ := asO_bind h_1
    exact ⟨k, (spec_l30Entries.e3 K k _ _ k _ _).trans h_2⟩
  · cases h
theorem spec_l30Entries.lok (k : Nat) : LOK ti (spec_l30Entries.Γ k) (spec_l30Entries.LH k) 1 (loopsOf (bodyOf Try.f95)) :=
  (show loopsOf (bodyOf Try.f95) = [loopAt Try.f95 0] by kernel_rfl) ▸ (LOK_cons (g := ⟨1, [(0, [some 9]), (1, []), (5, [some 9]), (6, [])], [(5, [some 9])], @spec_l30Entries.h3 k⟩) (by kernel_rfl) rfl (fun K vs xs r h => spec_l30Entries.q3 k K vs xs r h) (LOK_nil))
def spec_l30Entries.sig : List PSh := [.one (.ro 9), .one .sc]
def spec_l30Entries.g (y : List T_impl_Stored) : Ret κ := ⟨.v (.sl 1), [], [.rows 9 true y]⟩
def spec_l30Entries.out (r : Ret κ) : Option (List T_impl_Stored) :=
  match r with
  | ⟨.v (.sl 1), [], [q0]⟩ => (asO 9 true q0).bind fun z0 => some (z0)
  | _ => none
theorem spec_l30Entries.out_ok (r : Ret κ) (y : List T_impl_Stored) (h : spec_l30Entries.out r = some y) : r = spec_l30Entries.g y := by
  unfold spec_l30Entries.out at h
  split at h
  · obtain ⟨_, rfl, h_1⟩ := asO_bind h
    obtain rfl := Option.some.inj h_1
    rfl
  · cases h
def spec_l30Entries.body (k : Nat) (vs : List AV) (bs : List (Blk κ)) : Option (Lf κ) :=
  match vs, bs with
  | [.v (.sl 0), .v (.int .i64 a1)], [qb0] => (asO 9 false qb0).bind fun a0 => some ⟨List T_impl_Stored, spec_l30Entries.f k a0 a1, spec_l30Entries.g⟩
  | _, _ => none
def spec_l30Entries.C (k : Nat) : Nat → List AV → AP κ AV := contract spec_l30Entries.sig (spec_l30Entries.body k)
theorem spec_l30Entries.den (k : Nat) (a0 : List T_impl_Stored) (a1 : Int) : Code.den ti (spec_l30Entries.Γ k) (spec_l30Entries.LH k) (bodyOf Try.f95) (finK ti Try.f95.results.toList [(4, [some 9])] (flags spec_l30Entries.sig).length (rwI (flags spec_l30Entries.sig) 0) spec_l30Entries.out) ⟨envOf (([.v (.sl 0), .v (.int .i64 a1)]).zipIdx.map fun q => (q.2, q.1)), hpOf [.rows 9 false a0], (flags spec_l30Entries.sig).length⟩ = spec_l30Entries.f k a0 a1 := by kernel_rfl
theorem spec_l30Entries.ok (k : Nat) : CSound Try.prog 95 (spec_l30Entries.C k) :=
  csound κ_ok mixed tok (spec_l30Entries.hΓ k) (LH := spec_l30Entries.LH k) (fn := Try.f95) (c := bodyOf Try.f95) Try.func95 rfl Try.call95 spec_l30Entries.sig [(4, [some 9])] (spec_l30Entries.body k) (by kernel_rfl) (spec_l30Entries.lok k) (by decide) fun vs bs lf y hl hb hy => by
    unfold spec_l30Entries.body at hb
    split at hb
    · obtain ⟨_, rfl, hb_1⟩ := asO_bind hb
      obtain rfl := Option.some.inj hb_1
      exact ⟨spec_l30Entries.out, spec_l30Entries.out_ok, (spec_l30Entries.den k _ _).trans hy⟩
    · cases hb
/-! ### spec_TakeSnapshot -/
def spec_TakeSnapshot.f (k : Nat) (a0_0 : Int) (a0_1 : Int) (a0_2 : Int) (a0_3 : List T_impl_Grant) (a0_4 : List T_impl_Flow) (a0_5 : List T_impl_Rule) (a0_6 : List T_impl_Op) (a0_7 : Int) (a1 : List T_impl_Stored) : Option (Int × Int × Int × Int × List T_impl_Grant × List T_impl_Flow × List T_impl_Rule × List T_impl_Op × List T_impl_Stored) :=
  (spec_l26Copy.f k a0_0 a0_1 a0_2 a0_3 a0_4 a0_5 a0_6 a0_7).bind fun t1 => (spec_l30Entries.f k a1 a0_0).bind fun t2 => some (t1.1, t1.2.1, t1.2.2.1, t1.2.2.2.1, t1.2.2.2.2.1, t1.2.2.2.2.2.1, t1.2.2.2.2.2.2.1, t1.2.2.2.2.2.2.2, t2)
def spec_TakeSnapshot.Γ (k : Nat) : Ct κ := assoc [(92, spec_l26Copy.C k), (95, spec_l30Entries.C k)]
def spec_TakeSnapshot.LH (k : Nat) : Nat → Option (LHi κ) := assoc []
theorem spec_TakeSnapshot.hΓ (k : Nat) : ∀ f g, spec_TakeSnapshot.Γ k f = some g → CSound Try.prog f g := G_cons (spec_l26Copy.ok k) (G_cons (spec_l30Entries.ok k) G_nil)
theorem spec_TakeSnapshot.lok (k : Nat) : LOK ti (spec_TakeSnapshot.Γ k) (spec_TakeSnapshot.LH k) 5 (loopsOf (bodyOf Try.f42)) :=
  (show loopsOf (bodyOf Try.f42) = [] by kernel_rfl) ▸ LOK_nil
def spec_TakeSnapshot.sig : List PSh := [.agg [.sc, .sc, .sc, .ro 5, .ro 6, .ro 7, .ro 8, .sc], .one (.ro 9)]
def spec_TakeSnapshot.g (y : Int × Int × Int × Int × List T_impl_Grant × List T_impl_Flow × List T_impl_Rule × List T_impl_Op × List T_impl_Stored) : Ret κ := ⟨.agg [.int .i64 y.1, .int .i64 y.2.1, .int .i64 y.2.2.1, .sl 5, .sl 6, .sl 7, .sl 8, .int .i64 y.2.2.2.1, .sl 9], [], [.rows 5 true y.2.2.2.2.1, .rows 6 true y.2.2.2.2.2.1, .rows 7 true y.2.2.2.2.2.2.1, .rows 8 true y.2.2.2.2.2.2.2.1, .rows 9 true y.2.2.2.2.2.2.2.2]⟩
def spec_TakeSnapshot.out (r : Ret κ) : Option (Int × Int × Int × Int × List T_impl_Grant × List T_impl_Flow × List T_impl_Rule × List T_impl_Op × List T_impl_Stored) :=
  match r with
  | ⟨.agg [.int .i64 z0, .int .i64 z1, .int .i64 z2, .sl 5, .sl 6, .sl 7, .sl 8, .int .i64 z3, .sl 9], [], [q4, q5, q6, q7, q8]⟩ => (asO 5 true q4).bind fun z4 => (asO 6 true q5).bind fun z5 => (asO 7 true q6).bind fun z6 => (asO 8 true q7).bind fun z7 => (asO 9 true q8).bind fun z8 => some (z0, z1, z2, z3, z4, z5, z6, z7, z8)
  | _ => none
theorem spec_TakeSnapshot.out_ok (r : Ret κ) (y : Int × Int × Int × Int × List T_impl_Grant × List T_impl_Flow × List T_impl_Rule × List T_impl_Op × List T_impl_Stored) (h : spec_TakeSnapshot.out r = some y) : r = spec_TakeSnapshot.g y := by
  unfold spec_TakeSnapshot.out at h
  split at h
  · obtain ⟨_, rfl, h_1⟩ := asO_bind h
    obtain ⟨_, rfl, h_2⟩ := asO_bind h_1
    obtain ⟨_, rfl, h_3⟩ := asO_bind h_2
    obtain ⟨_, rfl, h_4⟩ := asO_bind h_3
    obtain ⟨_, rfl, h_5⟩ := asO_bind h_4
    obtain rfl := Option.some.inj h_5
    rfl
  · cases h
def spec_TakeSnapshot.body (k : Nat) (vs : List AV) (bs : List (Blk κ)) : Option (Lf κ) :=
  match vs, bs with
  | [.agg [.int .i64 a0_0, .int .i64 a0_1, .int .i64 a0_2, .sl 0, .sl 1, .sl 2, .sl 3, .int .i64 a0_7], .v (.sl 4)], [qb0, qb1, qb2, qb3, qb4] => (asO 5 false qb0).bind fun a0_3 => (asO 6 false qb1).bind fun a0_4 => (asO 7 false qb2).bind fun a0_5 => (asO 8 false qb3).bind fun a0_6 => (asO 9 false qb4).bind fun a1 => some ⟨Int × Int × Int × Int × List T_impl_Grant × List T_impl_Flow × List T_impl_Rule × List T_impl_Op × List T_impl_Stored, spec_TakeSnapshot.f k a0_0 a0_1 a0_2 a0_3 a0_4 a0_5 a0_6 a0_7 a1, spec_TakeSnapshot.g⟩
  | _, _ => none
def spec_TakeSnapshot.C (k : Nat) : Nat → List AV → AP κ AV := contract spec_TakeSnapshot.sig (spec_TakeSnapshot.body k)
theorem spec_TakeSnapshot.den (k : Nat) (a0_0 : Int) (a0_1 : Int) (a0_2 : Int) (a0_3 : List T_impl_Grant) (a0_4 : List T_impl_Flow) (a0_5 : List T_impl_Rule) (a0_6 : List T_impl_Op) (a0_7 : Int) (a1 : List T_impl_Stored) : Code.den ti (spec_TakeSnapshot.Γ k) (spec_TakeSnapshot.LH k) (bodyOf Try.f42) (finK ti Try.f42.results.toList [(4, [none, none, none, some 5, some 6, some 7, some 8, none, some 9])] (flags spec_TakeSnapshot.sig).length (rwI (flags spec_TakeSnapshot.sig) 0) spec_TakeSnapshot.out) ⟨envOf (([.agg [.int .i64 a0_0, .int .i64 a0_1, .int .i64 a0_2, .sl 0, .sl 1, .sl 2, .sl 3, .int .i64 a0_7], .v (.sl 4)]).zipIdx.map fun q => (q.2, q.1)), hpOf [.rows 5 false a0_3, .rows 6 false a0_4, .rows 7 false a0_5, .rows 8 false a0_6, .rows 9 false a1], (flags spec_TakeSnapshot.sig).length⟩ = spec_TakeSnapshot.f k a0_0 a0_1 a0_2 a0_3 a0_4 a0_5 a0_6 a0_7 a1 := by kernel_rfl
theorem spec_TakeSnapshot.ok (k : Nat) : CSound Try.prog 42 (spec_TakeSnapshot.C k) :=
  csound κ_ok mixed tok (spec_TakeSnapshot.hΓ k) (LH := spec_TakeSnapshot.LH k) (fn := Try.f42) (c := bodyOf Try.f42) Try.func42 rfl Try.call42 spec_TakeSnapshot.sig [(4, [none, none, none, some 5, some 6, some 7, some 8, none, some 9])] (spec_TakeSnapshot.body k) (by kernel_rfl) (spec_TakeSnapshot.lok k) (by decide) fun vs bs lf y hl hb hy => by
    unfold spec_TakeSnapshot.body at hb
    split at hb
    · obtain ⟨_, rfl, hb_1⟩ := asO_bind hb
      obtain ⟨_, rfl, hb_2⟩ := asO_bind hb_1
      obtain ⟨_, rfl, hb_3⟩ := asO_bind hb_2
      obtain ⟨_, rfl, hb_4⟩ := asO_bind hb_3
      obtain ⟨_, rfl, hb_5⟩ := asO_bind hb_4
      obtain rfl := Option.some.inj hb_5
      exact ⟨spec_TakeSnapshot.out, spec_TakeSnapshot.out_ok, (spec_TakeSnapshot.den k _ _ _ _ _ _ _ _ _).trans hy⟩
    · cases hb
/-! ### slices_Clone_Grant -/
def slices_Clone_Grant.f (k : Nat) (l : List T_impl_Grant) : Option (List T_impl_Grant) := cloneF 5 κ l
def slices_Clone_Grant.C (k : Nat) : Nat → List AV → AP κ AV := contract [.one (.ro 5)] (cloneB 5 κ)
theorem slices_Clone_Grant.ok (k : Nat) : CSound Try.prog 110 (slices_Clone_Grant.C k) :=
  clone_sound κ_ok mixed tok (fn := Try.f110) 5 Try.func110 rfl Try.call110 rfl rfl rfl rfl rfl rfl Try.underlying24 rfl (by kernel_rfl) (by kernel_rfl) (by kernel_rfl) rfl rfl rfl (fun l => by kernel_rfl) (fun q l => by cases q <;> kernel_rfl)
/-! ### slices_Clone_Flow -/
def slices_Clone_Flow.f (k : Nat) (l : List T_impl_Flow) : Option (List T_impl_Flow) := cloneF 6 κ l
def slices_Clone_Flow.C (k : Nat) : Nat → List AV → AP κ AV := contract [.one (.ro 6)] (cloneB 6 κ)
theorem slices_Clone_Flow.ok (k : Nat) : CSound Try.prog 111 (slices_Clone_Flow.C k) :=
  clone_sound κ_ok mixed tok (fn := Try.f111) 6 Try.func111 rfl Try.call111 rfl rfl rfl rfl rfl rfl Try.underlying25 rfl (by kernel_rfl) (by kernel_rfl) (by kernel_rfl) rfl rfl rfl (fun l => by kernel_rfl) (fun q l => by cases q <;> kernel_rfl)
/-! ### slices_Clone_Rule -/
def slices_Clone_Rule.f (k : Nat) (l : List T_impl_Rule) : Option (List T_impl_Rule) := cloneF 7 κ l
def slices_Clone_Rule.C (k : Nat) : Nat → List AV → AP κ AV := contract [.one (.ro 7)] (cloneB 7 κ)
theorem slices_Clone_Rule.ok (k : Nat) : CSound Try.prog 112 (slices_Clone_Rule.C k) :=
  clone_sound κ_ok mixed tok (fn := Try.f112) 7 Try.func112 rfl Try.call112 rfl rfl rfl rfl rfl rfl Try.underlying26 rfl (by kernel_rfl) (by kernel_rfl) (by kernel_rfl) rfl rfl rfl (fun l => by kernel_rfl) (fun q l => by cases q <;> kernel_rfl)
/-! ### slices_Clone_Op -/
def slices_Clone_Op.f (k : Nat) (l : List T_impl_Op) : Option (List T_impl_Op) := cloneF 8 κ l
def slices_Clone_Op.C (k : Nat) : Nat → List AV → AP κ AV := contract [.one (.ro 8)] (cloneB 8 κ)
theorem slices_Clone_Op.ok (k : Nat) : CSound Try.prog 113 (slices_Clone_Op.C k) :=
  clone_sound κ_ok mixed tok (fn := Try.f113) 8 Try.func113 rfl Try.call113 rfl rfl rfl rfl rfl rfl Try.underlying27 rfl (by kernel_rfl) (by kernel_rfl) (by kernel_rfl) rfl rfl rfl (fun l => by kernel_rfl) (fun q l => by cases q <;> kernel_rfl)
/-! ### impl_clonePackage -/
def impl_clonePackage.f (k : Nat) (a0_0 : Int) (a0_1 : Int) (a0_2 : Int) (a0_3 : List T_impl_Grant) (a0_4 : List T_impl_Flow) (a0_5 : List T_impl_Rule) (a0_6 : List T_impl_Op) (a0_7 : Int) : Option (Int × Int × Int × Int × List T_impl_Grant × List T_impl_Flow × List T_impl_Rule × List T_impl_Op) :=
  (slices_Clone_Grant.f k a0_3).bind fun t1 => (slices_Clone_Flow.f k a0_4).bind fun t2 => (slices_Clone_Rule.f k a0_5).bind fun t3 => (slices_Clone_Op.f k a0_6).bind fun t4 => some (a0_0, a0_1, a0_2, a0_7, t1, t2, t3, t4)
def impl_clonePackage.Γ (k : Nat) : Ct κ := assoc [(110, slices_Clone_Grant.C k), (111, slices_Clone_Flow.C k), (112, slices_Clone_Rule.C k), (113, slices_Clone_Op.C k)]
def impl_clonePackage.LH (k : Nat) : Nat → Option (LHi κ) := assoc []
theorem impl_clonePackage.hΓ (k : Nat) : ∀ f g, impl_clonePackage.Γ k f = some g → CSound Try.prog f g := G_cons (slices_Clone_Grant.ok k) (G_cons (slices_Clone_Flow.ok k) (G_cons (slices_Clone_Rule.ok k) (G_cons (slices_Clone_Op.ok k) G_nil)))
theorem impl_clonePackage.lok (k : Nat) : LOK ti (impl_clonePackage.Γ k) (impl_clonePackage.LH k) 4 (loopsOf (bodyOf Try.f61)) :=
  (show loopsOf (bodyOf Try.f61) = [] by kernel_rfl) ▸ LOK_nil
def impl_clonePackage.sig : List PSh := [.agg [.sc, .sc, .sc, .ro 5, .ro 6, .ro 7, .ro 8, .sc]]
def impl_clonePackage.g (y : Int × Int × Int × Int × List T_impl_Grant × List T_impl_Flow × List T_impl_Rule × List T_impl_Op) : Ret κ := ⟨.agg [.int .i64 y.1, .int .i64 y.2.1, .int .i64 y.2.2.1, .sl 4, .sl 5, .sl 6, .sl 7, .int .i64 y.2.2.2.1], [], [.rows 5 true y.2.2.2.2.1, .rows 6 true y.2.2.2.2.2.1, .rows 7 true y.2.2.2.2.2.2.1, .rows 8 true y.2.2.2.2.2.2.2]⟩
def impl_clonePackage.out (r : Ret κ) : Option (Int × Int × Int × Int × List T_impl_Grant × List T_impl_Flow × List T_impl_Rule × List T_impl_Op) :=
  match r with
  | ⟨.agg [.int .i64 z0, .int .i64 z1, .int .i64 z2, .sl 4, .sl 5, .sl 6, .sl 7, .int .i64 z3], [], [q4, q5, q6, q7]⟩ => (asO 5 true q4).bind fun z4 => (asO 6 true q5).bind fun z5 => (asO 7 true q6).bind fun z6 => (asO 8 true q7).bind fun z7 => some (z0, z1, z2, z3, z4, z5, z6, z7)
  | _ => none
theorem impl_clonePackage.out_ok (r : Ret κ) (y : Int × Int × Int × Int × List T_impl_Grant × List T_impl_Flow × List T_impl_Rule × List T_impl_Op) (h : impl_clonePackage.out r = some y) : r = impl_clonePackage.g y := by
  unfold impl_clonePackage.out at h
  split at h
  · obtain ⟨_, rfl, h_1⟩ := asO_bind h
    obtain ⟨_, rfl, h_2⟩ := asO_bind h_1
    obtain ⟨_, rfl, h_3⟩ := asO_bind h_2
    obtain ⟨_, rfl, h_4⟩ := asO_bind h_3
    obtain rfl := Option.some.inj h_4
    rfl
  · cases h
def impl_clonePackage.body (k : Nat) (vs : List AV) (bs : List (Blk κ)) : Option (Lf κ) :=
  match vs, bs with
  | [.agg [.int .i64 a0_0, .int .i64 a0_1, .int .i64 a0_2, .sl 0, .sl 1, .sl 2, .sl 3, .int .i64 a0_7]], [qb0, qb1, qb2, qb3] => (asO 5 false qb0).bind fun a0_3 => (asO 6 false qb1).bind fun a0_4 => (asO 7 false qb2).bind fun a0_5 => (asO 8 false qb3).bind fun a0_6 => some ⟨Int × Int × Int × Int × List T_impl_Grant × List T_impl_Flow × List T_impl_Rule × List T_impl_Op, impl_clonePackage.f k a0_0 a0_1 a0_2 a0_3 a0_4 a0_5 a0_6 a0_7, impl_clonePackage.g⟩
  | _, _ => none
def impl_clonePackage.C (k : Nat) : Nat → List AV → AP κ AV := contract impl_clonePackage.sig (impl_clonePackage.body k)
theorem impl_clonePackage.den (k : Nat) (a0_0 : Int) (a0_1 : Int) (a0_2 : Int) (a0_3 : List T_impl_Grant) (a0_4 : List T_impl_Flow) (a0_5 : List T_impl_Rule) (a0_6 : List T_impl_Op) (a0_7 : Int) : Code.den ti (impl_clonePackage.Γ k) (impl_clonePackage.LH k) (bodyOf Try.f61) (finK ti Try.f61.results.toList [(2, [none, none, none, some 5, some 6, some 7, some 8, none])] (flags impl_clonePackage.sig).length (rwI (flags impl_clonePackage.sig) 0) impl_clonePackage.out) ⟨envOf (([.agg [.int .i64 a0_0, .int .i64 a0_1, .int .i64 a0_2, .sl 0, .sl 1, .sl 2, .sl 3, .int .i64 a0_7]]).zipIdx.map fun q => (q.2, q.1)), hpOf [.rows 5 false a0_3, .rows 6 false a0_4, .rows 7 false a0_5, .rows 8 false a0_6], (flags impl_clonePackage.sig).length⟩ = impl_clonePackage.f k a0_0 a0_1 a0_2 a0_3 a0_4 a0_5 a0_6 a0_7 := by kernel_rfl
theorem impl_clonePackage.ok (k : Nat) : CSound Try.prog 61 (impl_clonePackage.C k) :=
  csound κ_ok mixed tok (impl_clonePackage.hΓ k) (LH := impl_clonePackage.LH k) (fn := Try.f61) (c := bodyOf Try.f61) Try.func61 rfl Try.call61 impl_clonePackage.sig [(2, [none, none, none, some 5, some 6, some 7, some 8, none])] (impl_clonePackage.body k) (by kernel_rfl) (impl_clonePackage.lok k) (by decide) fun vs bs lf y hl hb hy => by
    unfold impl_clonePackage.body at hb
    split at hb
    · obtain ⟨_, rfl, hb_1⟩ := asO_bind hb
      obtain ⟨_, rfl, hb_2⟩ := asO_bind hb_1
      obtain ⟨_, rfl, hb_3⟩ := asO_bind hb_2
      obtain ⟨_, rfl, hb_4⟩ := asO_bind hb_3
      obtain rfl := Option.some.inj hb_4
      exact ⟨impl_clonePackage.out, impl_clonePackage.out_ok, (impl_clonePackage.den k _ _ _ _ _ _ _ _).trans hy⟩
    · cases hb
/-! ### impl_TakeSnapshot -/
def impl_TakeSnapshot.L3 {R : Type} (k : Nat) (x4 : Int) (xl0 : List T_impl_Grant) (xl1 : List T_impl_Flow) (xl2 : List T_impl_Rule) (xl3 : List T_impl_Op) (xl4 : List T_impl_Stored) (xc5_0 : Int) (xc5_1 : Int) (xc5_2 : Int) (xc5_7 : Int) (xc6_0 : Int) (xc6_1 : Int) (xc6_2 : Int) (xc6_7 : Int) (xc7_0 : Int) (xc7_1 : Int) (xc7_2 : Int) (xc7_7 : Int) (xl8 : List T_impl_Grant) (xl9 : List T_impl_Flow) (xl10 : List T_impl_Rule) (xl11 : List T_impl_Op) (xl12 : List T_impl_Stored) (xl13 : List T_impl_Grant) (xl14 : List T_impl_Flow) (xl15 : List T_impl_Rule) (xl16 : List T_impl_Op) (X0 : List T_impl_Stored → Option R) (rec : Int → List T_impl_Stored → Option R) (x5 : Int) (xl17 : List T_impl_Stored) : Option R :=
  (bif decide (x5 < x4) then (bif decide (0 ≤ x5) then (bif decide (x5 < (xl4.length : Int)) then (bif ((rd_impl_Stored xl4 x5).f0 == xc5_0) then (bif decide ((xl17.length + ([(⟨(rd_impl_Stored xl4 x5).f0, (rd_impl_Stored xl4 x5).f1, (rd_impl_Stored xl4 x5).f2, (rd_impl_Stored xl4 x5).f3⟩ : T_impl_Stored)] : List T_impl_Stored).length) * 32 ≤ cap48) then (let l2 : List T_impl_Stored := (xl17 ++ ([(⟨(rd_impl_Stored xl4 x5).f0, (rd_impl_Stored xl4 x5).f1, (rd_impl_Stored xl4 x5).f2, (rd_impl_Stored xl4 x5).f3⟩ : T_impl_Stored)] : List T_impl_Stored)); (rec (w64 (x5 + (1 : Int))) l2)) else none) else (rec (w64 (x5 + (1 : Int))) xl17)) else none) else none) else (X0 xl17))
def impl_TakeSnapshot.l3 {R : Type} (k : Nat) (x4 : Int) (xl0 : List T_impl_Grant) (xl1 : List T_impl_Flow) (xl2 : List T_impl_Rule) (xl3 : List T_impl_Op) (xl4 : List T_impl_Stored) (xc5_0 : Int) (xc5_1 : Int) (xc5_2 : Int) (xc5_7 : Int) (xc6_0 : Int) (xc6_1 : Int) (xc6_2 : Int) (xc6_7 : Int) (xc7_0 : Int) (xc7_1 : Int) (xc7_2 : Int) (xc7_7 : Int) (xl8 : List T_impl_Grant) (xl9 : List T_impl_Flow) (xl10 : List T_impl_Rule) (xl11 : List T_impl_Op) (xl12 : List T_impl_Stored) (xl13 : List T_impl_Grant) (xl14 : List T_impl_Flow) (xl15 : List T_impl_Rule) (xl16 : List T_impl_Op) (X0 : List T_impl_Stored → Option R) : Nat → Int → List T_impl_Stored → Option R
  | 0 => fun _ _ => none
  | n + 1 => impl_TakeSnapshot.L3 k x4 xl0 xl1 xl2 xl3 xl4 xc5_0 xc5_1 xc5_2 xc5_7 xc6_0 xc6_1 xc6_2 xc6_7 xc7_0 xc7_1 xc7_2 xc7_7 xl8 xl9 xl10 xl11 xl12 xl13 xl14 xl15 xl16 X0 (impl_TakeSnapshot.l3 k x4 xl0 xl1 xl2 xl3 xl4 xc5_0 xc5_1 xc5_2 xc5_7 xc6_0 xc6_1 xc6_2 xc6_7 xc7_0 xc7_1 xc7_2 xc7_7 xl8 xl9 xl10 xl11 xl12 xl13 xl14 xl15 xl16 X0 n)
def impl_TakeSnapshot.f (k : Nat) (a0_0 : Int) (a0_1 : Int) (a0_2 : Int) (a0_3 : List T_impl_Grant) (a0_4 : List T_impl_Flow) (a0_5 : List T_impl_Rule) (a0_6 : List T_impl_Op) (a0_7 : Int) (a1 : List T_impl_Stored) : Option (Int × Int × Int × Int × List T_impl_Grant × List T_impl_Flow × List T_impl_Rule × List T_impl_Op × List T_impl_Stored) :=
  (impl_clonePackage.f k a0_0 a0_1 a0_2 a0_3 a0_4 a0_5 a0_6 a0_7).bind fun t1 => (impl_TakeSnapshot.l3 k (a1.length : Int) a0_3 a0_4 a0_5 a0_6 a1 a0_0 a0_1 a0_2 a0_7 (0 : Int) (0 : Int) (0 : Int) (0 : Int) t1.1 t1.2.1 t1.2.2.1 t1.2.2.2.1 ([] : List T_impl_Grant) ([] : List T_impl_Flow) ([] : List T_impl_Rule) ([] : List T_impl_Op) ([] : List T_impl_Stored) t1.2.2.2.2.1 t1.2.2.2.2.2.1 t1.2.2.2.2.2.2.1 t1.2.2.2.2.2.2.2 (fun (y3 : List T_impl_Stored) => some (t1.1, t1.2.1, t1.2.2.1, t1.2.2.2.1, t1.2.2.2.2.1, t1.2.2.2.2.2.1, t1.2.2.2.2.2.2.1, t1.2.2.2.2.2.2.2, y3)) k (0 : Int) ([] : List T_impl_Stored))
def impl_TakeSnapshot.h3 (k : Nat) {R : Type} (K : Ex → St κ → Option R) (vs : List AV) (bs : List (Blk κ)) : Option R :=
  match vs, bs with
  | [.v (.ptr 5 0 0), .v (.ptr 6 0 0), .v (.ptr 7 0 0), .v (.sl 4), .v (.int .i64 x4), .v (.int .i64 x5)], [qb0, qb1, qb2, qb3, qb4, .cells 29 [.int .i64 xc5_0, .int .i64 xc5_1, .int .i64 xc5_2, .sl 0, .sl 1, .sl 2, .sl 3, .int .i64 xc5_7], .cells 75 [.int .i64 xc6_0, .int .i64 xc6_1, .int .i64 xc6_2, .sl 8, .sl 9, .sl 10, .sl 11, .int .i64 xc6_7, .sl 12], .cells 75 [.int .i64 xc7_0, .int .i64 xc7_1, .int .i64 xc7_2, .sl 13, .sl 14, .sl 15, .sl 16, .int .i64 xc7_7, .sl 17], qb8, qb9, qb10, qb11, qb12, qb13, qb14, qb15, qb16, qb17] => (asO 5 false qb0).bind fun xl0 => (asO 6 false qb1).bind fun xl1 => (asO 7 false qb2).bind fun xl2 => (asO 8 false qb3).bind fun xl3 => (asO 9 false qb4).bind fun xl4 => (asO 5 true qb8).bind fun xl8 => (asO 6 true qb9).bind fun xl9 => (asO 7 true qb10).bind fun xl10 => (asO 8 true qb11).bind fun xl11 => (asO 9 true qb12).bind fun xl12 => (asO 5 true qb13).bind fun xl13 => (asO 6 true qb14).bind fun xl14 => (asO 7 true qb15).bind fun xl15 => (asO 8 true qb16).bind fun xl16 => (asO 9 true qb17).bind fun xl17 => impl_TakeSnapshot.l3 k x4 xl0 xl1 xl2 xl3 xl4 xc5_0 xc5_1 xc5_2 xc5_7 xc6_0 xc6_1 xc6_2 xc6_7 xc7_0 xc7_1 xc7_2 xc7_7 xl8 xl9 xl10 xl11 xl12 xl13 xl14 xl15 xl16 (fun (zl16 : List T_impl_Stored) => K (.exit 0) (stOf [(4, [none, none, none, some 5, some 6, some 7, some 8, none, some 9]), (5, [none, none, none, some 5, some 6, some 7, some 8, none, some 9])] [.v (.ptr 5 0 0), .v (.ptr 6 0 0)] [.rows 5 false xl0, .rows 6 false xl1, .rows 7 false xl2, .rows 8 false xl3, .rows 9 false xl4, .cells 75 [.int .i64 xc6_0, .int .i64 xc6_1, .int .i64 xc6_2, .sl 7, .sl 8, .sl 9, .sl 10, .int .i64 xc6_7, .sl 11], .cells 75 [.int .i64 xc7_0, .int .i64 xc7_1, .int .i64 xc7_2, .sl 12, .sl 13, .sl 14, .sl 15, .int .i64 xc7_7, .sl 16], .rows 5 true xl8, .rows 6 true xl9, .rows 7 true xl10, .rows 8 true xl11, .rows 9 true xl12, .rows 5 true xl13, .rows 6 true xl14, .rows 7 true xl15, .rows 8 true xl16, .rows 9 true zl16])) k x5 xl17
  | _, _ => none
def impl_TakeSnapshot.Γ (k : Nat) : Ct κ := assoc [(61, impl_clonePackage.C k)]
def impl_TakeSnapshot.LH (k : Nat) : Nat → Option (LHi κ) := assoc [(3, ⟨5, [(2, [none, none, none, some 5, some 6, some 7, some 8, none]), (4, [none, none, none, some 5, some 6, some 7, some 8, none, some 9]), (5, [none, none, none, some 5, some 6, some 7, some 8, none, some 9]), (12, [some 9]), (13, []), (14, [])], [(4, [none, none, none, some 5, some 6, some 7, some 8, none, some 9]), (5, [none, none, none, some 5, some 6, some 7, some 8, none, some 9])], @impl_TakeSnapshot.h3 k⟩)]
theorem impl_TakeSnapshot.hΓ (k : Nat) : ∀ f g, impl_TakeSnapshot.Γ k f = some g → CSound Try.prog f g := G_cons (impl_clonePackage.ok k) G_nil
theorem impl_TakeSnapshot.e3 {R : Type} (K : Ex → St κ → Option R) (k : Nat) (x4 : Int) (xl0 : List T_impl_Grant) (xl1 : List T_impl_Flow) (xl2 : List T_impl_Rule) (xl3 : List T_impl_Op) (xl4 : List T_impl_Stored) (xc5_0 : Int) (xc5_1 : Int) (xc5_2 : Int) (xc5_7 : Int) (xc6_0 : Int) (xc6_1 : Int) (xc6_2 : Int) (xc6_7 : Int) (xc7_0 : Int) (xc7_1 : Int) (xc7_2 : Int) (xc7_7 : Int) (xl8 : List T_impl_Grant) (xl9 : List T_impl_Flow) (xl10 : List T_impl_Rule) (xl11 : List T_impl_Op) (xl12 : List T_impl_Stored) (xl13 : List T_impl_Grant) (xl14 : List T_impl_Flow) (xl15 : List T_impl_Rule) (xl16 : List T_impl_Op) : ∀ (n : Nat) (x5 : Int) (xl17 : List T_impl_Stored), loopN 5 (Code.den ti (impl_TakeSnapshot.Γ k) (impl_TakeSnapshot.LH k) (loopAt Try.f44 0)) [(2, [none, none, none, some 5, some 6, some 7, some 8, none]), (4, [none, none, none, some 5, some 6, some 7, some 8, none, some 9]), (5, [none, none, none, some 5, some 6, some 7, some 8, none, some 9]), (12, [some 9]), (13, []), (14, [])] [(4, [none, none, none, some 5, some 6, some 7, some 8, none, some 9]), (5, [none, none, none, some 5, some 6, some 7, some 8, none, some 9])] K n [.v (.ptr 5 0 0), .v (.ptr 6 0 0), .v (.ptr 7 0 0), .v (.sl 4), .v (.int .i64 x4), .v (.int .i64 x5)] [.rows 5 false xl0, .rows 6 false xl1, .rows 7 false xl2, .rows 8 false xl3, .rows 9 false xl4, .cells 29 [.int .i64 xc5_0, .int .i64 xc5_1, .int .i64 xc5_2, .sl 0, .sl 1, .sl 2, .sl 3, .int .i64 xc5_7], .cells 75 [.int .i64 xc6_0, .int .i64 xc6_1, .int .i64 xc6_2, .sl 8, .sl 9, .sl 10, .sl 11, .int .i64 xc6_7, .sl 12], .cells 75 [.int .i64 xc7_0, .int .i64 xc7_1, .int .i64 xc7_2, .sl 13, .sl 14, .sl 15, .sl 16, .int .i64 xc7_7, .sl 17], .rows 5 true xl8, .rows 6 true xl9, .rows 7 true xl10, .rows 8 true xl11, .rows 9 true xl12, .rows 5 true xl13, .rows 6 true xl14, .rows 7 true xl15, .rows 8 true xl16, .rows 9 true xl17] = impl_TakeSnapshot.l3 k x4 xl0 xl1 xl2 xl3 xl4 xc5_0 xc5_1 xc5_2 xc5_7 xc6_0 xc6_1 xc6_2 xc6_7 xc7_0 xc7_1 xc7_2 xc7_7 xl8 xl9 xl10 xl11 xl12 xl13 xl14 xl15 xl16 (fun (zl16 : List T_impl_Stored) => K (.exit 0) (stOf [(4, [none, none, none, some 5, some 6, some 7, some 8, none, some 9]), (5, [none, none, none, some 5, some 6, some 7, some 8, none, some 9])] [.v (.ptr 5 0 0), .v (.ptr 6 0 0)] [.rows 5 false xl0, .rows 6 false xl1, .rows 7 false xl2, .rows 8 false xl3, .rows 9 false xl4, .cells 75 [.int .i64 xc6_0, .int .i64 xc6_1, .int .i64 xc6_2, .sl 7, .sl 8, .sl 9, .sl 10, .int .i64 xc6_7, .sl 11], .cells 75 [.int .i64 xc7_0, .int .i64 xc7_1, .int .i64 xc7_2, .sl 12, .sl 13, .sl 14, .sl 15, .int .i64 xc7_7, .sl 16], .rows 5 true xl8, .rows 6 true xl9, .rows 7 true xl10, .rows 8 true xl11, .rows 9 true xl12, .rows 5 true xl13, .rows 6 true xl14, .rows 7 true xl15, .rows 8 true xl16, .rows 9 true zl16])) n x5 xl17
  | 0, _, _ => rfl
  | n + 1, x5, xl17 => (show loopN 5 (Code.den ti (impl_TakeSnapshot.Γ k) (impl_TakeSnapshot.LH k) (loopAt Try.f44 0)) [(2, [none, none, none, some 5, some 6, some 7, some 8, none]), (4, [none, none, none, some 5, some 6, some 7, some 8, none, some 9]), (5, [none, none, none, some 5, some 6, some 7, some 8, none, some 9]), (12, [some 9]), (13, []), (14, [])] [(4, [none, none, none, some 5, some 6, some 7, some 8, none, some 9]), (5, [none, none, none, some 5, some 6, some 7, some 8, none, some 9])] K (n + 1) [.v (.ptr 5 0 0), .v (.ptr 6 0 0), .v (.ptr 7 0 0), .v (.sl 4), .v (.int .i64 x4), .v (.int .i64 x5)] [.rows 5 false xl0, .rows 6 false xl1, .rows 7 false xl2, .rows 8 false xl3, .rows 9 false xl4, .cells 29 [.int .i64 xc5_0, .int .i64 xc5_1, .int .i64 xc5_2, .sl 0, .sl 1, .sl 2, .sl 3, .int .i64 xc5_7], .cells 75 [.int .i64 xc6_0, .int .i64 xc6_1, .int .i64 xc6_2, .sl 8, .sl 9, .sl 10, .sl 11, .int .i64 xc6_7, .sl 12], .cells 75 [.int .i64 xc7_0, .int .i64 xc7_1, .int .i64 xc7_2, .sl 13, .sl 14, .sl 15, .sl 16, .int .i64 xc7_7, .sl 17], .rows 5 true xl8, .rows 6 true xl9, .rows 7 true xl10, .rows 8 true xl11, .rows 9 true xl12, .rows 5 true xl13, .rows 6 true xl14, .rows 7 true xl15, .rows 8 true xl16, .rows 9 true xl17] = impl_TakeSnapshot.L3 k x4 xl0 xl1 xl2 xl3 xl4 xc5_0 xc5_1 xc5_2 xc5_7 xc6_0 xc6_1 xc6_2 xc6_7 xc7_0 xc7_1 xc7_2 xc7_7 xl8 xl9 xl10 xl11 xl12 xl13 xl14 xl15 xl16 (fun (zl16 : List T_impl_Stored) => K (.exit 0) (stOf [(4, [none, none, none, some 5, some 6, some 7, some 8, none, some 9]), (5, [none, none, none, some 5, some 6, some 7, some 8, none, some 9])] [.v (.ptr 5 0 0), .v (.ptr 6 0 0)] [.rows 5 false xl0, .rows 6 false xl1, .rows 7 false xl2, .rows 8 false xl3, .rows 9 false xl4, .cells 75 [.int .i64 xc6_0, .int .i64 xc6_1, .int .i64 xc6_2, .sl 7, .sl 8, .sl 9, .sl 10, .int .i64 xc6_7, .sl 11], .cells 75 [.int .i64 xc7_0, .int .i64 xc7_1, .int .i64 xc7_2, .sl 12, .sl 13, .sl 14, .sl 15, .int .i64 xc7_7, .sl 16], .rows 5 true xl8, .rows 6 true xl9, .rows 7 true xl10, .rows 8 true xl11, .rows 9 true xl12, .rows 5 true xl13, .rows 6 true xl14, .rows 7 true xl15, .rows 8 true xl16, .rows 9 true zl16])) (fun (x5' : Int) (xl17' : List T_impl_Stored) => loopN 5 (Code.den ti (impl_TakeSnapshot.Γ k) (impl_TakeSnapshot.LH k) (loopAt Try.f44 0)) [(2, [none, none, none, some 5, some 6, some 7, some 8, none]), (4, [none, none, none, some 5, some 6, some 7, some 8, none, some 9]), (5, [none, none, none, some 5, some 6, some 7, some 8, none, some 9]), (12, [some 9]), (13, []), (14, [])] [(4, [none, none, none, some 5, some 6, some 7, some 8, none, some 9]), (5, [none, none, none, some 5, some 6, some 7, some 8, none, some 9])] K n [.v (.ptr 5 0 0), .v (.ptr 6 0 0), .v (.ptr 7 0 0), .v (.sl 4), .v (.int .i64 x4), .v (.int .i64 x5')] [.rows 5 false xl0, .rows 6 false xl1, .rows 7 false xl2, .rows 8 false xl3, .rows 9 false xl4, .cells 29 [.int .i64 xc5_0, .int .i64 xc5_1, .int .i64 xc5_2, .sl 0, .sl 1, .sl 2, .sl 3, .int .i64 xc5_7], .cells 75 [.int .i64 xc6_0, .int .i64 xc6_1, .int .i64 xc6_2, .sl 8, .sl 9, .sl 10, .sl 11, .int .i64 xc6_7, .sl 12], .cells 75 [.int .i64 xc7_0, .int .i64 xc7_1, .int .i64 xc7_2, .sl 13, .sl 14, .sl 15, .sl 16, .int .i64 xc7_7, .sl 17], .rows 5 true xl8, .rows 6 true xl9, .rows 7 true xl10, .rows 8 true xl11, .rows 9 true xl12, .rows 5 true xl13, .rows 6 true xl14, .rows 7 true xl15, .rows 8 true xl16, .rows 9 true xl17']) x5 xl17 by kernel_rfl).trans (congrArg (fun rec => impl_TakeSnapshot.L3 k x4 xl0 xl1 xl2 xl3 xl4 xc5_0 xc5_1 xc5_2 xc5_7 xc6_0 xc6_1 xc6_2 xc6_7 xc7_0 xc7_1 xc7_2 xc7_7 xl8 xl9 xl10 xl11 xl12 xl13 xl14 xl15 xl16 (fun (zl16 : List T_impl_Stored) => K (.exit 0) (stOf [(4, [none, none, none, some 5, some 6, some 7, some 8, none, some 9]), (5, [none, none, none, some 5, some 6, some 7, some 8, none, some 9])] [.v (.ptr 5 0 0), .v (.ptr 6 0 0)] [.rows 5 false xl0, .rows 6 false xl1, .rows 7 false xl2, .rows 8 false xl3, .rows 9 false xl4, .cells 75 [.int .i64 xc6_0, .int .i64 xc6_1, .int .i64 xc6_2, .sl 7, .sl 8, .sl 9, .sl 10, .int .i64 xc6_7, .sl 11], .cells 75 [.int .i64 xc7_0, .int .i64 xc7_1, .int .i64 xc7_2, .sl 12, .sl 13, .sl 14, .sl 15, .int .i64 xc7_7, .sl 16], .rows 5 true xl8, .rows 6 true xl9, .rows 7 true xl10, .rows 8 true xl11, .rows 9 true xl12, .rows 5 true xl13, .rows 6 true xl14, .rows 7 true xl15, .rows 8 true xl16, .rows 9 true zl16])) rec x5 xl17) (funext fun x5' => funext fun xl17' => impl_TakeSnapshot.e3 K k x4 xl0 xl1 xl2 xl3 xl4 xc5_0 xc5_1 xc5_2 xc5_7 xc6_0 xc6_1 xc6_2 xc6_7 xc7_0 xc7_1 xc7_2 xc7_7 xl8 xl9 xl10 xl11 xl12 xl13 xl14 xl15 xl16 n x5' xl17'))
theorem impl_TakeSnapshot.q3 (k : Nat) {R : Type} (K : Ex → St κ → Option R) (vs : List AV) (bs : List (Blk κ)) (r : R) (h : impl_TakeSnapshot.h3 k K vs bs = some r) : ∃ n, loopN 5 (Code.den ti (impl_TakeSnapshot.Γ k) (impl_TakeSnapshot.LH k) (loopAt Try.f44 0)) [(2, [none, none, none, some 5, some 6, some 7, some 8, none]), (4, [none, none, none, some 5, some 6, some 7, some 8, none, some 9]), (5, [none, none, none, some 5, some 6, some 7, some 8, none, some 9]), (12, [some 9]), (13, []), (14, [])] [(4, [none, none, none, some 5, some 6, some 7, some 8, none, some 9]), (5, [none, none, none, some 5, some 6, some 7, some 8, none, some 9])] K n vs bs = some r := by
  unfold impl_TakeSnapshot.h3 at h
  split at h
  · obtain ⟨_, rfl, h_1⟩ := asO_bind h
    obtain ⟨_, rfl, h_2⟩ := asO_bind h_1
    obtain ⟨_, rfl, h_3⟩ := asO_bind h_2
    obtain ⟨_, rfl, h_4⟩ := asO_bind h_3
    obtain ⟨_, rfl, h_5⟩ := asO_bind h_4
    obtain ⟨_, rfl, h_6⟩ := asO_bind h_5
    obtain ⟨_, rfl, h_7⟩ := asO_bind h_6
    obtain ⟨_, rfl, h_8⟩ := asO_bind h_7
    obtain ⟨_, rfl, h_9⟩ := asO_bind h_8
    obtain ⟨_, rfl, h_10⟩ := asO_bind h_9
    obtain ⟨_, rfl, h_11⟩ := asO_bind h_10
    obtain ⟨_, rfl, h_12⟩ := asO_bind h_11
    obtain ⟨_, rfl, h_13⟩ := asO_bind h_12
    obtain ⟨_, rfl, h_14⟩ := asO_bind h_13
    obtain ⟨_, rfl, h_15⟩ := asO_bind h_14
    exact ⟨k, (impl_TakeSnapshot.e3 K k _ _ _ _ _ _ _ _ _ _ _ _ _ _ _ _ _ _ _ _ _ _ _ _ _ _ _ k _ _).trans h_15⟩
  · cases h
theorem impl_TakeSnapshot.lok (k : Nat) : LOK ti (impl_TakeSnapshot.Γ k) (impl_TakeSnapshot.LH k) 5 (loopsOf (bodyOf Try.f44)) :=
  (show loopsOf (bodyOf Try.f44) = [loopAt Try.f44 0] by kernel_rfl) ▸ (LOK_cons (g := ⟨5, [(2, [none, none, none, some 5, some 6, some 7, some 8, none]), (4, [none, none, none, some 5, some 6, some 7, some 8, none, some 9]), (5, [none, none, none, some 5, some 6, some 7, some 8, none, some 9]), (12, [some 9]), (13, []), (14, [])], [(4, [none, none, none, some 5, some 6, some 7, some 8, none, some 9]), (5, [none, none, none, some 5, some 6, some 7, some 8, none, some 9])], @impl_TakeSnapshot.h3 k⟩) (by kernel_rfl) rfl (fun K vs xs r h => impl_TakeSnapshot.q3 k K vs xs r h) (LOK_nil))
def impl_TakeSnapshot.sig : List PSh := [.agg [.sc, .sc, .sc, .ro 5, .ro 6, .ro 7, .ro 8, .sc], .one (.ro 9)]
def impl_TakeSnapshot.g (y : Int × Int × Int × Int × List T_impl_Grant × List T_impl_Flow × List T_impl_Rule × List T_impl_Op × List T_impl_Stored) : Ret κ := ⟨.agg [.int .i64 y.1, .int .i64 y.2.1, .int .i64 y.2.2.1, .sl 5, .sl 6, .sl 7, .sl 8, .int .i64 y.2.2.2.1, .sl 9], [], [.rows 5 true y.2.2.2.2.1, .rows 6 true y.2.2.2.2.2.1, .rows 7 true y.2.2.2.2.2.2.1, .rows 8 true y.2.2.2.2.2.2.2.1, .rows 9 true y.2.2.2.2.2.2.2.2]⟩
def impl_TakeSnapshot.out (r : Ret κ) : Option (Int × Int × Int × Int × List T_impl_Grant × List T_impl_Flow × List T_impl_Rule × List T_impl_Op × List T_impl_Stored) :=
  match r with
  | ⟨.agg [.int .i64 z0, .int .i64 z1, .int .i64 z2, .sl 5, .sl 6, .sl 7, .sl 8, .int .i64 z3, .sl 9], [], [q4, q5, q6, q7, q8]⟩ => (asO 5 true q4).bind fun z4 => (asO 6 true q5).bind fun z5 => (asO 7 true q6).bind fun z6 => (asO 8 true q7).bind fun z7 => (asO 9 true q8).bind fun z8 => some (z0, z1, z2, z3, z4, z5, z6, z7, z8)
  | _ => none
theorem impl_TakeSnapshot.out_ok (r : Ret κ) (y : Int × Int × Int × Int × List T_impl_Grant × List T_impl_Flow × List T_impl_Rule × List T_impl_Op × List T_impl_Stored) (h : impl_TakeSnapshot.out r = some y) : r = impl_TakeSnapshot.g y := by
  unfold impl_TakeSnapshot.out at h
  split at h
  · obtain ⟨_, rfl, h_1⟩ := asO_bind h
    obtain ⟨_, rfl, h_2⟩ := asO_bind h_1
    obtain ⟨_, rfl, h_3⟩ := asO_bind h_2
    obtain ⟨_, rfl, h_4⟩ := asO_bind h_3
    obtain ⟨_, rfl, h_5⟩ := asO_bind h_4
    obtain rfl := Option.some.inj h_5
    rfl
  · cases h
def impl_TakeSnapshot.body (k : Nat) (vs : List AV) (bs : List (Blk κ)) : Option (Lf κ) :=
  match vs, bs with
  | [.agg [.int .i64 a0_0, .int .i64 a0_1, .int .i64 a0_2, .sl 0, .sl 1, .sl 2, .sl 3, .int .i64 a0_7], .v (.sl 4)], [qb0, qb1, qb2, qb3, qb4] => (asO 5 false qb0).bind fun a0_3 => (asO 6 false qb1).bind fun a0_4 => (asO 7 false qb2).bind fun a0_5 => (asO 8 false qb3).bind fun a0_6 => (asO 9 false qb4).bind fun a1 => some ⟨Int × Int × Int × Int × List T_impl_Grant × List T_impl_Flow × List T_impl_Rule × List T_impl_Op × List T_impl_Stored, impl_TakeSnapshot.f k a0_0 a0_1 a0_2 a0_3 a0_4 a0_5 a0_6 a0_7 a1, impl_TakeSnapshot.g⟩
  | _, _ => none
def impl_TakeSnapshot.C (k : Nat) : Nat → List AV → AP κ AV := contract impl_TakeSnapshot.sig (impl_TakeSnapshot.body k)
theorem impl_TakeSnapshot.den (k : Nat) (a0_0 : Int) (a0_1 : Int) (a0_2 : Int) (a0_3 : List T_impl_Grant) (a0_4 : List T_impl_Flow) (a0_5 : List T_impl_Rule) (a0_6 : List T_impl_Op) (a0_7 : Int) (a1 : List T_impl_Stored) : Code.den ti (impl_TakeSnapshot.Γ k) (impl_TakeSnapshot.LH k) (bodyOf Try.f44) (finK ti Try.f44.results.toList [(4, [none, none, none, some 5, some 6, some 7, some 8, none, some 9])] (flags impl_TakeSnapshot.sig).length (rwI (flags impl_TakeSnapshot.sig) 0) impl_TakeSnapshot.out) ⟨envOf (([.agg [.int .i64 a0_0, .int .i64 a0_1, .int .i64 a0_2, .sl 0, .sl 1, .sl 2, .sl 3, .int .i64 a0_7], .v (.sl 4)]).zipIdx.map fun q => (q.2, q.1)), hpOf [.rows 5 false a0_3, .rows 6 false a0_4, .rows 7 false a0_5, .rows 8 false a0_6, .rows 9 false a1], (flags impl_TakeSnapshot.sig).length⟩ = impl_TakeSnapshot.f k a0_0 a0_1 a0_2 a0_3 a0_4 a0_5 a0_6 a0_7 a1 := by kernel_rfl
theorem impl_TakeSnapshot.ok (k : Nat) : CSound Try.prog 44 (impl_TakeSnapshot.C k) :=
  csound κ_ok mixed tok (impl_TakeSnapshot.hΓ k) (LH := impl_TakeSnapshot.LH k) (fn := Try.f44) (c := bodyOf Try.f44) Try.func44 rfl Try.call44 impl_TakeSnapshot.sig [(4, [none, none, none, some 5, some 6, some 7, some 8, none, some 9])] (impl_TakeSnapshot.body k) (by kernel_rfl) (impl_TakeSnapshot.lok k) (by decide) fun vs bs lf y hl hb hy => by
    unfold impl_TakeSnapshot.body at hb
    split at hb
    · obtain ⟨_, rfl, hb_1⟩ := asO_bind hb
      obtain ⟨_, rfl, hb_2⟩ := asO_bind hb_1
      obtain ⟨_, rfl, hb_3⟩ := asO_bind hb_2
      obtain ⟨_, rfl, hb_4⟩ := asO_bind hb_3
      obtain ⟨_, rfl, hb_5⟩ := asO_bind hb_4
      obtain rfl := Option.some.inj hb_5
      exact ⟨impl_TakeSnapshot.out, impl_TakeSnapshot.out_ok, (impl_TakeSnapshot.den k _ _ _ _ _ _ _ _ _).trans hy⟩
    · cases hb
/-! ### laws_eqPattern -/
def laws_eqPattern.f (k : Nat) (a0_0 : Int) (a0_1 : Int) (a1_0 : Int) (a1_1 : Int) : Option Bool :=
  (bif (a0_0 != a1_0) then some false else (bif (a0_1 != a1_1) then some false else some true))
def laws_eqPattern.Γ (k : Nat) : Ct κ := assoc []
def laws_eqPattern.LH (k : Nat) : Nat → Option (LHi κ) := assoc []
theorem laws_eqPattern.hΓ (k : Nat) : ∀ f g, laws_eqPattern.Γ k f = some g → CSound Try.prog f g := G_nil
theorem laws_eqPattern.lok (k : Nat) : LOK ti (laws_eqPattern.Γ k) (laws_eqPattern.LH k) 0 (loopsOf (bodyOf Try.f121)) :=
  (show loopsOf (bodyOf Try.f121) = [] by kernel_rfl) ▸ LOK_nil
def laws_eqPattern.sig : List PSh := [.agg [.sc, .sc], .agg [.sc, .sc]]
def laws_eqPattern.g (y : Bool) : Ret κ := ⟨.v (.bool y), [], []⟩
def laws_eqPattern.out (r : Ret κ) : Option Bool :=
  match r with
  | ⟨.v (.bool z0), [], []⟩ => some (z0)
  | _ => none
theorem laws_eqPattern.out_ok (r : Ret κ) (y : Bool) (h : laws_eqPattern.out r = some y) : r = laws_eqPattern.g y := by
  unfold laws_eqPattern.out at h
  split at h
  · obtain rfl := Option.some.inj h
    rfl
  · cases h
def laws_eqPattern.body (k : Nat) (vs : List AV) (bs : List (Blk κ)) : Option (Lf κ) :=
  match vs, bs with
  | [.agg [.int .i64 a0_0, .int .i64 a0_1], .agg [.int .i64 a1_0, .int .i64 a1_1]], [] => some ⟨Bool, laws_eqPattern.f k a0_0 a0_1 a1_0 a1_1, laws_eqPattern.g⟩
  | _, _ => none
def laws_eqPattern.C (k : Nat) : Nat → List AV → AP κ AV := contract laws_eqPattern.sig (laws_eqPattern.body k)
theorem laws_eqPattern.den (k : Nat) (a0_0 : Int) (a0_1 : Int) (a1_0 : Int) (a1_1 : Int) : Code.den ti (laws_eqPattern.Γ k) (laws_eqPattern.LH k) (bodyOf Try.f121) (finK ti Try.f121.results.toList [] (flags laws_eqPattern.sig).length (rwI (flags laws_eqPattern.sig) 0) laws_eqPattern.out) ⟨envOf (([.agg [.int .i64 a0_0, .int .i64 a0_1], .agg [.int .i64 a1_0, .int .i64 a1_1]]).zipIdx.map fun q => (q.2, q.1)), hpOf [], (flags laws_eqPattern.sig).length⟩ = laws_eqPattern.f k a0_0 a0_1 a1_0 a1_1 := by kernel_rfl
theorem laws_eqPattern.ok (k : Nat) : CSound Try.prog 121 (laws_eqPattern.C k) :=
  csound κ_ok mixed tok (laws_eqPattern.hΓ k) (LH := laws_eqPattern.LH k) (fn := Try.f121) (c := bodyOf Try.f121) Try.func121 rfl Try.call121 laws_eqPattern.sig [] (laws_eqPattern.body k) (by kernel_rfl) (laws_eqPattern.lok k) (by decide) fun vs bs lf y hl hb hy => by
    unfold laws_eqPattern.body at hb
    split at hb
    · obtain rfl := Option.some.inj hb
      exact ⟨laws_eqPattern.out, laws_eqPattern.out_ok, (laws_eqPattern.den k _ _ _ _).trans hy⟩
    · cases hb
/-! ### laws_eqGrant -/
def laws_eqGrant.f (k : Nat) (a0_0 : Int) (a0_1 : Int) (a0_2 : Int) (a0_3 : Int) (a0_4 : Int) (a0_5 : Int) (a0_6 : Bool) (a1_0 : Int) (a1_1 : Int) (a1_2 : Int) (a1_3 : Int) (a1_4 : Int) (a1_5 : Int) (a1_6 : Bool) : Option Bool :=
  (bif (a0_0 != a1_0) then some false else (laws_eqPattern.f k a0_1 a0_2 a1_1 a1_2).bind fun t1 => (bif !t1 then some false else (bif (a0_3 != a1_3) then some false else (bif (a0_4 != a1_4) then some false else (bif (a0_5 != a1_5) then some false else (bif !(a0_6 == a1_6) then some false else some true))))))
def laws_eqGrant.Γ (k : Nat) : Ct κ := assoc [(121, laws_eqPattern.C k)]
def laws_eqGrant.LH (k : Nat) : Nat → Option (LHi κ) := assoc []
theorem laws_eqGrant.hΓ (k : Nat) : ∀ f g, laws_eqGrant.Γ k f = some g → CSound Try.prog f g := G_cons (laws_eqPattern.ok k) G_nil
theorem laws_eqGrant.lok (k : Nat) : LOK ti (laws_eqGrant.Γ k) (laws_eqGrant.LH k) 0 (loopsOf (bodyOf Try.f79)) :=
  (show loopsOf (bodyOf Try.f79) = [] by kernel_rfl) ▸ LOK_nil
def laws_eqGrant.sig : List PSh := [.agg [.sc, .sc, .sc, .sc, .sc, .sc, .sc], .agg [.sc, .sc, .sc, .sc, .sc, .sc, .sc]]
def laws_eqGrant.g (y : Bool) : Ret κ := ⟨.v (.bool y), [], []⟩
def laws_eqGrant.out (r : Ret κ) : Option Bool :=
  match r with
  | ⟨.v (.bool z0), [], []⟩ => some (z0)
  | _ => none
theorem laws_eqGrant.out_ok (r : Ret κ) (y : Bool) (h : laws_eqGrant.out r = some y) : r = laws_eqGrant.g y := by
  unfold laws_eqGrant.out at h
  split at h
  · obtain rfl := Option.some.inj h
    rfl
  · cases h
def laws_eqGrant.body (k : Nat) (vs : List AV) (bs : List (Blk κ)) : Option (Lf κ) :=
  match vs, bs with
  | [.agg [.int .i64 a0_0, .int .i64 a0_1, .int .i64 a0_2, .int .i64 a0_3, .int .i64 a0_4, .int .i64 a0_5, .bool a0_6], .agg [.int .i64 a1_0, .int .i64 a1_1, .int .i64 a1_2, .int .i64 a1_3, .int .i64 a1_4, .int .i64 a1_5, .bool a1_6]], [] => some ⟨Bool, laws_eqGrant.f k a0_0 a0_1 a0_2 a0_3 a0_4 a0_5 a0_6 a1_0 a1_1 a1_2 a1_3 a1_4 a1_5 a1_6, laws_eqGrant.g⟩
  | _, _ => none
def laws_eqGrant.C (k : Nat) : Nat → List AV → AP κ AV := contract laws_eqGrant.sig (laws_eqGrant.body k)
theorem laws_eqGrant.den (k : Nat) (a0_0 : Int) (a0_1 : Int) (a0_2 : Int) (a0_3 : Int) (a0_4 : Int) (a0_5 : Int) (a0_6 : Bool) (a1_0 : Int) (a1_1 : Int) (a1_2 : Int) (a1_3 : Int) (a1_4 : Int) (a1_5 : Int) (a1_6 : Bool) : Code.den ti (laws_eqGrant.Γ k) (laws_eqGrant.LH k) (bodyOf Try.f79) (finK ti Try.f79.results.toList [] (flags laws_eqGrant.sig).length (rwI (flags laws_eqGrant.sig) 0) laws_eqGrant.out) ⟨envOf (([.agg [.int .i64 a0_0, .int .i64 a0_1, .int .i64 a0_2, .int .i64 a0_3, .int .i64 a0_4, .int .i64 a0_5, .bool a0_6], .agg [.int .i64 a1_0, .int .i64 a1_1, .int .i64 a1_2, .int .i64 a1_3, .int .i64 a1_4, .int .i64 a1_5, .bool a1_6]]).zipIdx.map fun q => (q.2, q.1)), hpOf [], (flags laws_eqGrant.sig).length⟩ = laws_eqGrant.f k a0_0 a0_1 a0_2 a0_3 a0_4 a0_5 a0_6 a1_0 a1_1 a1_2 a1_3 a1_4 a1_5 a1_6 := by kernel_rfl
theorem laws_eqGrant.ok (k : Nat) : CSound Try.prog 79 (laws_eqGrant.C k) :=
  csound κ_ok mixed tok (laws_eqGrant.hΓ k) (LH := laws_eqGrant.LH k) (fn := Try.f79) (c := bodyOf Try.f79) Try.func79 rfl Try.call79 laws_eqGrant.sig [] (laws_eqGrant.body k) (by kernel_rfl) (laws_eqGrant.lok k) (by decide) fun vs bs lf y hl hb hy => by
    unfold laws_eqGrant.body at hb
    split at hb
    · obtain rfl := Option.some.inj hb
      exact ⟨laws_eqGrant.out, laws_eqGrant.out_ok, (laws_eqGrant.den k _ _ _ _ _ _ _ _ _ _ _ _ _ _).trans hy⟩
    · cases hb
/-! ### laws_eqGrantS -/
def laws_eqGrantS.L4 {R : Type} (k : Nat) (xl0 : List T_impl_Grant) (xl1 : List T_impl_Grant) (X0 : Bool → Option R) (X1 : Unit → Option R) (rec : Int → Option R) (x2 : Int) : Option R :=
  (bif decide (x2 < (xl0.length : Int)) then (bif decide (0 ≤ x2) then (bif decide (x2 < (xl0.length : Int)) then (bif decide (0 ≤ x2) then (bif decide (x2 < (xl1.length : Int)) then (laws_eqGrant.f k ((rd_impl_Grant xl0 x2).f0) ((rd_impl_Grant xl0 x2).f1.f0) ((rd_impl_Grant xl0 x2).f1.f1) ((rd_impl_Grant xl0 x2).f2) ((rd_impl_Grant xl0 x2).f3) ((rd_impl_Grant xl0 x2).f4) ((rd_impl_Grant xl0 x2).f5) ((rd_impl_Grant xl1 x2).f0) ((rd_impl_Grant xl1 x2).f1.f0) ((rd_impl_Grant xl1 x2).f1.f1) ((rd_impl_Grant xl1 x2).f2) ((rd_impl_Grant xl1 x2).f3) ((rd_impl_Grant xl1 x2).f4) ((rd_impl_Grant xl1 x2).f5)).bind fun t1 => (bif !t1 then (X0 false) else (rec (w64 (x2 + (1 : Int))))) else none) else none) else none) else none) else (X1 ()))
def laws_eqGrantS.l4 {R : Type} (k : Nat) (xl0 : List T_impl_Grant) (xl1 : List T_impl_Grant) (X0 : Bool → Option R) (X1 : Unit → Option R) : Nat → Int → Option R
  | 0 => fun _ => none
  | n + 1 => laws_eqGrantS.L4 k xl0 xl1 X0 X1 (laws_eqGrantS.l4 k xl0 xl1 X0 X1 n)
def laws_eqGrantS.f (k : Nat) (a0 : List T_impl_Grant) (a1 : List T_impl_Grant) : Option Bool :=
  (bif ((a0.length : Int) != (a1.length : Int)) then some false else (laws_eqGrantS.l4 k a0 a1 (fun (y2 : Bool) => some y2) (fun (_ : Unit) => some true) k (0 : Int)))
def laws_eqGrantS.h4 (k : Nat) {R : Type} (K : Ex → St κ → Option R) (vs : List AV) (bs : List (Blk κ)) : Option R :=
  match vs, bs with
  | [.v (.sl 0), .v (.sl 1), .v (.int .i64 x2)], [qb0, qb1] => (asO 5 false qb0).bind fun xl0 => (asO 5 false qb1).bind fun xl1 => laws_eqGrantS.l4 k xl0 xl1 (fun (z0 : Bool) => K .ret (stOf [(4, [])] [.v (.bool z0)] [.rows 5 false xl0, .rows 5 false xl1])) (fun (_ : Unit) => K (.exit 0) (stOf [(4, [])] [.v .any] [.rows 5 false xl0, .rows 5 false xl1])) k x2
  | _, _ => none
def laws_eqGrantS.Γ (k : Nat) : Ct κ := assoc [(79, laws_eqGrant.C k)]
def laws_eqGrantS.LH (k : Nat) : Nat → Option (LHi κ) := assoc [(4, ⟨2, [(0, [some 5]), (1, [some 5]), (5, [])], [(4, [])], @laws_eqGrantS.h4 k⟩)]
theorem laws_eqGrantS.hΓ (k : Nat) : ∀ f g, laws_eqGrantS.Γ k f = some g → CSound Try.prog f g := G_cons (laws_eqGrant.ok k) G_nil
theorem laws_eqGrantS.e4 {R : Type} (K : Ex → St κ → Option R) (k : Nat) (xl0 : List T_impl_Grant) (xl1 : List T_impl_Grant) : ∀ (n : Nat) (x2 : Int), loopN 2 (Code.den ti (laws_eqGrantS.Γ k) (laws_eqGrantS.LH k) (loopAt Try.f25 0)) [(0, [some 5]), (1, [some 5]), (5, [])] [(4, [])] K n [.v (.sl 0), .v (.sl 1), .v (.int .i64 x2)] [.rows 5 false xl0, .rows 5 false xl1] = laws_eqGrantS.l4 k xl0 xl1 (fun (z0 : Bool) => K .ret (stOf [(4, [])] [.v (.bool z0)] [.rows 5 false xl0, .rows 5 false xl1])) (fun (_ : Unit) => K (.exit 0) (stOf [(4, [])] [.v .any] [.rows 5 false xl0, .rows 5 false xl1])) n x2
  | 0, _ => rfl
  | n + 1, x2 => (show loopN 2 (Code.den ti (laws_eqGrantS.Γ k) (laws_eqGrantS.LH k) (loopAt Try.f25 0)) [(0, [some 5]), (1, [some 5]), (5, [])] [(4, [])] K (n + 1) [.v (.sl 0), .v (.sl 1), .v (.int .i64 x2)] [.rows 5 false xl0, .rows 5 false xl1] = laws_eqGrantS.L4 k xl0 xl1 (fun (z0 : Bool) => K .ret (stOf [(4, [])] [.v (.bool z0)] [.rows 5 false xl0, .rows 5 false xl1])) (fun (_ : Unit) => K (.exit 0) (stOf [(4, [])] [.v .any] [.rows 5 false xl0, .rows 5 false xl1])) (fun (x2' : Int) => loopN 2 (Code.den ti (laws_eqGrantS.Γ k) (laws_eqGrantS.LH k) (loopAt Try.f25 0)) [(0, [some 5]), (1, [some 5]), (5, [])] [(4, [])] K n [.v (.sl 0), .v (.sl 1), .v (.int .i64 x2')] [.rows 5 false xl0, .rows 5 false xl1]) x2 by kernel_rfl).trans (congrArg (fun rec => laws_eqGrantS.L4 k xl0 xl1 (fun (z0 : Bool) => K .ret (stOf [(4, [])] [.v (.bool z0)] [.rows 5 false xl0, .rows 5 false xl1])) (fun (_ : Unit) => K (.exit 0) (stOf [(4, [])] [.v .any] [.rows 5 false xl0, .rows 5 false xl1])) rec x2) (funext fun x2' => laws_eqGrantS.e4 K k xl0 xl1 n x2'))
theorem laws_eqGrantS.q4 (k : Nat) {R : Type} (K : Ex → St κ → Option R) (vs : List AV) (bs : List (Blk κ)) (r : R) (h : laws_eqGrantS.h4 k K vs bs = some r) : ∃ n, loopN 2 (Code.den ti (laws_eqGrantS.Γ k) (laws_eqGrantS.LH k) (loopAt Try.f25 0)) [(0, [some 5]), (1, [some 5]), (5, [])] [(4, [])] K n vs bs = some r := by
  unfold laws_eqGrantS.h4 at h
  split at h
  · obtain ⟨_, rfl, h_1⟩ := asO_bind h
    obtain ⟨_, rfl, h_2⟩ := asO_bind h_1
    exact ⟨k, (laws_eqGrantS.e4 K k _ _ k _).trans h_2⟩
  · cases h
theorem laws_eqGrantS.lok (k : Nat) : LOK ti (laws_eqGrantS.Γ k) (laws_eqGrantS.LH k) 2 (loopsOf (bodyOf Try.f25)) :=
  (show loopsOf (bodyOf Try.f25) = [loopAt Try.f25 0] by kernel_rfl) ▸ (LOK_cons (g := ⟨2, [(0, [some 5]), (1, [some 5]), (5, [])], [(4, [])], @laws_eqGrantS.h4 k⟩) (by kernel_rfl) rfl (fun K vs xs r h => laws_eqGrantS.q4 k K vs xs r h) (LOK_nil))
def laws_eqGrantS.sig : List PSh := [.one (.ro 5), .one (.ro 5)]
def laws_eqGrantS.g (y : Bool) : Ret κ := ⟨.v (.bool y), [], []⟩
def laws_eqGrantS.out (r : Ret κ) : Option Bool :=
  match r with
  | ⟨.v (.bool z0), [], []⟩ => some (z0)
  | _ => none
theorem laws_eqGrantS.out_ok (r : Ret κ) (y : Bool) (h : laws_eqGrantS.out r = some y) : r = laws_eqGrantS.g y := by
  unfold laws_eqGrantS.out at h
  split at h
  · obtain rfl := Option.some.inj h
    rfl
  · cases h
def laws_eqGrantS.body (k : Nat) (vs : List AV) (bs : List (Blk κ)) : Option (Lf κ) :=
  match vs, bs with
  | [.v (.sl 0), .v (.sl 1)], [qb0, qb1] => (asO 5 false qb0).bind fun a0 => (asO 5 false qb1).bind fun a1 => some ⟨Bool, laws_eqGrantS.f k a0 a1, laws_eqGrantS.g⟩
  | _, _ => none
def laws_eqGrantS.C (k : Nat) : Nat → List AV → AP κ AV := contract laws_eqGrantS.sig (laws_eqGrantS.body k)
theorem laws_eqGrantS.den (k : Nat) (a0 : List T_impl_Grant) (a1 : List T_impl_Grant) : Code.den ti (laws_eqGrantS.Γ k) (laws_eqGrantS.LH k) (bodyOf Try.f25) (finK ti Try.f25.results.toList [] (flags laws_eqGrantS.sig).length (rwI (flags laws_eqGrantS.sig) 0) laws_eqGrantS.out) ⟨envOf (([.v (.sl 0), .v (.sl 1)]).zipIdx.map fun q => (q.2, q.1)), hpOf [.rows 5 false a0, .rows 5 false a1], (flags laws_eqGrantS.sig).length⟩ = laws_eqGrantS.f k a0 a1 := by kernel_rfl
theorem laws_eqGrantS.ok (k : Nat) : CSound Try.prog 25 (laws_eqGrantS.C k) :=
  csound κ_ok mixed tok (laws_eqGrantS.hΓ k) (LH := laws_eqGrantS.LH k) (fn := Try.f25) (c := bodyOf Try.f25) Try.func25 rfl Try.call25 laws_eqGrantS.sig [] (laws_eqGrantS.body k) (by kernel_rfl) (laws_eqGrantS.lok k) (by decide) fun vs bs lf y hl hb hy => by
    unfold laws_eqGrantS.body at hb
    split at hb
    · obtain ⟨_, rfl, hb_1⟩ := asO_bind hb
      obtain ⟨_, rfl, hb_2⟩ := asO_bind hb_1
      obtain rfl := Option.some.inj hb_2
      exact ⟨laws_eqGrantS.out, laws_eqGrantS.out_ok, (laws_eqGrantS.den k _ _).trans hy⟩
    · cases hb
end Go.Proofs.Ythingkcckjiniaa.PFnExactTakeSnapshot
