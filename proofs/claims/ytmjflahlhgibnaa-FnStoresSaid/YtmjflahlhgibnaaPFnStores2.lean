/- What the functions that the law FnStores reaches come to; no conditions. -/
import Derived.Test.YtmjflahlhgibnaaPFnStores1
set_option linter.unusedVariables false
set_option maxRecDepth 100000
namespace Go.Proofs.Ytmjflahlhgibnaa.PFnStores
open Go Go.Eng Go.Proofs
/-! ### spec_l24Any -/
def spec_l24Any.f (k : Nat) (a0_0 : List Int) (a0_1 : Int) (a0_2 : Int) : Option (Int × Int × List T_impl_Stored) :=
  (spec_l24Draw.f k a0_0 a0_1 a0_2).bind fun t1 => (bif ((t1.2.2.length : Int) == (0 : Int)) then some (t1.1, t1.2.1, t1.2.2) else (spec_l1Below.f k a0_0 t1.1 t1.2.1 (t1.2.2.length : Int)).bind fun t2 => (spec_l1Below.f k a0_0 t2.2.1 t2.2.2 (9 : Int)).bind fun t3 => (bif (t3.1 == (0 : Int)) then (spec_l9Raw.f k a0_0 t3.2.1 t3.2.2).bind fun t4 => (bif decide (0 ≤ t2.1) then (bif decide (t2.1 < (t1.2.2.length : Int)) then (let l5 : List T_impl_Stored := (t1.2.2.set (t2.1).toNat (⟨t4.1, (rd_impl_Stored t1.2.2 t2.1).f1, (rd_impl_Stored t1.2.2 t2.1).f2, (rd_impl_Stored t1.2.2 t2.1).f3⟩ : T_impl_Stored)); some (t4.2.1, t4.2.2, l5)) else none) else none) else (bif (t3.1 == (1 : Int)) then (spec_l1Int.f k a0_0 t3.2.1 t3.2.2 ([(0 : Int), (999 : Int), (1000 : Int)] : List Int)).bind fun t6 => (bif decide (0 ≤ t2.1) then (bif decide (t2.1 < (t1.2.2.length : Int)) then (let l7 : List T_impl_Stored := (t1.2.2.set (t2.1).toNat (⟨(rd_impl_Stored t1.2.2 t2.1).f0, (rd_impl_Stored t1.2.2 t2.1).f1, (rd_impl_Stored t1.2.2 t2.1).f2, t6.1⟩ : T_impl_Stored)); some (t6.2.1, t6.2.2, l7)) else none) else none) else (bif (t3.1 == (2 : Int)) then (spec_l1Int.f k a0_0 t3.2.1 t3.2.2 ([(-1 : Int), (999 : Int), (1000 : Int)] : List Int)).bind fun t8 => (bif decide (0 ≤ t2.1) then (bif decide (t2.1 < (t1.2.2.length : Int)) then (let l9 : List T_impl_Stored := (t1.2.2.set (t2.1).toNat (⟨(rd_impl_Stored t1.2.2 t2.1).f0, (rd_impl_Stored t1.2.2 t2.1).f1, t8.1, (rd_impl_Stored t1.2.2 t2.1).f3⟩ : T_impl_Stored)); some (t8.2.1, t8.2.2, l9)) else none) else none) else (bif (t3.1 == (3 : Int)) then (bif decide (0 ≤ (0 : Int)) then (bif decide ((0 : Int) < (t1.2.2.length : Int)) then (bif decide ((t1.2.2.length + ([(⟨(rd_impl_Stored t1.2.2 (0 : Int)).f0, (rd_impl_Stored t1.2.2 (0 : Int)).f1, (rd_impl_Stored t1.2.2 (0 : Int)).f2, (rd_impl_Stored t1.2.2 (0 : Int)).f3⟩ : T_impl_Stored)] : List T_impl_Stored).length) * 32 ≤ cap48) then (let l10 : List T_impl_Stored := (t1.2.2 ++ ([(⟨(rd_impl_Stored t1.2.2 (0 : Int)).f0, (rd_impl_Stored t1.2.2 (0 : Int)).f1, (rd_impl_Stored t1.2.2 (0 : Int)).f2, (rd_impl_Stored t1.2.2 (0 : Int)).f3⟩ : T_impl_Stored)] : List T_impl_Stored)); some (t3.2.1, t3.2.2, l10)) else none) else none) else none) else some (t3.2.1, t3.2.2, t1.2.2))))))
def spec_l24Any.Γ (k : Nat) : Ct κ := assoc [(63, spec_l24Draw.C k), (62, spec_l1Below.C k), (53, spec_l9Raw.C k), (38, spec_l1Int.C k)]
def spec_l24Any.LH (k : Nat) : Nat → Option (LHi κ) := assoc []
theorem spec_l24Any.hΓ (k : Nat) : ∀ f g, spec_l24Any.Γ k f = some g → CSound Try.prog f g := G_cons (spec_l24Draw.ok k) (G_cons (spec_l1Below.ok k) (G_cons (spec_l9Raw.ok k) (G_cons (spec_l1Int.ok k) G_nil)))
theorem spec_l24Any.lok (k : Nat) : LOK ti (spec_l24Any.Γ k) (spec_l24Any.LH k) 2 (loopsOf (bodyOf Try.f41)) :=
  (show loopsOf (bodyOf Try.f41) = [] by kernel_rfl) ▸ LOK_nil
def spec_l24Any.sig : List PSh := [.cur 106 [.ro 0, .sc, .sc]]
def spec_l24Any.g (y : Int × Int × List T_impl_Stored) : Ret κ := ⟨.v (.sl 2), [.cells 106 [.sl 1, .int .i64 y.1, .int .i64 y.2.1]], [.rows 1 true y.2.2]⟩
def spec_l24Any.out (r : Ret κ) : Option (Int × Int × List T_impl_Stored) :=
  match r with
  | ⟨.v (.sl 2), [.cells 106 [.sl 1, .int .i64 z0, .int .i64 z1]], [q2]⟩ => (asO 1 true q2).bind fun z2 => some (z0, z1, z2)
  | _ => none
theorem spec_l24Any.out_ok (r : Ret κ) (y : Int × Int × List T_impl_Stored) (h : spec_l24Any.out r = some y) : r = spec_l24Any.g y := by
  unfold spec_l24Any.out at h
  split at h
  · obtain ⟨_, rfl, h_1⟩ := asO_bind h
    obtain rfl := Option.some.inj h_1
    rfl
  · cases h
def spec_l24Any.body (k : Nat) (vs : List AV) (bs : List (Blk κ)) : Option (Lf κ) :=
  match vs, bs with
  | [.v (.ptr 0 0 0)], [.cells 106 [.sl 1, .int .i64 a0_1, .int .i64 a0_2], qb1] => (asO 0 false qb1).bind fun a0_0 => some ⟨Int × Int × List T_impl_Stored, spec_l24Any.f k a0_0 a0_1 a0_2, spec_l24Any.g⟩
  | _, _ => none
def spec_l24Any.C (k : Nat) : Nat → List AV → AP κ AV := contract spec_l24Any.sig (spec_l24Any.body k)
theorem spec_l24Any.den (k : Nat) (a0_0 : List Int) (a0_1 : Int) (a0_2 : Int) : Code.den ti (spec_l24Any.Γ k) (spec_l24Any.LH k) (bodyOf Try.f41) (finK ti Try.f41.results.toList [(2, [some 1])] (flags spec_l24Any.sig).length (rwI (flags spec_l24Any.sig) 0) spec_l24Any.out) ⟨envOf (([.v (.ptr 0 0 0)]).zipIdx.map fun q => (q.2, q.1)), hpOf [.cells 106 [.sl 1, .int .i64 a0_1, .int .i64 a0_2], .rows 0 false a0_0], (flags spec_l24Any.sig).length⟩ = spec_l24Any.f k a0_0 a0_1 a0_2 := by kernel_rfl
theorem spec_l24Any.ok (k : Nat) : CSound Try.prog 41 (spec_l24Any.C k) :=
  csound κ_ok mixed tok (spec_l24Any.hΓ k) (LH := spec_l24Any.LH k) (fn := Try.f41) (c := bodyOf Try.f41) Try.func41 rfl Try.call41 spec_l24Any.sig [(2, [some 1])] (spec_l24Any.body k) (by kernel_rfl) (spec_l24Any.lok k) (by decide) fun vs bs lf y hl hb hy => by
    unfold spec_l24Any.body at hb
    split at hb
    · obtain ⟨_, rfl, hb_1⟩ := asO_bind hb
      obtain rfl := Option.some.inj hb_1
      exact ⟨spec_l24Any.out, spec_l24Any.out_ok, (spec_l24Any.den k _ _ _).trans hy⟩
    · cases hb
/-! ### spec_DrawMergeStores -/
def spec_DrawMergeStores.f (k : Nat) (a0 : List Int) : Option (List T_impl_Stored × List T_impl_Stored) :=
  (spec_l1New.f k a0).bind fun t1 => (spec_l24Any.f k a0 t1.1 t1.2).bind fun t2 => (spec_l24Any.f k a0 t2.1 t2.2.1).bind fun t3 => some (t2.2.2, t3.2.2)
def spec_DrawMergeStores.Γ (k : Nat) : Ct κ := assoc [(37, spec_l1New.C k), (41, spec_l24Any.C k)]
def spec_DrawMergeStores.LH (k : Nat) : Nat → Option (LHi κ) := assoc []
theorem spec_DrawMergeStores.hΓ (k : Nat) : ∀ f g, spec_DrawMergeStores.Γ k f = some g → CSound Try.prog f g := G_cons (spec_l1New.ok k) (G_cons (spec_l24Any.ok k) G_nil)
theorem spec_DrawMergeStores.lok (k : Nat) : LOK ti (spec_DrawMergeStores.Γ k) (spec_DrawMergeStores.LH k) 1 (loopsOf (bodyOf Try.f23)) :=
  (show loopsOf (bodyOf Try.f23) = [] by kernel_rfl) ▸ LOK_nil
def spec_DrawMergeStores.sig : List PSh := [.one (.ro 0)]
def spec_DrawMergeStores.g (y : List T_impl_Stored × List T_impl_Stored) : Ret κ := ⟨.tup [(false, [.sl 1]), (false, [.sl 2])], [], [.rows 1 true y.1, .rows 1 true y.2]⟩
def spec_DrawMergeStores.out (r : Ret κ) : Option (List T_impl_Stored × List T_impl_Stored) :=
  match r with
  | ⟨.tup [(false, [.sl 1]), (false, [.sl 2])], [], [q0, q1]⟩ => (asO 1 true q0).bind fun z0 => (asO 1 true q1).bind fun z1 => some (z0, z1)
  | _ => none
theorem spec_DrawMergeStores.out_ok (r : Ret κ) (y : List T_impl_Stored × List T_impl_Stored) (h : spec_DrawMergeStores.out r = some y) : r = spec_DrawMergeStores.g y := by
  unfold spec_DrawMergeStores.out at h
  split at h
  · obtain ⟨_, rfl, h_1⟩ := asO_bind h
    obtain ⟨_, rfl, h_2⟩ := asO_bind h_1
    obtain rfl := Option.some.inj h_2
    rfl
  · cases h
def spec_DrawMergeStores.body (k : Nat) (vs : List AV) (bs : List (Blk κ)) : Option (Lf κ) :=
  match vs, bs with
  | [.v (.sl 0)], [qb0] => (asO 0 false qb0).bind fun a0 => some ⟨List T_impl_Stored × List T_impl_Stored, spec_DrawMergeStores.f k a0, spec_DrawMergeStores.g⟩
  | _, _ => none
def spec_DrawMergeStores.C (k : Nat) : Nat → List AV → AP κ AV := contract spec_DrawMergeStores.sig (spec_DrawMergeStores.body k)
theorem spec_DrawMergeStores.den (k : Nat) (a0 : List Int) : Code.den ti (spec_DrawMergeStores.Γ k) (spec_DrawMergeStores.LH k) (bodyOf Try.f23) (finK ti Try.f23.results.toList [(2, [some 1]), (3, [some 1])] (flags spec_DrawMergeStores.sig).length (rwI (flags spec_DrawMergeStores.sig) 0) spec_DrawMergeStores.out) ⟨envOf (([.v (.sl 0)]).zipIdx.map fun q => (q.2, q.1)), hpOf [.rows 0 false a0], (flags spec_DrawMergeStores.sig).length⟩ = spec_DrawMergeStores.f k a0 := by kernel_rfl
theorem spec_DrawMergeStores.ok (k : Nat) : CSound Try.prog 23 (spec_DrawMergeStores.C k) :=
  csound κ_ok mixed tok (spec_DrawMergeStores.hΓ k) (LH := spec_DrawMergeStores.LH k) (fn := Try.f23) (c := bodyOf Try.f23) Try.func23 rfl Try.call23 spec_DrawMergeStores.sig [(2, [some 1]), (3, [some 1])] (spec_DrawMergeStores.body k) (by kernel_rfl) (spec_DrawMergeStores.lok k) (by decide) fun vs bs lf y hl hb hy => by
    unfold spec_DrawMergeStores.body at hb
    split at hb
    · obtain ⟨_, rfl, hb_1⟩ := asO_bind hb
      obtain rfl := Option.some.inj hb_1
      exact ⟨spec_DrawMergeStores.out, spec_DrawMergeStores.out_ok, (spec_DrawMergeStores.den k _).trans hy⟩
    · cases hb
/-! ### impl_InRange -/
def impl_InRange.f (k : Nat) (a0 : Int) (a1 : Int) (a2 : Int) : Option Bool :=
  (bif decide (a1 ≤ a0) then some (decide (a0 ≤ a2)) else some false)
def impl_InRange.Γ (k : Nat) : Ct κ := assoc []
def impl_InRange.LH (k : Nat) : Nat → Option (LHi κ) := assoc []
theorem impl_InRange.hΓ (k : Nat) : ∀ f g, impl_InRange.Γ k f = some g → CSound Try.prog f g := G_nil
theorem impl_InRange.lok (k : Nat) : LOK ti (impl_InRange.Γ k) (impl_InRange.LH k) 0 (loopsOf (bodyOf Try.f43)) :=
  (show loopsOf (bodyOf Try.f43) = [] by kernel_rfl) ▸ LOK_nil
def impl_InRange.sig : List PSh := [.one .sc, .one .sc, .one .sc]
def impl_InRange.g (y : Bool) : Ret κ := ⟨.v (.bool y), [], []⟩
def impl_InRange.out (r : Ret κ) : Option Bool :=
  match r with
  | ⟨.v (.bool z0), [], []⟩ => some (z0)
  | _ => none
theorem impl_InRange.out_ok (r : Ret κ) (y : Bool) (h : impl_InRange.out r = some y) : r = impl_InRange.g y := by
  unfold impl_InRange.out at h
  split at h
  · obtain rfl := Option.some.inj h
    rfl
  · cases h
def impl_InRange.body (k : Nat) (vs : List AV) (bs : List (Blk κ)) : Option (Lf κ) :=
  match vs, bs with
  | [.v (.int .i64 a0), .v (.int .i64 a1), .v (.int .i64 a2)], [] => some ⟨Bool, impl_InRange.f k a0 a1 a2, impl_InRange.g⟩
  | _, _ => none
def impl_InRange.C (k : Nat) : Nat → List AV → AP κ AV := contract impl_InRange.sig (impl_InRange.body k)
theorem impl_InRange.den (k : Nat) (a0 : Int) (a1 : Int) (a2 : Int) : Code.den ti (impl_InRange.Γ k) (impl_InRange.LH k) (bodyOf Try.f43) (finK ti Try.f43.results.toList [] (flags impl_InRange.sig).length (rwI (flags impl_InRange.sig) 0) impl_InRange.out) ⟨envOf (([.v (.int .i64 a0), .v (.int .i64 a1), .v (.int .i64 a2)]).zipIdx.map fun q => (q.2, q.1)), hpOf [], (flags impl_InRange.sig).length⟩ = impl_InRange.f k a0 a1 a2 := by kernel_rfl
theorem impl_InRange.ok (k : Nat) : CSound Try.prog 43 (impl_InRange.C k) :=
  csound κ_ok mixed tok (impl_InRange.hΓ k) (LH := impl_InRange.LH k) (fn := Try.f43) (c := bodyOf Try.f43) Try.func43 rfl Try.call43 impl_InRange.sig [] (impl_InRange.body k) (by kernel_rfl) (impl_InRange.lok k) (by decide) fun vs bs lf y hl hb hy => by
    unfold impl_InRange.body at hb
    split at hb
    · obtain rfl := Option.some.inj hb
      exact ⟨impl_InRange.out, impl_InRange.out_ok, (impl_InRange.den k _ _ _).trans hy⟩
    · cases hb
/-! ### cmp_isNaN_int -/
def cmp_isNaN_int.f (k : Nat) (a0 : Int) : Option Bool :=
  some (a0 != a0)
def cmp_isNaN_int.Γ (k : Nat) : Ct κ := assoc []
def cmp_isNaN_int.LH (k : Nat) : Nat → Option (LHi κ) := assoc []
theorem cmp_isNaN_int.hΓ (k : Nat) : ∀ f g, cmp_isNaN_int.Γ k f = some g → CSound Try.prog f g := G_nil
theorem cmp_isNaN_int.lok (k : Nat) : LOK ti (cmp_isNaN_int.Γ k) (cmp_isNaN_int.LH k) 0 (loopsOf (bodyOf Try.f92)) :=
  (show loopsOf (bodyOf Try.f92) = [] by kernel_rfl) ▸ LOK_nil
def cmp_isNaN_int.sig : List PSh := [.one .sc]
def cmp_isNaN_int.g (y : Bool) : Ret κ := ⟨.v (.bool y), [], []⟩
def cmp_isNaN_int.out (r : Ret κ) : Option Bool :=
  match r with
  | ⟨.v (.bool z0), [], []⟩ => some (z0)
  | _ => none
theorem cmp_isNaN_int.out_ok (r : Ret κ) (y : Bool) (h : cmp_isNaN_int.out r = some y) : r = cmp_isNaN_int.g y := by
  unfold cmp_isNaN_int.out at h
  split at h
  · obtain rfl := Option.some.inj h
    rfl
  · cases h
def cmp_isNaN_int.body (k : Nat) (vs : List AV) (bs : List (Blk κ)) : Option (Lf κ) :=
  match vs, bs with
  | [.v (.int .i64 a0)], [] => some ⟨Bool, cmp_isNaN_int.f k a0, cmp_isNaN_int.g⟩
  | _, _ => none
def cmp_isNaN_int.C (k : Nat) : Nat → List AV → AP κ AV := contract cmp_isNaN_int.sig (cmp_isNaN_int.body k)
theorem cmp_isNaN_int.den (k : Nat) (a0 : Int) : Code.den ti (cmp_isNaN_int.Γ k) (cmp_isNaN_int.LH k) (bodyOf Try.f92) (finK ti Try.f92.results.toList [] (flags cmp_isNaN_int.sig).length (rwI (flags cmp_isNaN_int.sig) 0) cmp_isNaN_int.out) ⟨envOf (([.v (.int .i64 a0)]).zipIdx.map fun q => (q.2, q.1)), hpOf [], (flags cmp_isNaN_int.sig).length⟩ = cmp_isNaN_int.f k a0 := by kernel_rfl
theorem cmp_isNaN_int.ok (k : Nat) : CSound Try.prog 92 (cmp_isNaN_int.C k) :=
  csound κ_ok mixed tok (cmp_isNaN_int.hΓ k) (LH := cmp_isNaN_int.LH k) (fn := Try.f92) (c := bodyOf Try.f92) Try.func92 rfl Try.call92 cmp_isNaN_int.sig [] (cmp_isNaN_int.body k) (by kernel_rfl) (cmp_isNaN_int.lok k) (by decide) fun vs bs lf y hl hb hy => by
    unfold cmp_isNaN_int.body at hb
    split at hb
    · obtain rfl := Option.some.inj hb
      exact ⟨cmp_isNaN_int.out, cmp_isNaN_int.out_ok, (cmp_isNaN_int.den k _).trans hy⟩
    · cases hb
/-! ### cmp_Compare_int -/
def cmp_Compare_int.f (k : Nat) (a0 : Int) (a1 : Int) : Option Int :=
  (cmp_isNaN_int.f k a0).bind fun t1 => (cmp_isNaN_int.f k a1).bind fun t2 => (bif t1 then (bif t2 then some (0 : Int) else some (-1 : Int)) else (bif t2 then some (1 : Int) else (bif decide (a0 < a1) then some (-1 : Int) else (bif decide (a0 > a1) then some (1 : Int) else some (0 : Int)))))
def cmp_Compare_int.Γ (k : Nat) : Ct κ := assoc [(92, cmp_isNaN_int.C k)]
def cmp_Compare_int.LH (k : Nat) : Nat → Option (LHi κ) := assoc []
theorem cmp_Compare_int.hΓ (k : Nat) : ∀ f g, cmp_Compare_int.Γ k f = some g → CSound Try.prog f g := G_cons (cmp_isNaN_int.ok k) G_nil
theorem cmp_Compare_int.lok (k : Nat) : LOK ti (cmp_Compare_int.Γ k) (cmp_Compare_int.LH k) 0 (loopsOf (bodyOf Try.f65)) :=
  (show loopsOf (bodyOf Try.f65) = [] by kernel_rfl) ▸ LOK_nil
def cmp_Compare_int.sig : List PSh := [.one .sc, .one .sc]
def cmp_Compare_int.g (y : Int) : Ret κ := ⟨.v (.int .i64 y), [], []⟩
def cmp_Compare_int.out (r : Ret κ) : Option Int :=
  match r with
  | ⟨.v (.int .i64 z0), [], []⟩ => some (z0)
  | _ => none
theorem cmp_Compare_int.out_ok (r : Ret κ) (y : Int) (h : cmp_Compare_int.out r = some y) : r = cmp_Compare_int.g y := by
  unfold cmp_Compare_int.out at h
  split at h
  · obtain rfl := Option.some.inj h
    rfl
  · cases h
def cmp_Compare_int.body (k : Nat) (vs : List AV) (bs : List (Blk κ)) : Option (Lf κ) :=
  match vs, bs with
  | [.v (.int .i64 a0), .v (.int .i64 a1)], [] => some ⟨Int, cmp_Compare_int.f k a0 a1, cmp_Compare_int.g⟩
  | _, _ => none
def cmp_Compare_int.C (k : Nat) : Nat → List AV → AP κ AV := contract cmp_Compare_int.sig (cmp_Compare_int.body k)
theorem cmp_Compare_int.den (k : Nat) (a0 : Int) (a1 : Int) : Code.den ti (cmp_Compare_int.Γ k) (cmp_Compare_int.LH k) (bodyOf Try.f65) (finK ti Try.f65.results.toList [] (flags cmp_Compare_int.sig).length (rwI (flags cmp_Compare_int.sig) 0) cmp_Compare_int.out) ⟨envOf (([.v (.int .i64 a0), .v (.int .i64 a1)]).zipIdx.map fun q => (q.2, q.1)), hpOf [], (flags cmp_Compare_int.sig).length⟩ = cmp_Compare_int.f k a0 a1 := by kernel_rfl
theorem cmp_Compare_int.ok (k : Nat) : CSound Try.prog 65 (cmp_Compare_int.C k) :=
  csound κ_ok mixed tok (cmp_Compare_int.hΓ k) (LH := cmp_Compare_int.LH k) (fn := Try.f65) (c := bodyOf Try.f65) Try.func65 rfl Try.call65 cmp_Compare_int.sig [] (cmp_Compare_int.body k) (by kernel_rfl) (cmp_Compare_int.lok k) (by decide) fun vs bs lf y hl hb hy => by
    unfold cmp_Compare_int.body at hb
    split at hb
    · obtain rfl := Option.some.inj hb
      exact ⟨cmp_Compare_int.out, cmp_Compare_int.out_ok, (cmp_Compare_int.den k _ _).trans hy⟩
    · cases hb
/-! ### cmp_Or_int -/
def cmp_Or_int.L3 {R : Type} (k : Nat) (x0 : Int) (x2 : Int) (xl0 : List Int) (X0 : Int → Option R) (X1 : Unit → Option R) (rec : Int → Option R) (x3 : Int) : Option R :=
  (bif decide (x3 < x2) then (bif decide (0 ≤ x3) then (bif decide (x3 < (xl0.length : Int)) then (bif ((rd_i64 xl0 x3) != x0) then (X0 (rd_i64 xl0 x3)) else (rec (w64 (x3 + (1 : Int))))) else none) else none) else (X1 ()))
def cmp_Or_int.l3 {R : Type} (k : Nat) (x0 : Int) (x2 : Int) (xl0 : List Int) (X0 : Int → Option R) (X1 : Unit → Option R) : Nat → Int → Option R
  | 0 => fun _ => none
  | n + 1 => cmp_Or_int.L3 k x0 x2 xl0 X0 X1 (cmp_Or_int.l3 k x0 x2 xl0 X0 X1 n)
def cmp_Or_int.f (k : Nat) (a0 : List Int) : Option Int :=
  (cmp_Or_int.l3 k (0 : Int) (a0.length : Int) a0 (fun (y1 : Int) => some y1) (fun (_ : Unit) => some (0 : Int)) k (0 : Int))
def cmp_Or_int.h3 (k : Nat) {R : Type} (K : Ex → St κ → Option R) (vs : List AV) (bs : List (Blk κ)) : Option R :=
  match vs, bs with
  | [.v (.int .i64 x0), .v (.sl 0), .v (.int .i64 x2), .v (.int .i64 x3)], [qb0] => (asO 2 false qb0).bind fun xl0 => cmp_Or_int.l3 k x0 x2 xl0 (fun (z0 : Int) => K .ret (stOf [(2, []), (3, [])] [.v (.int .i64 z0), .v (.int .i64 x0)] [.rows 2 false xl0])) (fun (_ : Unit) => K (.exit 0) (stOf [(2, []), (3, [])] [.v .any, .v (.int .i64 x0)] [.rows 2 false xl0])) k x3
  | _, _ => none
def cmp_Or_int.Γ (k : Nat) : Ct κ := assoc []
def cmp_Or_int.LH (k : Nat) : Nat → Option (LHi κ) := assoc [(3, ⟨1, [(3, []), (6, [some 2]), (7, []), (8, [])], [(2, []), (3, [])], @cmp_Or_int.h3 k⟩)]
theorem cmp_Or_int.hΓ (k : Nat) : ∀ f g, cmp_Or_int.Γ k f = some g → CSound Try.prog f g := G_nil
theorem cmp_Or_int.e3 {R : Type} (K : Ex → St κ → Option R) (k : Nat) (x0 : Int) (x2 : Int) (xl0 : List Int) : ∀ (n : Nat) (x3 : Int), loopN 1 (Code.den ti (cmp_Or_int.Γ k) (cmp_Or_int.LH k) (loopAt Try.f64 0)) [(3, []), (6, [some 2]), (7, []), (8, [])] [(2, []), (3, [])] K n [.v (.int .i64 x0), .v (.sl 0), .v (.int .i64 x2), .v (.int .i64 x3)] [.rows 2 false xl0] = cmp_Or_int.l3 k x0 x2 xl0 (fun (z0 : Int) => K .ret (stOf [(2, []), (3, [])] [.v (.int .i64 z0), .v (.int .i64 x0)] [.rows 2 false xl0])) (fun (_ : Unit) => K (.exit 0) (stOf [(2, []), (3, [])] [.v .any, .v (.int .i64 x0)] [.rows 2 false xl0])) n x3
  | 0, _ => rfl
  | n + 1, x3 => (show loopN 1 (Code.den ti (cmp_Or_int.Γ k) (cmp_Or_int.LH k) (loopAt Try.f64 0)) [(3, []), (6, [some 2]), (7, []), (8, [])] [(2, []), (3, [])] K (n + 1) [.v (.int .i64 x0), .v (.sl 0), .v (.int .i64 x2), .v (.int .i64 x3)] [.rows 2 false xl0] = cmp_Or_int.L3 k x0 x2 xl0 (fun (z0 : Int) => K .ret (stOf [(2, []), (3, [])] [.v (.int .i64 z0), .v (.int .i64 x0)] [.rows 2 false xl0])) (fun (_ : Unit) => K (.exit 0) (stOf [(2, []), (3, [])] [.v .any, .v (.int .i64 x0)] [.rows 2 false xl0])) (fun (x3' : Int) => loopN 1 (Code.den ti (cmp_Or_int.Γ k) (cmp_Or_int.LH k) (loopAt Try.f64 0)) [(3, []), (6, [some 2]), (7, []), (8, [])] [(2, []), (3, [])] K n [.v (.int .i64 x0), .v (.sl 0), .v (.int .i64 x2), .v (.int .i64 x3')] [.rows 2 false xl0]) x3 by kernel_rfl).trans (congrArg (fun rec => cmp_Or_int.L3 k x0 x2 xl0 (fun (z0 : Int) => K .ret (stOf [(2, []), (3, [])] [.v (.int .i64 z0), .v (.int .i64 x0)] [.rows 2 false xl0])) (fun (_ : Unit) => K (.exit 0) (stOf [(2, []), (3, [])] [.v .any, .v (.int .i64 x0)] [.rows 2 false xl0])) rec x3) (funext fun x3' => cmp_Or_int.e3 K k x0 x2 xl0 n x3'))
theorem cmp_Or_int.q3 (k : Nat) {R : Type} (K : Ex → St κ → Option R) (vs : List AV) (bs : List (Blk κ)) (r : R) (h : cmp_Or_int.h3 k K vs bs = some r) : ∃ n, loopN 1 (Code.den ti (cmp_Or_int.Γ k) (cmp_Or_int.LH k) (loopAt Try.f64 0)) [(3, []), (6, [some 2]), (7, []), (8, [])] [(2, []), (3, [])] K n vs bs = some r := by
  unfold cmp_Or_int.h3 at h
  split at h
  · obtain ⟨_, rfl, h_1⟩ := asO_bind h
    exact ⟨k, (cmp_Or_int.e3 K k _ _ _ k _).trans h_1⟩
  · cases h
theorem cmp_Or_int.lok (k : Nat) : LOK ti (cmp_Or_int.Γ k) (cmp_Or_int.LH k) 1 (loopsOf (bodyOf Try.f64)) :=
  (show loopsOf (bodyOf Try.f64) = [loopAt Try.f64 0] by kernel_rfl) ▸ (LOK_cons (g := ⟨1, [(3, []), (6, [some 2]), (7, []), (8, [])], [(2, []), (3, [])], @cmp_Or_int.h3 k⟩) (by kernel_rfl) rfl (fun K vs xs r h => cmp_Or_int.q3 k K vs xs r h) (LOK_nil))
def cmp_Or_int.sig : List PSh := [.one (.ro 2)]
def cmp_Or_int.g (y : Int) : Ret κ := ⟨.v (.int .i64 y), [], []⟩
def cmp_Or_int.out (r : Ret κ) : Option Int :=
  match r with
  | ⟨.v (.int .i64 z0), [], []⟩ => some (z0)
  | _ => none
theorem cmp_Or_int.out_ok (r : Ret κ) (y : Int) (h : cmp_Or_int.out r = some y) : r = cmp_Or_int.g y := by
  unfold cmp_Or_int.out at h
  split at h
  · obtain rfl := Option.some.inj h
    rfl
  · cases h
def cmp_Or_int.body (k : Nat) (vs : List AV) (bs : List (Blk κ)) : Option (Lf κ) :=
  match vs, bs with
  | [.v (.sl 0)], [qb0] => (asO 2 false qb0).bind fun a0 => some ⟨Int, cmp_Or_int.f k a0, cmp_Or_int.g⟩
  | _, _ => none
def cmp_Or_int.C (k : Nat) : Nat → List AV → AP κ AV := contract cmp_Or_int.sig (cmp_Or_int.body k)
theorem cmp_Or_int.den (k : Nat) (a0 : List Int) : Code.den ti (cmp_Or_int.Γ k) (cmp_Or_int.LH k) (bodyOf Try.f64) (finK ti Try.f64.results.toList [] (flags cmp_Or_int.sig).length (rwI (flags cmp_Or_int.sig) 0) cmp_Or_int.out) ⟨envOf (([.v (.sl 0)]).zipIdx.map fun q => (q.2, q.1)), hpOf [.rows 2 false a0], (flags cmp_Or_int.sig).length⟩ = cmp_Or_int.f k a0 := by kernel_rfl
theorem cmp_Or_int.ok (k : Nat) : CSound Try.prog 64 (cmp_Or_int.C k) :=
  csound κ_ok mixed tok (cmp_Or_int.hΓ k) (LH := cmp_Or_int.LH k) (fn := Try.f64) (c := bodyOf Try.f64) Try.func64 rfl Try.call64 cmp_Or_int.sig [] (cmp_Or_int.body k) (by kernel_rfl) (cmp_Or_int.lok k) (by decide) fun vs bs lf y hl hb hy => by
    unfold cmp_Or_int.body at hb
    split at hb
    · obtain ⟨_, rfl, hb_1⟩ := asO_bind hb
      obtain rfl := Option.some.inj hb_1
      exact ⟨cmp_Or_int.out, cmp_Or_int.out_ok, (cmp_Or_int.den k _).trans hy⟩
    · cases hb
/-! ### impl_compareStored -/
def impl_compareStored.f (k : Nat) (a0_0 : Int) (a0_1 : Int) (a0_2 : Int) (a0_3 : Int) (a1_0 : Int) (a1_1 : Int) (a1_2 : Int) (a1_3 : Int) : Option Int :=
  (cmp_Compare_int.f k a0_0 a1_0).bind fun t1 => (cmp_Compare_int.f k a0_1 a1_1).bind fun t2 => (cmp_Or_int.f k ([t1, t2] : List Int)).bind fun t3 => some t3
def impl_compareStored.Γ (k : Nat) : Ct κ := assoc [(65, cmp_Compare_int.C k), (64, cmp_Or_int.C k)]
def impl_compareStored.LH (k : Nat) : Nat → Option (LHi κ) := assoc []
theorem impl_compareStored.hΓ (k : Nat) : ∀ f g, impl_compareStored.Γ k f = some g → CSound Try.prog f g := G_cons (cmp_Compare_int.ok k) (G_cons (cmp_Or_int.ok k) G_nil)
theorem impl_compareStored.lok (k : Nat) : LOK ti (impl_compareStored.Γ k) (impl_compareStored.LH k) 0 (loopsOf (bodyOf Try.f44)) :=
  (show loopsOf (bodyOf Try.f44) = [] by kernel_rfl) ▸ LOK_nil
def impl_compareStored.sig : List PSh := [.agg [.sc, .sc, .sc, .sc], .agg [.sc, .sc, .sc, .sc]]
def impl_compareStored.g (y : Int) : Ret κ := ⟨.v (.int .i64 y), [], []⟩
def impl_compareStored.out (r : Ret κ) : Option Int :=
  match r with
  | ⟨.v (.int .i64 z0), [], []⟩ => some (z0)
  | _ => none
theorem impl_compareStored.out_ok (r : Ret κ) (y : Int) (h : impl_compareStored.out r = some y) : r = impl_compareStored.g y := by
  unfold impl_compareStored.out at h
  split at h
  · obtain rfl := Option.some.inj h
    rfl
  · cases h
def impl_compareStored.body (k : Nat) (vs : List AV) (bs : List (Blk κ)) : Option (Lf κ) :=
  match vs, bs with
  | [.agg [.int .i64 a0_0, .int .i64 a0_1, .int .i64 a0_2, .int .i64 a0_3], .agg [.int .i64 a1_0, .int .i64 a1_1, .int .i64 a1_2, .int .i64 a1_3]], [] => some ⟨Int, impl_compareStored.f k a0_0 a0_1 a0_2 a0_3 a1_0 a1_1 a1_2 a1_3, impl_compareStored.g⟩
  | _, _ => none
def impl_compareStored.C (k : Nat) : Nat → List AV → AP κ AV := contract impl_compareStored.sig (impl_compareStored.body k)
theorem impl_compareStored.den (k : Nat) (a0_0 : Int) (a0_1 : Int) (a0_2 : Int) (a0_3 : Int) (a1_0 : Int) (a1_1 : Int) (a1_2 : Int) (a1_3 : Int) : Code.den ti (impl_compareStored.Γ k) (impl_compareStored.LH k) (bodyOf Try.f44) (finK ti Try.f44.results.toList [] (flags impl_compareStored.sig).length (rwI (flags impl_compareStored.sig) 0) impl_compareStored.out) ⟨envOf (([.agg [.int .i64 a0_0, .int .i64 a0_1, .int .i64 a0_2, .int .i64 a0_3], .agg [.int .i64 a1_0, .int .i64 a1_1, .int .i64 a1_2, .int .i64 a1_3]]).zipIdx.map fun q => (q.2, q.1)), hpOf [], (flags impl_compareStored.sig).length⟩ = impl_compareStored.f k a0_0 a0_1 a0_2 a0_3 a1_0 a1_1 a1_2 a1_3 := by kernel_rfl
theorem impl_compareStored.ok (k : Nat) : CSound Try.prog 44 (impl_compareStored.C k) :=
  csound κ_ok mixed tok (impl_compareStored.hΓ k) (LH := impl_compareStored.LH k) (fn := Try.f44) (c := bodyOf Try.f44) Try.func44 rfl Try.call44 impl_compareStored.sig [] (impl_compareStored.body k) (by kernel_rfl) (impl_compareStored.lok k) (by decide) fun vs bs lf y hl hb hy => by
    unfold impl_compareStored.body at hb
    split at hb
    · obtain rfl := Option.some.inj hb
      exact ⟨impl_compareStored.out, impl_compareStored.out_ok, (impl_compareStored.den k _ _ _ _ _ _ _ _).trans hy⟩
    · cases hb
/-! ### impl_IsStore -/
def impl_IsStore.L4 {R : Type} (k : Nat) (x2 : Int) (xl0 : List T_impl_Stored) (X0 : Bool → Option R) (X1 : Unit → Option R) (rec : Int → Option R) (x3 : Int) : Option R :=
  (bif decide (x3 < x2) then (bif decide (0 ≤ x3) then (bif decide (x3 < (xl0.length : Int)) then (impl_InRange.f k ((rd_impl_Stored xl0 x3).f0) (1 : Int) (5 : Int)).bind fun t1 => (bif !t1 then (X0 false) else (impl_InRange.f k ((rd_impl_Stored xl0 x3).f1) (0 : Int) (9 : Int)).bind fun t2 => (bif !t2 then (X0 false) else (impl_InRange.f k ((rd_impl_Stored xl0 x3).f2) (0 : Int) (999 : Int)).bind fun t3 => (bif !t3 then (X0 false) else (impl_InRange.f k ((rd_impl_Stored xl0 x3).f3) (1 : Int) (999 : Int)).bind fun t4 => (bif !t4 then (X0 false) else (bif decide (x3 > (0 : Int)) then (bif decide (0 ≤ (w64 (x3 - (1 : Int)))) then (bif decide ((w64 (x3 - (1 : Int))) < (xl0.length : Int)) then (impl_compareStored.f k ((rd_impl_Stored xl0 (w64 (x3 - (1 : Int)))).f0) ((rd_impl_Stored xl0 (w64 (x3 - (1 : Int)))).f1) ((rd_impl_Stored xl0 (w64 (x3 - (1 : Int)))).f2) ((rd_impl_Stored xl0 (w64 (x3 - (1 : Int)))).f3) ((rd_impl_Stored xl0 x3).f0) ((rd_impl_Stored xl0 x3).f1) ((rd_impl_Stored xl0 x3).f2) ((rd_impl_Stored xl0 x3).f3)).bind fun t5 => (bif decide (t5 ≥ (0 : Int)) then (X0 false) else (rec (w64 (x3 + (1 : Int))))) else none) else none) else (rec (w64 (x3 + (1 : Int))))))))) else none) else none) else (X1 ()))
def impl_IsStore.l4 {R : Type} (k : Nat) (x2 : Int) (xl0 : List T_impl_Stored) (X0 : Bool → Option R) (X1 : Unit → Option R) : Nat → Int → Option R
  | 0 => fun _ => none
  | n + 1 => impl_IsStore.L4 k x2 xl0 X0 X1 (impl_IsStore.l4 k x2 xl0 X0 X1 n)
def impl_IsStore.f (k : Nat) (a0 : List T_impl_Stored) : Option Bool :=
  (bif decide ((a0.length : Int) > (24 : Int)) then some false else (impl_IsStore.l4 k (a0.length : Int) a0 (fun (y6 : Bool) => some y6) (fun (_ : Unit) => some true) k (0 : Int)))
def impl_IsStore.h4 (k : Nat) {R : Type} (K : Ex → St κ → Option R) (vs : List AV) (bs : List (Blk κ)) : Option R :=
  match vs, bs with
  | [.v (.sl 0), .v (.sl 0), .v (.int .i64 x2), .v (.int .i64 x3)], [qb0] => (asO 1 false qb0).bind fun xl0 => impl_IsStore.l4 k x2 xl0 (fun (z0 : Bool) => K .ret (stOf [(2, [])] [.v (.bool z0)] [.rows 1 false xl0])) (fun (_ : Unit) => K (.exit 0) (stOf [(2, [])] [.v .any] [.rows 1 false xl0])) k x3
  | _, _ => none
def impl_IsStore.Γ (k : Nat) : Ct κ := assoc [(43, impl_InRange.C k), (44, impl_compareStored.C k)]
def impl_IsStore.LH (k : Nat) : Nat → Option (LHi κ) := assoc [(4, ⟨1, [(0, [some 1]), (8, [some 1]), (9, []), (10, [])], [(2, [])], @impl_IsStore.h4 k⟩)]
theorem impl_IsStore.hΓ (k : Nat) : ∀ f g, impl_IsStore.Γ k f = some g → CSound Try.prog f g := G_cons (impl_InRange.ok k) (G_cons (impl_compareStored.ok k) G_nil)
theorem impl_IsStore.e4 {R : Type} (K : Ex → St κ → Option R) (k : Nat) (x2 : Int) (xl0 : List T_impl_Stored) : ∀ (n : Nat) (x3 : Int), loopN 1 (Code.den ti (impl_IsStore.Γ k) (impl_IsStore.LH k) (loopAt Try.f15 0)) [(0, [some 1]), (8, [some 1]), (9, []), (10, [])] [(2, [])] K n [.v (.sl 0), .v (.sl 0), .v (.int .i64 x2), .v (.int .i64 x3)] [.rows 1 false xl0] = impl_IsStore.l4 k x2 xl0 (fun (z0 : Bool) => K .ret (stOf [(2, [])] [.v (.bool z0)] [.rows 1 false xl0])) (fun (_ : Unit) => K (.exit 0) (stOf [(2, [])] [.v .any] [.rows 1 false xl0])) n x3
  | 0, _ => rfl
  | n + 1, x3 => (show loopN 1 (Code.den ti (impl_IsStore.Γ k) (impl_IsStore.LH k) (loopAt Try.f15 0)) [(0, [some 1]), (8, [some 1]), (9, []), (10, [])] [(2, [])] K (n + 1) [.v (.sl 0), .v (.sl 0), .v (.int .i64 x2), .v (.int .i64 x3)] [.rows 1 false xl0] = impl_IsStore.L4 k x2 xl0 (fun (z0 : Bool) => K .ret (stOf [(2, [])] [.v (.bool z0)] [.rows 1 false xl0])) (fun (_ : Unit) => K (.exit 0) (stOf [(2, [])] [.v .any] [.rows 1 false xl0])) (fun (x3' : Int) => loopN 1 (Code.den ti (impl_IsStore.Γ k) (impl_IsStore.LH k) (loopAt Try.f15 0)) [(0, [some 1]), (8, [some 1]), (9, []), (10, [])] [(2, [])] K n [.v (.sl 0), .v (.sl 0), .v (.int .i64 x2), .v (.int .i64 x3')] [.rows 1 false xl0]) x3 by kernel_rfl).trans (congrArg (fun rec => impl_IsStore.L4 k x2 xl0 (fun (z0 : Bool) => K .ret (stOf [(2, [])] [.v (.bool z0)] [.rows 1 false xl0])) (fun (_ : Unit) => K (.exit 0) (stOf [(2, [])] [.v .any] [.rows 1 false xl0])) rec x3) (funext fun x3' => impl_IsStore.e4 K k x2 xl0 n x3'))
theorem impl_IsStore.q4 (k : Nat) {R : Type} (K : Ex → St κ → Option R) (vs : List AV) (bs : List (Blk κ)) (r : R) (h : impl_IsStore.h4 k K vs bs = some r) : ∃ n, loopN 1 (Code.den ti (impl_IsStore.Γ k) (impl_IsStore.LH k) (loopAt Try.f15 0)) [(0, [some 1]), (8, [some 1]), (9, []), (10, [])] [(2, [])] K n vs bs = some r := by
  unfold impl_IsStore.h4 at h
  split at h
  · obtain ⟨_, rfl, h_1⟩ := asO_bind h
    exact ⟨k, (impl_IsStore.e4 K k _ _ k _).trans h_1⟩
  · cases h
theorem impl_IsStore.lok (k : Nat) : LOK ti (impl_IsStore.Γ k) (impl_IsStore.LH k) 1 (loopsOf (bodyOf Try.f15)) :=
  (show loopsOf (bodyOf Try.f15) = [loopAt Try.f15 0] by kernel_rfl) ▸ (LOK_cons (g := ⟨1, [(0, [some 1]), (8, [some 1]), (9, []), (10, [])], [(2, [])], @impl_IsStore.h4 k⟩) (by kernel_rfl) rfl (fun K vs xs r h => impl_IsStore.q4 k K vs xs r h) (LOK_nil))
def impl_IsStore.sig : List PSh := [.one (.ro 1)]
def impl_IsStore.g (y : Bool) : Ret κ := ⟨.v (.bool y), [], []⟩
def impl_IsStore.out (r : Ret κ) : Option Bool :=
  match r with
  | ⟨.v (.bool z0), [], []⟩ => some (z0)
  | _ => none
theorem impl_IsStore.out_ok (r : Ret κ) (y : Bool) (h : impl_IsStore.out r = some y) : r = impl_IsStore.g y := by
  unfold impl_IsStore.out at h
  split at h
  · obtain rfl := Option.some.inj h
    rfl
  · cases h
def impl_IsStore.body (k : Nat) (vs : List AV) (bs : List (Blk κ)) : Option (Lf κ) :=
  match vs, bs with
  | [.v (.sl 0)], [qb0] => (asO 1 false qb0).bind fun a0 => some ⟨Bool, impl_IsStore.f k a0, impl_IsStore.g⟩
  | _, _ => none
def impl_IsStore.C (k : Nat) : Nat → List AV → AP κ AV := contract impl_IsStore.sig (impl_IsStore.body k)
theorem impl_IsStore.den (k : Nat) (a0 : List T_impl_Stored) : Code.den ti (impl_IsStore.Γ k) (impl_IsStore.LH k) (bodyOf Try.f15) (finK ti Try.f15.results.toList [] (flags impl_IsStore.sig).length (rwI (flags impl_IsStore.sig) 0) impl_IsStore.out) ⟨envOf (([.v (.sl 0)]).zipIdx.map fun q => (q.2, q.1)), hpOf [.rows 1 false a0], (flags impl_IsStore.sig).length⟩ = impl_IsStore.f k a0 := by kernel_rfl
theorem impl_IsStore.ok (k : Nat) : CSound Try.prog 15 (impl_IsStore.C k) :=
  csound κ_ok mixed tok (impl_IsStore.hΓ k) (LH := impl_IsStore.LH k) (fn := Try.f15) (c := bodyOf Try.f15) Try.func15 rfl Try.call15 impl_IsStore.sig [] (impl_IsStore.body k) (by kernel_rfl) (impl_IsStore.lok k) (by decide) fun vs bs lf y hl hb hy => by
    unfold impl_IsStore.body at hb
    split at hb
    · obtain ⟨_, rfl, hb_1⟩ := asO_bind hb
      obtain rfl := Option.some.inj hb_1
      exact ⟨impl_IsStore.out, impl_IsStore.out_ok, (impl_IsStore.den k _).trans hy⟩
    · cases hb
/-! ### slices_Clone_Stored -/
def slices_Clone_Stored.f (k : Nat) (l : List T_impl_Stored) : Option (List T_impl_Stored) := cloneF 1 κ l
def slices_Clone_Stored.C (k : Nat) : Nat → List AV → AP κ AV := contract [.one (.ro 1)] (cloneB 1 κ)
theorem slices_Clone_Stored.ok (k : Nat) : CSound Try.prog 39 (slices_Clone_Stored.C k) :=
  clone_sound κ_ok mixed tok (fn := Try.f39) 1 Try.func39 rfl Try.call39 rfl rfl rfl rfl rfl rfl Try.underlying24 rfl (by kernel_rfl) (by kernel_rfl) (by kernel_rfl) rfl rfl rfl (fun l => by kernel_rfl) (fun q l => by cases q <;> kernel_rfl)
/-! ### impl_placeOf -/
def impl_placeOf.L2 {R : Type} (k : Nat) (x0 : Int) (x1 : Int) (x3 : Int) (xl0 : List T_impl_Stored) (X0 : Int → Option R) (X1 : Unit → Option R) (rec : Int → Option R) (x4 : Int) : Option R :=
  (bif decide (x4 < x3) then (bif decide (0 ≤ x4) then (bif decide (x4 < (xl0.length : Int)) then (bif ((rd_impl_Stored xl0 x4).f0 == x0) then (bif ((rd_impl_Stored xl0 x4).f1 == x1) then (X0 x4) else (rec (w64 (x4 + (1 : Int))))) else (rec (w64 (x4 + (1 : Int))))) else none) else none) else (X1 ()))
def impl_placeOf.l2 {R : Type} (k : Nat) (x0 : Int) (x1 : Int) (x3 : Int) (xl0 : List T_impl_Stored) (X0 : Int → Option R) (X1 : Unit → Option R) : Nat → Int → Option R
  | 0 => fun _ => none
  | n + 1 => impl_placeOf.L2 k x0 x1 x3 xl0 X0 X1 (impl_placeOf.l2 k x0 x1 x3 xl0 X0 X1 n)
def impl_placeOf.f (k : Nat) (a0 : List T_impl_Stored) (a1 : Int) (a2 : Int) : Option Int :=
  (impl_placeOf.l2 k a1 a2 (a0.length : Int) a0 (fun (y1 : Int) => some y1) (fun (_ : Unit) => some (-1 : Int)) k (0 : Int))
def impl_placeOf.h2 (k : Nat) {R : Type} (K : Ex → St κ → Option R) (vs : List AV) (bs : List (Blk κ)) : Option R :=
  match vs, bs with
  | [.v (.int .i64 x0), .v (.int .i64 x1), .v (.sl 0), .v (.int .i64 x3), .v (.int .i64 x4)], [qb0] => (asO 1 false qb0).bind fun xl0 => impl_placeOf.l2 k x0 x1 x3 xl0 (fun (z0 : Int) => K .ret (stOf [(6, [])] [.v (.int .i64 z0)] [.rows 1 false xl0])) (fun (_ : Unit) => K (.exit 0) (stOf [(6, [])] [.v .any] [.rows 1 false xl0])) k x4
  | _, _ => none
def impl_placeOf.Γ (k : Nat) : Ct κ := assoc []
def impl_placeOf.LH (k : Nat) : Nat → Option (LHi κ) := assoc [(2, ⟨1, [(1, []), (2, []), (9, [some 1]), (10, []), (11, [])], [(6, [])], @impl_placeOf.h2 k⟩)]
theorem impl_placeOf.hΓ (k : Nat) : ∀ f g, impl_placeOf.Γ k f = some g → CSound Try.prog f g := G_nil
theorem impl_placeOf.e2 {R : Type} (K : Ex → St κ → Option R) (k : Nat) (x0 : Int) (x1 : Int) (x3 : Int) (xl0 : List T_impl_Stored) : ∀ (n : Nat) (x4 : Int), loopN 1 (Code.den ti (impl_placeOf.Γ k) (impl_placeOf.LH k) (loopAt Try.f49 0)) [(1, []), (2, []), (9, [some 1]), (10, []), (11, [])] [(6, [])] K n [.v (.int .i64 x0), .v (.int .i64 x1), .v (.sl 0), .v (.int .i64 x3), .v (.int .i64 x4)] [.rows 1 false xl0] = impl_placeOf.l2 k x0 x1 x3 xl0 (fun (z0 : Int) => K .ret (stOf [(6, [])] [.v (.int .i64 z0)] [.rows 1 false xl0])) (fun (_ : Unit) => K (.exit 0) (stOf [(6, [])] [.v .any] [.rows 1 false xl0])) n x4
  | 0, _ => rfl
  | n + 1, x4 => (show loopN 1 (Code.den ti (impl_placeOf.Γ k) (impl_placeOf.LH k) (loopAt Try.f49 0)) [(1, []), (2, []), (9, [some 1]), (10, []), (11, [])] [(6, [])] K (n + 1) [.v (.int .i64 x0), .v (.int .i64 x1), .v (.sl 0), .v (.int .i64 x3), .v (.int .i64 x4)] [.rows 1 false xl0] = impl_placeOf.L2 k x0 x1 x3 xl0 (fun (z0 : Int) => K .ret (stOf [(6, [])] [.v (.int .i64 z0)] [.rows 1 false xl0])) (fun (_ : Unit) => K (.exit 0) (stOf [(6, [])] [.v .any] [.rows 1 false xl0])) (fun (x4' : Int) => loopN 1 (Code.den ti (impl_placeOf.Γ k) (impl_placeOf.LH k) (loopAt Try.f49 0)) [(1, []), (2, []), (9, [some 1]), (10, []), (11, [])] [(6, [])] K n [.v (.int .i64 x0), .v (.int .i64 x1), .v (.sl 0), .v (.int .i64 x3), .v (.int .i64 x4')] [.rows 1 false xl0]) x4 by kernel_rfl).trans (congrArg (fun rec => impl_placeOf.L2 k x0 x1 x3 xl0 (fun (z0 : Int) => K .ret (stOf [(6, [])] [.v (.int .i64 z0)] [.rows 1 false xl0])) (fun (_ : Unit) => K (.exit 0) (stOf [(6, [])] [.v .any] [.rows 1 false xl0])) rec x4) (funext fun x4' => impl_placeOf.e2 K k x0 x1 x3 xl0 n x4'))
theorem impl_placeOf.q2 (k : Nat) {R : Type} (K : Ex → St κ → Option R) (vs : List AV) (bs : List (Blk κ)) (r : R) (h : impl_placeOf.h2 k K vs bs = some r) : ∃ n, loopN 1 (Code.den ti (impl_placeOf.Γ k) (impl_placeOf.LH k) (loopAt Try.f49 0)) [(1, []), (2, []), (9, [some 1]), (10, []), (11, [])] [(6, [])] K n vs bs = some r := by
  unfold impl_placeOf.h2 at h
  split at h
  · obtain ⟨_, rfl, h_1⟩ := asO_bind h
    exact ⟨k, (impl_placeOf.e2 K k _ _ _ _ k _).trans h_1⟩
  · cases h
theorem impl_placeOf.lok (k : Nat) : LOK ti (impl_placeOf.Γ k) (impl_placeOf.LH k) 1 (loopsOf (bodyOf Try.f49)) :=
  (show loopsOf (bodyOf Try.f49) = [loopAt Try.f49 0] by kernel_rfl) ▸ (LOK_cons (g := ⟨1, [(1, []), (2, []), (9, [some 1]), (10, []), (11, [])], [(6, [])], @impl_placeOf.h2 k⟩) (by kernel_rfl) rfl (fun K vs xs r h => impl_placeOf.q2 k K vs xs r h) (LOK_nil))
def impl_placeOf.sig : List PSh := [.one (.ro 1), .one .sc, .one .sc]
def impl_placeOf.g (y : Int) : Ret κ := ⟨.v (.int .i64 y), [], []⟩
def impl_placeOf.out (r : Ret κ) : Option Int :=
  match r with
  | ⟨.v (.int .i64 z0), [], []⟩ => some (z0)
  | _ => none
theorem impl_placeOf.out_ok (r : Ret κ) (y : Int) (h : impl_placeOf.out r = some y) : r = impl_placeOf.g y := by
  unfold impl_placeOf.out at h
  split at h
  · obtain rfl := Option.some.inj h
    rfl
  · cases h
def impl_placeOf.body (k : Nat) (vs : List AV) (bs : List (Blk κ)) : Option (Lf κ) :=
  match vs, bs with
  | [.v (.sl 0), .v (.int .i64 a1), .v (.int .i64 a2)], [qb0] => (asO 1 false qb0).bind fun a0 => some ⟨Int, impl_placeOf.f k a0 a1 a2, impl_placeOf.g⟩
  | _, _ => none
def impl_placeOf.C (k : Nat) : Nat → List AV → AP κ AV := contract impl_placeOf.sig (impl_placeOf.body k)
theorem impl_placeOf.den (k : Nat) (a0 : List T_impl_Stored) (a1 : Int) (a2 : Int) : Code.den ti (impl_placeOf.Γ k) (impl_placeOf.LH k) (bodyOf Try.f49) (finK ti Try.f49.results.toList [] (flags impl_placeOf.sig).length (rwI (flags impl_placeOf.sig) 0) impl_placeOf.out) ⟨envOf (([.v (.sl 0), .v (.int .i64 a1), .v (.int .i64 a2)]).zipIdx.map fun q => (q.2, q.1)), hpOf [.rows 1 false a0], (flags impl_placeOf.sig).length⟩ = impl_placeOf.f k a0 a1 a2 := by kernel_rfl
theorem impl_placeOf.ok (k : Nat) : CSound Try.prog 49 (impl_placeOf.C k) :=
  csound κ_ok mixed tok (impl_placeOf.hΓ k) (LH := impl_placeOf.LH k) (fn := Try.f49) (c := bodyOf Try.f49) Try.func49 rfl Try.call49 impl_placeOf.sig [] (impl_placeOf.body k) (by kernel_rfl) (impl_placeOf.lok k) (by decide) fun vs bs lf y hl hb hy => by
    unfold impl_placeOf.body at hb
    split at hb
    · obtain ⟨_, rfl, hb_1⟩ := asO_bind hb
      obtain rfl := Option.some.inj hb_1
      exact ⟨impl_placeOf.out, impl_placeOf.out_ok, (impl_placeOf.den k _ _ _).trans hy⟩
    · cases hb
/-! ### slices_SortFunc_Stored -/
def slices_SortFunc_Stored.cf (x y : T_impl_Stored) : Int := bif decide (x.f0 < y.f0) then -1 else bif decide (x.f0 > y.f0) then 1 else bif decide (x.f1 < y.f1) then -1 else bif decide (x.f1 > y.f1) then 1 else 0
theorem slices_SortFunc_Stored.val (x y : T_impl_Stored) : impl_compareStored.f 9 x.f0 x.f1 x.f2 x.f3 y.f0 y.f1 y.f2 y.f3 = some (slices_SortFunc_Stored.cf x y) := by
  unfold impl_compareStored.f cmp_Compare_int.f slices_SortFunc_Stored.cf
  simp only [cmp_isNaN_int.f, bne_self_eq_false, Option.bind_some]
  cases decide (x.f0 < y.f0) <;> cases decide (x.f0 > y.f0) <;> cases decide (x.f1 < y.f1) <;> cases decide (x.f1 > y.f1) <;> rfl
theorem slices_SortFunc_Stored.cmp (x y : T_impl_Stored) (w : World) : Calls Try.prog 44 #[.agg (encV (κ 1) x).toArray, .agg (encV (κ 1) y).toArray] w fun e w' => e = .returned (.int .i64 (slices_SortFunc_Stored.cf x y)) ∧ ∃ q os', w' = Go.Sort.grow (w.drewN q) os' := by
  refine plain_calls (impl_compareStored.ok 9) (args := [.agg ((κ 1).enc x), .agg ((κ 1).enc y)]) (M := fun _ => undef) rfl (enc_args (κ_ok 1) x y) ?_ w
  refine (show _ = (impl_compareStored.f 9 x.f0 x.f1 x.f2 x.f3 y.f0 y.f1 y.f2 y.f3).bind fun y => some (AV.v (.int .i64 y)) by kernel_rfl).trans ?_
  rw [slices_SortFunc_Stored.val]
  rfl
theorem slices_SortFunc_Stored.lt (x y : T_impl_Stored) : Go.Proofs.ltOf slices_SortFunc_Stored.cf x y = (decide (x.f0 < y.f0) || (decide (x.f0 = y.f0) && decide (x.f1 < y.f1))) := by
  unfold Go.Proofs.ltOf slices_SortFunc_Stored.cf
  by_cases h1 : x.f0 < y.f0
  · simp [h1]
  · by_cases h2 : x.f0 > y.f0
    · simp [h1, h2]; omega
    · have h3 : x.f0 = y.f0 := by omega
      by_cases h4 : x.f1 < y.f1
      · simp [h3, h4]
      · by_cases h5 : x.f1 > y.f1 <;> simp [h3, h4, h5]
theorem slices_SortFunc_Stored.swo : Go.Sort.SWO (Go.Proofs.ltOf slices_SortFunc_Stored.cf) where
  irrefl x := by rw [slices_SortFunc_Stored.lt]; simp
  trans x y z h1 h2 := by rw [slices_SortFunc_Stored.lt] at *; simp at *; omega
  ntrans x y z h1 h2 := by rw [slices_SortFunc_Stored.lt] at *; simp at *; omega
def slices_SortFunc_Stored.f (k : Nat) (l : List T_impl_Stored) : Option (List T_impl_Stored) := sortByF z_impl_Stored (Go.Proofs.ltOf slices_SortFunc_Stored.cf) l
def slices_SortFunc_Stored.C (k : Nat) : Nat → List AV → AP κ AV := contract (inSig 1 (some 44)) (inB 1 κ (some 44) (slices_SortFunc_Stored.f k))
theorem slices_SortFunc_Stored.ok (k : Nat) : CSound Try.prog 50 (slices_SortFunc_Stored.C k) :=
  sortFunc_sound κ_ok Try.laysSortFunc Try.call50 1 Try.isAgg48 Try.sizeOf48 Try.call44 slices_SortFunc_Stored.cf slices_SortFunc_Stored.swo slices_SortFunc_Stored.cmp
/-! ### impl_MergeStores -/
def impl_MergeStores.L5 {R : Type} (k : Nat) (x2 : Int) (xl0 : List T_impl_Stored) (xl1 : List T_impl_Stored) (X0 : List T_impl_Stored → Option R) (rec : Int → List T_impl_Stored → Option R) (x3 : Int) (xl2 : List T_impl_Stored) : Option R :=
  (bif decide (x3 < x2) then (bif decide (0 ≤ x3) then (bif decide (x3 < (xl1.length : Int)) then (impl_placeOf.f k xl2 ((rd_impl_Stored xl1 x3).f0) ((rd_impl_Stored xl1 x3).f1)).bind fun t4 => (bif decide (t4 < (0 : Int)) then (bif decide ((xl2.length + ([(⟨(rd_impl_Stored xl1 x3).f0, (rd_impl_Stored xl1 x3).f1, (rd_impl_Stored xl1 x3).f2, (rd_impl_Stored xl1 x3).f3⟩ : T_impl_Stored)] : List T_impl_Stored).length) * 32 ≤ cap48) then (let l5 : List T_impl_Stored := (xl2 ++ ([(⟨(rd_impl_Stored xl1 x3).f0, (rd_impl_Stored xl1 x3).f1, (rd_impl_Stored xl1 x3).f2, (rd_impl_Stored xl1 x3).f3⟩ : T_impl_Stored)] : List T_impl_Stored)); (rec (w64 (x3 + (1 : Int))) l5)) else none) else (bif decide (0 ≤ t4) then (bif decide (t4 < (xl2.length : Int)) then (bif decide ((rd_impl_Stored xl1 x3).f3 > (rd_impl_Stored xl2 t4).f3) then (bif decide (0 ≤ t4) then (bif decide (t4 < (xl2.length : Int)) then (let l6 : List T_impl_Stored := (xl2.set (t4).toNat (⟨(rd_impl_Stored xl1 x3).f0, (rd_impl_Stored xl1 x3).f1, (rd_impl_Stored xl1 x3).f2, (rd_impl_Stored xl1 x3).f3⟩ : T_impl_Stored)); (rec (w64 (x3 + (1 : Int))) l6)) else none) else none) else (bif decide (0 ≤ t4) then (bif decide (t4 < (xl2.length : Int)) then (bif ((rd_impl_Stored xl1 x3).f3 == (rd_impl_Stored xl2 t4).f3) then (bif decide (0 ≤ t4) then (bif decide (t4 < (xl2.length : Int)) then (bif decide ((rd_impl_Stored xl1 x3).f2 > (rd_impl_Stored xl2 t4).f2) then (bif decide (0 ≤ t4) then (bif decide (t4 < (xl2.length : Int)) then (let l7 : List T_impl_Stored := (xl2.set (t4).toNat (⟨(rd_impl_Stored xl1 x3).f0, (rd_impl_Stored xl1 x3).f1, (rd_impl_Stored xl1 x3).f2, (rd_impl_Stored xl1 x3).f3⟩ : T_impl_Stored)); (rec (w64 (x3 + (1 : Int))) l7)) else none) else none) else (rec (w64 (x3 + (1 : Int))) xl2)) else none) else none) else (rec (w64 (x3 + (1 : Int))) xl2)) else none) else none)) else none) else none)) else none) else none) else (X0 xl2))
def impl_MergeStores.l5 {R : Type} (k : Nat) (x2 : Int) (xl0 : List T_impl_Stored) (xl1 : List T_impl_Stored) (X0 : List T_impl_Stored → Option R) : Nat → Int → List T_impl_Stored → Option R
  | 0 => fun _ _ => none
  | n + 1 => impl_MergeStores.L5 k x2 xl0 xl1 X0 (impl_MergeStores.l5 k x2 xl0 xl1 X0 n)
def impl_MergeStores.f (k : Nat) (a0 : List T_impl_Stored) (a1 : List T_impl_Stored) : Option (Bool × List T_impl_Stored) :=
  (impl_IsStore.f k a0).bind fun t1 => (bif !t1 then some (false, ([] : List T_impl_Stored)) else (impl_IsStore.f k a1).bind fun t2 => (bif !t2 then some (false, ([] : List T_impl_Stored)) else (slices_Clone_Stored.f k a0).bind fun t3 => (impl_MergeStores.l5 k (a1.length : Int) a0 a1 (fun (y8 : List T_impl_Stored) => (slices_SortFunc_Stored.f k y8).bind fun t9 => (impl_IsStore.f k t9).bind fun t10 => (bif !t10 then some (false, ([] : List T_impl_Stored)) else some (true, t9))) k (0 : Int) t3)))
def impl_MergeStores.h5 (k : Nat) {R : Type} (K : Ex → St κ → Option R) (vs : List AV) (bs : List (Blk κ)) : Option R :=
  match vs, bs with
  | [.v (.sl 2), .v (.sl 1), .v (.int .i64 x2), .v (.int .i64 x3)], [qb0, qb1, qb2] => (asO 1 false qb0).bind fun xl0 => (asO 1 false qb1).bind fun xl1 => (asO 1 true qb2).bind fun xl2 => impl_MergeStores.l5 k x2 xl0 xl1 (fun (zl2 : List T_impl_Stored) => K (.exit 0) (stOf [(6, [some 1])] [.v (.sl 2)] [.rows 1 false xl0, .rows 1 false xl1, .rows 1 true zl2])) k x3 xl2
  | _, _ => none
def impl_MergeStores.Γ (k : Nat) : Ct κ := assoc [(15, impl_IsStore.C k), (39, slices_Clone_Stored.C k), (49, impl_placeOf.C k), (50, slices_SortFunc_Stored.C k)]
def impl_MergeStores.LH (k : Nat) : Nat → Option (LHi κ) := assoc [(5, ⟨2, [(6, [some 1]), (21, [some 1]), (22, []), (23, [])], [(6, [some 1])], @impl_MergeStores.h5 k⟩)]
theorem impl_MergeStores.hΓ (k : Nat) : ∀ f g, impl_MergeStores.Γ k f = some g → CSound Try.prog f g := G_cons (impl_IsStore.ok k) (G_cons (slices_Clone_Stored.ok k) (G_cons (impl_placeOf.ok k) (G_cons (slices_SortFunc_Stored.ok k) G_nil)))
theorem impl_MergeStores.e5 {R : Type} (K : Ex → St κ → Option R) (k : Nat) (x2 : Int) (xl0 : List T_impl_Stored) (xl1 : List T_impl_Stored) : ∀ (n : Nat) (x3 : Int) (xl2 : List T_impl_Stored), loopN 2 (Code.den ti (impl_MergeStores.Γ k) (impl_MergeStores.LH k) (loopAt Try.f19 0)) [(6, [some 1]), (21, [some 1]), (22, []), (23, [])] [(6, [some 1])] K n [.v (.sl 2), .v (.sl 1), .v (.int .i64 x2), .v (.int .i64 x3)] [.rows 1 false xl0, .rows 1 false xl1, .rows 1 true xl2] = impl_MergeStores.l5 k x2 xl0 xl1 (fun (zl2 : List T_impl_Stored) => K (.exit 0) (stOf [(6, [some 1])] [.v (.sl 2)] [.rows 1 false xl0, .rows 1 false xl1, .rows 1 true zl2])) n x3 xl2
  | 0, _, _ => rfl
  | n + 1, x3, xl2 => (show loopN 2 (Code.den ti (impl_MergeStores.Γ k) (impl_MergeStores.LH k) (loopAt Try.f19 0)) [(6, [some 1]), (21, [some 1]), (22, []), (23, [])] [(6, [some 1])] K (n + 1) [.v (.sl 2), .v (.sl 1), .v (.int .i64 x2), .v (.int .i64 x3)] [.rows 1 false xl0, .rows 1 false xl1, .rows 1 true xl2] = impl_MergeStores.L5 k x2 xl0 xl1 (fun (zl2 : List T_impl_Stored) => K (.exit 0) (stOf [(6, [some 1])] [.v (.sl 2)] [.rows 1 false xl0, .rows 1 false xl1, .rows 1 true zl2])) (fun (x3' : Int) (xl2' : List T_impl_Stored) => loopN 2 (Code.den ti (impl_MergeStores.Γ k) (impl_MergeStores.LH k) (loopAt Try.f19 0)) [(6, [some 1]), (21, [some 1]), (22, []), (23, [])] [(6, [some 1])] K n [.v (.sl 2), .v (.sl 1), .v (.int .i64 x2), .v (.int .i64 x3')] [.rows 1 false xl0, .rows 1 false xl1, .rows 1 true xl2']) x3 xl2 by kernel_rfl).trans (congrArg (fun rec => impl_MergeStores.L5 k x2 xl0 xl1 (fun (zl2 : List T_impl_Stored) => K (.exit 0) (stOf [(6, [some 1])] [.v (.sl 2)] [.rows 1 false xl0, .rows 1 false xl1, .rows 1 true zl2])) rec x3 xl2) (funext fun x3' => funext fun xl2' => impl_MergeStores.e5 K k x2 xl0 xl1 n x3' xl2'))
theorem impl_MergeStores.q5 (k : Nat) {R : Type} (K : Ex → St κ → Option R) (vs : List AV) (bs : List (Blk κ)) (r : R) (h : impl_MergeStores.h5 k K vs bs = some r) : ∃ n, loopN 2 (Code.den ti (impl_MergeStores.Γ k) (impl_MergeStores.LH k) (loopAt Try.f19 0)) [(6, [some 1]), (21, [some 1]), (22, []), (23, [])] [(6, [some 1])] K n vs bs = some r := by
  unfold impl_MergeStores.h5 at h
  split at h
  · obtain ⟨_, rfl, h_1⟩ := asO_bind h
    obtain ⟨_, rfl, h_2⟩ := asO_bind h_1
    obtain ⟨_, rfl, h_3⟩ := asO_bind h_2
    exact ⟨k, (impl_MergeStores.e5 K k _ _ _ k _ _).trans h_3⟩
  · cases h
theorem impl_MergeStores.lok (k : Nat) : LOK ti (impl_MergeStores.Γ k) (impl_MergeStores.LH k) 2 (loopsOf (bodyOf Try.f19)) :=
  (show loopsOf (bodyOf Try.f19) = [loopAt Try.f19 0] by kernel_rfl) ▸ (LOK_cons (g := ⟨2, [(6, [some 1]), (21, [some 1]), (22, []), (23, [])], [(6, [some 1])], @impl_MergeStores.h5 k⟩) (by kernel_rfl) rfl (fun K vs xs r h => impl_MergeStores.q5 k K vs xs r h) (LOK_nil))
def impl_MergeStores.sig : List PSh := [.one (.ro 1), .one (.ro 1)]
def impl_MergeStores.g (y : Bool × List T_impl_Stored) : Ret κ := ⟨.tup [(false, [.sl 2]), (false, [.bool y.1])], [], [.rows 1 true y.2]⟩
def impl_MergeStores.out (r : Ret κ) : Option (Bool × List T_impl_Stored) :=
  match r with
  | ⟨.tup [(false, [.sl 2]), (false, [.bool z0])], [], [q1]⟩ => (asO 1 true q1).bind fun z1 => some (z0, z1)
  | _ => none
theorem impl_MergeStores.out_ok (r : Ret κ) (y : Bool × List T_impl_Stored) (h : impl_MergeStores.out r = some y) : r = impl_MergeStores.g y := by
  unfold impl_MergeStores.out at h
  split at h
  · obtain ⟨_, rfl, h_1⟩ := asO_bind h
    obtain rfl := Option.some.inj h_1
    rfl
  · cases h
def impl_MergeStores.body (k : Nat) (vs : List AV) (bs : List (Blk κ)) : Option (Lf κ) :=
  match vs, bs with
  | [.v (.sl 0), .v (.sl 1)], [qb0, qb1] => (asO 1 false qb0).bind fun a0 => (asO 1 false qb1).bind fun a1 => some ⟨Bool × List T_impl_Stored, impl_MergeStores.f k a0 a1, impl_MergeStores.g⟩
  | _, _ => none
def impl_MergeStores.C (k : Nat) : Nat → List AV → AP κ AV := contract impl_MergeStores.sig (impl_MergeStores.body k)
theorem impl_MergeStores.den (k : Nat) (a0 : List T_impl_Stored) (a1 : List T_impl_Stored) : Code.den ti (impl_MergeStores.Γ k) (impl_MergeStores.LH k) (bodyOf Try.f19) (finK ti Try.f19.results.toList [(4, [some 1])] (flags impl_MergeStores.sig).length (rwI (flags impl_MergeStores.sig) 0) impl_MergeStores.out) ⟨envOf (([.v (.sl 0), .v (.sl 1)]).zipIdx.map fun q => (q.2, q.1)), hpOf [.rows 1 false a0, .rows 1 false a1], (flags impl_MergeStores.sig).length⟩ = impl_MergeStores.f k a0 a1 := by kernel_rfl
theorem impl_MergeStores.ok (k : Nat) : CSound Try.prog 19 (impl_MergeStores.C k) :=
  csound κ_ok mixed tok (impl_MergeStores.hΓ k) (LH := impl_MergeStores.LH k) (fn := Try.f19) (c := bodyOf Try.f19) Try.func19 rfl Try.call19 impl_MergeStores.sig [(4, [some 1])] (impl_MergeStores.body k) (by kernel_rfl) (impl_MergeStores.lok k) (by decide) fun vs bs lf y hl hb hy => by
    unfold impl_MergeStores.body at hb
    split at hb
    · obtain ⟨_, rfl, hb_1⟩ := asO_bind hb
      obtain ⟨_, rfl, hb_2⟩ := asO_bind hb_1
      obtain rfl := Option.some.inj hb_2
      exact ⟨impl_MergeStores.out, impl_MergeStores.out_ok, (impl_MergeStores.den k _ _).trans hy⟩
    · cases hb
/-! ### laws_sameStored -/
def laws_sameStored.L4 {R : Type} (k : Nat) (xl0 : List T_impl_Stored) (xl1 : List T_impl_Stored) (X0 : Bool → Option R) (X1 : Unit → Option R) (rec : Int → Option R) (x2 : Int) : Option R :=
  (bif decide (x2 < (xl0.length : Int)) then (bif decide (0 ≤ x2) then (bif decide (x2 < (xl0.length : Int)) then (bif decide (0 ≤ x2) then (bif decide (x2 < (xl1.length : Int)) then (bif !((((rd_impl_Stored xl0 x2).f0) == ((rd_impl_Stored xl1 x2).f0)) && ((((rd_impl_Stored xl0 x2).f1) == ((rd_impl_Stored xl1 x2).f1)) && ((((rd_impl_Stored xl0 x2).f2) == ((rd_impl_Stored xl1 x2).f2)) && (((rd_impl_Stored xl0 x2).f3) == ((rd_impl_Stored xl1 x2).f3))))) then (X0 false) else (rec (w64 (x2 + (1 : Int))))) else none) else none) else none) else none) else (X1 ()))
def laws_sameStored.l4 {R : Type} (k : Nat) (xl0 : List T_impl_Stored) (xl1 : List T_impl_Stored) (X0 : Bool → Option R) (X1 : Unit → Option R) : Nat → Int → Option R
  | 0 => fun _ => none
  | n + 1 => laws_sameStored.L4 k xl0 xl1 X0 X1 (laws_sameStored.l4 k xl0 xl1 X0 X1 n)
def laws_sameStored.f (k : Nat) (a0 : List T_impl_Stored) (a1 : List T_impl_Stored) : Option Bool :=
  (bif ((a0.length : Int) != (a1.length : Int)) then some false else (laws_sameStored.l4 k a0 a1 (fun (y1 : Bool) => some y1) (fun (_ : Unit) => some true) k (0 : Int)))
def laws_sameStored.h4 (k : Nat) {R : Type} (K : Ex → St κ → Option R) (vs : List AV) (bs : List (Blk κ)) : Option R :=
  match vs, bs with
  | [.v (.sl 0), .v (.sl 1), .v (.int .i64 x2)], [qb0, qb1] => (asO 1 false qb0).bind fun xl0 => (asO 1 false qb1).bind fun xl1 => laws_sameStored.l4 k xl0 xl1 (fun (z0 : Bool) => K .ret (stOf [(4, [])] [.v (.bool z0)] [.rows 1 false xl0, .rows 1 false xl1])) (fun (_ : Unit) => K (.exit 0) (stOf [(4, [])] [.v .any] [.rows 1 false xl0, .rows 1 false xl1])) k x2
  | _, _ => none
def laws_sameStored.Γ (k : Nat) : Ct κ := assoc []
def laws_sameStored.LH (k : Nat) : Nat → Option (LHi κ) := assoc [(4, ⟨2, [(0, [some 1]), (1, [some 1]), (5, [])], [(4, [])], @laws_sameStored.h4 k⟩)]
theorem laws_sameStored.hΓ (k : Nat) : ∀ f g, laws_sameStored.Γ k f = some g → CSound Try.prog f g := G_nil
theorem laws_sameStored.e4 {R : Type} (K : Ex → St κ → Option R) (k : Nat) (xl0 : List T_impl_Stored) (xl1 : List T_impl_Stored) : ∀ (n : Nat) (x2 : Int), loopN 2 (Code.den ti (laws_sameStored.Γ k) (laws_sameStored.LH k) (loopAt Try.f24 0)) [(0, [some 1]), (1, [some 1]), (5, [])] [(4, [])] K n [.v (.sl 0), .v (.sl 1), .v (.int .i64 x2)] [.rows 1 false xl0, .rows 1 false xl1] = laws_sameStored.l4 k xl0 xl1 (fun (z0 : Bool) => K .ret (stOf [(4, [])] [.v (.bool z0)] [.rows 1 false xl0, .rows 1 false xl1])) (fun (_ : Unit) => K (.exit 0) (stOf [(4, [])] [.v .any] [.rows 1 false xl0, .rows 1 false xl1])) n x2
  | 0, _ => rfl
  | n + 1, x2 => (show loopN 2 (Code.den ti (laws_sameStored.Γ k) (laws_sameStored.LH k) (loopAt Try.f24 0)) [(0, [some 1]), (1, [some 1]), (5, [])] [(4, [])] K (n + 1) [.v (.sl 0), .v (.sl 1), .v (.int .i64 x2)] [.rows 1 false xl0, .rows 1 false xl1] = laws_sameStored.L4 k xl0 xl1 (fun (z0 : Bool) => K .ret (stOf [(4, [])] [.v (.bool z0)] [.rows 1 false xl0, .rows 1 false xl1])) (fun (_ : Unit) => K (.exit 0) (stOf [(4, [])] [.v .any] [.rows 1 false xl0, .rows 1 false xl1])) (fun (x2' : Int) => loopN 2 (Code.den ti (laws_sameStored.Γ k) (laws_sameStored.LH k) (loopAt Try.f24 0)) [(0, [some 1]), (1, [some 1]), (5, [])] [(4, [])] K n [.v (.sl 0), .v (.sl 1), .v (.int .i64 x2')] [.rows 1 false xl0, .rows 1 false xl1]) x2 by kernel_rfl).trans (congrArg (fun rec => laws_sameStored.L4 k xl0 xl1 (fun (z0 : Bool) => K .ret (stOf [(4, [])] [.v (.bool z0)] [.rows 1 false xl0, .rows 1 false xl1])) (fun (_ : Unit) => K (.exit 0) (stOf [(4, [])] [.v .any] [.rows 1 false xl0, .rows 1 false xl1])) rec x2) (funext fun x2' => laws_sameStored.e4 K k xl0 xl1 n x2'))
theorem laws_sameStored.q4 (k : Nat) {R : Type} (K : Ex → St κ → Option R) (vs : List AV) (bs : List (Blk κ)) (r : R) (h : laws_sameStored.h4 k K vs bs = some r) : ∃ n, loopN 2 (Code.den ti (laws_sameStored.Γ k) (laws_sameStored.LH k) (loopAt Try.f24 0)) [(0, [some 1]), (1, [some 1]), (5, [])] [(4, [])] K n vs bs = some r := by
  unfold laws_sameStored.h4 at h
  split at h
  · obtain ⟨_, rfl, h_1⟩ := asO_bind h
    obtain ⟨_, rfl, h_2⟩ := asO_bind h_1
    exact ⟨k, (laws_sameStored.e4 K k _ _ k _).trans h_2⟩
  · cases h
theorem laws_sameStored.lok (k : Nat) : LOK ti (laws_sameStored.Γ k) (laws_sameStored.LH k) 2 (loopsOf (bodyOf Try.f24)) :=
  (show loopsOf (bodyOf Try.f24) = [loopAt Try.f24 0] by kernel_rfl) ▸ (LOK_cons (g := ⟨2, [(0, [some 1]), (1, [some 1]), (5, [])], [(4, [])], @laws_sameStored.h4 k⟩) (by kernel_rfl) rfl (fun K vs xs r h => laws_sameStored.q4 k K vs xs r h) (LOK_nil))
def laws_sameStored.sig : List PSh := [.one (.ro 1), .one (.ro 1)]
def laws_sameStored.g (y : Bool) : Ret κ := ⟨.v (.bool y), [], []⟩
def laws_sameStored.out (r : Ret κ) : Option Bool :=
  match r with
  | ⟨.v (.bool z0), [], []⟩ => some (z0)
  | _ => none
theorem laws_sameStored.out_ok (r : Ret κ) (y : Bool) (h : laws_sameStored.out r = some y) : r = laws_sameStored.g y := by
  unfold laws_sameStored.out at h
  split at h
  · obtain rfl := Option.some.inj h
    rfl
  · cases h
def laws_sameStored.body (k : Nat) (vs : List AV) (bs : List (Blk κ)) : Option (Lf κ) :=
  match vs, bs with
  | [.v (.sl 0), .v (.sl 1)], [qb0, qb1] => (asO 1 false qb0).bind fun a0 => (asO 1 false qb1).bind fun a1 => some ⟨Bool, laws_sameStored.f k a0 a1, laws_sameStored.g⟩
  | _, _ => none
def laws_sameStored.C (k : Nat) : Nat → List AV → AP κ AV := contract laws_sameStored.sig (laws_sameStored.body k)
theorem laws_sameStored.den (k : Nat) (a0 : List T_impl_Stored) (a1 : List T_impl_Stored) : Code.den ti (laws_sameStored.Γ k) (laws_sameStored.LH k) (bodyOf Try.f24) (finK ti Try.f24.results.toList [] (flags laws_sameStored.sig).length (rwI (flags laws_sameStored.sig) 0) laws_sameStored.out) ⟨envOf (([.v (.sl 0), .v (.sl 1)]).zipIdx.map fun q => (q.2, q.1)), hpOf [.rows 1 false a0, .rows 1 false a1], (flags laws_sameStored.sig).length⟩ = laws_sameStored.f k a0 a1 := by kernel_rfl
theorem laws_sameStored.ok (k : Nat) : CSound Try.prog 24 (laws_sameStored.C k) :=
  csound κ_ok mixed tok (laws_sameStored.hΓ k) (LH := laws_sameStored.LH k) (fn := Try.f24) (c := bodyOf Try.f24) Try.func24 rfl Try.call24 laws_sameStored.sig [] (laws_sameStored.body k) (by kernel_rfl) (laws_sameStored.lok k) (by decide) fun vs bs lf y hl hb hy => by
    unfold laws_sameStored.body at hb
    split at hb
    · obtain ⟨_, rfl, hb_1⟩ := asO_bind hb
      obtain ⟨_, rfl, hb_2⟩ := asO_bind hb_1
      obtain rfl := Option.some.inj hb_2
      exact ⟨laws_sameStored.out, laws_sameStored.out_ok, (laws_sameStored.den k _ _).trans hy⟩
    · cases hb
/-! ### spec_DrawGetStored -/
def spec_DrawGetStored.f (k : Nat) (a0 : List Int) : Option (Int × Int × List T_impl_Stored) :=
  (spec_l1New.f k a0).bind fun t1 => (spec_l24Any.f k a0 t1.1 t1.2).bind fun t2 => (spec_l1Below.f k a0 t2.1 t2.2.1 (4 : Int)).bind fun t3 => (spec_l1Below.f k a0 t3.2.1 t3.2.2 (5 : Int)).bind fun t4 => some ((w64 ((1 : Int) + t3.1)), t4.1, t2.2.2)
def spec_DrawGetStored.Γ (k : Nat) : Ct κ := assoc [(37, spec_l1New.C k), (41, spec_l24Any.C k), (62, spec_l1Below.C k)]
def spec_DrawGetStored.LH (k : Nat) : Nat → Option (LHi κ) := assoc []
theorem spec_DrawGetStored.hΓ (k : Nat) : ∀ f g, spec_DrawGetStored.Γ k f = some g → CSound Try.prog f g := G_cons (spec_l1New.ok k) (G_cons (spec_l24Any.ok k) (G_cons (spec_l1Below.ok k) G_nil))
theorem spec_DrawGetStored.lok (k : Nat) : LOK ti (spec_DrawGetStored.Γ k) (spec_DrawGetStored.LH k) 1 (loopsOf (bodyOf Try.f52)) :=
  (show loopsOf (bodyOf Try.f52) = [] by kernel_rfl) ▸ LOK_nil
def spec_DrawGetStored.sig : List PSh := [.one (.ro 0)]
def spec_DrawGetStored.g (y : Int × Int × List T_impl_Stored) : Ret κ := ⟨.tup [(false, [.sl 1]), (false, [.int .i64 y.1]), (false, [.int .i64 y.2.1])], [], [.rows 1 true y.2.2]⟩
def spec_DrawGetStored.out (r : Ret κ) : Option (Int × Int × List T_impl_Stored) :=
  match r with
  | ⟨.tup [(false, [.sl 1]), (false, [.int .i64 z0]), (false, [.int .i64 z1])], [], [q2]⟩ => (asO 1 true q2).bind fun z2 => some (z0, z1, z2)
  | _ => none
theorem spec_DrawGetStored.out_ok (r : Ret κ) (y : Int × Int × List T_impl_Stored) (h : spec_DrawGetStored.out r = some y) : r = spec_DrawGetStored.g y := by
  unfold spec_DrawGetStored.out at h
  split at h
  · obtain ⟨_, rfl, h_1⟩ := asO_bind h
    obtain rfl := Option.some.inj h_1
    rfl
  · cases h
def spec_DrawGetStored.body (k : Nat) (vs : List AV) (bs : List (Blk κ)) : Option (Lf κ) :=
  match vs, bs with
  | [.v (.sl 0)], [qb0] => (asO 0 false qb0).bind fun a0 => some ⟨Int × Int × List T_impl_Stored, spec_DrawGetStored.f k a0, spec_DrawGetStored.g⟩
  | _, _ => none
def spec_DrawGetStored.C (k : Nat) : Nat → List AV → AP κ AV := contract spec_DrawGetStored.sig (spec_DrawGetStored.body k)
theorem spec_DrawGetStored.den (k : Nat) (a0 : List Int) : Code.den ti (spec_DrawGetStored.Γ k) (spec_DrawGetStored.LH k) (bodyOf Try.f52) (finK ti Try.f52.results.toList [(2, [some 1])] (flags spec_DrawGetStored.sig).length (rwI (flags spec_DrawGetStored.sig) 0) spec_DrawGetStored.out) ⟨envOf (([.v (.sl 0)]).zipIdx.map fun q => (q.2, q.1)), hpOf [.rows 0 false a0], (flags spec_DrawGetStored.sig).length⟩ = spec_DrawGetStored.f k a0 := by kernel_rfl
theorem spec_DrawGetStored.ok (k : Nat) : CSound Try.prog 52 (spec_DrawGetStored.C k) :=
  csound κ_ok mixed tok (spec_DrawGetStored.hΓ k) (LH := spec_DrawGetStored.LH k) (fn := Try.f52) (c := bodyOf Try.f52) Try.func52 rfl Try.call52 spec_DrawGetStored.sig [(2, [some 1])] (spec_DrawGetStored.body k) (by kernel_rfl) (spec_DrawGetStored.lok k) (by decide) fun vs bs lf y hl hb hy => by
    unfold spec_DrawGetStored.body at hb
    split at hb
    · obtain ⟨_, rfl, hb_1⟩ := asO_bind hb
      obtain rfl := Option.some.inj hb_1
      exact ⟨spec_DrawGetStored.out, spec_DrawGetStored.out_ok, (spec_DrawGetStored.den k _).trans hy⟩
    · cases hb
end Go.Proofs.Ytmjflahlhgibnaa.PFnStores
