/- What the functions that the law FnPrivate reaches come to; no conditions. -/
import Derived.Test.YtmjflahlhgibnaaPFnPrivate2
set_option linter.unusedVariables false
set_option maxRecDepth 100000
namespace Go.Proofs.Ytmjflahlhgibnaa.PFnPrivate
open Go Go.Eng Go.Proofs
/-! ### impl_PutStored -/
def impl_PutStored.L8 {R : Type} (k : Nat) (xl0 : List T_impl_Stored) (xl1 : List T_impl_Stored) (xc2_0 : Int) (xc2_1 : Int) (xc2_2 : Int) (xc2_3 : Int) (X0 : Int → Option R) (rec : Int → Option R) (x3 : Int) : Option R :=
  (bif decide (x3 < (xl0.length : Int)) then (bif decide (0 ≤ x3) then (bif decide (x3 < (xl0.length : Int)) then (impl_compareStored.f k ((rd_impl_Stored xl0 x3).f0) ((rd_impl_Stored xl0 x3).f1) ((rd_impl_Stored xl0 x3).f2) ((rd_impl_Stored xl0 x3).f3) xc2_0 xc2_1 xc2_2 xc2_3).bind fun t6 => (bif decide (t6 < (0 : Int)) then (rec (w64 (x3 + (1 : Int)))) else (X0 x3)) else none) else none) else (X0 x3))
def impl_PutStored.l8 {R : Type} (k : Nat) (xl0 : List T_impl_Stored) (xl1 : List T_impl_Stored) (xc2_0 : Int) (xc2_1 : Int) (xc2_2 : Int) (xc2_3 : Int) (X0 : Int → Option R) : Nat → Int → Option R
  | 0 => fun _ => none
  | n + 1 => impl_PutStored.L8 k xl0 xl1 xc2_0 xc2_1 xc2_2 xc2_3 X0 (impl_PutStored.l8 k xl0 xl1 xc2_0 xc2_1 xc2_2 xc2_3 X0 n)
def impl_PutStored.f (k : Nat) (a0 : List T_impl_Stored) (a1 : Int) (a2 : Int) (a3 : Int) : Option (Bool × List T_impl_Stored) :=
  (slices_Clone_Stored.f k a0).bind fun t1 => (impl_placeOf.f k a0 a1 a2).bind fun t2 => (bif decide (t2 ≥ (0 : Int)) then (bif decide (0 ≤ t2) then (bif decide (t2 < (a0.length : Int)) then (bif decide (0 ≤ t2) then (bif decide (t2 < (t1.length : Int)) then (let l3 : List T_impl_Stored := (t1.set (t2).toNat (⟨a1, a2, a3, (w64 ((rd_impl_Stored a0 t2).f3 + (1 : Int)))⟩ : T_impl_Stored)); (impl_IsStore.f k l3).bind fun t4 => (bif !t4 then (slices_Clone_Stored.f k a0).bind fun t5 => some (false, t5) else some (true, l3))) else none) else none) else none) else none) else (impl_PutStored.l8 k a0 t1 a1 a2 a3 (1 : Int) (fun (y7 : Int) => (slices_Insert_Stored.f k t1 y7 ([(⟨a1, a2, a3, (1 : Int)⟩ : T_impl_Stored)] : List T_impl_Stored)).bind fun t8 => (impl_IsStore.f k t8).bind fun t9 => (bif !t9 then (slices_Clone_Stored.f k a0).bind fun t10 => some (false, t10) else some (true, t8))) k (0 : Int)))
def impl_PutStored.h8 (k : Nat) {R : Type} (K : Ex → St κ → Option R) (vs : List AV) (bs : List (Blk κ)) : Option R :=
  match vs, bs with
  | [.v (.sl 0), .v (.sl 1), .v (.ptr 2 0 0), .v (.int .i64 x3)], [qb0, qb1, .cells 48 [.int .i64 xc2_0, .int .i64 xc2_1, .int .i64 xc2_2, .int .i64 xc2_3]] => (asO 1 false qb0).bind fun xl0 => (asO 1 true qb1).bind fun xl1 => impl_PutStored.l8 k xl0 xl1 xc2_0 xc2_1 xc2_2 xc2_3 (fun (z3 : Int) => K (.exit 0) (stOf [(0, [some 1]), (10, [some 1]), (11, []), (13, [])] [.v (.sl 0), .v (.sl 1), .v (.ptr 2 0 0), .v (.int .i64 z3)] [.rows 1 false xl0, .rows 1 true xl1, .cells 48 [.int .i64 xc2_0, .int .i64 xc2_1, .int .i64 xc2_2, .int .i64 xc2_3]])) k x3
  | _, _ => none
def impl_PutStored.Γ (k : Nat) : Ct κ := assoc [(39, slices_Clone_Stored.C k), (49, impl_placeOf.C k), (15, impl_IsStore.C k), (44, impl_compareStored.C k), (54, slices_Insert_Stored.C k)]
def impl_PutStored.LH (k : Nat) : Nat → Option (LHi κ) := assoc [(8, ⟨1, [(0, [some 1]), (10, [some 1]), (11, []), (13, [])], [(0, [some 1]), (10, [some 1]), (11, []), (13, [])], @impl_PutStored.h8 k⟩)]
theorem impl_PutStored.hΓ (k : Nat) : ∀ f g, impl_PutStored.Γ k f = some g → CSound Try.prog f g := G_cons (slices_Clone_Stored.ok k) (G_cons (impl_placeOf.ok k) (G_cons (impl_IsStore.ok k) (G_cons (impl_compareStored.ok k) (G_cons (slices_Insert_Stored.ok k) G_nil))))
theorem impl_PutStored.e8 {R : Type} (K : Ex → St κ → Option R) (k : Nat) (xl0 : List T_impl_Stored) (xl1 : List T_impl_Stored) (xc2_0 : Int) (xc2_1 : Int) (xc2_2 : Int) (xc2_3 : Int) : ∀ (n : Nat) (x3 : Int), loopN 1 (Code.den ti (impl_PutStored.Γ k) (impl_PutStored.LH k) (loopAt Try.f26 0)) [(0, [some 1]), (10, [some 1]), (11, []), (13, [])] [(0, [some 1]), (10, [some 1]), (11, []), (13, [])] K n [.v (.sl 0), .v (.sl 1), .v (.ptr 2 0 0), .v (.int .i64 x3)] [.rows 1 false xl0, .rows 1 true xl1, .cells 48 [.int .i64 xc2_0, .int .i64 xc2_1, .int .i64 xc2_2, .int .i64 xc2_3]] = impl_PutStored.l8 k xl0 xl1 xc2_0 xc2_1 xc2_2 xc2_3 (fun (z3 : Int) => K (.exit 0) (stOf [(0, [some 1]), (10, [some 1]), (11, []), (13, [])] [.v (.sl 0), .v (.sl 1), .v (.ptr 2 0 0), .v (.int .i64 z3)] [.rows 1 false xl0, .rows 1 true xl1, .cells 48 [.int .i64 xc2_0, .int .i64 xc2_1, .int .i64 xc2_2, .int .i64 xc2_3]])) n x3
  | 0, _ => rfl
  | n + 1, x3 => (show loopN 1 (Code.den ti (impl_PutStored.Γ k) (impl_PutStored.LH k) (loopAt Try.f26 0)) [(0, [some 1]), (10, [some 1]), (11, []), (13, [])] [(0, [some 1]), (10, [some 1]), (11, []), (13, [])] K (n + 1) [.v (.sl 0), .v (.sl 1), .v (.ptr 2 0 0), .v (.int .i64 x3)] [.rows 1 false xl0, .rows 1 true xl1, .cells 48 [.int .i64 xc2_0, .int .i64 xc2_1, .int .i64 xc2_2, .int .i64 xc2_3]] = impl_PutStored.L8 k xl0 xl1 xc2_0 xc2_1 xc2_2 xc2_3 (fun (z3 : Int) => K (.exit 0) (stOf [(0, [some 1]), (10, [some 1]), (11, []), (13, [])] [.v (.sl 0), .v (.sl 1), .v (.ptr 2 0 0), .v (.int .i64 z3)] [.rows 1 false xl0, .rows 1 true xl1, .cells 48 [.int .i64 xc2_0, .int .i64 xc2_1, .int .i64 xc2_2, .int .i64 xc2_3]])) (fun (x3' : Int) => loopN 1 (Code.den ti (impl_PutStored.Γ k) (impl_PutStored.LH k) (loopAt Try.f26 0)) [(0, [some 1]), (10, [some 1]), (11, []), (13, [])] [(0, [some 1]), (10, [some 1]), (11, []), (13, [])] K n [.v (.sl 0), .v (.sl 1), .v (.ptr 2 0 0), .v (.int .i64 x3')] [.rows 1 false xl0, .rows 1 true xl1, .cells 48 [.int .i64 xc2_0, .int .i64 xc2_1, .int .i64 xc2_2, .int .i64 xc2_3]]) x3 by kernel_rfl).trans (congrArg (fun rec => impl_PutStored.L8 k xl0 xl1 xc2_0 xc2_1 xc2_2 xc2_3 (fun (z3 : Int) => K (.exit 0) (stOf [(0, [some 1]), (10, [some 1]), (11, []), (13, [])] [.v (.sl 0), .v (.sl 1), .v (.ptr 2 0 0), .v (.int .i64 z3)] [.rows 1 false xl0, .rows 1 true xl1, .cells 48 [.int .i64 xc2_0, .int .i64 xc2_1, .int .i64 xc2_2, .int .i64 xc2_3]])) rec x3) (funext fun x3' => impl_PutStored.e8 K k xl0 xl1 xc2_0 xc2_1 xc2_2 xc2_3 n x3'))
theorem impl_PutStored.q8 (k : Nat) {R : Type} (K : Ex → St κ → Option R) (vs : List AV) (bs : List (Blk κ)) (r : R) (h : impl_PutStored.h8 k K vs bs = some r) : ∃ n, loopN 1 (Code.den ti (impl_PutStored.Γ k) (impl_PutStored.LH k) (loopAt Try.f26 0)) [(0, [some 1]), (10, [some 1]), (11, []), (13, [])] [(0, [some 1]), (10, [some 1]), (11, []), (13, [])] K n vs bs = some r := by
  unfold impl_PutStored.h8 at h
  split at h
  · obtain ⟨_, rfl, h_1⟩ := asO_bind h
    obtain ⟨_, rfl, h_2⟩ := asO_bind h_1
    exact ⟨k, (impl_PutStored.e8 K k _ _ _ _ _ _ k _).trans h_2⟩
  · cases h
theorem impl_PutStored.lok (k : Nat) : LOK ti (impl_PutStored.Γ k) (impl_PutStored.LH k) 1 (loopsOf (bodyOf Try.f26)) :=
  (show loopsOf (bodyOf Try.f26) = [loopAt Try.f26 0] by kernel_rfl) ▸ (LOK_cons (g := ⟨1, [(0, [some 1]), (10, [some 1]), (11, []), (13, [])], [(0, [some 1]), (10, [some 1]), (11, []), (13, [])], @impl_PutStored.h8 k⟩) (by kernel_rfl) rfl (fun K vs xs r h => impl_PutStored.q8 k K vs xs r h) (LOK_nil))
def impl_PutStored.sig : List PSh := [.one (.ro 1), .one .sc, .one .sc, .one .sc]
def impl_PutStored.g (y : Bool × List T_impl_Stored) : Ret κ := ⟨.tup [(false, [.sl 1]), (false, [.bool y.1])], [], [.rows 1 true y.2]⟩
def impl_PutStored.out (r : Ret κ) : Option (Bool × List T_impl_Stored) :=
  match r with
  | ⟨.tup [(false, [.sl 1]), (false, [.bool z0])], [], [q1]⟩ => (asO 1 true q1).bind fun z1 => some (z0, z1)
  | _ => none
theorem impl_PutStored.out_ok (r : Ret κ) (y : Bool × List T_impl_Stored) (h : impl_PutStored.out r = some y) : r = impl_PutStored.g y := by
  unfold impl_PutStored.out at h
  split at h
  · obtain ⟨_, rfl, h_1⟩ := asO_bind h
    obtain rfl := Option.some.inj h_1
    rfl
  · cases h
def impl_PutStored.body (k : Nat) (vs : List AV) (bs : List (Blk κ)) : Option (Lf κ) :=
  match vs, bs with
  | [.v (.sl 0), .v (.int .i64 a1), .v (.int .i64 a2), .v (.int .i64 a3)], [qb0] => (asO 1 false qb0).bind fun a0 => some ⟨Bool × List T_impl_Stored, impl_PutStored.f k a0 a1 a2 a3, impl_PutStored.g⟩
  | _, _ => none
def impl_PutStored.C (k : Nat) : Nat → List AV → AP κ AV := contract impl_PutStored.sig (impl_PutStored.body k)
theorem impl_PutStored.den (k : Nat) (a0 : List T_impl_Stored) (a1 : Int) (a2 : Int) (a3 : Int) : Code.den ti (impl_PutStored.Γ k) (impl_PutStored.LH k) (bodyOf Try.f26) (finK ti Try.f26.results.toList [(8, [some 1])] (flags impl_PutStored.sig).length (rwI (flags impl_PutStored.sig) 0) impl_PutStored.out) ⟨envOf (([.v (.sl 0), .v (.int .i64 a1), .v (.int .i64 a2), .v (.int .i64 a3)]).zipIdx.map fun q => (q.2, q.1)), hpOf [.rows 1 false a0], (flags impl_PutStored.sig).length⟩ = impl_PutStored.f k a0 a1 a2 a3 := by kernel_rfl
theorem impl_PutStored.ok (k : Nat) : CSound Try.prog 26 (impl_PutStored.C k) :=
  csound κ_ok mixed tok (impl_PutStored.hΓ k) (LH := impl_PutStored.LH k) (fn := Try.f26) (c := bodyOf Try.f26) Try.func26 rfl Try.call26 impl_PutStored.sig [(8, [some 1])] (impl_PutStored.body k) (by kernel_rfl) (impl_PutStored.lok k) (by decide) fun vs bs lf y hl hb hy => by
    unfold impl_PutStored.body at hb
    split at hb
    · obtain ⟨_, rfl, hb_1⟩ := asO_bind hb
      obtain rfl := Option.some.inj hb_1
      exact ⟨impl_PutStored.out, impl_PutStored.out_ok, (impl_PutStored.den k _ _ _ _).trans hy⟩
    · cases hb
/-! ### impl_WriteWindow -/
def impl_WriteWindow.f (k : Nat) (a0_0 : Bool) (a0_1 : List T_impl_Stored) (a0_2 : List T_impl_Stored) (a1 : Int) (a2 : Int) (a3 : Int) : Option (Bool × Bool × List T_impl_Stored × List T_impl_Stored) :=
  (slices_Clone_Stored.f k a0_1).bind fun t1 => (slices_Clone_Stored.f k a0_2).bind fun t2 => (bif a0_0 then (impl_PutStored.f k a0_2 a1 a2 a3).bind fun t3 => some (a0_0, t3.1, t1, t3.2) else (impl_PutStored.f k a0_1 a1 a2 a3).bind fun t4 => some (a0_0, t4.1, t4.2, t2))
def impl_WriteWindow.Γ (k : Nat) : Ct κ := assoc [(39, slices_Clone_Stored.C k), (26, impl_PutStored.C k)]
def impl_WriteWindow.LH (k : Nat) : Nat → Option (LHi κ) := assoc []
theorem impl_WriteWindow.hΓ (k : Nat) : ∀ f g, impl_WriteWindow.Γ k f = some g → CSound Try.prog f g := G_cons (slices_Clone_Stored.ok k) (G_cons (impl_PutStored.ok k) G_nil)
theorem impl_WriteWindow.lok (k : Nat) : LOK ti (impl_WriteWindow.Γ k) (impl_WriteWindow.LH k) 2 (loopsOf (bodyOf Try.f9)) :=
  (show loopsOf (bodyOf Try.f9) = [] by kernel_rfl) ▸ LOK_nil
def impl_WriteWindow.sig : List PSh := [.agg [.sc, .ro 1, .ro 1], .one .sc, .one .sc, .one .sc]
def impl_WriteWindow.g (y : Bool × Bool × List T_impl_Stored × List T_impl_Stored) : Ret κ := ⟨.tup [(true, [.bool y.1, .sl 2, .sl 3]), (false, [.bool y.2.1])], [], [.rows 1 true y.2.2.1, .rows 1 true y.2.2.2]⟩
def impl_WriteWindow.out (r : Ret κ) : Option (Bool × Bool × List T_impl_Stored × List T_impl_Stored) :=
  match r with
  | ⟨.tup [(true, [.bool z0, .sl 2, .sl 3]), (false, [.bool z1])], [], [q2, q3]⟩ => (asO 1 true q2).bind fun z2 => (asO 1 true q3).bind fun z3 => some (z0, z1, z2, z3)
  | _ => none
theorem impl_WriteWindow.out_ok (r : Ret κ) (y : Bool × Bool × List T_impl_Stored × List T_impl_Stored) (h : impl_WriteWindow.out r = some y) : r = impl_WriteWindow.g y := by
  unfold impl_WriteWindow.out at h
  split at h
  · obtain ⟨_, rfl, h_1⟩ := asO_bind h
    obtain ⟨_, rfl, h_2⟩ := asO_bind h_1
    obtain rfl := Option.some.inj h_2
    rfl
  · cases h
def impl_WriteWindow.body (k : Nat) (vs : List AV) (bs : List (Blk κ)) : Option (Lf κ) :=
  match vs, bs with
  | [.agg [.bool a0_0, .sl 0, .sl 1], .v (.int .i64 a1), .v (.int .i64 a2), .v (.int .i64 a3)], [qb0, qb1] => (asO 1 false qb0).bind fun a0_1 => (asO 1 false qb1).bind fun a0_2 => some ⟨Bool × Bool × List T_impl_Stored × List T_impl_Stored, impl_WriteWindow.f k a0_0 a0_1 a0_2 a1 a2 a3, impl_WriteWindow.g⟩
  | _, _ => none
def impl_WriteWindow.C (k : Nat) : Nat → List AV → AP κ AV := contract impl_WriteWindow.sig (impl_WriteWindow.body k)
theorem impl_WriteWindow.den (k : Nat) (a0_0 : Bool) (a0_1 : List T_impl_Stored) (a0_2 : List T_impl_Stored) (a1 : Int) (a2 : Int) (a3 : Int) : Code.den ti (impl_WriteWindow.Γ k) (impl_WriteWindow.LH k) (bodyOf Try.f9) (finK ti Try.f9.results.toList [(8, [none, some 1, some 1])] (flags impl_WriteWindow.sig).length (rwI (flags impl_WriteWindow.sig) 0) impl_WriteWindow.out) ⟨envOf (([.agg [.bool a0_0, .sl 0, .sl 1], .v (.int .i64 a1), .v (.int .i64 a2), .v (.int .i64 a3)]).zipIdx.map fun q => (q.2, q.1)), hpOf [.rows 1 false a0_1, .rows 1 false a0_2], (flags impl_WriteWindow.sig).length⟩ = impl_WriteWindow.f k a0_0 a0_1 a0_2 a1 a2 a3 := by kernel_rfl
theorem impl_WriteWindow.ok (k : Nat) : CSound Try.prog 9 (impl_WriteWindow.C k) :=
  csound κ_ok mixed tok (impl_WriteWindow.hΓ k) (LH := impl_WriteWindow.LH k) (fn := Try.f9) (c := bodyOf Try.f9) Try.func9 rfl Try.call9 impl_WriteWindow.sig [(8, [none, some 1, some 1])] (impl_WriteWindow.body k) (by kernel_rfl) (impl_WriteWindow.lok k) (by decide) fun vs bs lf y hl hb hy => by
    unfold impl_WriteWindow.body at hb
    split at hb
    · obtain ⟨_, rfl, hb_1⟩ := asO_bind hb
      obtain ⟨_, rfl, hb_2⟩ := asO_bind hb_1
      obtain rfl := Option.some.inj hb_2
      exact ⟨impl_WriteWindow.out, impl_WriteWindow.out_ok, (impl_WriteWindow.den k _ _ _ _ _ _).trans hy⟩
    · cases hb
/-! ### impl_GetStored -/
def impl_GetStored.f (k : Nat) (a0 : List T_impl_Stored) (a1 : Int) (a2 : Int) : Option (Int × Bool) :=
  (impl_placeOf.f k a0 a1 a2).bind fun t1 => (bif decide (t1 < (0 : Int)) then some ((0 : Int), false) else (bif decide (0 ≤ t1) then (bif decide (t1 < (a0.length : Int)) then some ((rd_impl_Stored a0 t1).f2, true) else none) else none))
def impl_GetStored.Γ (k : Nat) : Ct κ := assoc [(49, impl_placeOf.C k)]
def impl_GetStored.LH (k : Nat) : Nat → Option (LHi κ) := assoc []
theorem impl_GetStored.hΓ (k : Nat) : ∀ f g, impl_GetStored.Γ k f = some g → CSound Try.prog f g := G_cons (impl_placeOf.ok k) G_nil
theorem impl_GetStored.lok (k : Nat) : LOK ti (impl_GetStored.Γ k) (impl_GetStored.LH k) 1 (loopsOf (bodyOf Try.f27)) :=
  (show loopsOf (bodyOf Try.f27) = [] by kernel_rfl) ▸ LOK_nil
def impl_GetStored.sig : List PSh := [.one (.ro 1), .one .sc, .one .sc]
def impl_GetStored.g (y : Int × Bool) : Ret κ := ⟨.tup [(false, [.int .i64 y.1]), (false, [.bool y.2])], [], []⟩
def impl_GetStored.out (r : Ret κ) : Option (Int × Bool) :=
  match r with
  | ⟨.tup [(false, [.int .i64 z0]), (false, [.bool z1])], [], []⟩ => some (z0, z1)
  | _ => none
theorem impl_GetStored.out_ok (r : Ret κ) (y : Int × Bool) (h : impl_GetStored.out r = some y) : r = impl_GetStored.g y := by
  unfold impl_GetStored.out at h
  split at h
  · obtain rfl := Option.some.inj h
    rfl
  · cases h
def impl_GetStored.body (k : Nat) (vs : List AV) (bs : List (Blk κ)) : Option (Lf κ) :=
  match vs, bs with
  | [.v (.sl 0), .v (.int .i64 a1), .v (.int .i64 a2)], [qb0] => (asO 1 false qb0).bind fun a0 => some ⟨Int × Bool, impl_GetStored.f k a0 a1 a2, impl_GetStored.g⟩
  | _, _ => none
def impl_GetStored.C (k : Nat) : Nat → List AV → AP κ AV := contract impl_GetStored.sig (impl_GetStored.body k)
theorem impl_GetStored.den (k : Nat) (a0 : List T_impl_Stored) (a1 : Int) (a2 : Int) : Code.den ti (impl_GetStored.Γ k) (impl_GetStored.LH k) (bodyOf Try.f27) (finK ti Try.f27.results.toList [] (flags impl_GetStored.sig).length (rwI (flags impl_GetStored.sig) 0) impl_GetStored.out) ⟨envOf (([.v (.sl 0), .v (.int .i64 a1), .v (.int .i64 a2)]).zipIdx.map fun q => (q.2, q.1)), hpOf [.rows 1 false a0], (flags impl_GetStored.sig).length⟩ = impl_GetStored.f k a0 a1 a2 := by kernel_rfl
theorem impl_GetStored.ok (k : Nat) : CSound Try.prog 27 (impl_GetStored.C k) :=
  csound κ_ok mixed tok (impl_GetStored.hΓ k) (LH := impl_GetStored.LH k) (fn := Try.f27) (c := bodyOf Try.f27) Try.func27 rfl Try.call27 impl_GetStored.sig [] (impl_GetStored.body k) (by kernel_rfl) (impl_GetStored.lok k) (by decide) fun vs bs lf y hl hb hy => by
    unfold impl_GetStored.body at hb
    split at hb
    · obtain ⟨_, rfl, hb_1⟩ := asO_bind hb
      obtain rfl := Option.some.inj hb_1
      exact ⟨impl_GetStored.out, impl_GetStored.out_ok, (impl_GetStored.den k _ _ _).trans hy⟩
    · cases hb
/-! ### impl_ReadWindow -/
def impl_ReadWindow.f (k : Nat) (a0_0 : Bool) (a0_1 : List T_impl_Stored) (a0_2 : List T_impl_Stored) (a1 : Int) (a2 : Int) : Option (Int × Bool) :=
  (impl_GetStored.f k a0_2 a1 a2).bind fun t1 => (bif t1.2 then some (t1.1, true) else (impl_GetStored.f k a0_1 a1 a2).bind fun t2 => some (t2.1, t2.2))
def impl_ReadWindow.Γ (k : Nat) : Ct κ := assoc [(27, impl_GetStored.C k)]
def impl_ReadWindow.LH (k : Nat) : Nat → Option (LHi κ) := assoc []
theorem impl_ReadWindow.hΓ (k : Nat) : ∀ f g, impl_ReadWindow.Γ k f = some g → CSound Try.prog f g := G_cons (impl_GetStored.ok k) G_nil
theorem impl_ReadWindow.lok (k : Nat) : LOK ti (impl_ReadWindow.Γ k) (impl_ReadWindow.LH k) 2 (loopsOf (bodyOf Try.f10)) :=
  (show loopsOf (bodyOf Try.f10) = [] by kernel_rfl) ▸ LOK_nil
def impl_ReadWindow.sig : List PSh := [.agg [.sc, .ro 1, .ro 1], .one .sc, .one .sc]
def impl_ReadWindow.g (y : Int × Bool) : Ret κ := ⟨.tup [(false, [.int .i64 y.1]), (false, [.bool y.2])], [], []⟩
def impl_ReadWindow.out (r : Ret κ) : Option (Int × Bool) :=
  match r with
  | ⟨.tup [(false, [.int .i64 z0]), (false, [.bool z1])], [], []⟩ => some (z0, z1)
  | _ => none
theorem impl_ReadWindow.out_ok (r : Ret κ) (y : Int × Bool) (h : impl_ReadWindow.out r = some y) : r = impl_ReadWindow.g y := by
  unfold impl_ReadWindow.out at h
  split at h
  · obtain rfl := Option.some.inj h
    rfl
  · cases h
def impl_ReadWindow.body (k : Nat) (vs : List AV) (bs : List (Blk κ)) : Option (Lf κ) :=
  match vs, bs with
  | [.agg [.bool a0_0, .sl 0, .sl 1], .v (.int .i64 a1), .v (.int .i64 a2)], [qb0, qb1] => (asO 1 false qb0).bind fun a0_1 => (asO 1 false qb1).bind fun a0_2 => some ⟨Int × Bool, impl_ReadWindow.f k a0_0 a0_1 a0_2 a1 a2, impl_ReadWindow.g⟩
  | _, _ => none
def impl_ReadWindow.C (k : Nat) : Nat → List AV → AP κ AV := contract impl_ReadWindow.sig (impl_ReadWindow.body k)
theorem impl_ReadWindow.den (k : Nat) (a0_0 : Bool) (a0_1 : List T_impl_Stored) (a0_2 : List T_impl_Stored) (a1 : Int) (a2 : Int) : Code.den ti (impl_ReadWindow.Γ k) (impl_ReadWindow.LH k) (bodyOf Try.f10) (finK ti Try.f10.results.toList [] (flags impl_ReadWindow.sig).length (rwI (flags impl_ReadWindow.sig) 0) impl_ReadWindow.out) ⟨envOf (([.agg [.bool a0_0, .sl 0, .sl 1], .v (.int .i64 a1), .v (.int .i64 a2)]).zipIdx.map fun q => (q.2, q.1)), hpOf [.rows 1 false a0_1, .rows 1 false a0_2], (flags impl_ReadWindow.sig).length⟩ = impl_ReadWindow.f k a0_0 a0_1 a0_2 a1 a2 := by kernel_rfl
theorem impl_ReadWindow.ok (k : Nat) : CSound Try.prog 10 (impl_ReadWindow.C k) :=
  csound κ_ok mixed tok (impl_ReadWindow.hΓ k) (LH := impl_ReadWindow.LH k) (fn := Try.f10) (c := bodyOf Try.f10) Try.func10 rfl Try.call10 impl_ReadWindow.sig [] (impl_ReadWindow.body k) (by kernel_rfl) (impl_ReadWindow.lok k) (by decide) fun vs bs lf y hl hb hy => by
    unfold impl_ReadWindow.body at hb
    split at hb
    · obtain ⟨_, rfl, hb_1⟩ := asO_bind hb
      obtain ⟨_, rfl, hb_2⟩ := asO_bind hb_1
      obtain rfl := Option.some.inj hb_2
      exact ⟨impl_ReadWindow.out, impl_ReadWindow.out_ok, (impl_ReadWindow.den k _ _ _ _ _).trans hy⟩
    · cases hb
/-! ### impl_CloseWindow -/
def impl_CloseWindow.f (k : Nat) (a0_0 : Bool) (a0_1 : List T_impl_Stored) (a0_2 : List T_impl_Stored) : Option (List T_impl_Stored) :=
  (slices_Clone_Stored.f k a0_1).bind fun t1 => some t1
def impl_CloseWindow.Γ (k : Nat) : Ct κ := assoc [(39, slices_Clone_Stored.C k)]
def impl_CloseWindow.LH (k : Nat) : Nat → Option (LHi κ) := assoc []
theorem impl_CloseWindow.hΓ (k : Nat) : ∀ f g, impl_CloseWindow.Γ k f = some g → CSound Try.prog f g := G_cons (slices_Clone_Stored.ok k) G_nil
theorem impl_CloseWindow.lok (k : Nat) : LOK ti (impl_CloseWindow.Γ k) (impl_CloseWindow.LH k) 2 (loopsOf (bodyOf Try.f12)) :=
  (show loopsOf (bodyOf Try.f12) = [] by kernel_rfl) ▸ LOK_nil
def impl_CloseWindow.sig : List PSh := [.agg [.sc, .ro 1, .ro 1]]
def impl_CloseWindow.g (y : List T_impl_Stored) : Ret κ := ⟨.v (.sl 2), [], [.rows 1 true y]⟩
def impl_CloseWindow.out (r : Ret κ) : Option (List T_impl_Stored) :=
  match r with
  | ⟨.v (.sl 2), [], [q0]⟩ => (asO 1 true q0).bind fun z0 => some (z0)
  | _ => none
theorem impl_CloseWindow.out_ok (r : Ret κ) (y : List T_impl_Stored) (h : impl_CloseWindow.out r = some y) : r = impl_CloseWindow.g y := by
  unfold impl_CloseWindow.out at h
  split at h
  · obtain ⟨_, rfl, h_1⟩ := asO_bind h
    obtain rfl := Option.some.inj h_1
    rfl
  · cases h
def impl_CloseWindow.body (k : Nat) (vs : List AV) (bs : List (Blk κ)) : Option (Lf κ) :=
  match vs, bs with
  | [.agg [.bool a0_0, .sl 0, .sl 1]], [qb0, qb1] => (asO 1 false qb0).bind fun a0_1 => (asO 1 false qb1).bind fun a0_2 => some ⟨List T_impl_Stored, impl_CloseWindow.f k a0_0 a0_1 a0_2, impl_CloseWindow.g⟩
  | _, _ => none
def impl_CloseWindow.C (k : Nat) : Nat → List AV → AP κ AV := contract impl_CloseWindow.sig (impl_CloseWindow.body k)
theorem impl_CloseWindow.den (k : Nat) (a0_0 : Bool) (a0_1 : List T_impl_Stored) (a0_2 : List T_impl_Stored) : Code.den ti (impl_CloseWindow.Γ k) (impl_CloseWindow.LH k) (bodyOf Try.f12) (finK ti Try.f12.results.toList [(2, [some 1])] (flags impl_CloseWindow.sig).length (rwI (flags impl_CloseWindow.sig) 0) impl_CloseWindow.out) ⟨envOf (([.agg [.bool a0_0, .sl 0, .sl 1]]).zipIdx.map fun q => (q.2, q.1)), hpOf [.rows 1 false a0_1, .rows 1 false a0_2], (flags impl_CloseWindow.sig).length⟩ = impl_CloseWindow.f k a0_0 a0_1 a0_2 := by kernel_rfl
theorem impl_CloseWindow.ok (k : Nat) : CSound Try.prog 12 (impl_CloseWindow.C k) :=
  csound κ_ok mixed tok (impl_CloseWindow.hΓ k) (LH := impl_CloseWindow.LH k) (fn := Try.f12) (c := bodyOf Try.f12) Try.func12 rfl Try.call12 impl_CloseWindow.sig [(2, [some 1])] (impl_CloseWindow.body k) (by kernel_rfl) (impl_CloseWindow.lok k) (by decide) fun vs bs lf y hl hb hy => by
    unfold impl_CloseWindow.body at hb
    split at hb
    · obtain ⟨_, rfl, hb_1⟩ := asO_bind hb
      obtain ⟨_, rfl, hb_2⟩ := asO_bind hb_1
      obtain rfl := Option.some.inj hb_2
      exact ⟨impl_CloseWindow.out, impl_CloseWindow.out_ok, (impl_CloseWindow.den k _ _ _).trans hy⟩
    · cases hb
/-! ### slices_Equal_Stored -/
def slices_Equal_Stored.L4 {R : Type} (k : Nat) (x2 : Int) (xl0 : List T_impl_Stored) (xl1 : List T_impl_Stored) (X0 : Bool → Option R) (X1 : Unit → Option R) (rec : Int → Option R) (x3 : Int) : Option R :=
  (bif decide (x3 < x2) then (bif decide (0 ≤ x3) then (bif decide (x3 < (xl0.length : Int)) then (bif decide (0 ≤ x3) then (bif decide (x3 < (xl1.length : Int)) then (bif !((((rd_impl_Stored xl0 x3).f0) == ((rd_impl_Stored xl1 x3).f0)) && ((((rd_impl_Stored xl0 x3).f1) == ((rd_impl_Stored xl1 x3).f1)) && ((((rd_impl_Stored xl0 x3).f2) == ((rd_impl_Stored xl1 x3).f2)) && (((rd_impl_Stored xl0 x3).f3) == ((rd_impl_Stored xl1 x3).f3))))) then (X0 false) else (rec (w64 (x3 + (1 : Int))))) else none) else none) else none) else none) else (X1 ()))
def slices_Equal_Stored.l4 {R : Type} (k : Nat) (x2 : Int) (xl0 : List T_impl_Stored) (xl1 : List T_impl_Stored) (X0 : Bool → Option R) (X1 : Unit → Option R) : Nat → Int → Option R
  | 0 => fun _ => none
  | n + 1 => slices_Equal_Stored.L4 k x2 xl0 xl1 X0 X1 (slices_Equal_Stored.l4 k x2 xl0 xl1 X0 X1 n)
def slices_Equal_Stored.f (k : Nat) (a0 : List T_impl_Stored) (a1 : List T_impl_Stored) : Option Bool :=
  (bif ((a0.length : Int) != (a1.length : Int)) then some false else (slices_Equal_Stored.l4 k (a0.length : Int) a0 a1 (fun (y1 : Bool) => some y1) (fun (_ : Unit) => some true) k (0 : Int)))
def slices_Equal_Stored.h4 (k : Nat) {R : Type} (K : Ex → St κ → Option R) (vs : List AV) (bs : List (Blk κ)) : Option R :=
  match vs, bs with
  | [.v (.sl 0), .v (.sl 1), .v (.int .i64 x2), .v (.int .i64 x3)], [qb0, qb1] => (asO 1 false qb0).bind fun xl0 => (asO 1 false qb1).bind fun xl1 => slices_Equal_Stored.l4 k x2 xl0 xl1 (fun (z0 : Bool) => K .ret (stOf [(4, [])] [.v (.bool z0)] [.rows 1 false xl0, .rows 1 false xl1])) (fun (_ : Unit) => K (.exit 0) (stOf [(4, [])] [.v .any] [.rows 1 false xl0, .rows 1 false xl1])) k x3
  | _, _ => none
def slices_Equal_Stored.Γ (k : Nat) : Ct κ := assoc []
def slices_Equal_Stored.LH (k : Nat) : Nat → Option (LHi κ) := assoc [(4, ⟨2, [(0, [some 1]), (1, [some 1]), (12, []), (13, [])], [(4, [])], @slices_Equal_Stored.h4 k⟩)]
theorem slices_Equal_Stored.hΓ (k : Nat) : ∀ f g, slices_Equal_Stored.Γ k f = some g → CSound Try.prog f g := G_nil
theorem slices_Equal_Stored.e4 {R : Type} (K : Ex → St κ → Option R) (k : Nat) (x2 : Int) (xl0 : List T_impl_Stored) (xl1 : List T_impl_Stored) : ∀ (n : Nat) (x3 : Int), loopN 2 (Code.den ti (slices_Equal_Stored.Γ k) (slices_Equal_Stored.LH k) (loopAt Try.f40 0)) [(0, [some 1]), (1, [some 1]), (12, []), (13, [])] [(4, [])] K n [.v (.sl 0), .v (.sl 1), .v (.int .i64 x2), .v (.int .i64 x3)] [.rows 1 false xl0, .rows 1 false xl1] = slices_Equal_Stored.l4 k x2 xl0 xl1 (fun (z0 : Bool) => K .ret (stOf [(4, [])] [.v (.bool z0)] [.rows 1 false xl0, .rows 1 false xl1])) (fun (_ : Unit) => K (.exit 0) (stOf [(4, [])] [.v .any] [.rows 1 false xl0, .rows 1 false xl1])) n x3
  | 0, _ => rfl
  | n + 1, x3 => (show loopN 2 (Code.den ti (slices_Equal_Stored.Γ k) (slices_Equal_Stored.LH k) (loopAt Try.f40 0)) [(0, [some 1]), (1, [some 1]), (12, []), (13, [])] [(4, [])] K (n + 1) [.v (.sl 0), .v (.sl 1), .v (.int .i64 x2), .v (.int .i64 x3)] [.rows 1 false xl0, .rows 1 false xl1] = slices_Equal_Stored.L4 k x2 xl0 xl1 (fun (z0 : Bool) => K .ret (stOf [(4, [])] [.v (.bool z0)] [.rows 1 false xl0, .rows 1 false xl1])) (fun (_ : Unit) => K (.exit 0) (stOf [(4, [])] [.v .any] [.rows 1 false xl0, .rows 1 false xl1])) (fun (x3' : Int) => loopN 2 (Code.den ti (slices_Equal_Stored.Γ k) (slices_Equal_Stored.LH k) (loopAt Try.f40 0)) [(0, [some 1]), (1, [some 1]), (12, []), (13, [])] [(4, [])] K n [.v (.sl 0), .v (.sl 1), .v (.int .i64 x2), .v (.int .i64 x3')] [.rows 1 false xl0, .rows 1 false xl1]) x3 by kernel_rfl).trans (congrArg (fun rec => slices_Equal_Stored.L4 k x2 xl0 xl1 (fun (z0 : Bool) => K .ret (stOf [(4, [])] [.v (.bool z0)] [.rows 1 false xl0, .rows 1 false xl1])) (fun (_ : Unit) => K (.exit 0) (stOf [(4, [])] [.v .any] [.rows 1 false xl0, .rows 1 false xl1])) rec x3) (funext fun x3' => slices_Equal_Stored.e4 K k x2 xl0 xl1 n x3'))
theorem slices_Equal_Stored.q4 (k : Nat) {R : Type} (K : Ex → St κ → Option R) (vs : List AV) (bs : List (Blk κ)) (r : R) (h : slices_Equal_Stored.h4 k K vs bs = some r) : ∃ n, loopN 2 (Code.den ti (slices_Equal_Stored.Γ k) (slices_Equal_Stored.LH k) (loopAt Try.f40 0)) [(0, [some 1]), (1, [some 1]), (12, []), (13, [])] [(4, [])] K n vs bs = some r := by
  unfold slices_Equal_Stored.h4 at h
  split at h
  · obtain ⟨_, rfl, h_1⟩ := asO_bind h
    obtain ⟨_, rfl, h_2⟩ := asO_bind h_1
    exact ⟨k, (slices_Equal_Stored.e4 K k _ _ _ k _).trans h_2⟩
  · cases h
theorem slices_Equal_Stored.lok (k : Nat) : LOK ti (slices_Equal_Stored.Γ k) (slices_Equal_Stored.LH k) 2 (loopsOf (bodyOf Try.f40)) :=
  (show loopsOf (bodyOf Try.f40) = [loopAt Try.f40 0] by kernel_rfl) ▸ (LOK_cons (g := ⟨2, [(0, [some 1]), (1, [some 1]), (12, []), (13, [])], [(4, [])], @slices_Equal_Stored.h4 k⟩) (by kernel_rfl) rfl (fun K vs xs r h => slices_Equal_Stored.q4 k K vs xs r h) (LOK_nil))
def slices_Equal_Stored.sig : List PSh := [.one (.ro 1), .one (.ro 1)]
def slices_Equal_Stored.g (y : Bool) : Ret κ := ⟨.v (.bool y), [], []⟩
def slices_Equal_Stored.out (r : Ret κ) : Option Bool :=
  match r with
  | ⟨.v (.bool z0), [], []⟩ => some (z0)
  | _ => none
theorem slices_Equal_Stored.out_ok (r : Ret κ) (y : Bool) (h : slices_Equal_Stored.out r = some y) : r = slices_Equal_Stored.g y := by
  unfold slices_Equal_Stored.out at h
  split at h
  · obtain rfl := Option.some.inj h
    rfl
  · cases h
def slices_Equal_Stored.body (k : Nat) (vs : List AV) (bs : List (Blk κ)) : Option (Lf κ) :=
  match vs, bs with
  | [.v (.sl 0), .v (.sl 1)], [qb0, qb1] => (asO 1 false qb0).bind fun a0 => (asO 1 false qb1).bind fun a1 => some ⟨Bool, slices_Equal_Stored.f k a0 a1, slices_Equal_Stored.g⟩
  | _, _ => none
def slices_Equal_Stored.C (k : Nat) : Nat → List AV → AP κ AV := contract slices_Equal_Stored.sig (slices_Equal_Stored.body k)
theorem slices_Equal_Stored.den (k : Nat) (a0 : List T_impl_Stored) (a1 : List T_impl_Stored) : Code.den ti (slices_Equal_Stored.Γ k) (slices_Equal_Stored.LH k) (bodyOf Try.f40) (finK ti Try.f40.results.toList [] (flags slices_Equal_Stored.sig).length (rwI (flags slices_Equal_Stored.sig) 0) slices_Equal_Stored.out) ⟨envOf (([.v (.sl 0), .v (.sl 1)]).zipIdx.map fun q => (q.2, q.1)), hpOf [.rows 1 false a0, .rows 1 false a1], (flags slices_Equal_Stored.sig).length⟩ = slices_Equal_Stored.f k a0 a1 := by kernel_rfl
theorem slices_Equal_Stored.ok (k : Nat) : CSound Try.prog 40 (slices_Equal_Stored.C k) :=
  csound κ_ok mixed tok (slices_Equal_Stored.hΓ k) (LH := slices_Equal_Stored.LH k) (fn := Try.f40) (c := bodyOf Try.f40) Try.func40 rfl Try.call40 slices_Equal_Stored.sig [] (slices_Equal_Stored.body k) (by kernel_rfl) (slices_Equal_Stored.lok k) (by decide) fun vs bs lf y hl hb hy => by
    unfold slices_Equal_Stored.body at hb
    split at hb
    · obtain ⟨_, rfl, hb_1⟩ := asO_bind hb
      obtain ⟨_, rfl, hb_2⟩ := asO_bind hb_1
      obtain rfl := Option.some.inj hb_2
      exact ⟨slices_Equal_Stored.out, slices_Equal_Stored.out_ok, (slices_Equal_Stored.den k _ _).trans hy⟩
    · cases hb
/-! ### impl_EqualStores -/
def impl_EqualStores.f (k : Nat) (a0 : List T_impl_Stored) (a1 : List T_impl_Stored) : Option Bool :=
  (slices_Equal_Stored.f k a0 a1).bind fun t1 => some t1
def impl_EqualStores.Γ (k : Nat) : Ct κ := assoc [(40, slices_Equal_Stored.C k)]
def impl_EqualStores.LH (k : Nat) : Nat → Option (LHi κ) := assoc []
theorem impl_EqualStores.hΓ (k : Nat) : ∀ f g, impl_EqualStores.Γ k f = some g → CSound Try.prog f g := G_cons (slices_Equal_Stored.ok k) G_nil
theorem impl_EqualStores.lok (k : Nat) : LOK ti (impl_EqualStores.Γ k) (impl_EqualStores.LH k) 2 (loopsOf (bodyOf Try.f11)) :=
  (show loopsOf (bodyOf Try.f11) = [] by kernel_rfl) ▸ LOK_nil
def impl_EqualStores.sig : List PSh := [.one (.ro 1), .one (.ro 1)]
def impl_EqualStores.g (y : Bool) : Ret κ := ⟨.v (.bool y), [], []⟩
def impl_EqualStores.out (r : Ret κ) : Option Bool :=
  match r with
  | ⟨.v (.bool z0), [], []⟩ => some (z0)
  | _ => none
theorem impl_EqualStores.out_ok (r : Ret κ) (y : Bool) (h : impl_EqualStores.out r = some y) : r = impl_EqualStores.g y := by
  unfold impl_EqualStores.out at h
  split at h
  · obtain rfl := Option.some.inj h
    rfl
  · cases h
def impl_EqualStores.body (k : Nat) (vs : List AV) (bs : List (Blk κ)) : Option (Lf κ) :=
  match vs, bs with
  | [.v (.sl 0), .v (.sl 1)], [qb0, qb1] => (asO 1 false qb0).bind fun a0 => (asO 1 false qb1).bind fun a1 => some ⟨Bool, impl_EqualStores.f k a0 a1, impl_EqualStores.g⟩
  | _, _ => none
def impl_EqualStores.C (k : Nat) : Nat → List AV → AP κ AV := contract impl_EqualStores.sig (impl_EqualStores.body k)
theorem impl_EqualStores.den (k : Nat) (a0 : List T_impl_Stored) (a1 : List T_impl_Stored) : Code.den ti (impl_EqualStores.Γ k) (impl_EqualStores.LH k) (bodyOf Try.f11) (finK ti Try.f11.results.toList [] (flags impl_EqualStores.sig).length (rwI (flags impl_EqualStores.sig) 0) impl_EqualStores.out) ⟨envOf (([.v (.sl 0), .v (.sl 1)]).zipIdx.map fun q => (q.2, q.1)), hpOf [.rows 1 false a0, .rows 1 false a1], (flags impl_EqualStores.sig).length⟩ = impl_EqualStores.f k a0 a1 := by kernel_rfl
theorem impl_EqualStores.ok (k : Nat) : CSound Try.prog 11 (impl_EqualStores.C k) :=
  csound κ_ok mixed tok (impl_EqualStores.hΓ k) (LH := impl_EqualStores.LH k) (fn := Try.f11) (c := bodyOf Try.f11) Try.func11 rfl Try.call11 impl_EqualStores.sig [] (impl_EqualStores.body k) (by kernel_rfl) (impl_EqualStores.lok k) (by decide) fun vs bs lf y hl hb hy => by
    unfold impl_EqualStores.body at hb
    split at hb
    · obtain ⟨_, rfl, hb_1⟩ := asO_bind hb
      obtain ⟨_, rfl, hb_2⟩ := asO_bind hb_1
      obtain rfl := Option.some.inj hb_2
      exact ⟨impl_EqualStores.out, impl_EqualStores.out_ok, (impl_EqualStores.den k _ _).trans hy⟩
    · cases hb
/-! ### spec_l9Raw -/
def spec_l9Raw.f (k : Nat) (a0_0 : List Int) (a0_1 : Int) (a0_2 : Int) : Option (Int × Int × Int) :=
  (spec_l1Int.f k a0_0 a0_1 a0_2 ([(-2 : Int), (-1 : Int), (0 : Int), (9 : Int), (10 : Int), (9223372036854775807 : Int), (-9223372036854775808 : Int)] : List Int)).bind fun t1 => some (t1.1, t1.2.1, t1.2.2)
def spec_l9Raw.Γ (k : Nat) : Ct κ := assoc [(38, spec_l1Int.C k)]
def spec_l9Raw.LH (k : Nat) : Nat → Option (LHi κ) := assoc []
theorem spec_l9Raw.hΓ (k : Nat) : ∀ f g, spec_l9Raw.Γ k f = some g → CSound Try.prog f g := G_cons (spec_l1Int.ok k) G_nil
theorem spec_l9Raw.lok (k : Nat) : LOK ti (spec_l9Raw.Γ k) (spec_l9Raw.LH k) 2 (loopsOf (bodyOf Try.f53)) :=
  (show loopsOf (bodyOf Try.f53) = [] by kernel_rfl) ▸ LOK_nil
def spec_l9Raw.sig : List PSh := [.cur 106 [.ro 0, .sc, .sc]]
def spec_l9Raw.g (y : Int × Int × Int) : Ret κ := ⟨.v (.int .i64 y.1), [.cells 106 [.sl 1, .int .i64 y.2.1, .int .i64 y.2.2]], []⟩
def spec_l9Raw.out (r : Ret κ) : Option (Int × Int × Int) :=
  match r with
  | ⟨.v (.int .i64 z0), [.cells 106 [.sl 1, .int .i64 z1, .int .i64 z2]], []⟩ => some (z0, z1, z2)
  | _ => none
theorem spec_l9Raw.out_ok (r : Ret κ) (y : Int × Int × Int) (h : spec_l9Raw.out r = some y) : r = spec_l9Raw.g y := by
  unfold spec_l9Raw.out at h
  split at h
  · obtain rfl := Option.some.inj h
    rfl
  · cases h
def spec_l9Raw.body (k : Nat) (vs : List AV) (bs : List (Blk κ)) : Option (Lf κ) :=
  match vs, bs with
  | [.v (.ptr 0 0 0)], [.cells 106 [.sl 1, .int .i64 a0_1, .int .i64 a0_2], qb1] => (asO 0 false qb1).bind fun a0_0 => some ⟨Int × Int × Int, spec_l9Raw.f k a0_0 a0_1 a0_2, spec_l9Raw.g⟩
  | _, _ => none
def spec_l9Raw.C (k : Nat) : Nat → List AV → AP κ AV := contract spec_l9Raw.sig (spec_l9Raw.body k)
theorem spec_l9Raw.den (k : Nat) (a0_0 : List Int) (a0_1 : Int) (a0_2 : Int) : Code.den ti (spec_l9Raw.Γ k) (spec_l9Raw.LH k) (bodyOf Try.f53) (finK ti Try.f53.results.toList [] (flags spec_l9Raw.sig).length (rwI (flags spec_l9Raw.sig) 0) spec_l9Raw.out) ⟨envOf (([.v (.ptr 0 0 0)]).zipIdx.map fun q => (q.2, q.1)), hpOf [.cells 106 [.sl 1, .int .i64 a0_1, .int .i64 a0_2], .rows 0 false a0_0], (flags spec_l9Raw.sig).length⟩ = spec_l9Raw.f k a0_0 a0_1 a0_2 := by kernel_rfl
theorem spec_l9Raw.ok (k : Nat) : CSound Try.prog 53 (spec_l9Raw.C k) :=
  csound κ_ok mixed tok (spec_l9Raw.hΓ k) (LH := spec_l9Raw.LH k) (fn := Try.f53) (c := bodyOf Try.f53) Try.func53 rfl Try.call53 spec_l9Raw.sig [] (spec_l9Raw.body k) (by kernel_rfl) (spec_l9Raw.lok k) (by decide) fun vs bs lf y hl hb hy => by
    unfold spec_l9Raw.body at hb
    split at hb
    · obtain ⟨_, rfl, hb_1⟩ := asO_bind hb
      obtain rfl := Option.some.inj hb_1
      exact ⟨spec_l9Raw.out, spec_l9Raw.out_ok, (spec_l9Raw.den k _ _ _).trans hy⟩
    · cases hb
/-! ### spec_l24Any -/
def spec_l24Any.f (k : Nat) (a0_0 : List Int) (a0_1 : Int) (a0_2 : Int) : Option (Int × Int × List T_impl_Stored) :=
  (spec_l24Draw.f k a0_0 a0_1 a0_2).bind fun t1 => (bif ((t1.2.2.length : Int) == (0 : Int)) then some (t1.1, t1.2.1, t1.2.2) else (spec_l1Below.f k a0_0 t1.1 t1.2.1 (t1.2.2.length : Int)).bind fun t2 => (spec_l1Below.f k a0_0 t2.2.1 t2.2.2 (9 : Int)).bind fun t3 => (bif (t3.1 == (0 : Int)) then (spec_l9Raw.f k a0_0 t3.2.1 t3.2.2).bind fun t4 => (bif decide (0 ≤ t2.1) then (bif decide (t2.1 < (t1.2.2.length : Int)) then (let l5 : List T_impl_Stored := (t1.2.2.set (t2.1).toNat (⟨t4.1, (rd_impl_Stored t1.2.2 t2.1).f1, (rd_impl_Stored t1.2.2 t2.1).f2, (rd_impl_Stored t1.2.2 t2.1).f3⟩ : T_impl_Stored)); some (t4.2.1, t4.2.2, l5)) else none) else none) else (bif (t3.1 == (1 : Int)) then (spec_l1Int.f k a0_0 t3.2.1 t3.2.2 ([(0 : Int), (999 : Int), (1000 : Int)] : List Int)).bind fun t6 => (bif decide (0 ≤ t2.1) then (bif decide (t2.1 < (t1.2.2.length : Int)) then (let l7 : List T_impl_Stored := (t1.2.2.set (t2.1).toNat (⟨(rd_impl_Stored t1.2.2 t2.1).f0, (rd_impl_Stored t1.2.2 t2.1).f1, (rd_impl_Stored t1.2.2 t2.1).f2, t6.1⟩ : T_impl_Stored)); some (t6.2.1, t6.2.2, l7)) else none) else none) else (bif (t3.1 == (2 : Int)) then (spec_l1Int.f k a0_0 t3.2.1 t3.2.2 ([(-1 : Int), (999 : Int), (1000 : Int)] : List Int)).bind fun t8 => (bif decide (0 ≤ t2.1) then (bif decide (t2.1 < (t1.2.2.length : Int)) then (let l9 : List T_impl_Stored := (t1.2.2.set (t2.1).toNat (⟨(rd_impl_Stored t1.2.2 t2.1).f0, (rd_impl_Stored t1.2.2 t2.1).f1, t8.1, (rd_impl_Stored t1.2.2 t2.1).f3⟩ : T_impl_Stored)); some (t8.2.1, t8.2.2, l9)) else none) else none) else (bif (t3.1 == (3 : Int)) then (bif decide (0 ≤ (0 : Int)) then (bif decide ((0 : Int) < (t1.2.2.length : Int)) then (bif decide ((t1.2.2.length + ([(⟨(rd_impl_Stored t1.2.2 (0 : Int)).f0, (rd_impl_Stored t1.2.2 (0 : Int)).f1, (rd_impl_Stored t1.2.2 (0 : Int)).f2, (rd_impl_Stored t1.2.2 (0 : Int)).f3⟩ : T_impl_Stored)] : List T_impl_Stored).length) * 32 ≤ cap48) then (let l10 : List T_impl_Stored := (t1.2.2 ++ ([(⟨(rd_impl_Stored t1.2.2 (0 : Int)).f0, (rd_impl_Stored t1.2.2 (0 : Int)).f1, (rd_impl_Stored t1.2.2 (0 : Int)).f2, (rd_impl_Stored t1.2.2 (0 : Int)).f3⟩ : T_impl_Stored)] : List T_impl_Stored)); some (t3.2.1, t3.2.2, l10)) else none) else none) else none) else some (t3.2.1, t3.2.2, t1.2.2))))))
def spec_l24Any.Γ (k : Nat) : Ct κ := assoc [(63, spec_l24Draw.C k), (62, spec_l1Below.C k), (53, spec_l9Raw.C k), (38, spec_l1Int.C k)]
def spec_l24Any.LH (k : Nat) : Nat → Option (LHi κ) := assoc []
theorem spec_l24Any.hΓ (k : Nat) : ∀ f g, spec_l24Any.Γ k f = some g → CSound Try.prog f g := G_cons (spec_l24Draw.ok k) (G_cons (spec_l1Below.ok k) (G_cons (spec_l9Raw.ok k) (G_cons (spec_l1Int.ok k) G_nil)))
theorem spec_l24Any.lok (k : Nat) : LOK ti (spec_l24Any.Γ k) (spec_l24Any.LH k) 2 (loopsOf (bodyOf Try.f41)) :=
  (show loopsOf (bodyOf Try.f41) = [] by kernel_rfl) ▸ LOK_nil
def spec_l24Any.sig : List PSh := [.cur 106 [.ro 0, .sc, .sc]]
def spec_l24Any.g (y : Int × Int × List T_impl_Stored) : Ret κ := ⟨.v (.sl 2), [.cells 106 [.sl 1, .int .i64 y.1, .int .i64 y.2.1]], [.rows 1 true y.2.2]⟩
def spec_l24Any.out (r : Ret κ) : Option (Int × Int × List T_impl_Stored) :=
  match r with
  | ⟨.v (.sl 2), [.cells 106 [.sl 1, .int .i64 z0, .int .i64 z1]], [q2]⟩ => (asO 1 true q2).bind fun z2 => some (z0, z1, z2)
  | _ => none
theorem spec_l24Any.out_ok (r : Ret κ) (y : Int × Int × List T_impl_Stored) (h : spec_l24Any.out r = some y) : r = spec_l24Any.g y := by
  unfold spec_l24Any.out at h
  split at h
  · obtain ⟨_, rfl, h_1⟩ := asO_bind h
    obtain rfl := Option.some.inj h_1
    rfl
  · cases h
def spec_l24Any.body (k : Nat) (vs : List AV) (bs : List (Blk κ)) : Option (Lf κ) :=
  match vs, bs with
  | [.v (.ptr 0 0 0)], [.cells 106 [.sl 1, .int .i64 a0_1, .int .i64 a0_2], qb1] => (asO 0 false qb1).bind fun a0_0 => some ⟨Int × Int × List T_impl_Stored, spec_l24Any.f k a0_0 a0_1 a0_2, spec_l24Any.g⟩
  | _, _ => none
def spec_l24Any.C (k : Nat) : Nat → List AV → AP κ AV := contract spec_l24Any.sig (spec_l24Any.body k)
theorem spec_l24Any.den (k : Nat) (a0_0 : List Int) (a0_1 : Int) (a0_2 : Int) : Code.den ti (spec_l24Any.Γ k) (spec_l24Any.LH k) (bodyOf Try.f41) (finK ti Try.f41.results.toList [(2, [some 1])] (flags spec_l24Any.sig).length (rwI (flags spec_l24Any.sig) 0) spec_l24Any.out) ⟨envOf (([.v (.ptr 0 0 0)]).zipIdx.map fun q => (q.2, q.1)), hpOf [.cells 106 [.sl 1, .int .i64 a0_1, .int .i64 a0_2], .rows 0 false a0_0], (flags spec_l24Any.sig).length⟩ = spec_l24Any.f k a0_0 a0_1 a0_2 := by kernel_rfl
theorem spec_l24Any.ok (k : Nat) : CSound Try.prog 41 (spec_l24Any.C k) :=
  csound κ_ok mixed tok (spec_l24Any.hΓ k) (LH := spec_l24Any.LH k) (fn := Try.f41) (c := bodyOf Try.f41) Try.func41 rfl Try.call41 spec_l24Any.sig [(2, [some 1])] (spec_l24Any.body k) (by kernel_rfl) (spec_l24Any.lok k) (by decide) fun vs bs lf y hl hb hy => by
    unfold spec_l24Any.body at hb
    split at hb
    · obtain ⟨_, rfl, hb_1⟩ := asO_bind hb
      obtain rfl := Option.some.inj hb_1
      exact ⟨spec_l24Any.out, spec_l24Any.out_ok, (spec_l24Any.den k _ _ _).trans hy⟩
    · cases hb
/-! ### spec_DrawOpenWindow -/
def spec_DrawOpenWindow.f (k : Nat) (a0 : List Int) : Option (Bool × List T_impl_Stored) :=
  (spec_l1New.f k a0).bind fun t1 => (spec_l24Any.f k a0 t1.1 t1.2).bind fun t2 => (spec_l1Once.f k a0 t2.1 t2.2.1 (2 : Int)).bind fun t3 => some (t3.1, t2.2.2)
def spec_DrawOpenWindow.Γ (k : Nat) : Ct κ := assoc [(37, spec_l1New.C k), (41, spec_l24Any.C k), (42, spec_l1Once.C k)]
def spec_DrawOpenWindow.LH (k : Nat) : Nat → Option (LHi κ) := assoc []
theorem spec_DrawOpenWindow.hΓ (k : Nat) : ∀ f g, spec_DrawOpenWindow.Γ k f = some g → CSound Try.prog f g := G_cons (spec_l1New.ok k) (G_cons (spec_l24Any.ok k) (G_cons (spec_l1Once.ok k) G_nil))
theorem spec_DrawOpenWindow.lok (k : Nat) : LOK ti (spec_DrawOpenWindow.Γ k) (spec_DrawOpenWindow.LH k) 1 (loopsOf (bodyOf Try.f13)) :=
  (show loopsOf (bodyOf Try.f13) = [] by kernel_rfl) ▸ LOK_nil
def spec_DrawOpenWindow.sig : List PSh := [.one (.ro 0)]
def spec_DrawOpenWindow.g (y : Bool × List T_impl_Stored) : Ret κ := ⟨.tup [(false, [.sl 1]), (false, [.bool y.1])], [], [.rows 1 true y.2]⟩
def spec_DrawOpenWindow.out (r : Ret κ) : Option (Bool × List T_impl_Stored) :=
  match r with
  | ⟨.tup [(false, [.sl 1]), (false, [.bool z0])], [], [q1]⟩ => (asO 1 true q1).bind fun z1 => some (z0, z1)
  | _ => none
theorem spec_DrawOpenWindow.out_ok (r : Ret κ) (y : Bool × List T_impl_Stored) (h : spec_DrawOpenWindow.out r = some y) : r = spec_DrawOpenWindow.g y := by
  unfold spec_DrawOpenWindow.out at h
  split at h
  · obtain ⟨_, rfl, h_1⟩ := asO_bind h
    obtain rfl := Option.some.inj h_1
    rfl
  · cases h
def spec_DrawOpenWindow.body (k : Nat) (vs : List AV) (bs : List (Blk κ)) : Option (Lf κ) :=
  match vs, bs with
  | [.v (.sl 0)], [qb0] => (asO 0 false qb0).bind fun a0 => some ⟨Bool × List T_impl_Stored, spec_DrawOpenWindow.f k a0, spec_DrawOpenWindow.g⟩
  | _, _ => none
def spec_DrawOpenWindow.C (k : Nat) : Nat → List AV → AP κ AV := contract spec_DrawOpenWindow.sig (spec_DrawOpenWindow.body k)
theorem spec_DrawOpenWindow.den (k : Nat) (a0 : List Int) : Code.den ti (spec_DrawOpenWindow.Γ k) (spec_DrawOpenWindow.LH k) (bodyOf Try.f13) (finK ti Try.f13.results.toList [(2, [some 1])] (flags spec_DrawOpenWindow.sig).length (rwI (flags spec_DrawOpenWindow.sig) 0) spec_DrawOpenWindow.out) ⟨envOf (([.v (.sl 0)]).zipIdx.map fun q => (q.2, q.1)), hpOf [.rows 0 false a0], (flags spec_DrawOpenWindow.sig).length⟩ = spec_DrawOpenWindow.f k a0 := by kernel_rfl
theorem spec_DrawOpenWindow.ok (k : Nat) : CSound Try.prog 13 (spec_DrawOpenWindow.C k) :=
  csound κ_ok mixed tok (spec_DrawOpenWindow.hΓ k) (LH := spec_DrawOpenWindow.LH k) (fn := Try.f13) (c := bodyOf Try.f13) Try.func13 rfl Try.call13 spec_DrawOpenWindow.sig [(2, [some 1])] (spec_DrawOpenWindow.body k) (by kernel_rfl) (spec_DrawOpenWindow.lok k) (by decide) fun vs bs lf y hl hb hy => by
    unfold spec_DrawOpenWindow.body at hb
    split at hb
    · obtain ⟨_, rfl, hb_1⟩ := asO_bind hb
      obtain rfl := Option.some.inj hb_1
      exact ⟨spec_DrawOpenWindow.out, spec_DrawOpenWindow.out_ok, (spec_DrawOpenWindow.den k _).trans hy⟩
    · cases hb
/-! ### impl_OpenWindow -/
def impl_OpenWindow.f (k : Nat) (a0 : List T_impl_Stored) (a1 : Bool) : Option (Bool × List T_impl_Stored × List T_impl_Stored) :=
  (impl_IsStore.f k a0).bind fun t1 => (bif !t1 then some (false, ([] : List T_impl_Stored), ([] : List T_impl_Stored)) else (slices_Clone_Stored.f k a0).bind fun t2 => some (a1, t2, ([] : List T_impl_Stored)))
def impl_OpenWindow.Γ (k : Nat) : Ct κ := assoc [(15, impl_IsStore.C k), (39, slices_Clone_Stored.C k)]
def impl_OpenWindow.LH (k : Nat) : Nat → Option (LHi κ) := assoc []
theorem impl_OpenWindow.hΓ (k : Nat) : ∀ f g, impl_OpenWindow.Γ k f = some g → CSound Try.prog f g := G_cons (impl_IsStore.ok k) (G_cons (slices_Clone_Stored.ok k) G_nil)
theorem impl_OpenWindow.lok (k : Nat) : LOK ti (impl_OpenWindow.Γ k) (impl_OpenWindow.LH k) 1 (loopsOf (bodyOf Try.f14)) :=
  (show loopsOf (bodyOf Try.f14) = [] by kernel_rfl) ▸ LOK_nil
def impl_OpenWindow.sig : List PSh := [.one (.ro 1), .one .sc]
def impl_OpenWindow.g (y : Bool × List T_impl_Stored × List T_impl_Stored) : Ret κ := ⟨.agg [.bool y.1, .sl 1, .sl 2], [], [.rows 1 true y.2.1, .rows 1 true y.2.2]⟩
def impl_OpenWindow.out (r : Ret κ) : Option (Bool × List T_impl_Stored × List T_impl_Stored) :=
  match r with
  | ⟨.agg [.bool z0, .sl 1, .sl 2], [], [q1, q2]⟩ => (asO 1 true q1).bind fun z1 => (asO 1 true q2).bind fun z2 => some (z0, z1, z2)
  | _ => none
theorem impl_OpenWindow.out_ok (r : Ret κ) (y : Bool × List T_impl_Stored × List T_impl_Stored) (h : impl_OpenWindow.out r = some y) : r = impl_OpenWindow.g y := by
  unfold impl_OpenWindow.out at h
  split at h
  · obtain ⟨_, rfl, h_1⟩ := asO_bind h
    obtain ⟨_, rfl, h_2⟩ := asO_bind h_1
    obtain rfl := Option.some.inj h_2
    rfl
  · cases h
def impl_OpenWindow.body (k : Nat) (vs : List AV) (bs : List (Blk κ)) : Option (Lf κ) :=
  match vs, bs with
  | [.v (.sl 0), .v (.bool a1)], [qb0] => (asO 1 false qb0).bind fun a0 => some ⟨Bool × List T_impl_Stored × List T_impl_Stored, impl_OpenWindow.f k a0 a1, impl_OpenWindow.g⟩
  | _, _ => none
def impl_OpenWindow.C (k : Nat) : Nat → List AV → AP κ AV := contract impl_OpenWindow.sig (impl_OpenWindow.body k)
theorem impl_OpenWindow.den (k : Nat) (a0 : List T_impl_Stored) (a1 : Bool) : Code.den ti (impl_OpenWindow.Γ k) (impl_OpenWindow.LH k) (bodyOf Try.f14) (finK ti Try.f14.results.toList [(4, [none, some 1, some 1])] (flags impl_OpenWindow.sig).length (rwI (flags impl_OpenWindow.sig) 0) impl_OpenWindow.out) ⟨envOf (([.v (.sl 0), .v (.bool a1)]).zipIdx.map fun q => (q.2, q.1)), hpOf [.rows 1 false a0], (flags impl_OpenWindow.sig).length⟩ = impl_OpenWindow.f k a0 a1 := by kernel_rfl
theorem impl_OpenWindow.ok (k : Nat) : CSound Try.prog 14 (impl_OpenWindow.C k) :=
  csound κ_ok mixed tok (impl_OpenWindow.hΓ k) (LH := impl_OpenWindow.LH k) (fn := Try.f14) (c := bodyOf Try.f14) Try.func14 rfl Try.call14 impl_OpenWindow.sig [(4, [none, some 1, some 1])] (impl_OpenWindow.body k) (by kernel_rfl) (impl_OpenWindow.lok k) (by decide) fun vs bs lf y hl hb hy => by
    unfold impl_OpenWindow.body at hb
    split at hb
    · obtain ⟨_, rfl, hb_1⟩ := asO_bind hb
      obtain rfl := Option.some.inj hb_1
      exact ⟨impl_OpenWindow.out, impl_OpenWindow.out_ok, (impl_OpenWindow.den k _ _).trans hy⟩
    · cases hb
/-! ### laws_FnPrivate -/
def laws_FnPrivate.f (k : Nat) (a0 : List Int) : Option Bool :=
  (laws_big.f k a0).bind fun t1 => (bif t1 then some true else (spec_DrawWriteWindow.f k a0).bind fun t2 => (impl_WriteWindow.f k t2.1 t2.2.2.2.2.1 t2.2.2.2.2.2 t2.2.1 t2.2.2.1 t2.2.2.2.1).bind fun t3 => (bif t3.2.1 then (impl_ReadWindow.f k t3.1 t3.2.2.1 t3.2.2.2 t2.2.1 t2.2.2.1).bind fun t4 => (bif t2.1 then (bif !t4.2 then some false else (bif (t4.1 != t2.2.2.2.1) then some false else (bif !t2.1 then (bif ((t2.2.2.2.2.2.length : Int) == (0 : Int)) then (bif !t4.2 then some false else (bif (t4.1 != t2.2.2.2.1) then some false else (bif t2.1 then (impl_CloseWindow.f k t3.1 t3.2.2.1 t3.2.2.2).bind fun t5 => (impl_CloseWindow.f k t2.1 t2.2.2.2.2.1 t2.2.2.2.2.2).bind fun t6 => (impl_EqualStores.f k t5 t6).bind fun t7 => (bif !t7 then some false else (spec_DrawOpenWindow.f k a0).bind fun t8 => (impl_OpenWindow.f k t8.2 t8.1).bind fun t9 => (impl_IsStore.f k t8.2).bind fun t10 => (bif !t10 then some true else (impl_CloseWindow.f k t9.1 t9.2.1 t9.2.2).bind fun t11 => (impl_EqualStores.f k t11 t8.2).bind fun t12 => (bif t12 then some ((t9.2.2.length : Int) == (0 : Int)) else some false))) else (spec_DrawOpenWindow.f k a0).bind fun t13 => (impl_OpenWindow.f k t13.2 t13.1).bind fun t14 => (impl_IsStore.f k t13.2).bind fun t15 => (bif !t15 then some true else (impl_CloseWindow.f k t14.1 t14.2.1 t14.2.2).bind fun t16 => (impl_EqualStores.f k t16 t13.2).bind fun t17 => (bif t17 then some ((t14.2.2.length : Int) == (0 : Int)) else some false))))) else (bif t2.1 then (impl_CloseWindow.f k t3.1 t3.2.2.1 t3.2.2.2).bind fun t18 => (impl_CloseWindow.f k t2.1 t2.2.2.2.2.1 t2.2.2.2.2.2).bind fun t19 => (impl_EqualStores.f k t18 t19).bind fun t20 => (bif !t20 then some false else (spec_DrawOpenWindow.f k a0).bind fun t21 => (impl_OpenWindow.f k t21.2 t21.1).bind fun t22 => (impl_IsStore.f k t21.2).bind fun t23 => (bif !t23 then some true else (impl_CloseWindow.f k t22.1 t22.2.1 t22.2.2).bind fun t24 => (impl_EqualStores.f k t24 t21.2).bind fun t25 => (bif t25 then some ((t22.2.2.length : Int) == (0 : Int)) else some false))) else (spec_DrawOpenWindow.f k a0).bind fun t26 => (impl_OpenWindow.f k t26.2 t26.1).bind fun t27 => (impl_IsStore.f k t26.2).bind fun t28 => (bif !t28 then some true else (impl_CloseWindow.f k t27.1 t27.2.1 t27.2.2).bind fun t29 => (impl_EqualStores.f k t29 t26.2).bind fun t30 => (bif t30 then some ((t27.2.2.length : Int) == (0 : Int)) else some false)))) else (bif t2.1 then (impl_CloseWindow.f k t3.1 t3.2.2.1 t3.2.2.2).bind fun t31 => (impl_CloseWindow.f k t2.1 t2.2.2.2.2.1 t2.2.2.2.2.2).bind fun t32 => (impl_EqualStores.f k t31 t32).bind fun t33 => (bif !t33 then some false else (spec_DrawOpenWindow.f k a0).bind fun t34 => (impl_OpenWindow.f k t34.2 t34.1).bind fun t35 => (impl_IsStore.f k t34.2).bind fun t36 => (bif !t36 then some true else (impl_CloseWindow.f k t35.1 t35.2.1 t35.2.2).bind fun t37 => (impl_EqualStores.f k t37 t34.2).bind fun t38 => (bif t38 then some ((t35.2.2.length : Int) == (0 : Int)) else some false))) else (spec_DrawOpenWindow.f k a0).bind fun t39 => (impl_OpenWindow.f k t39.2 t39.1).bind fun t40 => (impl_IsStore.f k t39.2).bind fun t41 => (bif !t41 then some true else (impl_CloseWindow.f k t40.1 t40.2.1 t40.2.2).bind fun t42 => (impl_EqualStores.f k t42 t39.2).bind fun t43 => (bif t43 then some ((t40.2.2.length : Int) == (0 : Int)) else some false)))))) else (bif !t2.1 then (bif ((t2.2.2.2.2.2.length : Int) == (0 : Int)) then (bif !t4.2 then some false else (bif (t4.1 != t2.2.2.2.1) then some false else (bif t2.1 then (impl_CloseWindow.f k t3.1 t3.2.2.1 t3.2.2.2).bind fun t44 => (impl_CloseWindow.f k t2.1 t2.2.2.2.2.1 t2.2.2.2.2.2).bind fun t45 => (impl_EqualStores.f k t44 t45).bind fun t46 => (bif !t46 then some false else (spec_DrawOpenWindow.f k a0).bind fun t47 => (impl_OpenWindow.f k t47.2 t47.1).bind fun t48 => (impl_IsStore.f k t47.2).bind fun t49 => (bif !t49 then some true else (impl_CloseWindow.f k t48.1 t48.2.1 t48.2.2).bind fun t50 => (impl_EqualStores.f k t50 t47.2).bind fun t51 => (bif t51 then some ((t48.2.2.length : Int) == (0 : Int)) else some false))) else (spec_DrawOpenWindow.f k a0).bind fun t52 => (impl_OpenWindow.f k t52.2 t52.1).bind fun t53 => (impl_IsStore.f k t52.2).bind fun t54 => (bif !t54 then some true else (impl_CloseWindow.f k t53.1 t53.2.1 t53.2.2).bind fun t55 => (impl_EqualStores.f k t55 t52.2).bind fun t56 => (bif t56 then some ((t53.2.2.length : Int) == (0 : Int)) else some false))))) else (bif t2.1 then (impl_CloseWindow.f k t3.1 t3.2.2.1 t3.2.2.2).bind fun t57 => (impl_CloseWindow.f k t2.1 t2.2.2.2.2.1 t2.2.2.2.2.2).bind fun t58 => (impl_EqualStores.f k t57 t58).bind fun t59 => (bif !t59 then some false else (spec_DrawOpenWindow.f k a0).bind fun t60 => (impl_OpenWindow.f k t60.2 t60.1).bind fun t61 => (impl_IsStore.f k t60.2).bind fun t62 => (bif !t62 then some true else (impl_CloseWindow.f k t61.1 t61.2.1 t61.2.2).bind fun t63 => (impl_EqualStores.f k t63 t60.2).bind fun t64 => (bif t64 then some ((t61.2.2.length : Int) == (0 : Int)) else some false))) else (spec_DrawOpenWindow.f k a0).bind fun t65 => (impl_OpenWindow.f k t65.2 t65.1).bind fun t66 => (impl_IsStore.f k t65.2).bind fun t67 => (bif !t67 then some true else (impl_CloseWindow.f k t66.1 t66.2.1 t66.2.2).bind fun t68 => (impl_EqualStores.f k t68 t65.2).bind fun t69 => (bif t69 then some ((t66.2.2.length : Int) == (0 : Int)) else some false)))) else (bif t2.1 then (impl_CloseWindow.f k t3.1 t3.2.2.1 t3.2.2.2).bind fun t70 => (impl_CloseWindow.f k t2.1 t2.2.2.2.2.1 t2.2.2.2.2.2).bind fun t71 => (impl_EqualStores.f k t70 t71).bind fun t72 => (bif !t72 then some false else (spec_DrawOpenWindow.f k a0).bind fun t73 => (impl_OpenWindow.f k t73.2 t73.1).bind fun t74 => (impl_IsStore.f k t73.2).bind fun t75 => (bif !t75 then some true else (impl_CloseWindow.f k t74.1 t74.2.1 t74.2.2).bind fun t76 => (impl_EqualStores.f k t76 t73.2).bind fun t77 => (bif t77 then some ((t74.2.2.length : Int) == (0 : Int)) else some false))) else (spec_DrawOpenWindow.f k a0).bind fun t78 => (impl_OpenWindow.f k t78.2 t78.1).bind fun t79 => (impl_IsStore.f k t78.2).bind fun t80 => (bif !t80 then some true else (impl_CloseWindow.f k t79.1 t79.2.1 t79.2.2).bind fun t81 => (impl_EqualStores.f k t81 t78.2).bind fun t82 => (bif t82 then some ((t79.2.2.length : Int) == (0 : Int)) else some false))))) else (bif t2.1 then (impl_CloseWindow.f k t3.1 t3.2.2.1 t3.2.2.2).bind fun t83 => (impl_CloseWindow.f k t2.1 t2.2.2.2.2.1 t2.2.2.2.2.2).bind fun t84 => (impl_EqualStores.f k t83 t84).bind fun t85 => (bif !t85 then some false else (spec_DrawOpenWindow.f k a0).bind fun t86 => (impl_OpenWindow.f k t86.2 t86.1).bind fun t87 => (impl_IsStore.f k t86.2).bind fun t88 => (bif !t88 then some true else (impl_CloseWindow.f k t87.1 t87.2.1 t87.2.2).bind fun t89 => (impl_EqualStores.f k t89 t86.2).bind fun t90 => (bif t90 then some ((t87.2.2.length : Int) == (0 : Int)) else some false))) else (spec_DrawOpenWindow.f k a0).bind fun t91 => (impl_OpenWindow.f k t91.2 t91.1).bind fun t92 => (impl_IsStore.f k t91.2).bind fun t93 => (bif !t93 then some true else (impl_CloseWindow.f k t92.1 t92.2.1 t92.2.2).bind fun t94 => (impl_EqualStores.f k t94 t91.2).bind fun t95 => (bif t95 then some ((t92.2.2.length : Int) == (0 : Int)) else some false)))))
def laws_FnPrivate.Γ (k : Nat) : Ct κ := assoc [(7, laws_big.C k), (8, spec_DrawWriteWindow.C k), (9, impl_WriteWindow.C k), (10, impl_ReadWindow.C k), (12, impl_CloseWindow.C k), (11, impl_EqualStores.C k), (13, spec_DrawOpenWindow.C k), (14, impl_OpenWindow.C k), (15, impl_IsStore.C k)]
def laws_FnPrivate.LH (k : Nat) : Nat → Option (LHi κ) := assoc []
theorem laws_FnPrivate.hΓ (k : Nat) : ∀ f g, laws_FnPrivate.Γ k f = some g → CSound Try.prog f g := G_cons (laws_big.ok k) (G_cons (spec_DrawWriteWindow.ok k) (G_cons (impl_WriteWindow.ok k) (G_cons (impl_ReadWindow.ok k) (G_cons (impl_CloseWindow.ok k) (G_cons (impl_EqualStores.ok k) (G_cons (spec_DrawOpenWindow.ok k) (G_cons (impl_OpenWindow.ok k) (G_cons (impl_IsStore.ok k) G_nil))))))))
theorem laws_FnPrivate.lok (k : Nat) : LOK ti (laws_FnPrivate.Γ k) (laws_FnPrivate.LH k) 1 (loopsOf (bodyOf Try.f3)) :=
  (show loopsOf (bodyOf Try.f3) = [] by kernel_rfl) ▸ LOK_nil
def laws_FnPrivate.sig : List PSh := [.one (.ro 0)]
def laws_FnPrivate.g (y : Bool) : Ret κ := ⟨.v (.bool y), [], []⟩
def laws_FnPrivate.out (r : Ret κ) : Option Bool :=
  match r with
  | ⟨.v (.bool z0), [], []⟩ => some (z0)
  | _ => none
theorem laws_FnPrivate.out_ok (r : Ret κ) (y : Bool) (h : laws_FnPrivate.out r = some y) : r = laws_FnPrivate.g y := by
  unfold laws_FnPrivate.out at h
  split at h
  · obtain rfl := Option.some.inj h
    rfl
  · cases h
def laws_FnPrivate.body (k : Nat) (vs : List AV) (bs : List (Blk κ)) : Option (Lf κ) :=
  match vs, bs with
  | [.v (.sl 0)], [qb0] => (asO 0 false qb0).bind fun a0 => some ⟨Bool, laws_FnPrivate.f k a0, laws_FnPrivate.g⟩
  | _, _ => none
def laws_FnPrivate.C (k : Nat) : Nat → List AV → AP κ AV := contract laws_FnPrivate.sig (laws_FnPrivate.body k)
theorem laws_FnPrivate.den (k : Nat) (a0 : List Int) : Code.den ti (laws_FnPrivate.Γ k) (laws_FnPrivate.LH k) (bodyOf Try.f3) (finK ti Try.f3.results.toList [] (flags laws_FnPrivate.sig).length (rwI (flags laws_FnPrivate.sig) 0) laws_FnPrivate.out) ⟨envOf (([.v (.sl 0)]).zipIdx.map fun q => (q.2, q.1)), hpOf [.rows 0 false a0], (flags laws_FnPrivate.sig).length⟩ = laws_FnPrivate.f k a0 := by kernel_rfl
theorem laws_FnPrivate.ok (k : Nat) : CSound Try.prog 3 (laws_FnPrivate.C k) :=
  csound κ_ok mixed tok (laws_FnPrivate.hΓ k) (LH := laws_FnPrivate.LH k) (fn := Try.f3) (c := bodyOf Try.f3) Try.func3 rfl Try.call3 laws_FnPrivate.sig [] (laws_FnPrivate.body k) (by kernel_rfl) (laws_FnPrivate.lok k) (by decide) fun vs bs lf y hl hb hy => by
    unfold laws_FnPrivate.body at hb
    split at hb
    · obtain ⟨_, rfl, hb_1⟩ := asO_bind hb
      obtain rfl := Option.some.inj hb_1
      exact ⟨laws_FnPrivate.out, laws_FnPrivate.out_ok, (laws_FnPrivate.den k _).trans hy⟩
    · cases hb
end Go.Proofs.Ytmjflahlhgibnaa.PFnPrivate
