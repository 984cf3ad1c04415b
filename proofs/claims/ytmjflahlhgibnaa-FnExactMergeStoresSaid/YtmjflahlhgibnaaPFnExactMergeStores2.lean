/- What the functions that the law FnExactMergeStores reaches come to; no conditions. -/
import Derived.Test.YtmjflahlhgibnaaPFnExactMergeStores1
set_option linter.unusedVariables false
set_option maxRecDepth 100000
namespace Go.Proofs.Ytmjflahlhgibnaa.PFnExactMergeStores
open Go Go.Eng Go.Proofs
/-! ### impl_compareStored -/
def impl_compareStored.f (k : Nat) (a0_0 : Int) (a0_1 : Int) (a0_2 : Int) (a0_3 : Int) (a1_0 : Int) (a1_1 : Int) (a1_2 : Int) (a1_3 : Int) : Option Int :=
  (cmp_Compare_int.f k a0_0 a1_0).bind fun t1 => (cmp_Compare_int.f k a0_1 a1_1).bind fun t2 => (cmp_Or_int.f k ([t1, t2] : List Int)).bind fun t3 => some t3
def impl_compareStored.Γ (k : Nat) : Ct κ := assoc [(65, cmp_Compare_int.C k), (64, cmp_Or_int.C k)]
def impl_compareStored.LH (k : Nat) : Nat → Option (LHi κ) := assoc []
theorem impl_compareStored.hΓ (k : Nat) : ∀ f g, impl_compareStored.Γ k f = some g → CSound Try.prog f g := G_cons (cmp_Compare_int.ok k) (G_cons (cmp_Or_int.ok k) G_nil)
theorem impl_compareStored.lok (k : Nat) : LOK ti (impl_compareStored.Γ k) (impl_compareStored.LH k) 0 (loopsOf (bodyOf Try.f44)) :=
  (show loopsOf (bodyOf Try.f44) = [] by kernel_rfl) ▸ LOK_nil
def impl_compareStored.sig : List PSh := [.agg [.sc, .sc, .sc, .sc], .agg [.sc, .sc, .sc, .sc]]
def impl_compareStored.g (y : Int) : Ret κ := ⟨.v (.int .i64 y), [], []⟩
def impl_compareStored.out (r : Ret κ) : Option Int :=
  match r with
  | ⟨.v (.int .i64 z0), [], []⟩ => some (z0)
  | _ => none
theorem impl_compareStored.out_ok (r : Ret κ) (y : Int) (h : impl_compareStored.out r = some y) : r = impl_compareStored.g y := by
  unfold impl_compareStored.out at h
  split at h
  · obtain rfl := Option.some.inj h
    rfl
  · cases h
def impl_compareStored.body (k : Nat) (vs : List AV) (bs : List (Blk κ)) : Option (Lf κ) :=
  match vs, bs with
  | [.agg [.int .i64 a0_0, .int .i64 a0_1, .int .i64 a0_2, .int .i64 a0_3], .agg [.int .i64 a1_0, .int .i64 a1_1, .int .i64 a1_2, .int .i64 a1_3]], [] => some ⟨Int, impl_compareStored.f k a0_0 a0_1 a0_2 a0_3 a1_0 a1_1 a1_2 a1_3, impl_compareStored.g⟩
  | _, _ => none
def impl_compareStored.C (k : Nat) : Nat → List AV → AP κ AV := contract impl_compareStored.sig (impl_compareStored.body k)
theorem impl_compareStored.den (k : Nat) (a0_0 : Int) (a0_1 : Int) (a0_2 : Int) (a0_3 : Int) (a1_0 : Int) (a1_1 : Int) (a1_2 : Int) (a1_3 : Int) : Code.den ti (impl_compareStored.Γ k) (impl_compareStored.LH k) (bodyOf Try.f44) (finK ti Try.f44.results.toList [] (flags impl_compareStored.sig).length (rwI (flags impl_compareStored.sig) 0) impl_compareStored.out) ⟨envOf (([.agg [.int .i64 a0_0, .int .i64 a0_1, .int .i64 a0_2, .int .i64 a0_3], .agg [.int .i64 a1_0, .int .i64 a1_1, .int .i64 a1_2, .int .i64 a1_3]]).zipIdx.map fun q => (q.2, q.1)), hpOf [], (flags impl_compareStored.sig).length⟩ = impl_compareStored.f k a0_0 a0_1 a0_2 a0_3 a1_0 a1_1 a1_2 a1_3 := by kernel_rfl
theorem impl_compareStored.ok (k : Nat) : CSound Try.prog 44 (impl_compareStored.C k) :=
  csound κ_ok mixed tok (impl_compareStored.hΓ k) (LH := impl_compareStored.LH k) (fn := Try.f44) (c := bodyOf Try.f44) Try.func44 rfl Try.call44 impl_compareStored.sig [] (impl_compareStored.body k) (by kernel_rfl) (impl_compareStored.lok k) (by decide) fun vs bs lf y hl hb hy => by
    unfold impl_compareStored.body at hb
    split at hb
    · obtain rfl := Option.some.inj hb
      exact ⟨impl_compareStored.out, impl_compareStored.out_ok, (impl_compareStored.den k _ _ _ _ _ _ _ _).trans hy⟩
    · cases hb
/-! ### impl_IsStore -/
def impl_IsStore.L4 {R : Type} (k : Nat) (x2 : Int) (xl0 : List T_impl_Stored) (X0 : Bool → Option R) (X1 : Unit → Option R) (rec : Int → Option R) (x3 : Int) : Option R :=
  (bif decide (x3 < x2) then (bif decide (0 ≤ x3) then (bif decide (x3 < (xl0.length : Int)) then (impl_InRange.f k ((rd_impl_Stored xl0 x3).f0) (1 : Int) (5 : Int)).bind fun t1 => (bif !t1 then (X0 false) else (impl_InRange.f k ((rd_impl_Stored xl0 x3).f1) (0 : Int) (9 : Int)).bind fun t2 => (bif !t2 then (X0 false) else (impl_InRange.f k ((rd_impl_Stored xl0 x3).f2) (0 : Int) (999 : Int)).bind fun t3 => (bif !t3 then (X0 false) else (impl_InRange.f k ((rd_impl_Stored xl0 x3).f3) (1 : Int) (999 : Int)).bind fun t4 => (bif !t4 then (X0 false) else (bif decide (x3 > (0 : Int)) then (bif decide (0 ≤ (w64 (x3 - (1 : Int)))) then (bif decide ((w64 (x3 - (1 : Int))) < (xl0.length : Int)) then (impl_compareStored.f k ((rd_impl_Stored xl0 (w64 (x3 - (1 : Int)))).f0) ((rd_impl_Stored xl0 (w64 (x3 - (1 : Int)))).f1) ((rd_impl_Stored xl0 (w64 (x3 - (1 : Int)))).f2) ((rd_impl_Stored xl0 (w64 (x3 - (1 : Int)))).f3) ((rd_impl_Stored xl0 x3).f0) ((rd_impl_Stored xl0 x3).f1) ((rd_impl_Stored xl0 x3).f2) ((rd_impl_Stored xl0 x3).f3)).bind fun t5 => (bif decide (t5 ≥ (0 : Int)) then (X0 false) else (rec (w64 (x3 + (1 : Int))))) else none) else none) else (rec (w64 (x3 + (1 : Int))))))))) else none) else none) else (X1 ()))
def impl_IsStore.l4 {R : Type} (k : Nat) (x2 : Int) (xl0 : List T_impl_Stored) (X0 : Bool → Option R) (X1 : Unit → Option R) : Nat → Int → Option R
  | 0 => fun _ => none
  | n + 1 => impl_IsStore.L4 k x2 xl0 X0 X1 (impl_IsStore.l4 k x2 xl0 X0 X1 n)
def impl_IsStore.f (k : Nat) (a0 : List T_impl_Stored) : Option Bool :=
  (bif decide ((a0.length : Int) > (24 : Int)) then some false else (impl_IsStore.l4 k (a0.length : Int) a0 (fun (y6 : Bool) => some y6) (fun (_ : Unit) => some true) k (0 : Int)))
def impl_IsStore.h4 (k : Nat) {R : Type} (K : Ex → St κ → Option R) (vs : List AV) (bs : List (Blk κ)) : Option R :=
  match vs, bs with
  | [.v (.sl 0), .v (.sl 0), .v (.int .i64 x2), .v (.int .i64 x3)], [qb0] => (asO 1 false qb0).bind fun xl0 => impl_IsStore.l4 k x2 xl0 (fun (z0 : Bool) => K .ret (stOf [(2, [])] [.v (.bool z0)] [.rows 1 false xl0])) (fun (_ : Unit) => K (.exit 0) (stOf [(2, [])] [.v .any] [.rows 1 false xl0])) k x3
  | _, _ => none
def impl_IsStore.Γ (k : Nat) : Ct κ := assoc [(43, impl_InRange.C k), (44, impl_compareStored.C k)]
def impl_IsStore.LH (k : Nat) : Nat → Option (LHi κ) := assoc [(4, ⟨1, [(0, [some 1]), (8, [some 1]), (9, []), (10, [])], [(2, [])], @impl_IsStore.h4 k⟩)]
theorem impl_IsStore.hΓ (k : Nat) : ∀ f g, impl_IsStore.Γ k f = some g → CSound Try.prog f g := G_cons (impl_InRange.ok k) (G_cons (impl_compareStored.ok k) G_nil)
theorem impl_IsStore.e4 {R : Type} (K : Ex → St κ → Option R) (k : Nat) (x2 : Int) (xl0 : List T_impl_Stored) : ∀ (n : Nat) (x3 : Int), loopN 1 (Code.den ti (impl_IsStore.Γ k) (impl_IsStore.LH k) (loopAt Try.f15 0)) [(0, [some 1]), (8, [some 1]), (9, []), (10, [])] [(2, [])] K n [.v (.sl 0), .v (.sl 0), .v (.int .i64 x2), .v (.int .i64 x3)] [.rows 1 false xl0] = impl_IsStore.l4 k x2 xl0 (fun (z0 : Bool) => K .ret (stOf [(2, [])] [.v (.bool z0)] [.rows 1 false xl0])) (fun (_ : Unit) => K (.exit 0) (stOf [(2, [])] [.v .any] [.rows 1 false xl0])) n x3
  | 0, _ => rfl
  | n + 1, x3 => (show loopN 1 (Code.den ti (impl_IsStore.Γ k) (impl_IsStore.LH k) (loopAt Try.f15 0)) [(0, [some 1]), (8, [some 1]), (9, []), (10, [])] [(2, [])] K (n + 1) [.v (.sl 0), .v (.sl 0), .v (.int .i64 x2), .v (.int .i64 x3)] [.rows 1 false xl0] = impl_IsStore.L4 k x2 xl0 (fun (z0 : Bool) => K .ret (stOf [(2, [])] [.v (.bool z0)] [.rows 1 false xl0])) (fun (_ : Unit) => K (.exit 0) (stOf [(2, [])] [.v .any] [.rows 1 false xl0])) (fun (x3' : Int) => loopN 1 (Code.den ti (impl_IsStore.Γ k) (impl_IsStore.LH k) (loopAt Try.f15 0)) [(0, [some 1]), (8, [some 1]), (9, []), (10, [])] [(2, [])] K n [.v (.sl 0), .v (.sl 0), .v (.int .i64 x2), .v (.int .i64 x3')] [.rows 1 false xl0]) x3 by kernel_rfl).trans (congrArg (fun rec => impl_IsStore.L4 k x2 xl0 (fun (z0 : Bool) => K .ret (stOf [(2, [])] [.v (.bool z0)] [.rows 1 false xl0])) (fun (_ : Unit) => K (.exit 0) (stOf [(2, [])] [.v .any] [.rows 1 false xl0])) rec x3) (funext fun x3' => impl_IsStore.e4 K k x2 xl0 n x3'))
theorem impl_IsStore.q4 (k : Nat) {R : Type} (K : Ex → St κ → Option R) (vs : List AV) (bs : List (Blk κ)) (r : R) (h : impl_IsStore.h4 k K vs bs = some r) : ∃ n, loopN 1 (Code.den ti (impl_IsStore.Γ k) (impl_IsStore.LH k) (loopAt Try.f15 0)) [(0, [some 1]), (8, [some 1]), (9, []), (10, [])] [(2, [])] K n vs bs = some r := by
  unfold impl_IsStore.h4 at h
  split at h
  · obtain ⟨_, rfl, h_1⟩ := asO_bind h
    exact ⟨k, (impl_IsStore.e4 K k _ _ k _).trans h_1⟩
  · cases h
theorem impl_IsStore.lok (k : Nat) : LOK ti (impl_IsStore.Γ k) (impl_IsStore.LH k) 1 (loopsOf (bodyOf Try.f15)) :=
  (show loopsOf (bodyOf Try.f15) = [loopAt Try.f15 0] by kernel_rfl) ▸ (LOK_cons (g := ⟨1, [(0, [some 1]), (8, [some 1]), (9, []), (10, [])], [(2, [])], @impl_IsStore.h4 k⟩) (by kernel_rfl) rfl (fun K vs xs r h => impl_IsStore.q4 k K vs xs r h) (LOK_nil))
def impl_IsStore.sig : List PSh := [.one (.ro 1)]
def impl_IsStore.g (y : Bool) : Ret κ := ⟨.v (.bool y), [], []⟩
def impl_IsStore.out (r : Ret κ) : Option Bool :=
  match r with
  | ⟨.v (.bool z0), [], []⟩ => some (z0)
  | _ => none
theorem impl_IsStore.out_ok (r : Ret κ) (y : Bool) (h : impl_IsStore.out r = some y) : r = impl_IsStore.g y := by
  unfold impl_IsStore.out at h
  split at h
  · obtain rfl := Option.some.inj h
    rfl
  · cases h
def impl_IsStore.body (k : Nat) (vs : List AV) (bs : List (Blk κ)) : Option (Lf κ) :=
  match vs, bs with
  | [.v (.sl 0)], [qb0] => (asO 1 false qb0).bind fun a0 => some ⟨Bool, impl_IsStore.f k a0, impl_IsStore.g⟩
  | _, _ => none
def impl_IsStore.C (k : Nat) : Nat → List AV → AP κ AV := contract impl_IsStore.sig (impl_IsStore.body k)
theorem impl_IsStore.den (k : Nat) (a0 : List T_impl_Stored) : Code.den ti (impl_IsStore.Γ k) (impl_IsStore.LH k) (bodyOf Try.f15) (finK ti Try.f15.results.toList [] (flags impl_IsStore.sig).length (rwI (flags impl_IsStore.sig) 0) impl_IsStore.out) ⟨envOf (([.v (.sl 0)]).zipIdx.map fun q => (q.2, q.1)), hpOf [.rows 1 false a0], (flags impl_IsStore.sig).length⟩ = impl_IsStore.f k a0 := by kernel_rfl
theorem impl_IsStore.ok (k : Nat) : CSound Try.prog 15 (impl_IsStore.C k) :=
  csound κ_ok mixed tok (impl_IsStore.hΓ k) (LH := impl_IsStore.LH k) (fn := Try.f15) (c := bodyOf Try.f15) Try.func15 rfl Try.call15 impl_IsStore.sig [] (impl_IsStore.body k) (by kernel_rfl) (impl_IsStore.lok k) (by decide) fun vs bs lf y hl hb hy => by
    unfold impl_IsStore.body at hb
    split at hb
    · obtain ⟨_, rfl, hb_1⟩ := asO_bind hb
      obtain rfl := Option.some.inj hb_1
      exact ⟨impl_IsStore.out, impl_IsStore.out_ok, (impl_IsStore.den k _).trans hy⟩
    · cases hb
/-! ### slices_Clone_Stored -/
def slices_Clone_Stored.f (k : Nat) (l : List T_impl_Stored) : Option (List T_impl_Stored) := cloneF 1 κ l
def slices_Clone_Stored.C (k : Nat) : Nat → List AV → AP κ AV := contract [.one (.ro 1)] (cloneB 1 κ)
theorem slices_Clone_Stored.ok (k : Nat) : CSound Try.prog 39 (slices_Clone_Stored.C k) :=
  clone_sound κ_ok mixed tok (fn := Try.f39) 1 Try.func39 rfl Try.call39 rfl rfl rfl rfl rfl rfl Try.underlying24 rfl (by kernel_rfl) (by kernel_rfl) (by kernel_rfl) rfl rfl rfl (fun l => by kernel_rfl) (fun q l => by cases q <;> kernel_rfl)
/-! ### impl_placeOf -/
def impl_placeOf.L2 {R : Type} (k : Nat) (x0 : Int) (x1 : Int) (x3 : Int) (xl0 : List T_impl_Stored) (X0 : Int → Option R) (X1 : Unit → Option R) (rec : Int → Option R) (x4 : Int) : Option R :=
  (bif decide (x4 < x3) then (bif decide (0 ≤ x4) then (bif decide (x4 < (xl0.length : Int)) then (bif ((rd_impl_Stored xl0 x4).f0 == x0) then (bif ((rd_impl_Stored xl0 x4).f1 == x1) then (X0 x4) else (rec (w64 (x4 + (1 : Int))))) else (rec (w64 (x4 + (1 : Int))))) else none) else none) else (X1 ()))
def impl_placeOf.l2 {R : Type} (k : Nat) (x0 : Int) (x1 : Int) (x3 : Int) (xl0 : List T_impl_Stored) (X0 : Int → Option R) (X1 : Unit → Option R) : Nat → Int → Option R
  | 0 => fun _ => none
  | n + 1 => impl_placeOf.L2 k x0 x1 x3 xl0 X0 X1 (impl_placeOf.l2 k x0 x1 x3 xl0 X0 X1 n)
def impl_placeOf.f (k : Nat) (a0 : List T_impl_Stored) (a1 : Int) (a2 : Int) : Option Int :=
  (impl_placeOf.l2 k a1 a2 (a0.length : Int) a0 (fun (y1 : Int) => some y1) (fun (_ : Unit) => some (-1 : Int)) k (0 : Int))
def impl_placeOf.h2 (k : Nat) {R : Type} (K : Ex → St κ → Option R) (vs : List AV) (bs : List (Blk κ)) : Option R :=
  match vs, bs with
  | [.v (.int .i64 x0), .v (.int .i64 x1), .v (.sl 0), .v (.int .i64 x3), .v (.int .i64 x4)], [qb0] => (asO 1 false qb0).bind fun xl0 => impl_placeOf.l2 k x0 x1 x3 xl0 (fun (z0 : Int) => K .ret (stOf [(6, [])] [.v (.int .i64 z0)] [.rows 1 false xl0])) (fun (_ : Unit) => K (.exit 0) (stOf [(6, [])] [.v .any] [.rows 1 false xl0])) k x4
  | _, _ => none
def impl_placeOf.Γ (k : Nat) : Ct κ := assoc []
def impl_placeOf.LH (k : Nat) : Nat → Option (LHi κ) := assoc [(2, ⟨1, [(1, []), (2, []), (9, [some 1]), (10, []), (11, [])], [(6, [])], @impl_placeOf.h2 k⟩)]
theorem impl_placeOf.hΓ (k : Nat) : ∀ f g, impl_placeOf.Γ k f = some g → CSound Try.prog f g := G_nil
theorem impl_placeOf.e2 {R : Type} (K : Ex → St κ → Option R) (k : Nat) (x0 : Int) (x1 : Int) (x3 : Int) (xl0 : List T_impl_Stored) : ∀ (n : Nat) (x4 : Int), loopN 1 (Code.den ti (impl_placeOf.Γ k) (impl_placeOf.LH k) (loopAt Try.f49 0)) [(1, []), (2, []), (9, [some 1]), (10, []), (11, [])] [(6, [])] K n [.v (.int .i64 x0), .v (.int .i64 x1), .v (.sl 0), .v (.int .i64 x3), .v (.int .i64 x4)] [.rows 1 false xl0] = impl_placeOf.l2 k x0 x1 x3 xl0 (fun (z0 : Int) => K .ret (stOf [(6, [])] [.v (.int .i64 z0)] [.rows 1 false xl0])) (fun (_ : Unit) => K (.exit 0) (stOf [(6, [])] [.v .any] [.rows 1 false xl0])) n x4
  | 0, _ => rfl
  | n + 1, x4 => (show loopN 1 (Code.den ti (impl_placeOf.Γ k) (impl_placeOf.LH k) (loopAt Try.f49 0)) [(1, []), (2, []), (9, [some 1]), (10, []), (11, [])] [(6, [])] K (n + 1) [.v (.int .i64 x0), .v (.int .i64 x1), .v (.sl 0), .v (.int .i64 x3), .v (.int .i64 x4)] [.rows 1 false xl0] = impl_placeOf.L2 k x0 x1 x3 xl0 (fun (z0 : Int) => K .ret (stOf [(6, [])] [.v (.int .i64 z0)] [.rows 1 false xl0])) (fun (_ : Unit) => K (.exit 0) (stOf [(6, [])] [.v .any] [.rows 1 false xl0])) (fun (x4' : Int) => loopN 1 (Code.den ti (impl_placeOf.Γ k) (impl_placeOf.LH k) (loopAt Try.f49 0)) [(1, []), (2, []), (9, [some 1]), (10, []), (11, [])] [(6, [])] K n [.v (.int .i64 x0), .v (.int .i64 x1), .v (.sl 0), .v (.int .i64 x3), .v (.int .i64 x4')] [.rows 1 false xl0]) x4 by kernel_rfl).trans (congrArg (fun rec => impl_placeOf.L2 k x0 x1 x3 xl0 (fun (z0 : Int) => K .ret (stOf [(6, [])] [.v (.int .i64 z0)] [.rows 1 false xl0])) (fun (_ : Unit) => K (.exit 0) (stOf [(6, [])] [.v .any] [.rows 1 false xl0])) rec x4) (funext fun x4' => impl_placeOf.e2 K k x0 x1 x3 xl0 n x4'))
theorem impl_placeOf.q2 (k : Nat) {R : Type} (K : Ex → St κ → Option R) (vs : List AV) (bs : List (Blk κ)) (r : R) (h : impl_placeOf.h2 k K vs bs = some r) : ∃ n, loopN 1 (Code.den ti (impl_placeOf.Γ k) (impl_placeOf.LH k) (loopAt Try.f49 0)) [(1, []), (2, []), (9, [some 1]), (10, []), (11, [])] [(6, [])] K n vs bs = some r := by
  unfold impl_placeOf.h2 at h
  split at h
  · obtain ⟨_, rfl, h_1⟩ := asO_bind h
    exact ⟨k, (impl_placeOf.e2 K k _ _ _ _ k _).trans h_1⟩
  · cases h
theorem impl_placeOf.lok (k : Nat) : LOK ti (impl_placeOf.Γ k) (impl_placeOf.LH k) 1 (loopsOf (bodyOf Try.f49)) :=
  (show loopsOf (bodyOf Try.f49) = [loopAt Try.f49 0] by kernel_rfl) ▸ (LOK_cons (g := ⟨1, [(1, []), (2, []), (9, [some 1]), (10, []), (11, [])], [(6, [])], @impl_placeOf.h2 k⟩) (by kernel_rfl) rfl (fun K vs xs r h => impl_placeOf.q2 k K vs xs r h) (LOK_nil))
def impl_placeOf.sig : List PSh := [.one (.ro 1), .one .sc, .one .sc]
def impl_placeOf.g (y : Int) : Ret κ := ⟨.v (.int .i64 y), [], []⟩
def impl_placeOf.out (r : Ret κ) : Option Int :=
  match r with
  | ⟨.v (.int .i64 z0), [], []⟩ => some (z0)
  | _ => none
theorem impl_placeOf.out_ok (r : Ret κ) (y : Int) (h : impl_placeOf.out r = some y) : r = impl_placeOf.g y := by
  unfold impl_placeOf.out at h
  split at h
  · obtain rfl := Option.some.inj h
    rfl
  · cases h
def impl_placeOf.body (k : Nat) (vs : List AV) (bs : List (Blk κ)) : Option (Lf κ) :=
  match vs, bs with
  | [.v (.sl 0), .v (.int .i64 a1), .v (.int .i64 a2)], [qb0] => (asO 1 false qb0).bind fun a0 => some ⟨Int, impl_placeOf.f k a0 a1 a2, impl_placeOf.g⟩
  | _, _ => none
def impl_placeOf.C (k : Nat) : Nat → List AV → AP κ AV := contract impl_placeOf.sig (impl_placeOf.body k)
theorem impl_placeOf.den (k : Nat) (a0 : List T_impl_Stored) (a1 : Int) (a2 : Int) : Code.den ti (impl_placeOf.Γ k) (impl_placeOf.LH k) (bodyOf Try.f49) (finK ti Try.f49.results.toList [] (flags impl_placeOf.sig).length (rwI (flags impl_placeOf.sig) 0) impl_placeOf.out) ⟨envOf (([.v (.sl 0), .v (.int .i64 a1), .v (.int .i64 a2)]).zipIdx.map fun q => (q.2, q.1)), hpOf [.rows 1 false a0], (flags impl_placeOf.sig).length⟩ = impl_placeOf.f k a0 a1 a2 := by kernel_rfl
theorem impl_placeOf.ok (k : Nat) : CSound Try.prog 49 (impl_placeOf.C k) :=
  csound κ_ok mixed tok (impl_placeOf.hΓ k) (LH := impl_placeOf.LH k) (fn := Try.f49) (c := bodyOf Try.f49) Try.func49 rfl Try.call49 impl_placeOf.sig [] (impl_placeOf.body k) (by kernel_rfl) (impl_placeOf.lok k) (by decide) fun vs bs lf y hl hb hy => by
    unfold impl_placeOf.body at hb
    split at hb
    · obtain ⟨_, rfl, hb_1⟩ := asO_bind hb
      obtain rfl := Option.some.inj hb_1
      exact ⟨impl_placeOf.out, impl_placeOf.out_ok, (impl_placeOf.den k _ _ _).trans hy⟩
    · cases hb
/-! ### slices_SortFunc_Stored -/
def slices_SortFunc_Stored.cf (x y : T_impl_Stored) : Int := bif decide (x.f0 < y.f0) then -1 else bif decide (x.f0 > y.f0) then 1 else bif decide (x.f1 < y.f1) then -1 else bif decide (x.f1 > y.f1) then 1 else 0
theorem slices_SortFunc_Stored.val (x y : T_impl_Stored) : impl_compareStored.f 9 x.f0 x.f1 x.f2 x.f3 y.f0 y.f1 y.f2 y.f3 = some (slices_SortFunc_Stored.cf x y) := by
  unfold impl_compareStored.f cmp_Compare_int.f slices_SortFunc_Stored.cf
  simp only [cmp_isNaN_int.f, bne_self_eq_false, Option.bind_some]
  cases decide (x.f0 < y.f0) <;> cases decide (x.f0 > y.f0) <;> cases decide (x.f1 < y.f1) <;> cases decide (x.f1 > y.f1) <;> rfl
theorem slices_SortFunc_Stored.cmp (x y : T_impl_Stored) (w : World) : Calls Try.prog 44 #[.agg (encV (κ 1) x).toArray, .agg (encV (κ 1) y).toArray] w fun e w' => e = .returned (.int .i64 (slices_SortFunc_Stored.cf x y)) ∧ ∃ q os', w' = Go.Sort.grow (w.drewN q) os' := by
  refine plain_calls (impl_compareStored.ok 9) (args := [.agg ((κ 1).enc x), .agg ((κ 1).enc y)]) (M := fun _ => undef) rfl (enc_args (κ_ok 1) x y) ?_ w
  refine (show _ = (impl_compareStored.f 9 x.f0 x.f1 x.f2 x.f3 y.f0 y.f1 y.f2 y.f3).bind fun y => some (AV.v (.int .i64 y)) by kernel_rfl).trans ?_
  rw [slices_SortFunc_Stored.val]
  rfl
theorem slices_SortFunc_Stored.lt (x y : T_impl_Stored) : Go.Proofs.ltOf slices_SortFunc_Stored.cf x y = (decide (x.f0 < y.f0) || (decide (x.f0 = y.f0) && decide (x.f1 < y.f1))) := by
  unfold Go.Proofs.ltOf slices_SortFunc_Stored.cf
  by_cases h1 : x.f0 < y.f0
  · simp [h1]
  · by_cases h2 : x.f0 > y.f0
    · simp [h1, h2]; omega
    · have h3 : x.f0 = y.f0 := by omega
      by_cases h4 : x.f1 < y.f1
      · simp [h3, h4]
      · by_cases h5 : x.f1 > y.f1 <;> simp [h3, h4, h5]
theorem slices_SortFunc_Stored.swo : Go.Sort.SWO (Go.Proofs.ltOf slices_SortFunc_Stored.cf) where
  irrefl x := by rw [slices_SortFunc_Stored.lt]; simp
  trans x y z h1 h2 := by rw [slices_SortFunc_Stored.lt] at *; simp at *; omega
  ntrans x y z h1 h2 := by rw [slices_SortFunc_Stored.lt] at *; simp at *; omega
def slices_SortFunc_Stored.f (k : Nat) (l : List T_impl_Stored) : Option (List T_impl_Stored) := sortByF z_impl_Stored (Go.Proofs.ltOf slices_SortFunc_Stored.cf) l
def slices_SortFunc_Stored.C (k : Nat) : Nat → List AV → AP κ AV := contract (inSig 1 (some 44)) (inB 1 κ (some 44) (slices_SortFunc_Stored.f k))
theorem slices_SortFunc_Stored.ok (k : Nat) : CSound Try.prog 50 (slices_SortFunc_Stored.C k) :=
  sortFunc_sound κ_ok Try.laysSortFunc Try.call50 1 Try.isAgg48 Try.sizeOf48 Try.call44 slices_SortFunc_Stored.cf slices_SortFunc_Stored.swo slices_SortFunc_Stored.cmp
/-! ### impl_MergeStores -/
def impl_MergeStores.L5 {R : Type} (k : Nat) (x2 : Int) (xl0 : List T_impl_Stored) (xl1 : List T_impl_Stored) (X0 : List T_impl_Stored → Option R) (rec : Int → List T_impl_Stored → Option R) (x3 : Int) (xl2 : List T_impl_Stored) : Option R :=
  (bif decide (x3 < x2) then (bif decide (0 ≤ x3) then (bif decide (x3 < (xl1.length : Int)) then (impl_placeOf.f k xl2 ((rd_impl_Stored xl1 x3).f0) ((rd_impl_Stored xl1 x3).f1)).bind fun t4 => (bif decide (t4 < (0 : Int)) then (bif decide ((xl2.length + ([(⟨(rd_impl_Stored xl1 x3).f0, (rd_impl_Stored xl1 x3).f1, (rd_impl_Stored xl1 x3).f2, (rd_impl_Stored xl1 x3).f3⟩ : T_impl_Stored)] : List T_impl_Stored).length) * 32 ≤ cap48) then (let l5 : List T_impl_Stored := (xl2 ++ ([(⟨(rd_impl_Stored xl1 x3).f0, (rd_impl_Stored xl1 x3).f1, (rd_impl_Stored xl1 x3).f2, (rd_impl_Stored xl1 x3).f3⟩ : T_impl_Stored)] : List T_impl_Stored)); (rec (w64 (x3 + (1 : Int))) l5)) else none) else (bif decide (0 ≤ t4) then (bif decide (t4 < (xl2.length : Int)) then (bif decide ((rd_impl_Stored xl1 x3).f3 > (rd_impl_Stored xl2 t4).f3) then (bif decide (0 ≤ t4) then (bif decide (t4 < (xl2.length : Int)) then (let l6 : List T_impl_Stored := (xl2.set (t4).toNat (⟨(rd_impl_Stored xl1 x3).f0, (rd_impl_Stored xl1 x3).f1, (rd_impl_Stored xl1 x3).f2, (rd_impl_Stored xl1 x3).f3⟩ : T_impl_Stored)); (rec (w64 (x3 + (1 : Int))) l6)) else none) else none) else (bif decide (0 ≤ t4) then (bif decide (t4 < (xl2.length : Int)) then (bif ((rd_impl_Stored xl1 x3).f3 == (rd_impl_Stored xl2 t4).f3) then (bif decide (0 ≤ t4) then (bif decide (t4 < (xl2.length : Int)) then (bif decide ((rd_impl_Stored xl1 x3).f2 > (rd_impl_Stored xl2 t4).f2) then (bif decide (0 ≤ t4) then (bif decide (t4 < (xl2.length : Int)) then (let l7 : List T_impl_Stored := (xl2.set (t4).toNat (⟨(rd_impl_Stored xl1 x3).f0, (rd_impl_Stored xl1 x3).f1, (rd_impl_Stored xl1 x3).f2, (rd_impl_Stored xl1 x3).f3⟩ : T_impl_Stored)); (rec (w64 (x3 + (1 : Int))) l7)) else none) else none) else (rec (w64 (x3 + (1 : Int))) xl2)) else none) else none) else (rec (w64 (x3 + (1 : Int))) xl2)) else none) else none)) else none) else none)) else none) else none) else (X0 xl2))
def impl_MergeStores.l5 {R : Type} (k : Nat) (x2 : Int) (xl0 : List T_impl_Stored) (xl1 : List T_impl_Stored) (X0 : List T_impl_Stored → Option R) : Nat → Int → List T_impl_Stored → Option R
  | 0 => fun _ _ => none
  | n + 1 => impl_MergeStores.L5 k x2 xl0 xl1 X0 (impl_MergeStores.l5 k x2 xl0 xl1 X0 n)
def impl_MergeStores.f (k : Nat) (a0 : List T_impl_Stored) (a1 : List T_impl_Stored) : Option (Bool × List T_impl_Stored) :=
  (impl_IsStore.f k a0).bind fun t1 => (bif !t1 then some (false, ([] : List T_impl_Stored)) else (impl_IsStore.f k a1).bind fun t2 => (bif !t2 then some (false, ([] : List T_impl_Stored)) else (slices_Clone_Stored.f k a0).bind fun t3 => (impl_MergeStores.l5 k (a1.length : Int) a0 a1 (fun (y8 : List T_impl_Stored) => (slices_SortFunc_Stored.f k y8).bind fun t9 => (impl_IsStore.f k t9).bind fun t10 => (bif !t10 then some (false, ([] : List T_impl_Stored)) else some (true, t9))) k (0 : Int) t3)))
def impl_MergeStores.h5 (k : Nat) {R : Type} (K : Ex → St κ → Option R) (vs : List AV) (bs : List (Blk κ)) : Option R :=
  match vs, bs with
  | [.v (.sl 2), .v (.sl 1), .v (.int .i64 x2), .v (.int .i64 x3)], [qb0, qb1, qb2] => (asO 1 false qb0).bind fun xl0 => (asO 1 false qb1).bind fun xl1 => (asO 1 true qb2).bind fun xl2 => impl_MergeStores.l5 k x2 xl0 xl1 (fun (zl2 : List T_impl_Stored) => K (.exit 0) (stOf [(6, [some 1])] [.v (.sl 2)] [.rows 1 false xl0, .rows 1 false xl1, .rows 1 true zl2])) k x3 xl2
  | _, _ => none
def impl_MergeStores.Γ (k : Nat) : Ct κ := assoc [(15, impl_IsStore.C k), (39, slices_Clone_Stored.C k), (49, impl_placeOf.C k), (50, slices_SortFunc_Stored.C k)]
def impl_MergeStores.LH (k : Nat) : Nat → Option (LHi κ) := assoc [(5, ⟨2, [(6, [some 1]), (21, [some 1]), (22, []), (23, [])], [(6, [some 1])], @impl_MergeStores.h5 k⟩)]
theorem impl_MergeStores.hΓ (k : Nat) : ∀ f g, impl_MergeStores.Γ k f = some g → CSound Try.prog f g := G_cons (impl_IsStore.ok k) (G_cons (slices_Clone_Stored.ok k) (G_cons (impl_placeOf.ok k) (G_cons (slices_SortFunc_Stored.ok k) G_nil)))
theorem impl_MergeStores.e5 {R : Type} (K : Ex → St κ → Option R) (k : Nat) (x2 : Int) (xl0 : List T_impl_Stored) (xl1 : List T_impl_Stored) : ∀ (n : Nat) (x3 : Int) (xl2 : List T_impl_Stored), loopN 2 (Code.den ti (impl_MergeStores.Γ k) (impl_MergeStores.LH k) (loopAt Try.f19 0)) [(6, [some 1]), (21, [some 1]), (22, []), (23, [])] [(6, [some 1])] K n [.v (.sl 2), .v (.sl 1), .v (.int .i64 x2), .v (.int .i64 x3)] [.rows 1 false xl0, .rows 1 false xl1, .rows 1 true xl2] = impl_MergeStores.l5 k x2 xl0 xl1 (fun (zl2 : List T_impl_Stored) => K (.exit 0) (stOf [(6, [some 1])] [.v (.sl 2)] [.rows 1 false xl0, .rows 1 false xl1, .rows 1 true zl2])) n x3 xl2
  | 0, _, _ => rfl
  | n + 1, x3, xl2 => (show loopN 2 (Code.den ti (impl_MergeStores.Γ k) (impl_MergeStores.LH k) (loopAt Try.f19 0)) [(6, [some 1]), (21, [some 1]), (22, []), (23, [])] [(6, [some 1])] K (n + 1) [.v (.sl 2), .v (.sl 1), .v (.int .i64 x2), .v (.int .i64 x3)] [.rows 1 false xl0, .rows 1 false xl1, .rows 1 true xl2] = impl_MergeStores.L5 k x2 xl0 xl1 (fun (zl2 : List T_impl_Stored) => K (.exit 0) (stOf [(6, [some 1])] [.v (.sl 2)] [.rows 1 false xl0, .rows 1 false xl1, .rows 1 true zl2])) (fun (x3' : Int) (xl2' : List T_impl_Stored) => loopN 2 (Code.den ti (impl_MergeStores.Γ k) (impl_MergeStores.LH k) (loopAt Try.f19 0)) [(6, [some 1]), (21, [some 1]), (22, []), (23, [])] [(6, [some 1])] K n [.v (.sl 2), .v (.sl 1), .v (.int .i64 x2), .v (.int .i64 x3')] [.rows 1 false xl0, .rows 1 false xl1, .rows 1 true xl2']) x3 xl2 by kernel_rfl).trans (congrArg (fun rec => impl_MergeStores.L5 k x2 xl0 xl1 (fun (zl2 : List T_impl_Stored) => K (.exit 0) (stOf [(6, [some 1])] [.v (.sl 2)] [.rows 1 false xl0, .rows 1 false xl1, .rows 1 true zl2])) rec x3 xl2) (funext fun x3' => funext fun xl2' => impl_MergeStores.e5 K k x2 xl0 xl1 n x3' xl2'))
theorem impl_MergeStores.q5 (k : Nat) {R : Type} (K : Ex → St κ → Option R) (vs : List AV) (bs : List (Blk κ)) (r : R) (h : impl_MergeStores.h5 k K vs bs = some r) : ∃ n, loopN 2 (Code.den ti (impl_MergeStores.Γ k) (impl_MergeStores.LH k) (loopAt Try.f19 0)) [(6, [some 1]), (21, [some 1]), (22, []), (23, [])] [(6, [some 1])] K n vs bs = some r := by
  unfold impl_MergeStores.h5 at h
  split at h
  · obtain ⟨_, rfl, h_1⟩ := asO_bind h
    obtain ⟨_, rfl, h_2⟩ := asO_bind h_1
    obtain ⟨_, rfl, h_3⟩ := asO_bind h_2
    exact ⟨k, (impl_MergeStores.e5 K k _ _ _ k _ _).trans h_3⟩
  · cases h
theorem impl_MergeStores.lok (k : Nat) : LOK ti (impl_MergeStores.Γ k) (impl_MergeStores.LH k) 2 (loopsOf (bodyOf Try.f19)) :=
  (show loopsOf (bodyOf Try.f19) = [loopAt Try.f19 0] by kernel_rfl) ▸ (LOK_cons (g := ⟨2, [(6, [some 1]), (21, [some 1]), (22, []), (23, [])], [(6, [some 1])], @impl_MergeStores.h5 k⟩) (by kernel_rfl) rfl (fun K vs xs r h => impl_MergeStores.q5 k K vs xs r h) (LOK_nil))
def impl_MergeStores.sig : List PSh := [.one (.ro 1), .one (.ro 1)]
def impl_MergeStores.g (y : Bool × List T_impl_Stored) : Ret κ := ⟨.tup [(false, [.sl 2]), (false, [.bool y.1])], [], [.rows 1 true y.2]⟩
def impl_MergeStores.out (r : Ret κ) : Option (Bool × List T_impl_Stored) :=
  match r with
  | ⟨.tup [(false, [.sl 2]), (false, [.bool z0])], [], [q1]⟩ => (asO 1 true q1).bind fun z1 => some (z0, z1)
  | _ => none
theorem impl_MergeStores.out_ok (r : Ret κ) (y : Bool × List T_impl_Stored) (h : impl_MergeStores.out r = some y) : r = impl_MergeStores.g y := by
  unfold impl_MergeStores.out at h
  split at h
  · obtain ⟨_, rfl, h_1⟩ := asO_bind h
    obtain rfl := Option.some.inj h_1
    rfl
  · cases h
def impl_MergeStores.body (k : Nat) (vs : List AV) (bs : List (Blk κ)) : Option (Lf κ) :=
  match vs, bs with
  | [.v (.sl 0), .v (.sl 1)], [qb0, qb1] => (asO 1 false qb0).bind fun a0 => (asO 1 false qb1).bind fun a1 => some ⟨Bool × List T_impl_Stored, impl_MergeStores.f k a0 a1, impl_MergeStores.g⟩
  | _, _ => none
def impl_MergeStores.C (k : Nat) : Nat → List AV → AP κ AV := contract impl_MergeStores.sig (impl_MergeStores.body k)
theorem impl_MergeStores.den (k : Nat) (a0 : List T_impl_Stored) (a1 : List T_impl_Stored) : Code.den ti (impl_MergeStores.Γ k) (impl_MergeStores.LH k) (bodyOf Try.f19) (finK ti Try.f19.results.toList [(4, [some 1])] (flags impl_MergeStores.sig).length (rwI (flags impl_MergeStores.sig) 0) impl_MergeStores.out) ⟨envOf (([.v (.sl 0), .v (.sl 1)]).zipIdx.map fun q => (q.2, q.1)), hpOf [.rows 1 false a0, .rows 1 false a1], (flags impl_MergeStores.sig).length⟩ = impl_MergeStores.f k a0 a1 := by kernel_rfl
theorem impl_MergeStores.ok (k : Nat) : CSound Try.prog 19 (impl_MergeStores.C k) :=
  csound κ_ok mixed tok (impl_MergeStores.hΓ k) (LH := impl_MergeStores.LH k) (fn := Try.f19) (c := bodyOf Try.f19) Try.func19 rfl Try.call19 impl_MergeStores.sig [(4, [some 1])] (impl_MergeStores.body k) (by kernel_rfl) (impl_MergeStores.lok k) (by decide) fun vs bs lf y hl hb hy => by
    unfold impl_MergeStores.body at hb
    split at hb
    · obtain ⟨_, rfl, hb_1⟩ := asO_bind hb
      obtain ⟨_, rfl, hb_2⟩ := asO_bind hb_1
      obtain rfl := Option.some.inj hb_2
      exact ⟨impl_MergeStores.out, impl_MergeStores.out_ok, (impl_MergeStores.den k _ _).trans hy⟩
    · cases hb
/-! ### laws_eqStored -/
def laws_eqStored.f (k : Nat) (a0_0 : Int) (a0_1 : Int) (a0_2 : Int) (a0_3 : Int) (a1_0 : Int) (a1_1 : Int) (a1_2 : Int) (a1_3 : Int) : Option Bool :=
  (bif (a0_0 != a1_0) then some false else (bif (a0_1 != a1_1) then some false else (bif (a0_2 != a1_2) then some false else (bif (a0_3 != a1_3) then some false else some true))))
def laws_eqStored.Γ (k : Nat) : Ct κ := assoc []
def laws_eqStored.LH (k : Nat) : Nat → Option (LHi κ) := assoc []
theorem laws_eqStored.hΓ (k : Nat) : ∀ f g, laws_eqStored.Γ k f = some g → CSound Try.prog f g := G_nil
theorem laws_eqStored.lok (k : Nat) : LOK ti (laws_eqStored.Γ k) (laws_eqStored.LH k) 0 (loopsOf (bodyOf Try.f51)) :=
  (show loopsOf (bodyOf Try.f51) = [] by kernel_rfl) ▸ LOK_nil
def laws_eqStored.sig : List PSh := [.agg [.sc, .sc, .sc, .sc], .agg [.sc, .sc, .sc, .sc]]
def laws_eqStored.g (y : Bool) : Ret κ := ⟨.v (.bool y), [], []⟩
def laws_eqStored.out (r : Ret κ) : Option Bool :=
  match r with
  | ⟨.v (.bool z0), [], []⟩ => some (z0)
  | _ => none
theorem laws_eqStored.out_ok (r : Ret κ) (y : Bool) (h : laws_eqStored.out r = some y) : r = laws_eqStored.g y := by
  unfold laws_eqStored.out at h
  split at h
  · obtain rfl := Option.some.inj h
    rfl
  · cases h
def laws_eqStored.body (k : Nat) (vs : List AV) (bs : List (Blk κ)) : Option (Lf κ) :=
  match vs, bs with
  | [.agg [.int .i64 a0_0, .int .i64 a0_1, .int .i64 a0_2, .int .i64 a0_3], .agg [.int .i64 a1_0, .int .i64 a1_1, .int .i64 a1_2, .int .i64 a1_3]], [] => some ⟨Bool, laws_eqStored.f k a0_0 a0_1 a0_2 a0_3 a1_0 a1_1 a1_2 a1_3, laws_eqStored.g⟩
  | _, _ => none
def laws_eqStored.C (k : Nat) : Nat → List AV → AP κ AV := contract laws_eqStored.sig (laws_eqStored.body k)
theorem laws_eqStored.den (k : Nat) (a0_0 : Int) (a0_1 : Int) (a0_2 : Int) (a0_3 : Int) (a1_0 : Int) (a1_1 : Int) (a1_2 : Int) (a1_3 : Int) : Code.den ti (laws_eqStored.Γ k) (laws_eqStored.LH k) (bodyOf Try.f51) (finK ti Try.f51.results.toList [] (flags laws_eqStored.sig).length (rwI (flags laws_eqStored.sig) 0) laws_eqStored.out) ⟨envOf (([.agg [.int .i64 a0_0, .int .i64 a0_1, .int .i64 a0_2, .int .i64 a0_3], .agg [.int .i64 a1_0, .int .i64 a1_1, .int .i64 a1_2, .int .i64 a1_3]]).zipIdx.map fun q => (q.2, q.1)), hpOf [], (flags laws_eqStored.sig).length⟩ = laws_eqStored.f k a0_0 a0_1 a0_2 a0_3 a1_0 a1_1 a1_2 a1_3 := by kernel_rfl
theorem laws_eqStored.ok (k : Nat) : CSound Try.prog 51 (laws_eqStored.C k) :=
  csound κ_ok mixed tok (laws_eqStored.hΓ k) (LH := laws_eqStored.LH k) (fn := Try.f51) (c := bodyOf Try.f51) Try.func51 rfl Try.call51 laws_eqStored.sig [] (laws_eqStored.body k) (by kernel_rfl) (laws_eqStored.lok k) (by decide) fun vs bs lf y hl hb hy => by
    unfold laws_eqStored.body at hb
    split at hb
    · obtain rfl := Option.some.inj hb
      exact ⟨laws_eqStored.out, laws_eqStored.out_ok, (laws_eqStored.den k _ _ _ _ _ _ _ _).trans hy⟩
    · cases hb
/-! ### laws_eqStoredS -/
def laws_eqStoredS.L4 {R : Type} (k : Nat) (xl0 : List T_impl_Stored) (xl1 : List T_impl_Stored) (X0 : Bool → Option R) (X1 : Unit → Option R) (rec : Int → Option R) (x2 : Int) : Option R :=
  (bif decide (x2 < (xl0.length : Int)) then (bif decide (0 ≤ x2) then (bif decide (x2 < (xl0.length : Int)) then (bif decide (0 ≤ x2) then (bif decide (x2 < (xl1.length : Int)) then (laws_eqStored.f k ((rd_impl_Stored xl0 x2).f0) ((rd_impl_Stored xl0 x2).f1) ((rd_impl_Stored xl0 x2).f2) ((rd_impl_Stored xl0 x2).f3) ((rd_impl_Stored xl1 x2).f0) ((rd_impl_Stored xl1 x2).f1) ((rd_impl_Stored xl1 x2).f2) ((rd_impl_Stored xl1 x2).f3)).bind fun t1 => (bif !t1 then (X0 false) else (rec (w64 (x2 + (1 : Int))))) else none) else none) else none) else none) else (X1 ()))
def laws_eqStoredS.l4 {R : Type} (k : Nat) (xl0 : List T_impl_Stored) (xl1 : List T_impl_Stored) (X0 : Bool → Option R) (X1 : Unit → Option R) : Nat → Int → Option R
  | 0 => fun _ => none
  | n + 1 => laws_eqStoredS.L4 k xl0 xl1 X0 X1 (laws_eqStoredS.l4 k xl0 xl1 X0 X1 n)
def laws_eqStoredS.f (k : Nat) (a0 : List T_impl_Stored) (a1 : List T_impl_Stored) : Option Bool :=
  (bif ((a0.length : Int) != (a1.length : Int)) then some false else (laws_eqStoredS.l4 k a0 a1 (fun (y2 : Bool) => some y2) (fun (_ : Unit) => some true) k (0 : Int)))
def laws_eqStoredS.h4 (k : Nat) {R : Type} (K : Ex → St κ → Option R) (vs : List AV) (bs : List (Blk κ)) : Option R :=
  match vs, bs with
  | [.v (.sl 0), .v (.sl 1), .v (.int .i64 x2)], [qb0, qb1] => (asO 1 false qb0).bind fun xl0 => (asO 1 false qb1).bind fun xl1 => laws_eqStoredS.l4 k xl0 xl1 (fun (z0 : Bool) => K .ret (stOf [(4, [])] [.v (.bool z0)] [.rows 1 false xl0, .rows 1 false xl1])) (fun (_ : Unit) => K (.exit 0) (stOf [(4, [])] [.v .any] [.rows 1 false xl0, .rows 1 false xl1])) k x2
  | _, _ => none
def laws_eqStoredS.Γ (k : Nat) : Ct κ := assoc [(51, laws_eqStored.C k)]
def laws_eqStoredS.LH (k : Nat) : Nat → Option (LHi κ) := assoc [(4, ⟨2, [(0, [some 1]), (1, [some 1]), (5, [])], [(4, [])], @laws_eqStoredS.h4 k⟩)]
theorem laws_eqStoredS.hΓ (k : Nat) : ∀ f g, laws_eqStoredS.Γ k f = some g → CSound Try.prog f g := G_cons (laws_eqStored.ok k) G_nil
theorem laws_eqStoredS.e4 {R : Type} (K : Ex → St κ → Option R) (k : Nat) (xl0 : List T_impl_Stored) (xl1 : List T_impl_Stored) : ∀ (n : Nat) (x2 : Int), loopN 2 (Code.den ti (laws_eqStoredS.Γ k) (laws_eqStoredS.LH k) (loopAt Try.f20 0)) [(0, [some 1]), (1, [some 1]), (5, [])] [(4, [])] K n [.v (.sl 0), .v (.sl 1), .v (.int .i64 x2)] [.rows 1 false xl0, .rows 1 false xl1] = laws_eqStoredS.l4 k xl0 xl1 (fun (z0 : Bool) => K .ret (stOf [(4, [])] [.v (.bool z0)] [.rows 1 false xl0, .rows 1 false xl1])) (fun (_ : Unit) => K (.exit 0) (stOf [(4, [])] [.v .any] [.rows 1 false xl0, .rows 1 false xl1])) n x2
  | 0, _ => rfl
  | n + 1, x2 => (show loopN 2 (Code.den ti (laws_eqStoredS.Γ k) (laws_eqStoredS.LH k) (loopAt Try.f20 0)) [(0, [some 1]), (1, [some 1]), (5, [])] [(4, [])] K (n + 1) [.v (.sl 0), .v (.sl 1), .v (.int .i64 x2)] [.rows 1 false xl0, .rows 1 false xl1] = laws_eqStoredS.L4 k xl0 xl1 (fun (z0 : Bool) => K .ret (stOf [(4, [])] [.v (.bool z0)] [.rows 1 false xl0, .rows 1 false xl1])) (fun (_ : Unit) => K (.exit 0) (stOf [(4, [])] [.v .any] [.rows 1 false xl0, .rows 1 false xl1])) (fun (x2' : Int) => loopN 2 (Code.den ti (laws_eqStoredS.Γ k) (laws_eqStoredS.LH k) (loopAt Try.f20 0)) [(0, [some 1]), (1, [some 1]), (5, [])] [(4, [])] K n [.v (.sl 0), .v (.sl 1), .v (.int .i64 x2')] [.rows 1 false xl0, .rows 1 false xl1]) x2 by kernel_rfl).trans (congrArg (fun rec => laws_eqStoredS.L4 k xl0 xl1 (fun (z0 : Bool) => K .ret (stOf [(4, [])] [.v (.bool z0)] [.rows 1 false xl0, .rows 1 false xl1])) (fun (_ : Unit) => K (.exit 0) (stOf [(4, [])] [.v .any] [.rows 1 false xl0, .rows 1 false xl1])) rec x2) (funext fun x2' => laws_eqStoredS.e4 K k xl0 xl1 n x2'))
theorem laws_eqStoredS.q4 (k : Nat) {R : Type} (K : Ex → St κ → Option R) (vs : List AV) (bs : List (Blk κ)) (r : R) (h : laws_eqStoredS.h4 k K vs bs = some r) : ∃ n, loopN 2 (Code.den ti (laws_eqStoredS.Γ k) (laws_eqStoredS.LH k) (loopAt Try.f20 0)) [(0, [some 1]), (1, [some 1]), (5, [])] [(4, [])] K n vs bs = some r := by
  unfold laws_eqStoredS.h4 at h
  split at h
  · obtain ⟨_, rfl, h_1⟩ := asO_bind h
    obtain ⟨_, rfl, h_2⟩ := asO_bind h_1
    exact ⟨k, (laws_eqStoredS.e4 K k _ _ k _).trans h_2⟩
  · cases h
theorem laws_eqStoredS.lok (k : Nat) : LOK ti (laws_eqStoredS.Γ k) (laws_eqStoredS.LH k) 2 (loopsOf (bodyOf Try.f20)) :=
  (show loopsOf (bodyOf Try.f20) = [loopAt Try.f20 0] by kernel_rfl) ▸ (LOK_cons (g := ⟨2, [(0, [some 1]), (1, [some 1]), (5, [])], [(4, [])], @laws_eqStoredS.h4 k⟩) (by kernel_rfl) rfl (fun K vs xs r h => laws_eqStoredS.q4 k K vs xs r h) (LOK_nil))
def laws_eqStoredS.sig : List PSh := [.one (.ro 1), .one (.ro 1)]
def laws_eqStoredS.g (y : Bool) : Ret κ := ⟨.v (.bool y), [], []⟩
def laws_eqStoredS.out (r : Ret κ) : Option Bool :=
  match r with
  | ⟨.v (.bool z0), [], []⟩ => some (z0)
  | _ => none
theorem laws_eqStoredS.out_ok (r : Ret κ) (y : Bool) (h : laws_eqStoredS.out r = some y) : r = laws_eqStoredS.g y := by
  unfold laws_eqStoredS.out at h
  split at h
  · obtain rfl := Option.some.inj h
    rfl
  · cases h
def laws_eqStoredS.body (k : Nat) (vs : List AV) (bs : List (Blk κ)) : Option (Lf κ) :=
  match vs, bs with
  | [.v (.sl 0), .v (.sl 1)], [qb0, qb1] => (asO 1 false qb0).bind fun a0 => (asO 1 false qb1).bind fun a1 => some ⟨Bool, laws_eqStoredS.f k a0 a1, laws_eqStoredS.g⟩
  | _, _ => none
def laws_eqStoredS.C (k : Nat) : Nat → List AV → AP κ AV := contract laws_eqStoredS.sig (laws_eqStoredS.body k)
theorem laws_eqStoredS.den (k : Nat) (a0 : List T_impl_Stored) (a1 : List T_impl_Stored) : Code.den ti (laws_eqStoredS.Γ k) (laws_eqStoredS.LH k) (bodyOf Try.f20) (finK ti Try.f20.results.toList [] (flags laws_eqStoredS.sig).length (rwI (flags laws_eqStoredS.sig) 0) laws_eqStoredS.out) ⟨envOf (([.v (.sl 0), .v (.sl 1)]).zipIdx.map fun q => (q.2, q.1)), hpOf [.rows 1 false a0, .rows 1 false a1], (flags laws_eqStoredS.sig).length⟩ = laws_eqStoredS.f k a0 a1 := by kernel_rfl
theorem laws_eqStoredS.ok (k : Nat) : CSound Try.prog 20 (laws_eqStoredS.C k) :=
  csound κ_ok mixed tok (laws_eqStoredS.hΓ k) (LH := laws_eqStoredS.LH k) (fn := Try.f20) (c := bodyOf Try.f20) Try.func20 rfl Try.call20 laws_eqStoredS.sig [] (laws_eqStoredS.body k) (by kernel_rfl) (laws_eqStoredS.lok k) (by decide) fun vs bs lf y hl hb hy => by
    unfold laws_eqStoredS.body at hb
    split at hb
    · obtain ⟨_, rfl, hb_1⟩ := asO_bind hb
      obtain ⟨_, rfl, hb_2⟩ := asO_bind hb_1
      obtain rfl := Option.some.inj hb_2
      exact ⟨laws_eqStoredS.out, laws_eqStoredS.out_ok, (laws_eqStoredS.den k _ _).trans hy⟩
    · cases hb
/-! ### laws_markStoredS -/
def laws_markStoredS.L2 {R : Type} (k : Nat) (X0 : Int → List T_impl_Stored → Option R) (rec : Int → Int → List T_impl_Stored → Option R) (x1 : Int) (x2 : Int) (xl0 : List T_impl_Stored) : Option R :=
  (bif decide (x2 < (xl0.length : Int)) then (bif decide (0 ≤ x2) then (bif decide (x2 < (xl0.length : Int)) then (let l1 : List T_impl_Stored := (xl0.set (x2).toNat (⟨x1, (rd_impl_Stored xl0 x2).f1, (rd_impl_Stored xl0 x2).f2, (rd_impl_Stored xl0 x2).f3⟩ : T_impl_Stored)); (bif decide (0 ≤ x2) then (bif decide (x2 < (l1.length : Int)) then (let l2 : List T_impl_Stored := (l1.set (x2).toNat (⟨(rd_impl_Stored l1 x2).f0, (w64 (x1 + (1 : Int))), (rd_impl_Stored l1 x2).f2, (rd_impl_Stored l1 x2).f3⟩ : T_impl_Stored)); (bif decide (0 ≤ x2) then (bif decide (x2 < (l2.length : Int)) then (let l3 : List T_impl_Stored := (l2.set (x2).toNat (⟨(rd_impl_Stored l2 x2).f0, (rd_impl_Stored l2 x2).f1, (w64 ((w64 (x1 + (1 : Int))) + (1 : Int))), (rd_impl_Stored l2 x2).f3⟩ : T_impl_Stored)); (bif decide (0 ≤ x2) then (bif decide (x2 < (l3.length : Int)) then (let l4 : List T_impl_Stored := (l3.set (x2).toNat (⟨(rd_impl_Stored l3 x2).f0, (rd_impl_Stored l3 x2).f1, (rd_impl_Stored l3 x2).f2, (w64 ((w64 ((w64 (x1 + (1 : Int))) + (1 : Int))) + (1 : Int)))⟩ : T_impl_Stored)); (rec (w64 ((w64 ((w64 ((w64 (x1 + (1 : Int))) + (1 : Int))) + (1 : Int))) + (1 : Int))) (w64 (x2 + (1 : Int))) l4)) else none) else none)) else none) else none)) else none) else none)) else none) else none) else (X0 x1 xl0))
def laws_markStoredS.l2 {R : Type} (k : Nat) (X0 : Int → List T_impl_Stored → Option R) : Nat → Int → Int → List T_impl_Stored → Option R
  | 0 => fun _ _ _ => none
  | n + 1 => laws_markStoredS.L2 k X0 (laws_markStoredS.l2 k X0 n)
def laws_markStoredS.f (k : Nat) (a0 : List T_impl_Stored) (a1 : Int) : Option (Int × List T_impl_Stored) :=
  (laws_markStoredS.l2 k (fun (y5 : Int) (y6 : List T_impl_Stored) => some (y5, y6)) k a1 (0 : Int) a0)
def laws_markStoredS.h2 (k : Nat) {R : Type} (K : Ex → St κ → Option R) (vs : List AV) (bs : List (Blk κ)) : Option R :=
  match vs, bs with
  | [.v (.sl 0), .v (.int .i64 x1), .v (.int .i64 x2)], [qb0] => (asO 1 true qb0).bind fun xl0 => laws_markStoredS.l2 k (fun (z0 : Int) (zl0 : List T_impl_Stored) => K (.exit 0) (stOf [(1, [])] [.v (.int .i64 z0)] [.rows 1 true zl0])) k x1 x2 xl0
  | _, _ => none
def laws_markStoredS.Γ (k : Nat) : Ct κ := assoc []
def laws_markStoredS.LH (k : Nat) : Nat → Option (LHi κ) := assoc [(2, ⟨1, [(0, [some 1]), (1, []), (5, [])], [(1, [])], @laws_markStoredS.h2 k⟩)]
theorem laws_markStoredS.hΓ (k : Nat) : ∀ f g, laws_markStoredS.Γ k f = some g → CSound Try.prog f g := G_nil
theorem laws_markStoredS.e2 {R : Type} (K : Ex → St κ → Option R) (k : Nat) : ∀ (n : Nat) (x1 : Int) (x2 : Int) (xl0 : List T_impl_Stored), loopN 1 (Code.den ti (laws_markStoredS.Γ k) (laws_markStoredS.LH k) (loopAt Try.f21 0)) [(0, [some 1]), (1, []), (5, [])] [(1, [])] K n [.v (.sl 0), .v (.int .i64 x1), .v (.int .i64 x2)] [.rows 1 true xl0] = laws_markStoredS.l2 k (fun (z0 : Int) (zl0 : List T_impl_Stored) => K (.exit 0) (stOf [(1, [])] [.v (.int .i64 z0)] [.rows 1 true zl0])) n x1 x2 xl0
  | 0, _, _, _ => rfl
  | n + 1, x1, x2, xl0 => (show loopN 1 (Code.den ti (laws_markStoredS.Γ k) (laws_markStoredS.LH k) (loopAt Try.f21 0)) [(0, [some 1]), (1, []), (5, [])] [(1, [])] K (n + 1) [.v (.sl 0), .v (.int .i64 x1), .v (.int .i64 x2)] [.rows 1 true xl0] = laws_markStoredS.L2 k (fun (z0 : Int) (zl0 : List T_impl_Stored) => K (.exit 0) (stOf [(1, [])] [.v (.int .i64 z0)] [.rows 1 true zl0])) (fun (x1' : Int) (x2' : Int) (xl0' : List T_impl_Stored) => loopN 1 (Code.den ti (laws_markStoredS.Γ k) (laws_markStoredS.LH k) (loopAt Try.f21 0)) [(0, [some 1]), (1, []), (5, [])] [(1, [])] K n [.v (.sl 0), .v (.int .i64 x1'), .v (.int .i64 x2')] [.rows 1 true xl0']) x1 x2 xl0 by kernel_rfl).trans (congrArg (fun rec => laws_markStoredS.L2 k (fun (z0 : Int) (zl0 : List T_impl_Stored) => K (.exit 0) (stOf [(1, [])] [.v (.int .i64 z0)] [.rows 1 true zl0])) rec x1 x2 xl0) (funext fun x1' => funext fun x2' => funext fun xl0' => laws_markStoredS.e2 K k n x1' x2' xl0'))
theorem laws_markStoredS.q2 (k : Nat) {R : Type} (K : Ex → St κ → Option R) (vs : List AV) (bs : List (Blk κ)) (r : R) (h : laws_markStoredS.h2 k K vs bs = some r) : ∃ n, loopN 1 (Code.den ti (laws_markStoredS.Γ k) (laws_markStoredS.LH k) (loopAt Try.f21 0)) [(0, [some 1]), (1, []), (5, [])] [(1, [])] K n vs bs = some r := by
  unfold laws_markStoredS.h2 at h
  split at h
  · obtain ⟨_, rfl, h_1⟩ := asO_bind h
    exact ⟨k, (laws_markStoredS.e2 K k k _ _ _).trans h_1⟩
  · cases h
theorem laws_markStoredS.lok (k : Nat) : LOK ti (laws_markStoredS.Γ k) (laws_markStoredS.LH k) 1 (loopsOf (bodyOf Try.f21)) :=
  (show loopsOf (bodyOf Try.f21) = [loopAt Try.f21 0] by kernel_rfl) ▸ (LOK_cons (g := ⟨1, [(0, [some 1]), (1, []), (5, [])], [(1, [])], @laws_markStoredS.h2 k⟩) (by kernel_rfl) rfl (fun K vs xs r h => laws_markStoredS.q2 k K vs xs r h) (LOK_nil))
def laws_markStoredS.sig : List PSh := [.one (.rw 1), .one .sc]
def laws_markStoredS.g (y : Int × List T_impl_Stored) : Ret κ := ⟨.v (.int .i64 y.1), [.rows 1 true y.2], []⟩
def laws_markStoredS.out (r : Ret κ) : Option (Int × List T_impl_Stored) :=
  match r with
  | ⟨.v (.int .i64 z0), [q1], []⟩ => (asO 1 true q1).bind fun z1 => some (z0, z1)
  | _ => none
theorem laws_markStoredS.out_ok (r : Ret κ) (y : Int × List T_impl_Stored) (h : laws_markStoredS.out r = some y) : r = laws_markStoredS.g y := by
  unfold laws_markStoredS.out at h
  split at h
  · obtain ⟨_, rfl, h_1⟩ := asO_bind h
    obtain rfl := Option.some.inj h_1
    rfl
  · cases h
def laws_markStoredS.body (k : Nat) (vs : List AV) (bs : List (Blk κ)) : Option (Lf κ) :=
  match vs, bs with
  | [.v (.sl 0), .v (.int .i64 a1)], [qb0] => (asO 1 true qb0).bind fun a0 => some ⟨Int × List T_impl_Stored, laws_markStoredS.f k a0 a1, laws_markStoredS.g⟩
  | _, _ => none
def laws_markStoredS.C (k : Nat) : Nat → List AV → AP κ AV := contract laws_markStoredS.sig (laws_markStoredS.body k)
theorem laws_markStoredS.den (k : Nat) (a0 : List T_impl_Stored) (a1 : Int) : Code.den ti (laws_markStoredS.Γ k) (laws_markStoredS.LH k) (bodyOf Try.f21) (finK ti Try.f21.results.toList [] (flags laws_markStoredS.sig).length (rwI (flags laws_markStoredS.sig) 0) laws_markStoredS.out) ⟨envOf (([.v (.sl 0), .v (.int .i64 a1)]).zipIdx.map fun q => (q.2, q.1)), hpOf [.rows 1 true a0], (flags laws_markStoredS.sig).length⟩ = laws_markStoredS.f k a0 a1 := by kernel_rfl
theorem laws_markStoredS.ok (k : Nat) : CSound Try.prog 21 (laws_markStoredS.C k) :=
  csound κ_ok mixed tok (laws_markStoredS.hΓ k) (LH := laws_markStoredS.LH k) (fn := Try.f21) (c := bodyOf Try.f21) Try.func21 rfl Try.call21 laws_markStoredS.sig [] (laws_markStoredS.body k) (by kernel_rfl) (laws_markStoredS.lok k) (by decide) fun vs bs lf y hl hb hy => by
    unfold laws_markStoredS.body at hb
    split at hb
    · obtain ⟨_, rfl, hb_1⟩ := asO_bind hb
      obtain rfl := Option.some.inj hb_1
      exact ⟨laws_markStoredS.out, laws_markStoredS.out_ok, (laws_markStoredS.den k _ _).trans hy⟩
    · cases hb
/-! ### laws_heldStoredS -/
def laws_heldStoredS.L2 {R : Type} (k : Nat) (xl0 : List T_impl_Stored) (X0 : Int → Int → Option R) (X1 : Int → Option R) (rec : Int → Int → Option R) (x1 : Int) (x2 : Int) : Option R :=
  (bif decide (x2 < (xl0.length : Int)) then (bif decide (0 ≤ x2) then (bif decide (x2 < (xl0.length : Int)) then (bif ((rd_impl_Stored xl0 x2).f0 != x1) then (X0 x1 (-1 : Int)) else (bif decide (0 ≤ x2) then (bif decide (x2 < (xl0.length : Int)) then (bif ((rd_impl_Stored xl0 x2).f1 != (w64 (x1 + (1 : Int)))) then (X0 (w64 (x1 + (1 : Int))) (-1 : Int)) else (bif decide (0 ≤ x2) then (bif decide (x2 < (xl0.length : Int)) then (bif ((rd_impl_Stored xl0 x2).f2 != (w64 ((w64 (x1 + (1 : Int))) + (1 : Int)))) then (X0 (w64 ((w64 (x1 + (1 : Int))) + (1 : Int))) (-1 : Int)) else (bif decide (0 ≤ x2) then (bif decide (x2 < (xl0.length : Int)) then (bif ((rd_impl_Stored xl0 x2).f3 != (w64 ((w64 ((w64 (x1 + (1 : Int))) + (1 : Int))) + (1 : Int)))) then (X0 (w64 ((w64 ((w64 (x1 + (1 : Int))) + (1 : Int))) + (1 : Int))) (-1 : Int)) else (rec (w64 ((w64 ((w64 ((w64 (x1 + (1 : Int))) + (1 : Int))) + (1 : Int))) + (1 : Int))) (w64 (x2 + (1 : Int))))) else none) else none)) else none) else none)) else none) else none)) else none) else none) else (X1 x1))
def laws_heldStoredS.l2 {R : Type} (k : Nat) (xl0 : List T_impl_Stored) (X0 : Int → Int → Option R) (X1 : Int → Option R) : Nat → Int → Int → Option R
  | 0 => fun _ _ => none
  | n + 1 => laws_heldStoredS.L2 k xl0 X0 X1 (laws_heldStoredS.l2 k xl0 X0 X1 n)
def laws_heldStoredS.f (k : Nat) (a0 : List T_impl_Stored) (a1 : Int) : Option Int :=
  (laws_heldStoredS.l2 k a0 (fun (y1 : Int) (y2 : Int) => some y2) (fun (y3 : Int) => some y3) k a1 (0 : Int))
def laws_heldStoredS.h2 (k : Nat) {R : Type} (K : Ex → St κ → Option R) (vs : List AV) (bs : List (Blk κ)) : Option R :=
  match vs, bs with
  | [.v (.sl 0), .v (.int .i64 x1), .v (.int .i64 x2)], [qb0] => (asO 1 false qb0).bind fun xl0 => laws_heldStoredS.l2 k xl0 (fun (z0 : Int) (z1 : Int) => K .ret (stOf [(1, []), (4, [])] [.v (.int .i64 z0), .v (.int .i64 z1)] [.rows 1 false xl0])) (fun (z0 : Int) => K (.exit 0) (stOf [(1, []), (4, [])] [.v (.int .i64 z0), .v .any] [.rows 1 false xl0])) k x1 x2
  | _, _ => none
def laws_heldStoredS.Γ (k : Nat) : Ct κ := assoc []
def laws_heldStoredS.LH (k : Nat) : Nat → Option (LHi κ) := assoc [(2, ⟨1, [(0, [some 1]), (1, []), (5, [])], [(1, []), (4, [])], @laws_heldStoredS.h2 k⟩)]
theorem laws_heldStoredS.hΓ (k : Nat) : ∀ f g, laws_heldStoredS.Γ k f = some g → CSound Try.prog f g := G_nil
theorem laws_heldStoredS.e2 {R : Type} (K : Ex → St κ → Option R) (k : Nat) (xl0 : List T_impl_Stored) : ∀ (n : Nat) (x1 : Int) (x2 : Int), loopN 1 (Code.den ti (laws_heldStoredS.Γ k) (laws_heldStoredS.LH k) (loopAt Try.f22 0)) [(0, [some 1]), (1, []), (5, [])] [(1, []), (4, [])] K n [.v (.sl 0), .v (.int .i64 x1), .v (.int .i64 x2)] [.rows 1 false xl0] = laws_heldStoredS.l2 k xl0 (fun (z0 : Int) (z1 : Int) => K .ret (stOf [(1, []), (4, [])] [.v (.int .i64 z0), .v (.int .i64 z1)] [.rows 1 false xl0])) (fun (z0 : Int) => K (.exit 0) (stOf [(1, []), (4, [])] [.v (.int .i64 z0), .v .any] [.rows 1 false xl0])) n x1 x2
  | 0, _, _ => rfl
  | n + 1, x1, x2 => (show loopN 1 (Code.den ti (laws_heldStoredS.Γ k) (laws_heldStoredS.LH k) (loopAt Try.f22 0)) [(0, [some 1]), (1, []), (5, [])] [(1, []), (4, [])] K (n + 1) [.v (.sl 0), .v (.int .i64 x1), .v (.int .i64 x2)] [.rows 1 false xl0] = laws_heldStoredS.L2 k xl0 (fun (z0 : Int) (z1 : Int) => K .ret (stOf [(1, []), (4, [])] [.v (.int .i64 z0), .v (.int .i64 z1)] [.rows 1 false xl0])) (fun (z0 : Int) => K (.exit 0) (stOf [(1, []), (4, [])] [.v (.int .i64 z0), .v .any] [.rows 1 false xl0])) (fun (x1' : Int) (x2' : Int) => loopN 1 (Code.den ti (laws_heldStoredS.Γ k) (laws_heldStoredS.LH k) (loopAt Try.f22 0)) [(0, [some 1]), (1, []), (5, [])] [(1, []), (4, [])] K n [.v (.sl 0), .v (.int .i64 x1'), .v (.int .i64 x2')] [.rows 1 false xl0]) x1 x2 by kernel_rfl).trans (congrArg (fun rec => laws_heldStoredS.L2 k xl0 (fun (z0 : Int) (z1 : Int) => K .ret (stOf [(1, []), (4, [])] [.v (.int .i64 z0), .v (.int .i64 z1)] [.rows 1 false xl0])) (fun (z0 : Int) => K (.exit 0) (stOf [(1, []), (4, [])] [.v (.int .i64 z0), .v .any] [.rows 1 false xl0])) rec x1 x2) (funext fun x1' => funext fun x2' => laws_heldStoredS.e2 K k xl0 n x1' x2'))
theorem laws_heldStoredS.q2 (k : Nat) {R : Type} (K : Ex → St κ → Option R) (vs : List AV) (bs : List (Blk κ)) (r : R) (h : laws_heldStoredS.h2 k K vs bs = some r) : ∃ n, loopN 1 (Code.den ti (laws_heldStoredS.Γ k) (laws_heldStoredS.LH k) (loopAt Try.f22 0)) [(0, [some 1]), (1, []), (5, [])] [(1, []), (4, [])] K n vs bs = some r := by
  unfold laws_heldStoredS.h2 at h
  split at h
  · obtain ⟨_, rfl, h_1⟩ := asO_bind h
    exact ⟨k, (laws_heldStoredS.e2 K k _ k _ _).trans h_1⟩
  · cases h
theorem laws_heldStoredS.lok (k : Nat) : LOK ti (laws_heldStoredS.Γ k) (laws_heldStoredS.LH k) 1 (loopsOf (bodyOf Try.f22)) :=
  (show loopsOf (bodyOf Try.f22) = [loopAt Try.f22 0] by kernel_rfl) ▸ (LOK_cons (g := ⟨1, [(0, [some 1]), (1, []), (5, [])], [(1, []), (4, [])], @laws_heldStoredS.h2 k⟩) (by kernel_rfl) rfl (fun K vs xs r h => laws_heldStoredS.q2 k K vs xs r h) (LOK_nil))
def laws_heldStoredS.sig : List PSh := [.one (.ro 1), .one .sc]
def laws_heldStoredS.g (y : Int) : Ret κ := ⟨.v (.int .i64 y), [], []⟩
def laws_heldStoredS.out (r : Ret κ) : Option Int :=
  match r with
  | ⟨.v (.int .i64 z0), [], []⟩ => some (z0)
  | _ => none
theorem laws_heldStoredS.out_ok (r : Ret κ) (y : Int) (h : laws_heldStoredS.out r = some y) : r = laws_heldStoredS.g y := by
  unfold laws_heldStoredS.out at h
  split at h
  · obtain rfl := Option.some.inj h
    rfl
  · cases h
def laws_heldStoredS.body (k : Nat) (vs : List AV) (bs : List (Blk κ)) : Option (Lf κ) :=
  match vs, bs with
  | [.v (.sl 0), .v (.int .i64 a1)], [qb0] => (asO 1 false qb0).bind fun a0 => some ⟨Int, laws_heldStoredS.f k a0 a1, laws_heldStoredS.g⟩
  | _, _ => none
def laws_heldStoredS.C (k : Nat) : Nat → List AV → AP κ AV := contract laws_heldStoredS.sig (laws_heldStoredS.body k)
theorem laws_heldStoredS.den (k : Nat) (a0 : List T_impl_Stored) (a1 : Int) : Code.den ti (laws_heldStoredS.Γ k) (laws_heldStoredS.LH k) (bodyOf Try.f22) (finK ti Try.f22.results.toList [] (flags laws_heldStoredS.sig).length (rwI (flags laws_heldStoredS.sig) 0) laws_heldStoredS.out) ⟨envOf (([.v (.sl 0), .v (.int .i64 a1)]).zipIdx.map fun q => (q.2, q.1)), hpOf [.rows 1 false a0], (flags laws_heldStoredS.sig).length⟩ = laws_heldStoredS.f k a0 a1 := by kernel_rfl
theorem laws_heldStoredS.ok (k : Nat) : CSound Try.prog 22 (laws_heldStoredS.C k) :=
  csound κ_ok mixed tok (laws_heldStoredS.hΓ k) (LH := laws_heldStoredS.LH k) (fn := Try.f22) (c := bodyOf Try.f22) Try.func22 rfl Try.call22 laws_heldStoredS.sig [] (laws_heldStoredS.body k) (by kernel_rfl) (laws_heldStoredS.lok k) (by decide) fun vs bs lf y hl hb hy => by
    unfold laws_heldStoredS.body at hb
    split at hb
    · obtain ⟨_, rfl, hb_1⟩ := asO_bind hb
      obtain rfl := Option.some.inj hb_1
      exact ⟨laws_heldStoredS.out, laws_heldStoredS.out_ok, (laws_heldStoredS.den k _ _).trans hy⟩
    · cases hb
/-! ### laws_FnExactMergeStores -/
def laws_FnExactMergeStores.f (k : Nat) (a0 : List T_laws_Stored) (a1 : List T_laws_Stored) : Option Bool :=
  (laws_szStoredS.f k a0 (1048576 : Int)).bind fun t1 => (bif decide (t1 < (0 : Int)) then some true else (laws_szStoredS.f k a1 t1).bind fun t2 => (bif decide (t2 < (0 : Int)) then some true else (laws_toStoredS.f k a0).bind fun t3 => (laws_toStoredS.f k a1).bind fun t4 => (spec_MergeStores.f k t3 t4).bind fun t5 => (laws_toStoredS.f k a0).bind fun t6 => (laws_toStoredS.f k a1).bind fun t7 => (impl_MergeStores.f k t6 t7).bind fun t8 => (laws_eqStoredS.f k t8.2 t5.2).bind fun t9 => (bif !t9 then some false else (bif !(t8.1 == t5.1) then some false else (laws_toStoredS.f k a0).bind fun t10 => (laws_eqStoredS.f k t6 t10).bind fun t11 => (bif !t11 then some false else (laws_toStoredS.f k a1).bind fun t12 => (laws_eqStoredS.f k t7 t12).bind fun t13 => (bif !t13 then some false else (laws_markStoredS.f k t6 (1 : Int)).bind fun t14 => (laws_markStoredS.f k t7 t14.1).bind fun t15 => (bif decide (t15.1 < (0 : Int)) then some false else (laws_eqStoredS.f k t8.2 t5.2).bind fun t16 => (bif !t16 then some false else (bif !(t8.1 == t5.1) then some false else (laws_markStoredS.f k t8.2 (1 : Int)).bind fun t17 => (laws_heldStoredS.f k t17.2 (1 : Int)).bind fun t18 => (bif decide (t18 < (0 : Int)) then some false else (bif (t18 != t17.1) then some false else (laws_toStoredS.f k a0).bind fun t19 => (laws_toStoredS.f k a1).bind fun t20 => (impl_MergeStores.f k t19 t20).bind fun t21 => (laws_eqStoredS.f k t21.2 t5.2).bind fun t22 => (bif !t22 then some false else (bif !(t21.1 == t5.1) then some false else (laws_heldStoredS.f k t17.2 (1 : Int)).bind fun t23 => (bif decide (t23 < (0 : Int)) then some false else (bif (t23 != t17.1) then some false else some true)))))))))))))))
def laws_FnExactMergeStores.Γ (k : Nat) : Ct κ := assoc [(16, laws_szStoredS.C k), (18, laws_toStoredS.C k), (17, spec_MergeStores.C k), (19, impl_MergeStores.C k), (20, laws_eqStoredS.C k), (21, laws_markStoredS.C k), (22, laws_heldStoredS.C k)]
def laws_FnExactMergeStores.LH (k : Nat) : Nat → Option (LHi κ) := assoc []
theorem laws_FnExactMergeStores.hΓ (k : Nat) : ∀ f g, laws_FnExactMergeStores.Γ k f = some g → CSound Try.prog f g := G_cons (laws_szStoredS.ok k) (G_cons (laws_toStoredS.ok k) (G_cons (spec_MergeStores.ok k) (G_cons (impl_MergeStores.ok k) (G_cons (laws_eqStoredS.ok k) (G_cons (laws_markStoredS.ok k) (G_cons (laws_heldStoredS.ok k) G_nil))))))
theorem laws_FnExactMergeStores.lok (k : Nat) : LOK ti (laws_FnExactMergeStores.Γ k) (laws_FnExactMergeStores.LH k) 2 (loopsOf (bodyOf Try.f4)) :=
  (show loopsOf (bodyOf Try.f4) = [] by kernel_rfl) ▸ LOK_nil
def laws_FnExactMergeStores.sig : List PSh := [.one (.ro 0), .one (.ro 0)]
def laws_FnExactMergeStores.g (y : Bool) : Ret κ := ⟨.v (.bool y), [], []⟩
def laws_FnExactMergeStores.out (r : Ret κ) : Option Bool :=
  match r with
  | ⟨.v (.bool z0), [], []⟩ => some (z0)
  | _ => none
theorem laws_FnExactMergeStores.out_ok (r : Ret κ) (y : Bool) (h : laws_FnExactMergeStores.out r = some y) : r = laws_FnExactMergeStores.g y := by
  unfold laws_FnExactMergeStores.out at h
  split at h
  · obtain rfl := Option.some.inj h
    rfl
  · cases h
def laws_FnExactMergeStores.body (k : Nat) (vs : List AV) (bs : List (Blk κ)) : Option (Lf κ) :=
  match vs, bs with
  | [.v (.sl 0), .v (.sl 1)], [qb0, qb1] => (asO 0 false qb0).bind fun a0 => (asO 0 false qb1).bind fun a1 => some ⟨Bool, laws_FnExactMergeStores.f k a0 a1, laws_FnExactMergeStores.g⟩
  | _, _ => none
def laws_FnExactMergeStores.C (k : Nat) : Nat → List AV → AP κ AV := contract laws_FnExactMergeStores.sig (laws_FnExactMergeStores.body k)
theorem laws_FnExactMergeStores.den (k : Nat) (a0 : List T_laws_Stored) (a1 : List T_laws_Stored) : Code.den ti (laws_FnExactMergeStores.Γ k) (laws_FnExactMergeStores.LH k) (bodyOf Try.f4) (finK ti Try.f4.results.toList [] (flags laws_FnExactMergeStores.sig).length (rwI (flags laws_FnExactMergeStores.sig) 0) laws_FnExactMergeStores.out) ⟨envOf (([.v (.sl 0), .v (.sl 1)]).zipIdx.map fun q => (q.2, q.1)), hpOf [.rows 0 false a0, .rows 0 false a1], (flags laws_FnExactMergeStores.sig).length⟩ = laws_FnExactMergeStores.f k a0 a1 := by kernel_rfl
theorem laws_FnExactMergeStores.ok (k : Nat) : CSound Try.prog 4 (laws_FnExactMergeStores.C k) :=
  csound κ_ok mixed tok (laws_FnExactMergeStores.hΓ k) (LH := laws_FnExactMergeStores.LH k) (fn := Try.f4) (c := bodyOf Try.f4) Try.func4 rfl Try.call4 laws_FnExactMergeStores.sig [] (laws_FnExactMergeStores.body k) (by kernel_rfl) (laws_FnExactMergeStores.lok k) (by decide) fun vs bs lf y hl hb hy => by
    unfold laws_FnExactMergeStores.body at hb
    split at hb
    · obtain ⟨_, rfl, hb_1⟩ := asO_bind hb
      obtain ⟨_, rfl, hb_2⟩ := asO_bind hb_1
      obtain rfl := Option.some.inj hb_2
      exact ⟨laws_FnExactMergeStores.out, laws_FnExactMergeStores.out_ok, (laws_FnExactMergeStores.den k _ _).trans hy⟩
    · cases hb
end Go.Proofs.Ytmjflahlhgibnaa.PFnExactMergeStores
