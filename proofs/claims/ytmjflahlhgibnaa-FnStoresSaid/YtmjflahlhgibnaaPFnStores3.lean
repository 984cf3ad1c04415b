/- What the functions that the law FnStores reaches come to; no conditions. -/
import Derived.Test.YtmjflahlhgibnaaPFnStores2
set_option linter.unusedVariables false
set_option maxRecDepth 100000
namespace Go.Proofs.Ytmjflahlhgibnaa.PFnStores
open Go Go.Eng Go.Proofs
/-! ### spec_l1Once -/
def spec_l1Once.f (k : Nat) (a0_0 : List Int) (a0_1 : Int) (a0_2 : Int) (a1 : Int) : Option (Bool × Int × Int) :=
  (spec_l1Below.f k a0_0 a0_1 a0_2 a1).bind fun t1 => some ((t1.1 == (0 : Int)), t1.2.1, t1.2.2)
def spec_l1Once.Γ (k : Nat) : Ct κ := assoc [(62, spec_l1Below.C k)]
def spec_l1Once.LH (k : Nat) : Nat → Option (LHi κ) := assoc []
theorem spec_l1Once.hΓ (k : Nat) : ∀ f g, spec_l1Once.Γ k f = some g → CSound Try.prog f g := G_cons (spec_l1Below.ok k) G_nil
theorem spec_l1Once.lok (k : Nat) : LOK ti (spec_l1Once.Γ k) (spec_l1Once.LH k) 2 (loopsOf (bodyOf Try.f42)) :=
  (show loopsOf (bodyOf Try.f42) = [] by kernel_rfl) ▸ LOK_nil
def spec_l1Once.sig : List PSh := [.cur 106 [.ro 0, .sc, .sc], .one .sc]
def spec_l1Once.g (y : Bool × Int × Int) : Ret κ := ⟨.v (.bool y.1), [.cells 106 [.sl 1, .int .i64 y.2.1, .int .i64 y.2.2]], []⟩
def spec_l1Once.out (r : Ret κ) : Option (Bool × Int × Int) :=
  match r with
  | ⟨.v (.bool z0), [.cells 106 [.sl 1, .int .i64 z1, .int .i64 z2]], []⟩ => some (z0, z1, z2)
  | _ => none
theorem spec_l1Once.out_ok (r : Ret κ) (y : Bool × Int × Int) (h : spec_l1Once.out r = some y) : r = spec_l1Once.g y := by
  unfold spec_l1Once.out at h
  split at h
  · obtain rfl := Option.some.inj h
    rfl
  · cases h
def spec_l1Once.body (k : Nat) (vs : List AV) (bs : List (Blk κ)) : Option (Lf κ) :=
  match vs, bs with
  | [.v (.ptr 0 0 0), .v (.int .i64 a1)], [.cells 106 [.sl 1, .int .i64 a0_1, .int .i64 a0_2], qb1] => (asO 0 false qb1).bind fun a0_0 => some ⟨Bool × Int × Int, spec_l1Once.f k a0_0 a0_1 a0_2 a1, spec_l1Once.g⟩
  | _, _ => none
def spec_l1Once.C (k : Nat) : Nat → List AV → AP κ AV := contract spec_l1Once.sig (spec_l1Once.body k)
theorem spec_l1Once.den (k : Nat) (a0_0 : List Int) (a0_1 : Int) (a0_2 : Int) (a1 : Int) : Code.den ti (spec_l1Once.Γ k) (spec_l1Once.LH k) (bodyOf Try.f42) (finK ti Try.f42.results.toList [] (flags spec_l1Once.sig).length (rwI (flags spec_l1Once.sig) 0) spec_l1Once.out) ⟨envOf (([.v (.ptr 0 0 0), .v (.int .i64 a1)]).zipIdx.map fun q => (q.2, q.1)), hpOf [.cells 106 [.sl 1, .int .i64 a0_1, .int .i64 a0_2], .rows 0 false a0_0], (flags spec_l1Once.sig).length⟩ = spec_l1Once.f k a0_0 a0_1 a0_2 a1 := by kernel_rfl
theorem spec_l1Once.ok (k : Nat) : CSound Try.prog 42 (spec_l1Once.C k) :=
  csound κ_ok mixed tok (spec_l1Once.hΓ k) (LH := spec_l1Once.LH k) (fn := Try.f42) (c := bodyOf Try.f42) Try.func42 rfl Try.call42 spec_l1Once.sig [] (spec_l1Once.body k) (by kernel_rfl) (spec_l1Once.lok k) (by decide) fun vs bs lf y hl hb hy => by
    unfold spec_l1Once.body at hb
    split at hb
    · obtain ⟨_, rfl, hb_1⟩ := asO_bind hb
      obtain rfl := Option.some.inj hb_1
      exact ⟨spec_l1Once.out, spec_l1Once.out_ok, (spec_l1Once.den k _ _ _ _).trans hy⟩
    · cases hb
/-! ### spec_DrawPutStored -/
def spec_DrawPutStored.f (k : Nat) (a0 : List Int) : Option (Int × Int × Int × List T_impl_Stored) :=
  (spec_DrawGetStored.f k a0).bind fun t1 => (spec_l1New.f k a0).bind fun t2 => (spec_l1Once.f k a0 t2.1 t2.2 (9 : Int)).bind fun t3 => (bif t3.1 then (spec_l9Raw.f k a0 t3.2.1 t3.2.2).bind fun t4 => (spec_l1Int.f k a0 t4.2.1 t4.2.2 ([(0 : Int), (7 : Int), (999 : Int), (1000 : Int), (-1 : Int)] : List Int)).bind fun t5 => some (t1.1, t4.1, t5.1, t1.2.2) else (spec_l1Int.f k a0 t3.2.1 t3.2.2 ([(0 : Int), (7 : Int), (999 : Int), (1000 : Int), (-1 : Int)] : List Int)).bind fun t6 => some (t1.1, t1.2.1, t6.1, t1.2.2))
def spec_DrawPutStored.Γ (k : Nat) : Ct κ := assoc [(52, spec_DrawGetStored.C k), (37, spec_l1New.C k), (42, spec_l1Once.C k), (53, spec_l9Raw.C k), (38, spec_l1Int.C k)]
def spec_DrawPutStored.LH (k : Nat) : Nat → Option (LHi κ) := assoc []
theorem spec_DrawPutStored.hΓ (k : Nat) : ∀ f g, spec_DrawPutStored.Γ k f = some g → CSound Try.prog f g := G_cons (spec_DrawGetStored.ok k) (G_cons (spec_l1New.ok k) (G_cons (spec_l1Once.ok k) (G_cons (spec_l9Raw.ok k) (G_cons (spec_l1Int.ok k) G_nil))))
theorem spec_DrawPutStored.lok (k : Nat) : LOK ti (spec_DrawPutStored.Γ k) (spec_DrawPutStored.LH k) 1 (loopsOf (bodyOf Try.f25)) :=
  (show loopsOf (bodyOf Try.f25) = [] by kernel_rfl) ▸ LOK_nil
def spec_DrawPutStored.sig : List PSh := [.one (.ro 0)]
def spec_DrawPutStored.g (y : Int × Int × Int × List T_impl_Stored) : Ret κ := ⟨.tup [(false, [.sl 1]), (false, [.int .i64 y.1]), (false, [.int .i64 y.2.1]), (false, [.int .i64 y.2.2.1])], [], [.rows 1 true y.2.2.2]⟩
def spec_DrawPutStored.out (r : Ret κ) : Option (Int × Int × Int × List T_impl_Stored) :=
  match r with
  | ⟨.tup [(false, [.sl 1]), (false, [.int .i64 z0]), (false, [.int .i64 z1]), (false, [.int .i64 z2])], [], [q3]⟩ => (asO 1 true q3).bind fun z3 => some (z0, z1, z2, z3)
  | _ => none
theorem spec_DrawPutStored.out_ok (r : Ret κ) (y : Int × Int × Int × List T_impl_Stored) (h : spec_DrawPutStored.out r = some y) : r = spec_DrawPutStored.g y := by
  unfold spec_DrawPutStored.out at h
  split at h
  · obtain ⟨_, rfl, h_1⟩ := asO_bind h
    obtain rfl := Option.some.inj h_1
    rfl
  · cases h
def spec_DrawPutStored.body (k : Nat) (vs : List AV) (bs : List (Blk κ)) : Option (Lf κ) :=
  match vs, bs with
  | [.v (.sl 0)], [qb0] => (asO 0 false qb0).bind fun a0 => some ⟨Int × Int × Int × List T_impl_Stored, spec_DrawPutStored.f k a0, spec_DrawPutStored.g⟩
  | _, _ => none
def spec_DrawPutStored.C (k : Nat) : Nat → List AV → AP κ AV := contract spec_DrawPutStored.sig (spec_DrawPutStored.body k)
theorem spec_DrawPutStored.den (k : Nat) (a0 : List Int) : Code.den ti (spec_DrawPutStored.Γ k) (spec_DrawPutStored.LH k) (bodyOf Try.f25) (finK ti Try.f25.results.toList [(2, [some 1])] (flags spec_DrawPutStored.sig).length (rwI (flags spec_DrawPutStored.sig) 0) spec_DrawPutStored.out) ⟨envOf (([.v (.sl 0)]).zipIdx.map fun q => (q.2, q.1)), hpOf [.rows 0 false a0], (flags spec_DrawPutStored.sig).length⟩ = spec_DrawPutStored.f k a0 := by kernel_rfl
theorem spec_DrawPutStored.ok (k : Nat) : CSound Try.prog 25 (spec_DrawPutStored.C k) :=
  csound κ_ok mixed tok (spec_DrawPutStored.hΓ k) (LH := spec_DrawPutStored.LH k) (fn := Try.f25) (c := bodyOf Try.f25) Try.func25 rfl Try.call25 spec_DrawPutStored.sig [(2, [some 1])] (spec_DrawPutStored.body k) (by kernel_rfl) (spec_DrawPutStored.lok k) (by decide) fun vs bs lf y hl hb hy => by
    unfold spec_DrawPutStored.body at hb
    split at hb
    · obtain ⟨_, rfl, hb_1⟩ := asO_bind hb
      obtain rfl := Option.some.inj hb_1
      exact ⟨spec_DrawPutStored.out, spec_DrawPutStored.out_ok, (spec_DrawPutStored.den k _).trans hy⟩
    · cases hb
/-! ### slices_Insert_Stored -/
def slices_Insert_Stored.ren : Go.Shelf.Ren := ⟨fun | 22 => 54 | 29 => 70 | 30 => 71 | n => n, fun | 0 => 0 | 3 => 3 | 4 => 4 | 9 => 48 | 24 => 24 | n => n, fun n => n⟩
theorem slices_Insert_Stored.lays : InsL Try.prog slices_Insert_Stored.ren (.agg #[.int .i64 0, .int .i64 0, .int .i64 0, .int .i64 0]) 32 where
  mixed := mixed
  f22 := ⟨Try.f54.name, Try.func54.trans (congrArg some (by kernel_rfl))⟩
  f29 := fun args w => run_callFunc_extern Try.func70 (by kernel_rfl) (by kernel_rfl) (by kernel_rfl) (e := Extern.SlicesOverlaps.overlaps #[24, 24] #[4]) (by kernel_rfl) args w
  t0 := Try.underlying0
  a0 := Try.isAgg0
  z0 := Try.sizeOf0
  v0 := Try.zeroValue0
  t3 := Try.underlying3
  a3 := Try.isAgg3
  z3 := Try.sizeOf3
  v3 := Try.zeroValue3
  t4 := Try.underlying4
  a4 := Try.isAgg4
  z4 := Try.sizeOf4
  v4 := Try.zeroValue4
  z9 := Try.sizeOf48
  t24 := Try.underlying24
  a24 := Try.isAgg24
  z24 := Try.sizeOf24
  v24 := Try.zeroValue24
  i9 := by kernel_rfl
  zs := by kernel_rfl
def slices_Insert_Stored.f (k : Nat) (l : List T_impl_Stored) (i : Int) (x : List T_impl_Stored) : Option (List T_impl_Stored) := insF 1 κ l i x
def slices_Insert_Stored.C (k : Nat) : Nat → List AV → AP κ AV := contract [.one (.rw 1), .one .sc, .one (.rw 1)] (insB 1 κ)
theorem slices_Insert_Stored.ok (k : Nat) : CSound Try.prog 54 (slices_Insert_Stored.C k) :=
  ins_sound κ_ok slices_Insert_Stored.lays Try.call54 1 rfl rfl rfl
/-! ### impl_PutStored -/
def impl_PutStored.L8 {R : Type} (k : Nat) (xl0 : List T_impl_Stored) (xl1 : List T_impl_Stored) (xc2_0 : Int) (xc2_1 : Int) (xc2_2 : Int) (xc2_3 : Int) (X0 : Int → Option R) (rec : Int → Option R) (x3 : Int) : Option R :=
  (bif decide (x3 < (xl0.length : Int)) then (bif decide (0 ≤ x3) then (bif decide (x3 < (xl0.length : Int)) then (impl_compareStored.f k ((rd_impl_Stored xl0 x3).f0) ((rd_impl_Stored xl0 x3).f1) ((rd_impl_Stored xl0 x3).f2) ((rd_impl_Stored xl0 x3).f3) xc2_0 xc2_1 xc2_2 xc2_3).bind fun t6 => (bif decide (t6 < (0 : Int)) then (rec (w64 (x3 + (1 : Int)))) else (X0 x3)) else none) else none) else (X0 x3))
def impl_PutStored.l8 {R : Type} (k : Nat) (xl0 : List T_impl_Stored) (xl1 : List T_impl_Stored) (xc2_0 : Int) (xc2_1 : Int) (xc2_2 : Int) (xc2_3 : Int) (X0 : Int → Option R) : Nat → Int → Option R
  | 0 => fun _ => none
  | n + 1 => impl_PutStored.L8 k xl0 xl1 xc2_0 xc2_1 xc2_2 xc2_3 X0 (impl_PutStored.l8 k xl0 xl1 xc2_0 xc2_1 xc2_2 xc2_3 X0 n)
def impl_PutStored.f (k : Nat) (a0 : List T_impl_Stored) (a1 : Int) (a2 : Int) (a3 : Int) : Option (Bool × List T_impl_Stored) :=
  (slices_Clone_Stored.f k a0).bind fun t1 => (impl_placeOf.f k a0 a1 a2).bind fun t2 => (bif decide (t2 ≥ (0 : Int)) then (bif decide (0 ≤ t2) then (bif decide (t2 < (a0.length : Int)) then (bif decide (0 ≤ t2) then (bif decide (t2 < (t1.length : Int)) then (let l3 : List T_impl_Stored := (t1.set (t2).toNat (⟨a1, a2, a3, (w64 ((rd_impl_Stored a0 t2).f3 + (1 : Int)))⟩ : T_impl_Stored)); (impl_IsStore.f k l3).bind fun t4 => (bif !t4 then (slices_Clone_Stored.f k a0).bind fun t5 => some (false, t5) else some (true, l3))) else none) else none) else none) else none) else (impl_PutStored.l8 k a0 t1 a1 a2 a3 (1 : Int) (fun (y7 : Int) => (slices_Insert_Stored.f k t1 y7 ([(⟨a1, a2, a3, (1 : Int)⟩ : T_impl_Stored)] : List T_impl_Stored)).bind fun t8 => (impl_IsStore.f k t8).bind fun t9 => (bif !t9 then (slices_Clone_Stored.f k a0).bind fun t10 => some (false, t10) else some (true, t8))) k (0 : Int)))
def impl_PutStored.h8 (k : Nat) {R : Type} (K : Ex → St κ → Option R) (vs : List AV) (bs : List (Blk κ)) : Option R :=
  match vs, bs with
  | [.v (.sl 0), .v (.sl 1), .v (.ptr 2 0 0), .v (.int .i64 x3)], [qb0, qb1, .cells 48 [.int .i64 xc2_0, .int .i64 xc2_1, .int .i64 xc2_2, .int .i64 xc2_3]] => (asO 1 false qb0).bind fun xl0 => (asO 1 true qb1).bind fun xl1 => impl_PutStored.l8 k xl0 xl1 xc2_0 xc2_1 xc2_2 xc2_3 (fun (z3 : Int) => K (.exit 0) (stOf [(0, [some 1]), (10, [some 1]), (11, []), (13, [])] [.v (.sl 0), .v (.sl 1), .v (.ptr 2 0 0), .v (.int .i64 z3)] [.rows 1 false xl0, .rows 1 true xl1, .cells 48 [.int .i64 xc2_0, .int .i64 xc2_1, .int .i64 xc2_2, .int .i64 xc2_3]])) k x3
  | _, _ => none
def impl_PutStored.Γ (k : Nat) : Ct κ := assoc [(39, slices_Clone_Stored.C k), (49, impl_placeOf.C k), (15, impl_IsStore.C k), (44, impl_compareStored.C k), (54, slices_Insert_Stored.C k)]
def impl_PutStored.LH (k : Nat) : Nat → Option (LHi κ) := assoc [(8, ⟨1, [(0, [some 1]), (10, [some 1]), (11, []), (13, [])], [(0, [some 1]), (10, [some 1]), (11, []), (13, [])], @impl_PutStored.h8 k⟩)]
theorem impl_PutStored.hΓ (k : Nat) : ∀ f g, impl_PutStored.Γ k f = some g → CSound Try.prog f g := G_cons (slices_Clone_Stored.ok k) (G_cons (impl_placeOf.ok k) (G_cons (impl_IsStore.ok k) (G_cons (impl_compareStored.ok k) (G_cons (slices_Insert_Stored.ok k) G_nil))))
theorem impl_PutStored.e8 {R : Type} (K : Ex → St κ → Option R) (k : Nat) (xl0 : List T_impl_Stored) (xl1 : List T_impl_Stored) (xc2_0 : Int) (xc2_1 : Int) (xc2_2 : Int) (xc2_3 : Int) : ∀ (n : Nat) (x3 : Int), loopN 1 (Code.den ti (impl_PutStored.Γ k) (impl_PutStored.LH k) (loopAt Try.f26 0)) [(0, [some 1]), (10, [some 1]), (11, []), (13, [])] [(0, [some 1]), (10, [some 1]), (11, []), (13, [])] K n [.v (.sl 0), .v (.sl 1), .v (.ptr 2 0 0), .v (.int .i64 x3)] [.rows 1 false xl0, .rows 1 true xl1, .cells 48 [.int .i64 xc2_0, .int .i64 xc2_1, .int .i64 xc2_2, .int .i64 xc2_3]] = impl_PutStored.l8 k xl0 xl1 xc2_0 xc2_1 xc2_2 xc2_3 (fun (z3 : Int) => K (.exit 0) (stOf [(0, [some 1]), (10, [some 1]), (11, []), (13, [])] [.v (.sl 0), .v (.sl 1), .v (.ptr 2 0 0), .v (.int .i64 z3)] [.rows 1 false xl0, .rows 1 true xl1, .cells 48 [.int .i64 xc2_0, .int .i64 xc2_1, .int .i64 xc2_2, .int .i64 xc2_3]])) n x3
  | 0, _ => rfl
  | n + 1, x3 => (show loopN 1 (Code.den ti (impl_PutStored.Γ k) (impl_PutStored.LH k) (loopAt Try.f26 0)) [(0, [some 1]), (10, [some 1]), (11, []), (13, [])] [(0, [some 1]), (10, [some 1]), (11, []), (13, [])] K (n + 1) [.v (.sl 0), .v (.sl 1), .v (.ptr 2 0 0), .v (.int .i64 x3)] [.rows 1 false xl0, .rows 1 true xl1, .cells 48 [.int .i64 xc2_0, .int .i64 xc2_1, .int .i64 xc2_2, .int .i64 xc2_3]] = impl_PutStored.L8 k xl0 xl1 xc2_0 xc2_1 xc2_2 xc2_3 (fun (z3 : Int) => K (.exit 0) (stOf [(0, [some 1]), (10, [some 1]), (11, []), (13, [])] [.v (.sl 0), .v (.sl 1), .v (.ptr 2 0 0), .v (.int .i64 z3)] [.rows 1 false xl0, .rows 1 true xl1, .cells 48 [.int .i64 xc2_0, .int .i64 xc2_1, .int .i64 xc2_2, .int .i64 xc2_3]])) (fun (x3' : Int) => loopN 1 (Code.den ti (impl_PutStored.Γ k) (impl_PutStored.LH k) (loopAt Try.f26 0)) [(0, [some 1]), (10, [some 1]), (11, []), (13, [])] [(0, [some 1]), (10, [some 1]), (11, []), (13, [])] K n [.v (.sl 0), .v (.sl 1), .v (.ptr 2 0 0), .v (.int .i64 x3')] [.rows 1 false xl0, .rows 1 true xl1, .cells 48 [.int .i64 xc2_0, .int .i64 xc2_1, .int .i64 xc2_2, .int .i64 xc2_3]]) x3 by kernel_rfl).trans (congrArg (fun rec => impl_PutStored.L8 k xl0 xl1 xc2_0 xc2_1 xc2_2 xc2_3 (fun (z3 : Int) => K (.exit 0) (stOf [(0, [some 1]), (10, [some 1]), (11, []), (13, [])] [.v (.sl 0), .v (.sl 1), .v (.ptr 2 0 0), .v (.int .i64 z3)] [.rows 1 false xl0, .rows 1 true xl1, .cells 48 [.int .i64 xc2_0, .int .i64 xc2_1, .int .i64 xc2_2, .int .i64 xc2_3]])) rec x3) (funext fun x3' => impl_PutStored.e8 K k xl0 xl1 xc2_0 xc2_1 xc2_2 xc2_3 n x3'))
theorem impl_PutStored.q8 (k : Nat) {R : Type} (K : Ex → St κ → Option R) (vs : List AV) (bs : List (Blk κ)) (r : R) (h : impl_PutStored.h8 k K vs bs = some r) : ∃ n, loopN 1 (Code.den ti (impl_PutStored.Γ k) (impl_PutStored.LH k) (loopAt Try.f26 0)) [(0, [some 1]), (10, [some 1]), (11, []), (13, [])] [(0, [some 1]), (10, [some 1]), (11, []), (13, [])] K n vs bs = some r := by
  unfold impl_PutStored.h8 at h
  split at h
  · obtain ⟨_, rfl, h_1⟩ := asO_bind h
    obtain ⟨_, rfl, h_2⟩ := asO_bind h_1
    exact ⟨k, (impl_PutStored.e8 K k _ _ _ _ _ _ k _).trans h_2⟩
  · cases h
theorem impl_PutStored.lok (k : Nat) : LOK ti (impl_PutStored.Γ k) (impl_PutStored.LH k) 1 (loopsOf (bodyOf Try.f26)) :=
  (show loopsOf (bodyOf Try.f26) = [loopAt Try.f26 0] by kernel_rfl) ▸ (LOK_cons (g := ⟨1, [(0, [some 1]), (10, [some 1]), (11, []), (13, [])], [(0, [some 1]), (10, [some 1]), (11, []), (13, [])], @impl_PutStored.h8 k⟩) (by kernel_rfl) rfl (fun K vs xs r h => impl_PutStored.q8 k K vs xs r h) (LOK_nil))
def impl_PutStored.sig : List PSh := [.one (.ro 1), .one .sc, .one .sc, .one .sc]
def impl_PutStored.g (y : Bool × List T_impl_Stored) : Ret κ := ⟨.tup [(false, [.sl 1]), (false, [.bool y.1])], [], [.rows 1 true y.2]⟩
def impl_PutStored.out (r : Ret κ) : Option (Bool × List T_impl_Stored) :=
  match r with
  | ⟨.tup [(false, [.sl 1]), (false, [.bool z0])], [], [q1]⟩ => (asO 1 true q1).bind fun z1 => some (z0, z1)
  | _ => none
theorem impl_PutStored.out_ok (r : Ret κ) (y : Bool × List T_impl_Stored) (h : impl_PutStored.out r = some y) : r = impl_PutStored.g y := by
  unfold impl_PutStored.out at h
  split at h
  · obtain ⟨_, rfl, h_1⟩ := asO_bind h
    obtain rfl := Option.some.inj h_1
    rfl
  · cases h
def impl_PutStored.body (k : Nat) (vs : List AV) (bs : List (Blk κ)) : Option (Lf κ) :=
  match vs, bs with
  | [.v (.sl 0), .v (.int .i64 a1), .v (.int .i64 a2), .v (.int .i64 a3)], [qb0] => (asO 1 false qb0).bind fun a0 => some ⟨Bool × List T_impl_Stored, impl_PutStored.f k a0 a1 a2 a3, impl_PutStored.g⟩
  | _, _ => none
def impl_PutStored.C (k : Nat) : Nat → List AV → AP κ AV := contract impl_PutStored.sig (impl_PutStored.body k)
theorem impl_PutStored.den (k : Nat) (a0 : List T_impl_Stored) (a1 : Int) (a2 : Int) (a3 : Int) : Code.den ti (impl_PutStored.Γ k) (impl_PutStored.LH k) (bodyOf Try.f26) (finK ti Try.f26.results.toList [(8, [some 1])] (flags impl_PutStored.sig).length (rwI (flags impl_PutStored.sig) 0) impl_PutStored.out) ⟨envOf (([.v (.sl 0), .v (.int .i64 a1), .v (.int .i64 a2), .v (.int .i64 a3)]).zipIdx.map fun q => (q.2, q.1)), hpOf [.rows 1 false a0], (flags impl_PutStored.sig).length⟩ = impl_PutStored.f k a0 a1 a2 a3 := by kernel_rfl
theorem impl_PutStored.ok (k : Nat) : CSound Try.prog 26 (impl_PutStored.C k) :=
  csound κ_ok mixed tok (impl_PutStored.hΓ k) (LH := impl_PutStored.LH k) (fn := Try.f26) (c := bodyOf Try.f26) Try.func26 rfl Try.call26 impl_PutStored.sig [(8, [some 1])] (impl_PutStored.body k) (by kernel_rfl) (impl_PutStored.lok k) (by decide) fun vs bs lf y hl hb hy => by
    unfold impl_PutStored.body at hb
    split at hb
    · obtain ⟨_, rfl, hb_1⟩ := asO_bind hb
      obtain rfl := Option.some.inj hb_1
      exact ⟨impl_PutStored.out, impl_PutStored.out_ok, (impl_PutStored.den k _ _ _ _).trans hy⟩
    · cases hb
/-! ### impl_GetStored -/
def impl_GetStored.f (k : Nat) (a0 : List T_impl_Stored) (a1 : Int) (a2 : Int) : Option (Int × Bool) :=
  (impl_placeOf.f k a0 a1 a2).bind fun t1 => (bif decide (t1 < (0 : Int)) then some ((0 : Int), false) else (bif decide (0 ≤ t1) then (bif decide (t1 < (a0.length : Int)) then some ((rd_impl_Stored a0 t1).f2, true) else none) else none))
def impl_GetStored.Γ (k : Nat) : Ct κ := assoc [(49, impl_placeOf.C k)]
def impl_GetStored.LH (k : Nat) : Nat → Option (LHi κ) := assoc []
theorem impl_GetStored.hΓ (k : Nat) : ∀ f g, impl_GetStored.Γ k f = some g → CSound Try.prog f g := G_cons (impl_placeOf.ok k) G_nil
theorem impl_GetStored.lok (k : Nat) : LOK ti (impl_GetStored.Γ k) (impl_GetStored.LH k) 1 (loopsOf (bodyOf Try.f27)) :=
  (show loopsOf (bodyOf Try.f27) = [] by kernel_rfl) ▸ LOK_nil
def impl_GetStored.sig : List PSh := [.one (.ro 1), .one .sc, .one .sc]
def impl_GetStored.g (y : Int × Bool) : Ret κ := ⟨.tup [(false, [.int .i64 y.1]), (false, [.bool y.2])], [], []⟩
def impl_GetStored.out (r : Ret κ) : Option (Int × Bool) :=
  match r with
  | ⟨.tup [(false, [.int .i64 z0]), (false, [.bool z1])], [], []⟩ => some (z0, z1)
  | _ => none
theorem impl_GetStored.out_ok (r : Ret κ) (y : Int × Bool) (h : impl_GetStored.out r = some y) : r = impl_GetStored.g y := by
  unfold impl_GetStored.out at h
  split at h
  · obtain rfl := Option.some.inj h
    rfl
  · cases h
def impl_GetStored.body (k : Nat) (vs : List AV) (bs : List (Blk κ)) : Option (Lf κ) :=
  match vs, bs with
  | [.v (.sl 0), .v (.int .i64 a1), .v (.int .i64 a2)], [qb0] => (asO 1 false qb0).bind fun a0 => some ⟨Int × Bool, impl_GetStored.f k a0 a1 a2, impl_GetStored.g⟩
  | _, _ => none
def impl_GetStored.C (k : Nat) : Nat → List AV → AP κ AV := contract impl_GetStored.sig (impl_GetStored.body k)
theorem impl_GetStored.den (k : Nat) (a0 : List T_impl_Stored) (a1 : Int) (a2 : Int) : Code.den ti (impl_GetStored.Γ k) (impl_GetStored.LH k) (bodyOf Try.f27) (finK ti Try.f27.results.toList [] (flags impl_GetStored.sig).length (rwI (flags impl_GetStored.sig) 0) impl_GetStored.out) ⟨envOf (([.v (.sl 0), .v (.int .i64 a1), .v (.int .i64 a2)]).zipIdx.map fun q => (q.2, q.1)), hpOf [.rows 1 false a0], (flags impl_GetStored.sig).length⟩ = impl_GetStored.f k a0 a1 a2 := by kernel_rfl
theorem impl_GetStored.ok (k : Nat) : CSound Try.prog 27 (impl_GetStored.C k) :=
  csound κ_ok mixed tok (impl_GetStored.hΓ k) (LH := impl_GetStored.LH k) (fn := Try.f27) (c := bodyOf Try.f27) Try.func27 rfl Try.call27 impl_GetStored.sig [] (impl_GetStored.body k) (by kernel_rfl) (impl_GetStored.lok k) (by decide) fun vs bs lf y hl hb hy => by
    unfold impl_GetStored.body at hb
    split at hb
    · obtain ⟨_, rfl, hb_1⟩ := asO_bind hb
      obtain rfl := Option.some.inj hb_1
      exact ⟨impl_GetStored.out, impl_GetStored.out_ok, (impl_GetStored.den k _ _ _).trans hy⟩
    · cases hb
/-! ### spec_DrawDropStored -/
def spec_DrawDropStored.f (k : Nat) (a0 : List Int) : Option (Int × List T_impl_Stored) :=
  (spec_DrawGetStored.f k a0).bind fun t1 => some (t1.1, t1.2.2)
def spec_DrawDropStored.Γ (k : Nat) : Ct κ := assoc [(52, spec_DrawGetStored.C k)]
def spec_DrawDropStored.LH (k : Nat) : Nat → Option (LHi κ) := assoc []
theorem spec_DrawDropStored.hΓ (k : Nat) : ∀ f g, spec_DrawDropStored.Γ k f = some g → CSound Try.prog f g := G_cons (spec_DrawGetStored.ok k) G_nil
theorem spec_DrawDropStored.lok (k : Nat) : LOK ti (spec_DrawDropStored.Γ k) (spec_DrawDropStored.LH k) 1 (loopsOf (bodyOf Try.f28)) :=
  (show loopsOf (bodyOf Try.f28) = [] by kernel_rfl) ▸ LOK_nil
def spec_DrawDropStored.sig : List PSh := [.one (.ro 0)]
def spec_DrawDropStored.g (y : Int × List T_impl_Stored) : Ret κ := ⟨.tup [(false, [.sl 1]), (false, [.int .i64 y.1])], [], [.rows 1 true y.2]⟩
def spec_DrawDropStored.out (r : Ret κ) : Option (Int × List T_impl_Stored) :=
  match r with
  | ⟨.tup [(false, [.sl 1]), (false, [.int .i64 z0])], [], [q1]⟩ => (asO 1 true q1).bind fun z1 => some (z0, z1)
  | _ => none
theorem spec_DrawDropStored.out_ok (r : Ret κ) (y : Int × List T_impl_Stored) (h : spec_DrawDropStored.out r = some y) : r = spec_DrawDropStored.g y := by
  unfold spec_DrawDropStored.out at h
  split at h
  · obtain ⟨_, rfl, h_1⟩ := asO_bind h
    obtain rfl := Option.some.inj h_1
    rfl
  · cases h
def spec_DrawDropStored.body (k : Nat) (vs : List AV) (bs : List (Blk κ)) : Option (Lf κ) :=
  match vs, bs with
  | [.v (.sl 0)], [qb0] => (asO 0 false qb0).bind fun a0 => some ⟨Int × List T_impl_Stored, spec_DrawDropStored.f k a0, spec_DrawDropStored.g⟩
  | _, _ => none
def spec_DrawDropStored.C (k : Nat) : Nat → List AV → AP κ AV := contract spec_DrawDropStored.sig (spec_DrawDropStored.body k)
theorem spec_DrawDropStored.den (k : Nat) (a0 : List Int) : Code.den ti (spec_DrawDropStored.Γ k) (spec_DrawDropStored.LH k) (bodyOf Try.f28) (finK ti Try.f28.results.toList [(2, [some 1])] (flags spec_DrawDropStored.sig).length (rwI (flags spec_DrawDropStored.sig) 0) spec_DrawDropStored.out) ⟨envOf (([.v (.sl 0)]).zipIdx.map fun q => (q.2, q.1)), hpOf [.rows 0 false a0], (flags spec_DrawDropStored.sig).length⟩ = spec_DrawDropStored.f k a0 := by kernel_rfl
theorem spec_DrawDropStored.ok (k : Nat) : CSound Try.prog 28 (spec_DrawDropStored.C k) :=
  csound κ_ok mixed tok (spec_DrawDropStored.hΓ k) (LH := spec_DrawDropStored.LH k) (fn := Try.f28) (c := bodyOf Try.f28) Try.func28 rfl Try.call28 spec_DrawDropStored.sig [(2, [some 1])] (spec_DrawDropStored.body k) (by kernel_rfl) (spec_DrawDropStored.lok k) (by decide) fun vs bs lf y hl hb hy => by
    unfold spec_DrawDropStored.body at hb
    split at hb
    · obtain ⟨_, rfl, hb_1⟩ := asO_bind hb
      obtain rfl := Option.some.inj hb_1
      exact ⟨spec_DrawDropStored.out, spec_DrawDropStored.out_ok, (spec_DrawDropStored.den k _).trans hy⟩
    · cases hb
/-! ### impl_DropStored -/
def impl_DropStored.L3 {R : Type} (k : Nat) (x0 : Int) (x3 : Int) (xl0 : List T_impl_Stored) (X0 : List T_impl_Stored → Option R) (rec : Int → List T_impl_Stored → Option R) (x4 : Int) (xl1 : List T_impl_Stored) : Option R :=
  (bif decide (x4 < x3) then (bif decide (0 ≤ x4) then (bif decide (x4 < (xl0.length : Int)) then (bif ((rd_impl_Stored xl0 x4).f0 != x0) then (bif decide ((xl1.length + ([(⟨(rd_impl_Stored xl0 x4).f0, (rd_impl_Stored xl0 x4).f1, (rd_impl_Stored xl0 x4).f2, (rd_impl_Stored xl0 x4).f3⟩ : T_impl_Stored)] : List T_impl_Stored).length) * 32 ≤ cap48) then (let l1 : List T_impl_Stored := (xl1 ++ ([(⟨(rd_impl_Stored xl0 x4).f0, (rd_impl_Stored xl0 x4).f1, (rd_impl_Stored xl0 x4).f2, (rd_impl_Stored xl0 x4).f3⟩ : T_impl_Stored)] : List T_impl_Stored)); (rec (w64 (x4 + (1 : Int))) l1)) else none) else (rec (w64 (x4 + (1 : Int))) xl1)) else none) else none) else (X0 xl1))
def impl_DropStored.l3 {R : Type} (k : Nat) (x0 : Int) (x3 : Int) (xl0 : List T_impl_Stored) (X0 : List T_impl_Stored → Option R) : Nat → Int → List T_impl_Stored → Option R
  | 0 => fun _ _ => none
  | n + 1 => impl_DropStored.L3 k x0 x3 xl0 X0 (impl_DropStored.l3 k x0 x3 xl0 X0 n)
def impl_DropStored.f (k : Nat) (a0 : List T_impl_Stored) (a1 : Int) : Option (List T_impl_Stored) :=
  (impl_DropStored.l3 k a1 (a0.length : Int) a0 (fun (y2 : List T_impl_Stored) => some y2) k (0 : Int) ([] : List T_impl_Stored))
def impl_DropStored.h3 (k : Nat) {R : Type} (K : Ex → St κ → Option R) (vs : List AV) (bs : List (Blk κ)) : Option R :=
  match vs, bs with
  | [.v (.int .i64 x0), .v (.sl 1), .v (.sl 0), .v (.int .i64 x3), .v (.int .i64 x4)], [qb0, qb1] => (asO 1 false qb0).bind fun xl0 => (asO 1 true qb1).bind fun xl1 => impl_DropStored.l3 k x0 x3 xl0 (fun (zl1 : List T_impl_Stored) => K (.exit 0) (stOf [(5, [some 1])] [.v (.sl 1)] [.rows 1 false xl0, .rows 1 true zl1])) k x4 xl1
  | _, _ => none
def impl_DropStored.Γ (k : Nat) : Ct κ := assoc []
def impl_DropStored.LH (k : Nat) : Nat → Option (LHi κ) := assoc [(3, ⟨1, [(1, []), (5, [some 1]), (9, [some 1]), (10, []), (11, [])], [(5, [some 1])], @impl_DropStored.h3 k⟩)]
theorem impl_DropStored.hΓ (k : Nat) : ∀ f g, impl_DropStored.Γ k f = some g → CSound Try.prog f g := G_nil
theorem impl_DropStored.e3 {R : Type} (K : Ex → St κ → Option R) (k : Nat) (x0 : Int) (x3 : Int) (xl0 : List T_impl_Stored) : ∀ (n : Nat) (x4 : Int) (xl1 : List T_impl_Stored), loopN 1 (Code.den ti (impl_DropStored.Γ k) (impl_DropStored.LH k) (loopAt Try.f29 0)) [(1, []), (5, [some 1]), (9, [some 1]), (10, []), (11, [])] [(5, [some 1])] K n [.v (.int .i64 x0), .v (.sl 1), .v (.sl 0), .v (.int .i64 x3), .v (.int .i64 x4)] [.rows 1 false xl0, .rows 1 true xl1] = impl_DropStored.l3 k x0 x3 xl0 (fun (zl1 : List T_impl_Stored) => K (.exit 0) (stOf [(5, [some 1])] [.v (.sl 1)] [.rows 1 false xl0, .rows 1 true zl1])) n x4 xl1
  | 0, _, _ => rfl
  | n + 1, x4, xl1 => (show loopN 1 (Code.den ti (impl_DropStored.Γ k) (impl_DropStored.LH k) (loopAt Try.f29 0)) [(1, []), (5, [some 1]), (9, [some 1]), (10, []), (11, [])] [(5, [some 1])] K (n + 1) [.v (.int .i64 x0), .v (.sl 1), .v (.sl 0), .v (.int .i64 x3), .v (.int .i64 x4)] [.rows 1 false xl0, .rows 1 true xl1] = impl_DropStored.L3 k x0 x3 xl0 (fun (zl1 : List T_impl_Stored) => K (.exit 0) (stOf [(5, [some 1])] [.v (.sl 1)] [.rows 1 false xl0, .rows 1 true zl1])) (fun (x4' : Int) (xl1' : List T_impl_Stored) => loopN 1 (Code.den ti (impl_DropStored.Γ k) (impl_DropStored.LH k) (loopAt Try.f29 0)) [(1, []), (5, [some 1]), (9, [some 1]), (10, []), (11, [])] [(5, [some 1])] K n [.v (.int .i64 x0), .v (.sl 1), .v (.sl 0), .v (.int .i64 x3), .v (.int .i64 x4')] [.rows 1 false xl0, .rows 1 true xl1']) x4 xl1 by kernel_rfl).trans (congrArg (fun rec => impl_DropStored.L3 k x0 x3 xl0 (fun (zl1 : List T_impl_Stored) => K (.exit 0) (stOf [(5, [some 1])] [.v (.sl 1)] [.rows 1 false xl0, .rows 1 true zl1])) rec x4 xl1) (funext fun x4' => funext fun xl1' => impl_DropStored.e3 K k x0 x3 xl0 n x4' xl1'))
theorem impl_DropStored.q3 (k : Nat) {R : Type} (K : Ex → St κ → Option R) (vs : List AV) (bs : List (Blk κ)) (r : R) (h : impl_DropStored.h3 k K vs bs = some r) : ∃ n, loopN 1 (Code.den ti (impl_DropStored.Γ k) (impl_DropStored.LH k) (loopAt Try.f29 0)) [(1, []), (5, [some 1]), (9, [some 1]), (10, []), (11, [])] [(5, [some 1])] K n vs bs = some r := by
  unfold impl_DropStored.h3 at h
  split at h
  · obtain ⟨_, rfl, h_1⟩ := asO_bind h
    obtain ⟨_, rfl, h_2⟩ := asO_bind h_1
    exact ⟨k, (impl_DropStored.e3 K k _ _ _ k _ _).trans h_2⟩
  · cases h
theorem impl_DropStored.lok (k : Nat) : LOK ti (impl_DropStored.Γ k) (impl_DropStored.LH k) 1 (loopsOf (bodyOf Try.f29)) :=
  (show loopsOf (bodyOf Try.f29) = [loopAt Try.f29 0] by kernel_rfl) ▸ (LOK_cons (g := ⟨1, [(1, []), (5, [some 1]), (9, [some 1]), (10, []), (11, [])], [(5, [some 1])], @impl_DropStored.h3 k⟩) (by kernel_rfl) rfl (fun K vs xs r h => impl_DropStored.q3 k K vs xs r h) (LOK_nil))
def impl_DropStored.sig : List PSh := [.one (.ro 1), .one .sc]
def impl_DropStored.g (y : List T_impl_Stored) : Ret κ := ⟨.v (.sl 1), [], [.rows 1 true y]⟩
def impl_DropStored.out (r : Ret κ) : Option (List T_impl_Stored) :=
  match r with
  | ⟨.v (.sl 1), [], [q0]⟩ => (asO 1 true q0).bind fun z0 => some (z0)
  | _ => none
theorem impl_DropStored.out_ok (r : Ret κ) (y : List T_impl_Stored) (h : impl_DropStored.out r = some y) : r = impl_DropStored.g y := by
  unfold impl_DropStored.out at h
  split at h
  · obtain ⟨_, rfl, h_1⟩ := asO_bind h
    obtain rfl := Option.some.inj h_1
    rfl
  · cases h
def impl_DropStored.body (k : Nat) (vs : List AV) (bs : List (Blk κ)) : Option (Lf κ) :=
  match vs, bs with
  | [.v (.sl 0), .v (.int .i64 a1)], [qb0] => (asO 1 false qb0).bind fun a0 => some ⟨List T_impl_Stored, impl_DropStored.f k a0 a1, impl_DropStored.g⟩
  | _, _ => none
def impl_DropStored.C (k : Nat) : Nat → List AV → AP κ AV := contract impl_DropStored.sig (impl_DropStored.body k)
theorem impl_DropStored.den (k : Nat) (a0 : List T_impl_Stored) (a1 : Int) : Code.den ti (impl_DropStored.Γ k) (impl_DropStored.LH k) (bodyOf Try.f29) (finK ti Try.f29.results.toList [(4, [some 1])] (flags impl_DropStored.sig).length (rwI (flags impl_DropStored.sig) 0) impl_DropStored.out) ⟨envOf (([.v (.sl 0), .v (.int .i64 a1)]).zipIdx.map fun q => (q.2, q.1)), hpOf [.rows 1 false a0], (flags impl_DropStored.sig).length⟩ = impl_DropStored.f k a0 a1 := by kernel_rfl
theorem impl_DropStored.ok (k : Nat) : CSound Try.prog 29 (impl_DropStored.C k) :=
  csound κ_ok mixed tok (impl_DropStored.hΓ k) (LH := impl_DropStored.LH k) (fn := Try.f29) (c := bodyOf Try.f29) Try.func29 rfl Try.call29 impl_DropStored.sig [(4, [some 1])] (impl_DropStored.body k) (by kernel_rfl) (impl_DropStored.lok k) (by decide) fun vs bs lf y hl hb hy => by
    unfold impl_DropStored.body at hb
    split at hb
    · obtain ⟨_, rfl, hb_1⟩ := asO_bind hb
      obtain rfl := Option.some.inj hb_1
      exact ⟨impl_DropStored.out, impl_DropStored.out_ok, (impl_DropStored.den k _ _).trans hy⟩
    · cases hb
/-! ### laws_FnStores -/
def laws_FnStores.L16 {R : Type} (k : Nat) (x3 : Int) (xl0 : List Int) (xl1 : List T_impl_Stored) (xl2 : List T_impl_Stored) (X0 : Int → Option R) (rec : Int → Option R) (x4 : Int) : Option R :=
  (bif decide (x4 < (xl2.length : Int)) then (bif decide (0 ≤ x4) then (bif decide (x4 < (xl2.length : Int)) then (bif decide (0 ≤ x3) then (bif decide (x3 < (xl1.length : Int)) then (bif ((rd_impl_Stored xl2 x4).f0 != (rd_impl_Stored xl1 x3).f0) then (rec (w64 (x4 + (1 : Int)))) else (bif decide (0 ≤ x4) then (bif decide (x4 < (xl2.length : Int)) then (bif decide (0 ≤ x3) then (bif decide (x3 < (xl1.length : Int)) then (bif ((rd_impl_Stored xl2 x4).f1 != (rd_impl_Stored xl1 x3).f1) then (rec (w64 (x4 + (1 : Int)))) else (X0 x4)) else none) else none) else none) else none)) else none) else none) else none) else none) else (X0 x4))
def laws_FnStores.l16 {R : Type} (k : Nat) (x3 : Int) (xl0 : List Int) (xl1 : List T_impl_Stored) (xl2 : List T_impl_Stored) (X0 : Int → Option R) : Nat → Int → Option R
  | 0 => fun _ => none
  | n + 1 => laws_FnStores.L16 k x3 xl0 xl1 xl2 X0 (laws_FnStores.l16 k x3 xl0 xl1 xl2 X0 n)
def laws_FnStores.L13 {R : Type} (k : Nat) (xl0 : List Int) (xl1 : List T_impl_Stored) (xl2 : List T_impl_Stored) (X0 : Bool → Option R) (X1 : Unit → Option R) (rec : Int → Option R) (x3 : Int) : Option R :=
  (bif decide (x3 < (xl1.length : Int)) then (laws_FnStores.l16 k x3 xl0 xl1 xl2 (fun (y9 : Int) => (bif (y9 == (xl2.length : Int)) then (X0 false) else (bif decide (0 ≤ y9) then (bif decide (y9 < (xl2.length : Int)) then (bif decide (0 ≤ x3) then (bif decide (x3 < (xl1.length : Int)) then (bif decide ((rd_impl_Stored xl2 y9).f3 < (rd_impl_Stored xl1 x3).f3) then (X0 false) else (rec (w64 (x3 + (1 : Int))))) else none) else none) else none) else none))) k (0 : Int)) else (X1 ()))
def laws_FnStores.l13 {R : Type} (k : Nat) (xl0 : List Int) (xl1 : List T_impl_Stored) (xl2 : List T_impl_Stored) (X0 : Bool → Option R) (X1 : Unit → Option R) : Nat → Int → Option R
  | 0 => fun _ => none
  | n + 1 => laws_FnStores.L13 k xl0 xl1 xl2 X0 X1 (laws_FnStores.l13 k xl0 xl1 xl2 X0 X1 n)
def laws_FnStores.L29 {R : Type} (k : Nat) (x2 : Bool) (x4 : Int) (xl0 : List Int) (xl1 : List T_impl_Stored) (xl2 : List T_impl_Stored) (xl3 : List T_impl_Stored) (xl4 : List T_impl_Stored) (X0 : Bool → Option R) (X1 : Unit → Option R) (rec : Int → Option R) (x6 : Int) : Option R :=
  (bif decide (x6 < (xl4.length : Int)) then (bif decide (0 ≤ x6) then (bif decide (x6 < (xl4.length : Int)) then (bif ((rd_impl_Stored xl4 x6).f0 == x4) then (X0 false) else (rec (w64 (x6 + (1 : Int))))) else none) else none) else (X1 ()))
def laws_FnStores.l29 {R : Type} (k : Nat) (x2 : Bool) (x4 : Int) (xl0 : List Int) (xl1 : List T_impl_Stored) (xl2 : List T_impl_Stored) (xl3 : List T_impl_Stored) (xl4 : List T_impl_Stored) (X0 : Bool → Option R) (X1 : Unit → Option R) : Nat → Int → Option R
  | 0 => fun _ => none
  | n + 1 => laws_FnStores.L29 k x2 x4 xl0 xl1 xl2 xl3 xl4 X0 X1 (laws_FnStores.l29 k x2 x4 xl0 xl1 xl2 xl3 xl4 X0 X1 n)
def laws_FnStores.f (k : Nat) (a0 : List Int) : Option Bool :=
  (laws_big.f k a0).bind fun t1 => (bif t1 then some true else (spec_DrawMergeStores.f k a0).bind fun t2 => (impl_MergeStores.f k t2.1 t2.2).bind fun t3 => (impl_MergeStores.f k t2.2 t2.1).bind fun t4 => (bif !(t3.1 == t4.1) then some false else (laws_sameStored.f k t3.2 t4.2).bind fun t5 => (bif !t5 then some false else (bif t3.1 then (impl_IsStore.f k t3.2).bind fun t6 => (bif !t6 then some false else (bif t3.1 then (impl_MergeStores.f k t3.2 t2.2).bind fun t7 => (bif !t7.1 then some false else (laws_sameStored.f k t7.2 t3.2).bind fun t8 => (bif !t8 then some false else (laws_FnStores.l13 k a0 t2.1 t3.2 (fun (y10 : Bool) => some y10) (fun (_ : Unit) => (spec_DrawPutStored.f k a0).bind fun t11 => (impl_PutStored.f k t11.2.2.2 t11.1 t11.2.1 t11.2.2.1).bind fun t12 => (bif t12.1 then (impl_GetStored.f k t12.2 t11.1 t11.2.1).bind fun t13 => (bif !t13.2 then some false else (bif (t13.1 != t11.2.2.1) then some false else (impl_IsStore.f k t12.2).bind fun t14 => (bif !t14 then some false else (spec_DrawDropStored.f k a0).bind fun t15 => (impl_DropStored.f k t15.2 t15.1).bind fun t16 => (laws_FnStores.l29 k t12.1 t15.1 a0 t11.2.2.2 t12.2 t15.2 t16 (fun (y17 : Bool) => some y17) (fun (_ : Unit) => (bif t12.1 then (impl_IsStore.f k t15.2).bind fun t18 => (bif !t18 then some true else (impl_IsStore.f k t16).bind fun t19 => some t19) else (laws_sameStored.f k t12.2 t11.2.2.2).bind fun t20 => (bif t20 then (impl_IsStore.f k t15.2).bind fun t21 => (bif !t21 then some true else (impl_IsStore.f k t16).bind fun t22 => some t22) else some false))) k (0 : Int))))) else (spec_DrawDropStored.f k a0).bind fun t23 => (impl_DropStored.f k t23.2 t23.1).bind fun t24 => (laws_FnStores.l29 k t12.1 t23.1 a0 t11.2.2.2 t12.2 t23.2 t24 (fun (y25 : Bool) => some y25) (fun (_ : Unit) => (bif t12.1 then (impl_IsStore.f k t23.2).bind fun t26 => (bif !t26 then some true else (impl_IsStore.f k t24).bind fun t27 => some t27) else (laws_sameStored.f k t12.2 t11.2.2.2).bind fun t28 => (bif t28 then (impl_IsStore.f k t23.2).bind fun t29 => (bif !t29 then some true else (impl_IsStore.f k t24).bind fun t30 => some t30) else some false))) k (0 : Int)))) k (0 : Int)))) else (spec_DrawPutStored.f k a0).bind fun t31 => (impl_PutStored.f k t31.2.2.2 t31.1 t31.2.1 t31.2.2.1).bind fun t32 => (bif t32.1 then (impl_GetStored.f k t32.2 t31.1 t31.2.1).bind fun t33 => (bif !t33.2 then some false else (bif (t33.1 != t31.2.2.1) then some false else (impl_IsStore.f k t32.2).bind fun t34 => (bif !t34 then some false else (spec_DrawDropStored.f k a0).bind fun t35 => (impl_DropStored.f k t35.2 t35.1).bind fun t36 => (laws_FnStores.l29 k t32.1 t35.1 a0 t31.2.2.2 t32.2 t35.2 t36 (fun (y37 : Bool) => some y37) (fun (_ : Unit) => (bif t32.1 then (impl_IsStore.f k t35.2).bind fun t38 => (bif !t38 then some true else (impl_IsStore.f k t36).bind fun t39 => some t39) else (laws_sameStored.f k t32.2 t31.2.2.2).bind fun t40 => (bif t40 then (impl_IsStore.f k t35.2).bind fun t41 => (bif !t41 then some true else (impl_IsStore.f k t36).bind fun t42 => some t42) else some false))) k (0 : Int))))) else (spec_DrawDropStored.f k a0).bind fun t43 => (impl_DropStored.f k t43.2 t43.1).bind fun t44 => (laws_FnStores.l29 k t32.1 t43.1 a0 t31.2.2.2 t32.2 t43.2 t44 (fun (y45 : Bool) => some y45) (fun (_ : Unit) => (bif t32.1 then (impl_IsStore.f k t43.2).bind fun t46 => (bif !t46 then some true else (impl_IsStore.f k t44).bind fun t47 => some t47) else (laws_sameStored.f k t32.2 t31.2.2.2).bind fun t48 => (bif t48 then (impl_IsStore.f k t43.2).bind fun t49 => (bif !t49 then some true else (impl_IsStore.f k t44).bind fun t50 => some t50) else some false))) k (0 : Int))))) else (bif t3.1 then (impl_MergeStores.f k t3.2 t2.2).bind fun t51 => (bif !t51.1 then some false else (laws_sameStored.f k t51.2 t3.2).bind fun t52 => (bif !t52 then some false else (laws_FnStores.l13 k a0 t2.1 t3.2 (fun (y53 : Bool) => some y53) (fun (_ : Unit) => (spec_DrawPutStored.f k a0).bind fun t54 => (impl_PutStored.f k t54.2.2.2 t54.1 t54.2.1 t54.2.2.1).bind fun t55 => (bif t55.1 then (impl_GetStored.f k t55.2 t54.1 t54.2.1).bind fun t56 => (bif !t56.2 then some false else (bif (t56.1 != t54.2.2.1) then some false else (impl_IsStore.f k t55.2).bind fun t57 => (bif !t57 then some false else (spec_DrawDropStored.f k a0).bind fun t58 => (impl_DropStored.f k t58.2 t58.1).bind fun t59 => (laws_FnStores.l29 k t55.1 t58.1 a0 t54.2.2.2 t55.2 t58.2 t59 (fun (y60 : Bool) => some y60) (fun (_ : Unit) => (bif t55.1 then (impl_IsStore.f k t58.2).bind fun t61 => (bif !t61 then some true else (impl_IsStore.f k t59).bind fun t62 => some t62) else (laws_sameStored.f k t55.2 t54.2.2.2).bind fun t63 => (bif t63 then (impl_IsStore.f k t58.2).bind fun t64 => (bif !t64 then some true else (impl_IsStore.f k t59).bind fun t65 => some t65) else some false))) k (0 : Int))))) else (spec_DrawDropStored.f k a0).bind fun t66 => (impl_DropStored.f k t66.2 t66.1).bind fun t67 => (laws_FnStores.l29 k t55.1 t66.1 a0 t54.2.2.2 t55.2 t66.2 t67 (fun (y68 : Bool) => some y68) (fun (_ : Unit) => (bif t55.1 then (impl_IsStore.f k t66.2).bind fun t69 => (bif !t69 then some true else (impl_IsStore.f k t67).bind fun t70 => some t70) else (laws_sameStored.f k t55.2 t54.2.2.2).bind fun t71 => (bif t71 then (impl_IsStore.f k t66.2).bind fun t72 => (bif !t72 then some true else (impl_IsStore.f k t67).bind fun t73 => some t73) else some false))) k (0 : Int)))) k (0 : Int)))) else (spec_DrawPutStored.f k a0).bind fun t74 => (impl_PutStored.f k t74.2.2.2 t74.1 t74.2.1 t74.2.2.1).bind fun t75 => (bif t75.1 then (impl_GetStored.f k t75.2 t74.1 t74.2.1).bind fun t76 => (bif !t76.2 then some false else (bif (t76.1 != t74.2.2.1) then some false else (impl_IsStore.f k t75.2).bind fun t77 => (bif !t77 then some false else (spec_DrawDropStored.f k a0).bind fun t78 => (impl_DropStored.f k t78.2 t78.1).bind fun t79 => (laws_FnStores.l29 k t75.1 t78.1 a0 t74.2.2.2 t75.2 t78.2 t79 (fun (y80 : Bool) => some y80) (fun (_ : Unit) => (bif t75.1 then (impl_IsStore.f k t78.2).bind fun t81 => (bif !t81 then some true else (impl_IsStore.f k t79).bind fun t82 => some t82) else (laws_sameStored.f k t75.2 t74.2.2.2).bind fun t83 => (bif t83 then (impl_IsStore.f k t78.2).bind fun t84 => (bif !t84 then some true else (impl_IsStore.f k t79).bind fun t85 => some t85) else some false))) k (0 : Int))))) else (spec_DrawDropStored.f k a0).bind fun t86 => (impl_DropStored.f k t86.2 t86.1).bind fun t87 => (laws_FnStores.l29 k t75.1 t86.1 a0 t74.2.2.2 t75.2 t86.2 t87 (fun (y88 : Bool) => some y88) (fun (_ : Unit) => (bif t75.1 then (impl_IsStore.f k t86.2).bind fun t89 => (bif !t89 then some true else (impl_IsStore.f k t87).bind fun t90 => some t90) else (laws_sameStored.f k t75.2 t74.2.2.2).bind fun t91 => (bif t91 then (impl_IsStore.f k t86.2).bind fun t92 => (bif !t92 then some true else (impl_IsStore.f k t87).bind fun t93 => some t93) else some false))) k (0 : Int))))))))
def laws_FnStores.h16 (k : Nat) {R : Type} (K : Ex → St κ → Option R) (vs : List AV) (bs : List (Blk κ)) : Option R :=
  match vs, bs with
  | [.v (.sl 0), .v (.sl 1), .v (.sl 2), .v (.int .i64 x3), .v (.int .i64 x4)], [qb0, qb1, qb2] => (asO 0 false qb0).bind fun xl0 => (asO 1 true qb1).bind fun xl1 => (asO 1 true qb2).bind fun xl2 => laws_FnStores.l16 k x3 xl0 xl1 xl2 (fun (z4 : Int) => K (.exit 2) (stOf [(0, [some 0]), (3, [some 1]), (5, [some 1]), (11, []), (12, [])] [.v (.sl 0), .v (.sl 1), .v (.sl 2), .v (.int .i64 x3), .v (.int .i64 z4)] [.rows 0 false xl0, .rows 1 true xl1, .rows 1 true xl2])) k x4
  | _, _ => none
def laws_FnStores.h13 (k : Nat) {R : Type} (K : Ex → St κ → Option R) (vs : List AV) (bs : List (Blk κ)) : Option R :=
  match vs, bs with
  | [.v (.sl 0), .v (.sl 1), .v (.sl 2), .v (.int .i64 x3)], [qb0, qb1, qb2] => (asO 0 false qb0).bind fun xl0 => (asO 1 true qb1).bind fun xl1 => (asO 1 true qb2).bind fun xl2 => laws_FnStores.l13 k xl0 xl1 xl2 (fun (z1 : Bool) => K .ret (stOf [(0, [some 0]), (2, [])] [.v (.sl 0), .v (.bool z1)] [.rows 0 false xl0])) (fun (_ : Unit) => K (.exit 0) (stOf [(0, [some 0]), (2, [])] [.v (.sl 0), .v .any] [.rows 0 false xl0])) k x3
  | _, _ => none
def laws_FnStores.h29 (k : Nat) {R : Type} (K : Ex → St κ → Option R) (vs : List AV) (bs : List (Blk κ)) : Option R :=
  match vs, bs with
  | [.v (.sl 1), .v (.sl 2), .v (.bool x2), .v (.sl 3), .v (.int .i64 x4), .v (.sl 4), .v (.int .i64 x6)], [qb0, qb1, qb2, qb3, qb4] => (asO 0 false qb0).bind fun xl0 => (asO 1 true qb1).bind fun xl1 => (asO 1 true qb2).bind fun xl2 => (asO 1 true qb3).bind fun xl3 => (asO 1 true qb4).bind fun xl4 => laws_FnStores.l29 k x2 x4 xl0 xl1 xl2 xl3 xl4 (fun (z0 : Bool) => K .ret (stOf [(2, []), (13, [some 1]), (17, [some 1]), (18, []), (21, [some 1]), (23, [some 1])] [.v (.bool z0), .v (.sl 1), .v (.sl 2), .v (.bool x2), .v (.sl 3), .v (.sl 4)] [.rows 0 false xl0, .rows 1 true xl1, .rows 1 true xl2, .rows 1 true xl3, .rows 1 true xl4])) (fun (_ : Unit) => K (.exit 4) (stOf [(2, []), (13, [some 1]), (17, [some 1]), (18, []), (21, [some 1]), (23, [some 1])] [.v .any, .v (.sl 1), .v (.sl 2), .v (.bool x2), .v (.sl 3), .v (.sl 4)] [.rows 0 false xl0, .rows 1 true xl1, .rows 1 true xl2, .rows 1 true xl3, .rows 1 true xl4])) k x6
  | _, _ => none
def laws_FnStores.Γ (k : Nat) : Ct κ := assoc [(7, laws_big.C k), (23, spec_DrawMergeStores.C k), (19, impl_MergeStores.C k), (24, laws_sameStored.C k), (15, impl_IsStore.C k), (25, spec_DrawPutStored.C k), (26, impl_PutStored.C k), (27, impl_GetStored.C k), (28, spec_DrawDropStored.C k), (29, impl_DropStored.C k)]
def laws_FnStores.LH (k : Nat) : Nat → Option (LHi κ) := assoc [(16, ⟨1, [(0, [some 0]), (3, [some 1]), (5, [some 1]), (11, []), (12, [])], [(0, [some 0]), (3, [some 1]), (5, [some 1]), (11, []), (12, [])], @laws_FnStores.h16 k⟩), (13, ⟨1, [(0, [some 0]), (3, [some 1]), (5, [some 1]), (11, [])], [(0, [some 0]), (2, [])], @laws_FnStores.h13 k⟩), (29, ⟨1, [(13, [some 1]), (17, [some 1]), (18, []), (21, [some 1]), (22, []), (23, [some 1]), (24, [])], [(2, []), (13, [some 1]), (17, [some 1]), (18, []), (21, [some 1]), (23, [some 1])], @laws_FnStores.h29 k⟩)]
theorem laws_FnStores.hΓ (k : Nat) : ∀ f g, laws_FnStores.Γ k f = some g → CSound Try.prog f g := G_cons (laws_big.ok k) (G_cons (spec_DrawMergeStores.ok k) (G_cons (impl_MergeStores.ok k) (G_cons (laws_sameStored.ok k) (G_cons (impl_IsStore.ok k) (G_cons (spec_DrawPutStored.ok k) (G_cons (impl_PutStored.ok k) (G_cons (impl_GetStored.ok k) (G_cons (spec_DrawDropStored.ok k) (G_cons (impl_DropStored.ok k) G_nil)))))))))
theorem laws_FnStores.e16 {R : Type} (K : Ex → St κ → Option R) (k : Nat) (x3 : Int) (xl0 : List Int) (xl1 : List T_impl_Stored) (xl2 : List T_impl_Stored) : ∀ (n : Nat) (x4 : Int), loopN 1 (Code.den ti (laws_FnStores.Γ k) (laws_FnStores.LH k) (loopAt Try.f5 1)) [(0, [some 0]), (3, [some 1]), (5, [some 1]), (11, []), (12, [])] [(0, [some 0]), (3, [some 1]), (5, [some 1]), (11, []), (12, [])] K n [.v (.sl 0), .v (.sl 1), .v (.sl 2), .v (.int .i64 x3), .v (.int .i64 x4)] [.rows 0 false xl0, .rows 1 true xl1, .rows 1 true xl2] = laws_FnStores.l16 k x3 xl0 xl1 xl2 (fun (z4 : Int) => K (.exit 2) (stOf [(0, [some 0]), (3, [some 1]), (5, [some 1]), (11, []), (12, [])] [.v (.sl 0), .v (.sl 1), .v (.sl 2), .v (.int .i64 x3), .v (.int .i64 z4)] [.rows 0 false xl0, .rows 1 true xl1, .rows 1 true xl2])) n x4
  | 0, _ => rfl
  | n + 1, x4 => (show loopN 1 (Code.den ti (laws_FnStores.Γ k) (laws_FnStores.LH k) (loopAt Try.f5 1)) [(0, [some 0]), (3, [some 1]), (5, [some 1]), (11, []), (12, [])] [(0, [some 0]), (3, [some 1]), (5, [some 1]), (11, []), (12, [])] K (n + 1) [.v (.sl 0), .v (.sl 1), .v (.sl 2), .v (.int .i64 x3), .v (.int .i64 x4)] [.rows 0 false xl0, .rows 1 true xl1, .rows 1 true xl2] = laws_FnStores.L16 k x3 xl0 xl1 xl2 (fun (z4 : Int) => K (.exit 2) (stOf [(0, [some 0]), (3, [some 1]), (5, [some 1]), (11, []), (12, [])] [.v (.sl 0), .v (.sl 1), .v (.sl 2), .v (.int .i64 x3), .v (.int .i64 z4)] [.rows 0 false xl0, .rows 1 true xl1, .rows 1 true xl2])) (fun (x4' : Int) => loopN 1 (Code.den ti (laws_FnStores.Γ k) (laws_FnStores.LH k) (loopAt Try.f5 1)) [(0, [some 0]), (3, [some 1]), (5, [some 1]), (11, []), (12, [])] [(0, [some 0]), (3, [some 1]), (5, [some 1]), (11, []), (12, [])] K n [.v (.sl 0), .v (.sl 1), .v (.sl 2), .v (.int .i64 x3), .v (.int .i64 x4')] [.rows 0 false xl0, .rows 1 true xl1, .rows 1 true xl2]) x4 by kernel_rfl).trans (congrArg (fun rec => laws_FnStores.L16 k x3 xl0 xl1 xl2 (fun (z4 : Int) => K (.exit 2) (stOf [(0, [some 0]), (3, [some 1]), (5, [some 1]), (11, []), (12, [])] [.v (.sl 0), .v (.sl 1), .v (.sl 2), .v (.int .i64 x3), .v (.int .i64 z4)] [.rows 0 false xl0, .rows 1 true xl1, .rows 1 true xl2])) rec x4) (funext fun x4' => laws_FnStores.e16 K k x3 xl0 xl1 xl2 n x4'))
theorem laws_FnStores.q16 (k : Nat) {R : Type} (K : Ex → St κ → Option R) (vs : List AV) (bs : List (Blk κ)) (r : R) (h : laws_FnStores.h16 k K vs bs = some r) : ∃ n, loopN 1 (Code.den ti (laws_FnStores.Γ k) (laws_FnStores.LH k) (loopAt Try.f5 1)) [(0, [some 0]), (3, [some 1]), (5, [some 1]), (11, []), (12, [])] [(0, [some 0]), (3, [some 1]), (5, [some 1]), (11, []), (12, [])] K n vs bs = some r := by
  unfold laws_FnStores.h16 at h
  split at h
  · obtain ⟨_, rfl, h_1⟩ := asO_bind h
    obtain ⟨_, rfl, h_2⟩ := asO_bind h_1
    obtain ⟨_, rfl, h_3⟩ := asO_bind h_2
    exact ⟨k, (laws_FnStores.e16 K k _ _ _ _ k _).trans h_3⟩
  · cases h
theorem laws_FnStores.e13 {R : Type} (K : Ex → St κ → Option R) (k : Nat) (xl0 : List Int) (xl1 : List T_impl_Stored) (xl2 : List T_impl_Stored) : ∀ (n : Nat) (x3 : Int), loopN 1 (Code.den ti (laws_FnStores.Γ k) (laws_FnStores.LH k) (loopAt Try.f5 0)) [(0, [some 0]), (3, [some 1]), (5, [some 1]), (11, [])] [(0, [some 0]), (2, [])] K n [.v (.sl 0), .v (.sl 1), .v (.sl 2), .v (.int .i64 x3)] [.rows 0 false xl0, .rows 1 true xl1, .rows 1 true xl2] = laws_FnStores.l13 k xl0 xl1 xl2 (fun (z1 : Bool) => K .ret (stOf [(0, [some 0]), (2, [])] [.v (.sl 0), .v (.bool z1)] [.rows 0 false xl0])) (fun (_ : Unit) => K (.exit 0) (stOf [(0, [some 0]), (2, [])] [.v (.sl 0), .v .any] [.rows 0 false xl0])) n x3
  | 0, _ => rfl
  | n + 1, x3 => (show loopN 1 (Code.den ti (laws_FnStores.Γ k) (laws_FnStores.LH k) (loopAt Try.f5 0)) [(0, [some 0]), (3, [some 1]), (5, [some 1]), (11, [])] [(0, [some 0]), (2, [])] K (n + 1) [.v (.sl 0), .v (.sl 1), .v (.sl 2), .v (.int .i64 x3)] [.rows 0 false xl0, .rows 1 true xl1, .rows 1 true xl2] = laws_FnStores.L13 k xl0 xl1 xl2 (fun (z1 : Bool) => K .ret (stOf [(0, [some 0]), (2, [])] [.v (.sl 0), .v (.bool z1)] [.rows 0 false xl0])) (fun (_ : Unit) => K (.exit 0) (stOf [(0, [some 0]), (2, [])] [.v (.sl 0), .v .any] [.rows 0 false xl0])) (fun (x3' : Int) => loopN 1 (Code.den ti (laws_FnStores.Γ k) (laws_FnStores.LH k) (loopAt Try.f5 0)) [(0, [some 0]), (3, [some 1]), (5, [some 1]), (11, [])] [(0, [some 0]), (2, [])] K n [.v (.sl 0), .v (.sl 1), .v (.sl 2), .v (.int .i64 x3')] [.rows 0 false xl0, .rows 1 true xl1, .rows 1 true xl2]) x3 by kernel_rfl).trans (congrArg (fun rec => laws_FnStores.L13 k xl0 xl1 xl2 (fun (z1 : Bool) => K .ret (stOf [(0, [some 0]), (2, [])] [.v (.sl 0), .v (.bool z1)] [.rows 0 false xl0])) (fun (_ : Unit) => K (.exit 0) (stOf [(0, [some 0]), (2, [])] [.v (.sl 0), .v .any] [.rows 0 false xl0])) rec x3) (funext fun x3' => laws_FnStores.e13 K k xl0 xl1 xl2 n x3'))
theorem laws_FnStores.q13 (k : Nat) {R : Type} (K : Ex → St κ → Option R) (vs : List AV) (bs : List (Blk κ)) (r : R) (h : laws_FnStores.h13 k K vs bs = some r) : ∃ n, loopN 1 (Code.den ti (laws_FnStores.Γ k) (laws_FnStores.LH k) (loopAt Try.f5 0)) [(0, [some 0]), (3, [some 1]), (5, [some 1]), (11, [])] [(0, [some 0]), (2, [])] K n vs bs = some r := by
  unfold laws_FnStores.h13 at h
  split at h
  · obtain ⟨_, rfl, h_1⟩ := asO_bind h
    obtain ⟨_, rfl, h_2⟩ := asO_bind h_1
    obtain ⟨_, rfl, h_3⟩ := asO_bind h_2
    exact ⟨k, (laws_FnStores.e13 K k _ _ _ k _).trans h_3⟩
  · cases h
theorem laws_FnStores.e29 {R : Type} (K : Ex → St κ → Option R) (k : Nat) (x2 : Bool) (x4 : Int) (xl0 : List Int) (xl1 : List T_impl_Stored) (xl2 : List T_impl_Stored) (xl3 : List T_impl_Stored) (xl4 : List T_impl_Stored) : ∀ (n : Nat) (x6 : Int), loopN 1 (Code.den ti (laws_FnStores.Γ k) (laws_FnStores.LH k) (loopAt Try.f5 2)) [(13, [some 1]), (17, [some 1]), (18, []), (21, [some 1]), (22, []), (23, [some 1]), (24, [])] [(2, []), (13, [some 1]), (17, [some 1]), (18, []), (21, [some 1]), (23, [some 1])] K n [.v (.sl 1), .v (.sl 2), .v (.bool x2), .v (.sl 3), .v (.int .i64 x4), .v (.sl 4), .v (.int .i64 x6)] [.rows 0 false xl0, .rows 1 true xl1, .rows 1 true xl2, .rows 1 true xl3, .rows 1 true xl4] = laws_FnStores.l29 k x2 x4 xl0 xl1 xl2 xl3 xl4 (fun (z0 : Bool) => K .ret (stOf [(2, []), (13, [some 1]), (17, [some 1]), (18, []), (21, [some 1]), (23, [some 1])] [.v (.bool z0), .v (.sl 1), .v (.sl 2), .v (.bool x2), .v (.sl 3), .v (.sl 4)] [.rows 0 false xl0, .rows 1 true xl1, .rows 1 true xl2, .rows 1 true xl3, .rows 1 true xl4])) (fun (_ : Unit) => K (.exit 4) (stOf [(2, []), (13, [some 1]), (17, [some 1]), (18, []), (21, [some 1]), (23, [some 1])] [.v .any, .v (.sl 1), .v (.sl 2), .v (.bool x2), .v (.sl 3), .v (.sl 4)] [.rows 0 false xl0, .rows 1 true xl1, .rows 1 true xl2, .rows 1 true xl3, .rows 1 true xl4])) n x6
  | 0, _ => rfl
  | n + 1, x6 => (show loopN 1 (Code.den ti (laws_FnStores.Γ k) (laws_FnStores.LH k) (loopAt Try.f5 2)) [(13, [some 1]), (17, [some 1]), (18, []), (21, [some 1]), (22, []), (23, [some 1]), (24, [])] [(2, []), (13, [some 1]), (17, [some 1]), (18, []), (21, [some 1]), (23, [some 1])] K (n + 1) [.v (.sl 1), .v (.sl 2), .v (.bool x2), .v (.sl 3), .v (.int .i64 x4), .v (.sl 4), .v (.int .i64 x6)] [.rows 0 false xl0, .rows 1 true xl1, .rows 1 true xl2, .rows 1 true xl3, .rows 1 true xl4] = laws_FnStores.L29 k x2 x4 xl0 xl1 xl2 xl3 xl4 (fun (z0 : Bool) => K .ret (stOf [(2, []), (13, [some 1]), (17, [some 1]), (18, []), (21, [some 1]), (23, [some 1])] [.v (.bool z0), .v (.sl 1), .v (.sl 2), .v (.bool x2), .v (.sl 3), .v (.sl 4)] [.rows 0 false xl0, .rows 1 true xl1, .rows 1 true xl2, .rows 1 true xl3, .rows 1 true xl4])) (fun (_ : Unit) => K (.exit 4) (stOf [(2, []), (13, [some 1]), (17, [some 1]), (18, []), (21, [some 1]), (23, [some 1])] [.v .any, .v (.sl 1), .v (.sl 2), .v (.bool x2), .v (.sl 3), .v (.sl 4)] [.rows 0 false xl0, .rows 1 true xl1, .rows 1 true xl2, .rows 1 true xl3, .rows 1 true xl4])) (fun (x6' : Int) => loopN 1 (Code.den ti (laws_FnStores.Γ k) (laws_FnStores.LH k) (loopAt Try.f5 2)) [(13, [some 1]), (17, [some 1]), (18, []), (21, [some 1]), (22, []), (23, [some 1]), (24, [])] [(2, []), (13, [some 1]), (17, [some 1]), (18, []), (21, [some 1]), (23, [some 1])] K n [.v (.sl 1), .v (.sl 2), .v (.bool x2), .v (.sl 3), .v (.int .i64 x4), .v (.sl 4), .v (.int .i64 x6')] [.rows 0 false xl0, .rows 1 true xl1, .rows 1 true xl2, .rows 1 true xl3, .rows 1 true xl4]) x6 by kernel_rfl).trans (congrArg (fun rec => laws_FnStores.L29 k x2 x4 xl0 xl1 xl2 xl3 xl4 (fun (z0 : Bool) => K .ret (stOf [(2, []), (13, [some 1]), (17, [some 1]), (18, []), (21, [some 1]), (23, [some 1])] [.v (.bool z0), .v (.sl 1), .v (.sl 2), .v (.bool x2), .v (.sl 3), .v (.sl 4)] [.rows 0 false xl0, .rows 1 true xl1, .rows 1 true xl2, .rows 1 true xl3, .rows 1 true xl4])) (fun (_ : Unit) => K (.exit 4) (stOf [(2, []), (13, [some 1]), (17, [some 1]), (18, []), (21, [some 1]), (23, [some 1])] [.v .any, .v (.sl 1), .v (.sl 2), .v (.bool x2), .v (.sl 3), .v (.sl 4)] [.rows 0 false xl0, .rows 1 true xl1, .rows 1 true xl2, .rows 1 true xl3, .rows 1 true xl4])) rec x6) (funext fun x6' => laws_FnStores.e29 K k x2 x4 xl0 xl1 xl2 xl3 xl4 n x6'))
theorem laws_FnStores.q29 (k : Nat) {R : Type} (K : Ex → St κ → Option R) (vs : List AV) (bs : List (Blk κ)) (r : R) (h : laws_FnStores.h29 k K vs bs = some r) : ∃ n, loopN 1 (Code.den ti (laws_FnStores.Γ k) (laws_FnStores.LH k) (loopAt Try.f5 2)) [(13, [some 1]), (17, [some 1]), (18, []), (21, [some 1]), (22, []), (23, [some 1]), (24, [])] [(2, []), (13, [some 1]), (17, [some 1]), (18, []), (21, [some 1]), (23, [some 1])] K n vs bs = some r := by
  unfold laws_FnStores.h29 at h
  split at h
  · obtain ⟨_, rfl, h_1⟩ := asO_bind h
    obtain ⟨_, rfl, h_2⟩ := asO_bind h_1
    obtain ⟨_, rfl, h_3⟩ := asO_bind h_2
    obtain ⟨_, rfl, h_4⟩ := asO_bind h_3
    obtain ⟨_, rfl, h_5⟩ := asO_bind h_4
    exact ⟨k, (laws_FnStores.e29 K k _ _ _ _ _ _ _ k _).trans h_5⟩
  · cases h
theorem laws_FnStores.lok (k : Nat) : LOK ti (laws_FnStores.Γ k) (laws_FnStores.LH k) 1 (loopsOf (bodyOf Try.f5)) :=
  (show loopsOf (bodyOf Try.f5) = [loopAt Try.f5 0, loopAt Try.f5 1, loopAt Try.f5 2] by kernel_rfl) ▸ (LOK_cons (g := ⟨1, [(0, [some 0]), (3, [some 1]), (5, [some 1]), (11, [])], [(0, [some 0]), (2, [])], @laws_FnStores.h13 k⟩) (by kernel_rfl) rfl (fun K vs xs r h => laws_FnStores.q13 k K vs xs r h) (LOK_cons (g := ⟨1, [(0, [some 0]), (3, [some 1]), (5, [some 1]), (11, []), (12, [])], [(0, [some 0]), (3, [some 1]), (5, [some 1]), (11, []), (12, [])], @laws_FnStores.h16 k⟩) (by kernel_rfl) rfl (fun K vs xs r h => laws_FnStores.q16 k K vs xs r h) (LOK_cons (g := ⟨1, [(13, [some 1]), (17, [some 1]), (18, []), (21, [some 1]), (22, []), (23, [some 1]), (24, [])], [(2, []), (13, [some 1]), (17, [some 1]), (18, []), (21, [some 1]), (23, [some 1])], @laws_FnStores.h29 k⟩) (by kernel_rfl) rfl (fun K vs xs r h => laws_FnStores.q29 k K vs xs r h) (LOK_nil))))
def laws_FnStores.sig : List PSh := [.one (.ro 0)]
def laws_FnStores.g (y : Bool) : Ret κ := ⟨.v (.bool y), [], []⟩
def laws_FnStores.out (r : Ret κ) : Option Bool :=
  match r with
  | ⟨.v (.bool z0), [], []⟩ => some (z0)
  | _ => none
theorem laws_FnStores.out_ok (r : Ret κ) (y : Bool) (h : laws_FnStores.out r = some y) : r = laws_FnStores.g y := by
  unfold laws_FnStores.out at h
  split at h
  · obtain rfl := Option.some.inj h
    rfl
  · cases h
def laws_FnStores.body (k : Nat) (vs : List AV) (bs : List (Blk κ)) : Option (Lf κ) :=
  match vs, bs with
  | [.v (.sl 0)], [qb0] => (asO 0 false qb0).bind fun a0 => some ⟨Bool, laws_FnStores.f k a0, laws_FnStores.g⟩
  | _, _ => none
def laws_FnStores.C (k : Nat) : Nat → List AV → AP κ AV := contract laws_FnStores.sig (laws_FnStores.body k)
theorem laws_FnStores.den (k : Nat) (a0 : List Int) : Code.den ti (laws_FnStores.Γ k) (laws_FnStores.LH k) (bodyOf Try.f5) (finK ti Try.f5.results.toList [] (flags laws_FnStores.sig).length (rwI (flags laws_FnStores.sig) 0) laws_FnStores.out) ⟨envOf (([.v (.sl 0)]).zipIdx.map fun q => (q.2, q.1)), hpOf [.rows 0 false a0], (flags laws_FnStores.sig).length⟩ = laws_FnStores.f k a0 := by kernel_rfl
theorem laws_FnStores.ok (k : Nat) : CSound Try.prog 5 (laws_FnStores.C k) :=
  csound κ_ok mixed tok (laws_FnStores.hΓ k) (LH := laws_FnStores.LH k) (fn := Try.f5) (c := bodyOf Try.f5) Try.func5 rfl Try.call5 laws_FnStores.sig [] (laws_FnStores.body k) (by kernel_rfl) (laws_FnStores.lok k) (by decide) fun vs bs lf y hl hb hy => by
    unfold laws_FnStores.body at hb
    split at hb
    · obtain ⟨_, rfl, hb_1⟩ := asO_bind hb
      obtain rfl := Option.some.inj hb_1
      exact ⟨laws_FnStores.out, laws_FnStores.out_ok, (laws_FnStores.den k _).trans hy⟩
    · cases hb
end Go.Proofs.Ytmjflahlhgibnaa.PFnStores
