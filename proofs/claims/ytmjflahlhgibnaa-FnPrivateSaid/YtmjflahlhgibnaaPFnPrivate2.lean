/- What the functions that the law FnPrivate reaches come to; no conditions. -/
import Derived.Test.YtmjflahlhgibnaaPFnPrivate1
set_option linter.unusedVariables false
set_option maxRecDepth 100000
namespace Go.Proofs.Ytmjflahlhgibnaa.PFnPrivate
open Go Go.Eng Go.Proofs
/-! ### spec_OpenWindow -/
def spec_OpenWindow.f (k : Nat) (a0 : List T_impl_Stored) (a1 : Bool) : Option (Bool × List T_impl_Stored × List T_impl_Stored) :=
  (spec_IsStore.f k a0).bind fun t1 => (bif !t1 then some (false, ([] : List T_impl_Stored), ([] : List T_impl_Stored)) else (spec_l25Copy.f k a1 a0 ([] : List T_impl_Stored)).bind fun t2 => some (t2.1, t2.2.1, t2.2.2))
def spec_OpenWindow.Γ (k : Nat) : Ct κ := assoc [(45, spec_IsStore.C k), (112, spec_l25Copy.C k)]
def spec_OpenWindow.LH (k : Nat) : Nat → Option (LHi κ) := assoc []
theorem spec_OpenWindow.hΓ (k : Nat) : ∀ f g, spec_OpenWindow.Γ k f = some g → CSound Try.prog f g := G_cons (spec_IsStore.ok k) (G_cons (spec_l25Copy.ok k) G_nil)
theorem spec_OpenWindow.lok (k : Nat) : LOK ti (spec_OpenWindow.Γ k) (spec_OpenWindow.LH k) 1 (loopsOf (bodyOf Try.f88)) :=
  (show loopsOf (bodyOf Try.f88) = [] by kernel_rfl) ▸ LOK_nil
def spec_OpenWindow.sig : List PSh := [.one (.ro 1), .one .sc]
def spec_OpenWindow.g (y : Bool × List T_impl_Stored × List T_impl_Stored) : Ret κ := ⟨.agg [.bool y.1, .sl 1, .sl 2], [], [.rows 1 true y.2.1, .rows 1 true y.2.2]⟩
def spec_OpenWindow.out (r : Ret κ) : Option (Bool × List T_impl_Stored × List T_impl_Stored) :=
  match r with
  | ⟨.agg [.bool z0, .sl 1, .sl 2], [], [q1, q2]⟩ => (asO 1 true q1).bind fun z1 => (asO 1 true q2).bind fun z2 => some (z0, z1, z2)
  | _ => none
theorem spec_OpenWindow.out_ok (r : Ret κ) (y : Bool × List T_impl_Stored × List T_impl_Stored) (h : spec_OpenWindow.out r = some y) : r = spec_OpenWindow.g y := by
  unfold spec_OpenWindow.out at h
  split at h
  · obtain ⟨_, rfl, h_1⟩ := asO_bind h
    obtain ⟨_, rfl, h_2⟩ := asO_bind h_1
    obtain rfl := Option.some.inj h_2
    rfl
  · cases h
def spec_OpenWindow.body (k : Nat) (vs : List AV) (bs : List (Blk κ)) : Option (Lf κ) :=
  match vs, bs with
  | [.v (.sl 0), .v (.bool a1)], [qb0] => (asO 1 false qb0).bind fun a0 => some ⟨Bool × List T_impl_Stored × List T_impl_Stored, spec_OpenWindow.f k a0 a1, spec_OpenWindow.g⟩
  | _, _ => none
def spec_OpenWindow.C (k : Nat) : Nat → List AV → AP κ AV := contract spec_OpenWindow.sig (spec_OpenWindow.body k)
theorem spec_OpenWindow.den (k : Nat) (a0 : List T_impl_Stored) (a1 : Bool) : Code.den ti (spec_OpenWindow.Γ k) (spec_OpenWindow.LH k) (bodyOf Try.f88) (finK ti Try.f88.results.toList [(4, [none, some 1, some 1])] (flags spec_OpenWindow.sig).length (rwI (flags spec_OpenWindow.sig) 0) spec_OpenWindow.out) ⟨envOf (([.v (.sl 0), .v (.bool a1)]).zipIdx.map fun q => (q.2, q.1)), hpOf [.rows 1 false a0], (flags spec_OpenWindow.sig).length⟩ = spec_OpenWindow.f k a0 a1 := by kernel_rfl
theorem spec_OpenWindow.ok (k : Nat) : CSound Try.prog 88 (spec_OpenWindow.C k) :=
  csound κ_ok mixed tok (spec_OpenWindow.hΓ k) (LH := spec_OpenWindow.LH k) (fn := Try.f88) (c := bodyOf Try.f88) Try.func88 rfl Try.call88 spec_OpenWindow.sig [(4, [none, some 1, some 1])] (spec_OpenWindow.body k) (by kernel_rfl) (spec_OpenWindow.lok k) (by decide) fun vs bs lf y hl hb hy => by
    unfold spec_OpenWindow.body at hb
    split at hb
    · obtain ⟨_, rfl, hb_1⟩ := asO_bind hb
      obtain rfl := Option.some.inj hb_1
      exact ⟨spec_OpenWindow.out, spec_OpenWindow.out_ok, (spec_OpenWindow.den k _ _).trans hy⟩
    · cases hb
/-! ### spec_WriteWindow -/
def spec_WriteWindow.f (k : Nat) (a0_0 : Bool) (a0_1 : List T_impl_Stored) (a0_2 : List T_impl_Stored) (a1 : Int) (a2 : Int) (a3 : Int) : Option (Bool × Bool × List T_impl_Stored × List T_impl_Stored) :=
  (spec_l25Copy.f k a0_0 a0_1 a0_2).bind fun t1 => (bif a0_0 then (spec_PutStored.f k a0_2 a1 a2 a3).bind fun t2 => (bif !t2.1 then some (t1.1, false, t1.2.1, t1.2.2) else (bif a0_0 then some (t1.1, true, t1.2.1, t2.2) else some (t1.1, true, t2.2, t1.2.2))) else (spec_PutStored.f k a0_1 a1 a2 a3).bind fun t3 => (bif !t3.1 then some (t1.1, false, t1.2.1, t1.2.2) else (bif a0_0 then some (t1.1, true, t1.2.1, t3.2) else some (t1.1, true, t3.2, t1.2.2))))
def spec_WriteWindow.Γ (k : Nat) : Ct κ := assoc [(112, spec_l25Copy.C k), (91, spec_PutStored.C k)]
def spec_WriteWindow.LH (k : Nat) : Nat → Option (LHi κ) := assoc []
theorem spec_WriteWindow.hΓ (k : Nat) : ∀ f g, spec_WriteWindow.Γ k f = some g → CSound Try.prog f g := G_cons (spec_l25Copy.ok k) (G_cons (spec_PutStored.ok k) G_nil)
theorem spec_WriteWindow.lok (k : Nat) : LOK ti (spec_WriteWindow.Γ k) (spec_WriteWindow.LH k) 2 (loopsOf (bodyOf Try.f89)) :=
  (show loopsOf (bodyOf Try.f89) = [] by kernel_rfl) ▸ LOK_nil
def spec_WriteWindow.sig : List PSh := [.agg [.sc, .ro 1, .ro 1], .one .sc, .one .sc, .one .sc]
def spec_WriteWindow.g (y : Bool × Bool × List T_impl_Stored × List T_impl_Stored) : Ret κ := ⟨.tup [(true, [.bool y.1, .sl 2, .sl 3]), (false, [.bool y.2.1])], [], [.rows 1 true y.2.2.1, .rows 1 true y.2.2.2]⟩
def spec_WriteWindow.out (r : Ret κ) : Option (Bool × Bool × List T_impl_Stored × List T_impl_Stored) :=
  match r with
  | ⟨.tup [(true, [.bool z0, .sl 2, .sl 3]), (false, [.bool z1])], [], [q2, q3]⟩ => (asO 1 true q2).bind fun z2 => (asO 1 true q3).bind fun z3 => some (z0, z1, z2, z3)
  | _ => none
theorem spec_WriteWindow.out_ok (r : Ret κ) (y : Bool × Bool × List T_impl_Stored × List T_impl_Stored) (h : spec_WriteWindow.out r = some y) : r = spec_WriteWindow.g y := by
  unfold spec_WriteWindow.out at h
  split at h
  · obtain ⟨_, rfl, h_1⟩ := asO_bind h
    obtain ⟨_, rfl, h_2⟩ := asO_bind h_1
    obtain rfl := Option.some.inj h_2
    rfl
  · cases h
def spec_WriteWindow.body (k : Nat) (vs : List AV) (bs : List (Blk κ)) : Option (Lf κ) :=
  match vs, bs with
  | [.agg [.bool a0_0, .sl 0, .sl 1], .v (.int .i64 a1), .v (.int .i64 a2), .v (.int .i64 a3)], [qb0, qb1] => (asO 1 false qb0).bind fun a0_1 => (asO 1 false qb1).bind fun a0_2 => some ⟨Bool × Bool × List T_impl_Stored × List T_impl_Stored, spec_WriteWindow.f k a0_0 a0_1 a0_2 a1 a2 a3, spec_WriteWindow.g⟩
  | _, _ => none
def spec_WriteWindow.C (k : Nat) : Nat → List AV → AP κ AV := contract spec_WriteWindow.sig (spec_WriteWindow.body k)
theorem spec_WriteWindow.den (k : Nat) (a0_0 : Bool) (a0_1 : List T_impl_Stored) (a0_2 : List T_impl_Stored) (a1 : Int) (a2 : Int) (a3 : Int) : Code.den ti (spec_WriteWindow.Γ k) (spec_WriteWindow.LH k) (bodyOf Try.f89) (finK ti Try.f89.results.toList [(8, [none, some 1, some 1])] (flags spec_WriteWindow.sig).length (rwI (flags spec_WriteWindow.sig) 0) spec_WriteWindow.out) ⟨envOf (([.agg [.bool a0_0, .sl 0, .sl 1], .v (.int .i64 a1), .v (.int .i64 a2), .v (.int .i64 a3)]).zipIdx.map fun q => (q.2, q.1)), hpOf [.rows 1 false a0_1, .rows 1 false a0_2], (flags spec_WriteWindow.sig).length⟩ = spec_WriteWindow.f k a0_0 a0_1 a0_2 a1 a2 a3 := by kernel_rfl
theorem spec_WriteWindow.ok (k : Nat) : CSound Try.prog 89 (spec_WriteWindow.C k) :=
  csound κ_ok mixed tok (spec_WriteWindow.hΓ k) (LH := spec_WriteWindow.LH k) (fn := Try.f89) (c := bodyOf Try.f89) Try.func89 rfl Try.call89 spec_WriteWindow.sig [(8, [none, some 1, some 1])] (spec_WriteWindow.body k) (by kernel_rfl) (spec_WriteWindow.lok k) (by decide) fun vs bs lf y hl hb hy => by
    unfold spec_WriteWindow.body at hb
    split at hb
    · obtain ⟨_, rfl, hb_1⟩ := asO_bind hb
      obtain ⟨_, rfl, hb_2⟩ := asO_bind hb_1
      obtain rfl := Option.some.inj hb_2
      exact ⟨spec_WriteWindow.out, spec_WriteWindow.out_ok, (spec_WriteWindow.den k _ _ _ _ _ _).trans hy⟩
    · cases hb
/-! ### spec_l25Draw -/
def spec_l25Draw.L3 {R : Type} (k : Nat) (xl1 : List Int) (xc2_0 : Bool) (xl4 : List T_impl_Stored) (xl5 : List T_impl_Stored) (X0 : Int → Int → Bool → List T_impl_Stored → List T_impl_Stored → Option R) (rec : Int → Int → Int → Bool → List T_impl_Stored → List T_impl_Stored → Option R) (x3 : Int) (xc0_1 : Int) (xc0_2 : Int) (xc3_0 : Bool) (xl6 : List T_impl_Stored) (xl7 : List T_impl_Stored) : Option R :=
  (bif decide (x3 > (0 : Int)) then (spec_l1Below.f k xl1 xc0_1 xc0_2 (3 : Int)).bind fun t5 => (spec_l1Below.f k xl1 t5.2.1 t5.2.2 (4 : Int)).bind fun t6 => (spec_l1Below.f k xl1 t6.2.1 t6.2.2 (9 : Int)).bind fun t7 => (spec_WriteWindow.f k xc3_0 xl6 xl7 (w64 ((1 : Int) + t5.1)) t6.1 t7.1).bind fun t8 => (rec (w64 (x3 - (1 : Int))) t7.2.1 t7.2.2 t8.1 t8.2.2.1 t8.2.2.2) else (X0 xc0_1 xc0_2 xc3_0 xl6 xl7))
def spec_l25Draw.l3 {R : Type} (k : Nat) (xl1 : List Int) (xc2_0 : Bool) (xl4 : List T_impl_Stored) (xl5 : List T_impl_Stored) (X0 : Int → Int → Bool → List T_impl_Stored → List T_impl_Stored → Option R) : Nat → Int → Int → Int → Bool → List T_impl_Stored → List T_impl_Stored → Option R
  | 0 => fun _ _ _ _ _ _ => none
  | n + 1 => spec_l25Draw.L3 k xl1 xc2_0 xl4 xl5 X0 (spec_l25Draw.l3 k xl1 xc2_0 xl4 xl5 X0 n)
def spec_l25Draw.f (k : Nat) (a0_0 : List Int) (a0_1 : Int) (a0_2 : Int) : Option (Bool × Int × Int × List T_impl_Stored × List T_impl_Stored) :=
  (spec_l24Draw.f k a0_0 a0_1 a0_2).bind fun t1 => (spec_l1Once.f k a0_0 t1.1 t1.2.1 (2 : Int)).bind fun t2 => (spec_OpenWindow.f k t1.2.2 t2.1).bind fun t3 => (spec_l1Below.f k a0_0 t2.2.1 t2.2.2 (4 : Int)).bind fun t4 => (spec_l25Draw.l3 k a0_0 false ([] : List T_impl_Stored) ([] : List T_impl_Stored) (fun (y9 : Int) (y10 : Int) (y11 : Bool) (y12 : List T_impl_Stored) (y13 : List T_impl_Stored) => some (y11, y9, y10, y12, y13)) k t4.1 t4.2.1 t4.2.2 t3.1 t3.2.1 t3.2.2)
def spec_l25Draw.h3 (k : Nat) {R : Type} (K : Ex → St κ → Option R) (vs : List AV) (bs : List (Blk κ)) : Option R :=
  match vs, bs with
  | [.v (.ptr 0 0 0), .v (.ptr 2 0 0), .v (.ptr 3 0 0), .v (.int .i64 x3)], [.cells 106 [.sl 1, .int .i64 xc0_1, .int .i64 xc0_2], qb1, .cells 26 [.bool xc2_0, .sl 4, .sl 5], .cells 26 [.bool xc3_0, .sl 6, .sl 7], qb4, qb5, qb6, qb7] => (asO 0 false qb1).bind fun xl1 => (asO 1 true qb4).bind fun xl4 => (asO 1 true qb5).bind fun xl5 => (asO 1 true qb6).bind fun xl6 => (asO 1 true qb7).bind fun xl7 => spec_l25Draw.l3 k xl1 xc2_0 xl4 xl5 (fun (zc0_1 : Int) (zc0_2 : Int) (zc3_0 : Bool) (zl6 : List T_impl_Stored) (zl7 : List T_impl_Stored) => K (.exit 0) (stOf [(2, [none, some 1, some 1]), (3, [none, some 1, some 1])] [.v (.ptr 2 0 0), .v (.ptr 3 0 0)] [.cells 106 [.sl 1, .int .i64 zc0_1, .int .i64 zc0_2], .rows 0 false xl1, .cells 26 [.bool xc2_0, .sl 4, .sl 5], .cells 26 [.bool zc3_0, .sl 6, .sl 7], .rows 1 true xl4, .rows 1 true xl5, .rows 1 true zl6, .rows 1 true zl7])) k x3 xc0_1 xc0_2 xc3_0 xl6 xl7
  | _, _ => none
def spec_l25Draw.Γ (k : Nat) : Ct κ := assoc [(63, spec_l24Draw.C k), (42, spec_l1Once.C k), (88, spec_OpenWindow.C k), (62, spec_l1Below.C k), (89, spec_WriteWindow.C k)]
def spec_l25Draw.LH (k : Nat) : Nat → Option (LHi κ) := assoc [(3, ⟨2, [(0, [some 0, none, none]), (2, [none, some 1, some 1]), (3, [none, some 1, some 1]), (4, [])], [(2, [none, some 1, some 1]), (3, [none, some 1, some 1])], @spec_l25Draw.h3 k⟩)]
theorem spec_l25Draw.hΓ (k : Nat) : ∀ f g, spec_l25Draw.Γ k f = some g → CSound Try.prog f g := G_cons (spec_l24Draw.ok k) (G_cons (spec_l1Once.ok k) (G_cons (spec_OpenWindow.ok k) (G_cons (spec_l1Below.ok k) (G_cons (spec_WriteWindow.ok k) G_nil))))
theorem spec_l25Draw.e3 {R : Type} (K : Ex → St κ → Option R) (k : Nat) (xl1 : List Int) (xc2_0 : Bool) (xl4 : List T_impl_Stored) (xl5 : List T_impl_Stored) : ∀ (n : Nat) (x3 : Int) (xc0_1 : Int) (xc0_2 : Int) (xc3_0 : Bool) (xl6 : List T_impl_Stored) (xl7 : List T_impl_Stored), loopN 2 (Code.den ti (spec_l25Draw.Γ k) (spec_l25Draw.LH k) (loopAt Try.f61 0)) [(0, [some 0, none, none]), (2, [none, some 1, some 1]), (3, [none, some 1, some 1]), (4, [])] [(2, [none, some 1, some 1]), (3, [none, some 1, some 1])] K n [.v (.ptr 0 0 0), .v (.ptr 2 0 0), .v (.ptr 3 0 0), .v (.int .i64 x3)] [.cells 106 [.sl 1, .int .i64 xc0_1, .int .i64 xc0_2], .rows 0 false xl1, .cells 26 [.bool xc2_0, .sl 4, .sl 5], .cells 26 [.bool xc3_0, .sl 6, .sl 7], .rows 1 true xl4, .rows 1 true xl5, .rows 1 true xl6, .rows 1 true xl7] = spec_l25Draw.l3 k xl1 xc2_0 xl4 xl5 (fun (zc0_1 : Int) (zc0_2 : Int) (zc3_0 : Bool) (zl6 : List T_impl_Stored) (zl7 : List T_impl_Stored) => K (.exit 0) (stOf [(2, [none, some 1, some 1]), (3, [none, some 1, some 1])] [.v (.ptr 2 0 0), .v (.ptr 3 0 0)] [.cells 106 [.sl 1, .int .i64 zc0_1, .int .i64 zc0_2], .rows 0 false xl1, .cells 26 [.bool xc2_0, .sl 4, .sl 5], .cells 26 [.bool zc3_0, .sl 6, .sl 7], .rows 1 true xl4, .rows 1 true xl5, .rows 1 true zl6, .rows 1 true zl7])) n x3 xc0_1 xc0_2 xc3_0 xl6 xl7
  | 0, _, _, _, _, _, _ => rfl
  | n + 1, x3, xc0_1, xc0_2, xc3_0, xl6, xl7 => (show loopN 2 (Code.den ti (spec_l25Draw.Γ k) (spec_l25Draw.LH k) (loopAt Try.f61 0)) [(0, [some 0, none, none]), (2, [none, some 1, some 1]), (3, [none, some 1, some 1]), (4, [])] [(2, [none, some 1, some 1]), (3, [none, some 1, some 1])] K (n + 1) [.v (.ptr 0 0 0), .v (.ptr 2 0 0), .v (.ptr 3 0 0), .v (.int .i64 x3)] [.cells 106 [.sl 1, .int .i64 xc0_1, .int .i64 xc0_2], .rows 0 false xl1, .cells 26 [.bool xc2_0, .sl 4, .sl 5], .cells 26 [.bool xc3_0, .sl 6, .sl 7], .rows 1 true xl4, .rows 1 true xl5, .rows 1 true xl6, .rows 1 true xl7] = spec_l25Draw.L3 k xl1 xc2_0 xl4 xl5 (fun (zc0_1 : Int) (zc0_2 : Int) (zc3_0 : Bool) (zl6 : List T_impl_Stored) (zl7 : List T_impl_Stored) => K (.exit 0) (stOf [(2, [none, some 1, some 1]), (3, [none, some 1, some 1])] [.v (.ptr 2 0 0), .v (.ptr 3 0 0)] [.cells 106 [.sl 1, .int .i64 zc0_1, .int .i64 zc0_2], .rows 0 false xl1, .cells 26 [.bool xc2_0, .sl 4, .sl 5], .cells 26 [.bool zc3_0, .sl 6, .sl 7], .rows 1 true xl4, .rows 1 true xl5, .rows 1 true zl6, .rows 1 true zl7])) (fun (x3' : Int) (xc0_1' : Int) (xc0_2' : Int) (xc3_0' : Bool) (xl6' : List T_impl_Stored) (xl7' : List T_impl_Stored) => loopN 2 (Code.den ti (spec_l25Draw.Γ k) (spec_l25Draw.LH k) (loopAt Try.f61 0)) [(0, [some 0, none, none]), (2, [none, some 1, some 1]), (3, [none, some 1, some 1]), (4, [])] [(2, [none, some 1, some 1]), (3, [none, some 1, some 1])] K n [.v (.ptr 0 0 0), .v (.ptr 2 0 0), .v (.ptr 3 0 0), .v (.int .i64 x3')] [.cells 106 [.sl 1, .int .i64 xc0_1', .int .i64 xc0_2'], .rows 0 false xl1, .cells 26 [.bool xc2_0, .sl 4, .sl 5], .cells 26 [.bool xc3_0', .sl 6, .sl 7], .rows 1 true xl4, .rows 1 true xl5, .rows 1 true xl6', .rows 1 true xl7']) x3 xc0_1 xc0_2 xc3_0 xl6 xl7 by kernel_rfl).trans (congrArg (fun rec => spec_l25Draw.L3 k xl1 xc2_0 xl4 xl5 (fun (zc0_1 : Int) (zc0_2 : Int) (zc3_0 : Bool) (zl6 : List T_impl_Stored) (zl7 : List T_impl_Stored) => K (.exit 0) (stOf [(2, [none, some 1, some 1]), (3, [none, some 1, some 1])] [.v (.ptr 2 0 0), .v (.ptr 3 0 0)] [.cells 106 [.sl 1, .int .i64 zc0_1, .int .i64 zc0_2], .rows 0 false xl1, .cells 26 [.bool xc2_0, .sl 4, .sl 5], .cells 26 [.bool zc3_0, .sl 6, .sl 7], .rows 1 true xl4, .rows 1 true xl5, .rows 1 true zl6, .rows 1 true zl7])) rec x3 xc0_1 xc0_2 xc3_0 xl6 xl7) (funext fun x3' => funext fun xc0_1' => funext fun xc0_2' => funext fun xc3_0' => funext fun xl6' => funext fun xl7' => spec_l25Draw.e3 K k xl1 xc2_0 xl4 xl5 n x3' xc0_1' xc0_2' xc3_0' xl6' xl7'))
theorem spec_l25Draw.q3 (k : Nat) {R : Type} (K : Ex → St κ → Option R) (vs : List AV) (bs : List (Blk κ)) (r : R) (h : spec_l25Draw.h3 k K vs bs = some r) : ∃ n, loopN 2 (Code.den ti (spec_l25Draw.Γ k) (spec_l25Draw.LH k) (loopAt Try.f61 0)) [(0, [some 0, none, none]), (2, [none, some 1, some 1]), (3, [none, some 1, some 1]), (4, [])] [(2, [none, some 1, some 1]), (3, [none, some 1, some 1])] K n vs bs = some r := by
  unfold spec_l25Draw.h3 at h
  split at h
  · obtain ⟨_, rfl, h_1⟩ := asO_bind h
    obtain ⟨_, rfl, h_2⟩ := asO_bind h_1
    obtain ⟨_, rfl, h_3⟩ := asO_bind h_2
    obtain ⟨_, rfl, h_4⟩ := asO_bind h_3
    obtain ⟨_, rfl, h_5⟩ := asO_bind h_4
    exact ⟨k, (spec_l25Draw.e3 K k _ _ _ _ k _ _ _ _ _ _).trans h_5⟩
  · cases h
theorem spec_l25Draw.lok (k : Nat) : LOK ti (spec_l25Draw.Γ k) (spec_l25Draw.LH k) 2 (loopsOf (bodyOf Try.f61)) :=
  (show loopsOf (bodyOf Try.f61) = [loopAt Try.f61 0] by kernel_rfl) ▸ (LOK_cons (g := ⟨2, [(0, [some 0, none, none]), (2, [none, some 1, some 1]), (3, [none, some 1, some 1]), (4, [])], [(2, [none, some 1, some 1]), (3, [none, some 1, some 1])], @spec_l25Draw.h3 k⟩) (by kernel_rfl) rfl (fun K vs xs r h => spec_l25Draw.q3 k K vs xs r h) (LOK_nil))
def spec_l25Draw.sig : List PSh := [.cur 106 [.ro 0, .sc, .sc]]
def spec_l25Draw.g (y : Bool × Int × Int × List T_impl_Stored × List T_impl_Stored) : Ret κ := ⟨.agg [.bool y.1, .sl 2, .sl 3], [.cells 106 [.sl 1, .int .i64 y.2.1, .int .i64 y.2.2.1]], [.rows 1 true y.2.2.2.1, .rows 1 true y.2.2.2.2]⟩
def spec_l25Draw.out (r : Ret κ) : Option (Bool × Int × Int × List T_impl_Stored × List T_impl_Stored) :=
  match r with
  | ⟨.agg [.bool z0, .sl 2, .sl 3], [.cells 106 [.sl 1, .int .i64 z1, .int .i64 z2]], [q3, q4]⟩ => (asO 1 true q3).bind fun z3 => (asO 1 true q4).bind fun z4 => some (z0, z1, z2, z3, z4)
  | _ => none
theorem spec_l25Draw.out_ok (r : Ret κ) (y : Bool × Int × Int × List T_impl_Stored × List T_impl_Stored) (h : spec_l25Draw.out r = some y) : r = spec_l25Draw.g y := by
  unfold spec_l25Draw.out at h
  split at h
  · obtain ⟨_, rfl, h_1⟩ := asO_bind h
    obtain ⟨_, rfl, h_2⟩ := asO_bind h_1
    obtain rfl := Option.some.inj h_2
    rfl
  · cases h
def spec_l25Draw.body (k : Nat) (vs : List AV) (bs : List (Blk κ)) : Option (Lf κ) :=
  match vs, bs with
  | [.v (.ptr 0 0 0)], [.cells 106 [.sl 1, .int .i64 a0_1, .int .i64 a0_2], qb1] => (asO 0 false qb1).bind fun a0_0 => some ⟨Bool × Int × Int × List T_impl_Stored × List T_impl_Stored, spec_l25Draw.f k a0_0 a0_1 a0_2, spec_l25Draw.g⟩
  | _, _ => none
def spec_l25Draw.C (k : Nat) : Nat → List AV → AP κ AV := contract spec_l25Draw.sig (spec_l25Draw.body k)
theorem spec_l25Draw.den (k : Nat) (a0_0 : List Int) (a0_1 : Int) (a0_2 : Int) : Code.den ti (spec_l25Draw.Γ k) (spec_l25Draw.LH k) (bodyOf Try.f61) (finK ti Try.f61.results.toList [(2, [none, some 1, some 1])] (flags spec_l25Draw.sig).length (rwI (flags spec_l25Draw.sig) 0) spec_l25Draw.out) ⟨envOf (([.v (.ptr 0 0 0)]).zipIdx.map fun q => (q.2, q.1)), hpOf [.cells 106 [.sl 1, .int .i64 a0_1, .int .i64 a0_2], .rows 0 false a0_0], (flags spec_l25Draw.sig).length⟩ = spec_l25Draw.f k a0_0 a0_1 a0_2 := by kernel_rfl
theorem spec_l25Draw.ok (k : Nat) : CSound Try.prog 61 (spec_l25Draw.C k) :=
  csound κ_ok mixed tok (spec_l25Draw.hΓ k) (LH := spec_l25Draw.LH k) (fn := Try.f61) (c := bodyOf Try.f61) Try.func61 rfl Try.call61 spec_l25Draw.sig [(2, [none, some 1, some 1])] (spec_l25Draw.body k) (by kernel_rfl) (spec_l25Draw.lok k) (by decide) fun vs bs lf y hl hb hy => by
    unfold spec_l25Draw.body at hb
    split at hb
    · obtain ⟨_, rfl, hb_1⟩ := asO_bind hb
      obtain rfl := Option.some.inj hb_1
      exact ⟨spec_l25Draw.out, spec_l25Draw.out_ok, (spec_l25Draw.den k _ _ _).trans hy⟩
    · cases hb
/-! ### spec_DrawReadWindow -/
def spec_DrawReadWindow.f (k : Nat) (a0 : List Int) : Option (Bool × Int × Int × List T_impl_Stored × List T_impl_Stored) :=
  (spec_l1New.f k a0).bind fun t1 => (spec_l25Draw.f k a0 t1.1 t1.2).bind fun t2 => (spec_l1Below.f k a0 t2.2.1 t2.2.2.1 (3 : Int)).bind fun t3 => (spec_l1Below.f k a0 t3.2.1 t3.2.2 (5 : Int)).bind fun t4 => some (t2.1, (w64 ((1 : Int) + t3.1)), t4.1, t2.2.2.2.1, t2.2.2.2.2)
def spec_DrawReadWindow.Γ (k : Nat) : Ct κ := assoc [(37, spec_l1New.C k), (61, spec_l25Draw.C k), (62, spec_l1Below.C k)]
def spec_DrawReadWindow.LH (k : Nat) : Nat → Option (LHi κ) := assoc []
theorem spec_DrawReadWindow.hΓ (k : Nat) : ∀ f g, spec_DrawReadWindow.Γ k f = some g → CSound Try.prog f g := G_cons (spec_l1New.ok k) (G_cons (spec_l25Draw.ok k) (G_cons (spec_l1Below.ok k) G_nil))
theorem spec_DrawReadWindow.lok (k : Nat) : LOK ti (spec_DrawReadWindow.Γ k) (spec_DrawReadWindow.LH k) 1 (loopsOf (bodyOf Try.f36)) :=
  (show loopsOf (bodyOf Try.f36) = [] by kernel_rfl) ▸ LOK_nil
def spec_DrawReadWindow.sig : List PSh := [.one (.ro 0)]
def spec_DrawReadWindow.g (y : Bool × Int × Int × List T_impl_Stored × List T_impl_Stored) : Ret κ := ⟨.tup [(true, [.bool y.1, .sl 1, .sl 2]), (false, [.int .i64 y.2.1]), (false, [.int .i64 y.2.2.1])], [], [.rows 1 true y.2.2.2.1, .rows 1 true y.2.2.2.2]⟩
def spec_DrawReadWindow.out (r : Ret κ) : Option (Bool × Int × Int × List T_impl_Stored × List T_impl_Stored) :=
  match r with
  | ⟨.tup [(true, [.bool z0, .sl 1, .sl 2]), (false, [.int .i64 z1]), (false, [.int .i64 z2])], [], [q3, q4]⟩ => (asO 1 true q3).bind fun z3 => (asO 1 true q4).bind fun z4 => some (z0, z1, z2, z3, z4)
  | _ => none
theorem spec_DrawReadWindow.out_ok (r : Ret κ) (y : Bool × Int × Int × List T_impl_Stored × List T_impl_Stored) (h : spec_DrawReadWindow.out r = some y) : r = spec_DrawReadWindow.g y := by
  unfold spec_DrawReadWindow.out at h
  split at h
  · obtain ⟨_, rfl, h_1⟩ := asO_bind h
    obtain ⟨_, rfl, h_2⟩ := asO_bind h_1
    obtain rfl := Option.some.inj h_2
    rfl
  · cases h
def spec_DrawReadWindow.body (k : Nat) (vs : List AV) (bs : List (Blk κ)) : Option (Lf κ) :=
  match vs, bs with
  | [.v (.sl 0)], [qb0] => (asO 0 false qb0).bind fun a0 => some ⟨Bool × Int × Int × List T_impl_Stored × List T_impl_Stored, spec_DrawReadWindow.f k a0, spec_DrawReadWindow.g⟩
  | _, _ => none
def spec_DrawReadWindow.C (k : Nat) : Nat → List AV → AP κ AV := contract spec_DrawReadWindow.sig (spec_DrawReadWindow.body k)
theorem spec_DrawReadWindow.den (k : Nat) (a0 : List Int) : Code.den ti (spec_DrawReadWindow.Γ k) (spec_DrawReadWindow.LH k) (bodyOf Try.f36) (finK ti Try.f36.results.toList [(2, [none, some 1, some 1])] (flags spec_DrawReadWindow.sig).length (rwI (flags spec_DrawReadWindow.sig) 0) spec_DrawReadWindow.out) ⟨envOf (([.v (.sl 0)]).zipIdx.map fun q => (q.2, q.1)), hpOf [.rows 0 false a0], (flags spec_DrawReadWindow.sig).length⟩ = spec_DrawReadWindow.f k a0 := by kernel_rfl
theorem spec_DrawReadWindow.ok (k : Nat) : CSound Try.prog 36 (spec_DrawReadWindow.C k) :=
  csound κ_ok mixed tok (spec_DrawReadWindow.hΓ k) (LH := spec_DrawReadWindow.LH k) (fn := Try.f36) (c := bodyOf Try.f36) Try.func36 rfl Try.call36 spec_DrawReadWindow.sig [(2, [none, some 1, some 1])] (spec_DrawReadWindow.body k) (by kernel_rfl) (spec_DrawReadWindow.lok k) (by decide) fun vs bs lf y hl hb hy => by
    unfold spec_DrawReadWindow.body at hb
    split at hb
    · obtain ⟨_, rfl, hb_1⟩ := asO_bind hb
      obtain rfl := Option.some.inj hb_1
      exact ⟨spec_DrawReadWindow.out, spec_DrawReadWindow.out_ok, (spec_DrawReadWindow.den k _).trans hy⟩
    · cases hb
/-! ### spec_l1Int -/
def spec_l1Int.f (k : Nat) (a0_0 : List Int) (a0_1 : Int) (a0_2 : Int) (a1 : List Int) : Option (Int × Int × Int) :=
  (spec_l1Below.f k a0_0 a0_1 a0_2 (a1.length : Int)).bind fun t1 => (bif decide (0 ≤ t1.1) then (bif decide (t1.1 < (a1.length : Int)) then some ((rd_i64 a1 t1.1), t1.2.1, t1.2.2) else none) else none)
def spec_l1Int.Γ (k : Nat) : Ct κ := assoc [(62, spec_l1Below.C k)]
def spec_l1Int.LH (k : Nat) : Nat → Option (LHi κ) := assoc []
theorem spec_l1Int.hΓ (k : Nat) : ∀ f g, spec_l1Int.Γ k f = some g → CSound Try.prog f g := G_cons (spec_l1Below.ok k) G_nil
theorem spec_l1Int.lok (k : Nat) : LOK ti (spec_l1Int.Γ k) (spec_l1Int.LH k) 3 (loopsOf (bodyOf Try.f38)) :=
  (show loopsOf (bodyOf Try.f38) = [] by kernel_rfl) ▸ LOK_nil
def spec_l1Int.sig : List PSh := [.cur 106 [.ro 0, .sc, .sc], .one (.ro 2)]
def spec_l1Int.g (y : Int × Int × Int) : Ret κ := ⟨.v (.int .i64 y.1), [.cells 106 [.sl 1, .int .i64 y.2.1, .int .i64 y.2.2]], []⟩
def spec_l1Int.out (r : Ret κ) : Option (Int × Int × Int) :=
  match r with
  | ⟨.v (.int .i64 z0), [.cells 106 [.sl 1, .int .i64 z1, .int .i64 z2]], []⟩ => some (z0, z1, z2)
  | _ => none
theorem spec_l1Int.out_ok (r : Ret κ) (y : Int × Int × Int) (h : spec_l1Int.out r = some y) : r = spec_l1Int.g y := by
  unfold spec_l1Int.out at h
  split at h
  · obtain rfl := Option.some.inj h
    rfl
  · cases h
def spec_l1Int.body (k : Nat) (vs : List AV) (bs : List (Blk κ)) : Option (Lf κ) :=
  match vs, bs with
  | [.v (.ptr 0 0 0), .v (.sl 2)], [.cells 106 [.sl 1, .int .i64 a0_1, .int .i64 a0_2], qb1, qb2] => (asO 0 false qb1).bind fun a0_0 => (asO 2 false qb2).bind fun a1 => some ⟨Int × Int × Int, spec_l1Int.f k a0_0 a0_1 a0_2 a1, spec_l1Int.g⟩
  | _, _ => none
def spec_l1Int.C (k : Nat) : Nat → List AV → AP κ AV := contract spec_l1Int.sig (spec_l1Int.body k)
theorem spec_l1Int.den (k : Nat) (a0_0 : List Int) (a0_1 : Int) (a0_2 : Int) (a1 : List Int) : Code.den ti (spec_l1Int.Γ k) (spec_l1Int.LH k) (bodyOf Try.f38) (finK ti Try.f38.results.toList [] (flags spec_l1Int.sig).length (rwI (flags spec_l1Int.sig) 0) spec_l1Int.out) ⟨envOf (([.v (.ptr 0 0 0), .v (.sl 2)]).zipIdx.map fun q => (q.2, q.1)), hpOf [.cells 106 [.sl 1, .int .i64 a0_1, .int .i64 a0_2], .rows 0 false a0_0, .rows 2 false a1], (flags spec_l1Int.sig).length⟩ = spec_l1Int.f k a0_0 a0_1 a0_2 a1 := by kernel_rfl
theorem spec_l1Int.ok (k : Nat) : CSound Try.prog 38 (spec_l1Int.C k) :=
  csound κ_ok mixed tok (spec_l1Int.hΓ k) (LH := spec_l1Int.LH k) (fn := Try.f38) (c := bodyOf Try.f38) Try.func38 rfl Try.call38 spec_l1Int.sig [] (spec_l1Int.body k) (by kernel_rfl) (spec_l1Int.lok k) (by decide) fun vs bs lf y hl hb hy => by
    unfold spec_l1Int.body at hb
    split at hb
    · obtain ⟨_, rfl, hb_1⟩ := asO_bind hb
      obtain ⟨_, rfl, hb_2⟩ := asO_bind hb_1
      obtain rfl := Option.some.inj hb_2
      exact ⟨spec_l1Int.out, spec_l1Int.out_ok, (spec_l1Int.den k _ _ _ _).trans hy⟩
    · cases hb
/-! ### spec_DrawWriteWindow -/
def spec_DrawWriteWindow.f (k : Nat) (a0 : List Int) : Option (Bool × Int × Int × Int × List T_impl_Stored × List T_impl_Stored) :=
  (spec_DrawReadWindow.f k a0).bind fun t1 => (spec_l1New.f k a0).bind fun t2 => (spec_l1Int.f k a0 t2.1 t2.2 ([(0 : Int), (7 : Int), (999 : Int), (1000 : Int)] : List Int)).bind fun t3 => some (t1.1, t1.2.1, t1.2.2.1, t3.1, t1.2.2.2.1, t1.2.2.2.2)
def spec_DrawWriteWindow.Γ (k : Nat) : Ct κ := assoc [(36, spec_DrawReadWindow.C k), (37, spec_l1New.C k), (38, spec_l1Int.C k)]
def spec_DrawWriteWindow.LH (k : Nat) : Nat → Option (LHi κ) := assoc []
theorem spec_DrawWriteWindow.hΓ (k : Nat) : ∀ f g, spec_DrawWriteWindow.Γ k f = some g → CSound Try.prog f g := G_cons (spec_DrawReadWindow.ok k) (G_cons (spec_l1New.ok k) (G_cons (spec_l1Int.ok k) G_nil))
theorem spec_DrawWriteWindow.lok (k : Nat) : LOK ti (spec_DrawWriteWindow.Γ k) (spec_DrawWriteWindow.LH k) 1 (loopsOf (bodyOf Try.f8)) :=
  (show loopsOf (bodyOf Try.f8) = [] by kernel_rfl) ▸ LOK_nil
def spec_DrawWriteWindow.sig : List PSh := [.one (.ro 0)]
def spec_DrawWriteWindow.g (y : Bool × Int × Int × Int × List T_impl_Stored × List T_impl_Stored) : Ret κ := ⟨.tup [(true, [.bool y.1, .sl 1, .sl 2]), (false, [.int .i64 y.2.1]), (false, [.int .i64 y.2.2.1]), (false, [.int .i64 y.2.2.2.1])], [], [.rows 1 true y.2.2.2.2.1, .rows 1 true y.2.2.2.2.2]⟩
def spec_DrawWriteWindow.out (r : Ret κ) : Option (Bool × Int × Int × Int × List T_impl_Stored × List T_impl_Stored) :=
  match r with
  | ⟨.tup [(true, [.bool z0, .sl 1, .sl 2]), (false, [.int .i64 z1]), (false, [.int .i64 z2]), (false, [.int .i64 z3])], [], [q4, q5]⟩ => (asO 1 true q4).bind fun z4 => (asO 1 true q5).bind fun z5 => some (z0, z1, z2, z3, z4, z5)
  | _ => none
theorem spec_DrawWriteWindow.out_ok (r : Ret κ) (y : Bool × Int × Int × Int × List T_impl_Stored × List T_impl_Stored) (h : spec_DrawWriteWindow.out r = some y) : r = spec_DrawWriteWindow.g y := by
  unfold spec_DrawWriteWindow.out at h
  split at h
  · obtain ⟨_, rfl, h_1⟩ := asO_bind h
    obtain ⟨_, rfl, h_2⟩ := asO_bind h_1
    obtain rfl := Option.some.inj h_2
    rfl
  · cases h
def spec_DrawWriteWindow.body (k : Nat) (vs : List AV) (bs : List (Blk κ)) : Option (Lf κ) :=
  match vs, bs with
  | [.v (.sl 0)], [qb0] => (asO 0 false qb0).bind fun a0 => some ⟨Bool × Int × Int × Int × List T_impl_Stored × List T_impl_Stored, spec_DrawWriteWindow.f k a0, spec_DrawWriteWindow.g⟩
  | _, _ => none
def spec_DrawWriteWindow.C (k : Nat) : Nat → List AV → AP κ AV := contract spec_DrawWriteWindow.sig (spec_DrawWriteWindow.body k)
theorem spec_DrawWriteWindow.den (k : Nat) (a0 : List Int) : Code.den ti (spec_DrawWriteWindow.Γ k) (spec_DrawWriteWindow.LH k) (bodyOf Try.f8) (finK ti Try.f8.results.toList [(2, [none, some 1, some 1])] (flags spec_DrawWriteWindow.sig).length (rwI (flags spec_DrawWriteWindow.sig) 0) spec_DrawWriteWindow.out) ⟨envOf (([.v (.sl 0)]).zipIdx.map fun q => (q.2, q.1)), hpOf [.rows 0 false a0], (flags spec_DrawWriteWindow.sig).length⟩ = spec_DrawWriteWindow.f k a0 := by kernel_rfl
theorem spec_DrawWriteWindow.ok (k : Nat) : CSound Try.prog 8 (spec_DrawWriteWindow.C k) :=
  csound κ_ok mixed tok (spec_DrawWriteWindow.hΓ k) (LH := spec_DrawWriteWindow.LH k) (fn := Try.f8) (c := bodyOf Try.f8) Try.func8 rfl Try.call8 spec_DrawWriteWindow.sig [(2, [none, some 1, some 1])] (spec_DrawWriteWindow.body k) (by kernel_rfl) (spec_DrawWriteWindow.lok k) (by decide) fun vs bs lf y hl hb hy => by
    unfold spec_DrawWriteWindow.body at hb
    split at hb
    · obtain ⟨_, rfl, hb_1⟩ := asO_bind hb
      obtain rfl := Option.some.inj hb_1
      exact ⟨spec_DrawWriteWindow.out, spec_DrawWriteWindow.out_ok, (spec_DrawWriteWindow.den k _).trans hy⟩
    · cases hb
/-! ### slices_Clone_Stored -/
def slices_Clone_Stored.f (k : Nat) (l : List T_impl_Stored) : Option (List T_impl_Stored) := cloneF 1 κ l
def slices_Clone_Stored.C (k : Nat) : Nat → List AV → AP κ AV := contract [.one (.ro 1)] (cloneB 1 κ)
theorem slices_Clone_Stored.ok (k : Nat) : CSound Try.prog 39 (slices_Clone_Stored.C k) :=
  clone_sound κ_ok mixed tok (fn := Try.f39) 1 Try.func39 rfl Try.call39 rfl rfl rfl rfl rfl rfl Try.underlying24 rfl (by kernel_rfl) (by kernel_rfl) (by kernel_rfl) rfl rfl rfl (fun l => by kernel_rfl) (fun q l => by cases q <;> kernel_rfl)
/-! ### impl_placeOf -/
def impl_placeOf.L2 {R : Type} (k : Nat) (x0 : Int) (x1 : Int) (x3 : Int) (xl0 : List T_impl_Stored) (X0 : Int → Option R) (X1 : Unit → Option R) (rec : Int → Option R) (x4 : Int) : Option R :=
  (bif decide (x4 < x3) then (bif decide (0 ≤ x4) then (bif decide (x4 < (xl0.length : Int)) then (bif ((rd_impl_Stored xl0 x4).f0 == x0) then (bif ((rd_impl_Stored xl0 x4).f1 == x1) then (X0 x4) else (rec (w64 (x4 + (1 : Int))))) else (rec (w64 (x4 + (1 : Int))))) else none) else none) else (X1 ()))
def impl_placeOf.l2 {R : Type} (k : Nat) (x0 : Int) (x1 : Int) (x3 : Int) (xl0 : List T_impl_Stored) (X0 : Int → Option R) (X1 : Unit → Option R) : Nat → Int → Option R
  | 0 => fun _ => none
  | n + 1 => impl_placeOf.L2 k x0 x1 x3 xl0 X0 X1 (impl_placeOf.l2 k x0 x1 x3 xl0 X0 X1 n)
def impl_placeOf.f (k : Nat) (a0 : List T_impl_Stored) (a1 : Int) (a2 : Int) : Option Int :=
  (impl_placeOf.l2 k a1 a2 (a0.length : Int) a0 (fun (y1 : Int) => some y1) (fun (_ : Unit) => some (-1 : Int)) k (0 : Int))
def impl_placeOf.h2 (k : Nat) {R : Type} (K : Ex → St κ → Option R) (vs : List AV) (bs : List (Blk κ)) : Option R :=
  match vs, bs with
  | [.v (.int .i64 x0), .v (.int .i64 x1), .v (.sl 0), .v (.int .i64 x3), .v (.int .i64 x4)], [qb0] => (asO 1 false qb0).bind fun xl0 => impl_placeOf.l2 k x0 x1 x3 xl0 (fun (z0 : Int) => K .ret (stOf [(6, [])] [.v (.int .i64 z0)] [.rows 1 false xl0])) (fun (_ : Unit) => K (.exit 0) (stOf [(6, [])] [.v .any] [.rows 1 false xl0])) k x4
  | _, _ => none
def impl_placeOf.Γ (k : Nat) : Ct κ := assoc []
def impl_placeOf.LH (k : Nat) : Nat → Option (LHi κ) := assoc [(2, ⟨1, [(1, []), (2, []), (9, [some 1]), (10, []), (11, [])], [(6, [])], @impl_placeOf.h2 k⟩)]
theorem impl_placeOf.hΓ (k : Nat) : ∀ f g, impl_placeOf.Γ k f = some g → CSound Try.prog f g := G_nil
theorem impl_placeOf.e2 {R : Type} (K : Ex → St κ → Option R) (k : Nat) (x0 : Int) (x1 : Int) (x3 : Int) (xl0 : List T_impl_Stored) : ∀ (n : Nat) (x4 : Int), loopN 1 (Code.den ti (impl_placeOf.Γ k) (impl_placeOf.LH k) (loopAt Try.f49 0)) [(1, []), (2, []), (9, [some 1]), (10, []), (11, [])] [(6, [])] K n [.v (.int .i64 x0), .v (.int .i64 x1), .v (.sl 0), .v (.int .i64 x3), .v (.int .i64 x4)] [.rows 1 false xl0] = impl_placeOf.l2 k x0 x1 x3 xl0 (fun (z0 : Int) => K .ret (stOf [(6, [])] [.v (.int .i64 z0)] [.rows 1 false xl0])) (fun (_ : Unit) => K (.exit 0) (stOf [(6, [])] [.v .any] [.rows 1 false xl0])) n x4
  | 0, _ => rfl
  | n + 1, x4 => (show loopN 1 (Code.den ti (impl_placeOf.Γ k) (impl_placeOf.LH k) (loopAt Try.f49 0)) [(1, []), (2, []), (9, [some 1]), (10, []), (11, [])] [(6, [])] K (n + 1) [.v (.int .i64 x0), .v (.int .i64 x1), .v (.sl 0), .v (.int .i64 x3), .v (.int .i64 x4)] [.rows 1 false xl0] = impl_placeOf.L2 k x0 x1 x3 xl0 (fun (z0 : Int) => K .ret (stOf [(6, [])] [.v (.int .i64 z0)] [.rows 1 false xl0])) (fun (_ : Unit) => K (.exit 0) (stOf [(6, [])] [.v .any] [.rows 1 false xl0])) (fun (x4' : Int) => loopN 1 (Code.den ti (impl_placeOf.Γ k) (impl_placeOf.LH k) (loopAt Try.f49 0)) [(1, []), (2, []), (9, [some 1]), (10, []), (11, [])] [(6, [])] K n [.v (.int .i64 x0), .v (.int .i64 x1), .v (.sl 0), .v (.int .i64 x3), .v (.int .i64 x4')] [.rows 1 false xl0]) x4 by kernel_rfl).trans (congrArg (fun rec => impl_placeOf.L2 k x0 x1 x3 xl0 (fun (z0 : Int) => K .ret (stOf [(6, [])] [.v (.int .i64 z0)] [.rows 1 false xl0])) (fun (_ : Unit) => K (.exit 0) (stOf [(6, [])] [.v .any] [.rows 1 false xl0])) rec x4) (funext fun x4' => impl_placeOf.e2 K k x0 x1 x3 xl0 n x4'))
theorem impl_placeOf.q2 (k : Nat) {R : Type} (K : Ex → St κ → Option R) (vs : List AV) (bs : List (Blk κ)) (r : R) (h : impl_placeOf.h2 k K vs bs = some r) : ∃ n, loopN 1 (Code.den ti (impl_placeOf.Γ k) (impl_placeOf.LH k) (loopAt Try.f49 0)) [(1, []), (2, []), (9, [some 1]), (10, []), (11, [])] [(6, [])] K n vs bs = some r := by
  unfold impl_placeOf.h2 at h
  split at h
  · obtain ⟨_, rfl, h_1⟩ := asO_bind h
    exact ⟨k, (impl_placeOf.e2 K k _ _ _ _ k _).trans h_1⟩
  · cases h
theorem impl_placeOf.lok (k : Nat) : LOK ti (impl_placeOf.Γ k) (impl_placeOf.LH k) 1 (loopsOf (bodyOf Try.f49)) :=
  (show loopsOf (bodyOf Try.f49) = [loopAt Try.f49 0] by kernel_rfl) ▸ (LOK_cons (g := ⟨1, [(1, []), (2, []), (9, [some 1]), (10, []), (11, [])], [(6, [])], @impl_placeOf.h2 k⟩) (by kernel_rfl) rfl (fun K vs xs r h => impl_placeOf.q2 k K vs xs r h) (LOK_nil))
def impl_placeOf.sig : List PSh := [.one (.ro 1), .one .sc, .one .sc]
def impl_placeOf.g (y : Int) : Ret κ := ⟨.v (.int .i64 y), [], []⟩
def impl_placeOf.out (r : Ret κ) : Option Int :=
  match r with
  | ⟨.v (.int .i64 z0), [], []⟩ => some (z0)
  | _ => none
theorem impl_placeOf.out_ok (r : Ret κ) (y : Int) (h : impl_placeOf.out r = some y) : r = impl_placeOf.g y := by
  unfold impl_placeOf.out at h
  split at h
  · obtain rfl := Option.some.inj h
    rfl
  · cases h
def impl_placeOf.body (k : Nat) (vs : List AV) (bs : List (Blk κ)) : Option (Lf κ) :=
  match vs, bs with
  | [.v (.sl 0), .v (.int .i64 a1), .v (.int .i64 a2)], [qb0] => (asO 1 false qb0).bind fun a0 => some ⟨Int, impl_placeOf.f k a0 a1 a2, impl_placeOf.g⟩
  | _, _ => none
def impl_placeOf.C (k : Nat) : Nat → List AV → AP κ AV := contract impl_placeOf.sig (impl_placeOf.body k)
theorem impl_placeOf.den (k : Nat) (a0 : List T_impl_Stored) (a1 : Int) (a2 : Int) : Code.den ti (impl_placeOf.Γ k) (impl_placeOf.LH k) (bodyOf Try.f49) (finK ti Try.f49.results.toList [] (flags impl_placeOf.sig).length (rwI (flags impl_placeOf.sig) 0) impl_placeOf.out) ⟨envOf (([.v (.sl 0), .v (.int .i64 a1), .v (.int .i64 a2)]).zipIdx.map fun q => (q.2, q.1)), hpOf [.rows 1 false a0], (flags impl_placeOf.sig).length⟩ = impl_placeOf.f k a0 a1 a2 := by kernel_rfl
theorem impl_placeOf.ok (k : Nat) : CSound Try.prog 49 (impl_placeOf.C k) :=
  csound κ_ok mixed tok (impl_placeOf.hΓ k) (LH := impl_placeOf.LH k) (fn := Try.f49) (c := bodyOf Try.f49) Try.func49 rfl Try.call49 impl_placeOf.sig [] (impl_placeOf.body k) (by kernel_rfl) (impl_placeOf.lok k) (by decide) fun vs bs lf y hl hb hy => by
    unfold impl_placeOf.body at hb
    split at hb
    · obtain ⟨_, rfl, hb_1⟩ := asO_bind hb
      obtain rfl := Option.some.inj hb_1
      exact ⟨impl_placeOf.out, impl_placeOf.out_ok, (impl_placeOf.den k _ _ _).trans hy⟩
    · cases hb
/-! ### impl_InRange -/
def impl_InRange.f (k : Nat) (a0 : Int) (a1 : Int) (a2 : Int) : Option Bool :=
  (bif decide (a1 ≤ a0) then some (decide (a0 ≤ a2)) else some false)
def impl_InRange.Γ (k : Nat) : Ct κ := assoc []
def impl_InRange.LH (k : Nat) : Nat → Option (LHi κ) := assoc []
theorem impl_InRange.hΓ (k : Nat) : ∀ f g, impl_InRange.Γ k f = some g → CSound Try.prog f g := G_nil
theorem impl_InRange.lok (k : Nat) : LOK ti (impl_InRange.Γ k) (impl_InRange.LH k) 0 (loopsOf (bodyOf Try.f43)) :=
  (show loopsOf (bodyOf Try.f43) = [] by kernel_rfl) ▸ LOK_nil
def impl_InRange.sig : List PSh := [.one .sc, .one .sc, .one .sc]
def impl_InRange.g (y : Bool) : Ret κ := ⟨.v (.bool y), [], []⟩
def impl_InRange.out (r : Ret κ) : Option Bool :=
  match r with
  | ⟨.v (.bool z0), [], []⟩ => some (z0)
  | _ => none
theorem impl_InRange.out_ok (r : Ret κ) (y : Bool) (h : impl_InRange.out r = some y) : r = impl_InRange.g y := by
  unfold impl_InRange.out at h
  split at h
  · obtain rfl := Option.some.inj h
    rfl
  · cases h
def impl_InRange.body (k : Nat) (vs : List AV) (bs : List (Blk κ)) : Option (Lf κ) :=
  match vs, bs with
  | [.v (.int .i64 a0), .v (.int .i64 a1), .v (.int .i64 a2)], [] => some ⟨Bool, impl_InRange.f k a0 a1 a2, impl_InRange.g⟩
  | _, _ => none
def impl_InRange.C (k : Nat) : Nat → List AV → AP κ AV := contract impl_InRange.sig (impl_InRange.body k)
theorem impl_InRange.den (k : Nat) (a0 : Int) (a1 : Int) (a2 : Int) : Code.den ti (impl_InRange.Γ k) (impl_InRange.LH k) (bodyOf Try.f43) (finK ti Try.f43.results.toList [] (flags impl_InRange.sig).length (rwI (flags impl_InRange.sig) 0) impl_InRange.out) ⟨envOf (([.v (.int .i64 a0), .v (.int .i64 a1), .v (.int .i64 a2)]).zipIdx.map fun q => (q.2, q.1)), hpOf [], (flags impl_InRange.sig).length⟩ = impl_InRange.f k a0 a1 a2 := by kernel_rfl
theorem impl_InRange.ok (k : Nat) : CSound Try.prog 43 (impl_InRange.C k) :=
  csound κ_ok mixed tok (impl_InRange.hΓ k) (LH := impl_InRange.LH k) (fn := Try.f43) (c := bodyOf Try.f43) Try.func43 rfl Try.call43 impl_InRange.sig [] (impl_InRange.body k) (by kernel_rfl) (impl_InRange.lok k) (by decide) fun vs bs lf y hl hb hy => by
    unfold impl_InRange.body at hb
    split at hb
    · obtain rfl := Option.some.inj hb
      exact ⟨impl_InRange.out, impl_InRange.out_ok, (impl_InRange.den k _ _ _).trans hy⟩
    · cases hb
/-! ### cmp_isNaN_int -/
def cmp_isNaN_int.f (k : Nat) (a0 : Int) : Option Bool :=
  some (a0 != a0)
def cmp_isNaN_int.Γ (k : Nat) : Ct κ := assoc []
def cmp_isNaN_int.LH (k : Nat) : Nat → Option (LHi κ) := assoc []
theorem cmp_isNaN_int.hΓ (k : Nat) : ∀ f g, cmp_isNaN_int.Γ k f = some g → CSound Try.prog f g := G_nil
theorem cmp_isNaN_int.lok (k : Nat) : LOK ti (cmp_isNaN_int.Γ k) (cmp_isNaN_int.LH k) 0 (loopsOf (bodyOf Try.f92)) :=
  (show loopsOf (bodyOf Try.f92) = [] by kernel_rfl) ▸ LOK_nil
def cmp_isNaN_int.sig : List PSh := [.one .sc]
def cmp_isNaN_int.g (y : Bool) : Ret κ := ⟨.v (.bool y), [], []⟩
def cmp_isNaN_int.out (r : Ret κ) : Option Bool :=
  match r with
  | ⟨.v (.bool z0), [], []⟩ => some (z0)
  | _ => none
theorem cmp_isNaN_int.out_ok (r : Ret κ) (y : Bool) (h : cmp_isNaN_int.out r = some y) : r = cmp_isNaN_int.g y := by
  unfold cmp_isNaN_int.out at h
  split at h
  · obtain rfl := Option.some.inj h
    rfl
  · cases h
def cmp_isNaN_int.body (k : Nat) (vs : List AV) (bs : List (Blk κ)) : Option (Lf κ) :=
  match vs, bs with
  | [.v (.int .i64 a0)], [] => some ⟨Bool, cmp_isNaN_int.f k a0, cmp_isNaN_int.g⟩
  | _, _ => none
def cmp_isNaN_int.C (k : Nat) : Nat → List AV → AP κ AV := contract cmp_isNaN_int.sig (cmp_isNaN_int.body k)
theorem cmp_isNaN_int.den (k : Nat) (a0 : Int) : Code.den ti (cmp_isNaN_int.Γ k) (cmp_isNaN_int.LH k) (bodyOf Try.f92) (finK ti Try.f92.results.toList [] (flags cmp_isNaN_int.sig).length (rwI (flags cmp_isNaN_int.sig) 0) cmp_isNaN_int.out) ⟨envOf (([.v (.int .i64 a0)]).zipIdx.map fun q => (q.2, q.1)), hpOf [], (flags cmp_isNaN_int.sig).length⟩ = cmp_isNaN_int.f k a0 := by kernel_rfl
theorem cmp_isNaN_int.ok (k : Nat) : CSound Try.prog 92 (cmp_isNaN_int.C k) :=
  csound κ_ok mixed tok (cmp_isNaN_int.hΓ k) (LH := cmp_isNaN_int.LH k) (fn := Try.f92) (c := bodyOf Try.f92) Try.func92 rfl Try.call92 cmp_isNaN_int.sig [] (cmp_isNaN_int.body k) (by kernel_rfl) (cmp_isNaN_int.lok k) (by decide) fun vs bs lf y hl hb hy => by
    unfold cmp_isNaN_int.body at hb
    split at hb
    · obtain rfl := Option.some.inj hb
      exact ⟨cmp_isNaN_int.out, cmp_isNaN_int.out_ok, (cmp_isNaN_int.den k _).trans hy⟩
    · cases hb
/-! ### cmp_Compare_int -/
def cmp_Compare_int.f (k : Nat) (a0 : Int) (a1 : Int) : Option Int :=
  (cmp_isNaN_int.f k a0).bind fun t1 => (cmp_isNaN_int.f k a1).bind fun t2 => (bif t1 then (bif t2 then some (0 : Int) else some (-1 : Int)) else (bif t2 then some (1 : Int) else (bif decide (a0 < a1) then some (-1 : Int) else (bif decide (a0 > a1) then some (1 : Int) else some (0 : Int)))))
def cmp_Compare_int.Γ (k : Nat) : Ct κ := assoc [(92, cmp_isNaN_int.C k)]
def cmp_Compare_int.LH (k : Nat) : Nat → Option (LHi κ) := assoc []
theorem cmp_Compare_int.hΓ (k : Nat) : ∀ f g, cmp_Compare_int.Γ k f = some g → CSound Try.prog f g := G_cons (cmp_isNaN_int.ok k) G_nil
theorem cmp_Compare_int.lok (k : Nat) : LOK ti (cmp_Compare_int.Γ k) (cmp_Compare_int.LH k) 0 (loopsOf (bodyOf Try.f65)) :=
  (show loopsOf (bodyOf Try.f65) = [] by kernel_rfl) ▸ LOK_nil
def cmp_Compare_int.sig : List PSh := [.one .sc, .one .sc]
def cmp_Compare_int.g (y : Int) : Ret κ := ⟨.v (.int .i64 y), [], []⟩
def cmp_Compare_int.out (r : Ret κ) : Option Int :=
  match r with
  | ⟨.v (.int .i64 z0), [], []⟩ => some (z0)
  | _ => none
theorem cmp_Compare_int.out_ok (r : Ret κ) (y : Int) (h : cmp_Compare_int.out r = some y) : r = cmp_Compare_int.g y := by
  unfold cmp_Compare_int.out at h
  split at h
  · obtain rfl := Option.some.inj h
    rfl
  · cases h
def cmp_Compare_int.body (k : Nat) (vs : List AV) (bs : List (Blk κ)) : Option (Lf κ) :=
  match vs, bs with
  | [.v (.int .i64 a0), .v (.int .i64 a1)], [] => some ⟨Int, cmp_Compare_int.f k a0 a1, cmp_Compare_int.g⟩
  | _, _ => none
def cmp_Compare_int.C (k : Nat) : Nat → List AV → AP κ AV := contract cmp_Compare_int.sig (cmp_Compare_int.body k)
theorem cmp_Compare_int.den (k : Nat) (a0 : Int) (a1 : Int) : Code.den ti (cmp_Compare_int.Γ k) (cmp_Compare_int.LH k) (bodyOf Try.f65) (finK ti Try.f65.results.toList [] (flags cmp_Compare_int.sig).length (rwI (flags cmp_Compare_int.sig) 0) cmp_Compare_int.out) ⟨envOf (([.v (.int .i64 a0), .v (.int .i64 a1)]).zipIdx.map fun q => (q.2, q.1)), hpOf [], (flags cmp_Compare_int.sig).length⟩ = cmp_Compare_int.f k a0 a1 := by kernel_rfl
theorem cmp_Compare_int.ok (k : Nat) : CSound Try.prog 65 (cmp_Compare_int.C k) :=
  csound κ_ok mixed tok (cmp_Compare_int.hΓ k) (LH := cmp_Compare_int.LH k) (fn := Try.f65) (c := bodyOf Try.f65) Try.func65 rfl Try.call65 cmp_Compare_int.sig [] (cmp_Compare_int.body k) (by kernel_rfl) (cmp_Compare_int.lok k) (by decide) fun vs bs lf y hl hb hy => by
    unfold cmp_Compare_int.body at hb
    split at hb
    · obtain rfl := Option.some.inj hb
      exact ⟨cmp_Compare_int.out, cmp_Compare_int.out_ok, (cmp_Compare_int.den k _ _).trans hy⟩
    · cases hb
/-! ### cmp_Or_int -/
def cmp_Or_int.L3 {R : Type} (k : Nat) (x0 : Int) (x2 : Int) (xl0 : List Int) (X0 : Int → Option R) (X1 : Unit → Option R) (rec : Int → Option R) (x3 : Int) : Option R :=
  (bif decide (x3 < x2) then (bif decide (0 ≤ x3) then (bif decide (x3 < (xl0.length : Int)) then (bif ((rd_i64 xl0 x3) != x0) then (X0 (rd_i64 xl0 x3)) else (rec (w64 (x3 + (1 : Int))))) else none) else none) else (X1 ()))
def cmp_Or_int.l3 {R : Type} (k : Nat) (x0 : Int) (x2 : Int) (xl0 : List Int) (X0 : Int → Option R) (X1 : Unit → Option R) : Nat → Int → Option R
  | 0 => fun _ => none
  | n + 1 => cmp_Or_int.L3 k x0 x2 xl0 X0 X1 (cmp_Or_int.l3 k x0 x2 xl0 X0 X1 n)
def cmp_Or_int.f (k : Nat) (a0 : List Int) : Option Int :=
  (cmp_Or_int.l3 k (0 : Int) (a0.length : Int) a0 (fun (y1 : Int) => some y1) (fun (_ : Unit) => some (0 : Int)) k (0 : Int))
def cmp_Or_int.h3 (k : Nat) {R : Type} (K : Ex → St κ → Option R) (vs : List AV) (bs : List (Blk κ)) : Option R :=
  match vs, bs with
  | [.v (.int .i64 x0), .v (.sl 0), .v (.int .i64 x2), .v (.int .i64 x3)], [qb0] => (asO 2 false qb0).bind fun xl0 => cmp_Or_int.l3 k x0 x2 xl0 (fun (z0 : Int) => K .ret (stOf [(2, []), (3, [])] [.v (.int .i64 z0), .v (.int .i64 x0)] [.rows 2 false xl0])) (fun (_ : Unit) => K (.exit 0) (stOf [(2, []), (3, [])] [.v .any, .v (.int .i64 x0)] [.rows 2 false xl0])) k x3
  | _, _ => none
def cmp_Or_int.Γ (k : Nat) : Ct κ := assoc []
def cmp_Or_int.LH (k : Nat) : Nat → Option (LHi κ) := assoc [(3, ⟨1, [(3, []), (6, [some 2]), (7, []), (8, [])], [(2, []), (3, [])], @cmp_Or_int.h3 k⟩)]
theorem cmp_Or_int.hΓ (k : Nat) : ∀ f g, cmp_Or_int.Γ k f = some g → CSound Try.prog f g := G_nil
theorem cmp_Or_int.e3 {R : Type} (K : Ex → St κ → Option R) (k : Nat) (x0 : Int) (x2 : Int) (xl0 : List Int) : ∀ (n : Nat) (x3 : Int), loopN 1 (Code.den ti (cmp_Or_int.Γ k) (cmp_Or_int.LH k) (loopAt Try.f64 0)) [(3, []), (6, [some 2]), (7, []), (8, [])] [(2, []), (3, [])] K n [.v (.int .i64 x0), .v (.sl 0), .v (.int .i64 x2), .v (.int .i64 x3)] [.rows 2 false xl0] = cmp_Or_int.l3 k x0 x2 xl0 (fun (z0 : Int) => K .ret (stOf [(2, []), (3, [])] [.v (.int .i64 z0), .v (.int .i64 x0)] [.rows 2 false xl0])) (fun (_ : Unit) => K (.exit 0) (stOf [(2, []), (3, [])] [.v .any, .v (.int .i64 x0)] [.rows 2 false xl0])) n x3
  | 0, _ => rfl
  | n + 1, x3 => (show loopN 1 (Code.den ti (cmp_Or_int.Γ k) (cmp_Or_int.LH k) (loopAt Try.f64 0)) [(3, []), (6, [some 2]), (7, []), (8, [])] [(2, []), (3, [])] K (n + 1) [.v (.int .i64 x0), .v (.sl 0), .v (.int .i64 x2), .v (.int .i64 x3)] [.rows 2 false xl0] = cmp_Or_int.L3 k x0 x2 xl0 (fun (z0 : Int) => K .ret (stOf [(2, []), (3, [])] [.v (.int .i64 z0), .v (.int .i64 x0)] [.rows 2 false xl0])) (fun (_ : Unit) => K (.exit 0) (stOf [(2, []), (3, [])] [.v .any, .v (.int .i64 x0)] [.rows 2 false xl0])) (fun (x3' : Int) => loopN 1 (Code.den ti (cmp_Or_int.Γ k) (cmp_Or_int.LH k) (loopAt Try.f64 0)) [(3, []), (6, [some 2]), (7, []), (8, [])] [(2, []), (3, [])] K n [.v (.int .i64 x0), .v (.sl 0), .v (.int .i64 x2), .v (.int .i64 x3')] [.rows 2 false xl0]) x3 by kernel_rfl).trans (congrArg (fun rec => cmp_Or_int.L3 k x0 x2 xl0 (fun (z0 : Int) => K .ret (stOf [(2, []), (3, [])] [.v (.int .i64 z0), .v (.int .i64 x0)] [.rows 2 false xl0])) (fun (_ : Unit) => K (.exit 0) (stOf [(2, []), (3, [])] [.v .any, .v (.int .i64 x0)] [.rows 2 false xl0])) rec x3) (funext fun x3' => cmp_Or_int.e3 K k x0 x2 xl0 n x3'))
theorem cmp_Or_int.q3 (k : Nat) {R : Type} (K : Ex → St κ → Option R) (vs : List AV) (bs : List (Blk κ)) (r : R) (h : cmp_Or_int.h3 k K vs bs = some r) : ∃ n, loopN 1 (Code.den ti (cmp_Or_int.Γ k) (cmp_Or_int.LH k) (loopAt Try.f64 0)) [(3, []), (6, [some 2]), (7, []), (8, [])] [(2, []), (3, [])] K n vs bs = some r := by
  unfold cmp_Or_int.h3 at h
  split at h
  · obtain ⟨_, rfl, h_1⟩ := asO_bind h
    exact ⟨k, (cmp_Or_int.e3 K k _ _ _ k _).trans h_1⟩
  · cases h
theorem cmp_Or_int.lok (k : Nat) : LOK ti (cmp_Or_int.Γ k) (cmp_Or_int.LH k) 1 (loopsOf (bodyOf Try.f64)) :=
  (show loopsOf (bodyOf Try.f64) = [loopAt Try.f64 0] by kernel_rfl) ▸ (LOK_cons (g := ⟨1, [(3, []), (6, [some 2]), (7, []), (8, [])], [(2, []), (3, [])], @cmp_Or_int.h3 k⟩) (by kernel_rfl) rfl (fun K vs xs r h => cmp_Or_int.q3 k K vs xs r h) (LOK_nil))
def cmp_Or_int.sig : List PSh := [.one (.ro 2)]
def cmp_Or_int.g (y : Int) : Ret κ := ⟨.v (.int .i64 y), [], []⟩
def cmp_Or_int.out (r : Ret κ) : Option Int :=
  match r with
  | ⟨.v (.int .i64 z0), [], []⟩ => some (z0)
  | _ => none
theorem cmp_Or_int.out_ok (r : Ret κ) (y : Int) (h : cmp_Or_int.out r = some y) : r = cmp_Or_int.g y := by
  unfold cmp_Or_int.out at h
  split at h
  · obtain rfl := Option.some.inj h
    rfl
  · cases h
def cmp_Or_int.body (k : Nat) (vs : List AV) (bs : List (Blk κ)) : Option (Lf κ) :=
  match vs, bs with
  | [.v (.sl 0)], [qb0] => (asO 2 false qb0).bind fun a0 => some ⟨Int, cmp_Or_int.f k a0, cmp_Or_int.g⟩
  | _, _ => none
def cmp_Or_int.C (k : Nat) : Nat → List AV → AP κ AV := contract cmp_Or_int.sig (cmp_Or_int.body k)
theorem cmp_Or_int.den (k : Nat) (a0 : List Int) : Code.den ti (cmp_Or_int.Γ k) (cmp_Or_int.LH k) (bodyOf Try.f64) (finK ti Try.f64.results.toList [] (flags cmp_Or_int.sig).length (rwI (flags cmp_Or_int.sig) 0) cmp_Or_int.out) ⟨envOf (([.v (.sl 0)]).zipIdx.map fun q => (q.2, q.1)), hpOf [.rows 2 false a0], (flags cmp_Or_int.sig).length⟩ = cmp_Or_int.f k a0 := by kernel_rfl
theorem cmp_Or_int.ok (k : Nat) : CSound Try.prog 64 (cmp_Or_int.C k) :=
  csound κ_ok mixed tok (cmp_Or_int.hΓ k) (LH := cmp_Or_int.LH k) (fn := Try.f64) (c := bodyOf Try.f64) Try.func64 rfl Try.call64 cmp_Or_int.sig [] (cmp_Or_int.body k) (by kernel_rfl) (cmp_Or_int.lok k) (by decide) fun vs bs lf y hl hb hy => by
    unfold cmp_Or_int.body at hb
    split at hb
    · obtain ⟨_, rfl, hb_1⟩ := asO_bind hb
      obtain rfl := Option.some.inj hb_1
      exact ⟨cmp_Or_int.out, cmp_Or_int.out_ok, (cmp_Or_int.den k _).trans hy⟩
    · cases hb
/-! ### impl_compareStored -/
def impl_compareStored.f (k : Nat) (a0_0 : Int) (a0_1 : Int) (a0_2 : Int) (a0_3 : Int) (a1_0 : Int) (a1_1 : Int) (a1_2 : Int) (a1_3 : Int) : Option Int :=
  (cmp_Compare_int.f k a0_0 a1_0).bind fun t1 => (cmp_Compare_int.f k a0_1 a1_1).bind fun t2 => (cmp_Or_int.f k ([t1, t2] : List Int)).bind fun t3 => some t3
def impl_compareStored.Γ (k : Nat) : Ct κ := assoc [(65, cmp_Compare_int.C k), (64, cmp_Or_int.C k)]
def impl_compareStored.LH (k : Nat) : Nat → Option (LHi κ) := assoc []
theorem impl_compareStored.hΓ (k : Nat) : ∀ f g, impl_compareStored.Γ k f = some g → CSound Try.prog f g := G_cons (cmp_Compare_int.ok k) (G_cons (cmp_Or_int.ok k) G_nil)
theorem impl_compareStored.lok (k : Nat) : LOK ti (impl_compareStored.Γ k) (impl_compareStored.LH k) 0 (loopsOf (bodyOf Try.f44)) :=
  (show loopsOf (bodyOf Try.f44) = [] by kernel_rfl) ▸ LOK_nil
def impl_compareStored.sig : List PSh := [.agg [.sc, .sc, .sc, .sc], .agg [.sc, .sc, .sc, .sc]]
def impl_compareStored.g (y : Int) : Ret κ := ⟨.v (.int .i64 y), [], []⟩
def impl_compareStored.out (r : Ret κ) : Option Int :=
  match r with
  | ⟨.v (.int .i64 z0), [], []⟩ => some (z0)
  | _ => none
theorem impl_compareStored.out_ok (r : Ret κ) (y : Int) (h : impl_compareStored.out r = some y) : r = impl_compareStored.g y := by
  unfold impl_compareStored.out at h
  split at h
  · obtain rfl := Option.some.inj h
    rfl
  · cases h
def impl_compareStored.body (k : Nat) (vs : List AV) (bs : List (Blk κ)) : Option (Lf κ) :=
  match vs, bs with
  | [.agg [.int .i64 a0_0, .int .i64 a0_1, .int .i64 a0_2, .int .i64 a0_3], .agg [.int .i64 a1_0, .int .i64 a1_1, .int .i64 a1_2, .int .i64 a1_3]], [] => some ⟨Int, impl_compareStored.f k a0_0 a0_1 a0_2 a0_3 a1_0 a1_1 a1_2 a1_3, impl_compareStored.g⟩
  | _, _ => none
def impl_compareStored.C (k : Nat) : Nat → List AV → AP κ AV := contract impl_compareStored.sig (impl_compareStored.body k)
theorem impl_compareStored.den (k : Nat) (a0_0 : Int) (a0_1 : Int) (a0_2 : Int) (a0_3 : Int) (a1_0 : Int) (a1_1 : Int) (a1_2 : Int) (a1_3 : Int) : Code.den ti (impl_compareStored.Γ k) (impl_compareStored.LH k) (bodyOf Try.f44) (finK ti Try.f44.results.toList [] (flags impl_compareStored.sig).length (rwI (flags impl_compareStored.sig) 0) impl_compareStored.out) ⟨envOf (([.agg [.int .i64 a0_0, .int .i64 a0_1, .int .i64 a0_2, .int .i64 a0_3], .agg [.int .i64 a1_0, .int .i64 a1_1, .int .i64 a1_2, .int .i64 a1_3]]).zipIdx.map fun q => (q.2, q.1)), hpOf [], (flags impl_compareStored.sig).length⟩ = impl_compareStored.f k a0_0 a0_1 a0_2 a0_3 a1_0 a1_1 a1_2 a1_3 := by kernel_rfl
theorem impl_compareStored.ok (k : Nat) : CSound Try.prog 44 (impl_compareStored.C k) :=
  csound κ_ok mixed tok (impl_compareStored.hΓ k) (LH := impl_compareStored.LH k) (fn := Try.f44) (c := bodyOf Try.f44) Try.func44 rfl Try.call44 impl_compareStored.sig [] (impl_compareStored.body k) (by kernel_rfl) (impl_compareStored.lok k) (by decide) fun vs bs lf y hl hb hy => by
    unfold impl_compareStored.body at hb
    split at hb
    · obtain rfl := Option.some.inj hb
      exact ⟨impl_compareStored.out, impl_compareStored.out_ok, (impl_compareStored.den k _ _ _ _ _ _ _ _).trans hy⟩
    · cases hb
/-! ### impl_IsStore -/
def impl_IsStore.L4 {R : Type} (k : Nat) (x2 : Int) (xl0 : List T_impl_Stored) (X0 : Bool → Option R) (X1 : Unit → Option R) (rec : Int → Option R) (x3 : Int) : Option R :=
  (bif decide (x3 < x2) then (bif decide (0 ≤ x3) then (bif decide (x3 < (xl0.length : Int)) then (impl_InRange.f k ((rd_impl_Stored xl0 x3).f0) (1 : Int) (5 : Int)).bind fun t1 => (bif !t1 then (X0 false) else (impl_InRange.f k ((rd_impl_Stored xl0 x3).f1) (0 : Int) (9 : Int)).bind fun t2 => (bif !t2 then (X0 false) else (impl_InRange.f k ((rd_impl_Stored xl0 x3).f2) (0 : Int) (999 : Int)).bind fun t3 => (bif !t3 then (X0 false) else (impl_InRange.f k ((rd_impl_Stored xl0 x3).f3) (1 : Int) (999 : Int)).bind fun t4 => (bif !t4 then (X0 false) else (bif decide (x3 > (0 : Int)) then (bif decide (0 ≤ (w64 (x3 - (1 : Int)))) then (bif decide ((w64 (x3 - (1 : Int))) < (xl0.length : Int)) then (impl_compareStored.f k ((rd_impl_Stored xl0 (w64 (x3 - (1 : Int)))).f0) ((rd_impl_Stored xl0 (w64 (x3 - (1 : Int)))).f1) ((rd_impl_Stored xl0 (w64 (x3 - (1 : Int)))).f2) ((rd_impl_Stored xl0 (w64 (x3 - (1 : Int)))).f3) ((rd_impl_Stored xl0 x3).f0) ((rd_impl_Stored xl0 x3).f1) ((rd_impl_Stored xl0 x3).f2) ((rd_impl_Stored xl0 x3).f3)).bind fun t5 => (bif decide (t5 ≥ (0 : Int)) then (X0 false) else (rec (w64 (x3 + (1 : Int))))) else none) else none) else (rec (w64 (x3 + (1 : Int))))))))) else none) else none) else (X1 ()))
def impl_IsStore.l4 {R : Type} (k : Nat) (x2 : Int) (xl0 : List T_impl_Stored) (X0 : Bool → Option R) (X1 : Unit → Option R) : Nat → Int → Option R
  | 0 => fun _ => none
  | n + 1 => impl_IsStore.L4 k x2 xl0 X0 X1 (impl_IsStore.l4 k x2 xl0 X0 X1 n)
def impl_IsStore.f (k : Nat) (a0 : List T_impl_Stored) : Option Bool :=
  (bif decide ((a0.length : Int) > (24 : Int)) then some false else (impl_IsStore.l4 k (a0.length : Int) a0 (fun (y6 : Bool) => some y6) (fun (_ : Unit) => some true) k (0 : Int)))
def impl_IsStore.h4 (k : Nat) {R : Type} (K : Ex → St κ → Option R) (vs : List AV) (bs : List (Blk κ)) : Option R :=
  match vs, bs with
  | [.v (.sl 0), .v (.sl 0), .v (.int .i64 x2), .v (.int .i64 x3)], [qb0] => (asO 1 false qb0).bind fun xl0 => impl_IsStore.l4 k x2 xl0 (fun (z0 : Bool) => K .ret (stOf [(2, [])] [.v (.bool z0)] [.rows 1 false xl0])) (fun (_ : Unit) => K (.exit 0) (stOf [(2, [])] [.v .any] [.rows 1 false xl0])) k x3
  | _, _ => none
def impl_IsStore.Γ (k : Nat) : Ct κ := assoc [(43, impl_InRange.C k), (44, impl_compareStored.C k)]
def impl_IsStore.LH (k : Nat) : Nat → Option (LHi κ) := assoc [(4, ⟨1, [(0, [some 1]), (8, [some 1]), (9, []), (10, [])], [(2, [])], @impl_IsStore.h4 k⟩)]
theorem impl_IsStore.hΓ (k : Nat) : ∀ f g, impl_IsStore.Γ k f = some g → CSound Try.prog f g := G_cons (impl_InRange.ok k) (G_cons (impl_compareStored.ok k) G_nil)
theorem impl_IsStore.e4 {R : Type} (K : Ex → St κ → Option R) (k : Nat) (x2 : Int) (xl0 : List T_impl_Stored) : ∀ (n : Nat) (x3 : Int), loopN 1 (Code.den ti (impl_IsStore.Γ k) (impl_IsStore.LH k) (loopAt Try.f15 0)) [(0, [some 1]), (8, [some 1]), (9, []), (10, [])] [(2, [])] K n [.v (.sl 0), .v (.sl 0), .v (.int .i64 x2), .v (.int .i64 x3)] [.rows 1 false xl0] = impl_IsStore.l4 k x2 xl0 (fun (z0 : Bool) => K .ret (stOf [(2, [])] [.v (.bool z0)] [.rows 1 false xl0])) (fun (_ : Unit) => K (.exit 0) (stOf [(2, [])] [.v .any] [.rows 1 false xl0])) n x3
  | 0, _ => rfl
  | n + 1, x3 => (show loopN 1 (Code.den ti (impl_IsStore.Γ k) (impl_IsStore.LH k) (loopAt Try.f15 0)) [(0, [some 1]), (8, [some 1]), (9, []), (10, [])] [(2, [])] K (n + 1) [.v (.sl 0), .v (.sl 0), .v (.int .i64 x2), .v (.int .i64 x3)] [.rows 1 false xl0] = impl_IsStore.L4 k x2 xl0 (fun (z0 : Bool) => K .ret (stOf [(2, [])] [.v (.bool z0)] [.rows 1 false xl0])) (fun (_ : Unit) => K (.exit 0) (stOf [(2, [])] [.v .any] [.rows 1 false xl0])) (fun (x3' : Int) => loopN 1 (Code.den ti (impl_IsStore.Γ k) (impl_IsStore.LH k) (loopAt Try.f15 0)) [(0, [some 1]), (8, [some 1]), (9, []), (10, [])] [(2, [])] K n [.v (.sl 0), .v (.sl 0), .v (.int .i64 x2), .v (.int .i64 x3')] [.rows 1 false xl0]) x3 by kernel_rfl).trans (congrArg (fun rec => impl_IsStore.L4 k x2 xl0 (fun (z0 : Bool) => K .ret (stOf [(2, [])] [.v (.bool z0)] [.rows 1 false xl0])) (fun (_ : Unit) => K (.exit 0) (stOf [(2, [])] [.v .any] [.rows 1 false xl0])) rec x3) (funext fun x3' => impl_IsStore.e4 K k x2 xl0 n x3'))
theorem impl_IsStore.q4 (k : Nat) {R : Type} (K : Ex → St κ → Option R) (vs : List AV) (bs : List (Blk κ)) (r : R) (h : impl_IsStore.h4 k K vs bs = some r) : ∃ n, loopN 1 (Code.den ti (impl_IsStore.Γ k) (impl_IsStore.LH k) (loopAt Try.f15 0)) [(0, [some 1]), (8, [some 1]), (9, []), (10, [])] [(2, [])] K n vs bs = some r := by
  unfold impl_IsStore.h4 at h
  split at h
  · obtain ⟨_, rfl, h_1⟩ := asO_bind h
    exact ⟨k, (impl_IsStore.e4 K k _ _ k _).trans h_1⟩
  · cases h
theorem impl_IsStore.lok (k : Nat) : LOK ti (impl_IsStore.Γ k) (impl_IsStore.LH k) 1 (loopsOf (bodyOf Try.f15)) :=
  (show loopsOf (bodyOf Try.f15) = [loopAt Try.f15 0] by kernel_rfl) ▸ (LOK_cons (g := ⟨1, [(0, [some 1]), (8, [some 1]), (9, []), (10, [])], [(2, [])], @impl_IsStore.h4 k⟩) (by kernel_rfl) rfl (fun K vs xs r h => impl_IsStore.q4 k K vs xs r h) (LOK_nil))
def impl_IsStore.sig : List PSh := [.one (.ro 1)]
def impl_IsStore.g (y : Bool) : Ret κ := ⟨.v (.bool y), [], []⟩
def impl_IsStore.out (r : Ret κ) : Option Bool :=
  match r with
  | ⟨.v (.bool z0), [], []⟩ => some (z0)
  | _ => none
theorem impl_IsStore.out_ok (r : Ret κ) (y : Bool) (h : impl_IsStore.out r = some y) : r = impl_IsStore.g y := by
  unfold impl_IsStore.out at h
  split at h
  · obtain rfl := Option.some.inj h
    rfl
  · cases h
def impl_IsStore.body (k : Nat) (vs : List AV) (bs : List (Blk κ)) : Option (Lf κ) :=
  match vs, bs with
  | [.v (.sl 0)], [qb0] => (asO 1 false qb0).bind fun a0 => some ⟨Bool, impl_IsStore.f k a0, impl_IsStore.g⟩
  | _, _ => none
def impl_IsStore.C (k : Nat) : Nat → List AV → AP κ AV := contract impl_IsStore.sig (impl_IsStore.body k)
theorem impl_IsStore.den (k : Nat) (a0 : List T_impl_Stored) : Code.den ti (impl_IsStore.Γ k) (impl_IsStore.LH k) (bodyOf Try.f15) (finK ti Try.f15.results.toList [] (flags impl_IsStore.sig).length (rwI (flags impl_IsStore.sig) 0) impl_IsStore.out) ⟨envOf (([.v (.sl 0)]).zipIdx.map fun q => (q.2, q.1)), hpOf [.rows 1 false a0], (flags impl_IsStore.sig).length⟩ = impl_IsStore.f k a0 := by kernel_rfl
theorem impl_IsStore.ok (k : Nat) : CSound Try.prog 15 (impl_IsStore.C k) :=
  csound κ_ok mixed tok (impl_IsStore.hΓ k) (LH := impl_IsStore.LH k) (fn := Try.f15) (c := bodyOf Try.f15) Try.func15 rfl Try.call15 impl_IsStore.sig [] (impl_IsStore.body k) (by kernel_rfl) (impl_IsStore.lok k) (by decide) fun vs bs lf y hl hb hy => by
    unfold impl_IsStore.body at hb
    split at hb
    · obtain ⟨_, rfl, hb_1⟩ := asO_bind hb
      obtain rfl := Option.some.inj hb_1
      exact ⟨impl_IsStore.out, impl_IsStore.out_ok, (impl_IsStore.den k _).trans hy⟩
    · cases hb
/-! ### slices_Insert_Stored -/
def slices_Insert_Stored.ren : Go.Shelf.Ren := ⟨fun | 22 => 54 | 29 => 70 | 30 => 71 | n => n, fun | 0 => 0 | 3 => 3 | 4 => 4 | 9 => 48 | 24 => 24 | n => n, fun n => n⟩
theorem slices_Insert_Stored.lays : InsL Try.prog slices_Insert_Stored.ren (.agg #[.int .i64 0, .int .i64 0, .int .i64 0, .int .i64 0]) 32 where
  mixed := mixed
  f22 := ⟨Try.f54.name, Try.func54.trans (congrArg some (by kernel_rfl))⟩
  f29 := fun args w => run_callFunc_extern Try.func70 (by kernel_rfl) (by kernel_rfl) (by kernel_rfl) (e := Extern.SlicesOverlaps.overlaps #[24, 24] #[4]) (by kernel_rfl) args w
  t0 := Try.underlying0
  a0 := Try.isAgg0
  z0 := Try.sizeOf0
  v0 := Try.zeroValue0
  t3 := Try.underlying3
  a3 := Try.isAgg3
  z3 := Try.sizeOf3
  v3 := Try.zeroValue3
  t4 := Try.underlying4
  a4 := Try.isAgg4
  z4 := Try.sizeOf4
  v4 := Try.zeroValue4
  z9 := Try.sizeOf48
  t24 := Try.underlying24
  a24 := Try.isAgg24
  z24 := Try.sizeOf24
  v24 := Try.zeroValue24
  i9 := by kernel_rfl
  zs := by kernel_rfl
def slices_Insert_Stored.f (k : Nat) (l : List T_impl_Stored) (i : Int) (x : List T_impl_Stored) : Option (List T_impl_Stored) := insF 1 κ l i x
def slices_Insert_Stored.C (k : Nat) : Nat → List AV → AP κ AV := contract [.one (.rw 1), .one .sc, .one (.rw 1)] (insB 1 κ)
theorem slices_Insert_Stored.ok (k : Nat) : CSound Try.prog 54 (slices_Insert_Stored.C k) :=
  ins_sound κ_ok slices_Insert_Stored.lays Try.call54 1 rfl rfl rfl
end Go.Proofs.Ytmjflahlhgibnaa.PFnPrivate
