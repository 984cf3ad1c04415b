/- What the functions that the law FnRolledBack reaches come to; no conditions. -/
import Derived.Test.YtmjflahlhgibnaaGreatDoorPFnRolledBack9
set_option linter.unusedVariables false
set_option maxRecDepth 100000
namespace Go.Proofs.YtmjflahlhgibnaaGreatDoor.PFnRolledBack
open Go Go.Eng Go.Proofs
/-! ### impl_Mod -/
def impl_Mod.f (k : Nat) (a0 : Int) (a1 : Int) : Option Int :=
  (impl_InRange.f k a1 (1 : Int) (1000000000000 : Int)).bind fun t1 => (bif !t1 then some (0 : Int) else (bif decide (a1 = 0) then none else (bif decide ((a0.tmod a1) < (0 : Int)) then some (w64 ((a0.tmod a1) + a1)) else some (a0.tmod a1))))
def impl_Mod.Γ (k : Nat) : Ct κ := assoc [(27, impl_InRange.C k)]
def impl_Mod.LH (k : Nat) : Nat → Option (LHi κ) := assoc []
theorem impl_Mod.hΓ (k : Nat) : ∀ f g, impl_Mod.Γ k f = some g → CSound Tryz.prog f g := G_cons (impl_InRange.ok k) G_nil
theorem impl_Mod.lok (k : Nat) : LOK ti (impl_Mod.Γ k) (impl_Mod.LH k) 0 (loopsOf (bodyOf Tryz.f146)) :=
  (show loopsOf (bodyOf Tryz.f146) = [] by kernel_rfl) ▸ LOK_nil
def impl_Mod.sig : List PSh := [.one .sc, .one .sc]
def impl_Mod.g (y : Int) : Ret κ := ⟨.v (.int .i64 y), [], []⟩
def impl_Mod.out (r : Ret κ) : Option Int :=
  match r with
  | ⟨.v (.int .i64 z0), [], []⟩ => some (z0)
  | _ => none
theorem impl_Mod.out_ok (r : Ret κ) (y : Int) (h : impl_Mod.out r = some y) : r = impl_Mod.g y := by
  unfold impl_Mod.out at h
  split at h
  · obtain rfl := Option.some.inj h
    rfl
  · cases h
def impl_Mod.body (k : Nat) (vs : List AV) (bs : List (Blk κ)) : Option (Lf κ) :=
  match vs, bs with
  | [.v (.int .i64 a0), .v (.int .i64 a1)], [] => some ⟨Int, impl_Mod.f k a0 a1, impl_Mod.g⟩
  | _, _ => none
def impl_Mod.C (k : Nat) : Nat → List AV → AP κ AV := contract impl_Mod.sig (impl_Mod.body k)
theorem impl_Mod.den (k : Nat) (a0 : Int) (a1 : Int) : Code.den ti (impl_Mod.Γ k) (impl_Mod.LH k) (bodyOf Tryz.f146) (finK ti Tryz.f146.results.toList [] (flags impl_Mod.sig).length (rwI (flags impl_Mod.sig) 0) impl_Mod.out) ⟨envOf (([.v (.int .i64 a0), .v (.int .i64 a1)]).zipIdx.map fun q => (q.2, q.1)), hpOf [], (flags impl_Mod.sig).length⟩ = impl_Mod.f k a0 a1 := by kernel_rfl
theorem impl_Mod.ok (k : Nat) : CSound Tryz.prog 146 (impl_Mod.C k) :=
  csound κ_ok mixed tok (impl_Mod.hΓ k) (LH := impl_Mod.LH k) (fn := Tryz.f146) (c := bodyOf Tryz.f146) Tryz.func146 rfl Tryz.call146 impl_Mod.sig [] (impl_Mod.body k) (by kernel_rfl) (impl_Mod.lok k) (by decide) fun vs bs lf y hl hb hy => by
    unfold impl_Mod.body at hb
    split at hb
    · obtain rfl := Option.some.inj hb
      exact ⟨impl_Mod.out, impl_Mod.out_ok, (impl_Mod.den k _ _).trans hy⟩
    · cases hb
/-! ### impl_fold -/
def impl_fold.f (k : Nat) (a0 : Int) (a1 : Int) : Option Int :=
  (impl_Mod.f k a1 (2147483647 : Int)).bind fun t1 => some ((w64 ((w64 ((w64 (a0 * (1000003 : Int))) + t1)) + (13 : Int))).tmod (2147483647 : Int))
def impl_fold.Γ (k : Nat) : Ct κ := assoc [(146, impl_Mod.C k)]
def impl_fold.LH (k : Nat) : Nat → Option (LHi κ) := assoc []
theorem impl_fold.hΓ (k : Nat) : ∀ f g, impl_fold.Γ k f = some g → CSound Tryz.prog f g := G_cons (impl_Mod.ok k) G_nil
theorem impl_fold.lok (k : Nat) : LOK ti (impl_fold.Γ k) (impl_fold.LH k) 0 (loopsOf (bodyOf Tryz.f125)) :=
  (show loopsOf (bodyOf Tryz.f125) = [] by kernel_rfl) ▸ LOK_nil
def impl_fold.sig : List PSh := [.one .sc, .one .sc]
def impl_fold.g (y : Int) : Ret κ := ⟨.v (.int .i64 y), [], []⟩
def impl_fold.out (r : Ret κ) : Option Int :=
  match r with
  | ⟨.v (.int .i64 z0), [], []⟩ => some (z0)
  | _ => none
theorem impl_fold.out_ok (r : Ret κ) (y : Int) (h : impl_fold.out r = some y) : r = impl_fold.g y := by
  unfold impl_fold.out at h
  split at h
  · obtain rfl := Option.some.inj h
    rfl
  · cases h
def impl_fold.body (k : Nat) (vs : List AV) (bs : List (Blk κ)) : Option (Lf κ) :=
  match vs, bs with
  | [.v (.int .i64 a0), .v (.int .i64 a1)], [] => some ⟨Int, impl_fold.f k a0 a1, impl_fold.g⟩
  | _, _ => none
def impl_fold.C (k : Nat) : Nat → List AV → AP κ AV := contract impl_fold.sig (impl_fold.body k)
theorem impl_fold.den (k : Nat) (a0 : Int) (a1 : Int) : Code.den ti (impl_fold.Γ k) (impl_fold.LH k) (bodyOf Tryz.f125) (finK ti Tryz.f125.results.toList [] (flags impl_fold.sig).length (rwI (flags impl_fold.sig) 0) impl_fold.out) ⟨envOf (([.v (.int .i64 a0), .v (.int .i64 a1)]).zipIdx.map fun q => (q.2, q.1)), hpOf [], (flags impl_fold.sig).length⟩ = impl_fold.f k a0 a1 := by kernel_rfl
theorem impl_fold.ok (k : Nat) : CSound Tryz.prog 125 (impl_fold.C k) :=
  csound κ_ok mixed tok (impl_fold.hΓ k) (LH := impl_fold.LH k) (fn := Tryz.f125) (c := bodyOf Tryz.f125) Tryz.func125 rfl Tryz.call125 impl_fold.sig [] (impl_fold.body k) (by kernel_rfl) (impl_fold.lok k) (by decide) fun vs bs lf y hl hb hy => by
    unfold impl_fold.body at hb
    split at hb
    · obtain rfl := Option.some.inj hb
      exact ⟨impl_fold.out, impl_fold.out_ok, (impl_fold.den k _ _).trans hy⟩
    · cases hb
/-! ### impl_KeyedHash -/
def impl_KeyedHash.L3 {R : Type} (k : Nat) (x0 : Int) (x3 : Int) (xl0 : List Int) (X0 : Int → Option R) (rec : Int → Int → Option R) (x1 : Int) (x4 : Int) : Option R :=
  (bif decide (x4 < x3) then (bif decide (0 ≤ x4) then (bif decide (x4 < (xl0.length : Int)) then (impl_fold.f k x1 (rd_i64 xl0 x4)).bind fun t2 => (rec t2 (w64 (x4 + (1 : Int)))) else none) else none) else (X0 x1))
def impl_KeyedHash.l3 {R : Type} (k : Nat) (x0 : Int) (x3 : Int) (xl0 : List Int) (X0 : Int → Option R) : Nat → Int → Int → Option R
  | 0 => fun _ _ => none
  | n + 1 => impl_KeyedHash.L3 k x0 x3 xl0 X0 (impl_KeyedHash.l3 k x0 x3 xl0 X0 n)
def impl_KeyedHash.f (k : Nat) (a0 : Int) (a1 : List Int) : Option Int :=
  (impl_fold.f k (11 : Int) a0).bind fun t1 => (impl_KeyedHash.l3 k a0 (a1.length : Int) a1 (fun (y3 : Int) => (impl_fold.f k y3 a0).bind fun t4 => some t4) k t1 (0 : Int))
def impl_KeyedHash.h3 (k : Nat) {R : Type} (K : Ex → St κ → Option R) (vs : List AV) (bs : List (Blk κ)) : Option R :=
  match vs, bs with
  | [.v (.int .i64 x0), .v (.int .i64 x1), .v (.sl 0), .v (.int .i64 x3), .v (.int .i64 x4)], [qb0] => (asO 5 false qb0).bind fun xl0 => impl_KeyedHash.l3 k x0 x3 xl0 (fun (z1 : Int) => K (.exit 0) (stOf [(0, []), (5, [])] [.v (.int .i64 x0), .v (.int .i64 z1)] [.rows 5 false xl0])) k x1 x4
  | _, _ => none
def impl_KeyedHash.Γ (k : Nat) : Ct κ := assoc [(125, impl_fold.C k)]
def impl_KeyedHash.LH (k : Nat) : Nat → Option (LHi κ) := assoc [(3, ⟨1, [(0, []), (5, []), (10, [some 5]), (11, []), (12, [])], [(0, []), (5, [])], @impl_KeyedHash.h3 k⟩)]
theorem impl_KeyedHash.hΓ (k : Nat) : ∀ f g, impl_KeyedHash.Γ k f = some g → CSound Tryz.prog f g := G_cons (impl_fold.ok k) G_nil
theorem impl_KeyedHash.e3 {R : Type} (K : Ex → St κ → Option R) (k : Nat) (x0 : Int) (x3 : Int) (xl0 : List Int) : ∀ (n : Nat) (x1 : Int) (x4 : Int), loopN 1 (Code.den ti (impl_KeyedHash.Γ k) (impl_KeyedHash.LH k) (loopAt Tryz.f98 0)) [(0, []), (5, []), (10, [some 5]), (11, []), (12, [])] [(0, []), (5, [])] K n [.v (.int .i64 x0), .v (.int .i64 x1), .v (.sl 0), .v (.int .i64 x3), .v (.int .i64 x4)] [.rows 5 false xl0] = impl_KeyedHash.l3 k x0 x3 xl0 (fun (z1 : Int) => K (.exit 0) (stOf [(0, []), (5, [])] [.v (.int .i64 x0), .v (.int .i64 z1)] [.rows 5 false xl0])) n x1 x4
  | 0, _, _ => rfl
  | n + 1, x1, x4 => (show loopN 1 (Code.den ti (impl_KeyedHash.Γ k) (impl_KeyedHash.LH k) (loopAt Tryz.f98 0)) [(0, []), (5, []), (10, [some 5]), (11, []), (12, [])] [(0, []), (5, [])] K (n + 1) [.v (.int .i64 x0), .v (.int .i64 x1), .v (.sl 0), .v (.int .i64 x3), .v (.int .i64 x4)] [.rows 5 false xl0] = impl_KeyedHash.L3 k x0 x3 xl0 (fun (z1 : Int) => K (.exit 0) (stOf [(0, []), (5, [])] [.v (.int .i64 x0), .v (.int .i64 z1)] [.rows 5 false xl0])) (fun (x1' : Int) (x4' : Int) => loopN 1 (Code.den ti (impl_KeyedHash.Γ k) (impl_KeyedHash.LH k) (loopAt Tryz.f98 0)) [(0, []), (5, []), (10, [some 5]), (11, []), (12, [])] [(0, []), (5, [])] K n [.v (.int .i64 x0), .v (.int .i64 x1'), .v (.sl 0), .v (.int .i64 x3), .v (.int .i64 x4')] [.rows 5 false xl0]) x1 x4 by kernel_rfl).trans (congrArg (fun rec => impl_KeyedHash.L3 k x0 x3 xl0 (fun (z1 : Int) => K (.exit 0) (stOf [(0, []), (5, [])] [.v (.int .i64 x0), .v (.int .i64 z1)] [.rows 5 false xl0])) rec x1 x4) (funext fun x1' => funext fun x4' => impl_KeyedHash.e3 K k x0 x3 xl0 n x1' x4'))
theorem impl_KeyedHash.q3 (k : Nat) {R : Type} (K : Ex → St κ → Option R) (vs : List AV) (bs : List (Blk κ)) (r : R) (h : impl_KeyedHash.h3 k K vs bs = some r) : ∃ n, loopN 1 (Code.den ti (impl_KeyedHash.Γ k) (impl_KeyedHash.LH k) (loopAt Tryz.f98 0)) [(0, []), (5, []), (10, [some 5]), (11, []), (12, [])] [(0, []), (5, [])] K n vs bs = some r := by
  unfold impl_KeyedHash.h3 at h
  split at h
  · obtain ⟨_, rfl, h_1⟩ := asO_bind h
    exact ⟨k, (impl_KeyedHash.e3 K k _ _ _ k _ _).trans h_1⟩
  · cases h
theorem impl_KeyedHash.lok (k : Nat) : LOK ti (impl_KeyedHash.Γ k) (impl_KeyedHash.LH k) 1 (loopsOf (bodyOf Tryz.f98)) :=
  (show loopsOf (bodyOf Tryz.f98) = [loopAt Tryz.f98 0] by kernel_rfl) ▸ (LOK_cons (g := ⟨1, [(0, []), (5, []), (10, [some 5]), (11, []), (12, [])], [(0, []), (5, [])], @impl_KeyedHash.h3 k⟩) (by kernel_rfl) rfl (fun K vs xs r h => impl_KeyedHash.q3 k K vs xs r h) (LOK_nil))
def impl_KeyedHash.sig : List PSh := [.one .sc, .one (.ro 5)]
def impl_KeyedHash.g (y : Int) : Ret κ := ⟨.v (.int .i64 y), [], []⟩
def impl_KeyedHash.out (r : Ret κ) : Option Int :=
  match r with
  | ⟨.v (.int .i64 z0), [], []⟩ => some (z0)
  | _ => none
theorem impl_KeyedHash.out_ok (r : Ret κ) (y : Int) (h : impl_KeyedHash.out r = some y) : r = impl_KeyedHash.g y := by
  unfold impl_KeyedHash.out at h
  split at h
  · obtain rfl := Option.some.inj h
    rfl
  · cases h
def impl_KeyedHash.body (k : Nat) (vs : List AV) (bs : List (Blk κ)) : Option (Lf κ) :=
  match vs, bs with
  | [.v (.int .i64 a0), .v (.sl 0)], [qb0] => (asO 5 false qb0).bind fun a1 => some ⟨Int, impl_KeyedHash.f k a0 a1, impl_KeyedHash.g⟩
  | _, _ => none
def impl_KeyedHash.C (k : Nat) : Nat → List AV → AP κ AV := contract impl_KeyedHash.sig (impl_KeyedHash.body k)
theorem impl_KeyedHash.den (k : Nat) (a0 : Int) (a1 : List Int) : Code.den ti (impl_KeyedHash.Γ k) (impl_KeyedHash.LH k) (bodyOf Tryz.f98) (finK ti Tryz.f98.results.toList [] (flags impl_KeyedHash.sig).length (rwI (flags impl_KeyedHash.sig) 0) impl_KeyedHash.out) ⟨envOf (([.v (.int .i64 a0), .v (.sl 0)]).zipIdx.map fun q => (q.2, q.1)), hpOf [.rows 5 false a1], (flags impl_KeyedHash.sig).length⟩ = impl_KeyedHash.f k a0 a1 := by kernel_rfl
theorem impl_KeyedHash.ok (k : Nat) : CSound Tryz.prog 98 (impl_KeyedHash.C k) :=
  csound κ_ok mixed tok (impl_KeyedHash.hΓ k) (LH := impl_KeyedHash.LH k) (fn := Tryz.f98) (c := bodyOf Tryz.f98) Tryz.func98 rfl Tryz.call98 impl_KeyedHash.sig [] (impl_KeyedHash.body k) (by kernel_rfl) (impl_KeyedHash.lok k) (by decide) fun vs bs lf y hl hb hy => by
    unfold impl_KeyedHash.body at hb
    split at hb
    · obtain ⟨_, rfl, hb_1⟩ := asO_bind hb
      obtain rfl := Option.some.inj hb_1
      exact ⟨impl_KeyedHash.out, impl_KeyedHash.out_ok, (impl_KeyedHash.den k _ _).trans hy⟩
    · cases hb
/-! ### impl_sealOf -/
def impl_sealOf.f (k : Nat) (a0 : Int) (a1_0 : Int) (a1_1 : Int) (a1_2 : Int) (a1_3 : List T_impl_Grant) (a1_4 : List T_impl_Flow) (a1_5 : List T_impl_Rule) (a1_6 : List T_impl_Op) (a1_7 : Int) : Option Int :=
  (impl_IsValidKey.f k a0).bind fun t1 => (bif !t1 then some (0 : Int) else (impl_IsPackage.f k a1_0 a1_1 a1_2 a1_3 a1_4 a1_5 a1_6 a1_7).bind fun t2 => (bif !t2 then some (0 : Int) else (impl_PackageInts.f k a1_0 a1_1 a1_2 a1_3 a1_4 a1_5 a1_6 a1_7).bind fun t3 => (impl_KeyedHash.f k a0 t3).bind fun t4 => some t4))
def impl_sealOf.Γ (k : Nat) : Ct κ := assoc [(62, impl_IsValidKey.C k), (31, impl_IsPackage.C k), (99, impl_PackageInts.C k), (98, impl_KeyedHash.C k)]
def impl_sealOf.LH (k : Nat) : Nat → Option (LHi κ) := assoc []
theorem impl_sealOf.hΓ (k : Nat) : ∀ f g, impl_sealOf.Γ k f = some g → CSound Tryz.prog f g := G_cons (impl_IsValidKey.ok k) (G_cons (impl_IsPackage.ok k) (G_cons (impl_PackageInts.ok k) (G_cons (impl_KeyedHash.ok k) G_nil)))
theorem impl_sealOf.lok (k : Nat) : LOK ti (impl_sealOf.Γ k) (impl_sealOf.LH k) 4 (loopsOf (bodyOf Tryz.f63)) :=
  (show loopsOf (bodyOf Tryz.f63) = [] by kernel_rfl) ▸ LOK_nil
def impl_sealOf.sig : List PSh := [.one .sc, .agg [.sc, .sc, .sc, .ro 2, .ro 3, .ro 4, .ro 1, .sc]]
def impl_sealOf.g (y : Int) : Ret κ := ⟨.v (.int .i64 y), [], []⟩
def impl_sealOf.out (r : Ret κ) : Option Int :=
  match r with
  | ⟨.v (.int .i64 z0), [], []⟩ => some (z0)
  | _ => none
theorem impl_sealOf.out_ok (r : Ret κ) (y : Int) (h : impl_sealOf.out r = some y) : r = impl_sealOf.g y := by
  unfold impl_sealOf.out at h
  split at h
  · obtain rfl := Option.some.inj h
    rfl
  · cases h
def impl_sealOf.body (k : Nat) (vs : List AV) (bs : List (Blk κ)) : Option (Lf κ) :=
  match vs, bs with
  | [.v (.int .i64 a0), .agg [.int .i64 a1_0, .int .i64 a1_1, .int .i64 a1_2, .sl 0, .sl 1, .sl 2, .sl 3, .int .i64 a1_7]], [qb0, qb1, qb2, qb3] => (asO 2 false qb0).bind fun a1_3 => (asO 3 false qb1).bind fun a1_4 => (asO 4 false qb2).bind fun a1_5 => (asO 1 false qb3).bind fun a1_6 => some ⟨Int, impl_sealOf.f k a0 a1_0 a1_1 a1_2 a1_3 a1_4 a1_5 a1_6 a1_7, impl_sealOf.g⟩
  | _, _ => none
def impl_sealOf.C (k : Nat) : Nat → List AV → AP κ AV := contract impl_sealOf.sig (impl_sealOf.body k)
theorem impl_sealOf.den (k : Nat) (a0 : Int) (a1_0 : Int) (a1_1 : Int) (a1_2 : Int) (a1_3 : List T_impl_Grant) (a1_4 : List T_impl_Flow) (a1_5 : List T_impl_Rule) (a1_6 : List T_impl_Op) (a1_7 : Int) : Code.den ti (impl_sealOf.Γ k) (impl_sealOf.LH k) (bodyOf Tryz.f63) (finK ti Tryz.f63.results.toList [] (flags impl_sealOf.sig).length (rwI (flags impl_sealOf.sig) 0) impl_sealOf.out) ⟨envOf (([.v (.int .i64 a0), .agg [.int .i64 a1_0, .int .i64 a1_1, .int .i64 a1_2, .sl 0, .sl 1, .sl 2, .sl 3, .int .i64 a1_7]]).zipIdx.map fun q => (q.2, q.1)), hpOf [.rows 2 false a1_3, .rows 3 false a1_4, .rows 4 false a1_5, .rows 1 false a1_6], (flags impl_sealOf.sig).length⟩ = impl_sealOf.f k a0 a1_0 a1_1 a1_2 a1_3 a1_4 a1_5 a1_6 a1_7 := by kernel_rfl
theorem impl_sealOf.ok (k : Nat) : CSound Tryz.prog 63 (impl_sealOf.C k) :=
  csound κ_ok mixed tok (impl_sealOf.hΓ k) (LH := impl_sealOf.LH k) (fn := Tryz.f63) (c := bodyOf Tryz.f63) Tryz.func63 rfl Tryz.call63 impl_sealOf.sig [] (impl_sealOf.body k) (by kernel_rfl) (impl_sealOf.lok k) (by decide) fun vs bs lf y hl hb hy => by
    unfold impl_sealOf.body at hb
    split at hb
    · obtain ⟨_, rfl, hb_1⟩ := asO_bind hb
      obtain ⟨_, rfl, hb_2⟩ := asO_bind hb_1
      obtain ⟨_, rfl, hb_3⟩ := asO_bind hb_2
      obtain ⟨_, rfl, hb_4⟩ := asO_bind hb_3
      obtain rfl := Option.some.inj hb_4
      exact ⟨impl_sealOf.out, impl_sealOf.out_ok, (impl_sealOf.den k _ _ _ _ _ _ _ _ _).trans hy⟩
    · cases hb
/-! ### impl_IsSealed -/
def impl_IsSealed.f (k : Nat) (a0 : Int) (a1_0 : Int) (a1_1 : Int) (a1_2 : Int) (a1_3 : List T_impl_Grant) (a1_4 : List T_impl_Flow) (a1_5 : List T_impl_Rule) (a1_6 : List T_impl_Op) (a1_7 : Int) : Option Bool :=
  (impl_IsPackage.f k a1_0 a1_1 a1_2 a1_3 a1_4 a1_5 a1_6 a1_7).bind fun t1 => (bif t1 then (impl_IsValidKey.f k a0).bind fun t2 => (bif t2 then (impl_sealOf.f k a0 a1_0 a1_1 a1_2 a1_3 a1_4 a1_5 a1_6 a1_7).bind fun t3 => some (a1_7 == t3) else some false) else some false)
def impl_IsSealed.Γ (k : Nat) : Ct κ := assoc [(31, impl_IsPackage.C k), (62, impl_IsValidKey.C k), (63, impl_sealOf.C k)]
def impl_IsSealed.LH (k : Nat) : Nat → Option (LHi κ) := assoc []
theorem impl_IsSealed.hΓ (k : Nat) : ∀ f g, impl_IsSealed.Γ k f = some g → CSound Tryz.prog f g := G_cons (impl_IsPackage.ok k) (G_cons (impl_IsValidKey.ok k) (G_cons (impl_sealOf.ok k) G_nil))
theorem impl_IsSealed.lok (k : Nat) : LOK ti (impl_IsSealed.Γ k) (impl_IsSealed.LH k) 4 (loopsOf (bodyOf Tryz.f32)) :=
  (show loopsOf (bodyOf Tryz.f32) = [] by kernel_rfl) ▸ LOK_nil
def impl_IsSealed.sig : List PSh := [.one .sc, .agg [.sc, .sc, .sc, .ro 2, .ro 3, .ro 4, .ro 1, .sc]]
def impl_IsSealed.g (y : Bool) : Ret κ := ⟨.v (.bool y), [], []⟩
def impl_IsSealed.out (r : Ret κ) : Option Bool :=
  match r with
  | ⟨.v (.bool z0), [], []⟩ => some (z0)
  | _ => none
theorem impl_IsSealed.out_ok (r : Ret κ) (y : Bool) (h : impl_IsSealed.out r = some y) : r = impl_IsSealed.g y := by
  unfold impl_IsSealed.out at h
  split at h
  · obtain rfl := Option.some.inj h
    rfl
  · cases h
def impl_IsSealed.body (k : Nat) (vs : List AV) (bs : List (Blk κ)) : Option (Lf κ) :=
  match vs, bs with
  | [.v (.int .i64 a0), .agg [.int .i64 a1_0, .int .i64 a1_1, .int .i64 a1_2, .sl 0, .sl 1, .sl 2, .sl 3, .int .i64 a1_7]], [qb0, qb1, qb2, qb3] => (asO 2 false qb0).bind fun a1_3 => (asO 3 false qb1).bind fun a1_4 => (asO 4 false qb2).bind fun a1_5 => (asO 1 false qb3).bind fun a1_6 => some ⟨Bool, impl_IsSealed.f k a0 a1_0 a1_1 a1_2 a1_3 a1_4 a1_5 a1_6 a1_7, impl_IsSealed.g⟩
  | _, _ => none
def impl_IsSealed.C (k : Nat) : Nat → List AV → AP κ AV := contract impl_IsSealed.sig (impl_IsSealed.body k)
theorem impl_IsSealed.den (k : Nat) (a0 : Int) (a1_0 : Int) (a1_1 : Int) (a1_2 : Int) (a1_3 : List T_impl_Grant) (a1_4 : List T_impl_Flow) (a1_5 : List T_impl_Rule) (a1_6 : List T_impl_Op) (a1_7 : Int) : Code.den ti (impl_IsSealed.Γ k) (impl_IsSealed.LH k) (bodyOf Tryz.f32) (finK ti Tryz.f32.results.toList [] (flags impl_IsSealed.sig).length (rwI (flags impl_IsSealed.sig) 0) impl_IsSealed.out) ⟨envOf (([.v (.int .i64 a0), .agg [.int .i64 a1_0, .int .i64 a1_1, .int .i64 a1_2, .sl 0, .sl 1, .sl 2, .sl 3, .int .i64 a1_7]]).zipIdx.map fun q => (q.2, q.1)), hpOf [.rows 2 false a1_3, .rows 3 false a1_4, .rows 4 false a1_5, .rows 1 false a1_6], (flags impl_IsSealed.sig).length⟩ = impl_IsSealed.f k a0 a1_0 a1_1 a1_2 a1_3 a1_4 a1_5 a1_6 a1_7 := by kernel_rfl
theorem impl_IsSealed.ok (k : Nat) : CSound Tryz.prog 32 (impl_IsSealed.C k) :=
  csound κ_ok mixed tok (impl_IsSealed.hΓ k) (LH := impl_IsSealed.LH k) (fn := Tryz.f32) (c := bodyOf Tryz.f32) Tryz.func32 rfl Tryz.call32 impl_IsSealed.sig [] (impl_IsSealed.body k) (by kernel_rfl) (impl_IsSealed.lok k) (by decide) fun vs bs lf y hl hb hy => by
    unfold impl_IsSealed.body at hb
    split at hb
    · obtain ⟨_, rfl, hb_1⟩ := asO_bind hb
      obtain ⟨_, rfl, hb_2⟩ := asO_bind hb_1
      obtain ⟨_, rfl, hb_3⟩ := asO_bind hb_2
      obtain ⟨_, rfl, hb_4⟩ := asO_bind hb_3
      obtain rfl := Option.some.inj hb_4
      exact ⟨impl_IsSealed.out, impl_IsSealed.out_ok, (impl_IsSealed.den k _ _ _ _ _ _ _ _ _).trans hy⟩
    · cases hb
/-! ### impl_IsNarrower -/
def impl_IsNarrower.f (k : Nat) (a0_0 : Int) (a0_1 : Int) (a1_0 : Int) (a1_1 : Int) : Option Bool :=
  (impl_IsPattern.f k a0_0 a0_1).bind fun t1 => (bif t1 then (impl_IsPattern.f k a1_0 a1_1).bind fun t2 => (bif t2 then (bif (a1_0 == (0 : Int)) then (bif (a1_1 == (-1 : Int)) then some true else some (a0_1 == a1_1)) else (bif (a0_0 == a1_0) then (bif (a1_1 == (-1 : Int)) then some true else some (a0_1 == a1_1)) else some false)) else some false) else some false)
def impl_IsNarrower.Γ (k : Nat) : Ct κ := assoc [(95, impl_IsPattern.C k)]
def impl_IsNarrower.LH (k : Nat) : Nat → Option (LHi κ) := assoc []
theorem impl_IsNarrower.hΓ (k : Nat) : ∀ f g, impl_IsNarrower.Γ k f = some g → CSound Tryz.prog f g := G_cons (impl_IsPattern.ok k) G_nil
theorem impl_IsNarrower.lok (k : Nat) : LOK ti (impl_IsNarrower.Γ k) (impl_IsNarrower.LH k) 0 (loopsOf (bodyOf Tryz.f64)) :=
  (show loopsOf (bodyOf Tryz.f64) = [] by kernel_rfl) ▸ LOK_nil
def impl_IsNarrower.sig : List PSh := [.agg [.sc, .sc], .agg [.sc, .sc]]
def impl_IsNarrower.g (y : Bool) : Ret κ := ⟨.v (.bool y), [], []⟩
def impl_IsNarrower.out (r : Ret κ) : Option Bool :=
  match r with
  | ⟨.v (.bool z0), [], []⟩ => some (z0)
  | _ => none
theorem impl_IsNarrower.out_ok (r : Ret κ) (y : Bool) (h : impl_IsNarrower.out r = some y) : r = impl_IsNarrower.g y := by
  unfold impl_IsNarrower.out at h
  split at h
  · obtain rfl := Option.some.inj h
    rfl
  · cases h
def impl_IsNarrower.body (k : Nat) (vs : List AV) (bs : List (Blk κ)) : Option (Lf κ) :=
  match vs, bs with
  | [.agg [.int .i64 a0_0, .int .i64 a0_1], .agg [.int .i64 a1_0, .int .i64 a1_1]], [] => some ⟨Bool, impl_IsNarrower.f k a0_0 a0_1 a1_0 a1_1, impl_IsNarrower.g⟩
  | _, _ => none
def impl_IsNarrower.C (k : Nat) : Nat → List AV → AP κ AV := contract impl_IsNarrower.sig (impl_IsNarrower.body k)
theorem impl_IsNarrower.den (k : Nat) (a0_0 : Int) (a0_1 : Int) (a1_0 : Int) (a1_1 : Int) : Code.den ti (impl_IsNarrower.Γ k) (impl_IsNarrower.LH k) (bodyOf Tryz.f64) (finK ti Tryz.f64.results.toList [] (flags impl_IsNarrower.sig).length (rwI (flags impl_IsNarrower.sig) 0) impl_IsNarrower.out) ⟨envOf (([.agg [.int .i64 a0_0, .int .i64 a0_1], .agg [.int .i64 a1_0, .int .i64 a1_1]]).zipIdx.map fun q => (q.2, q.1)), hpOf [], (flags impl_IsNarrower.sig).length⟩ = impl_IsNarrower.f k a0_0 a0_1 a1_0 a1_1 := by kernel_rfl
theorem impl_IsNarrower.ok (k : Nat) : CSound Tryz.prog 64 (impl_IsNarrower.C k) :=
  csound κ_ok mixed tok (impl_IsNarrower.hΓ k) (LH := impl_IsNarrower.LH k) (fn := Tryz.f64) (c := bodyOf Tryz.f64) Tryz.func64 rfl Tryz.call64 impl_IsNarrower.sig [] (impl_IsNarrower.body k) (by kernel_rfl) (impl_IsNarrower.lok k) (by decide) fun vs bs lf y hl hb hy => by
    unfold impl_IsNarrower.body at hb
    split at hb
    · obtain rfl := Option.some.inj hb
      exact ⟨impl_IsNarrower.out, impl_IsNarrower.out_ok, (impl_IsNarrower.den k _ _ _ _).trans hy⟩
    · cases hb
/-! ### impl_covered -/
def impl_covered.L2 {R : Type} (k : Nat) (x2 : Int) (xl0 : List T_impl_Grant) (xc1_0 : Int) (xc1_1 : Int) (X0 : Bool → Option R) (X1 : Unit → Option R) (rec : Int → Option R) (x3 : Int) : Option R :=
  (bif decide (x3 < x2) then (bif decide (0 ≤ x3) then (bif decide (x3 < (xl0.length : Int)) then (bif ((rd_impl_Grant xl0 x3).f2 == (3 : Int)) then (impl_IsNarrower.f k xc1_0 xc1_1 ((rd_impl_Grant xl0 x3).f1.f0) ((rd_impl_Grant xl0 x3).f1.f1)).bind fun t1 => (bif t1 then (X0 true) else (rec (w64 (x3 + (1 : Int))))) else (rec (w64 (x3 + (1 : Int))))) else none) else none) else (X1 ()))
def impl_covered.l2 {R : Type} (k : Nat) (x2 : Int) (xl0 : List T_impl_Grant) (xc1_0 : Int) (xc1_1 : Int) (X0 : Bool → Option R) (X1 : Unit → Option R) : Nat → Int → Option R
  | 0 => fun _ => none
  | n + 1 => impl_covered.L2 k x2 xl0 xc1_0 xc1_1 X0 X1 (impl_covered.l2 k x2 xl0 xc1_0 xc1_1 X0 X1 n)
def impl_covered.f (k : Nat) (a0 : List T_impl_Grant) (a1_0 : Int) (a1_1 : Int) : Option Bool :=
  (impl_covered.l2 k (a0.length : Int) a0 a1_0 a1_1 (fun (y2 : Bool) => some y2) (fun (_ : Unit) => some false) k (0 : Int))
def impl_covered.h2 (k : Nat) {R : Type} (K : Ex → St κ → Option R) (vs : List AV) (bs : List (Blk κ)) : Option R :=
  match vs, bs with
  | [.v (.ptr 1 0 0), .v (.sl 0), .v (.int .i64 x2), .v (.int .i64 x3)], [qb0, .cells 69 [.int .i64 xc1_0, .int .i64 xc1_1]] => (asO 2 false qb0).bind fun xl0 => impl_covered.l2 k x2 xl0 xc1_0 xc1_1 (fun (z0 : Bool) => K .ret (stOf [(4, [])] [.v (.bool z0)] [.rows 2 false xl0])) (fun (_ : Unit) => K (.exit 0) (stOf [(4, [])] [.v .any] [.rows 2 false xl0])) k x3
  | _, _ => none
def impl_covered.Γ (k : Nat) : Ct κ := assoc [(64, impl_IsNarrower.C k)]
def impl_covered.LH (k : Nat) : Nat → Option (LHi κ) := assoc [(2, ⟨1, [(3, []), (7, [some 2]), (8, []), (9, [])], [(4, [])], @impl_covered.h2 k⟩)]
theorem impl_covered.hΓ (k : Nat) : ∀ f g, impl_covered.Γ k f = some g → CSound Tryz.prog f g := G_cons (impl_IsNarrower.ok k) G_nil
theorem impl_covered.e2 {R : Type} (K : Ex → St κ → Option R) (k : Nat) (x2 : Int) (xl0 : List T_impl_Grant) (xc1_0 : Int) (xc1_1 : Int) : ∀ (n : Nat) (x3 : Int), loopN 1 (Code.den ti (impl_covered.Γ k) (impl_covered.LH k) (loopAt Tryz.f33 0)) [(3, []), (7, [some 2]), (8, []), (9, [])] [(4, [])] K n [.v (.ptr 1 0 0), .v (.sl 0), .v (.int .i64 x2), .v (.int .i64 x3)] [.rows 2 false xl0, .cells 69 [.int .i64 xc1_0, .int .i64 xc1_1]] = impl_covered.l2 k x2 xl0 xc1_0 xc1_1 (fun (z0 : Bool) => K .ret (stOf [(4, [])] [.v (.bool z0)] [.rows 2 false xl0])) (fun (_ : Unit) => K (.exit 0) (stOf [(4, [])] [.v .any] [.rows 2 false xl0])) n x3
  | 0, _ => rfl
  | n + 1, x3 => (show loopN 1 (Code.den ti (impl_covered.Γ k) (impl_covered.LH k) (loopAt Tryz.f33 0)) [(3, []), (7, [some 2]), (8, []), (9, [])] [(4, [])] K (n + 1) [.v (.ptr 1 0 0), .v (.sl 0), .v (.int .i64 x2), .v (.int .i64 x3)] [.rows 2 false xl0, .cells 69 [.int .i64 xc1_0, .int .i64 xc1_1]] = impl_covered.L2 k x2 xl0 xc1_0 xc1_1 (fun (z0 : Bool) => K .ret (stOf [(4, [])] [.v (.bool z0)] [.rows 2 false xl0])) (fun (_ : Unit) => K (.exit 0) (stOf [(4, [])] [.v .any] [.rows 2 false xl0])) (fun (x3' : Int) => loopN 1 (Code.den ti (impl_covered.Γ k) (impl_covered.LH k) (loopAt Tryz.f33 0)) [(3, []), (7, [some 2]), (8, []), (9, [])] [(4, [])] K n [.v (.ptr 1 0 0), .v (.sl 0), .v (.int .i64 x2), .v (.int .i64 x3')] [.rows 2 false xl0, .cells 69 [.int .i64 xc1_0, .int .i64 xc1_1]]) x3 by kernel_rfl).trans (congrArg (fun rec => impl_covered.L2 k x2 xl0 xc1_0 xc1_1 (fun (z0 : Bool) => K .ret (stOf [(4, [])] [.v (.bool z0)] [.rows 2 false xl0])) (fun (_ : Unit) => K (.exit 0) (stOf [(4, [])] [.v .any] [.rows 2 false xl0])) rec x3) (funext fun x3' => impl_covered.e2 K k x2 xl0 xc1_0 xc1_1 n x3'))
theorem impl_covered.q2 (k : Nat) {R : Type} (K : Ex → St κ → Option R) (vs : List AV) (bs : List (Blk κ)) (r : R) (h : impl_covered.h2 k K vs bs = some r) : ∃ n, loopN 1 (Code.den ti (impl_covered.Γ k) (impl_covered.LH k) (loopAt Tryz.f33 0)) [(3, []), (7, [some 2]), (8, []), (9, [])] [(4, [])] K n vs bs = some r := by
  unfold impl_covered.h2 at h
  split at h
  · obtain ⟨_, rfl, h_1⟩ := asO_bind h
    exact ⟨k, (impl_covered.e2 K k _ _ _ _ k _).trans h_1⟩
  · cases h
theorem impl_covered.lok (k : Nat) : LOK ti (impl_covered.Γ k) (impl_covered.LH k) 1 (loopsOf (bodyOf Tryz.f33)) :=
  (show loopsOf (bodyOf Tryz.f33) = [loopAt Tryz.f33 0] by kernel_rfl) ▸ (LOK_cons (g := ⟨1, [(3, []), (7, [some 2]), (8, []), (9, [])], [(4, [])], @impl_covered.h2 k⟩) (by kernel_rfl) rfl (fun K vs xs r h => impl_covered.q2 k K vs xs r h) (LOK_nil))
def impl_covered.sig : List PSh := [.one (.ro 2), .agg [.sc, .sc]]
def impl_covered.g (y : Bool) : Ret κ := ⟨.v (.bool y), [], []⟩
def impl_covered.out (r : Ret κ) : Option Bool :=
  match r with
  | ⟨.v (.bool z0), [], []⟩ => some (z0)
  | _ => none
theorem impl_covered.out_ok (r : Ret κ) (y : Bool) (h : impl_covered.out r = some y) : r = impl_covered.g y := by
  unfold impl_covered.out at h
  split at h
  · obtain rfl := Option.some.inj h
    rfl
  · cases h
def impl_covered.body (k : Nat) (vs : List AV) (bs : List (Blk κ)) : Option (Lf κ) :=
  match vs, bs with
  | [.v (.sl 0), .agg [.int .i64 a1_0, .int .i64 a1_1]], [qb0] => (asO 2 false qb0).bind fun a0 => some ⟨Bool, impl_covered.f k a0 a1_0 a1_1, impl_covered.g⟩
  | _, _ => none
def impl_covered.C (k : Nat) : Nat → List AV → AP κ AV := contract impl_covered.sig (impl_covered.body k)
theorem impl_covered.den (k : Nat) (a0 : List T_impl_Grant) (a1_0 : Int) (a1_1 : Int) : Code.den ti (impl_covered.Γ k) (impl_covered.LH k) (bodyOf Tryz.f33) (finK ti Tryz.f33.results.toList [] (flags impl_covered.sig).length (rwI (flags impl_covered.sig) 0) impl_covered.out) ⟨envOf (([.v (.sl 0), .agg [.int .i64 a1_0, .int .i64 a1_1]]).zipIdx.map fun q => (q.2, q.1)), hpOf [.rows 2 false a0], (flags impl_covered.sig).length⟩ = impl_covered.f k a0 a1_0 a1_1 := by kernel_rfl
theorem impl_covered.ok (k : Nat) : CSound Tryz.prog 33 (impl_covered.C k) :=
  csound κ_ok mixed tok (impl_covered.hΓ k) (LH := impl_covered.LH k) (fn := Tryz.f33) (c := bodyOf Tryz.f33) Tryz.func33 rfl Tryz.call33 impl_covered.sig [] (impl_covered.body k) (by kernel_rfl) (impl_covered.lok k) (by decide) fun vs bs lf y hl hb hy => by
    unfold impl_covered.body at hb
    split at hb
    · obtain ⟨_, rfl, hb_1⟩ := asO_bind hb
      obtain rfl := Option.some.inj hb_1
      exact ⟨impl_covered.out, impl_covered.out_ok, (impl_covered.den k _ _ _).trans hy⟩
    · cases hb
/-! ### slices_Sort_int -/
def slices_Sort_int.f (k : Nat) (l : List Int) : Option (List Int) := sortF l
def slices_Sort_int.C (k : Nat) : Nat → List AV → AP κ AV := contract (inSig 5 none) (inB 5 κ none (slices_Sort_int.f k))
theorem slices_Sort_int.ok (k : Nat) : CSound Tryz.prog 127 (slices_Sort_int.C k) :=
  sort_sound κ_ok Tryz.laysSort Tryz.call127 5 rfl (fun x => x) (fun _ => rfl) (slices_Sort_int.f k) sortF_ok
/-! ### slices_Compact_int -/
def slices_Compact_int.f (k : Nat) (l : List Int) : Option (List Int) := compactF l
def slices_Compact_int.C (k : Nat) : Nat → List AV → AP κ AV := contract [.one (.rw 5)] (cutB 5 κ (slices_Compact_int.f k))
theorem slices_Compact_int.ok (k : Nat) : CSound Tryz.prog 128 (slices_Compact_int.C k) :=
  compact_sound κ_ok Tryz.laysCompact Tryz.call128 5 rfl (fun x => x) (fun _ => rfl) (slices_Compact_int.f k) compactF_ok
/-! ### impl_ordered -/
def impl_ordered.f (k : Nat) (a0 : List Int) : Option (List Int) :=
  (slices_Sort_int.f k a0).bind fun t1 => (slices_Compact_int.f k t1).bind fun t2 => some t2
def impl_ordered.Γ (k : Nat) : Ct κ := assoc [(127, slices_Sort_int.C k), (128, slices_Compact_int.C k)]
def impl_ordered.LH (k : Nat) : Nat → Option (LHi κ) := assoc []
theorem impl_ordered.hΓ (k : Nat) : ∀ f g, impl_ordered.Γ k f = some g → CSound Tryz.prog f g := G_cons (slices_Sort_int.ok k) (G_cons (slices_Compact_int.ok k) G_nil)
theorem impl_ordered.lok (k : Nat) : LOK ti (impl_ordered.Γ k) (impl_ordered.LH k) 1 (loopsOf (bodyOf Tryz.f100)) :=
  (show loopsOf (bodyOf Tryz.f100) = [] by kernel_rfl) ▸ LOK_nil
def impl_ordered.sig : List PSh := [.one (.rw 5)]
def impl_ordered.g (y : List Int) : Ret κ := ⟨.v (.sl 1), [.dead], [.rows 5 true y]⟩
def impl_ordered.out (r : Ret κ) : Option (List Int) :=
  match r with
  | ⟨.v (.sl 1), [.dead], [q0]⟩ => (asO 5 true q0).bind fun z0 => some (z0)
  | _ => none
theorem impl_ordered.out_ok (r : Ret κ) (y : List Int) (h : impl_ordered.out r = some y) : r = impl_ordered.g y := by
  unfold impl_ordered.out at h
  split at h
  · obtain ⟨_, rfl, h_1⟩ := asO_bind h
    obtain rfl := Option.some.inj h_1
    rfl
  · cases h
def impl_ordered.body (k : Nat) (vs : List AV) (bs : List (Blk κ)) : Option (Lf κ) :=
  match vs, bs with
  | [.v (.sl 0)], [qb0] => (asO 5 true qb0).bind fun a0 => some ⟨List Int, impl_ordered.f k a0, impl_ordered.g⟩
  | _, _ => none
def impl_ordered.C (k : Nat) : Nat → List AV → AP κ AV := contract impl_ordered.sig (impl_ordered.body k)
theorem impl_ordered.den (k : Nat) (a0 : List Int) : Code.den ti (impl_ordered.Γ k) (impl_ordered.LH k) (bodyOf Tryz.f100) (finK ti Tryz.f100.results.toList [(2, [some 5])] (flags impl_ordered.sig).length (rwI (flags impl_ordered.sig) 0) impl_ordered.out) ⟨envOf (([.v (.sl 0)]).zipIdx.map fun q => (q.2, q.1)), hpOf [.rows 5 true a0], (flags impl_ordered.sig).length⟩ = impl_ordered.f k a0 := by kernel_rfl
theorem impl_ordered.ok (k : Nat) : CSound Tryz.prog 100 (impl_ordered.C k) :=
  csound κ_ok mixed tok (impl_ordered.hΓ k) (LH := impl_ordered.LH k) (fn := Tryz.f100) (c := bodyOf Tryz.f100) Tryz.func100 rfl Tryz.call100 impl_ordered.sig [(2, [some 5])] (impl_ordered.body k) (by kernel_rfl) (impl_ordered.lok k) (by decide) fun vs bs lf y hl hb hy => by
    unfold impl_ordered.body at hb
    split at hb
    · obtain ⟨_, rfl, hb_1⟩ := asO_bind hb
      obtain rfl := Option.some.inj hb_1
      exact ⟨impl_ordered.out, impl_ordered.out_ok, (impl_ordered.den k _).trans hy⟩
    · cases hb
/-! ### impl_ownersOf -/
def impl_ownersOf.L5 {R : Type} (k : Nat) (x0 : Int) (x3 : Int) (xl0 : List T_impl_Op) (X0 : List Int → Option R) (rec : Int → List Int → Option R) (x4 : Int) (xl1 : List Int) : Option R :=
  (bif decide (x4 < x3) then (bif decide (0 ≤ x4) then (bif decide (x4 < (xl0.length : Int)) then (bif ((rd_impl_Op xl0 x4).f0 == x0) then (bif decide ((xl1.length + ([(rd_impl_Op xl0 x4).f2] : List Int).length) * 8 ≤ cap48) then (rec (w64 (x4 + (1 : Int))) (xl1 ++ ([(rd_impl_Op xl0 x4).f2] : List Int))) else none) else (rec (w64 (x4 + (1 : Int))) xl1)) else none) else none) else (X0 xl1))
def impl_ownersOf.l5 {R : Type} (k : Nat) (x0 : Int) (x3 : Int) (xl0 : List T_impl_Op) (X0 : List Int → Option R) : Nat → Int → List Int → Option R
  | 0 => fun _ _ => none
  | n + 1 => impl_ownersOf.L5 k x0 x3 xl0 X0 (impl_ownersOf.l5 k x0 x3 xl0 X0 n)
def impl_ownersOf.f (k : Nat) (a0 : List T_impl_Op) (a1 : Int) : Option (List Int) :=
  (impl_AreOps.f k a0).bind fun t1 => (bif !t1 then some ([] : List Int) else (impl_ownersOf.l5 k a1 (a0.length : Int) a0 (fun (y2 : List Int) => (impl_ordered.f k y2).bind fun t3 => some t3) k (0 : Int) ([] : List Int)))
def impl_ownersOf.h5 (k : Nat) {R : Type} (K : Ex → St κ → Option R) (vs : List AV) (bs : List (Blk κ)) : Option R :=
  match vs, bs with
  | [.v (.int .i64 x0), .v (.sl 1), .v (.sl 0), .v (.int .i64 x3), .v (.int .i64 x4)], [qb0, qb1] => (asO 1 false qb0).bind fun xl0 => (asO 5 true qb1).bind fun xl1 => impl_ownersOf.l5 k x0 x3 xl0 (fun (zl1 : List Int) => K (.exit 0) (stOf [(5, [some 5])] [.v (.sl 1)] [.rows 1 false xl0, .rows 5 true zl1])) k x4 xl1
  | _, _ => none
def impl_ownersOf.Γ (k : Nat) : Ct κ := assoc [(61, impl_AreOps.C k), (100, impl_ordered.C k)]
def impl_ownersOf.LH (k : Nat) : Nat → Option (LHi κ) := assoc [(5, ⟨1, [(1, []), (5, [some 5]), (13, [some 1]), (14, []), (15, [])], [(5, [some 5])], @impl_ownersOf.h5 k⟩)]
theorem impl_ownersOf.hΓ (k : Nat) : ∀ f g, impl_ownersOf.Γ k f = some g → CSound Tryz.prog f g := G_cons (impl_AreOps.ok k) (G_cons (impl_ordered.ok k) G_nil)
theorem impl_ownersOf.e5 {R : Type} (K : Ex → St κ → Option R) (k : Nat) (x0 : Int) (x3 : Int) (xl0 : List T_impl_Op) : ∀ (n : Nat) (x4 : Int) (xl1 : List Int), loopN 1 (Code.den ti (impl_ownersOf.Γ k) (impl_ownersOf.LH k) (loopAt Tryz.f66 0)) [(1, []), (5, [some 5]), (13, [some 1]), (14, []), (15, [])] [(5, [some 5])] K n [.v (.int .i64 x0), .v (.sl 1), .v (.sl 0), .v (.int .i64 x3), .v (.int .i64 x4)] [.rows 1 false xl0, .rows 5 true xl1] = impl_ownersOf.l5 k x0 x3 xl0 (fun (zl1 : List Int) => K (.exit 0) (stOf [(5, [some 5])] [.v (.sl 1)] [.rows 1 false xl0, .rows 5 true zl1])) n x4 xl1
  | 0, _, _ => rfl
  | n + 1, x4, xl1 => (show loopN 1 (Code.den ti (impl_ownersOf.Γ k) (impl_ownersOf.LH k) (loopAt Tryz.f66 0)) [(1, []), (5, [some 5]), (13, [some 1]), (14, []), (15, [])] [(5, [some 5])] K (n + 1) [.v (.int .i64 x0), .v (.sl 1), .v (.sl 0), .v (.int .i64 x3), .v (.int .i64 x4)] [.rows 1 false xl0, .rows 5 true xl1] = impl_ownersOf.L5 k x0 x3 xl0 (fun (zl1 : List Int) => K (.exit 0) (stOf [(5, [some 5])] [.v (.sl 1)] [.rows 1 false xl0, .rows 5 true zl1])) (fun (x4' : Int) (xl1' : List Int) => loopN 1 (Code.den ti (impl_ownersOf.Γ k) (impl_ownersOf.LH k) (loopAt Tryz.f66 0)) [(1, []), (5, [some 5]), (13, [some 1]), (14, []), (15, [])] [(5, [some 5])] K n [.v (.int .i64 x0), .v (.sl 1), .v (.sl 0), .v (.int .i64 x3), .v (.int .i64 x4')] [.rows 1 false xl0, .rows 5 true xl1']) x4 xl1 by kernel_rfl).trans (congrArg (fun rec => impl_ownersOf.L5 k x0 x3 xl0 (fun (zl1 : List Int) => K (.exit 0) (stOf [(5, [some 5])] [.v (.sl 1)] [.rows 1 false xl0, .rows 5 true zl1])) rec x4 xl1) (funext fun x4' => funext fun xl1' => impl_ownersOf.e5 K k x0 x3 xl0 n x4' xl1'))
theorem impl_ownersOf.q5 (k : Nat) {R : Type} (K : Ex → St κ → Option R) (vs : List AV) (bs : List (Blk κ)) (r : R) (h : impl_ownersOf.h5 k K vs bs = some r) : ∃ n, loopN 1 (Code.den ti (impl_ownersOf.Γ k) (impl_ownersOf.LH k) (loopAt Tryz.f66 0)) [(1, []), (5, [some 5]), (13, [some 1]), (14, []), (15, [])] [(5, [some 5])] K n vs bs = some r := by
  unfold impl_ownersOf.h5 at h
  split at h
  · obtain ⟨_, rfl, h_1⟩ := asO_bind h
    obtain ⟨_, rfl, h_2⟩ := asO_bind h_1
    exact ⟨k, (impl_ownersOf.e5 K k _ _ _ k _ _).trans h_2⟩
  · cases h
theorem impl_ownersOf.lok (k : Nat) : LOK ti (impl_ownersOf.Γ k) (impl_ownersOf.LH k) 1 (loopsOf (bodyOf Tryz.f66)) :=
  (show loopsOf (bodyOf Tryz.f66) = [loopAt Tryz.f66 0] by kernel_rfl) ▸ (LOK_cons (g := ⟨1, [(1, []), (5, [some 5]), (13, [some 1]), (14, []), (15, [])], [(5, [some 5])], @impl_ownersOf.h5 k⟩) (by kernel_rfl) rfl (fun K vs xs r h => impl_ownersOf.q5 k K vs xs r h) (LOK_nil))
def impl_ownersOf.sig : List PSh := [.one (.ro 1), .one .sc]
def impl_ownersOf.g (y : List Int) : Ret κ := ⟨.v (.sl 1), [], [.rows 5 true y]⟩
def impl_ownersOf.out (r : Ret κ) : Option (List Int) :=
  match r with
  | ⟨.v (.sl 1), [], [q0]⟩ => (asO 5 true q0).bind fun z0 => some (z0)
  | _ => none
theorem impl_ownersOf.out_ok (r : Ret κ) (y : List Int) (h : impl_ownersOf.out r = some y) : r = impl_ownersOf.g y := by
  unfold impl_ownersOf.out at h
  split at h
  · obtain ⟨_, rfl, h_1⟩ := asO_bind h
    obtain rfl := Option.some.inj h_1
    rfl
  · cases h
def impl_ownersOf.body (k : Nat) (vs : List AV) (bs : List (Blk κ)) : Option (Lf κ) :=
  match vs, bs with
  | [.v (.sl 0), .v (.int .i64 a1)], [qb0] => (asO 1 false qb0).bind fun a0 => some ⟨List Int, impl_ownersOf.f k a0 a1, impl_ownersOf.g⟩
  | _, _ => none
def impl_ownersOf.C (k : Nat) : Nat → List AV → AP κ AV := contract impl_ownersOf.sig (impl_ownersOf.body k)
theorem impl_ownersOf.den (k : Nat) (a0 : List T_impl_Op) (a1 : Int) : Code.den ti (impl_ownersOf.Γ k) (impl_ownersOf.LH k) (bodyOf Tryz.f66) (finK ti Tryz.f66.results.toList [(4, [some 5])] (flags impl_ownersOf.sig).length (rwI (flags impl_ownersOf.sig) 0) impl_ownersOf.out) ⟨envOf (([.v (.sl 0), .v (.int .i64 a1)]).zipIdx.map fun q => (q.2, q.1)), hpOf [.rows 1 false a0], (flags impl_ownersOf.sig).length⟩ = impl_ownersOf.f k a0 a1 := by kernel_rfl
theorem impl_ownersOf.ok (k : Nat) : CSound Tryz.prog 66 (impl_ownersOf.C k) :=
  csound κ_ok mixed tok (impl_ownersOf.hΓ k) (LH := impl_ownersOf.LH k) (fn := Tryz.f66) (c := bodyOf Tryz.f66) Tryz.func66 rfl Tryz.call66 impl_ownersOf.sig [(4, [some 5])] (impl_ownersOf.body k) (by kernel_rfl) (impl_ownersOf.lok k) (by decide) fun vs bs lf y hl hb hy => by
    unfold impl_ownersOf.body at hb
    split at hb
    · obtain ⟨_, rfl, hb_1⟩ := asO_bind hb
      obtain rfl := Option.some.inj hb_1
      exact ⟨impl_ownersOf.out, impl_ownersOf.out_ok, (impl_ownersOf.den k _ _).trans hy⟩
    · cases hb
/-! ### impl_OwnersRead -/
def impl_OwnersRead.f (k : Nat) (a0 : List T_impl_Op) : Option (List Int) :=
  (impl_ownersOf.f k a0 (1 : Int)).bind fun t1 => some t1
def impl_OwnersRead.Γ (k : Nat) : Ct κ := assoc [(66, impl_ownersOf.C k)]
def impl_OwnersRead.LH (k : Nat) : Nat → Option (LHi κ) := assoc []
theorem impl_OwnersRead.hΓ (k : Nat) : ∀ f g, impl_OwnersRead.Γ k f = some g → CSound Tryz.prog f g := G_cons (impl_ownersOf.ok k) G_nil
theorem impl_OwnersRead.lok (k : Nat) : LOK ti (impl_OwnersRead.Γ k) (impl_OwnersRead.LH k) 1 (loopsOf (bodyOf Tryz.f35)) :=
  (show loopsOf (bodyOf Tryz.f35) = [] by kernel_rfl) ▸ LOK_nil
def impl_OwnersRead.sig : List PSh := [.one (.ro 1)]
def impl_OwnersRead.g (y : List Int) : Ret κ := ⟨.v (.sl 1), [], [.rows 5 true y]⟩
def impl_OwnersRead.out (r : Ret κ) : Option (List Int) :=
  match r with
  | ⟨.v (.sl 1), [], [q0]⟩ => (asO 5 true q0).bind fun z0 => some (z0)
  | _ => none
theorem impl_OwnersRead.out_ok (r : Ret κ) (y : List Int) (h : impl_OwnersRead.out r = some y) : r = impl_OwnersRead.g y := by
  unfold impl_OwnersRead.out at h
  split at h
  · obtain ⟨_, rfl, h_1⟩ := asO_bind h
    obtain rfl := Option.some.inj h_1
    rfl
  · cases h
def impl_OwnersRead.body (k : Nat) (vs : List AV) (bs : List (Blk κ)) : Option (Lf κ) :=
  match vs, bs with
  | [.v (.sl 0)], [qb0] => (asO 1 false qb0).bind fun a0 => some ⟨List Int, impl_OwnersRead.f k a0, impl_OwnersRead.g⟩
  | _, _ => none
def impl_OwnersRead.C (k : Nat) : Nat → List AV → AP κ AV := contract impl_OwnersRead.sig (impl_OwnersRead.body k)
theorem impl_OwnersRead.den (k : Nat) (a0 : List T_impl_Op) : Code.den ti (impl_OwnersRead.Γ k) (impl_OwnersRead.LH k) (bodyOf Tryz.f35) (finK ti Tryz.f35.results.toList [(2, [some 5])] (flags impl_OwnersRead.sig).length (rwI (flags impl_OwnersRead.sig) 0) impl_OwnersRead.out) ⟨envOf (([.v (.sl 0)]).zipIdx.map fun q => (q.2, q.1)), hpOf [.rows 1 false a0], (flags impl_OwnersRead.sig).length⟩ = impl_OwnersRead.f k a0 := by kernel_rfl
theorem impl_OwnersRead.ok (k : Nat) : CSound Tryz.prog 35 (impl_OwnersRead.C k) :=
  csound κ_ok mixed tok (impl_OwnersRead.hΓ k) (LH := impl_OwnersRead.LH k) (fn := Tryz.f35) (c := bodyOf Tryz.f35) Tryz.func35 rfl Tryz.call35 impl_OwnersRead.sig [(2, [some 5])] (impl_OwnersRead.body k) (by kernel_rfl) (impl_OwnersRead.lok k) (by decide) fun vs bs lf y hl hb hy => by
    unfold impl_OwnersRead.body at hb
    split at hb
    · obtain ⟨_, rfl, hb_1⟩ := asO_bind hb
      obtain rfl := Option.some.inj hb_1
      exact ⟨impl_OwnersRead.out, impl_OwnersRead.out_ok, (impl_OwnersRead.den k _).trans hy⟩
    · cases hb
/-! ### impl_HasGrantFor -/
def impl_HasGrantFor.L2 {R : Type} (k : Nat) (x0 : Int) (x1 : Int) (x3 : Int) (xl0 : List T_impl_Grant) (X0 : Bool → Option R) (X1 : Unit → Option R) (rec : Int → Option R) (x4 : Int) : Option R :=
  (bif decide (x4 < x3) then (bif decide (0 ≤ x4) then (bif decide (x4 < (xl0.length : Int)) then (impl_IsGrant.f k ((rd_impl_Grant xl0 x4).f0) ((rd_impl_Grant xl0 x4).f1.f0) ((rd_impl_Grant xl0 x4).f1.f1) ((rd_impl_Grant xl0 x4).f2) ((rd_impl_Grant xl0 x4).f3) ((rd_impl_Grant xl0 x4).f4) ((rd_impl_Grant xl0 x4).f5)).bind fun t1 => (bif t1 then (bif ((rd_impl_Grant xl0 x4).f2 == x0) then (bif ((rd_impl_Grant xl0 x4).f1.f0 == (0 : Int)) then (X0 true) else (bif ((rd_impl_Grant xl0 x4).f1.f0 == x1) then (X0 true) else (rec (w64 (x4 + (1 : Int)))))) else (rec (w64 (x4 + (1 : Int))))) else (rec (w64 (x4 + (1 : Int))))) else none) else none) else (X1 ()))
def impl_HasGrantFor.l2 {R : Type} (k : Nat) (x0 : Int) (x1 : Int) (x3 : Int) (xl0 : List T_impl_Grant) (X0 : Bool → Option R) (X1 : Unit → Option R) : Nat → Int → Option R
  | 0 => fun _ => none
  | n + 1 => impl_HasGrantFor.L2 k x0 x1 x3 xl0 X0 X1 (impl_HasGrantFor.l2 k x0 x1 x3 xl0 X0 X1 n)
def impl_HasGrantFor.f (k : Nat) (a0 : List T_impl_Grant) (a1 : Int) (a2 : Int) : Option Bool :=
  (impl_HasGrantFor.l2 k a1 a2 (a0.length : Int) a0 (fun (y2 : Bool) => some y2) (fun (_ : Unit) => some false) k (0 : Int))
def impl_HasGrantFor.h2 (k : Nat) {R : Type} (K : Ex → St κ → Option R) (vs : List AV) (bs : List (Blk κ)) : Option R :=
  match vs, bs with
  | [.v (.int .i64 x0), .v (.int .i64 x1), .v (.sl 0), .v (.int .i64 x3), .v (.int .i64 x4)], [qb0] => (asO 2 false qb0).bind fun xl0 => impl_HasGrantFor.l2 k x0 x1 x3 xl0 (fun (z0 : Bool) => K .ret (stOf [(6, [])] [.v (.bool z0)] [.rows 2 false xl0])) (fun (_ : Unit) => K (.exit 0) (stOf [(6, [])] [.v .any] [.rows 2 false xl0])) k x4
  | _, _ => none
def impl_HasGrantFor.Γ (k : Nat) : Ct κ := assoc [(58, impl_IsGrant.C k)]
def impl_HasGrantFor.LH (k : Nat) : Nat → Option (LHi κ) := assoc [(2, ⟨1, [(1, []), (2, []), (9, [some 2]), (10, []), (11, [])], [(6, [])], @impl_HasGrantFor.h2 k⟩)]
theorem impl_HasGrantFor.hΓ (k : Nat) : ∀ f g, impl_HasGrantFor.Γ k f = some g → CSound Tryz.prog f g := G_cons (impl_IsGrant.ok k) G_nil
theorem impl_HasGrantFor.e2 {R : Type} (K : Ex → St κ → Option R) (k : Nat) (x0 : Int) (x1 : Int) (x3 : Int) (xl0 : List T_impl_Grant) : ∀ (n : Nat) (x4 : Int), loopN 1 (Code.den ti (impl_HasGrantFor.Γ k) (impl_HasGrantFor.LH k) (loopAt Tryz.f65 0)) [(1, []), (2, []), (9, [some 2]), (10, []), (11, [])] [(6, [])] K n [.v (.int .i64 x0), .v (.int .i64 x1), .v (.sl 0), .v (.int .i64 x3), .v (.int .i64 x4)] [.rows 2 false xl0] = impl_HasGrantFor.l2 k x0 x1 x3 xl0 (fun (z0 : Bool) => K .ret (stOf [(6, [])] [.v (.bool z0)] [.rows 2 false xl0])) (fun (_ : Unit) => K (.exit 0) (stOf [(6, [])] [.v .any] [.rows 2 false xl0])) n x4
  | 0, _ => rfl
  | n + 1, x4 => (show loopN 1 (Code.den ti (impl_HasGrantFor.Γ k) (impl_HasGrantFor.LH k) (loopAt Tryz.f65 0)) [(1, []), (2, []), (9, [some 2]), (10, []), (11, [])] [(6, [])] K (n + 1) [.v (.int .i64 x0), .v (.int .i64 x1), .v (.sl 0), .v (.int .i64 x3), .v (.int .i64 x4)] [.rows 2 false xl0] = impl_HasGrantFor.L2 k x0 x1 x3 xl0 (fun (z0 : Bool) => K .ret (stOf [(6, [])] [.v (.bool z0)] [.rows 2 false xl0])) (fun (_ : Unit) => K (.exit 0) (stOf [(6, [])] [.v .any] [.rows 2 false xl0])) (fun (x4' : Int) => loopN 1 (Code.den ti (impl_HasGrantFor.Γ k) (impl_HasGrantFor.LH k) (loopAt Tryz.f65 0)) [(1, []), (2, []), (9, [some 2]), (10, []), (11, [])] [(6, [])] K n [.v (.int .i64 x0), .v (.int .i64 x1), .v (.sl 0), .v (.int .i64 x3), .v (.int .i64 x4')] [.rows 2 false xl0]) x4 by kernel_rfl).trans (congrArg (fun rec => impl_HasGrantFor.L2 k x0 x1 x3 xl0 (fun (z0 : Bool) => K .ret (stOf [(6, [])] [.v (.bool z0)] [.rows 2 false xl0])) (fun (_ : Unit) => K (.exit 0) (stOf [(6, [])] [.v .any] [.rows 2 false xl0])) rec x4) (funext fun x4' => impl_HasGrantFor.e2 K k x0 x1 x3 xl0 n x4'))
theorem impl_HasGrantFor.q2 (k : Nat) {R : Type} (K : Ex → St κ → Option R) (vs : List AV) (bs : List (Blk κ)) (r : R) (h : impl_HasGrantFor.h2 k K vs bs = some r) : ∃ n, loopN 1 (Code.den ti (impl_HasGrantFor.Γ k) (impl_HasGrantFor.LH k) (loopAt Tryz.f65 0)) [(1, []), (2, []), (9, [some 2]), (10, []), (11, [])] [(6, [])] K n vs bs = some r := by
  unfold impl_HasGrantFor.h2 at h
  split at h
  · obtain ⟨_, rfl, h_1⟩ := asO_bind h
    exact ⟨k, (impl_HasGrantFor.e2 K k _ _ _ _ k _).trans h_1⟩
  · cases h
theorem impl_HasGrantFor.lok (k : Nat) : LOK ti (impl_HasGrantFor.Γ k) (impl_HasGrantFor.LH k) 1 (loopsOf (bodyOf Tryz.f65)) :=
  (show loopsOf (bodyOf Tryz.f65) = [loopAt Tryz.f65 0] by kernel_rfl) ▸ (LOK_cons (g := ⟨1, [(1, []), (2, []), (9, [some 2]), (10, []), (11, [])], [(6, [])], @impl_HasGrantFor.h2 k⟩) (by kernel_rfl) rfl (fun K vs xs r h => impl_HasGrantFor.q2 k K vs xs r h) (LOK_nil))
def impl_HasGrantFor.sig : List PSh := [.one (.ro 2), .one .sc, .one .sc]
def impl_HasGrantFor.g (y : Bool) : Ret κ := ⟨.v (.bool y), [], []⟩
def impl_HasGrantFor.out (r : Ret κ) : Option Bool :=
  match r with
  | ⟨.v (.bool z0), [], []⟩ => some (z0)
  | _ => none
theorem impl_HasGrantFor.out_ok (r : Ret κ) (y : Bool) (h : impl_HasGrantFor.out r = some y) : r = impl_HasGrantFor.g y := by
  unfold impl_HasGrantFor.out at h
  split at h
  · obtain rfl := Option.some.inj h
    rfl
  · cases h
def impl_HasGrantFor.body (k : Nat) (vs : List AV) (bs : List (Blk κ)) : Option (Lf κ) :=
  match vs, bs with
  | [.v (.sl 0), .v (.int .i64 a1), .v (.int .i64 a2)], [qb0] => (asO 2 false qb0).bind fun a0 => some ⟨Bool, impl_HasGrantFor.f k a0 a1 a2, impl_HasGrantFor.g⟩
  | _, _ => none
def impl_HasGrantFor.C (k : Nat) : Nat → List AV → AP κ AV := contract impl_HasGrantFor.sig (impl_HasGrantFor.body k)
theorem impl_HasGrantFor.den (k : Nat) (a0 : List T_impl_Grant) (a1 : Int) (a2 : Int) : Code.den ti (impl_HasGrantFor.Γ k) (impl_HasGrantFor.LH k) (bodyOf Tryz.f65) (finK ti Tryz.f65.results.toList [] (flags impl_HasGrantFor.sig).length (rwI (flags impl_HasGrantFor.sig) 0) impl_HasGrantFor.out) ⟨envOf (([.v (.sl 0), .v (.int .i64 a1), .v (.int .i64 a2)]).zipIdx.map fun q => (q.2, q.1)), hpOf [.rows 2 false a0], (flags impl_HasGrantFor.sig).length⟩ = impl_HasGrantFor.f k a0 a1 a2 := by kernel_rfl
theorem impl_HasGrantFor.ok (k : Nat) : CSound Tryz.prog 65 (impl_HasGrantFor.C k) :=
  csound κ_ok mixed tok (impl_HasGrantFor.hΓ k) (LH := impl_HasGrantFor.LH k) (fn := Tryz.f65) (c := bodyOf Tryz.f65) Tryz.func65 rfl Tryz.call65 impl_HasGrantFor.sig [] (impl_HasGrantFor.body k) (by kernel_rfl) (impl_HasGrantFor.lok k) (by decide) fun vs bs lf y hl hb hy => by
    unfold impl_HasGrantFor.body at hb
    split at hb
    · obtain ⟨_, rfl, hb_1⟩ := asO_bind hb
      obtain rfl := Option.some.inj hb_1
      exact ⟨impl_HasGrantFor.out, impl_HasGrantFor.out_ok, (impl_HasGrantFor.den k _ _ _).trans hy⟩
    · cases hb
/-! ### impl_allGranted -/
def impl_allGranted.L2 {R : Type} (k : Nat) (x1 : Int) (x3 : Int) (xl0 : List T_impl_Grant) (xl1 : List Int) (X0 : Bool → Option R) (X1 : Unit → Option R) (rec : Int → Option R) (x4 : Int) : Option R :=
  (bif decide (x4 < x3) then (bif decide (0 ≤ x4) then (bif decide (x4 < (xl1.length : Int)) then (impl_HasGrantFor.f k xl0 x1 (rd_i64 xl1 x4)).bind fun t1 => (bif !t1 then (X0 false) else (rec (w64 (x4 + (1 : Int))))) else none) else none) else (X1 ()))
def impl_allGranted.l2 {R : Type} (k : Nat) (x1 : Int) (x3 : Int) (xl0 : List T_impl_Grant) (xl1 : List Int) (X0 : Bool → Option R) (X1 : Unit → Option R) : Nat → Int → Option R
  | 0 => fun _ => none
  | n + 1 => impl_allGranted.L2 k x1 x3 xl0 xl1 X0 X1 (impl_allGranted.l2 k x1 x3 xl0 xl1 X0 X1 n)
def impl_allGranted.f (k : Nat) (a0 : List T_impl_Grant) (a1 : Int) (a2 : List Int) : Option Bool :=
  (impl_allGranted.l2 k a1 (a2.length : Int) a0 a2 (fun (y2 : Bool) => some y2) (fun (_ : Unit) => some true) k (0 : Int))
def impl_allGranted.h2 (k : Nat) {R : Type} (K : Ex → St κ → Option R) (vs : List AV) (bs : List (Blk κ)) : Option R :=
  match vs, bs with
  | [.v (.sl 0), .v (.int .i64 x1), .v (.sl 1), .v (.int .i64 x3), .v (.int .i64 x4)], [qb0, qb1] => (asO 2 false qb0).bind fun xl0 => (asO 5 false qb1).bind fun xl1 => impl_allGranted.l2 k x1 x3 xl0 xl1 (fun (z0 : Bool) => K .ret (stOf [(6, [])] [.v (.bool z0)] [.rows 2 false xl0, .rows 5 false xl1])) (fun (_ : Unit) => K (.exit 0) (stOf [(6, [])] [.v .any] [.rows 2 false xl0, .rows 5 false xl1])) k x4
  | _, _ => none
def impl_allGranted.Γ (k : Nat) : Ct κ := assoc [(65, impl_HasGrantFor.C k)]
def impl_allGranted.LH (k : Nat) : Nat → Option (LHi κ) := assoc [(2, ⟨2, [(0, [some 2]), (1, []), (9, [some 5]), (10, []), (11, [])], [(6, [])], @impl_allGranted.h2 k⟩)]
theorem impl_allGranted.hΓ (k : Nat) : ∀ f g, impl_allGranted.Γ k f = some g → CSound Tryz.prog f g := G_cons (impl_HasGrantFor.ok k) G_nil
theorem impl_allGranted.e2 {R : Type} (K : Ex → St κ → Option R) (k : Nat) (x1 : Int) (x3 : Int) (xl0 : List T_impl_Grant) (xl1 : List Int) : ∀ (n : Nat) (x4 : Int), loopN 2 (Code.den ti (impl_allGranted.Γ k) (impl_allGranted.LH k) (loopAt Tryz.f34 0)) [(0, [some 2]), (1, []), (9, [some 5]), (10, []), (11, [])] [(6, [])] K n [.v (.sl 0), .v (.int .i64 x1), .v (.sl 1), .v (.int .i64 x3), .v (.int .i64 x4)] [.rows 2 false xl0, .rows 5 false xl1] = impl_allGranted.l2 k x1 x3 xl0 xl1 (fun (z0 : Bool) => K .ret (stOf [(6, [])] [.v (.bool z0)] [.rows 2 false xl0, .rows 5 false xl1])) (fun (_ : Unit) => K (.exit 0) (stOf [(6, [])] [.v .any] [.rows 2 false xl0, .rows 5 false xl1])) n x4
  | 0, _ => rfl
  | n + 1, x4 => (show loopN 2 (Code.den ti (impl_allGranted.Γ k) (impl_allGranted.LH k) (loopAt Tryz.f34 0)) [(0, [some 2]), (1, []), (9, [some 5]), (10, []), (11, [])] [(6, [])] K (n + 1) [.v (.sl 0), .v (.int .i64 x1), .v (.sl 1), .v (.int .i64 x3), .v (.int .i64 x4)] [.rows 2 false xl0, .rows 5 false xl1] = impl_allGranted.L2 k x1 x3 xl0 xl1 (fun (z0 : Bool) => K .ret (stOf [(6, [])] [.v (.bool z0)] [.rows 2 false xl0, .rows 5 false xl1])) (fun (_ : Unit) => K (.exit 0) (stOf [(6, [])] [.v .any] [.rows 2 false xl0, .rows 5 false xl1])) (fun (x4' : Int) => loopN 2 (Code.den ti (impl_allGranted.Γ k) (impl_allGranted.LH k) (loopAt Tryz.f34 0)) [(0, [some 2]), (1, []), (9, [some 5]), (10, []), (11, [])] [(6, [])] K n [.v (.sl 0), .v (.int .i64 x1), .v (.sl 1), .v (.int .i64 x3), .v (.int .i64 x4')] [.rows 2 false xl0, .rows 5 false xl1]) x4 by kernel_rfl).trans (congrArg (fun rec => impl_allGranted.L2 k x1 x3 xl0 xl1 (fun (z0 : Bool) => K .ret (stOf [(6, [])] [.v (.bool z0)] [.rows 2 false xl0, .rows 5 false xl1])) (fun (_ : Unit) => K (.exit 0) (stOf [(6, [])] [.v .any] [.rows 2 false xl0, .rows 5 false xl1])) rec x4) (funext fun x4' => impl_allGranted.e2 K k x1 x3 xl0 xl1 n x4'))
theorem impl_allGranted.q2 (k : Nat) {R : Type} (K : Ex → St κ → Option R) (vs : List AV) (bs : List (Blk κ)) (r : R) (h : impl_allGranted.h2 k K vs bs = some r) : ∃ n, loopN 2 (Code.den ti (impl_allGranted.Γ k) (impl_allGranted.LH k) (loopAt Tryz.f34 0)) [(0, [some 2]), (1, []), (9, [some 5]), (10, []), (11, [])] [(6, [])] K n vs bs = some r := by
  unfold impl_allGranted.h2 at h
  split at h
  · obtain ⟨_, rfl, h_1⟩ := asO_bind h
    obtain ⟨_, rfl, h_2⟩ := asO_bind h_1
    exact ⟨k, (impl_allGranted.e2 K k _ _ _ _ k _).trans h_2⟩
  · cases h
theorem impl_allGranted.lok (k : Nat) : LOK ti (impl_allGranted.Γ k) (impl_allGranted.LH k) 2 (loopsOf (bodyOf Tryz.f34)) :=
  (show loopsOf (bodyOf Tryz.f34) = [loopAt Tryz.f34 0] by kernel_rfl) ▸ (LOK_cons (g := ⟨2, [(0, [some 2]), (1, []), (9, [some 5]), (10, []), (11, [])], [(6, [])], @impl_allGranted.h2 k⟩) (by kernel_rfl) rfl (fun K vs xs r h => impl_allGranted.q2 k K vs xs r h) (LOK_nil))
def impl_allGranted.sig : List PSh := [.one (.ro 2), .one .sc, .one (.ro 5)]
def impl_allGranted.g (y : Bool) : Ret κ := ⟨.v (.bool y), [], []⟩
def impl_allGranted.out (r : Ret κ) : Option Bool :=
  match r with
  | ⟨.v (.bool z0), [], []⟩ => some (z0)
  | _ => none
theorem impl_allGranted.out_ok (r : Ret κ) (y : Bool) (h : impl_allGranted.out r = some y) : r = impl_allGranted.g y := by
  unfold impl_allGranted.out at h
  split at h
  · obtain rfl := Option.some.inj h
    rfl
  · cases h
def impl_allGranted.body (k : Nat) (vs : List AV) (bs : List (Blk κ)) : Option (Lf κ) :=
  match vs, bs with
  | [.v (.sl 0), .v (.int .i64 a1), .v (.sl 1)], [qb0, qb1] => (asO 2 false qb0).bind fun a0 => (asO 5 false qb1).bind fun a2 => some ⟨Bool, impl_allGranted.f k a0 a1 a2, impl_allGranted.g⟩
  | _, _ => none
def impl_allGranted.C (k : Nat) : Nat → List AV → AP κ AV := contract impl_allGranted.sig (impl_allGranted.body k)
theorem impl_allGranted.den (k : Nat) (a0 : List T_impl_Grant) (a1 : Int) (a2 : List Int) : Code.den ti (impl_allGranted.Γ k) (impl_allGranted.LH k) (bodyOf Tryz.f34) (finK ti Tryz.f34.results.toList [] (flags impl_allGranted.sig).length (rwI (flags impl_allGranted.sig) 0) impl_allGranted.out) ⟨envOf (([.v (.sl 0), .v (.int .i64 a1), .v (.sl 1)]).zipIdx.map fun q => (q.2, q.1)), hpOf [.rows 2 false a0, .rows 5 false a2], (flags impl_allGranted.sig).length⟩ = impl_allGranted.f k a0 a1 a2 := by kernel_rfl
theorem impl_allGranted.ok (k : Nat) : CSound Tryz.prog 34 (impl_allGranted.C k) :=
  csound κ_ok mixed tok (impl_allGranted.hΓ k) (LH := impl_allGranted.LH k) (fn := Tryz.f34) (c := bodyOf Tryz.f34) Tryz.func34 rfl Tryz.call34 impl_allGranted.sig [] (impl_allGranted.body k) (by kernel_rfl) (impl_allGranted.lok k) (by decide) fun vs bs lf y hl hb hy => by
    unfold impl_allGranted.body at hb
    split at hb
    · obtain ⟨_, rfl, hb_1⟩ := asO_bind hb
      obtain ⟨_, rfl, hb_2⟩ := asO_bind hb_1
      obtain rfl := Option.some.inj hb_2
      exact ⟨impl_allGranted.out, impl_allGranted.out_ok, (impl_allGranted.den k _ _ _).trans hy⟩
    · cases hb
/-! ### impl_OwnersSent -/
def impl_OwnersSent.f (k : Nat) (a0 : List T_impl_Op) : Option (List Int) :=
  (impl_ownersOf.f k a0 (5 : Int)).bind fun t1 => some t1
def impl_OwnersSent.Γ (k : Nat) : Ct κ := assoc [(66, impl_ownersOf.C k)]
def impl_OwnersSent.LH (k : Nat) : Nat → Option (LHi κ) := assoc []
theorem impl_OwnersSent.hΓ (k : Nat) : ∀ f g, impl_OwnersSent.Γ k f = some g → CSound Tryz.prog f g := G_cons (impl_ownersOf.ok k) G_nil
theorem impl_OwnersSent.lok (k : Nat) : LOK ti (impl_OwnersSent.Γ k) (impl_OwnersSent.LH k) 1 (loopsOf (bodyOf Tryz.f36)) :=
  (show loopsOf (bodyOf Tryz.f36) = [] by kernel_rfl) ▸ LOK_nil
def impl_OwnersSent.sig : List PSh := [.one (.ro 1)]
def impl_OwnersSent.g (y : List Int) : Ret κ := ⟨.v (.sl 1), [], [.rows 5 true y]⟩
def impl_OwnersSent.out (r : Ret κ) : Option (List Int) :=
  match r with
  | ⟨.v (.sl 1), [], [q0]⟩ => (asO 5 true q0).bind fun z0 => some (z0)
  | _ => none
theorem impl_OwnersSent.out_ok (r : Ret κ) (y : List Int) (h : impl_OwnersSent.out r = some y) : r = impl_OwnersSent.g y := by
  unfold impl_OwnersSent.out at h
  split at h
  · obtain ⟨_, rfl, h_1⟩ := asO_bind h
    obtain rfl := Option.some.inj h_1
    rfl
  · cases h
def impl_OwnersSent.body (k : Nat) (vs : List AV) (bs : List (Blk κ)) : Option (Lf κ) :=
  match vs, bs with
  | [.v (.sl 0)], [qb0] => (asO 1 false qb0).bind fun a0 => some ⟨List Int, impl_OwnersSent.f k a0, impl_OwnersSent.g⟩
  | _, _ => none
def impl_OwnersSent.C (k : Nat) : Nat → List AV → AP κ AV := contract impl_OwnersSent.sig (impl_OwnersSent.body k)
theorem impl_OwnersSent.den (k : Nat) (a0 : List T_impl_Op) : Code.den ti (impl_OwnersSent.Γ k) (impl_OwnersSent.LH k) (bodyOf Tryz.f36) (finK ti Tryz.f36.results.toList [(2, [some 5])] (flags impl_OwnersSent.sig).length (rwI (flags impl_OwnersSent.sig) 0) impl_OwnersSent.out) ⟨envOf (([.v (.sl 0)]).zipIdx.map fun q => (q.2, q.1)), hpOf [.rows 1 false a0], (flags impl_OwnersSent.sig).length⟩ = impl_OwnersSent.f k a0 := by kernel_rfl
theorem impl_OwnersSent.ok (k : Nat) : CSound Tryz.prog 36 (impl_OwnersSent.C k) :=
  csound κ_ok mixed tok (impl_OwnersSent.hΓ k) (LH := impl_OwnersSent.LH k) (fn := Tryz.f36) (c := bodyOf Tryz.f36) Tryz.func36 rfl Tryz.call36 impl_OwnersSent.sig [(2, [some 5])] (impl_OwnersSent.body k) (by kernel_rfl) (impl_OwnersSent.lok k) (by decide) fun vs bs lf y hl hb hy => by
    unfold impl_OwnersSent.body at hb
    split at hb
    · obtain ⟨_, rfl, hb_1⟩ := asO_bind hb
      obtain rfl := Option.some.inj hb_1
      exact ⟨impl_OwnersSent.out, impl_OwnersSent.out_ok, (impl_OwnersSent.den k _).trans hy⟩
    · cases hb
/-! ### impl_valueOf -/
def impl_valueOf.f (k : Nat) (a0 : List Int) (a1 : Int) : Option Int :=
  (bif decide (a1 < (1 : Int)) then some (0 : Int) else (bif decide (a1 > (a0.length : Int)) then some (0 : Int) else (bif decide (0 ≤ (w64 (a1 - (1 : Int)))) then (bif decide ((w64 (a1 - (1 : Int))) < (a0.length : Int)) then (impl_InRange.f k (rd_i64 a0 (w64 (a1 - (1 : Int)))) (0 : Int) (999 : Int)).bind fun t1 => (bif !t1 then some (0 : Int) else (bif decide (0 ≤ (w64 (a1 - (1 : Int)))) then (bif decide ((w64 (a1 - (1 : Int))) < (a0.length : Int)) then some (rd_i64 a0 (w64 (a1 - (1 : Int)))) else none) else none)) else none) else none)))
def impl_valueOf.Γ (k : Nat) : Ct κ := assoc [(27, impl_InRange.C k)]
def impl_valueOf.LH (k : Nat) : Nat → Option (LHi κ) := assoc []
theorem impl_valueOf.hΓ (k : Nat) : ∀ f g, impl_valueOf.Γ k f = some g → CSound Tryz.prog f g := G_cons (impl_InRange.ok k) G_nil
theorem impl_valueOf.lok (k : Nat) : LOK ti (impl_valueOf.Γ k) (impl_valueOf.LH k) 1 (loopsOf (bodyOf Tryz.f130)) :=
  (show loopsOf (bodyOf Tryz.f130) = [] by kernel_rfl) ▸ LOK_nil
def impl_valueOf.sig : List PSh := [.one (.ro 5), .one .sc]
def impl_valueOf.g (y : Int) : Ret κ := ⟨.v (.int .i64 y), [], []⟩
def impl_valueOf.out (r : Ret κ) : Option Int :=
  match r with
  | ⟨.v (.int .i64 z0), [], []⟩ => some (z0)
  | _ => none
theorem impl_valueOf.out_ok (r : Ret κ) (y : Int) (h : impl_valueOf.out r = some y) : r = impl_valueOf.g y := by
  unfold impl_valueOf.out at h
  split at h
  · obtain rfl := Option.some.inj h
    rfl
  · cases h
def impl_valueOf.body (k : Nat) (vs : List AV) (bs : List (Blk κ)) : Option (Lf κ) :=
  match vs, bs with
  | [.v (.sl 0), .v (.int .i64 a1)], [qb0] => (asO 5 false qb0).bind fun a0 => some ⟨Int, impl_valueOf.f k a0 a1, impl_valueOf.g⟩
  | _, _ => none
def impl_valueOf.C (k : Nat) : Nat → List AV → AP κ AV := contract impl_valueOf.sig (impl_valueOf.body k)
theorem impl_valueOf.den (k : Nat) (a0 : List Int) (a1 : Int) : Code.den ti (impl_valueOf.Γ k) (impl_valueOf.LH k) (bodyOf Tryz.f130) (finK ti Tryz.f130.results.toList [] (flags impl_valueOf.sig).length (rwI (flags impl_valueOf.sig) 0) impl_valueOf.out) ⟨envOf (([.v (.sl 0), .v (.int .i64 a1)]).zipIdx.map fun q => (q.2, q.1)), hpOf [.rows 5 false a0], (flags impl_valueOf.sig).length⟩ = impl_valueOf.f k a0 a1 := by kernel_rfl
theorem impl_valueOf.ok (k : Nat) : CSound Tryz.prog 130 (impl_valueOf.C k) :=
  csound κ_ok mixed tok (impl_valueOf.hΓ k) (LH := impl_valueOf.LH k) (fn := Tryz.f130) (c := bodyOf Tryz.f130) Tryz.func130 rfl Tryz.call130 impl_valueOf.sig [] (impl_valueOf.body k) (by kernel_rfl) (impl_valueOf.lok k) (by decide) fun vs bs lf y hl hb hy => by
    unfold impl_valueOf.body at hb
    split at hb
    · obtain ⟨_, rfl, hb_1⟩ := asO_bind hb
      obtain rfl := Option.some.inj hb_1
      exact ⟨impl_valueOf.out, impl_valueOf.out_ok, (impl_valueOf.den k _ _).trans hy⟩
    · cases hb
/-! ### impl_executed -/
def impl_executed.L3 {R : Type} (k : Nat) (x5 : Int) (xl0 : List T_impl_Op) (xl1 : List Int) (X0 : List T_impl_Sent → List Int → Option R) (rec : Int → List T_impl_Sent → List Int → List Int → Option R) (x6 : Int) (xl2 : List T_impl_Sent) (xl3 : List Int) (xl4 : List Int) : Option R :=
  (bif decide (x6 < x5) then (bif decide (0 ≤ x6) then (bif decide (x6 < (xl0.length : Int)) then (bif ((rd_impl_Op xl0 x6).f0 == (1 : Int)) then (impl_valueOf.f k xl1 ((rd_impl_Op xl0 x6).f2)).bind fun t1 => (bif decide ((rd_impl_Op xl0 x6).f2 < 0) then none else (bif decide (0 ≤ (rd_impl_Op xl0 x6).f1) then (bif decide ((rd_impl_Op xl0 x6).f1 < (xl3.length : Int)) then (bif decide (0 ≤ (rd_impl_Op xl0 x6).f1) then (bif decide ((rd_impl_Op xl0 x6).f1 < (xl4.length : Int)) then (let l2 : List Int := (xl4.set ((rd_impl_Op xl0 x6).f1).toNat (w64 ((1 : Int) * 2 ^ (min ((rd_impl_Op xl0 x6).f2).toNat 64)))); (rec (w64 (x6 + (1 : Int))) xl2 (xl3.set ((rd_impl_Op xl0 x6).f1).toNat t1) l2)) else none) else none) else none) else none)) else (bif ((rd_impl_Op xl0 x6).f0 == (2 : Int)) then (bif decide (0 ≤ (rd_impl_Op xl0 x6).f1) then (bif decide ((rd_impl_Op xl0 x6).f1 < (xl3.length : Int)) then (let l3 : List Int := (xl3.set ((rd_impl_Op xl0 x6).f1).toNat (rd_impl_Op xl0 x6).f2); (bif decide (0 ≤ (rd_impl_Op xl0 x6).f1) then (bif decide ((rd_impl_Op xl0 x6).f1 < (xl4.length : Int)) then (rec (w64 (x6 + (1 : Int))) xl2 l3 (xl4.set ((rd_impl_Op xl0 x6).f1).toNat (0 : Int))) else none) else none)) else none) else none) else (bif ((rd_impl_Op xl0 x6).f0 == (3 : Int)) then (bif decide (0 ≤ (rd_impl_Op xl0 x6).f2) then (bif decide ((rd_impl_Op xl0 x6).f2 < (xl3.length : Int)) then (bif decide (0 ≤ (rd_impl_Op xl0 x6).f3) then (bif decide ((rd_impl_Op xl0 x6).f3 < (xl3.length : Int)) then (bif decide (0 ≤ (rd_impl_Op xl0 x6).f2) then (bif decide ((rd_impl_Op xl0 x6).f2 < (xl4.length : Int)) then (bif decide (0 ≤ (rd_impl_Op xl0 x6).f3) then (bif decide ((rd_impl_Op xl0 x6).f3 < (xl4.length : Int)) then (bif decide (0 ≤ (rd_impl_Op xl0 x6).f1) then (bif decide ((rd_impl_Op xl0 x6).f1 < (xl3.length : Int)) then (let l4 : List Int := (xl3.set ((rd_impl_Op xl0 x6).f1).toNat ((w64 ((rd_i64 xl3 ((rd_impl_Op xl0 x6).f2)) + (rd_i64 xl3 ((rd_impl_Op xl0 x6).f3)))).tmod (1000 : Int))); (bif decide (0 ≤ (rd_impl_Op xl0 x6).f1) then (bif decide ((rd_impl_Op xl0 x6).f1 < (xl4.length : Int)) then (let l5 : List Int := (xl4.set ((rd_impl_Op xl0 x6).f1).toNat (bitop .or .i64 (rd_i64 xl4 ((rd_impl_Op xl0 x6).f2)) (rd_i64 xl4 ((rd_impl_Op xl0 x6).f3)))); (rec (w64 (x6 + (1 : Int))) xl2 l4 l5)) else none) else none)) else none) else none) else none) else none) else none) else none) else none) else none) else none) else none) else (bif ((rd_impl_Op xl0 x6).f0 == (4 : Int)) then (bif decide (0 ≤ (rd_impl_Op xl0 x6).f1) then (bif decide ((rd_impl_Op xl0 x6).f1 < (xl4.length : Int)) then (bif decide (0 ≤ (rd_impl_Op xl0 x6).f2) then (bif decide ((rd_impl_Op xl0 x6).f2 < (xl4.length : Int)) then (bif decide (0 ≤ (rd_impl_Op xl0 x6).f3) then (bif decide ((rd_impl_Op xl0 x6).f3 < (xl4.length : Int)) then (bif decide (0 ≤ (rd_impl_Op xl0 x6).f2) then (bif decide ((rd_impl_Op xl0 x6).f2 < (xl3.length : Int)) then (bif (((rd_i64 xl3 ((rd_impl_Op xl0 x6).f2)).tmod (2 : Int)) == (0 : Int)) then (bif decide (0 ≤ (rd_impl_Op xl0 x6).f3) then (bif decide ((rd_impl_Op xl0 x6).f3 < (xl3.length : Int)) then (bif decide (0 ≤ (rd_impl_Op xl0 x6).f1) then (bif decide ((rd_impl_Op xl0 x6).f1 < (xl3.length : Int)) then (let l6 : List Int := (xl3.set ((rd_impl_Op xl0 x6).f1).toNat (rd_i64 xl3 ((rd_impl_Op xl0 x6).f3))); (bif decide (0 ≤ (rd_impl_Op xl0 x6).f1) then (bif decide ((rd_impl_Op xl0 x6).f1 < (xl4.length : Int)) then (let l7 : List Int := (xl4.set ((rd_impl_Op xl0 x6).f1).toNat (bitop .or .i64 (bitop .or .i64 (rd_i64 xl4 ((rd_impl_Op xl0 x6).f1)) (rd_i64 xl4 ((rd_impl_Op xl0 x6).f2))) (rd_i64 xl4 ((rd_impl_Op xl0 x6).f3)))); (rec (w64 (x6 + (1 : Int))) xl2 l6 l7)) else none) else none)) else none) else none) else none) else none) else (bif decide (0 ≤ (rd_impl_Op xl0 x6).f1) then (bif decide ((rd_impl_Op xl0 x6).f1 < (xl4.length : Int)) then (let l8 : List Int := (xl4.set ((rd_impl_Op xl0 x6).f1).toNat (bitop .or .i64 (bitop .or .i64 (rd_i64 xl4 ((rd_impl_Op xl0 x6).f1)) (rd_i64 xl4 ((rd_impl_Op xl0 x6).f2))) (rd_i64 xl4 ((rd_impl_Op xl0 x6).f3)))); (rec (w64 (x6 + (1 : Int))) xl2 xl3 l8)) else none) else none)) else none) else none) else none) else none) else none) else none) else none) else none) else (bif ((rd_impl_Op xl0 x6).f0 == (5 : Int)) then (bif decide (0 ≤ (rd_impl_Op xl0 x6).f1) then (bif decide ((rd_impl_Op xl0 x6).f1 < (xl3.length : Int)) then (bif decide (0 ≤ (rd_impl_Op xl0 x6).f1) then (bif decide ((rd_impl_Op xl0 x6).f1 < (xl4.length : Int)) then (bif decide ((xl2.length + ([(⟨(rd_impl_Op xl0 x6).f2, (rd_i64 xl3 ((rd_impl_Op xl0 x6).f1)), (rd_i64 xl4 ((rd_impl_Op xl0 x6).f1))⟩ : T_impl_Sent)] : List T_impl_Sent).length) * 24 ≤ cap48) then (let l9 : List T_impl_Sent := (xl2 ++ ([(⟨(rd_impl_Op xl0 x6).f2, (rd_i64 xl3 ((rd_impl_Op xl0 x6).f1)), (rd_i64 xl4 ((rd_impl_Op xl0 x6).f1))⟩ : T_impl_Sent)] : List T_impl_Sent)); (rec (w64 (x6 + (1 : Int))) l9 xl3 xl4)) else none) else none) else none) else none) else none) else (rec (w64 (x6 + (1 : Int))) xl2 xl3 xl4)))))) else none) else none) else (X0 xl2 xl4))
def impl_executed.l3 {R : Type} (k : Nat) (x5 : Int) (xl0 : List T_impl_Op) (xl1 : List Int) (X0 : List T_impl_Sent → List Int → Option R) : Nat → Int → List T_impl_Sent → List Int → List Int → Option R
  | 0 => fun _ _ _ _ => none
  | n + 1 => impl_executed.L3 k x5 xl0 xl1 X0 (impl_executed.l3 k x5 xl0 xl1 X0 n)
def impl_executed.f (k : Nat) (a0 : List T_impl_Op) (a1 : List Int) : Option (List T_impl_Sent × List Int) :=
  (bif decide (0 ≤ (6 : Int)) then (bif decide (((6 : Int)).toNat * 8 ≤ cap48) then (bif decide (0 ≤ (6 : Int)) then (bif decide (((6 : Int)).toNat * 8 ≤ cap48) then (impl_executed.l3 k (a0.length : Int) a0 a1 (fun (y10 : List T_impl_Sent) (y11 : List Int) => some (y10, y11)) k (0 : Int) ([] : List T_impl_Sent) (List.replicate ((6 : Int)).toNat z_i64) (List.replicate ((6 : Int)).toNat z_i64)) else none) else none) else none) else none)
def impl_executed.h3 (k : Nat) {R : Type} (K : Ex → St κ → Option R) (vs : List AV) (bs : List (Blk κ)) : Option R :=
  match vs, bs with
  | [.v (.sl 1), .v (.sl 2), .v (.sl 3), .v (.sl 4), .v (.sl 0), .v (.int .i64 x5), .v (.int .i64 x6)], [qb0, qb1, qb2, qb3, qb4] => (asO 1 false qb0).bind fun xl0 => (asO 5 false qb1).bind fun xl1 => (asO 7 true qb2).bind fun xl2 => (asO 5 true qb3).bind fun xl3 => (asO 5 true qb4).bind fun xl4 => impl_executed.l3 k x5 xl0 xl1 (fun (zl2 : List T_impl_Sent) (zl3 : List Int) => K (.exit 0) (stOf [(6, [some 7]), (8, [some 5])] [.v (.sl 2), .v (.sl 3)] [.rows 1 false xl0, .rows 5 false xl1, .rows 7 true zl2, .rows 5 true zl3])) k x6 xl2 xl3 xl4
  | _, _ => none
def impl_executed.Γ (k : Nat) : Ct κ := assoc [(130, impl_valueOf.C k)]
def impl_executed.LH (k : Nat) : Nat → Option (LHi κ) := assoc [(3, ⟨2, [(1, [some 5]), (6, [some 7]), (7, [some 5]), (8, [some 5]), (15, [some 1]), (16, []), (17, [])], [(6, [some 7]), (8, [some 5])], @impl_executed.h3 k⟩)]
theorem impl_executed.hΓ (k : Nat) : ∀ f g, impl_executed.Γ k f = some g → CSound Tryz.prog f g := G_cons (impl_valueOf.ok k) G_nil
theorem impl_executed.e3 {R : Type} (K : Ex → St κ → Option R) (k : Nat) (x5 : Int) (xl0 : List T_impl_Op) (xl1 : List Int) : ∀ (n : Nat) (x6 : Int) (xl2 : List T_impl_Sent) (xl3 : List Int) (xl4 : List Int), loopN 2 (Code.den ti (impl_executed.Γ k) (impl_executed.LH k) (loopAt Tryz.f102 0)) [(1, [some 5]), (6, [some 7]), (7, [some 5]), (8, [some 5]), (15, [some 1]), (16, []), (17, [])] [(6, [some 7]), (8, [some 5])] K n [.v (.sl 1), .v (.sl 2), .v (.sl 3), .v (.sl 4), .v (.sl 0), .v (.int .i64 x5), .v (.int .i64 x6)] [.rows 1 false xl0, .rows 5 false xl1, .rows 7 true xl2, .rows 5 true xl3, .rows 5 true xl4] = impl_executed.l3 k x5 xl0 xl1 (fun (zl2 : List T_impl_Sent) (zl3 : List Int) => K (.exit 0) (stOf [(6, [some 7]), (8, [some 5])] [.v (.sl 2), .v (.sl 3)] [.rows 1 false xl0, .rows 5 false xl1, .rows 7 true zl2, .rows 5 true zl3])) n x6 xl2 xl3 xl4
  | 0, _, _, _, _ => rfl
  | n + 1, x6, xl2, xl3, xl4 => (show loopN 2 (Code.den ti (impl_executed.Γ k) (impl_executed.LH k) (loopAt Tryz.f102 0)) [(1, [some 5]), (6, [some 7]), (7, [some 5]), (8, [some 5]), (15, [some 1]), (16, []), (17, [])] [(6, [some 7]), (8, [some 5])] K (n + 1) [.v (.sl 1), .v (.sl 2), .v (.sl 3), .v (.sl 4), .v (.sl 0), .v (.int .i64 x5), .v (.int .i64 x6)] [.rows 1 false xl0, .rows 5 false xl1, .rows 7 true xl2, .rows 5 true xl3, .rows 5 true xl4] = impl_executed.L3 k x5 xl0 xl1 (fun (zl2 : List T_impl_Sent) (zl3 : List Int) => K (.exit 0) (stOf [(6, [some 7]), (8, [some 5])] [.v (.sl 2), .v (.sl 3)] [.rows 1 false xl0, .rows 5 false xl1, .rows 7 true zl2, .rows 5 true zl3])) (fun (x6' : Int) (xl2' : List T_impl_Sent) (xl3' : List Int) (xl4' : List Int) => loopN 2 (Code.den ti (impl_executed.Γ k) (impl_executed.LH k) (loopAt Tryz.f102 0)) [(1, [some 5]), (6, [some 7]), (7, [some 5]), (8, [some 5]), (15, [some 1]), (16, []), (17, [])] [(6, [some 7]), (8, [some 5])] K n [.v (.sl 1), .v (.sl 2), .v (.sl 3), .v (.sl 4), .v (.sl 0), .v (.int .i64 x5), .v (.int .i64 x6')] [.rows 1 false xl0, .rows 5 false xl1, .rows 7 true xl2', .rows 5 true xl3', .rows 5 true xl4']) x6 xl2 xl3 xl4 by kernel_rfl).trans (congrArg (fun rec => impl_executed.L3 k x5 xl0 xl1 (fun (zl2 : List T_impl_Sent) (zl3 : List Int) => K (.exit 0) (stOf [(6, [some 7]), (8, [some 5])] [.v (.sl 2), .v (.sl 3)] [.rows 1 false xl0, .rows 5 false xl1, .rows 7 true zl2, .rows 5 true zl3])) rec x6 xl2 xl3 xl4) (funext fun x6' => funext fun xl2' => funext fun xl3' => funext fun xl4' => impl_executed.e3 K k x5 xl0 xl1 n x6' xl2' xl3' xl4'))
theorem impl_executed.q3 (k : Nat) {R : Type} (K : Ex → St κ → Option R) (vs : List AV) (bs : List (Blk κ)) (r : R) (h : impl_executed.h3 k K vs bs = some r) : ∃ n, loopN 2 (Code.den ti (impl_executed.Γ k) (impl_executed.LH k) (loopAt Tryz.f102 0)) [(1, [some 5]), (6, [some 7]), (7, [some 5]), (8, [some 5]), (15, [some 1]), (16, []), (17, [])] [(6, [some 7]), (8, [some 5])] K n vs bs = some r := by
  unfold impl_executed.h3 at h
  split at h
  · obtain ⟨_, rfl, h_1⟩ := asO_bind h
    obtain ⟨_, rfl, h_2⟩ := asO_bind h_1
    obtain ⟨_, rfl, h_3⟩ := asO_bind h_2
    obtain ⟨_, rfl, h_4⟩ := asO_bind h_3
    obtain ⟨_, rfl, h_5⟩ := asO_bind h_4
    exact ⟨k, (impl_executed.e3 K k _ _ _ k _ _ _ _).trans h_5⟩
  · cases h
theorem impl_executed.lok (k : Nat) : LOK ti (impl_executed.Γ k) (impl_executed.LH k) 2 (loopsOf (bodyOf Tryz.f102)) :=
  (show loopsOf (bodyOf Tryz.f102) = [loopAt Tryz.f102 0] by kernel_rfl) ▸ (LOK_cons (g := ⟨2, [(1, [some 5]), (6, [some 7]), (7, [some 5]), (8, [some 5]), (15, [some 1]), (16, []), (17, [])], [(6, [some 7]), (8, [some 5])], @impl_executed.h3 k⟩) (by kernel_rfl) rfl (fun K vs xs r h => impl_executed.q3 k K vs xs r h) (LOK_nil))
def impl_executed.sig : List PSh := [.one (.ro 1), .one (.ro 5)]
def impl_executed.g (y : List T_impl_Sent × List Int) : Ret κ := ⟨.tup [(false, [.sl 2]), (false, [.sl 3])], [], [.rows 7 true y.1, .rows 5 true y.2]⟩
def impl_executed.out (r : Ret κ) : Option (List T_impl_Sent × List Int) :=
  match r with
  | ⟨.tup [(false, [.sl 2]), (false, [.sl 3])], [], [q0, q1]⟩ => (asO 7 true q0).bind fun z0 => (asO 5 true q1).bind fun z1 => some (z0, z1)
  | _ => none
theorem impl_executed.out_ok (r : Ret κ) (y : List T_impl_Sent × List Int) (h : impl_executed.out r = some y) : r = impl_executed.g y := by
  unfold impl_executed.out at h
  split at h
  · obtain ⟨_, rfl, h_1⟩ := asO_bind h
    obtain ⟨_, rfl, h_2⟩ := asO_bind h_1
    obtain rfl := Option.some.inj h_2
    rfl
  · cases h
def impl_executed.body (k : Nat) (vs : List AV) (bs : List (Blk κ)) : Option (Lf κ) :=
  match vs, bs with
  | [.v (.sl 0), .v (.sl 1)], [qb0, qb1] => (asO 1 false qb0).bind fun a0 => (asO 5 false qb1).bind fun a1 => some ⟨List T_impl_Sent × List Int, impl_executed.f k a0 a1, impl_executed.g⟩
  | _, _ => none
def impl_executed.C (k : Nat) : Nat → List AV → AP κ AV := contract impl_executed.sig (impl_executed.body k)
theorem impl_executed.den (k : Nat) (a0 : List T_impl_Op) (a1 : List Int) : Code.den ti (impl_executed.Γ k) (impl_executed.LH k) (bodyOf Tryz.f102) (finK ti Tryz.f102.results.toList [(4, [some 7]), (5, [some 5])] (flags impl_executed.sig).length (rwI (flags impl_executed.sig) 0) impl_executed.out) ⟨envOf (([.v (.sl 0), .v (.sl 1)]).zipIdx.map fun q => (q.2, q.1)), hpOf [.rows 1 false a0, .rows 5 false a1], (flags impl_executed.sig).length⟩ = impl_executed.f k a0 a1 := by kernel_rfl
theorem impl_executed.ok (k : Nat) : CSound Tryz.prog 102 (impl_executed.C k) :=
  csound κ_ok mixed tok (impl_executed.hΓ k) (LH := impl_executed.LH k) (fn := Tryz.f102) (c := bodyOf Tryz.f102) Tryz.func102 rfl Tryz.call102 impl_executed.sig [(4, [some 7]), (5, [some 5])] (impl_executed.body k) (by kernel_rfl) (impl_executed.lok k) (by decide) fun vs bs lf y hl hb hy => by
    unfold impl_executed.body at hb
    split at hb
    · obtain ⟨_, rfl, hb_1⟩ := asO_bind hb
      obtain ⟨_, rfl, hb_2⟩ := asO_bind hb_1
      obtain rfl := Option.some.inj hb_2
      exact ⟨impl_executed.out, impl_executed.out_ok, (impl_executed.den k _ _).trans hy⟩
    · cases hb
end Go.Proofs.YtmjflahlhgibnaaGreatDoor.PFnRolledBack
