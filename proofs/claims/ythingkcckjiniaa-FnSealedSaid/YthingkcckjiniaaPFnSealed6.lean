/- What the functions that the law FnSealed reaches come to; no conditions. -/
import Derived.Test.YthingkcckjiniaaPFnSealed5
set_option linter.unusedVariables false
set_option maxRecDepth 100000
namespace Go.Proofs.Ythingkcckjiniaa.PFnSealed
open Go Go.Eng Go.Proofs
/-! ### impl_Mod -/
def impl_Mod.f (k : Nat) (a0 : Int) (a1 : Int) : Option Int :=
  (impl_InRange.f k a1 (1 : Int) (1000000000000 : Int)).bind fun t1 => (bif !t1 then some (0 : Int) else (bif decide (a1 = 0) then none else (bif decide ((a0.tmod a1) < (0 : Int)) then some (w64 ((a0.tmod a1) + a1)) else some (a0.tmod a1))))
def impl_Mod.Γ (k : Nat) : Ct κ := assoc [(62, impl_InRange.C k)]
def impl_Mod.LH (k : Nat) : Nat → Option (LHi κ) := assoc []
theorem impl_Mod.hΓ (k : Nat) : ∀ f g, impl_Mod.Γ k f = some g → CSound Try.prog f g := G_cons (impl_InRange.ok k) G_nil
theorem impl_Mod.lok (k : Nat) : LOK ti (impl_Mod.Γ k) (impl_Mod.LH k) 0 (loopsOf (bodyOf Try.f151)) :=
  (show loopsOf (bodyOf Try.f151) = [] by kernel_rfl) ▸ LOK_nil
def impl_Mod.sig : List PSh := [.one .sc, .one .sc]
def impl_Mod.g (y : Int) : Ret κ := ⟨.v (.int .i64 y), [], []⟩
def impl_Mod.out (r : Ret κ) : Option Int :=
  match r with
  | ⟨.v (.int .i64 z0), [], []⟩ => some (z0)
  | _ => none
theorem impl_Mod.out_ok (r : Ret κ) (y : Int) (h : impl_Mod.out r = some y) : r = impl_Mod.g y := by
  unfold impl_Mod.out at h
  split at h
  · obtain rfl := Option.some.inj h
    rfl
  · cases h
def impl_Mod.body (k : Nat) (vs : List AV) (bs : List (Blk κ)) : Option (Lf κ) :=
  match vs, bs with
  | [.v (.int .i64 a0), .v (.int .i64 a1)], [] => some ⟨Int, impl_Mod.f k a0 a1, impl_Mod.g⟩
  | _, _ => none
def impl_Mod.C (k : Nat) : Nat → List AV → AP κ AV := contract impl_Mod.sig (impl_Mod.body k)
theorem impl_Mod.den (k : Nat) (a0 : Int) (a1 : Int) : Code.den ti (impl_Mod.Γ k) (impl_Mod.LH k) (bodyOf Try.f151) (finK ti Try.f151.results.toList [] (flags impl_Mod.sig).length (rwI (flags impl_Mod.sig) 0) impl_Mod.out) ⟨envOf (([.v (.int .i64 a0), .v (.int .i64 a1)]).zipIdx.map fun q => (q.2, q.1)), hpOf [], (flags impl_Mod.sig).length⟩ = impl_Mod.f k a0 a1 := by kernel_rfl
theorem impl_Mod.ok (k : Nat) : CSound Try.prog 151 (impl_Mod.C k) :=
  csound κ_ok mixed tok (impl_Mod.hΓ k) (LH := impl_Mod.LH k) (fn := Try.f151) (c := bodyOf Try.f151) Try.func151 rfl Try.call151 impl_Mod.sig [] (impl_Mod.body k) (by kernel_rfl) (impl_Mod.lok k) (by decide) fun vs bs lf y hl hb hy => by
    unfold impl_Mod.body at hb
    split at hb
    · obtain rfl := Option.some.inj hb
      exact ⟨impl_Mod.out, impl_Mod.out_ok, (impl_Mod.den k _ _).trans hy⟩
    · cases hb
/-! ### impl_fold -/
def impl_fold.f (k : Nat) (a0 : Int) (a1 : Int) : Option Int :=
  (impl_Mod.f k a1 (2147483647 : Int)).bind fun t1 => some ((w64 ((w64 ((w64 (a0 * (1000003 : Int))) + t1)) + (13 : Int))).tmod (2147483647 : Int))
def impl_fold.Γ (k : Nat) : Ct κ := assoc [(151, impl_Mod.C k)]
def impl_fold.LH (k : Nat) : Nat → Option (LHi κ) := assoc []
theorem impl_fold.hΓ (k : Nat) : ∀ f g, impl_fold.Γ k f = some g → CSound Try.prog f g := G_cons (impl_Mod.ok k) G_nil
theorem impl_fold.lok (k : Nat) : LOK ti (impl_fold.Γ k) (impl_fold.LH k) 0 (loopsOf (bodyOf Try.f140)) :=
  (show loopsOf (bodyOf Try.f140) = [] by kernel_rfl) ▸ LOK_nil
def impl_fold.sig : List PSh := [.one .sc, .one .sc]
def impl_fold.g (y : Int) : Ret κ := ⟨.v (.int .i64 y), [], []⟩
def impl_fold.out (r : Ret κ) : Option Int :=
  match r with
  | ⟨.v (.int .i64 z0), [], []⟩ => some (z0)
  | _ => none
theorem impl_fold.out_ok (r : Ret κ) (y : Int) (h : impl_fold.out r = some y) : r = impl_fold.g y := by
  unfold impl_fold.out at h
  split at h
  · obtain rfl := Option.some.inj h
    rfl
  · cases h
def impl_fold.body (k : Nat) (vs : List AV) (bs : List (Blk κ)) : Option (Lf κ) :=
  match vs, bs with
  | [.v (.int .i64 a0), .v (.int .i64 a1)], [] => some ⟨Int, impl_fold.f k a0 a1, impl_fold.g⟩
  | _, _ => none
def impl_fold.C (k : Nat) : Nat → List AV → AP κ AV := contract impl_fold.sig (impl_fold.body k)
theorem impl_fold.den (k : Nat) (a0 : Int) (a1 : Int) : Code.den ti (impl_fold.Γ k) (impl_fold.LH k) (bodyOf Try.f140) (finK ti Try.f140.results.toList [] (flags impl_fold.sig).length (rwI (flags impl_fold.sig) 0) impl_fold.out) ⟨envOf (([.v (.int .i64 a0), .v (.int .i64 a1)]).zipIdx.map fun q => (q.2, q.1)), hpOf [], (flags impl_fold.sig).length⟩ = impl_fold.f k a0 a1 := by kernel_rfl
theorem impl_fold.ok (k : Nat) : CSound Try.prog 140 (impl_fold.C k) :=
  csound κ_ok mixed tok (impl_fold.hΓ k) (LH := impl_fold.LH k) (fn := Try.f140) (c := bodyOf Try.f140) Try.func140 rfl Try.call140 impl_fold.sig [] (impl_fold.body k) (by kernel_rfl) (impl_fold.lok k) (by decide) fun vs bs lf y hl hb hy => by
    unfold impl_fold.body at hb
    split at hb
    · obtain rfl := Option.some.inj hb
      exact ⟨impl_fold.out, impl_fold.out_ok, (impl_fold.den k _ _).trans hy⟩
    · cases hb
/-! ### impl_KeyedHash -/
def impl_KeyedHash.L3 {R : Type} (k : Nat) (x0 : Int) (x3 : Int) (xl0 : List Int) (X0 : Int → Option R) (rec : Int → Int → Option R) (x1 : Int) (x4 : Int) : Option R :=
  (bif decide (x4 < x3) then (bif decide (0 ≤ x4) then (bif decide (x4 < (xl0.length : Int)) then (impl_fold.f k x1 (rd_i64 xl0 x4)).bind fun t2 => (rec t2 (w64 (x4 + (1 : Int)))) else none) else none) else (X0 x1))
def impl_KeyedHash.l3 {R : Type} (k : Nat) (x0 : Int) (x3 : Int) (xl0 : List Int) (X0 : Int → Option R) : Nat → Int → Int → Option R
  | 0 => fun _ _ => none
  | n + 1 => impl_KeyedHash.L3 k x0 x3 xl0 X0 (impl_KeyedHash.l3 k x0 x3 xl0 X0 n)
def impl_KeyedHash.f (k : Nat) (a0 : Int) (a1 : List Int) : Option Int :=
  (impl_fold.f k (11 : Int) a0).bind fun t1 => (impl_KeyedHash.l3 k a0 (a1.length : Int) a1 (fun (y3 : Int) => (impl_fold.f k y3 a0).bind fun t4 => some t4) k t1 (0 : Int))
def impl_KeyedHash.h3 (k : Nat) {R : Type} (K : Ex → St κ → Option R) (vs : List AV) (bs : List (Blk κ)) : Option R :=
  match vs, bs with
  | [.v (.int .i64 x0), .v (.int .i64 x1), .v (.sl 0), .v (.int .i64 x3), .v (.int .i64 x4)], [qb0] => (asO 5 false qb0).bind fun xl0 => impl_KeyedHash.l3 k x0 x3 xl0 (fun (z1 : Int) => K (.exit 0) (stOf [(0, []), (5, [])] [.v (.int .i64 x0), .v (.int .i64 z1)] [.rows 5 false xl0])) k x1 x4
  | _, _ => none
def impl_KeyedHash.Γ (k : Nat) : Ct κ := assoc [(140, impl_fold.C k)]
def impl_KeyedHash.LH (k : Nat) : Nat → Option (LHi κ) := assoc [(3, ⟨1, [(0, []), (5, []), (10, [some 5]), (11, []), (12, [])], [(0, []), (5, [])], @impl_KeyedHash.h3 k⟩)]
theorem impl_KeyedHash.hΓ (k : Nat) : ∀ f g, impl_KeyedHash.Γ k f = some g → CSound Try.prog f g := G_cons (impl_fold.ok k) G_nil
theorem impl_KeyedHash.e3 {R : Type} (K : Ex → St κ → Option R) (k : Nat) (x0 : Int) (x3 : Int) (xl0 : List Int) : ∀ (n : Nat) (x1 : Int) (x4 : Int), loopN 1 (Code.den ti (impl_KeyedHash.Γ k) (impl_KeyedHash.LH k) (loopAt Try.f114 0)) [(0, []), (5, []), (10, [some 5]), (11, []), (12, [])] [(0, []), (5, [])] K n [.v (.int .i64 x0), .v (.int .i64 x1), .v (.sl 0), .v (.int .i64 x3), .v (.int .i64 x4)] [.rows 5 false xl0] = impl_KeyedHash.l3 k x0 x3 xl0 (fun (z1 : Int) => K (.exit 0) (stOf [(0, []), (5, [])] [.v (.int .i64 x0), .v (.int .i64 z1)] [.rows 5 false xl0])) n x1 x4
  | 0, _, _ => rfl
  | n + 1, x1, x4 => (show loopN 1 (Code.den ti (impl_KeyedHash.Γ k) (impl_KeyedHash.LH k) (loopAt Try.f114 0)) [(0, []), (5, []), (10, [some 5]), (11, []), (12, [])] [(0, []), (5, [])] K (n + 1) [.v (.int .i64 x0), .v (.int .i64 x1), .v (.sl 0), .v (.int .i64 x3), .v (.int .i64 x4)] [.rows 5 false xl0] = impl_KeyedHash.L3 k x0 x3 xl0 (fun (z1 : Int) => K (.exit 0) (stOf [(0, []), (5, [])] [.v (.int .i64 x0), .v (.int .i64 z1)] [.rows 5 false xl0])) (fun (x1' : Int) (x4' : Int) => loopN 1 (Code.den ti (impl_KeyedHash.Γ k) (impl_KeyedHash.LH k) (loopAt Try.f114 0)) [(0, []), (5, []), (10, [some 5]), (11, []), (12, [])] [(0, []), (5, [])] K n [.v (.int .i64 x0), .v (.int .i64 x1'), .v (.sl 0), .v (.int .i64 x3), .v (.int .i64 x4')] [.rows 5 false xl0]) x1 x4 by kernel_rfl).trans (congrArg (fun rec => impl_KeyedHash.L3 k x0 x3 xl0 (fun (z1 : Int) => K (.exit 0) (stOf [(0, []), (5, [])] [.v (.int .i64 x0), .v (.int .i64 z1)] [.rows 5 false xl0])) rec x1 x4) (funext fun x1' => funext fun x4' => impl_KeyedHash.e3 K k x0 x3 xl0 n x1' x4'))
theorem impl_KeyedHash.q3 (k : Nat) {R : Type} (K : Ex → St κ → Option R) (vs : List AV) (bs : List (Blk κ)) (r : R) (h : impl_KeyedHash.h3 k K vs bs = some r) : ∃ n, loopN 1 (Code.den ti (impl_KeyedHash.Γ k) (impl_KeyedHash.LH k) (loopAt Try.f114 0)) [(0, []), (5, []), (10, [some 5]), (11, []), (12, [])] [(0, []), (5, [])] K n vs bs = some r := by
  unfold impl_KeyedHash.h3 at h
  split at h
  · obtain ⟨_, rfl, h_1⟩ := asO_bind h
    exact ⟨k, (impl_KeyedHash.e3 K k _ _ _ k _ _).trans h_1⟩
  · cases h
theorem impl_KeyedHash.lok (k : Nat) : LOK ti (impl_KeyedHash.Γ k) (impl_KeyedHash.LH k) 1 (loopsOf (bodyOf Try.f114)) :=
  (show loopsOf (bodyOf Try.f114) = [loopAt Try.f114 0] by kernel_rfl) ▸ (LOK_cons (g := ⟨1, [(0, []), (5, []), (10, [some 5]), (11, []), (12, [])], [(0, []), (5, [])], @impl_KeyedHash.h3 k⟩) (by kernel_rfl) rfl (fun K vs xs r h => impl_KeyedHash.q3 k K vs xs r h) (LOK_nil))
def impl_KeyedHash.sig : List PSh := [.one .sc, .one (.ro 5)]
def impl_KeyedHash.g (y : Int) : Ret κ := ⟨.v (.int .i64 y), [], []⟩
def impl_KeyedHash.out (r : Ret κ) : Option Int :=
  match r with
  | ⟨.v (.int .i64 z0), [], []⟩ => some (z0)
  | _ => none
theorem impl_KeyedHash.out_ok (r : Ret κ) (y : Int) (h : impl_KeyedHash.out r = some y) : r = impl_KeyedHash.g y := by
  unfold impl_KeyedHash.out at h
  split at h
  · obtain rfl := Option.some.inj h
    rfl
  · cases h
def impl_KeyedHash.body (k : Nat) (vs : List AV) (bs : List (Blk κ)) : Option (Lf κ) :=
  match vs, bs with
  | [.v (.int .i64 a0), .v (.sl 0)], [qb0] => (asO 5 false qb0).bind fun a1 => some ⟨Int, impl_KeyedHash.f k a0 a1, impl_KeyedHash.g⟩
  | _, _ => none
def impl_KeyedHash.C (k : Nat) : Nat → List AV → AP κ AV := contract impl_KeyedHash.sig (impl_KeyedHash.body k)
theorem impl_KeyedHash.den (k : Nat) (a0 : Int) (a1 : List Int) : Code.den ti (impl_KeyedHash.Γ k) (impl_KeyedHash.LH k) (bodyOf Try.f114) (finK ti Try.f114.results.toList [] (flags impl_KeyedHash.sig).length (rwI (flags impl_KeyedHash.sig) 0) impl_KeyedHash.out) ⟨envOf (([.v (.int .i64 a0), .v (.sl 0)]).zipIdx.map fun q => (q.2, q.1)), hpOf [.rows 5 false a1], (flags impl_KeyedHash.sig).length⟩ = impl_KeyedHash.f k a0 a1 := by kernel_rfl
theorem impl_KeyedHash.ok (k : Nat) : CSound Try.prog 114 (impl_KeyedHash.C k) :=
  csound κ_ok mixed tok (impl_KeyedHash.hΓ k) (LH := impl_KeyedHash.LH k) (fn := Try.f114) (c := bodyOf Try.f114) Try.func114 rfl Try.call114 impl_KeyedHash.sig [] (impl_KeyedHash.body k) (by kernel_rfl) (impl_KeyedHash.lok k) (by decide) fun vs bs lf y hl hb hy => by
    unfold impl_KeyedHash.body at hb
    split at hb
    · obtain ⟨_, rfl, hb_1⟩ := asO_bind hb
      obtain rfl := Option.some.inj hb_1
      exact ⟨impl_KeyedHash.out, impl_KeyedHash.out_ok, (impl_KeyedHash.den k _ _).trans hy⟩
    · cases hb
/-! ### impl_sealOf -/
def impl_sealOf.f (k : Nat) (a0 : Int) (a1_0 : Int) (a1_1 : Int) (a1_2 : Int) (a1_3 : List T_impl_Grant) (a1_4 : List T_impl_Flow) (a1_5 : List T_impl_Rule) (a1_6 : List T_impl_Op) (a1_7 : Int) : Option Int :=
  (impl_IsValidKey.f k a0).bind fun t1 => (bif !t1 then some (0 : Int) else (impl_IsPackage.f k a1_0 a1_1 a1_2 a1_3 a1_4 a1_5 a1_6 a1_7).bind fun t2 => (bif !t2 then some (0 : Int) else (impl_PackageInts.f k a1_0 a1_1 a1_2 a1_3 a1_4 a1_5 a1_6 a1_7).bind fun t3 => (impl_KeyedHash.f k a0 t3).bind fun t4 => some t4))
def impl_sealOf.Γ (k : Nat) : Ct κ := assoc [(33, impl_IsValidKey.C k), (32, impl_IsPackage.C k), (34, impl_PackageInts.C k), (114, impl_KeyedHash.C k)]
def impl_sealOf.LH (k : Nat) : Nat → Option (LHi κ) := assoc []
theorem impl_sealOf.hΓ (k : Nat) : ∀ f g, impl_sealOf.Γ k f = some g → CSound Try.prog f g := G_cons (impl_IsValidKey.ok k) (G_cons (impl_IsPackage.ok k) (G_cons (impl_PackageInts.ok k) (G_cons (impl_KeyedHash.ok k) G_nil)))
theorem impl_sealOf.lok (k : Nat) : LOK ti (impl_sealOf.Γ k) (impl_sealOf.LH k) 4 (loopsOf (bodyOf Try.f63)) :=
  (show loopsOf (bodyOf Try.f63) = [] by kernel_rfl) ▸ LOK_nil
def impl_sealOf.sig : List PSh := [.one .sc, .agg [.sc, .sc, .sc, .ro 2, .ro 3, .ro 4, .ro 1, .sc]]
def impl_sealOf.g (y : Int) : Ret κ := ⟨.v (.int .i64 y), [], []⟩
def impl_sealOf.out (r : Ret κ) : Option Int :=
  match r with
  | ⟨.v (.int .i64 z0), [], []⟩ => some (z0)
  | _ => none
theorem impl_sealOf.out_ok (r : Ret κ) (y : Int) (h : impl_sealOf.out r = some y) : r = impl_sealOf.g y := by
  unfold impl_sealOf.out at h
  split at h
  · obtain rfl := Option.some.inj h
    rfl
  · cases h
def impl_sealOf.body (k : Nat) (vs : List AV) (bs : List (Blk κ)) : Option (Lf κ) :=
  match vs, bs with
  | [.v (.int .i64 a0), .agg [.int .i64 a1_0, .int .i64 a1_1, .int .i64 a1_2, .sl 0, .sl 1, .sl 2, .sl 3, .int .i64 a1_7]], [qb0, qb1, qb2, qb3] => (asO 2 false qb0).bind fun a1_3 => (asO 3 false qb1).bind fun a1_4 => (asO 4 false qb2).bind fun a1_5 => (asO 1 false qb3).bind fun a1_6 => some ⟨Int, impl_sealOf.f k a0 a1_0 a1_1 a1_2 a1_3 a1_4 a1_5 a1_6 a1_7, impl_sealOf.g⟩
  | _, _ => none
def impl_sealOf.C (k : Nat) : Nat → List AV → AP κ AV := contract impl_sealOf.sig (impl_sealOf.body k)
theorem impl_sealOf.den (k : Nat) (a0 : Int) (a1_0 : Int) (a1_1 : Int) (a1_2 : Int) (a1_3 : List T_impl_Grant) (a1_4 : List T_impl_Flow) (a1_5 : List T_impl_Rule) (a1_6 : List T_impl_Op) (a1_7 : Int) : Code.den ti (impl_sealOf.Γ k) (impl_sealOf.LH k) (bodyOf Try.f63) (finK ti Try.f63.results.toList [] (flags impl_sealOf.sig).length (rwI (flags impl_sealOf.sig) 0) impl_sealOf.out) ⟨envOf (([.v (.int .i64 a0), .agg [.int .i64 a1_0, .int .i64 a1_1, .int .i64 a1_2, .sl 0, .sl 1, .sl 2, .sl 3, .int .i64 a1_7]]).zipIdx.map fun q => (q.2, q.1)), hpOf [.rows 2 false a1_3, .rows 3 false a1_4, .rows 4 false a1_5, .rows 1 false a1_6], (flags impl_sealOf.sig).length⟩ = impl_sealOf.f k a0 a1_0 a1_1 a1_2 a1_3 a1_4 a1_5 a1_6 a1_7 := by kernel_rfl
theorem impl_sealOf.ok (k : Nat) : CSound Try.prog 63 (impl_sealOf.C k) :=
  csound κ_ok mixed tok (impl_sealOf.hΓ k) (LH := impl_sealOf.LH k) (fn := Try.f63) (c := bodyOf Try.f63) Try.func63 rfl Try.call63 impl_sealOf.sig [] (impl_sealOf.body k) (by kernel_rfl) (impl_sealOf.lok k) (by decide) fun vs bs lf y hl hb hy => by
    unfold impl_sealOf.body at hb
    split at hb
    · obtain ⟨_, rfl, hb_1⟩ := asO_bind hb
      obtain ⟨_, rfl, hb_2⟩ := asO_bind hb_1
      obtain ⟨_, rfl, hb_3⟩ := asO_bind hb_2
      obtain ⟨_, rfl, hb_4⟩ := asO_bind hb_3
      obtain rfl := Option.some.inj hb_4
      exact ⟨impl_sealOf.out, impl_sealOf.out_ok, (impl_sealOf.den k _ _ _ _ _ _ _ _ _).trans hy⟩
    · cases hb
/-! ### impl_SealPackage -/
def impl_SealPackage.f (k : Nat) (a0 : Int) (a1_0 : Int) (a1_1 : Int) (a1_2 : Int) (a1_3 : List T_impl_Grant) (a1_4 : List T_impl_Flow) (a1_5 : List T_impl_Rule) (a1_6 : List T_impl_Op) (a1_7 : Int) : Option (Int × Int × Int × Int × List T_impl_Grant × List T_impl_Flow × List T_impl_Rule × List T_impl_Op) :=
  (impl_clonePackage.f k a1_0 a1_1 a1_2 a1_3 a1_4 a1_5 a1_6 a1_7).bind fun t1 => (impl_sealOf.f k a0 a1_0 a1_1 a1_2 a1_3 a1_4 a1_5 a1_6 a1_7).bind fun t2 => some (t1.1, t1.2.1, t1.2.2.1, t2, t1.2.2.2.2.1, t1.2.2.2.2.2.1, t1.2.2.2.2.2.2.1, t1.2.2.2.2.2.2.2)
def impl_SealPackage.Γ (k : Nat) : Ct κ := assoc [(61, impl_clonePackage.C k), (63, impl_sealOf.C k)]
def impl_SealPackage.LH (k : Nat) : Nat → Option (LHi κ) := assoc []
theorem impl_SealPackage.hΓ (k : Nat) : ∀ f g, impl_SealPackage.Γ k f = some g → CSound Try.prog f g := G_cons (impl_clonePackage.ok k) (G_cons (impl_sealOf.ok k) G_nil)
theorem impl_SealPackage.lok (k : Nat) : LOK ti (impl_SealPackage.Γ k) (impl_SealPackage.LH k) 4 (loopsOf (bodyOf Try.f31)) :=
  (show loopsOf (bodyOf Try.f31) = [] by kernel_rfl) ▸ LOK_nil
def impl_SealPackage.sig : List PSh := [.one .sc, .agg [.sc, .sc, .sc, .ro 2, .ro 3, .ro 4, .ro 1, .sc]]
def impl_SealPackage.g (y : Int × Int × Int × Int × List T_impl_Grant × List T_impl_Flow × List T_impl_Rule × List T_impl_Op) : Ret κ := ⟨.agg [.int .i64 y.1, .int .i64 y.2.1, .int .i64 y.2.2.1, .sl 4, .sl 5, .sl 6, .sl 7, .int .i64 y.2.2.2.1], [], [.rows 2 true y.2.2.2.2.1, .rows 3 true y.2.2.2.2.2.1, .rows 4 true y.2.2.2.2.2.2.1, .rows 1 true y.2.2.2.2.2.2.2]⟩
def impl_SealPackage.out (r : Ret κ) : Option (Int × Int × Int × Int × List T_impl_Grant × List T_impl_Flow × List T_impl_Rule × List T_impl_Op) :=
  match r with
  | ⟨.agg [.int .i64 z0, .int .i64 z1, .int .i64 z2, .sl 4, .sl 5, .sl 6, .sl 7, .int .i64 z3], [], [q4, q5, q6, q7]⟩ => (asO 2 true q4).bind fun z4 => (asO 3 true q5).bind fun z5 => (asO 4 true q6).bind fun z6 => (asO 1 true q7).bind fun z7 => some (z0, z1, z2, z3, z4, z5, z6, z7)
  | _ => none
theorem impl_SealPackage.out_ok (r : Ret κ) (y : Int × Int × Int × Int × List T_impl_Grant × List T_impl_Flow × List T_impl_Rule × List T_impl_Op) (h : impl_SealPackage.out r = some y) : r = impl_SealPackage.g y := by
  unfold impl_SealPackage.out at h
  split at h
  · obtain ⟨_, rfl, h_1⟩ := asO_bind h
    obtain ⟨_, rfl, h_2⟩ := asO_bind h_1
    obtain ⟨_, rfl, h_3⟩ := asO_bind h_2
    obtain ⟨_, rfl, h_4⟩ := asO_bind h_3
    obtain rfl := Option.some.inj h_4
    rfl
  · cases h
def impl_SealPackage.body (k : Nat) (vs : List AV) (bs : List (Blk κ)) : Option (Lf κ) :=
  match vs, bs with
  | [.v (.int .i64 a0), .agg [.int .i64 a1_0, .int .i64 a1_1, .int .i64 a1_2, .sl 0, .sl 1, .sl 2, .sl 3, .int .i64 a1_7]], [qb0, qb1, qb2, qb3] => (asO 2 false qb0).bind fun a1_3 => (asO 3 false qb1).bind fun a1_4 => (asO 4 false qb2).bind fun a1_5 => (asO 1 false qb3).bind fun a1_6 => some ⟨Int × Int × Int × Int × List T_impl_Grant × List T_impl_Flow × List T_impl_Rule × List T_impl_Op, impl_SealPackage.f k a0 a1_0 a1_1 a1_2 a1_3 a1_4 a1_5 a1_6 a1_7, impl_SealPackage.g⟩
  | _, _ => none
def impl_SealPackage.C (k : Nat) : Nat → List AV → AP κ AV := contract impl_SealPackage.sig (impl_SealPackage.body k)
theorem impl_SealPackage.den (k : Nat) (a0 : Int) (a1_0 : Int) (a1_1 : Int) (a1_2 : Int) (a1_3 : List T_impl_Grant) (a1_4 : List T_impl_Flow) (a1_5 : List T_impl_Rule) (a1_6 : List T_impl_Op) (a1_7 : Int) : Code.den ti (impl_SealPackage.Γ k) (impl_SealPackage.LH k) (bodyOf Try.f31) (finK ti Try.f31.results.toList [(4, [none, none, none, some 2, some 3, some 4, some 1, none])] (flags impl_SealPackage.sig).length (rwI (flags impl_SealPackage.sig) 0) impl_SealPackage.out) ⟨envOf (([.v (.int .i64 a0), .agg [.int .i64 a1_0, .int .i64 a1_1, .int .i64 a1_2, .sl 0, .sl 1, .sl 2, .sl 3, .int .i64 a1_7]]).zipIdx.map fun q => (q.2, q.1)), hpOf [.rows 2 false a1_3, .rows 3 false a1_4, .rows 4 false a1_5, .rows 1 false a1_6], (flags impl_SealPackage.sig).length⟩ = impl_SealPackage.f k a0 a1_0 a1_1 a1_2 a1_3 a1_4 a1_5 a1_6 a1_7 := by kernel_rfl
theorem impl_SealPackage.ok (k : Nat) : CSound Try.prog 31 (impl_SealPackage.C k) :=
  csound κ_ok mixed tok (impl_SealPackage.hΓ k) (LH := impl_SealPackage.LH k) (fn := Try.f31) (c := bodyOf Try.f31) Try.func31 rfl Try.call31 impl_SealPackage.sig [(4, [none, none, none, some 2, some 3, some 4, some 1, none])] (impl_SealPackage.body k) (by kernel_rfl) (impl_SealPackage.lok k) (by decide) fun vs bs lf y hl hb hy => by
    unfold impl_SealPackage.body at hb
    split at hb
    · obtain ⟨_, rfl, hb_1⟩ := asO_bind hb
      obtain ⟨_, rfl, hb_2⟩ := asO_bind hb_1
      obtain ⟨_, rfl, hb_3⟩ := asO_bind hb_2
      obtain ⟨_, rfl, hb_4⟩ := asO_bind hb_3
      obtain rfl := Option.some.inj hb_4
      exact ⟨impl_SealPackage.out, impl_SealPackage.out_ok, (impl_SealPackage.den k _ _ _ _ _ _ _ _ _).trans hy⟩
    · cases hb
/-! ### impl_IsSealed -/
def impl_IsSealed.f (k : Nat) (a0 : Int) (a1_0 : Int) (a1_1 : Int) (a1_2 : Int) (a1_3 : List T_impl_Grant) (a1_4 : List T_impl_Flow) (a1_5 : List T_impl_Rule) (a1_6 : List T_impl_Op) (a1_7 : Int) : Option Bool :=
  (impl_IsPackage.f k a1_0 a1_1 a1_2 a1_3 a1_4 a1_5 a1_6 a1_7).bind fun t1 => (bif t1 then (impl_IsValidKey.f k a0).bind fun t2 => (bif t2 then (impl_sealOf.f k a0 a1_0 a1_1 a1_2 a1_3 a1_4 a1_5 a1_6 a1_7).bind fun t3 => some (a1_7 == t3) else some false) else some false)
def impl_IsSealed.Γ (k : Nat) : Ct κ := assoc [(32, impl_IsPackage.C k), (33, impl_IsValidKey.C k), (63, impl_sealOf.C k)]
def impl_IsSealed.LH (k : Nat) : Nat → Option (LHi κ) := assoc []
theorem impl_IsSealed.hΓ (k : Nat) : ∀ f g, impl_IsSealed.Γ k f = some g → CSound Try.prog f g := G_cons (impl_IsPackage.ok k) (G_cons (impl_IsValidKey.ok k) (G_cons (impl_sealOf.ok k) G_nil))
theorem impl_IsSealed.lok (k : Nat) : LOK ti (impl_IsSealed.Γ k) (impl_IsSealed.LH k) 4 (loopsOf (bodyOf Try.f15)) :=
  (show loopsOf (bodyOf Try.f15) = [] by kernel_rfl) ▸ LOK_nil
def impl_IsSealed.sig : List PSh := [.one .sc, .agg [.sc, .sc, .sc, .ro 2, .ro 3, .ro 4, .ro 1, .sc]]
def impl_IsSealed.g (y : Bool) : Ret κ := ⟨.v (.bool y), [], []⟩
def impl_IsSealed.out (r : Ret κ) : Option Bool :=
  match r with
  | ⟨.v (.bool z0), [], []⟩ => some (z0)
  | _ => none
theorem impl_IsSealed.out_ok (r : Ret κ) (y : Bool) (h : impl_IsSealed.out r = some y) : r = impl_IsSealed.g y := by
  unfold impl_IsSealed.out at h
  split at h
  · obtain rfl := Option.some.inj h
    rfl
  · cases h
def impl_IsSealed.body (k : Nat) (vs : List AV) (bs : List (Blk κ)) : Option (Lf κ) :=
  match vs, bs with
  | [.v (.int .i64 a0), .agg [.int .i64 a1_0, .int .i64 a1_1, .int .i64 a1_2, .sl 0, .sl 1, .sl 2, .sl 3, .int .i64 a1_7]], [qb0, qb1, qb2, qb3] => (asO 2 false qb0).bind fun a1_3 => (asO 3 false qb1).bind fun a1_4 => (asO 4 false qb2).bind fun a1_5 => (asO 1 false qb3).bind fun a1_6 => some ⟨Bool, impl_IsSealed.f k a0 a1_0 a1_1 a1_2 a1_3 a1_4 a1_5 a1_6 a1_7, impl_IsSealed.g⟩
  | _, _ => none
def impl_IsSealed.C (k : Nat) : Nat → List AV → AP κ AV := contract impl_IsSealed.sig (impl_IsSealed.body k)
theorem impl_IsSealed.den (k : Nat) (a0 : Int) (a1_0 : Int) (a1_1 : Int) (a1_2 : Int) (a1_3 : List T_impl_Grant) (a1_4 : List T_impl_Flow) (a1_5 : List T_impl_Rule) (a1_6 : List T_impl_Op) (a1_7 : Int) : Code.den ti (impl_IsSealed.Γ k) (impl_IsSealed.LH k) (bodyOf Try.f15) (finK ti Try.f15.results.toList [] (flags impl_IsSealed.sig).length (rwI (flags impl_IsSealed.sig) 0) impl_IsSealed.out) ⟨envOf (([.v (.int .i64 a0), .agg [.int .i64 a1_0, .int .i64 a1_1, .int .i64 a1_2, .sl 0, .sl 1, .sl 2, .sl 3, .int .i64 a1_7]]).zipIdx.map fun q => (q.2, q.1)), hpOf [.rows 2 false a1_3, .rows 3 false a1_4, .rows 4 false a1_5, .rows 1 false a1_6], (flags impl_IsSealed.sig).length⟩ = impl_IsSealed.f k a0 a1_0 a1_1 a1_2 a1_3 a1_4 a1_5 a1_6 a1_7 := by kernel_rfl
theorem impl_IsSealed.ok (k : Nat) : CSound Try.prog 15 (impl_IsSealed.C k) :=
  csound κ_ok mixed tok (impl_IsSealed.hΓ k) (LH := impl_IsSealed.LH k) (fn := Try.f15) (c := bodyOf Try.f15) Try.func15 rfl Try.call15 impl_IsSealed.sig [] (impl_IsSealed.body k) (by kernel_rfl) (impl_IsSealed.lok k) (by decide) fun vs bs lf y hl hb hy => by
    unfold impl_IsSealed.body at hb
    split at hb
    · obtain ⟨_, rfl, hb_1⟩ := asO_bind hb
      obtain ⟨_, rfl, hb_2⟩ := asO_bind hb_1
      obtain ⟨_, rfl, hb_3⟩ := asO_bind hb_2
      obtain ⟨_, rfl, hb_4⟩ := asO_bind hb_3
      obtain rfl := Option.some.inj hb_4
      exact ⟨impl_IsSealed.out, impl_IsSealed.out_ok, (impl_IsSealed.den k _ _ _ _ _ _ _ _ _).trans hy⟩
    · cases hb
/-! ### spec_DrawEqualPackages -/
def spec_DrawEqualPackages.f (k : Nat) (a0 : List Int) : Option (Int × Int × Int × Int × Int × Int × Int × Int × List T_impl_Grant × List T_impl_Flow × List T_impl_Rule × List T_impl_Op × List T_impl_Grant × List T_impl_Flow × List T_impl_Rule × List T_impl_Op) :=
  (spec_l1New.f k a0).bind fun t1 => (spec_l26Any.f k a0 t1.1 t1.2).bind fun t2 => (spec_l1Once.f k a0 t2.2.2.2.2.1 t2.2.2.2.2.2.1 (2 : Int)).bind fun t3 => (bif t3.1 then (spec_l26Copy.f k t2.1 t2.2.1 t2.2.2.1 t2.2.2.2.2.2.2.1 t2.2.2.2.2.2.2.2.1 t2.2.2.2.2.2.2.2.2.1 t2.2.2.2.2.2.2.2.2.2 t2.2.2.2.1).bind fun t4 => some (t2.1, t2.2.1, t2.2.2.1, t2.2.2.2.1, t4.1, t4.2.1, t4.2.2.1, t4.2.2.2.1, t2.2.2.2.2.2.2.1, t2.2.2.2.2.2.2.2.1, t2.2.2.2.2.2.2.2.2.1, t2.2.2.2.2.2.2.2.2.2, t4.2.2.2.2.1, t4.2.2.2.2.2.1, t4.2.2.2.2.2.2.1, t4.2.2.2.2.2.2.2) else (spec_l26Any.f k a0 t3.2.1 t3.2.2).bind fun t5 => some (t2.1, t2.2.1, t2.2.2.1, t2.2.2.2.1, t5.1, t5.2.1, t5.2.2.1, t5.2.2.2.1, t2.2.2.2.2.2.2.1, t2.2.2.2.2.2.2.2.1, t2.2.2.2.2.2.2.2.2.1, t2.2.2.2.2.2.2.2.2.2, t5.2.2.2.2.2.2.1, t5.2.2.2.2.2.2.2.1, t5.2.2.2.2.2.2.2.2.1, t5.2.2.2.2.2.2.2.2.2))
def spec_DrawEqualPackages.Γ (k : Nat) : Ct κ := assoc [(54, spec_l1New.C k), (86, spec_l26Any.C k), (58, spec_l1Once.C k), (92, spec_l26Copy.C k)]
def spec_DrawEqualPackages.LH (k : Nat) : Nat → Option (LHi κ) := assoc []
theorem spec_DrawEqualPackages.hΓ (k : Nat) : ∀ f g, spec_DrawEqualPackages.Γ k f = some g → CSound Try.prog f g := G_cons (spec_l1New.ok k) (G_cons (spec_l26Any.ok k) (G_cons (spec_l1Once.ok k) (G_cons (spec_l26Copy.ok k) G_nil)))
theorem spec_DrawEqualPackages.lok (k : Nat) : LOK ti (spec_DrawEqualPackages.Γ k) (spec_DrawEqualPackages.LH k) 1 (loopsOf (bodyOf Try.f35)) :=
  (show loopsOf (bodyOf Try.f35) = [] by kernel_rfl) ▸ LOK_nil
def spec_DrawEqualPackages.sig : List PSh := [.one (.ro 0)]
def spec_DrawEqualPackages.g (y : Int × Int × Int × Int × Int × Int × Int × Int × List T_impl_Grant × List T_impl_Flow × List T_impl_Rule × List T_impl_Op × List T_impl_Grant × List T_impl_Flow × List T_impl_Rule × List T_impl_Op) : Ret κ := ⟨.tup [(true, [.int .i64 y.1, .int .i64 y.2.1, .int .i64 y.2.2.1, .sl 1, .sl 2, .sl 3, .sl 4, .int .i64 y.2.2.2.1]), (true, [.int .i64 y.2.2.2.2.1, .int .i64 y.2.2.2.2.2.1, .int .i64 y.2.2.2.2.2.2.1, .sl 5, .sl 6, .sl 7, .sl 8, .int .i64 y.2.2.2.2.2.2.2.1])], [], [.rows 2 true y.2.2.2.2.2.2.2.2.1, .rows 3 true y.2.2.2.2.2.2.2.2.2.1, .rows 4 true y.2.2.2.2.2.2.2.2.2.2.1, .rows 1 true y.2.2.2.2.2.2.2.2.2.2.2.1, .rows 2 true y.2.2.2.2.2.2.2.2.2.2.2.2.1, .rows 3 true y.2.2.2.2.2.2.2.2.2.2.2.2.2.1, .rows 4 true y.2.2.2.2.2.2.2.2.2.2.2.2.2.2.1, .rows 1 true y.2.2.2.2.2.2.2.2.2.2.2.2.2.2.2]⟩
def spec_DrawEqualPackages.out (r : Ret κ) : Option (Int × Int × Int × Int × Int × Int × Int × Int × List T_impl_Grant × List T_impl_Flow × List T_impl_Rule × List T_impl_Op × List T_impl_Grant × List T_impl_Flow × List T_impl_Rule × List T_impl_Op) :=
  match r with
  | ⟨.tup [(true, [.int .i64 z0, .int .i64 z1, .int .i64 z2, .sl 1, .sl 2, .sl 3, .sl 4, .int .i64 z3]), (true, [.int .i64 z4, .int .i64 z5, .int .i64 z6, .sl 5, .sl 6, .sl 7, .sl 8, .int .i64 z7])], [], [q8, q9, q10, q11, q12, q13, q14, q15]⟩ => (asO 2 true q8).bind fun z8 => (asO 3 true q9).bind fun z9 => (asO 4 true q10).bind fun z10 => (asO 1 true q11).bind fun z11 => (asO 2 true q12).bind fun z12 => (asO 3 true q13).bind fun z13 => (asO 4 true q14).bind fun z14 => (asO 1 true q15).bind fun z15 => some (z0, z1, z2, z3, z4, z5, z6, z7, z8, z9, z10, z11, z12, z13, z14, z15)
  | _ => none
theorem spec_DrawEqualPackages.out_ok (r : Ret κ) (y : Int × Int × Int × Int × Int × Int × Int × Int × List T_impl_Grant × List T_impl_Flow × List T_impl_Rule × List T_impl_Op × List T_impl_Grant × List T_impl_Flow × List T_impl_Rule × List T_impl_Op) (h : spec_DrawEqualPackages.out r = some y) : r = spec_DrawEqualPackages.g y := by
  unfold spec_DrawEqualPackages.out at h
  split at h
  · obtain ⟨_, rfl, h_1⟩ := asO_bind h
    obtain ⟨_, rfl, h_2⟩ := asO_bind h_1
    obtain ⟨_, rfl, h_3⟩ := asO_bind h_2
    obtain ⟨_, rfl, h_4⟩ := asO_bind h_3
    obtain ⟨_, rfl, h_5⟩ := asO_bind h_4
    obtain ⟨_, rfl, h_6⟩ := asO_bind h_5
    obtain ⟨_, rfl, h_7⟩ := asO_bind h_6
    obtain ⟨_, rfl, h_8⟩ := asO_bind h_7
    obtain rfl := Option.some.inj h_8
    rfl
  · cases h
def spec_DrawEqualPackages.body (k : Nat) (vs : List AV) (bs : List (Blk κ)) : Option (Lf κ) :=
  match vs, bs with
  | [.v (.sl 0)], [qb0] => (asO 0 false qb0).bind fun a0 => some ⟨Int × Int × Int × Int × Int × Int × Int × Int × List T_impl_Grant × List T_impl_Flow × List T_impl_Rule × List T_impl_Op × List T_impl_Grant × List T_impl_Flow × List T_impl_Rule × List T_impl_Op, spec_DrawEqualPackages.f k a0, spec_DrawEqualPackages.g⟩
  | _, _ => none
def spec_DrawEqualPackages.C (k : Nat) : Nat → List AV → AP κ AV := contract spec_DrawEqualPackages.sig (spec_DrawEqualPackages.body k)
theorem spec_DrawEqualPackages.den (k : Nat) (a0 : List Int) : Code.den ti (spec_DrawEqualPackages.Γ k) (spec_DrawEqualPackages.LH k) (bodyOf Try.f35) (finK ti Try.f35.results.toList [(2, [none, none, none, some 2, some 3, some 4, some 1, none]), (3, [none, none, none, some 2, some 3, some 4, some 1, none])] (flags spec_DrawEqualPackages.sig).length (rwI (flags spec_DrawEqualPackages.sig) 0) spec_DrawEqualPackages.out) ⟨envOf (([.v (.sl 0)]).zipIdx.map fun q => (q.2, q.1)), hpOf [.rows 0 false a0], (flags spec_DrawEqualPackages.sig).length⟩ = spec_DrawEqualPackages.f k a0 := by kernel_rfl
theorem spec_DrawEqualPackages.ok (k : Nat) : CSound Try.prog 35 (spec_DrawEqualPackages.C k) :=
  csound κ_ok mixed tok (spec_DrawEqualPackages.hΓ k) (LH := spec_DrawEqualPackages.LH k) (fn := Try.f35) (c := bodyOf Try.f35) Try.func35 rfl Try.call35 spec_DrawEqualPackages.sig [(2, [none, none, none, some 2, some 3, some 4, some 1, none]), (3, [none, none, none, some 2, some 3, some 4, some 1, none])] (spec_DrawEqualPackages.body k) (by kernel_rfl) (spec_DrawEqualPackages.lok k) (by decide) fun vs bs lf y hl hb hy => by
    unfold spec_DrawEqualPackages.body at hb
    split at hb
    · obtain ⟨_, rfl, hb_1⟩ := asO_bind hb
      obtain rfl := Option.some.inj hb_1
      exact ⟨spec_DrawEqualPackages.out, spec_DrawEqualPackages.out_ok, (spec_DrawEqualPackages.den k _).trans hy⟩
    · cases hb
/-! ### slices_Equal_Grant -/
def slices_Equal_Grant.L4 {R : Type} (k : Nat) (x2 : Int) (xl0 : List T_impl_Grant) (xl1 : List T_impl_Grant) (X0 : Bool → Option R) (X1 : Unit → Option R) (rec : Int → Option R) (x3 : Int) : Option R :=
  (bif decide (x3 < x2) then (bif decide (0 ≤ x3) then (bif decide (x3 < (xl0.length : Int)) then (bif decide (0 ≤ x3) then (bif decide (x3 < (xl1.length : Int)) then (bif !((((rd_impl_Grant xl0 x3).f0) == ((rd_impl_Grant xl1 x3).f0)) && ((((rd_impl_Grant xl0 x3).f1.f0) == ((rd_impl_Grant xl1 x3).f1.f0)) && ((((rd_impl_Grant xl0 x3).f1.f1) == ((rd_impl_Grant xl1 x3).f1.f1)) && ((((rd_impl_Grant xl0 x3).f2) == ((rd_impl_Grant xl1 x3).f2)) && ((((rd_impl_Grant xl0 x3).f3) == ((rd_impl_Grant xl1 x3).f3)) && ((((rd_impl_Grant xl0 x3).f4) == ((rd_impl_Grant xl1 x3).f4)) && (((rd_impl_Grant xl0 x3).f5) == ((rd_impl_Grant xl1 x3).f5)))))))) then (X0 false) else (rec (w64 (x3 + (1 : Int))))) else none) else none) else none) else none) else (X1 ()))
def slices_Equal_Grant.l4 {R : Type} (k : Nat) (x2 : Int) (xl0 : List T_impl_Grant) (xl1 : List T_impl_Grant) (X0 : Bool → Option R) (X1 : Unit → Option R) : Nat → Int → Option R
  | 0 => fun _ => none
  | n + 1 => slices_Equal_Grant.L4 k x2 xl0 xl1 X0 X1 (slices_Equal_Grant.l4 k x2 xl0 xl1 X0 X1 n)
def slices_Equal_Grant.f (k : Nat) (a0 : List T_impl_Grant) (a1 : List T_impl_Grant) : Option Bool :=
  (bif ((a0.length : Int) != (a1.length : Int)) then some false else (slices_Equal_Grant.l4 k (a0.length : Int) a0 a1 (fun (y1 : Bool) => some y1) (fun (_ : Unit) => some true) k (0 : Int)))
def slices_Equal_Grant.h4 (k : Nat) {R : Type} (K : Ex → St κ → Option R) (vs : List AV) (bs : List (Blk κ)) : Option R :=
  match vs, bs with
  | [.v (.sl 0), .v (.sl 1), .v (.int .i64 x2), .v (.int .i64 x3)], [qb0, qb1] => (asO 2 false qb0).bind fun xl0 => (asO 2 false qb1).bind fun xl1 => slices_Equal_Grant.l4 k x2 xl0 xl1 (fun (z0 : Bool) => K .ret (stOf [(4, [])] [.v (.bool z0)] [.rows 2 false xl0, .rows 2 false xl1])) (fun (_ : Unit) => K (.exit 0) (stOf [(4, [])] [.v .any] [.rows 2 false xl0, .rows 2 false xl1])) k x3
  | _, _ => none
def slices_Equal_Grant.Γ (k : Nat) : Ct κ := assoc []
def slices_Equal_Grant.LH (k : Nat) : Nat → Option (LHi κ) := assoc [(4, ⟨2, [(0, [some 2]), (1, [some 2]), (12, []), (13, [])], [(4, [])], @slices_Equal_Grant.h4 k⟩)]
theorem slices_Equal_Grant.hΓ (k : Nat) : ∀ f g, slices_Equal_Grant.Γ k f = some g → CSound Try.prog f g := G_nil
theorem slices_Equal_Grant.e4 {R : Type} (K : Ex → St κ → Option R) (k : Nat) (x2 : Int) (xl0 : List T_impl_Grant) (xl1 : List T_impl_Grant) : ∀ (n : Nat) (x3 : Int), loopN 2 (Code.den ti (slices_Equal_Grant.Γ k) (slices_Equal_Grant.LH k) (loopAt Try.f64 0)) [(0, [some 2]), (1, [some 2]), (12, []), (13, [])] [(4, [])] K n [.v (.sl 0), .v (.sl 1), .v (.int .i64 x2), .v (.int .i64 x3)] [.rows 2 false xl0, .rows 2 false xl1] = slices_Equal_Grant.l4 k x2 xl0 xl1 (fun (z0 : Bool) => K .ret (stOf [(4, [])] [.v (.bool z0)] [.rows 2 false xl0, .rows 2 false xl1])) (fun (_ : Unit) => K (.exit 0) (stOf [(4, [])] [.v .any] [.rows 2 false xl0, .rows 2 false xl1])) n x3
  | 0, _ => rfl
  | n + 1, x3 => (show loopN 2 (Code.den ti (slices_Equal_Grant.Γ k) (slices_Equal_Grant.LH k) (loopAt Try.f64 0)) [(0, [some 2]), (1, [some 2]), (12, []), (13, [])] [(4, [])] K (n + 1) [.v (.sl 0), .v (.sl 1), .v (.int .i64 x2), .v (.int .i64 x3)] [.rows 2 false xl0, .rows 2 false xl1] = slices_Equal_Grant.L4 k x2 xl0 xl1 (fun (z0 : Bool) => K .ret (stOf [(4, [])] [.v (.bool z0)] [.rows 2 false xl0, .rows 2 false xl1])) (fun (_ : Unit) => K (.exit 0) (stOf [(4, [])] [.v .any] [.rows 2 false xl0, .rows 2 false xl1])) (fun (x3' : Int) => loopN 2 (Code.den ti (slices_Equal_Grant.Γ k) (slices_Equal_Grant.LH k) (loopAt Try.f64 0)) [(0, [some 2]), (1, [some 2]), (12, []), (13, [])] [(4, [])] K n [.v (.sl 0), .v (.sl 1), .v (.int .i64 x2), .v (.int .i64 x3')] [.rows 2 false xl0, .rows 2 false xl1]) x3 by kernel_rfl).trans (congrArg (fun rec => slices_Equal_Grant.L4 k x2 xl0 xl1 (fun (z0 : Bool) => K .ret (stOf [(4, [])] [.v (.bool z0)] [.rows 2 false xl0, .rows 2 false xl1])) (fun (_ : Unit) => K (.exit 0) (stOf [(4, [])] [.v .any] [.rows 2 false xl0, .rows 2 false xl1])) rec x3) (funext fun x3' => slices_Equal_Grant.e4 K k x2 xl0 xl1 n x3'))
theorem slices_Equal_Grant.q4 (k : Nat) {R : Type} (K : Ex → St κ → Option R) (vs : List AV) (bs : List (Blk κ)) (r : R) (h : slices_Equal_Grant.h4 k K vs bs = some r) : ∃ n, loopN 2 (Code.den ti (slices_Equal_Grant.Γ k) (slices_Equal_Grant.LH k) (loopAt Try.f64 0)) [(0, [some 2]), (1, [some 2]), (12, []), (13, [])] [(4, [])] K n vs bs = some r := by
  unfold slices_Equal_Grant.h4 at h
  split at h
  · obtain ⟨_, rfl, h_1⟩ := asO_bind h
    obtain ⟨_, rfl, h_2⟩ := asO_bind h_1
    exact ⟨k, (slices_Equal_Grant.e4 K k _ _ _ k _).trans h_2⟩
  · cases h
theorem slices_Equal_Grant.lok (k : Nat) : LOK ti (slices_Equal_Grant.Γ k) (slices_Equal_Grant.LH k) 2 (loopsOf (bodyOf Try.f64)) :=
  (show loopsOf (bodyOf Try.f64) = [loopAt Try.f64 0] by kernel_rfl) ▸ (LOK_cons (g := ⟨2, [(0, [some 2]), (1, [some 2]), (12, []), (13, [])], [(4, [])], @slices_Equal_Grant.h4 k⟩) (by kernel_rfl) rfl (fun K vs xs r h => slices_Equal_Grant.q4 k K vs xs r h) (LOK_nil))
def slices_Equal_Grant.sig : List PSh := [.one (.ro 2), .one (.ro 2)]
def slices_Equal_Grant.g (y : Bool) : Ret κ := ⟨.v (.bool y), [], []⟩
def slices_Equal_Grant.out (r : Ret κ) : Option Bool :=
  match r with
  | ⟨.v (.bool z0), [], []⟩ => some (z0)
  | _ => none
theorem slices_Equal_Grant.out_ok (r : Ret κ) (y : Bool) (h : slices_Equal_Grant.out r = some y) : r = slices_Equal_Grant.g y := by
  unfold slices_Equal_Grant.out at h
  split at h
  · obtain rfl := Option.some.inj h
    rfl
  · cases h
def slices_Equal_Grant.body (k : Nat) (vs : List AV) (bs : List (Blk κ)) : Option (Lf κ) :=
  match vs, bs with
  | [.v (.sl 0), .v (.sl 1)], [qb0, qb1] => (asO 2 false qb0).bind fun a0 => (asO 2 false qb1).bind fun a1 => some ⟨Bool, slices_Equal_Grant.f k a0 a1, slices_Equal_Grant.g⟩
  | _, _ => none
def slices_Equal_Grant.C (k : Nat) : Nat → List AV → AP κ AV := contract slices_Equal_Grant.sig (slices_Equal_Grant.body k)
theorem slices_Equal_Grant.den (k : Nat) (a0 : List T_impl_Grant) (a1 : List T_impl_Grant) : Code.den ti (slices_Equal_Grant.Γ k) (slices_Equal_Grant.LH k) (bodyOf Try.f64) (finK ti Try.f64.results.toList [] (flags slices_Equal_Grant.sig).length (rwI (flags slices_Equal_Grant.sig) 0) slices_Equal_Grant.out) ⟨envOf (([.v (.sl 0), .v (.sl 1)]).zipIdx.map fun q => (q.2, q.1)), hpOf [.rows 2 false a0, .rows 2 false a1], (flags slices_Equal_Grant.sig).length⟩ = slices_Equal_Grant.f k a0 a1 := by kernel_rfl
theorem slices_Equal_Grant.ok (k : Nat) : CSound Try.prog 64 (slices_Equal_Grant.C k) :=
  csound κ_ok mixed tok (slices_Equal_Grant.hΓ k) (LH := slices_Equal_Grant.LH k) (fn := Try.f64) (c := bodyOf Try.f64) Try.func64 rfl Try.call64 slices_Equal_Grant.sig [] (slices_Equal_Grant.body k) (by kernel_rfl) (slices_Equal_Grant.lok k) (by decide) fun vs bs lf y hl hb hy => by
    unfold slices_Equal_Grant.body at hb
    split at hb
    · obtain ⟨_, rfl, hb_1⟩ := asO_bind hb
      obtain ⟨_, rfl, hb_2⟩ := asO_bind hb_1
      obtain rfl := Option.some.inj hb_2
      exact ⟨slices_Equal_Grant.out, slices_Equal_Grant.out_ok, (slices_Equal_Grant.den k _ _).trans hy⟩
    · cases hb
/-! ### slices_Equal_Flow -/
def slices_Equal_Flow.L4 {R : Type} (k : Nat) (x2 : Int) (xl0 : List T_impl_Flow) (xl1 : List T_impl_Flow) (X0 : Bool → Option R) (X1 : Unit → Option R) (rec : Int → Option R) (x3 : Int) : Option R :=
  (bif decide (x3 < x2) then (bif decide (0 ≤ x3) then (bif decide (x3 < (xl0.length : Int)) then (bif decide (0 ≤ x3) then (bif decide (x3 < (xl1.length : Int)) then (bif !((((rd_impl_Flow xl0 x3).f0) == ((rd_impl_Flow xl1 x3).f0)) && ((((rd_impl_Flow xl0 x3).f1) == ((rd_impl_Flow xl1 x3).f1)) && (((rd_impl_Flow xl0 x3).f2) == ((rd_impl_Flow xl1 x3).f2)))) then (X0 false) else (rec (w64 (x3 + (1 : Int))))) else none) else none) else none) else none) else (X1 ()))
def slices_Equal_Flow.l4 {R : Type} (k : Nat) (x2 : Int) (xl0 : List T_impl_Flow) (xl1 : List T_impl_Flow) (X0 : Bool → Option R) (X1 : Unit → Option R) : Nat → Int → Option R
  | 0 => fun _ => none
  | n + 1 => slices_Equal_Flow.L4 k x2 xl0 xl1 X0 X1 (slices_Equal_Flow.l4 k x2 xl0 xl1 X0 X1 n)
def slices_Equal_Flow.f (k : Nat) (a0 : List T_impl_Flow) (a1 : List T_impl_Flow) : Option Bool :=
  (bif ((a0.length : Int) != (a1.length : Int)) then some false else (slices_Equal_Flow.l4 k (a0.length : Int) a0 a1 (fun (y1 : Bool) => some y1) (fun (_ : Unit) => some true) k (0 : Int)))
def slices_Equal_Flow.h4 (k : Nat) {R : Type} (K : Ex → St κ → Option R) (vs : List AV) (bs : List (Blk κ)) : Option R :=
  match vs, bs with
  | [.v (.sl 0), .v (.sl 1), .v (.int .i64 x2), .v (.int .i64 x3)], [qb0, qb1] => (asO 3 false qb0).bind fun xl0 => (asO 3 false qb1).bind fun xl1 => slices_Equal_Flow.l4 k x2 xl0 xl1 (fun (z0 : Bool) => K .ret (stOf [(4, [])] [.v (.bool z0)] [.rows 3 false xl0, .rows 3 false xl1])) (fun (_ : Unit) => K (.exit 0) (stOf [(4, [])] [.v .any] [.rows 3 false xl0, .rows 3 false xl1])) k x3
  | _, _ => none
def slices_Equal_Flow.Γ (k : Nat) : Ct κ := assoc []
def slices_Equal_Flow.LH (k : Nat) : Nat → Option (LHi κ) := assoc [(4, ⟨2, [(0, [some 3]), (1, [some 3]), (12, []), (13, [])], [(4, [])], @slices_Equal_Flow.h4 k⟩)]
theorem slices_Equal_Flow.hΓ (k : Nat) : ∀ f g, slices_Equal_Flow.Γ k f = some g → CSound Try.prog f g := G_nil
theorem slices_Equal_Flow.e4 {R : Type} (K : Ex → St κ → Option R) (k : Nat) (x2 : Int) (xl0 : List T_impl_Flow) (xl1 : List T_impl_Flow) : ∀ (n : Nat) (x3 : Int), loopN 2 (Code.den ti (slices_Equal_Flow.Γ k) (slices_Equal_Flow.LH k) (loopAt Try.f65 0)) [(0, [some 3]), (1, [some 3]), (12, []), (13, [])] [(4, [])] K n [.v (.sl 0), .v (.sl 1), .v (.int .i64 x2), .v (.int .i64 x3)] [.rows 3 false xl0, .rows 3 false xl1] = slices_Equal_Flow.l4 k x2 xl0 xl1 (fun (z0 : Bool) => K .ret (stOf [(4, [])] [.v (.bool z0)] [.rows 3 false xl0, .rows 3 false xl1])) (fun (_ : Unit) => K (.exit 0) (stOf [(4, [])] [.v .any] [.rows 3 false xl0, .rows 3 false xl1])) n x3
  | 0, _ => rfl
  | n + 1, x3 => (show loopN 2 (Code.den ti (slices_Equal_Flow.Γ k) (slices_Equal_Flow.LH k) (loopAt Try.f65 0)) [(0, [some 3]), (1, [some 3]), (12, []), (13, [])] [(4, [])] K (n + 1) [.v (.sl 0), .v (.sl 1), .v (.int .i64 x2), .v (.int .i64 x3)] [.rows 3 false xl0, .rows 3 false xl1] = slices_Equal_Flow.L4 k x2 xl0 xl1 (fun (z0 : Bool) => K .ret (stOf [(4, [])] [.v (.bool z0)] [.rows 3 false xl0, .rows 3 false xl1])) (fun (_ : Unit) => K (.exit 0) (stOf [(4, [])] [.v .any] [.rows 3 false xl0, .rows 3 false xl1])) (fun (x3' : Int) => loopN 2 (Code.den ti (slices_Equal_Flow.Γ k) (slices_Equal_Flow.LH k) (loopAt Try.f65 0)) [(0, [some 3]), (1, [some 3]), (12, []), (13, [])] [(4, [])] K n [.v (.sl 0), .v (.sl 1), .v (.int .i64 x2), .v (.int .i64 x3')] [.rows 3 false xl0, .rows 3 false xl1]) x3 by kernel_rfl).trans (congrArg (fun rec => slices_Equal_Flow.L4 k x2 xl0 xl1 (fun (z0 : Bool) => K .ret (stOf [(4, [])] [.v (.bool z0)] [.rows 3 false xl0, .rows 3 false xl1])) (fun (_ : Unit) => K (.exit 0) (stOf [(4, [])] [.v .any] [.rows 3 false xl0, .rows 3 false xl1])) rec x3) (funext fun x3' => slices_Equal_Flow.e4 K k x2 xl0 xl1 n x3'))
theorem slices_Equal_Flow.q4 (k : Nat) {R : Type} (K : Ex → St κ → Option R) (vs : List AV) (bs : List (Blk κ)) (r : R) (h : slices_Equal_Flow.h4 k K vs bs = some r) : ∃ n, loopN 2 (Code.den ti (slices_Equal_Flow.Γ k) (slices_Equal_Flow.LH k) (loopAt Try.f65 0)) [(0, [some 3]), (1, [some 3]), (12, []), (13, [])] [(4, [])] K n vs bs = some r := by
  unfold slices_Equal_Flow.h4 at h
  split at h
  · obtain ⟨_, rfl, h_1⟩ := asO_bind h
    obtain ⟨_, rfl, h_2⟩ := asO_bind h_1
    exact ⟨k, (slices_Equal_Flow.e4 K k _ _ _ k _).trans h_2⟩
  · cases h
theorem slices_Equal_Flow.lok (k : Nat) : LOK ti (slices_Equal_Flow.Γ k) (slices_Equal_Flow.LH k) 2 (loopsOf (bodyOf Try.f65)) :=
  (show loopsOf (bodyOf Try.f65) = [loopAt Try.f65 0] by kernel_rfl) ▸ (LOK_cons (g := ⟨2, [(0, [some 3]), (1, [some 3]), (12, []), (13, [])], [(4, [])], @slices_Equal_Flow.h4 k⟩) (by kernel_rfl) rfl (fun K vs xs r h => slices_Equal_Flow.q4 k K vs xs r h) (LOK_nil))
def slices_Equal_Flow.sig : List PSh := [.one (.ro 3), .one (.ro 3)]
def slices_Equal_Flow.g (y : Bool) : Ret κ := ⟨.v (.bool y), [], []⟩
def slices_Equal_Flow.out (r : Ret κ) : Option Bool :=
  match r with
  | ⟨.v (.bool z0), [], []⟩ => some (z0)
  | _ => none
theorem slices_Equal_Flow.out_ok (r : Ret κ) (y : Bool) (h : slices_Equal_Flow.out r = some y) : r = slices_Equal_Flow.g y := by
  unfold slices_Equal_Flow.out at h
  split at h
  · obtain rfl := Option.some.inj h
    rfl
  · cases h
def slices_Equal_Flow.body (k : Nat) (vs : List AV) (bs : List (Blk κ)) : Option (Lf κ) :=
  match vs, bs with
  | [.v (.sl 0), .v (.sl 1)], [qb0, qb1] => (asO 3 false qb0).bind fun a0 => (asO 3 false qb1).bind fun a1 => some ⟨Bool, slices_Equal_Flow.f k a0 a1, slices_Equal_Flow.g⟩
  | _, _ => none
def slices_Equal_Flow.C (k : Nat) : Nat → List AV → AP κ AV := contract slices_Equal_Flow.sig (slices_Equal_Flow.body k)
theorem slices_Equal_Flow.den (k : Nat) (a0 : List T_impl_Flow) (a1 : List T_impl_Flow) : Code.den ti (slices_Equal_Flow.Γ k) (slices_Equal_Flow.LH k) (bodyOf Try.f65) (finK ti Try.f65.results.toList [] (flags slices_Equal_Flow.sig).length (rwI (flags slices_Equal_Flow.sig) 0) slices_Equal_Flow.out) ⟨envOf (([.v (.sl 0), .v (.sl 1)]).zipIdx.map fun q => (q.2, q.1)), hpOf [.rows 3 false a0, .rows 3 false a1], (flags slices_Equal_Flow.sig).length⟩ = slices_Equal_Flow.f k a0 a1 := by kernel_rfl
theorem slices_Equal_Flow.ok (k : Nat) : CSound Try.prog 65 (slices_Equal_Flow.C k) :=
  csound κ_ok mixed tok (slices_Equal_Flow.hΓ k) (LH := slices_Equal_Flow.LH k) (fn := Try.f65) (c := bodyOf Try.f65) Try.func65 rfl Try.call65 slices_Equal_Flow.sig [] (slices_Equal_Flow.body k) (by kernel_rfl) (slices_Equal_Flow.lok k) (by decide) fun vs bs lf y hl hb hy => by
    unfold slices_Equal_Flow.body at hb
    split at hb
    · obtain ⟨_, rfl, hb_1⟩ := asO_bind hb
      obtain ⟨_, rfl, hb_2⟩ := asO_bind hb_1
      obtain rfl := Option.some.inj hb_2
      exact ⟨slices_Equal_Flow.out, slices_Equal_Flow.out_ok, (slices_Equal_Flow.den k _ _).trans hy⟩
    · cases hb
/-! ### slices_Equal_Rule -/
def slices_Equal_Rule.L4 {R : Type} (k : Nat) (x2 : Int) (xl0 : List T_impl_Rule) (xl1 : List T_impl_Rule) (X0 : Bool → Option R) (X1 : Unit → Option R) (rec : Int → Option R) (x3 : Int) : Option R :=
  (bif decide (x3 < x2) then (bif decide (0 ≤ x3) then (bif decide (x3 < (xl0.length : Int)) then (bif decide (0 ≤ x3) then (bif decide (x3 < (xl1.length : Int)) then (bif !((((rd_impl_Rule xl0 x3).f0) == ((rd_impl_Rule xl1 x3).f0)) && ((((rd_impl_Rule xl0 x3).f1) == ((rd_impl_Rule xl1 x3).f1)) && ((((rd_impl_Rule xl0 x3).f2.f0) == ((rd_impl_Rule xl1 x3).f2.f0)) && ((((rd_impl_Rule xl0 x3).f2.f1) == ((rd_impl_Rule xl1 x3).f2.f1)) && ((((rd_impl_Rule xl0 x3).f3) == ((rd_impl_Rule xl1 x3).f3)) && ((((rd_impl_Rule xl0 x3).f4) == ((rd_impl_Rule xl1 x3).f4)) && ((((rd_impl_Rule xl0 x3).f5.f0) == ((rd_impl_Rule xl1 x3).f5.f0)) && (((rd_impl_Rule xl0 x3).f5.f1) == ((rd_impl_Rule xl1 x3).f5.f1))))))))) then (X0 false) else (rec (w64 (x3 + (1 : Int))))) else none) else none) else none) else none) else (X1 ()))
def slices_Equal_Rule.l4 {R : Type} (k : Nat) (x2 : Int) (xl0 : List T_impl_Rule) (xl1 : List T_impl_Rule) (X0 : Bool → Option R) (X1 : Unit → Option R) : Nat → Int → Option R
  | 0 => fun _ => none
  | n + 1 => slices_Equal_Rule.L4 k x2 xl0 xl1 X0 X1 (slices_Equal_Rule.l4 k x2 xl0 xl1 X0 X1 n)
def slices_Equal_Rule.f (k : Nat) (a0 : List T_impl_Rule) (a1 : List T_impl_Rule) : Option Bool :=
  (bif ((a0.length : Int) != (a1.length : Int)) then some false else (slices_Equal_Rule.l4 k (a0.length : Int) a0 a1 (fun (y1 : Bool) => some y1) (fun (_ : Unit) => some true) k (0 : Int)))
def slices_Equal_Rule.h4 (k : Nat) {R : Type} (K : Ex → St κ → Option R) (vs : List AV) (bs : List (Blk κ)) : Option R :=
  match vs, bs with
  | [.v (.sl 0), .v (.sl 1), .v (.int .i64 x2), .v (.int .i64 x3)], [qb0, qb1] => (asO 4 false qb0).bind fun xl0 => (asO 4 false qb1).bind fun xl1 => slices_Equal_Rule.l4 k x2 xl0 xl1 (fun (z0 : Bool) => K .ret (stOf [(4, [])] [.v (.bool z0)] [.rows 4 false xl0, .rows 4 false xl1])) (fun (_ : Unit) => K (.exit 0) (stOf [(4, [])] [.v .any] [.rows 4 false xl0, .rows 4 false xl1])) k x3
  | _, _ => none
def slices_Equal_Rule.Γ (k : Nat) : Ct κ := assoc []
def slices_Equal_Rule.LH (k : Nat) : Nat → Option (LHi κ) := assoc [(4, ⟨2, [(0, [some 4]), (1, [some 4]), (12, []), (13, [])], [(4, [])], @slices_Equal_Rule.h4 k⟩)]
theorem slices_Equal_Rule.hΓ (k : Nat) : ∀ f g, slices_Equal_Rule.Γ k f = some g → CSound Try.prog f g := G_nil
theorem slices_Equal_Rule.e4 {R : Type} (K : Ex → St κ → Option R) (k : Nat) (x2 : Int) (xl0 : List T_impl_Rule) (xl1 : List T_impl_Rule) : ∀ (n : Nat) (x3 : Int), loopN 2 (Code.den ti (slices_Equal_Rule.Γ k) (slices_Equal_Rule.LH k) (loopAt Try.f66 0)) [(0, [some 4]), (1, [some 4]), (12, []), (13, [])] [(4, [])] K n [.v (.sl 0), .v (.sl 1), .v (.int .i64 x2), .v (.int .i64 x3)] [.rows 4 false xl0, .rows 4 false xl1] = slices_Equal_Rule.l4 k x2 xl0 xl1 (fun (z0 : Bool) => K .ret (stOf [(4, [])] [.v (.bool z0)] [.rows 4 false xl0, .rows 4 false xl1])) (fun (_ : Unit) => K (.exit 0) (stOf [(4, [])] [.v .any] [.rows 4 false xl0, .rows 4 false xl1])) n x3
  | 0, _ => rfl
  | n + 1, x3 => (show loopN 2 (Code.den ti (slices_Equal_Rule.Γ k) (slices_Equal_Rule.LH k) (loopAt Try.f66 0)) [(0, [some 4]), (1, [some 4]), (12, []), (13, [])] [(4, [])] K (n + 1) [.v (.sl 0), .v (.sl 1), .v (.int .i64 x2), .v (.int .i64 x3)] [.rows 4 false xl0, .rows 4 false xl1] = slices_Equal_Rule.L4 k x2 xl0 xl1 (fun (z0 : Bool) => K .ret (stOf [(4, [])] [.v (.bool z0)] [.rows 4 false xl0, .rows 4 false xl1])) (fun (_ : Unit) => K (.exit 0) (stOf [(4, [])] [.v .any] [.rows 4 false xl0, .rows 4 false xl1])) (fun (x3' : Int) => loopN 2 (Code.den ti (slices_Equal_Rule.Γ k) (slices_Equal_Rule.LH k) (loopAt Try.f66 0)) [(0, [some 4]), (1, [some 4]), (12, []), (13, [])] [(4, [])] K n [.v (.sl 0), .v (.sl 1), .v (.int .i64 x2), .v (.int .i64 x3')] [.rows 4 false xl0, .rows 4 false xl1]) x3 by kernel_rfl).trans (congrArg (fun rec => slices_Equal_Rule.L4 k x2 xl0 xl1 (fun (z0 : Bool) => K .ret (stOf [(4, [])] [.v (.bool z0)] [.rows 4 false xl0, .rows 4 false xl1])) (fun (_ : Unit) => K (.exit 0) (stOf [(4, [])] [.v .any] [.rows 4 false xl0, .rows 4 false xl1])) rec x3) (funext fun x3' => slices_Equal_Rule.e4 K k x2 xl0 xl1 n x3'))
theorem slices_Equal_Rule.q4 (k : Nat) {R : Type} (K : Ex → St κ → Option R) (vs : List AV) (bs : List (Blk κ)) (r : R) (h : slices_Equal_Rule.h4 k K vs bs = some r) : ∃ n, loopN 2 (Code.den ti (slices_Equal_Rule.Γ k) (slices_Equal_Rule.LH k) (loopAt Try.f66 0)) [(0, [some 4]), (1, [some 4]), (12, []), (13, [])] [(4, [])] K n vs bs = some r := by
  unfold slices_Equal_Rule.h4 at h
  split at h
  · obtain ⟨_, rfl, h_1⟩ := asO_bind h
    obtain ⟨_, rfl, h_2⟩ := asO_bind h_1
    exact ⟨k, (slices_Equal_Rule.e4 K k _ _ _ k _).trans h_2⟩
  · cases h
theorem slices_Equal_Rule.lok (k : Nat) : LOK ti (slices_Equal_Rule.Γ k) (slices_Equal_Rule.LH k) 2 (loopsOf (bodyOf Try.f66)) :=
  (show loopsOf (bodyOf Try.f66) = [loopAt Try.f66 0] by kernel_rfl) ▸ (LOK_cons (g := ⟨2, [(0, [some 4]), (1, [some 4]), (12, []), (13, [])], [(4, [])], @slices_Equal_Rule.h4 k⟩) (by kernel_rfl) rfl (fun K vs xs r h => slices_Equal_Rule.q4 k K vs xs r h) (LOK_nil))
def slices_Equal_Rule.sig : List PSh := [.one (.ro 4), .one (.ro 4)]
def slices_Equal_Rule.g (y : Bool) : Ret κ := ⟨.v (.bool y), [], []⟩
def slices_Equal_Rule.out (r : Ret κ) : Option Bool :=
  match r with
  | ⟨.v (.bool z0), [], []⟩ => some (z0)
  | _ => none
theorem slices_Equal_Rule.out_ok (r : Ret κ) (y : Bool) (h : slices_Equal_Rule.out r = some y) : r = slices_Equal_Rule.g y := by
  unfold slices_Equal_Rule.out at h
  split at h
  · obtain rfl := Option.some.inj h
    rfl
  · cases h
def slices_Equal_Rule.body (k : Nat) (vs : List AV) (bs : List (Blk κ)) : Option (Lf κ) :=
  match vs, bs with
  | [.v (.sl 0), .v (.sl 1)], [qb0, qb1] => (asO 4 false qb0).bind fun a0 => (asO 4 false qb1).bind fun a1 => some ⟨Bool, slices_Equal_Rule.f k a0 a1, slices_Equal_Rule.g⟩
  | _, _ => none
def slices_Equal_Rule.C (k : Nat) : Nat → List AV → AP κ AV := contract slices_Equal_Rule.sig (slices_Equal_Rule.body k)
theorem slices_Equal_Rule.den (k : Nat) (a0 : List T_impl_Rule) (a1 : List T_impl_Rule) : Code.den ti (slices_Equal_Rule.Γ k) (slices_Equal_Rule.LH k) (bodyOf Try.f66) (finK ti Try.f66.results.toList [] (flags slices_Equal_Rule.sig).length (rwI (flags slices_Equal_Rule.sig) 0) slices_Equal_Rule.out) ⟨envOf (([.v (.sl 0), .v (.sl 1)]).zipIdx.map fun q => (q.2, q.1)), hpOf [.rows 4 false a0, .rows 4 false a1], (flags slices_Equal_Rule.sig).length⟩ = slices_Equal_Rule.f k a0 a1 := by kernel_rfl
theorem slices_Equal_Rule.ok (k : Nat) : CSound Try.prog 66 (slices_Equal_Rule.C k) :=
  csound κ_ok mixed tok (slices_Equal_Rule.hΓ k) (LH := slices_Equal_Rule.LH k) (fn := Try.f66) (c := bodyOf Try.f66) Try.func66 rfl Try.call66 slices_Equal_Rule.sig [] (slices_Equal_Rule.body k) (by kernel_rfl) (slices_Equal_Rule.lok k) (by decide) fun vs bs lf y hl hb hy => by
    unfold slices_Equal_Rule.body at hb
    split at hb
    · obtain ⟨_, rfl, hb_1⟩ := asO_bind hb
      obtain ⟨_, rfl, hb_2⟩ := asO_bind hb_1
      obtain rfl := Option.some.inj hb_2
      exact ⟨slices_Equal_Rule.out, slices_Equal_Rule.out_ok, (slices_Equal_Rule.den k _ _).trans hy⟩
    · cases hb
/-! ### slices_Equal_Op -/
def slices_Equal_Op.L4 {R : Type} (k : Nat) (x2 : Int) (xl0 : List T_impl_Op) (xl1 : List T_impl_Op) (X0 : Bool → Option R) (X1 : Unit → Option R) (rec : Int → Option R) (x3 : Int) : Option R :=
  (bif decide (x3 < x2) then (bif decide (0 ≤ x3) then (bif decide (x3 < (xl0.length : Int)) then (bif decide (0 ≤ x3) then (bif decide (x3 < (xl1.length : Int)) then (bif !((((rd_impl_Op xl0 x3).f0) == ((rd_impl_Op xl1 x3).f0)) && ((((rd_impl_Op xl0 x3).f1) == ((rd_impl_Op xl1 x3).f1)) && ((((rd_impl_Op xl0 x3).f2) == ((rd_impl_Op xl1 x3).f2)) && (((rd_impl_Op xl0 x3).f3) == ((rd_impl_Op xl1 x3).f3))))) then (X0 false) else (rec (w64 (x3 + (1 : Int))))) else none) else none) else none) else none) else (X1 ()))
def slices_Equal_Op.l4 {R : Type} (k : Nat) (x2 : Int) (xl0 : List T_impl_Op) (xl1 : List T_impl_Op) (X0 : Bool → Option R) (X1 : Unit → Option R) : Nat → Int → Option R
  | 0 => fun _ => none
  | n + 1 => slices_Equal_Op.L4 k x2 xl0 xl1 X0 X1 (slices_Equal_Op.l4 k x2 xl0 xl1 X0 X1 n)
def slices_Equal_Op.f (k : Nat) (a0 : List T_impl_Op) (a1 : List T_impl_Op) : Option Bool :=
  (bif ((a0.length : Int) != (a1.length : Int)) then some false else (slices_Equal_Op.l4 k (a0.length : Int) a0 a1 (fun (y1 : Bool) => some y1) (fun (_ : Unit) => some true) k (0 : Int)))
def slices_Equal_Op.h4 (k : Nat) {R : Type} (K : Ex → St κ → Option R) (vs : List AV) (bs : List (Blk κ)) : Option R :=
  match vs, bs with
  | [.v (.sl 0), .v (.sl 1), .v (.int .i64 x2), .v (.int .i64 x3)], [qb0, qb1] => (asO 1 false qb0).bind fun xl0 => (asO 1 false qb1).bind fun xl1 => slices_Equal_Op.l4 k x2 xl0 xl1 (fun (z0 : Bool) => K .ret (stOf [(4, [])] [.v (.bool z0)] [.rows 1 false xl0, .rows 1 false xl1])) (fun (_ : Unit) => K (.exit 0) (stOf [(4, [])] [.v .any] [.rows 1 false xl0, .rows 1 false xl1])) k x3
  | _, _ => none
def slices_Equal_Op.Γ (k : Nat) : Ct κ := assoc []
def slices_Equal_Op.LH (k : Nat) : Nat → Option (LHi κ) := assoc [(4, ⟨2, [(0, [some 1]), (1, [some 1]), (12, []), (13, [])], [(4, [])], @slices_Equal_Op.h4 k⟩)]
theorem slices_Equal_Op.hΓ (k : Nat) : ∀ f g, slices_Equal_Op.Γ k f = some g → CSound Try.prog f g := G_nil
theorem slices_Equal_Op.e4 {R : Type} (K : Ex → St κ → Option R) (k : Nat) (x2 : Int) (xl0 : List T_impl_Op) (xl1 : List T_impl_Op) : ∀ (n : Nat) (x3 : Int), loopN 2 (Code.den ti (slices_Equal_Op.Γ k) (slices_Equal_Op.LH k) (loopAt Try.f67 0)) [(0, [some 1]), (1, [some 1]), (12, []), (13, [])] [(4, [])] K n [.v (.sl 0), .v (.sl 1), .v (.int .i64 x2), .v (.int .i64 x3)] [.rows 1 false xl0, .rows 1 false xl1] = slices_Equal_Op.l4 k x2 xl0 xl1 (fun (z0 : Bool) => K .ret (stOf [(4, [])] [.v (.bool z0)] [.rows 1 false xl0, .rows 1 false xl1])) (fun (_ : Unit) => K (.exit 0) (stOf [(4, [])] [.v .any] [.rows 1 false xl0, .rows 1 false xl1])) n x3
  | 0, _ => rfl
  | n + 1, x3 => (show loopN 2 (Code.den ti (slices_Equal_Op.Γ k) (slices_Equal_Op.LH k) (loopAt Try.f67 0)) [(0, [some 1]), (1, [some 1]), (12, []), (13, [])] [(4, [])] K (n + 1) [.v (.sl 0), .v (.sl 1), .v (.int .i64 x2), .v (.int .i64 x3)] [.rows 1 false xl0, .rows 1 false xl1] = slices_Equal_Op.L4 k x2 xl0 xl1 (fun (z0 : Bool) => K .ret (stOf [(4, [])] [.v (.bool z0)] [.rows 1 false xl0, .rows 1 false xl1])) (fun (_ : Unit) => K (.exit 0) (stOf [(4, [])] [.v .any] [.rows 1 false xl0, .rows 1 false xl1])) (fun (x3' : Int) => loopN 2 (Code.den ti (slices_Equal_Op.Γ k) (slices_Equal_Op.LH k) (loopAt Try.f67 0)) [(0, [some 1]), (1, [some 1]), (12, []), (13, [])] [(4, [])] K n [.v (.sl 0), .v (.sl 1), .v (.int .i64 x2), .v (.int .i64 x3')] [.rows 1 false xl0, .rows 1 false xl1]) x3 by kernel_rfl).trans (congrArg (fun rec => slices_Equal_Op.L4 k x2 xl0 xl1 (fun (z0 : Bool) => K .ret (stOf [(4, [])] [.v (.bool z0)] [.rows 1 false xl0, .rows 1 false xl1])) (fun (_ : Unit) => K (.exit 0) (stOf [(4, [])] [.v .any] [.rows 1 false xl0, .rows 1 false xl1])) rec x3) (funext fun x3' => slices_Equal_Op.e4 K k x2 xl0 xl1 n x3'))
theorem slices_Equal_Op.q4 (k : Nat) {R : Type} (K : Ex → St κ → Option R) (vs : List AV) (bs : List (Blk κ)) (r : R) (h : slices_Equal_Op.h4 k K vs bs = some r) : ∃ n, loopN 2 (Code.den ti (slices_Equal_Op.Γ k) (slices_Equal_Op.LH k) (loopAt Try.f67 0)) [(0, [some 1]), (1, [some 1]), (12, []), (13, [])] [(4, [])] K n vs bs = some r := by
  unfold slices_Equal_Op.h4 at h
  split at h
  · obtain ⟨_, rfl, h_1⟩ := asO_bind h
    obtain ⟨_, rfl, h_2⟩ := asO_bind h_1
    exact ⟨k, (slices_Equal_Op.e4 K k _ _ _ k _).trans h_2⟩
  · cases h
theorem slices_Equal_Op.lok (k : Nat) : LOK ti (slices_Equal_Op.Γ k) (slices_Equal_Op.LH k) 2 (loopsOf (bodyOf Try.f67)) :=
  (show loopsOf (bodyOf Try.f67) = [loopAt Try.f67 0] by kernel_rfl) ▸ (LOK_cons (g := ⟨2, [(0, [some 1]), (1, [some 1]), (12, []), (13, [])], [(4, [])], @slices_Equal_Op.h4 k⟩) (by kernel_rfl) rfl (fun K vs xs r h => slices_Equal_Op.q4 k K vs xs r h) (LOK_nil))
def slices_Equal_Op.sig : List PSh := [.one (.ro 1), .one (.ro 1)]
def slices_Equal_Op.g (y : Bool) : Ret κ := ⟨.v (.bool y), [], []⟩
def slices_Equal_Op.out (r : Ret κ) : Option Bool :=
  match r with
  | ⟨.v (.bool z0), [], []⟩ => some (z0)
  | _ => none
theorem slices_Equal_Op.out_ok (r : Ret κ) (y : Bool) (h : slices_Equal_Op.out r = some y) : r = slices_Equal_Op.g y := by
  unfold slices_Equal_Op.out at h
  split at h
  · obtain rfl := Option.some.inj h
    rfl
  · cases h
def slices_Equal_Op.body (k : Nat) (vs : List AV) (bs : List (Blk κ)) : Option (Lf κ) :=
  match vs, bs with
  | [.v (.sl 0), .v (.sl 1)], [qb0, qb1] => (asO 1 false qb0).bind fun a0 => (asO 1 false qb1).bind fun a1 => some ⟨Bool, slices_Equal_Op.f k a0 a1, slices_Equal_Op.g⟩
  | _, _ => none
def slices_Equal_Op.C (k : Nat) : Nat → List AV → AP κ AV := contract slices_Equal_Op.sig (slices_Equal_Op.body k)
theorem slices_Equal_Op.den (k : Nat) (a0 : List T_impl_Op) (a1 : List T_impl_Op) : Code.den ti (slices_Equal_Op.Γ k) (slices_Equal_Op.LH k) (bodyOf Try.f67) (finK ti Try.f67.results.toList [] (flags slices_Equal_Op.sig).length (rwI (flags slices_Equal_Op.sig) 0) slices_Equal_Op.out) ⟨envOf (([.v (.sl 0), .v (.sl 1)]).zipIdx.map fun q => (q.2, q.1)), hpOf [.rows 1 false a0, .rows 1 false a1], (flags slices_Equal_Op.sig).length⟩ = slices_Equal_Op.f k a0 a1 := by kernel_rfl
theorem slices_Equal_Op.ok (k : Nat) : CSound Try.prog 67 (slices_Equal_Op.C k) :=
  csound κ_ok mixed tok (slices_Equal_Op.hΓ k) (LH := slices_Equal_Op.LH k) (fn := Try.f67) (c := bodyOf Try.f67) Try.func67 rfl Try.call67 slices_Equal_Op.sig [] (slices_Equal_Op.body k) (by kernel_rfl) (slices_Equal_Op.lok k) (by decide) fun vs bs lf y hl hb hy => by
    unfold slices_Equal_Op.body at hb
    split at hb
    · obtain ⟨_, rfl, hb_1⟩ := asO_bind hb
      obtain ⟨_, rfl, hb_2⟩ := asO_bind hb_1
      obtain rfl := Option.some.inj hb_2
      exact ⟨slices_Equal_Op.out, slices_Equal_Op.out_ok, (slices_Equal_Op.den k _ _).trans hy⟩
    · cases hb
/-! ### impl_EqualPackages -/
def impl_EqualPackages.f (k : Nat) (a0_0 : Int) (a0_1 : Int) (a0_2 : Int) (a0_3 : List T_impl_Grant) (a0_4 : List T_impl_Flow) (a0_5 : List T_impl_Rule) (a0_6 : List T_impl_Op) (a0_7 : Int) (a1_0 : Int) (a1_1 : Int) (a1_2 : Int) (a1_3 : List T_impl_Grant) (a1_4 : List T_impl_Flow) (a1_5 : List T_impl_Rule) (a1_6 : List T_impl_Op) (a1_7 : Int) : Option Bool :=
  (bif (a0_0 == a1_0) then (bif (a0_1 == a1_1) then (bif (a0_2 == a1_2) then (bif (a0_7 == a1_7) then (slices_Equal_Grant.f k a0_3 a1_3).bind fun t1 => (bif t1 then (slices_Equal_Flow.f k a0_4 a1_4).bind fun t2 => (bif t2 then (slices_Equal_Rule.f k a0_5 a1_5).bind fun t3 => (bif t3 then (slices_Equal_Op.f k a0_6 a1_6).bind fun t4 => some t4 else some false) else some false) else some false) else some false) else some false) else some false) else some false)
def impl_EqualPackages.Γ (k : Nat) : Ct κ := assoc [(64, slices_Equal_Grant.C k), (65, slices_Equal_Flow.C k), (66, slices_Equal_Rule.C k), (67, slices_Equal_Op.C k)]
def impl_EqualPackages.LH (k : Nat) : Nat → Option (LHi κ) := assoc []
theorem impl_EqualPackages.hΓ (k : Nat) : ∀ f g, impl_EqualPackages.Γ k f = some g → CSound Try.prog f g := G_cons (slices_Equal_Grant.ok k) (G_cons (slices_Equal_Flow.ok k) (G_cons (slices_Equal_Rule.ok k) (G_cons (slices_Equal_Op.ok k) G_nil)))
theorem impl_EqualPackages.lok (k : Nat) : LOK ti (impl_EqualPackages.Γ k) (impl_EqualPackages.LH k) 8 (loopsOf (bodyOf Try.f16)) :=
  (show loopsOf (bodyOf Try.f16) = [] by kernel_rfl) ▸ LOK_nil
def impl_EqualPackages.sig : List PSh := [.agg [.sc, .sc, .sc, .ro 2, .ro 3, .ro 4, .ro 1, .sc], .agg [.sc, .sc, .sc, .ro 2, .ro 3, .ro 4, .ro 1, .sc]]
def impl_EqualPackages.g (y : Bool) : Ret κ := ⟨.v (.bool y), [], []⟩
def impl_EqualPackages.out (r : Ret κ) : Option Bool :=
  match r with
  | ⟨.v (.bool z0), [], []⟩ => some (z0)
  | _ => none
theorem impl_EqualPackages.out_ok (r : Ret κ) (y : Bool) (h : impl_EqualPackages.out r = some y) : r = impl_EqualPackages.g y := by
  unfold impl_EqualPackages.out at h
  split at h
  · obtain rfl := Option.some.inj h
    rfl
  · cases h
def impl_EqualPackages.body (k : Nat) (vs : List AV) (bs : List (Blk κ)) : Option (Lf κ) :=
  match vs, bs with
  | [.agg [.int .i64 a0_0, .int .i64 a0_1, .int .i64 a0_2, .sl 0, .sl 1, .sl 2, .sl 3, .int .i64 a0_7], .agg [.int .i64 a1_0, .int .i64 a1_1, .int .i64 a1_2, .sl 4, .sl 5, .sl 6, .sl 7, .int .i64 a1_7]], [qb0, qb1, qb2, qb3, qb4, qb5, qb6, qb7] => (asO 2 false qb0).bind fun a0_3 => (asO 3 false qb1).bind fun a0_4 => (asO 4 false qb2).bind fun a0_5 => (asO 1 false qb3).bind fun a0_6 => (asO 2 false qb4).bind fun a1_3 => (asO 3 false qb5).bind fun a1_4 => (asO 4 false qb6).bind fun a1_5 => (asO 1 false qb7).bind fun a1_6 => some ⟨Bool, impl_EqualPackages.f k a0_0 a0_1 a0_2 a0_3 a0_4 a0_5 a0_6 a0_7 a1_0 a1_1 a1_2 a1_3 a1_4 a1_5 a1_6 a1_7, impl_EqualPackages.g⟩
  | _, _ => none
def impl_EqualPackages.C (k : Nat) : Nat → List AV → AP κ AV := contract impl_EqualPackages.sig (impl_EqualPackages.body k)
theorem impl_EqualPackages.den (k : Nat) (a0_0 : Int) (a0_1 : Int) (a0_2 : Int) (a0_3 : List T_impl_Grant) (a0_4 : List T_impl_Flow) (a0_5 : List T_impl_Rule) (a0_6 : List T_impl_Op) (a0_7 : Int) (a1_0 : Int) (a1_1 : Int) (a1_2 : Int) (a1_3 : List T_impl_Grant) (a1_4 : List T_impl_Flow) (a1_5 : List T_impl_Rule) (a1_6 : List T_impl_Op) (a1_7 : Int) : Code.den ti (impl_EqualPackages.Γ k) (impl_EqualPackages.LH k) (bodyOf Try.f16) (finK ti Try.f16.results.toList [] (flags impl_EqualPackages.sig).length (rwI (flags impl_EqualPackages.sig) 0) impl_EqualPackages.out) ⟨envOf (([.agg [.int .i64 a0_0, .int .i64 a0_1, .int .i64 a0_2, .sl 0, .sl 1, .sl 2, .sl 3, .int .i64 a0_7], .agg [.int .i64 a1_0, .int .i64 a1_1, .int .i64 a1_2, .sl 4, .sl 5, .sl 6, .sl 7, .int .i64 a1_7]]).zipIdx.map fun q => (q.2, q.1)), hpOf [.rows 2 false a0_3, .rows 3 false a0_4, .rows 4 false a0_5, .rows 1 false a0_6, .rows 2 false a1_3, .rows 3 false a1_4, .rows 4 false a1_5, .rows 1 false a1_6], (flags impl_EqualPackages.sig).length⟩ = impl_EqualPackages.f k a0_0 a0_1 a0_2 a0_3 a0_4 a0_5 a0_6 a0_7 a1_0 a1_1 a1_2 a1_3 a1_4 a1_5 a1_6 a1_7 := by kernel_rfl
theorem impl_EqualPackages.ok (k : Nat) : CSound Try.prog 16 (impl_EqualPackages.C k) :=
  csound κ_ok mixed tok (impl_EqualPackages.hΓ k) (LH := impl_EqualPackages.LH k) (fn := Try.f16) (c := bodyOf Try.f16) Try.func16 rfl Try.call16 impl_EqualPackages.sig [] (impl_EqualPackages.body k) (by kernel_rfl) (impl_EqualPackages.lok k) (by decide) fun vs bs lf y hl hb hy => by
    unfold impl_EqualPackages.body at hb
    split at hb
    · obtain ⟨_, rfl, hb_1⟩ := asO_bind hb
      obtain ⟨_, rfl, hb_2⟩ := asO_bind hb_1
      obtain ⟨_, rfl, hb_3⟩ := asO_bind hb_2
      obtain ⟨_, rfl, hb_4⟩ := asO_bind hb_3
      obtain ⟨_, rfl, hb_5⟩ := asO_bind hb_4
      obtain ⟨_, rfl, hb_6⟩ := asO_bind hb_5
      obtain ⟨_, rfl, hb_7⟩ := asO_bind hb_6
      obtain ⟨_, rfl, hb_8⟩ := asO_bind hb_7
      obtain rfl := Option.some.inj hb_8
      exact ⟨impl_EqualPackages.out, impl_EqualPackages.out_ok, (impl_EqualPackages.den k _ _ _ _ _ _ _ _ _ _ _ _ _ _ _ _).trans hy⟩
    · cases hb
end Go.Proofs.Ythingkcckjiniaa.PFnSealed
