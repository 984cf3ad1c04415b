/- What the functions that the law FnRolledBack reaches come to; no conditions. -/
import Derived.Test.YtmjflahlhgibnaaGreatDoorPFnRolledBack2
set_option linter.unusedVariables false
set_option maxRecDepth 100000
namespace Go.Proofs.YtmjflahlhgibnaaGreatDoor.PFnRolledBack
open Go Go.Eng Go.Proofs
/-! ### spec_Mod -/
def spec_Mod.f (k : Nat) (a0 : Int) (a1 : Int) : Option Int :=
  (spec_l1In.f k a1 (1 : Int) (1000000000000 : Int)).bind fun t1 => (bif !t1 then some (0 : Int) else (bif decide (a1 = 0) then none else (bif decide (a1 = 0) then none else some ((w64 ((a0.tmod a1) + a1)).tmod a1))))
def spec_Mod.Γ (k : Nat) : Ct κ := assoc [(74, spec_l1In.C k)]
def spec_Mod.LH (k : Nat) : Nat → Option (LHi κ) := assoc []
theorem spec_Mod.hΓ (k : Nat) : ∀ f g, spec_Mod.Γ k f = some g → CSound Tryz.prog f g := G_cons (spec_l1In.ok k) G_nil
theorem spec_Mod.lok (k : Nat) : LOK ti (spec_Mod.Γ k) (spec_Mod.LH k) 0 (loopsOf (bodyOf Tryz.f141)) :=
  (show loopsOf (bodyOf Tryz.f141) = [] by kernel_rfl) ▸ LOK_nil
def spec_Mod.sig : List PSh := [.one .sc, .one .sc]
def spec_Mod.g (y : Int) : Ret κ := ⟨.v (.int .i64 y), [], []⟩
def spec_Mod.out (r : Ret κ) : Option Int :=
  match r with
  | ⟨.v (.int .i64 z0), [], []⟩ => some (z0)
  | _ => none
theorem spec_Mod.out_ok (r : Ret κ) (y : Int) (h : spec_Mod.out r = some y) : r = spec_Mod.g y := by
  unfold spec_Mod.out at h
  split at h
  · obtain rfl := Option.some.inj h
    rfl
  · cases h
def spec_Mod.body (k : Nat) (vs : List AV) (bs : List (Blk κ)) : Option (Lf κ) :=
  match vs, bs with
  | [.v (.int .i64 a0), .v (.int .i64 a1)], [] => some ⟨Int, spec_Mod.f k a0 a1, spec_Mod.g⟩
  | _, _ => none
def spec_Mod.C (k : Nat) : Nat → List AV → AP κ AV := contract spec_Mod.sig (spec_Mod.body k)
theorem spec_Mod.den (k : Nat) (a0 : Int) (a1 : Int) : Code.den ti (spec_Mod.Γ k) (spec_Mod.LH k) (bodyOf Tryz.f141) (finK ti Tryz.f141.results.toList [] (flags spec_Mod.sig).length (rwI (flags spec_Mod.sig) 0) spec_Mod.out) ⟨envOf (([.v (.int .i64 a0), .v (.int .i64 a1)]).zipIdx.map fun q => (q.2, q.1)), hpOf [], (flags spec_Mod.sig).length⟩ = spec_Mod.f k a0 a1 := by kernel_rfl
theorem spec_Mod.ok (k : Nat) : CSound Tryz.prog 141 (spec_Mod.C k) :=
  csound κ_ok mixed tok (spec_Mod.hΓ k) (LH := spec_Mod.LH k) (fn := Tryz.f141) (c := bodyOf Tryz.f141) Tryz.func141 rfl Tryz.call141 spec_Mod.sig [] (spec_Mod.body k) (by kernel_rfl) (spec_Mod.lok k) (by decide) fun vs bs lf y hl hb hy => by
    unfold spec_Mod.body at hb
    split at hb
    · obtain rfl := Option.some.inj hb
      exact ⟨spec_Mod.out, spec_Mod.out_ok, (spec_Mod.den k _ _).trans hy⟩
    · cases hb
/-! ### spec_Hash -/
def spec_Hash.L3 {R : Type} (k : Nat) (xl0 : List Int) (X0 : Int → Option R) (rec : Int → Int → Option R) (x1 : Int) (x2 : Int) : Option R :=
  (bif decide (x2 < (xl0.length : Int)) then (bif decide (0 ≤ x2) then (bif decide (x2 < (xl0.length : Int)) then (spec_Mod.f k (rd_i64 xl0 x2) (2147483647 : Int)).bind fun t1 => (rec ((w64 ((w64 ((w64 (x1 * (1000003 : Int))) + t1)) + (13 : Int))).tmod (2147483647 : Int)) (w64 (x2 + (1 : Int)))) else none) else none) else (X0 x1))
def spec_Hash.l3 {R : Type} (k : Nat) (xl0 : List Int) (X0 : Int → Option R) : Nat → Int → Int → Option R
  | 0 => fun _ _ => none
  | n + 1 => spec_Hash.L3 k xl0 X0 (spec_Hash.l3 k xl0 X0 n)
def spec_Hash.f (k : Nat) (a0 : List Int) : Option Int :=
  (spec_Hash.l3 k a0 (fun (y2 : Int) => some y2) k (11 : Int) (0 : Int))
def spec_Hash.h3 (k : Nat) {R : Type} (K : Ex → St κ → Option R) (vs : List AV) (bs : List (Blk κ)) : Option R :=
  match vs, bs with
  | [.v (.sl 0), .v (.int .i64 x1), .v (.int .i64 x2)], [qb0] => (asO 5 false qb0).bind fun xl0 => spec_Hash.l3 k xl0 (fun (z0 : Int) => K (.exit 0) (stOf [(3, [])] [.v (.int .i64 z0)] [.rows 5 false xl0])) k x1 x2
  | _, _ => none
def spec_Hash.Γ (k : Nat) : Ct κ := assoc [(141, spec_Mod.C k)]
def spec_Hash.LH (k : Nat) : Nat → Option (LHi κ) := assoc [(3, ⟨1, [(0, [some 5]), (3, []), (4, [])], [(3, [])], @spec_Hash.h3 k⟩)]
theorem spec_Hash.hΓ (k : Nat) : ∀ f g, spec_Hash.Γ k f = some g → CSound Tryz.prog f g := G_cons (spec_Mod.ok k) G_nil
theorem spec_Hash.e3 {R : Type} (K : Ex → St κ → Option R) (k : Nat) (xl0 : List Int) : ∀ (n : Nat) (x1 : Int) (x2 : Int), loopN 1 (Code.den ti (spec_Hash.Γ k) (spec_Hash.LH k) (loopAt Tryz.f122 0)) [(0, [some 5]), (3, []), (4, [])] [(3, [])] K n [.v (.sl 0), .v (.int .i64 x1), .v (.int .i64 x2)] [.rows 5 false xl0] = spec_Hash.l3 k xl0 (fun (z0 : Int) => K (.exit 0) (stOf [(3, [])] [.v (.int .i64 z0)] [.rows 5 false xl0])) n x1 x2
  | 0, _, _ => rfl
  | n + 1, x1, x2 => (show loopN 1 (Code.den ti (spec_Hash.Γ k) (spec_Hash.LH k) (loopAt Tryz.f122 0)) [(0, [some 5]), (3, []), (4, [])] [(3, [])] K (n + 1) [.v (.sl 0), .v (.int .i64 x1), .v (.int .i64 x2)] [.rows 5 false xl0] = spec_Hash.L3 k xl0 (fun (z0 : Int) => K (.exit 0) (stOf [(3, [])] [.v (.int .i64 z0)] [.rows 5 false xl0])) (fun (x1' : Int) (x2' : Int) => loopN 1 (Code.den ti (spec_Hash.Γ k) (spec_Hash.LH k) (loopAt Tryz.f122 0)) [(0, [some 5]), (3, []), (4, [])] [(3, [])] K n [.v (.sl 0), .v (.int .i64 x1'), .v (.int .i64 x2')] [.rows 5 false xl0]) x1 x2 by kernel_rfl).trans (congrArg (fun rec => spec_Hash.L3 k xl0 (fun (z0 : Int) => K (.exit 0) (stOf [(3, [])] [.v (.int .i64 z0)] [.rows 5 false xl0])) rec x1 x2) (funext fun x1' => funext fun x2' => spec_Hash.e3 K k xl0 n x1' x2'))
theorem spec_Hash.q3 (k : Nat) {R : Type} (K : Ex → St κ → Option R) (vs : List AV) (bs : List (Blk κ)) (r : R) (h : spec_Hash.h3 k K vs bs = some r) : ∃ n, loopN 1 (Code.den ti (spec_Hash.Γ k) (spec_Hash.LH k) (loopAt Tryz.f122 0)) [(0, [some 5]), (3, []), (4, [])] [(3, [])] K n vs bs = some r := by
  unfold spec_Hash.h3 at h
  split at h
  · obtain ⟨_, rfl, h_1⟩ := asO_bind h
    exact ⟨k, (spec_Hash.e3 K k _ k _ _).trans h_1⟩
  · cases h
theorem spec_Hash.lok (k : Nat) : LOK ti (spec_Hash.Γ k) (spec_Hash.LH k) 1 (loopsOf (bodyOf Tryz.f122)) :=
  (show loopsOf (bodyOf Tryz.f122) = [loopAt Tryz.f122 0] by kernel_rfl) ▸ (LOK_cons (g := ⟨1, [(0, [some 5]), (3, []), (4, [])], [(3, [])], @spec_Hash.h3 k⟩) (by kernel_rfl) rfl (fun K vs xs r h => spec_Hash.q3 k K vs xs r h) (LOK_nil))
def spec_Hash.sig : List PSh := [.one (.ro 5)]
def spec_Hash.g (y : Int) : Ret κ := ⟨.v (.int .i64 y), [], []⟩
def spec_Hash.out (r : Ret κ) : Option Int :=
  match r with
  | ⟨.v (.int .i64 z0), [], []⟩ => some (z0)
  | _ => none
theorem spec_Hash.out_ok (r : Ret κ) (y : Int) (h : spec_Hash.out r = some y) : r = spec_Hash.g y := by
  unfold spec_Hash.out at h
  split at h
  · obtain rfl := Option.some.inj h
    rfl
  · cases h
def spec_Hash.body (k : Nat) (vs : List AV) (bs : List (Blk κ)) : Option (Lf κ) :=
  match vs, bs with
  | [.v (.sl 0)], [qb0] => (asO 5 false qb0).bind fun a0 => some ⟨Int, spec_Hash.f k a0, spec_Hash.g⟩
  | _, _ => none
def spec_Hash.C (k : Nat) : Nat → List AV → AP κ AV := contract spec_Hash.sig (spec_Hash.body k)
theorem spec_Hash.den (k : Nat) (a0 : List Int) : Code.den ti (spec_Hash.Γ k) (spec_Hash.LH k) (bodyOf Tryz.f122) (finK ti Tryz.f122.results.toList [] (flags spec_Hash.sig).length (rwI (flags spec_Hash.sig) 0) spec_Hash.out) ⟨envOf (([.v (.sl 0)]).zipIdx.map fun q => (q.2, q.1)), hpOf [.rows 5 false a0], (flags spec_Hash.sig).length⟩ = spec_Hash.f k a0 := by kernel_rfl
theorem spec_Hash.ok (k : Nat) : CSound Tryz.prog 122 (spec_Hash.C k) :=
  csound κ_ok mixed tok (spec_Hash.hΓ k) (LH := spec_Hash.LH k) (fn := Tryz.f122) (c := bodyOf Tryz.f122) Tryz.func122 rfl Tryz.call122 spec_Hash.sig [] (spec_Hash.body k) (by kernel_rfl) (spec_Hash.lok k) (by decide) fun vs bs lf y hl hb hy => by
    unfold spec_Hash.body at hb
    split at hb
    · obtain ⟨_, rfl, hb_1⟩ := asO_bind hb
      obtain rfl := Option.some.inj hb_1
      exact ⟨spec_Hash.out, spec_Hash.out_ok, (spec_Hash.den k _).trans hy⟩
    · cases hb
/-! ### spec_KeyedHash -/
def spec_KeyedHash.f (k : Nat) (a0 : Int) (a1 : List Int) : Option Int :=
  (bif decide ((([a0] : List Int).length + a1.length) * 8 ≤ cap48) then (bif decide (((([a0] : List Int) ++ a1).length + ([a0] : List Int).length) * 8 ≤ cap48) then (spec_Hash.f k ((([a0] : List Int) ++ a1) ++ ([a0] : List Int))).bind fun t1 => some t1 else none) else none)
def spec_KeyedHash.Γ (k : Nat) : Ct κ := assoc [(122, spec_Hash.C k)]
def spec_KeyedHash.LH (k : Nat) : Nat → Option (LHi κ) := assoc []
theorem spec_KeyedHash.hΓ (k : Nat) : ∀ f g, spec_KeyedHash.Γ k f = some g → CSound Tryz.prog f g := G_cons (spec_Hash.ok k) G_nil
theorem spec_KeyedHash.lok (k : Nat) : LOK ti (spec_KeyedHash.Γ k) (spec_KeyedHash.LH k) 1 (loopsOf (bodyOf Tryz.f92)) :=
  (show loopsOf (bodyOf Tryz.f92) = [] by kernel_rfl) ▸ LOK_nil
def spec_KeyedHash.sig : List PSh := [.one .sc, .one (.ro 5)]
def spec_KeyedHash.g (y : Int) : Ret κ := ⟨.v (.int .i64 y), [], []⟩
def spec_KeyedHash.out (r : Ret κ) : Option Int :=
  match r with
  | ⟨.v (.int .i64 z0), [], []⟩ => some (z0)
  | _ => none
theorem spec_KeyedHash.out_ok (r : Ret κ) (y : Int) (h : spec_KeyedHash.out r = some y) : r = spec_KeyedHash.g y := by
  unfold spec_KeyedHash.out at h
  split at h
  · obtain rfl := Option.some.inj h
    rfl
  · cases h
def spec_KeyedHash.body (k : Nat) (vs : List AV) (bs : List (Blk κ)) : Option (Lf κ) :=
  match vs, bs with
  | [.v (.int .i64 a0), .v (.sl 0)], [qb0] => (asO 5 false qb0).bind fun a1 => some ⟨Int, spec_KeyedHash.f k a0 a1, spec_KeyedHash.g⟩
  | _, _ => none
def spec_KeyedHash.C (k : Nat) : Nat → List AV → AP κ AV := contract spec_KeyedHash.sig (spec_KeyedHash.body k)
theorem spec_KeyedHash.den (k : Nat) (a0 : Int) (a1 : List Int) : Code.den ti (spec_KeyedHash.Γ k) (spec_KeyedHash.LH k) (bodyOf Tryz.f92) (finK ti Tryz.f92.results.toList [] (flags spec_KeyedHash.sig).length (rwI (flags spec_KeyedHash.sig) 0) spec_KeyedHash.out) ⟨envOf (([.v (.int .i64 a0), .v (.sl 0)]).zipIdx.map fun q => (q.2, q.1)), hpOf [.rows 5 false a1], (flags spec_KeyedHash.sig).length⟩ = spec_KeyedHash.f k a0 a1 := by kernel_rfl
theorem spec_KeyedHash.ok (k : Nat) : CSound Tryz.prog 92 (spec_KeyedHash.C k) :=
  csound κ_ok mixed tok (spec_KeyedHash.hΓ k) (LH := spec_KeyedHash.LH k) (fn := Tryz.f92) (c := bodyOf Tryz.f92) Tryz.func92 rfl Tryz.call92 spec_KeyedHash.sig [] (spec_KeyedHash.body k) (by kernel_rfl) (spec_KeyedHash.lok k) (by decide) fun vs bs lf y hl hb hy => by
    unfold spec_KeyedHash.body at hb
    split at hb
    · obtain ⟨_, rfl, hb_1⟩ := asO_bind hb
      obtain rfl := Option.some.inj hb_1
      exact ⟨spec_KeyedHash.out, spec_KeyedHash.out_ok, (spec_KeyedHash.den k _ _).trans hy⟩
    · cases hb
/-! ### spec_SealPackage -/
def spec_SealPackage.f (k : Nat) (a0 : Int) (a1_0 : Int) (a1_1 : Int) (a1_2 : Int) (a1_3 : List T_impl_Grant) (a1_4 : List T_impl_Flow) (a1_5 : List T_impl_Rule) (a1_6 : List T_impl_Op) (a1_7 : Int) : Option (Int × Int × Int × Int × List T_impl_Grant × List T_impl_Flow × List T_impl_Rule × List T_impl_Op) :=
  (spec_l26Copy.f k a1_0 a1_1 a1_2 a1_3 a1_4 a1_5 a1_6 a1_7).bind fun t1 => (spec_IsValidKey.f k a0).bind fun t2 => (bif t2 then (spec_IsPackage.f k a1_0 a1_1 a1_2 a1_3 a1_4 a1_5 a1_6 a1_7).bind fun t3 => (bif t3 then (spec_PackageInts.f k a1_0 a1_1 a1_2 a1_3 a1_4 a1_5 a1_6 a1_7).bind fun t4 => (spec_KeyedHash.f k a0 t4).bind fun t5 => some (t1.1, t1.2.1, t1.2.2.1, t5, t1.2.2.2.2.1, t1.2.2.2.2.2.1, t1.2.2.2.2.2.2.1, t1.2.2.2.2.2.2.2) else some (t1.1, t1.2.1, t1.2.2.1, (0 : Int), t1.2.2.2.2.1, t1.2.2.2.2.2.1, t1.2.2.2.2.2.2.1, t1.2.2.2.2.2.2.2)) else some (t1.1, t1.2.1, t1.2.2.1, (0 : Int), t1.2.2.2.2.1, t1.2.2.2.2.2.1, t1.2.2.2.2.2.2.1, t1.2.2.2.2.2.2.2))
def spec_SealPackage.Γ (k : Nat) : Ct κ := assoc [(39, spec_l26Copy.C k), (90, spec_IsValidKey.C k), (91, spec_IsPackage.C k), (93, spec_PackageInts.C k), (92, spec_KeyedHash.C k)]
def spec_SealPackage.LH (k : Nat) : Nat → Option (LHi κ) := assoc []
theorem spec_SealPackage.hΓ (k : Nat) : ∀ f g, spec_SealPackage.Γ k f = some g → CSound Tryz.prog f g := G_cons (spec_l26Copy.ok k) (G_cons (spec_IsValidKey.ok k) (G_cons (spec_IsPackage.ok k) (G_cons (spec_PackageInts.ok k) (G_cons (spec_KeyedHash.ok k) G_nil))))
theorem spec_SealPackage.lok (k : Nat) : LOK ti (spec_SealPackage.Γ k) (spec_SealPackage.LH k) 4 (loopsOf (bodyOf Tryz.f56)) :=
  (show loopsOf (bodyOf Tryz.f56) = [] by kernel_rfl) ▸ LOK_nil
def spec_SealPackage.sig : List PSh := [.one .sc, .agg [.sc, .sc, .sc, .ro 2, .ro 3, .ro 4, .ro 1, .sc]]
def spec_SealPackage.g (y : Int × Int × Int × Int × List T_impl_Grant × List T_impl_Flow × List T_impl_Rule × List T_impl_Op) : Ret κ := ⟨.agg [.int .i64 y.1, .int .i64 y.2.1, .int .i64 y.2.2.1, .sl 4, .sl 5, .sl 6, .sl 7, .int .i64 y.2.2.2.1], [], [.rows 2 true y.2.2.2.2.1, .rows 3 true y.2.2.2.2.2.1, .rows 4 true y.2.2.2.2.2.2.1, .rows 1 true y.2.2.2.2.2.2.2]⟩
def spec_SealPackage.out (r : Ret κ) : Option (Int × Int × Int × Int × List T_impl_Grant × List T_impl_Flow × List T_impl_Rule × List T_impl_Op) :=
  match r with
  | ⟨.agg [.int .i64 z0, .int .i64 z1, .int .i64 z2, .sl 4, .sl 5, .sl 6, .sl 7, .int .i64 z3], [], [q4, q5, q6, q7]⟩ => (asO 2 true q4).bind fun z4 => (asO 3 true q5).bind fun z5 => (asO 4 true q6).bind fun z6 => (asO 1 true q7).bind fun z7 => some (z0, z1, z2, z3, z4, z5, z6, z7)
  | _ => none
theorem spec_SealPackage.out_ok (r : Ret κ) (y : Int × Int × Int × Int × List T_impl_Grant × List T_impl_Flow × List T_impl_Rule × List T_impl_Op) (h : spec_SealPackage.out r = some y) : r = spec_SealPackage.g y := by
  unfold spec_SealPackage.out at h
  split at h
  · obtain ⟨_, rfl, h_1⟩ := asO_bind h
    obtain ⟨_, rfl, h_2⟩ := asO_bind h_1
    obtain ⟨_, rfl, h_3⟩ := asO_bind h_2
    obtain ⟨_, rfl, h_4⟩ := asO_bind h_3
    obtain rfl := Option.some.inj h_4
    rfl
  · cases h
def spec_SealPackage.body (k : Nat) (vs : List AV) (bs : List (Blk κ)) : Option (Lf κ) :=
  match vs, bs with
  | [.v (.int .i64 a0), .agg [.int .i64 a1_0, .int .i64 a1_1, .int .i64 a1_2, .sl 0, .sl 1, .sl 2, .sl 3, .int .i64 a1_7]], [qb0, qb1, qb2, qb3] => (asO 2 false qb0).bind fun a1_3 => (asO 3 false qb1).bind fun a1_4 => (asO 4 false qb2).bind fun a1_5 => (asO 1 false qb3).bind fun a1_6 => some ⟨Int × Int × Int × Int × List T_impl_Grant × List T_impl_Flow × List T_impl_Rule × List T_impl_Op, spec_SealPackage.f k a0 a1_0 a1_1 a1_2 a1_3 a1_4 a1_5 a1_6 a1_7, spec_SealPackage.g⟩
  | _, _ => none
def spec_SealPackage.C (k : Nat) : Nat → List AV → AP κ AV := contract spec_SealPackage.sig (spec_SealPackage.body k)
theorem spec_SealPackage.den (k : Nat) (a0 : Int) (a1_0 : Int) (a1_1 : Int) (a1_2 : Int) (a1_3 : List T_impl_Grant) (a1_4 : List T_impl_Flow) (a1_5 : List T_impl_Rule) (a1_6 : List T_impl_Op) (a1_7 : Int) : Code.den ti (spec_SealPackage.Γ k) (spec_SealPackage.LH k) (bodyOf Tryz.f56) (finK ti Tryz.f56.results.toList [(4, [none, none, none, some 2, some 3, some 4, some 1, none])] (flags spec_SealPackage.sig).length (rwI (flags spec_SealPackage.sig) 0) spec_SealPackage.out) ⟨envOf (([.v (.int .i64 a0), .agg [.int .i64 a1_0, .int .i64 a1_1, .int .i64 a1_2, .sl 0, .sl 1, .sl 2, .sl 3, .int .i64 a1_7]]).zipIdx.map fun q => (q.2, q.1)), hpOf [.rows 2 false a1_3, .rows 3 false a1_4, .rows 4 false a1_5, .rows 1 false a1_6], (flags spec_SealPackage.sig).length⟩ = spec_SealPackage.f k a0 a1_0 a1_1 a1_2 a1_3 a1_4 a1_5 a1_6 a1_7 := by kernel_rfl
theorem spec_SealPackage.ok (k : Nat) : CSound Tryz.prog 56 (spec_SealPackage.C k) :=
  csound κ_ok mixed tok (spec_SealPackage.hΓ k) (LH := spec_SealPackage.LH k) (fn := Tryz.f56) (c := bodyOf Tryz.f56) Tryz.func56 rfl Tryz.call56 spec_SealPackage.sig [(4, [none, none, none, some 2, some 3, some 4, some 1, none])] (spec_SealPackage.body k) (by kernel_rfl) (spec_SealPackage.lok k) (by decide) fun vs bs lf y hl hb hy => by
    unfold spec_SealPackage.body at hb
    split at hb
    · obtain ⟨_, rfl, hb_1⟩ := asO_bind hb
      obtain ⟨_, rfl, hb_2⟩ := asO_bind hb_1
      obtain ⟨_, rfl, hb_3⟩ := asO_bind hb_2
      obtain ⟨_, rfl, hb_4⟩ := asO_bind hb_3
      obtain rfl := Option.some.inj hb_4
      exact ⟨spec_SealPackage.out, spec_SealPackage.out_ok, (spec_SealPackage.den k _ _ _ _ _ _ _ _ _).trans hy⟩
    · cases hb
/-! ### spec_l26Draw -/
def spec_l26Draw.L3 {R : Type} (k : Nat) (x1 : Int) (xl1 : List Int) (xc2_0 : Int) (xc2_1 : Int) (xc2_2 : Int) (xc2_7 : Int) (xc3_0 : Int) (xc3_1 : Int) (xc3_2 : Int) (xc3_7 : Int) (xl4 : List T_impl_Grant) (xl5 : List T_impl_Flow) (xl6 : List T_impl_Rule) (xl7 : List T_impl_Op) (xl9 : List T_impl_Flow) (xl10 : List T_impl_Rule) (xl11 : List T_impl_Op) (X0 : Int → Int → List T_impl_Grant → Option R) (rec : Int → Int → Int → List T_impl_Grant → Option R) (x4 : Int) (xc0_1 : Int) (xc0_2 : Int) (xl8 : List T_impl_Grant) : Option R :=
  (bif decide (x4 > (0 : Int)) then (spec_l10Draw.f k xl1 xc0_1 xc0_2).bind fun t5 => (bif decide ((xl8.length + ([(⟨x1, (⟨t5.2.1, t5.2.2.1⟩ : T_impl_Pattern), t5.2.2.2.1, t5.2.2.2.2.1, t5.2.2.2.2.2.1, t5.2.2.2.2.2.2.1⟩ : T_impl_Grant)] : List T_impl_Grant).length) * 56 ≤ cap48) then (let l6 : List T_impl_Grant := (xl8 ++ ([(⟨x1, (⟨t5.2.1, t5.2.2.1⟩ : T_impl_Pattern), t5.2.2.2.1, t5.2.2.2.2.1, t5.2.2.2.2.2.1, t5.2.2.2.2.2.2.1⟩ : T_impl_Grant)] : List T_impl_Grant)); (rec (w64 (x4 - (1 : Int))) t5.2.2.2.2.2.2.2.1 t5.2.2.2.2.2.2.2.2 l6)) else none) else (X0 xc0_1 xc0_2 xl8))
def spec_l26Draw.l3 {R : Type} (k : Nat) (x1 : Int) (xl1 : List Int) (xc2_0 : Int) (xc2_1 : Int) (xc2_2 : Int) (xc2_7 : Int) (xc3_0 : Int) (xc3_1 : Int) (xc3_2 : Int) (xc3_7 : Int) (xl4 : List T_impl_Grant) (xl5 : List T_impl_Flow) (xl6 : List T_impl_Rule) (xl7 : List T_impl_Op) (xl9 : List T_impl_Flow) (xl10 : List T_impl_Rule) (xl11 : List T_impl_Op) (X0 : Int → Int → List T_impl_Grant → Option R) : Nat → Int → Int → Int → List T_impl_Grant → Option R
  | 0 => fun _ _ _ _ => none
  | n + 1 => spec_l26Draw.L3 k x1 xl1 xc2_0 xc2_1 xc2_2 xc2_7 xc3_0 xc3_1 xc3_2 xc3_7 xl4 xl5 xl6 xl7 xl9 xl10 xl11 X0 (spec_l26Draw.l3 k x1 xl1 xc2_0 xc2_1 xc2_2 xc2_7 xc3_0 xc3_1 xc3_2 xc3_7 xl4 xl5 xl6 xl7 xl9 xl10 xl11 X0 n)
def spec_l26Draw.L9 {R : Type} (k : Nat) (x1 : Int) (xl1 : List Int) (xc2_0 : Int) (xc2_1 : Int) (xc2_2 : Int) (xc2_7 : Int) (xc3_0 : Int) (xc3_1 : Int) (xc3_2 : Int) (xc3_7 : Int) (xl4 : List T_impl_Grant) (xl5 : List T_impl_Flow) (xl6 : List T_impl_Rule) (xl7 : List T_impl_Op) (xl8 : List T_impl_Grant) (xl10 : List T_impl_Rule) (xl11 : List T_impl_Op) (X0 : Int → Int → List T_impl_Flow → Option R) (rec : Int → Int → Int → List T_impl_Flow → Option R) (x4 : Int) (xc0_1 : Int) (xc0_2 : Int) (xl9 : List T_impl_Flow) : Option R :=
  (bif decide (x4 > (0 : Int)) then (spec_l20Draw.f k xl1 xc0_1 xc0_2).bind fun t11 => (bif decide ((xl9.length + ([(⟨x1, t11.2.1, t11.2.2.1⟩ : T_impl_Flow)] : List T_impl_Flow).length) * 24 ≤ cap48) then (let l12 : List T_impl_Flow := (xl9 ++ ([(⟨x1, t11.2.1, t11.2.2.1⟩ : T_impl_Flow)] : List T_impl_Flow)); (rec (w64 (x4 - (1 : Int))) t11.2.2.2.1 t11.2.2.2.2 l12)) else none) else (X0 xc0_1 xc0_2 xl9))
def spec_l26Draw.l9 {R : Type} (k : Nat) (x1 : Int) (xl1 : List Int) (xc2_0 : Int) (xc2_1 : Int) (xc2_2 : Int) (xc2_7 : Int) (xc3_0 : Int) (xc3_1 : Int) (xc3_2 : Int) (xc3_7 : Int) (xl4 : List T_impl_Grant) (xl5 : List T_impl_Flow) (xl6 : List T_impl_Rule) (xl7 : List T_impl_Op) (xl8 : List T_impl_Grant) (xl10 : List T_impl_Rule) (xl11 : List T_impl_Op) (X0 : Int → Int → List T_impl_Flow → Option R) : Nat → Int → Int → Int → List T_impl_Flow → Option R
  | 0 => fun _ _ _ _ => none
  | n + 1 => spec_l26Draw.L9 k x1 xl1 xc2_0 xc2_1 xc2_2 xc2_7 xc3_0 xc3_1 xc3_2 xc3_7 xl4 xl5 xl6 xl7 xl8 xl10 xl11 X0 (spec_l26Draw.l9 k x1 xl1 xc2_0 xc2_1 xc2_2 xc2_7 xc3_0 xc3_1 xc3_2 xc3_7 xl4 xl5 xl6 xl7 xl8 xl10 xl11 X0 n)
def spec_l26Draw.L15 {R : Type} (k : Nat) (x1 : Int) (xl1 : List Int) (xc2_0 : Int) (xc2_1 : Int) (xc2_2 : Int) (xc2_7 : Int) (xc3_0 : Int) (xc3_1 : Int) (xc3_2 : Int) (xc3_7 : Int) (xl4 : List T_impl_Grant) (xl5 : List T_impl_Flow) (xl6 : List T_impl_Rule) (xl7 : List T_impl_Op) (xl8 : List T_impl_Grant) (xl9 : List T_impl_Flow) (xl11 : List T_impl_Op) (X0 : Int → Int → List T_impl_Rule → Option R) (rec : Int → Int → Int → List T_impl_Rule → Option R) (x4 : Int) (xc0_1 : Int) (xc0_2 : Int) (xl10 : List T_impl_Rule) : Option R :=
  (bif decide (x4 > (0 : Int)) then (spec_l13Draw.f k xl1 xc0_1 xc0_2).bind fun t17 => (bif decide ((xl10.length + ([(⟨x1, t17.2.1, (⟨t17.2.2.1, t17.2.2.2.1⟩ : T_impl_Pattern), t17.2.2.2.2.1, t17.2.2.2.2.2.1, (⟨t17.2.2.2.2.2.2.1, t17.2.2.2.2.2.2.2.1⟩ : T_impl_Site)⟩ : T_impl_Rule)] : List T_impl_Rule).length) * 64 ≤ cap48) then (let l18 : List T_impl_Rule := (xl10 ++ ([(⟨x1, t17.2.1, (⟨t17.2.2.1, t17.2.2.2.1⟩ : T_impl_Pattern), t17.2.2.2.2.1, t17.2.2.2.2.2.1, (⟨t17.2.2.2.2.2.2.1, t17.2.2.2.2.2.2.2.1⟩ : T_impl_Site)⟩ : T_impl_Rule)] : List T_impl_Rule)); (rec (w64 (x4 - (1 : Int))) t17.2.2.2.2.2.2.2.2.1 t17.2.2.2.2.2.2.2.2.2 l18)) else none) else (X0 xc0_1 xc0_2 xl10))
def spec_l26Draw.l15 {R : Type} (k : Nat) (x1 : Int) (xl1 : List Int) (xc2_0 : Int) (xc2_1 : Int) (xc2_2 : Int) (xc2_7 : Int) (xc3_0 : Int) (xc3_1 : Int) (xc3_2 : Int) (xc3_7 : Int) (xl4 : List T_impl_Grant) (xl5 : List T_impl_Flow) (xl6 : List T_impl_Rule) (xl7 : List T_impl_Op) (xl8 : List T_impl_Grant) (xl9 : List T_impl_Flow) (xl11 : List T_impl_Op) (X0 : Int → Int → List T_impl_Rule → Option R) : Nat → Int → Int → Int → List T_impl_Rule → Option R
  | 0 => fun _ _ _ _ => none
  | n + 1 => spec_l26Draw.L15 k x1 xl1 xc2_0 xc2_1 xc2_2 xc2_7 xc3_0 xc3_1 xc3_2 xc3_7 xl4 xl5 xl6 xl7 xl8 xl9 xl11 X0 (spec_l26Draw.l15 k x1 xl1 xc2_0 xc2_1 xc2_2 xc2_7 xc3_0 xc3_1 xc3_2 xc3_7 xl4 xl5 xl6 xl7 xl8 xl9 xl11 X0 n)
def spec_l26Draw.f (k : Nat) (a0_0 : List Int) (a0_1 : Int) (a0_2 : Int) (a1 : Int) : Option (Int × Int × Int × Int × Int × Int × List T_impl_Grant × List T_impl_Flow × List T_impl_Rule × List T_impl_Op) :=
  (spec_l1Below.f k a0_0 a0_1 a0_2 (3 : Int)).bind fun t1 => (spec_l1Below.f k a0_0 t1.2.1 t1.2.2 (3 : Int)).bind fun t2 => (spec_l21Ops.f k a0_0 t2.2.1 t2.2.2).bind fun t3 => (spec_l1Below.f k a0_0 t3.1 t3.2.1 (4 : Int)).bind fun t4 => (spec_l26Draw.l3 k a1 a0_0 (0 : Int) (0 : Int) (0 : Int) (0 : Int) a1 (w64 ((1 : Int) + t1.1)) (w64 ((1 : Int) + t2.1)) (0 : Int) ([] : List T_impl_Grant) ([] : List T_impl_Flow) ([] : List T_impl_Rule) ([] : List T_impl_Op) ([] : List T_impl_Flow) ([] : List T_impl_Rule) t3.2.2 (fun (y7 : Int) (y8 : Int) (y9 : List T_impl_Grant) => (spec_l1Below.f k a0_0 y7 y8 (4 : Int)).bind fun t10 => (spec_l26Draw.l9 k a1 a0_0 (0 : Int) (0 : Int) (0 : Int) (0 : Int) a1 (w64 ((1 : Int) + t1.1)) (w64 ((1 : Int) + t2.1)) (0 : Int) ([] : List T_impl_Grant) ([] : List T_impl_Flow) ([] : List T_impl_Rule) ([] : List T_impl_Op) y9 ([] : List T_impl_Rule) t3.2.2 (fun (y13 : Int) (y14 : Int) (y15 : List T_impl_Flow) => (spec_l1Below.f k a0_0 y13 y14 (3 : Int)).bind fun t16 => (spec_l26Draw.l15 k a1 a0_0 (0 : Int) (0 : Int) (0 : Int) (0 : Int) a1 (w64 ((1 : Int) + t1.1)) (w64 ((1 : Int) + t2.1)) (0 : Int) ([] : List T_impl_Grant) ([] : List T_impl_Flow) ([] : List T_impl_Rule) ([] : List T_impl_Op) y9 y15 t3.2.2 (fun (y19 : Int) (y20 : Int) (y21 : List T_impl_Rule) => (spec_SealPackage.f k (5 : Int) a1 (w64 ((1 : Int) + t1.1)) (w64 ((1 : Int) + t2.1)) y9 y15 y21 t3.2.2 (0 : Int)).bind fun t22 => some (t22.1, t22.2.1, t22.2.2.1, t22.2.2.2.1, y19, y20, t22.2.2.2.2.1, t22.2.2.2.2.2.1, t22.2.2.2.2.2.2.1, t22.2.2.2.2.2.2.2)) k t16.1 t16.2.1 t16.2.2 ([] : List T_impl_Rule))) k t10.1 t10.2.1 t10.2.2 ([] : List T_impl_Flow))) k t4.1 t4.2.1 t4.2.2 ([] : List T_impl_Grant))
def spec_l26Draw.h3 (k : Nat) {R : Type} (K : Ex → St κ → Option R) (vs : List AV) (bs : List (Blk κ)) : Option R :=
  match vs, bs with
  | [.v (.ptr 0 0 0), .v (.int .i64 x1), .v (.ptr 2 0 0), .v (.ptr 3 0 0), .v (.int .i64 x4)], [.cells 79 [.sl 1, .int .i64 xc0_1, .int .i64 xc0_2], qb1, .cells 30 [.int .i64 xc2_0, .int .i64 xc2_1, .int .i64 xc2_2, .sl 4, .sl 5, .sl 6, .sl 7, .int .i64 xc2_7], .cells 30 [.int .i64 xc3_0, .int .i64 xc3_1, .int .i64 xc3_2, .sl 8, .sl 9, .sl 10, .sl 11, .int .i64 xc3_7], qb4, qb5, qb6, qb7, qb8, qb9, qb10, qb11] => (asO 0 false qb1).bind fun xl1 => (asO 2 true qb4).bind fun xl4 => (asO 3 true qb5).bind fun xl5 => (asO 4 true qb6).bind fun xl6 => (asO 1 true qb7).bind fun xl7 => (asO 2 true qb8).bind fun xl8 => (asO 3 true qb9).bind fun xl9 => (asO 4 true qb10).bind fun xl10 => (asO 1 true qb11).bind fun xl11 => spec_l26Draw.l3 k x1 xl1 xc2_0 xc2_1 xc2_2 xc2_7 xc3_0 xc3_1 xc3_2 xc3_7 xl4 xl5 xl6 xl7 xl9 xl10 xl11 (fun (zc0_1 : Int) (zc0_2 : Int) (zl8 : List T_impl_Grant) => K (.exit 0) (stOf [(0, [some 0, none, none]), (1, []), (4, [none, none, none, some 2, some 3, some 4, some 1, none]), (5, [none, none, none, some 2, some 3, some 4, some 1, none])] [.v (.ptr 0 0 0), .v (.int .i64 x1), .v (.ptr 2 0 0), .v (.ptr 3 0 0)] [.cells 79 [.sl 1, .int .i64 zc0_1, .int .i64 zc0_2], .rows 0 false xl1, .cells 30 [.int .i64 xc2_0, .int .i64 xc2_1, .int .i64 xc2_2, .sl 4, .sl 5, .sl 6, .sl 7, .int .i64 xc2_7], .cells 30 [.int .i64 xc3_0, .int .i64 xc3_1, .int .i64 xc3_2, .sl 8, .sl 9, .sl 10, .sl 11, .int .i64 xc3_7], .rows 2 true xl4, .rows 3 true xl5, .rows 4 true xl6, .rows 1 true xl7, .rows 2 true zl8, .rows 3 true xl9, .rows 4 true xl10, .rows 1 true xl11])) k x4 xc0_1 xc0_2 xl8
  | _, _ => none
def spec_l26Draw.h9 (k : Nat) {R : Type} (K : Ex → St κ → Option R) (vs : List AV) (bs : List (Blk κ)) : Option R :=
  match vs, bs with
  | [.v (.ptr 0 0 0), .v (.int .i64 x1), .v (.ptr 2 0 0), .v (.ptr 3 0 0), .v (.int .i64 x4)], [.cells 79 [.sl 1, .int .i64 xc0_1, .int .i64 xc0_2], qb1, .cells 30 [.int .i64 xc2_0, .int .i64 xc2_1, .int .i64 xc2_2, .sl 4, .sl 5, .sl 6, .sl 7, .int .i64 xc2_7], .cells 30 [.int .i64 xc3_0, .int .i64 xc3_1, .int .i64 xc3_2, .sl 8, .sl 9, .sl 10, .sl 11, .int .i64 xc3_7], qb4, qb5, qb6, qb7, qb8, qb9, qb10, qb11] => (asO 0 false qb1).bind fun xl1 => (asO 2 true qb4).bind fun xl4 => (asO 3 true qb5).bind fun xl5 => (asO 4 true qb6).bind fun xl6 => (asO 1 true qb7).bind fun xl7 => (asO 2 true qb8).bind fun xl8 => (asO 3 true qb9).bind fun xl9 => (asO 4 true qb10).bind fun xl10 => (asO 1 true qb11).bind fun xl11 => spec_l26Draw.l9 k x1 xl1 xc2_0 xc2_1 xc2_2 xc2_7 xc3_0 xc3_1 xc3_2 xc3_7 xl4 xl5 xl6 xl7 xl8 xl10 xl11 (fun (zc0_1 : Int) (zc0_2 : Int) (zl9 : List T_impl_Flow) => K (.exit 2) (stOf [(0, [some 0, none, none]), (1, []), (4, [none, none, none, some 2, some 3, some 4, some 1, none]), (5, [none, none, none, some 2, some 3, some 4, some 1, none])] [.v (.ptr 0 0 0), .v (.int .i64 x1), .v (.ptr 2 0 0), .v (.ptr 3 0 0)] [.cells 79 [.sl 1, .int .i64 zc0_1, .int .i64 zc0_2], .rows 0 false xl1, .cells 30 [.int .i64 xc2_0, .int .i64 xc2_1, .int .i64 xc2_2, .sl 4, .sl 5, .sl 6, .sl 7, .int .i64 xc2_7], .cells 30 [.int .i64 xc3_0, .int .i64 xc3_1, .int .i64 xc3_2, .sl 8, .sl 9, .sl 10, .sl 11, .int .i64 xc3_7], .rows 2 true xl4, .rows 3 true xl5, .rows 4 true xl6, .rows 1 true xl7, .rows 2 true xl8, .rows 3 true zl9, .rows 4 true xl10, .rows 1 true xl11])) k x4 xc0_1 xc0_2 xl9
  | _, _ => none
def spec_l26Draw.h15 (k : Nat) {R : Type} (K : Ex → St κ → Option R) (vs : List AV) (bs : List (Blk κ)) : Option R :=
  match vs, bs with
  | [.v (.ptr 0 0 0), .v (.int .i64 x1), .v (.ptr 2 0 0), .v (.ptr 3 0 0), .v (.int .i64 x4)], [.cells 79 [.sl 1, .int .i64 xc0_1, .int .i64 xc0_2], qb1, .cells 30 [.int .i64 xc2_0, .int .i64 xc2_1, .int .i64 xc2_2, .sl 4, .sl 5, .sl 6, .sl 7, .int .i64 xc2_7], .cells 30 [.int .i64 xc3_0, .int .i64 xc3_1, .int .i64 xc3_2, .sl 8, .sl 9, .sl 10, .sl 11, .int .i64 xc3_7], qb4, qb5, qb6, qb7, qb8, qb9, qb10, qb11] => (asO 0 false qb1).bind fun xl1 => (asO 2 true qb4).bind fun xl4 => (asO 3 true qb5).bind fun xl5 => (asO 4 true qb6).bind fun xl6 => (asO 1 true qb7).bind fun xl7 => (asO 2 true qb8).bind fun xl8 => (asO 3 true qb9).bind fun xl9 => (asO 4 true qb10).bind fun xl10 => (asO 1 true qb11).bind fun xl11 => spec_l26Draw.l15 k x1 xl1 xc2_0 xc2_1 xc2_2 xc2_7 xc3_0 xc3_1 xc3_2 xc3_7 xl4 xl5 xl6 xl7 xl8 xl9 xl11 (fun (zc0_1 : Int) (zc0_2 : Int) (zl10 : List T_impl_Rule) => K (.exit 4) (stOf [(4, [none, none, none, some 2, some 3, some 4, some 1, none]), (5, [none, none, none, some 2, some 3, some 4, some 1, none])] [.v (.ptr 2 0 0), .v (.ptr 3 0 0)] [.cells 79 [.sl 1, .int .i64 zc0_1, .int .i64 zc0_2], .rows 0 false xl1, .cells 30 [.int .i64 xc2_0, .int .i64 xc2_1, .int .i64 xc2_2, .sl 4, .sl 5, .sl 6, .sl 7, .int .i64 xc2_7], .cells 30 [.int .i64 xc3_0, .int .i64 xc3_1, .int .i64 xc3_2, .sl 8, .sl 9, .sl 10, .sl 11, .int .i64 xc3_7], .rows 2 true xl4, .rows 3 true xl5, .rows 4 true xl6, .rows 1 true xl7, .rows 2 true xl8, .rows 3 true xl9, .rows 4 true zl10, .rows 1 true xl11])) k x4 xc0_1 xc0_2 xl10
  | _, _ => none
def spec_l26Draw.Γ (k : Nat) : Ct κ := assoc [(18, spec_l1Below.C k), (87, spec_l21Ops.C k), (104, spec_l10Draw.C k), (71, spec_l20Draw.C k), (88, spec_l13Draw.C k), (56, spec_SealPackage.C k)]
def spec_l26Draw.LH (k : Nat) : Nat → Option (LHi κ) := assoc [(3, ⟨2, [(0, [some 0, none, none]), (1, []), (4, [none, none, none, some 2, some 3, some 4, some 1, none]), (5, [none, none, none, some 2, some 3, some 4, some 1, none]), (6, [])], [(0, [some 0, none, none]), (1, []), (4, [none, none, none, some 2, some 3, some 4, some 1, none]), (5, [none, none, none, some 2, some 3, some 4, some 1, none])], @spec_l26Draw.h3 k⟩), (9, ⟨2, [(0, [some 0, none, none]), (1, []), (4, [none, none, none, some 2, some 3, some 4, some 1, none]), (5, [none, none, none, some 2, some 3, some 4, some 1, none]), (8, [])], [(0, [some 0, none, none]), (1, []), (4, [none, none, none, some 2, some 3, some 4, some 1, none]), (5, [none, none, none, some 2, some 3, some 4, some 1, none])], @spec_l26Draw.h9 k⟩), (15, ⟨2, [(0, [some 0, none, none]), (1, []), (4, [none, none, none, some 2, some 3, some 4, some 1, none]), (5, [none, none, none, some 2, some 3, some 4, some 1, none]), (10, [])], [(4, [none, none, none, some 2, some 3, some 4, some 1, none]), (5, [none, none, none, some 2, some 3, some 4, some 1, none])], @spec_l26Draw.h15 k⟩)]
theorem spec_l26Draw.hΓ (k : Nat) : ∀ f g, spec_l26Draw.Γ k f = some g → CSound Tryz.prog f g := G_cons (spec_l1Below.ok k) (G_cons (spec_l21Ops.ok k) (G_cons (spec_l10Draw.ok k) (G_cons (spec_l20Draw.ok k) (G_cons (spec_l13Draw.ok k) (G_cons (spec_SealPackage.ok k) G_nil)))))
theorem spec_l26Draw.e3 {R : Type} (K : Ex → St κ → Option R) (k : Nat) (x1 : Int) (xl1 : List Int) (xc2_0 : Int) (xc2_1 : Int) (xc2_2 : Int) (xc2_7 : Int) (xc3_0 : Int) (xc3_1 : Int) (xc3_2 : Int) (xc3_7 : Int) (xl4 : List T_impl_Grant) (xl5 : List T_impl_Flow) (xl6 : List T_impl_Rule) (xl7 : List T_impl_Op) (xl9 : List T_impl_Flow) (xl10 : List T_impl_Rule) (xl11 : List T_impl_Op) : ∀ (n : Nat) (x4 : Int) (xc0_1 : Int) (xc0_2 : Int) (xl8 : List T_impl_Grant), loopN 2 (Code.den ti (spec_l26Draw.Γ k) (spec_l26Draw.LH k) (loopAt Tryz.f69 0)) [(0, [some 0, none, none]), (1, []), (4, [none, none, none, some 2, some 3, some 4, some 1, none]), (5, [none, none, none, some 2, some 3, some 4, some 1, none]), (6, [])] [(0, [some 0, none, none]), (1, []), (4, [none, none, none, some 2, some 3, some 4, some 1, none]), (5, [none, none, none, some 2, some 3, some 4, some 1, none])] K n [.v (.ptr 0 0 0), .v (.int .i64 x1), .v (.ptr 2 0 0), .v (.ptr 3 0 0), .v (.int .i64 x4)] [.cells 79 [.sl 1, .int .i64 xc0_1, .int .i64 xc0_2], .rows 0 false xl1, .cells 30 [.int .i64 xc2_0, .int .i64 xc2_1, .int .i64 xc2_2, .sl 4, .sl 5, .sl 6, .sl 7, .int .i64 xc2_7], .cells 30 [.int .i64 xc3_0, .int .i64 xc3_1, .int .i64 xc3_2, .sl 8, .sl 9, .sl 10, .sl 11, .int .i64 xc3_7], .rows 2 true xl4, .rows 3 true xl5, .rows 4 true xl6, .rows 1 true xl7, .rows 2 true xl8, .rows 3 true xl9, .rows 4 true xl10, .rows 1 true xl11] = spec_l26Draw.l3 k x1 xl1 xc2_0 xc2_1 xc2_2 xc2_7 xc3_0 xc3_1 xc3_2 xc3_7 xl4 xl5 xl6 xl7 xl9 xl10 xl11 (fun (zc0_1 : Int) (zc0_2 : Int) (zl8 : List T_impl_Grant) => K (.exit 0) (stOf [(0, [some 0, none, none]), (1, []), (4, [none, none, none, some 2, some 3, some 4, some 1, none]), (5, [none, none, none, some 2, some 3, some 4, some 1, none])] [.v (.ptr 0 0 0), .v (.int .i64 x1), .v (.ptr 2 0 0), .v (.ptr 3 0 0)] [.cells 79 [.sl 1, .int .i64 zc0_1, .int .i64 zc0_2], .rows 0 false xl1, .cells 30 [.int .i64 xc2_0, .int .i64 xc2_1, .int .i64 xc2_2, .sl 4, .sl 5, .sl 6, .sl 7, .int .i64 xc2_7], .cells 30 [.int .i64 xc3_0, .int .i64 xc3_1, .int .i64 xc3_2, .sl 8, .sl 9, .sl 10, .sl 11, .int .i64 xc3_7], .rows 2 true xl4, .rows 3 true xl5, .rows 4 true xl6, .rows 1 true xl7, .rows 2 true zl8, .rows 3 true xl9, .rows 4 true xl10, .rows 1 true xl11])) n x4 xc0_1 xc0_2 xl8
  | 0, _, _, _, _ => rfl
  | n + 1, x4, xc0_1, xc0_2, xl8 => (show loopN 2 (Code.den ti (spec_l26Draw.Γ k) (spec_l26Draw.LH k) (loopAt Tryz.f69 0)) [(0, [some 0, none, none]), (1, []), (4, [none, none, none, some 2, some 3, some 4, some 1, none]), (5, [none, none, none, some 2, some 3, some 4, some 1, none]), (6, [])] [(0, [some 0, none, none]), (1, []), (4, [none, none, none, some 2, some 3, some 4, some 1, none]), (5, [none, none, none, some 2, some 3, some 4, some 1, none])] K (n + 1) [.v (.ptr 0 0 0), .v (.int .i64 x1), .v (.ptr 2 0 0), .v (.ptr 3 0 0), .v (.int .i64 x4)] [.cells 79 [.sl 1, .int .i64 xc0_1, .int .i64 xc0_2], .rows 0 false xl1, .cells 30 [.int .i64 xc2_0, .int .i64 xc2_1, .int .i64 xc2_2, .sl 4, .sl 5, .sl 6, .sl 7, .int .i64 xc2_7], .cells 30 [.int .i64 xc3_0, .int .i64 xc3_1, .int .i64 xc3_2, .sl 8, .sl 9, .sl 10, .sl 11, .int .i64 xc3_7], .rows 2 true xl4, .rows 3 true xl5, .rows 4 true xl6, .rows 1 true xl7, .rows 2 true xl8, .rows 3 true xl9, .rows 4 true xl10, .rows 1 true xl11] = spec_l26Draw.L3 k x1 xl1 xc2_0 xc2_1 xc2_2 xc2_7 xc3_0 xc3_1 xc3_2 xc3_7 xl4 xl5 xl6 xl7 xl9 xl10 xl11 (fun (zc0_1 : Int) (zc0_2 : Int) (zl8 : List T_impl_Grant) => K (.exit 0) (stOf [(0, [some 0, none, none]), (1, []), (4, [none, none, none, some 2, some 3, some 4, some 1, none]), (5, [none, none, none, some 2, some 3, some 4, some 1, none])] [.v (.ptr 0 0 0), .v (.int .i64 x1), .v (.ptr 2 0 0), .v (.ptr 3 0 0)] [.cells 79 [.sl 1, .int .i64 zc0_1, .int .i64 zc0_2], .rows 0 false xl1, .cells 30 [.int .i64 xc2_0, .int .i64 xc2_1, .int .i64 xc2_2, .sl 4, .sl 5, .sl 6, .sl 7, .int .i64 xc2_7], .cells 30 [.int .i64 xc3_0, .int .i64 xc3_1, .int .i64 xc3_2, .sl 8, .sl 9, .sl 10, .sl 11, .int .i64 xc3_7], .rows 2 true xl4, .rows 3 true xl5, .rows 4 true xl6, .rows 1 true xl7, .rows 2 true zl8, .rows 3 true xl9, .rows 4 true xl10, .rows 1 true xl11])) (fun (x4' : Int) (xc0_1' : Int) (xc0_2' : Int) (xl8' : List T_impl_Grant) => loopN 2 (Code.den ti (spec_l26Draw.Γ k) (spec_l26Draw.LH k) (loopAt Tryz.f69 0)) [(0, [some 0, none, none]), (1, []), (4, [none, none, none, some 2, some 3, some 4, some 1, none]), (5, [none, none, none, some 2, some 3, some 4, some 1, none]), (6, [])] [(0, [some 0, none, none]), (1, []), (4, [none, none, none, some 2, some 3, some 4, some 1, none]), (5, [none, none, none, some 2, some 3, some 4, some 1, none])] K n [.v (.ptr 0 0 0), .v (.int .i64 x1), .v (.ptr 2 0 0), .v (.ptr 3 0 0), .v (.int .i64 x4')] [.cells 79 [.sl 1, .int .i64 xc0_1', .int .i64 xc0_2'], .rows 0 false xl1, .cells 30 [.int .i64 xc2_0, .int .i64 xc2_1, .int .i64 xc2_2, .sl 4, .sl 5, .sl 6, .sl 7, .int .i64 xc2_7], .cells 30 [.int .i64 xc3_0, .int .i64 xc3_1, .int .i64 xc3_2, .sl 8, .sl 9, .sl 10, .sl 11, .int .i64 xc3_7], .rows 2 true xl4, .rows 3 true xl5, .rows 4 true xl6, .rows 1 true xl7, .rows 2 true xl8', .rows 3 true xl9, .rows 4 true xl10, .rows 1 true xl11]) x4 xc0_1 xc0_2 xl8 by kernel_rfl).trans (congrArg (fun rec => spec_l26Draw.L3 k x1 xl1 xc2_0 xc2_1 xc2_2 xc2_7 xc3_0 xc3_1 xc3_2 xc3_7 xl4 xl5 xl6 xl7 xl9 xl10 xl11 (fun (zc0_1 : Int) (zc0_2 : Int) (zl8 : List T_impl_Grant) => K (.exit 0) (stOf [(0, [some 0, none, none]), (1, []), (4, [none, none, none, some 2, some 3, some 4, some 1, none]), (5, [none, none, none, some 2, some 3, some 4, some 1, none])] [.v (.ptr 0 0 0), .v (.int .i64 x1), .v (.ptr 2 0 0), .v (.ptr 3 0 0)] [.cells 79 [.sl 1, .int .i64 zc0_1, .int .i64 zc0_2], .rows 0 false xl1, .cells 30 [.int .i64 xc2_0, .int .i64 xc2_1, .int .i64 xc2_2, .sl 4, .sl 5, .sl 6, .sl 7, .int .i64 xc2_7], .cells 30 [.int .i64 xc3_0, .int .i64 xc3_1, .int .i64 xc3_2, .sl 8, .sl 9, .sl 10, .sl 11, .int .i64 xc3_7], .rows 2 true xl4, .rows 3 true xl5, .rows 4 true xl6, .rows 1 true xl7, .rows 2 true zl8, .rows 3 true xl9, .rows 4 true xl10, .rows 1 true xl11])) rec x4 xc0_1 xc0_2 xl8) (funext fun x4' => funext fun xc0_1' => funext fun xc0_2' => funext fun xl8' => spec_l26Draw.e3 K k x1 xl1 xc2_0 xc2_1 xc2_2 xc2_7 xc3_0 xc3_1 xc3_2 xc3_7 xl4 xl5 xl6 xl7 xl9 xl10 xl11 n x4' xc0_1' xc0_2' xl8'))
theorem spec_l26Draw.q3 (k : Nat) {R : Type} (K : Ex → St κ → Option R) (vs : List AV) (bs : List (Blk κ)) (r : R) (h : spec_l26Draw.h3 k K vs bs = some r) : ∃ n, loopN 2 (Code.den ti (spec_l26Draw.Γ k) (spec_l26Draw.LH k) (loopAt Tryz.f69 0)) [(0, [some 0, none, none]), (1, []), (4, [none, none, none, some 2, some 3, some 4, some 1, none]), (5, [none, none, none, some 2, some 3, some 4, some 1, none]), (6, [])] [(0, [some 0, none, none]), (1, []), (4, [none, none, none, some 2, some 3, some 4, some 1, none]), (5, [none, none, none, some 2, some 3, some 4, some 1, none])] K n vs bs = some r := by
  unfold spec_l26Draw.h3 at h
  split at h
  · obtain ⟨_, rfl, h_1⟩ := asO_bind h
    obtain ⟨_, rfl, h_2⟩ := asO_bind h_1
    obtain ⟨_, rfl, h_3⟩ := asO_bind h_2
    obtain ⟨_, rfl, h_4⟩ := asO_bind h_3
    obtain ⟨_, rfl, h_5⟩ := asO_bind h_4
    obtain ⟨_, rfl, h_6⟩ := asO_bind h_5
    obtain ⟨_, rfl, h_7⟩ := asO_bind h_6
    obtain ⟨_, rfl, h_8⟩ := asO_bind h_7
    obtain ⟨_, rfl, h_9⟩ := asO_bind h_8
    exact ⟨k, (spec_l26Draw.e3 K k _ _ _ _ _ _ _ _ _ _ _ _ _ _ _ _ _ k _ _ _ _).trans h_9⟩
  · cases h
theorem spec_l26Draw.e9 {R : Type} (K : Ex → St κ → Option R) (k : Nat) (x1 : Int) (xl1 : List Int) (xc2_0 : Int) (xc2_1 : Int) (xc2_2 : Int) (xc2_7 : Int) (xc3_0 : Int) (xc3_1 : Int) (xc3_2 : Int) (xc3_7 : Int) (xl4 : List T_impl_Grant) (xl5 : List T_impl_Flow) (xl6 : List T_impl_Rule) (xl7 : List T_impl_Op) (xl8 : List T_impl_Grant) (xl10 : List T_impl_Rule) (xl11 : List T_impl_Op) : ∀ (n : Nat) (x4 : Int) (xc0_1 : Int) (xc0_2 : Int) (xl9 : List T_impl_Flow), loopN 2 (Code.den ti (spec_l26Draw.Γ k) (spec_l26Draw.LH k) (loopAt Tryz.f69 1)) [(0, [some 0, none, none]), (1, []), (4, [none, none, none, some 2, some 3, some 4, some 1, none]), (5, [none, none, none, some 2, some 3, some 4, some 1, none]), (8, [])] [(0, [some 0, none, none]), (1, []), (4, [none, none, none, some 2, some 3, some 4, some 1, none]), (5, [none, none, none, some 2, some 3, some 4, some 1, none])] K n [.v (.ptr 0 0 0), .v (.int .i64 x1), .v (.ptr 2 0 0), .v (.ptr 3 0 0), .v (.int .i64 x4)] [.cells 79 [.sl 1, .int .i64 xc0_1, .int .i64 xc0_2], .rows 0 false xl1, .cells 30 [.int .i64 xc2_0, .int .i64 xc2_1, .int .i64 xc2_2, .sl 4, .sl 5, .sl 6, .sl 7, .int .i64 xc2_7], .cells 30 [.int .i64 xc3_0, .int .i64 xc3_1, .int .i64 xc3_2, .sl 8, .sl 9, .sl 10, .sl 11, .int .i64 xc3_7], .rows 2 true xl4, .rows 3 true xl5, .rows 4 true xl6, .rows 1 true xl7, .rows 2 true xl8, .rows 3 true xl9, .rows 4 true xl10, .rows 1 true xl11] = spec_l26Draw.l9 k x1 xl1 xc2_0 xc2_1 xc2_2 xc2_7 xc3_0 xc3_1 xc3_2 xc3_7 xl4 xl5 xl6 xl7 xl8 xl10 xl11 (fun (zc0_1 : Int) (zc0_2 : Int) (zl9 : List T_impl_Flow) => K (.exit 2) (stOf [(0, [some 0, none, none]), (1, []), (4, [none, none, none, some 2, some 3, some 4, some 1, none]), (5, [none, none, none, some 2, some 3, some 4, some 1, none])] [.v (.ptr 0 0 0), .v (.int .i64 x1), .v (.ptr 2 0 0), .v (.ptr 3 0 0)] [.cells 79 [.sl 1, .int .i64 zc0_1, .int .i64 zc0_2], .rows 0 false xl1, .cells 30 [.int .i64 xc2_0, .int .i64 xc2_1, .int .i64 xc2_2, .sl 4, .sl 5, .sl 6, .sl 7, .int .i64 xc2_7], .cells 30 [.int .i64 xc3_0, .int .i64 xc3_1, .int .i64 xc3_2, .sl 8, .sl 9, .sl 10, .sl 11, .int .i64 xc3_7], .rows 2 true xl4, .rows 3 true xl5, .rows 4 true xl6, .rows 1 true xl7, .rows 2 true xl8, .rows 3 true zl9, .rows 4 true xl10, .rows 1 true xl11])) n x4 xc0_1 xc0_2 xl9
  | 0, _, _, _, _ => rfl
  | n + 1, x4, xc0_1, xc0_2, xl9 => (show loopN 2 (Code.den ti (spec_l26Draw.Γ k) (spec_l26Draw.LH k) (loopAt Tryz.f69 1)) [(0, [some 0, none, none]), (1, []), (4, [none, none, none, some 2, some 3, some 4, some 1, none]), (5, [none, none, none, some 2, some 3, some 4, some 1, none]), (8, [])] [(0, [some 0, none, none]), (1, []), (4, [none, none, none, some 2, some 3, some 4, some 1, none]), (5, [none, none, none, some 2, some 3, some 4, some 1, none])] K (n + 1) [.v (.ptr 0 0 0), .v (.int .i64 x1), .v (.ptr 2 0 0), .v (.ptr 3 0 0), .v (.int .i64 x4)] [.cells 79 [.sl 1, .int .i64 xc0_1, .int .i64 xc0_2], .rows 0 false xl1, .cells 30 [.int .i64 xc2_0, .int .i64 xc2_1, .int .i64 xc2_2, .sl 4, .sl 5, .sl 6, .sl 7, .int .i64 xc2_7], .cells 30 [.int .i64 xc3_0, .int .i64 xc3_1, .int .i64 xc3_2, .sl 8, .sl 9, .sl 10, .sl 11, .int .i64 xc3_7], .rows 2 true xl4, .rows 3 true xl5, .rows 4 true xl6, .rows 1 true xl7, .rows 2 true xl8, .rows 3 true xl9, .rows 4 true xl10, .rows 1 true xl11] = spec_l26Draw.L9 k x1 xl1 xc2_0 xc2_1 xc2_2 xc2_7 xc3_0 xc3_1 xc3_2 xc3_7 xl4 xl5 xl6 xl7 xl8 xl10 xl11 (fun (zc0_1 : Int) (zc0_2 : Int) (zl9 : List T_impl_Flow) => K (.exit 2) (stOf [(0, [some 0, none, none]), (1, []), (4, [none, none, none, some 2, some 3, some 4, some 1, none]), (5, [none, none, none, some 2, some 3, some 4, some 1, none])] [.v (.ptr 0 0 0), .v (.int .i64 x1), .v (.ptr 2 0 0), .v (.ptr 3 0 0)] [.cells 79 [.sl 1, .int .i64 zc0_1, .int .i64 zc0_2], .rows 0 false xl1, .cells 30 [.int .i64 xc2_0, .int .i64 xc2_1, .int .i64 xc2_2, .sl 4, .sl 5, .sl 6, .sl 7, .int .i64 xc2_7], .cells 30 [.int .i64 xc3_0, .int .i64 xc3_1, .int .i64 xc3_2, .sl 8, .sl 9, .sl 10, .sl 11, .int .i64 xc3_7], .rows 2 true xl4, .rows 3 true xl5, .rows 4 true xl6, .rows 1 true xl7, .rows 2 true xl8, .rows 3 true zl9, .rows 4 true xl10, .rows 1 true xl11])) (fun (x4' : Int) (xc0_1' : Int) (xc0_2' : Int) (xl9' : List T_impl_Flow) => loopN 2 (Code.den ti (spec_l26Draw.Γ k) (spec_l26Draw.LH k) (loopAt Tryz.f69 1)) [(0, [some 0, none, none]), (1, []), (4, [none, none, none, some 2, some 3, some 4, some 1, none]), (5, [none, none, none, some 2, some 3, some 4, some 1, none]), (8, [])] [(0, [some 0, none, none]), (1, []), (4, [none, none, none, some 2, some 3, some 4, some 1, none]), (5, [none, none, none, some 2, some 3, some 4, some 1, none])] K n [.v (.ptr 0 0 0), .v (.int .i64 x1), .v (.ptr 2 0 0), .v (.ptr 3 0 0), .v (.int .i64 x4')] [.cells 79 [.sl 1, .int .i64 xc0_1', .int .i64 xc0_2'], .rows 0 false xl1, .cells 30 [.int .i64 xc2_0, .int .i64 xc2_1, .int .i64 xc2_2, .sl 4, .sl 5, .sl 6, .sl 7, .int .i64 xc2_7], .cells 30 [.int .i64 xc3_0, .int .i64 xc3_1, .int .i64 xc3_2, .sl 8, .sl 9, .sl 10, .sl 11, .int .i64 xc3_7], .rows 2 true xl4, .rows 3 true xl5, .rows 4 true xl6, .rows 1 true xl7, .rows 2 true xl8, .rows 3 true xl9', .rows 4 true xl10, .rows 1 true xl11]) x4 xc0_1 xc0_2 xl9 by kernel_rfl).trans (congrArg (fun rec => spec_l26Draw.L9 k x1 xl1 xc2_0 xc2_1 xc2_2 xc2_7 xc3_0 xc3_1 xc3_2 xc3_7 xl4 xl5 xl6 xl7 xl8 xl10 xl11 (fun (zc0_1 : Int) (zc0_2 : Int) (zl9 : List T_impl_Flow) => K (.exit 2) (stOf [(0, [some 0, none, none]), (1, []), (4, [none, none, none, some 2, some 3, some 4, some 1, none]), (5, [none, none, none, some 2, some 3, some 4, some 1, none])] [.v (.ptr 0 0 0), .v (.int .i64 x1), .v (.ptr 2 0 0), .v (.ptr 3 0 0)] [.cells 79 [.sl 1, .int .i64 zc0_1, .int .i64 zc0_2], .rows 0 false xl1, .cells 30 [.int .i64 xc2_0, .int .i64 xc2_1, .int .i64 xc2_2, .sl 4, .sl 5, .sl 6, .sl 7, .int .i64 xc2_7], .cells 30 [.int .i64 xc3_0, .int .i64 xc3_1, .int .i64 xc3_2, .sl 8, .sl 9, .sl 10, .sl 11, .int .i64 xc3_7], .rows 2 true xl4, .rows 3 true xl5, .rows 4 true xl6, .rows 1 true xl7, .rows 2 true xl8, .rows 3 true zl9, .rows 4 true xl10, .rows 1 true xl11])) rec x4 xc0_1 xc0_2 xl9) (funext fun x4' => funext fun xc0_1' => funext fun xc0_2' => funext fun xl9' => spec_l26Draw.e9 K k x1 xl1 xc2_0 xc2_1 xc2_2 xc2_7 xc3_0 xc3_1 xc3_2 xc3_7 xl4 xl5 xl6 xl7 xl8 xl10 xl11 n x4' xc0_1' xc0_2' xl9'))
theorem spec_l26Draw.q9 (k : Nat) {R : Type} (K : Ex → St κ → Option R) (vs : List AV) (bs : List (Blk κ)) (r : R) (h : spec_l26Draw.h9 k K vs bs = some r) : ∃ n, loopN 2 (Code.den ti (spec_l26Draw.Γ k) (spec_l26Draw.LH k) (loopAt Tryz.f69 1)) [(0, [some 0, none, none]), (1, []), (4, [none, none, none, some 2, some 3, some 4, some 1, none]), (5, [none, none, none, some 2, some 3, some 4, some 1, none]), (8, [])] [(0, [some 0, none, none]), (1, []), (4, [none, none, none, some 2, some 3, some 4, some 1, none]), (5, [none, none, none, some 2, some 3, some 4, some 1, none])] K n vs bs = some r := by
  unfold spec_l26Draw.h9 at h
  split at h
  · obtain ⟨_, rfl, h_1⟩ := asO_bind h
    obtain ⟨_, rfl, h_2⟩ := asO_bind h_1
    obtain ⟨_, rfl, h_3⟩ := asO_bind h_2
    obtain ⟨_, rfl, h_4⟩ := asO_bind h_3
    obtain ⟨_, rfl, h_5⟩ := asO_bind h_4
    obtain ⟨_, rfl, h_6⟩ := asO_bind h_5
    obtain ⟨_, rfl, h_7⟩ := asO_bind h_6
    obtain ⟨_, rfl, h_8⟩ := asO_bind h_7
    obtain ⟨_, rfl, h_9⟩ := asO_bind h_8
    exact ⟨k, (spec_l26Draw.e9 K k _ _ _ _ _ _ _ _ _ _ _ _ _ _ _ _ _ k _ _ _ _).trans h_9⟩
  · cases h
theorem spec_l26Draw.e15 {R : Type} (K : Ex → St κ → Option R) (k : Nat) (x1 : Int) (xl1 : List Int) (xc2_0 : Int) (xc2_1 : Int) (xc2_2 : Int) (xc2_7 : Int) (xc3_0 : Int) (xc3_1 : Int) (xc3_2 : Int) (xc3_7 : Int) (xl4 : List T_impl_Grant) (xl5 : List T_impl_Flow) (xl6 : List T_impl_Rule) (xl7 : List T_impl_Op) (xl8 : List T_impl_Grant) (xl9 : List T_impl_Flow) (xl11 : List T_impl_Op) : ∀ (n : Nat) (x4 : Int) (xc0_1 : Int) (xc0_2 : Int) (xl10 : List T_impl_Rule), loopN 2 (Code.den ti (spec_l26Draw.Γ k) (spec_l26Draw.LH k) (loopAt Tryz.f69 2)) [(0, [some 0, none, none]), (1, []), (4, [none, none, none, some 2, some 3, some 4, some 1, none]), (5, [none, none, none, some 2, some 3, some 4, some 1, none]), (10, [])] [(4, [none, none, none, some 2, some 3, some 4, some 1, none]), (5, [none, none, none, some 2, some 3, some 4, some 1, none])] K n [.v (.ptr 0 0 0), .v (.int .i64 x1), .v (.ptr 2 0 0), .v (.ptr 3 0 0), .v (.int .i64 x4)] [.cells 79 [.sl 1, .int .i64 xc0_1, .int .i64 xc0_2], .rows 0 false xl1, .cells 30 [.int .i64 xc2_0, .int .i64 xc2_1, .int .i64 xc2_2, .sl 4, .sl 5, .sl 6, .sl 7, .int .i64 xc2_7], .cells 30 [.int .i64 xc3_0, .int .i64 xc3_1, .int .i64 xc3_2, .sl 8, .sl 9, .sl 10, .sl 11, .int .i64 xc3_7], .rows 2 true xl4, .rows 3 true xl5, .rows 4 true xl6, .rows 1 true xl7, .rows 2 true xl8, .rows 3 true xl9, .rows 4 true xl10, .rows 1 true xl11] = spec_l26Draw.l15 k x1 xl1 xc2_0 xc2_1 xc2_2 xc2_7 xc3_0 xc3_1 xc3_2 xc3_7 xl4 xl5 xl6 xl7 xl8 xl9 xl11 (fun (zc0_1 : Int) (zc0_2 : Int) (zl10 : List T_impl_Rule) => K (.exit 4) (stOf [(4, [none, none, none, some 2, some 3, some 4, some 1, none]), (5, [none, none, none, some 2, some 3, some 4, some 1, none])] [.v (.ptr 2 0 0), .v (.ptr 3 0 0)] [.cells 79 [.sl 1, .int .i64 zc0_1, .int .i64 zc0_2], .rows 0 false xl1, .cells 30 [.int .i64 xc2_0, .int .i64 xc2_1, .int .i64 xc2_2, .sl 4, .sl 5, .sl 6, .sl 7, .int .i64 xc2_7], .cells 30 [.int .i64 xc3_0, .int .i64 xc3_1, .int .i64 xc3_2, .sl 8, .sl 9, .sl 10, .sl 11, .int .i64 xc3_7], .rows 2 true xl4, .rows 3 true xl5, .rows 4 true xl6, .rows 1 true xl7, .rows 2 true xl8, .rows 3 true xl9, .rows 4 true zl10, .rows 1 true xl11])) n x4 xc0_1 xc0_2 xl10
  | 0, _, _, _, _ => rfl
  | n + 1, x4, xc0_1, xc0_2, xl10 => (show loopN 2 (Code.den ti (spec_l26Draw.Γ k) (spec_l26Draw.LH k) (loopAt Tryz.f69 2)) [(0, [some 0, none, none]), (1, []), (4, [none, none, none, some 2, some 3, some 4, some 1, none]), (5, [none, none, none, some 2, some 3, some 4, some 1, none]), (10, [])] [(4, [none, none, none, some 2, some 3, some 4, some 1, none]), (5, [none, none, none, some 2, some 3, some 4, some 1, none])] K (n + 1) [.v (.ptr 0 0 0), .v (.int .i64 x1), .v (.ptr 2 0 0), .v (.ptr 3 0 0), .v (.int .i64 x4)] [.cells 79 [.sl 1, .int .i64 xc0_1, .int .i64 xc0_2], .rows 0 false xl1, .cells 30 [.int .i64 xc2_0, .int .i64 xc2_1, .int .i64 xc2_2, .sl 4, .sl 5, .sl 6, .sl 7, .int .i64 xc2_7], .cells 30 [.int .i64 xc3_0, .int .i64 xc3_1, .int .i64 xc3_2, .sl 8, .sl 9, .sl 10, .sl 11, .int .i64 xc3_7], .rows 2 true xl4, .rows 3 true xl5, .rows 4 true xl6, .rows 1 true xl7, .rows 2 true xl8, .rows 3 true xl9, .rows 4 true xl10, .rows 1 true xl11] = spec_l26Draw.L15 k x1 xl1 xc2_0 xc2_1 xc2_2 xc2_7 xc3_0 xc3_1 xc3_2 xc3_7 xl4 xl5 xl6 xl7 xl8 xl9 xl11 (fun (zc0_1 : Int) (zc0_2 : Int) (zl10 : List T_impl_Rule) => K (.exit 4) (stOf [(4, [none, none, none, some 2, some 3, some 4, some 1, none]), (5, [none, none, none, some 2, some 3, some 4, some 1, none])] [.v (.ptr 2 0 0), .v (.ptr 3 0 0)] [.cells 79 [.sl 1, .int .i64 zc0_1, .int .i64 zc0_2], .rows 0 false xl1, .cells 30 [.int .i64 xc2_0, .int .i64 xc2_1, .int .i64 xc2_2, .sl 4, .sl 5, .sl 6, .sl 7, .int .i64 xc2_7], .cells 30 [.int .i64 xc3_0, .int .i64 xc3_1, .int .i64 xc3_2, .sl 8, .sl 9, .sl 10, .sl 11, .int .i64 xc3_7], .rows 2 true xl4, .rows 3 true xl5, .rows 4 true xl6, .rows 1 true xl7, .rows 2 true xl8, .rows 3 true xl9, .rows 4 true zl10, .rows 1 true xl11])) (fun (x4' : Int) (xc0_1' : Int) (xc0_2' : Int) (xl10' : List T_impl_Rule) => loopN 2 (Code.den ti (spec_l26Draw.Γ k) (spec_l26Draw.LH k) (loopAt Tryz.f69 2)) [(0, [some 0, none, none]), (1, []), (4, [none, none, none, some 2, some 3, some 4, some 1, none]), (5, [none, none, none, some 2, some 3, some 4, some 1, none]), (10, [])] [(4, [none, none, none, some 2, some 3, some 4, some 1, none]), (5, [none, none, none, some 2, some 3, some 4, some 1, none])] K n [.v (.ptr 0 0 0), .v (.int .i64 x1), .v (.ptr 2 0 0), .v (.ptr 3 0 0), .v (.int .i64 x4')] [.cells 79 [.sl 1, .int .i64 xc0_1', .int .i64 xc0_2'], .rows 0 false xl1, .cells 30 [.int .i64 xc2_0, .int .i64 xc2_1, .int .i64 xc2_2, .sl 4, .sl 5, .sl 6, .sl 7, .int .i64 xc2_7], .cells 30 [.int .i64 xc3_0, .int .i64 xc3_1, .int .i64 xc3_2, .sl 8, .sl 9, .sl 10, .sl 11, .int .i64 xc3_7], .rows 2 true xl4, .rows 3 true xl5, .rows 4 true xl6, .rows 1 true xl7, .rows 2 true xl8, .rows 3 true xl9, .rows 4 true xl10', .rows 1 true xl11]) x4 xc0_1 xc0_2 xl10 by kernel_rfl).trans (congrArg (fun rec => spec_l26Draw.L15 k x1 xl1 xc2_0 xc2_1 xc2_2 xc2_7 xc3_0 xc3_1 xc3_2 xc3_7 xl4 xl5 xl6 xl7 xl8 xl9 xl11 (fun (zc0_1 : Int) (zc0_2 : Int) (zl10 : List T_impl_Rule) => K (.exit 4) (stOf [(4, [none, none, none, some 2, some 3, some 4, some 1, none]), (5, [none, none, none, some 2, some 3, some 4, some 1, none])] [.v (.ptr 2 0 0), .v (.ptr 3 0 0)] [.cells 79 [.sl 1, .int .i64 zc0_1, .int .i64 zc0_2], .rows 0 false xl1, .cells 30 [.int .i64 xc2_0, .int .i64 xc2_1, .int .i64 xc2_2, .sl 4, .sl 5, .sl 6, .sl 7, .int .i64 xc2_7], .cells 30 [.int .i64 xc3_0, .int .i64 xc3_1, .int .i64 xc3_2, .sl 8, .sl 9, .sl 10, .sl 11, .int .i64 xc3_7], .rows 2 true xl4, .rows 3 true xl5, .rows 4 true xl6, .rows 1 true xl7, .rows 2 true xl8, .rows 3 true xl9, .rows 4 true zl10, .rows 1 true xl11])) rec x4 xc0_1 xc0_2 xl10) (funext fun x4' => funext fun xc0_1' => funext fun xc0_2' => funext fun xl10' => spec_l26Draw.e15 K k x1 xl1 xc2_0 xc2_1 xc2_2 xc2_7 xc3_0 xc3_1 xc3_2 xc3_7 xl4 xl5 xl6 xl7 xl8 xl9 xl11 n x4' xc0_1' xc0_2' xl10'))
theorem spec_l26Draw.q15 (k : Nat) {R : Type} (K : Ex → St κ → Option R) (vs : List AV) (bs : List (Blk κ)) (r : R) (h : spec_l26Draw.h15 k K vs bs = some r) : ∃ n, loopN 2 (Code.den ti (spec_l26Draw.Γ k) (spec_l26Draw.LH k) (loopAt Tryz.f69 2)) [(0, [some 0, none, none]), (1, []), (4, [none, none, none, some 2, some 3, some 4, some 1, none]), (5, [none, none, none, some 2, some 3, some 4, some 1, none]), (10, [])] [(4, [none, none, none, some 2, some 3, some 4, some 1, none]), (5, [none, none, none, some 2, some 3, some 4, some 1, none])] K n vs bs = some r := by
  unfold spec_l26Draw.h15 at h
  split at h
  · obtain ⟨_, rfl, h_1⟩ := asO_bind h
    obtain ⟨_, rfl, h_2⟩ := asO_bind h_1
    obtain ⟨_, rfl, h_3⟩ := asO_bind h_2
    obtain ⟨_, rfl, h_4⟩ := asO_bind h_3
    obtain ⟨_, rfl, h_5⟩ := asO_bind h_4
    obtain ⟨_, rfl, h_6⟩ := asO_bind h_5
    obtain ⟨_, rfl, h_7⟩ := asO_bind h_6
    obtain ⟨_, rfl, h_8⟩ := asO_bind h_7
    obtain ⟨_, rfl, h_9⟩ := asO_bind h_8
    exact ⟨k, (spec_l26Draw.e15 K k _ _ _ _ _ _ _ _ _ _ _ _ _ _ _ _ _ k _ _ _ _).trans h_9⟩
  · cases h
theorem spec_l26Draw.lok (k : Nat) : LOK ti (spec_l26Draw.Γ k) (spec_l26Draw.LH k) 2 (loopsOf (bodyOf Tryz.f69)) :=
  (show loopsOf (bodyOf Tryz.f69) = [loopAt Tryz.f69 0, loopAt Tryz.f69 1, loopAt Tryz.f69 2] by kernel_rfl) ▸ (LOK_cons (g := ⟨2, [(0, [some 0, none, none]), (1, []), (4, [none, none, none, some 2, some 3, some 4, some 1, none]), (5, [none, none, none, some 2, some 3, some 4, some 1, none]), (6, [])], [(0, [some 0, none, none]), (1, []), (4, [none, none, none, some 2, some 3, some 4, some 1, none]), (5, [none, none, none, some 2, some 3, some 4, some 1, none])], @spec_l26Draw.h3 k⟩) (by kernel_rfl) rfl (fun K vs xs r h => spec_l26Draw.q3 k K vs xs r h) (LOK_cons (g := ⟨2, [(0, [some 0, none, none]), (1, []), (4, [none, none, none, some 2, some 3, some 4, some 1, none]), (5, [none, none, none, some 2, some 3, some 4, some 1, none]), (8, [])], [(0, [some 0, none, none]), (1, []), (4, [none, none, none, some 2, some 3, some 4, some 1, none]), (5, [none, none, none, some 2, some 3, some 4, some 1, none])], @spec_l26Draw.h9 k⟩) (by kernel_rfl) rfl (fun K vs xs r h => spec_l26Draw.q9 k K vs xs r h) (LOK_cons (g := ⟨2, [(0, [some 0, none, none]), (1, []), (4, [none, none, none, some 2, some 3, some 4, some 1, none]), (5, [none, none, none, some 2, some 3, some 4, some 1, none]), (10, [])], [(4, [none, none, none, some 2, some 3, some 4, some 1, none]), (5, [none, none, none, some 2, some 3, some 4, some 1, none])], @spec_l26Draw.h15 k⟩) (by kernel_rfl) rfl (fun K vs xs r h => spec_l26Draw.q15 k K vs xs r h) (LOK_nil))))
def spec_l26Draw.sig : List PSh := [.cur 79 [.ro 0, .sc, .sc], .one .sc]
def spec_l26Draw.g (y : Int × Int × Int × Int × Int × Int × List T_impl_Grant × List T_impl_Flow × List T_impl_Rule × List T_impl_Op) : Ret κ := ⟨.agg [.int .i64 y.1, .int .i64 y.2.1, .int .i64 y.2.2.1, .sl 2, .sl 3, .sl 4, .sl 5, .int .i64 y.2.2.2.1], [.cells 79 [.sl 1, .int .i64 y.2.2.2.2.1, .int .i64 y.2.2.2.2.2.1]], [.rows 2 true y.2.2.2.2.2.2.1, .rows 3 true y.2.2.2.2.2.2.2.1, .rows 4 true y.2.2.2.2.2.2.2.2.1, .rows 1 true y.2.2.2.2.2.2.2.2.2]⟩
def spec_l26Draw.out (r : Ret κ) : Option (Int × Int × Int × Int × Int × Int × List T_impl_Grant × List T_impl_Flow × List T_impl_Rule × List T_impl_Op) :=
  match r with
  | ⟨.agg [.int .i64 z0, .int .i64 z1, .int .i64 z2, .sl 2, .sl 3, .sl 4, .sl 5, .int .i64 z3], [.cells 79 [.sl 1, .int .i64 z4, .int .i64 z5]], [q6, q7, q8, q9]⟩ => (asO 2 true q6).bind fun z6 => (asO 3 true q7).bind fun z7 => (asO 4 true q8).bind fun z8 => (asO 1 true q9).bind fun z9 => some (z0, z1, z2, z3, z4, z5, z6, z7, z8, z9)
  | _ => none
theorem spec_l26Draw.out_ok (r : Ret κ) (y : Int × Int × Int × Int × Int × Int × List T_impl_Grant × List T_impl_Flow × List T_impl_Rule × List T_impl_Op) (h : spec_l26Draw.out r = some y) : r = spec_l26Draw.g y := by
  unfold spec_l26Draw.out at h
  split at h
  · obtain ⟨_, rfl, h_1⟩ := asO_bind h
    obtain ⟨_, rfl, h_2⟩ := asO_bind h_1
    obtain ⟨_, rfl, h_3⟩ := asO_bind h_2
    obtain ⟨_, rfl, h_4⟩ := asO_bind h_3
    obtain rfl := Option.some.inj h_4
    rfl
  · cases h
def spec_l26Draw.body (k : Nat) (vs : List AV) (bs : List (Blk κ)) : Option (Lf κ) :=
  match vs, bs with
  | [.v (.ptr 0 0 0), .v (.int .i64 a1)], [.cells 79 [.sl 1, .int .i64 a0_1, .int .i64 a0_2], qb1] => (asO 0 false qb1).bind fun a0_0 => some ⟨Int × Int × Int × Int × Int × Int × List T_impl_Grant × List T_impl_Flow × List T_impl_Rule × List T_impl_Op, spec_l26Draw.f k a0_0 a0_1 a0_2 a1, spec_l26Draw.g⟩
  | _, _ => none
def spec_l26Draw.C (k : Nat) : Nat → List AV → AP κ AV := contract spec_l26Draw.sig (spec_l26Draw.body k)
theorem spec_l26Draw.den (k : Nat) (a0_0 : List Int) (a0_1 : Int) (a0_2 : Int) (a1 : Int) : Code.den ti (spec_l26Draw.Γ k) (spec_l26Draw.LH k) (bodyOf Tryz.f69) (finK ti Tryz.f69.results.toList [(4, [none, none, none, some 2, some 3, some 4, some 1, none])] (flags spec_l26Draw.sig).length (rwI (flags spec_l26Draw.sig) 0) spec_l26Draw.out) ⟨envOf (([.v (.ptr 0 0 0), .v (.int .i64 a1)]).zipIdx.map fun q => (q.2, q.1)), hpOf [.cells 79 [.sl 1, .int .i64 a0_1, .int .i64 a0_2], .rows 0 false a0_0], (flags spec_l26Draw.sig).length⟩ = spec_l26Draw.f k a0_0 a0_1 a0_2 a1 := by kernel_rfl
theorem spec_l26Draw.ok (k : Nat) : CSound Tryz.prog 69 (spec_l26Draw.C k) :=
  csound κ_ok mixed tok (spec_l26Draw.hΓ k) (LH := spec_l26Draw.LH k) (fn := Tryz.f69) (c := bodyOf Tryz.f69) Tryz.func69 rfl Tryz.call69 spec_l26Draw.sig [(4, [none, none, none, some 2, some 3, some 4, some 1, none])] (spec_l26Draw.body k) (by kernel_rfl) (spec_l26Draw.lok k) (by decide) fun vs bs lf y hl hb hy => by
    unfold spec_l26Draw.body at hb
    split at hb
    · obtain ⟨_, rfl, hb_1⟩ := asO_bind hb
      obtain rfl := Option.some.inj hb_1
      exact ⟨spec_l26Draw.out, spec_l26Draw.out_ok, (spec_l26Draw.den k _ _ _ _).trans hy⟩
    · cases hb
/-! ### spec_l1Int -/
def spec_l1Int.f (k : Nat) (a0_0 : List Int) (a0_1 : Int) (a0_2 : Int) (a1 : List Int) : Option (Int × Int × Int) :=
  (spec_l1Below.f k a0_0 a0_1 a0_2 (a1.length : Int)).bind fun t1 => (bif decide (0 ≤ t1.1) then (bif decide (t1.1 < (a1.length : Int)) then some ((rd_i64 a1 t1.1), t1.2.1, t1.2.2) else none) else none)
def spec_l1Int.Γ (k : Nat) : Ct κ := assoc [(18, spec_l1Below.C k)]
def spec_l1Int.LH (k : Nat) : Nat → Option (LHi κ) := assoc []
theorem spec_l1Int.hΓ (k : Nat) : ∀ f g, spec_l1Int.Γ k f = some g → CSound Tryz.prog f g := G_cons (spec_l1Below.ok k) G_nil
theorem spec_l1Int.lok (k : Nat) : LOK ti (spec_l1Int.Γ k) (spec_l1Int.LH k) 3 (loopsOf (bodyOf Tryz.f29)) :=
  (show loopsOf (bodyOf Tryz.f29) = [] by kernel_rfl) ▸ LOK_nil
def spec_l1Int.sig : List PSh := [.cur 79 [.ro 0, .sc, .sc], .one (.ro 5)]
def spec_l1Int.g (y : Int × Int × Int) : Ret κ := ⟨.v (.int .i64 y.1), [.cells 79 [.sl 1, .int .i64 y.2.1, .int .i64 y.2.2]], []⟩
def spec_l1Int.out (r : Ret κ) : Option (Int × Int × Int) :=
  match r with
  | ⟨.v (.int .i64 z0), [.cells 79 [.sl 1, .int .i64 z1, .int .i64 z2]], []⟩ => some (z0, z1, z2)
  | _ => none
theorem spec_l1Int.out_ok (r : Ret κ) (y : Int × Int × Int) (h : spec_l1Int.out r = some y) : r = spec_l1Int.g y := by
  unfold spec_l1Int.out at h
  split at h
  · obtain rfl := Option.some.inj h
    rfl
  · cases h
def spec_l1Int.body (k : Nat) (vs : List AV) (bs : List (Blk κ)) : Option (Lf κ) :=
  match vs, bs with
  | [.v (.ptr 0 0 0), .v (.sl 2)], [.cells 79 [.sl 1, .int .i64 a0_1, .int .i64 a0_2], qb1, qb2] => (asO 0 false qb1).bind fun a0_0 => (asO 5 false qb2).bind fun a1 => some ⟨Int × Int × Int, spec_l1Int.f k a0_0 a0_1 a0_2 a1, spec_l1Int.g⟩
  | _, _ => none
def spec_l1Int.C (k : Nat) : Nat → List AV → AP κ AV := contract spec_l1Int.sig (spec_l1Int.body k)
theorem spec_l1Int.den (k : Nat) (a0_0 : List Int) (a0_1 : Int) (a0_2 : Int) (a1 : List Int) : Code.den ti (spec_l1Int.Γ k) (spec_l1Int.LH k) (bodyOf Tryz.f29) (finK ti Tryz.f29.results.toList [] (flags spec_l1Int.sig).length (rwI (flags spec_l1Int.sig) 0) spec_l1Int.out) ⟨envOf (([.v (.ptr 0 0 0), .v (.sl 2)]).zipIdx.map fun q => (q.2, q.1)), hpOf [.cells 79 [.sl 1, .int .i64 a0_1, .int .i64 a0_2], .rows 0 false a0_0, .rows 5 false a1], (flags spec_l1Int.sig).length⟩ = spec_l1Int.f k a0_0 a0_1 a0_2 a1 := by kernel_rfl
theorem spec_l1Int.ok (k : Nat) : CSound Tryz.prog 29 (spec_l1Int.C k) :=
  csound κ_ok mixed tok (spec_l1Int.hΓ k) (LH := spec_l1Int.LH k) (fn := Tryz.f29) (c := bodyOf Tryz.f29) Tryz.func29 rfl Tryz.call29 spec_l1Int.sig [] (spec_l1Int.body k) (by kernel_rfl) (spec_l1Int.lok k) (by decide) fun vs bs lf y hl hb hy => by
    unfold spec_l1Int.body at hb
    split at hb
    · obtain ⟨_, rfl, hb_1⟩ := asO_bind hb
      obtain ⟨_, rfl, hb_2⟩ := asO_bind hb_1
      obtain rfl := Option.some.inj hb_2
      exact ⟨spec_l1Int.out, spec_l1Int.out_ok, (spec_l1Int.den k _ _ _ _).trans hy⟩
    · cases hb
/-! ### spec_l9Raw -/
def spec_l9Raw.f (k : Nat) (a0_0 : List Int) (a0_1 : Int) (a0_2 : Int) : Option (Int × Int × Int) :=
  (spec_l1Int.f k a0_0 a0_1 a0_2 ([(-2 : Int), (-1 : Int), (0 : Int), (9 : Int), (10 : Int), (9223372036854775807 : Int), (-9223372036854775808 : Int)] : List Int)).bind fun t1 => some (t1.1, t1.2.1, t1.2.2)
def spec_l9Raw.Γ (k : Nat) : Ct κ := assoc [(29, spec_l1Int.C k)]
def spec_l9Raw.LH (k : Nat) : Nat → Option (LHi κ) := assoc []
theorem spec_l9Raw.hΓ (k : Nat) : ∀ f g, spec_l9Raw.Γ k f = some g → CSound Tryz.prog f g := G_cons (spec_l1Int.ok k) G_nil
theorem spec_l9Raw.lok (k : Nat) : LOK ti (spec_l9Raw.Γ k) (spec_l9Raw.LH k) 2 (loopsOf (bodyOf Tryz.f46)) :=
  (show loopsOf (bodyOf Tryz.f46) = [] by kernel_rfl) ▸ LOK_nil
def spec_l9Raw.sig : List PSh := [.cur 79 [.ro 0, .sc, .sc]]
def spec_l9Raw.g (y : Int × Int × Int) : Ret κ := ⟨.v (.int .i64 y.1), [.cells 79 [.sl 1, .int .i64 y.2.1, .int .i64 y.2.2]], []⟩
def spec_l9Raw.out (r : Ret κ) : Option (Int × Int × Int) :=
  match r with
  | ⟨.v (.int .i64 z0), [.cells 79 [.sl 1, .int .i64 z1, .int .i64 z2]], []⟩ => some (z0, z1, z2)
  | _ => none
theorem spec_l9Raw.out_ok (r : Ret κ) (y : Int × Int × Int) (h : spec_l9Raw.out r = some y) : r = spec_l9Raw.g y := by
  unfold spec_l9Raw.out at h
  split at h
  · obtain rfl := Option.some.inj h
    rfl
  · cases h
def spec_l9Raw.body (k : Nat) (vs : List AV) (bs : List (Blk κ)) : Option (Lf κ) :=
  match vs, bs with
  | [.v (.ptr 0 0 0)], [.cells 79 [.sl 1, .int .i64 a0_1, .int .i64 a0_2], qb1] => (asO 0 false qb1).bind fun a0_0 => some ⟨Int × Int × Int, spec_l9Raw.f k a0_0 a0_1 a0_2, spec_l9Raw.g⟩
  | _, _ => none
def spec_l9Raw.C (k : Nat) : Nat → List AV → AP κ AV := contract spec_l9Raw.sig (spec_l9Raw.body k)
theorem spec_l9Raw.den (k : Nat) (a0_0 : List Int) (a0_1 : Int) (a0_2 : Int) : Code.den ti (spec_l9Raw.Γ k) (spec_l9Raw.LH k) (bodyOf Tryz.f46) (finK ti Tryz.f46.results.toList [] (flags spec_l9Raw.sig).length (rwI (flags spec_l9Raw.sig) 0) spec_l9Raw.out) ⟨envOf (([.v (.ptr 0 0 0)]).zipIdx.map fun q => (q.2, q.1)), hpOf [.cells 79 [.sl 1, .int .i64 a0_1, .int .i64 a0_2], .rows 0 false a0_0], (flags spec_l9Raw.sig).length⟩ = spec_l9Raw.f k a0_0 a0_1 a0_2 := by kernel_rfl
theorem spec_l9Raw.ok (k : Nat) : CSound Tryz.prog 46 (spec_l9Raw.C k) :=
  csound κ_ok mixed tok (spec_l9Raw.hΓ k) (LH := spec_l9Raw.LH k) (fn := Tryz.f46) (c := bodyOf Tryz.f46) Tryz.func46 rfl Tryz.call46 spec_l9Raw.sig [] (spec_l9Raw.body k) (by kernel_rfl) (spec_l9Raw.lok k) (by decide) fun vs bs lf y hl hb hy => by
    unfold spec_l9Raw.body at hb
    split at hb
    · obtain ⟨_, rfl, hb_1⟩ := asO_bind hb
      obtain rfl := Option.some.inj hb_1
      exact ⟨spec_l9Raw.out, spec_l9Raw.out_ok, (spec_l9Raw.den k _ _ _).trans hy⟩
    · cases hb
end Go.Proofs.YtmjflahlhgibnaaGreatDoor.PFnRolledBack
