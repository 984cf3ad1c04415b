/- What the functions that the law FnExactUpdatePackage reaches come to; no conditions. -/
import Derived.Test.YtoenilndklbceaaGreatPFnExactUpdatePackage2
set_option linter.unusedVariables false
set_option maxRecDepth 100000
namespace Go.Proofs.YtoenilndklbceaaGreat.PFnExactUpdatePackage
open Go Go.Eng Go.Proofs
/-! ### spec_Mod -/
def spec_Mod.f (k : Nat) (a0 : Int) (a1 : Int) : Option Int :=
  (spec_l1In.f k a1 (1 : Int) (1000000000000 : Int)).bind fun t1 => (bif !t1 then some (0 : Int) else (bif decide (a1 = 0) then none else (bif decide (a1 = 0) then none else some ((w64 ((a0.tmod a1) + a1)).tmod a1))))
def spec_Mod.Γ (k : Nat) : Ct κ := assoc [(101, spec_l1In.C k)]
def spec_Mod.LH (k : Nat) : Nat → Option (LHi κ) := assoc []
theorem spec_Mod.hΓ (k : Nat) : ∀ f g, spec_Mod.Γ k f = some g → CSound Tryz.prog f g := G_cons (spec_l1In.ok k) G_nil
theorem spec_Mod.lok (k : Nat) : LOK ti (spec_Mod.Γ k) (spec_Mod.LH k) 0 (loopsOf (bodyOf Tryz.f183)) :=
  (show loopsOf (bodyOf Tryz.f183) = [] by kernel_rfl) ▸ LOK_nil
def spec_Mod.sig : List PSh := [.one .sc, .one .sc]
def spec_Mod.g (y : Int) : Ret κ := ⟨.v (.int .i64 y), [], []⟩
def spec_Mod.out (r : Ret κ) : Option Int :=
  match r with
  | ⟨.v (.int .i64 z0), [], []⟩ => some (z0)
  | _ => none
theorem spec_Mod.out_ok (r : Ret κ) (y : Int) (h : spec_Mod.out r = some y) : r = spec_Mod.g y := by
  unfold spec_Mod.out at h
  split at h
  · obtain rfl := Option.some.inj h
    rfl
  · cases h
def spec_Mod.body (k : Nat) (vs : List AV) (bs : List (Blk κ)) : Option (Lf κ) :=
  match vs, bs with
  | [.v (.int .i64 a0), .v (.int .i64 a1)], [] => some ⟨Int, spec_Mod.f k a0 a1, spec_Mod.g⟩
  | _, _ => none
def spec_Mod.C (k : Nat) : Nat → List AV → AP κ AV := contract spec_Mod.sig (spec_Mod.body k)
theorem spec_Mod.den (k : Nat) (a0 : Int) (a1 : Int) : Code.den ti (spec_Mod.Γ k) (spec_Mod.LH k) (bodyOf Tryz.f183) (finK ti Tryz.f183.results.toList [] (flags spec_Mod.sig).length (rwI (flags spec_Mod.sig) 0) spec_Mod.out) ⟨envOf (([.v (.int .i64 a0), .v (.int .i64 a1)]).zipIdx.map fun q => (q.2, q.1)), hpOf [], (flags spec_Mod.sig).length⟩ = spec_Mod.f k a0 a1 := by kernel_rfl
theorem spec_Mod.ok (k : Nat) : CSound Tryz.prog 183 (spec_Mod.C k) :=
  csound κ_ok mixed tok (spec_Mod.hΓ k) (LH := spec_Mod.LH k) (fn := Tryz.f183) (c := bodyOf Tryz.f183) Tryz.func183 rfl Tryz.call183 spec_Mod.sig [] (spec_Mod.body k) (by kernel_rfl) (spec_Mod.lok k) (by decide) fun vs bs lf y hl hb hy => by
    unfold spec_Mod.body at hb
    split at hb
    · obtain rfl := Option.some.inj hb
      exact ⟨spec_Mod.out, spec_Mod.out_ok, (spec_Mod.den k _ _).trans hy⟩
    · cases hb
/-! ### spec_Hash -/
def spec_Hash.L3 {R : Type} (k : Nat) (xl0 : List Int) (X0 : Int → Option R) (rec : Int → Int → Option R) (x1 : Int) (x2 : Int) : Option R :=
  (bif decide (x2 < (xl0.length : Int)) then (bif decide (0 ≤ x2) then (bif decide (x2 < (xl0.length : Int)) then (spec_Mod.f k (rd_i64 xl0 x2) (2147483647 : Int)).bind fun t1 => (rec ((w64 ((w64 ((w64 (x1 * (1000003 : Int))) + t1)) + (13 : Int))).tmod (2147483647 : Int)) (w64 (x2 + (1 : Int)))) else none) else none) else (X0 x1))
def spec_Hash.l3 {R : Type} (k : Nat) (xl0 : List Int) (X0 : Int → Option R) : Nat → Int → Int → Option R
  | 0 => fun _ _ => none
  | n + 1 => spec_Hash.L3 k xl0 X0 (spec_Hash.l3 k xl0 X0 n)
def spec_Hash.f (k : Nat) (a0 : List Int) : Option Int :=
  (spec_Hash.l3 k a0 (fun (y2 : Int) => some y2) k (11 : Int) (0 : Int))
def spec_Hash.h3 (k : Nat) {R : Type} (K : Ex → St κ → Option R) (vs : List AV) (bs : List (Blk κ)) : Option R :=
  match vs, bs with
  | [.v (.sl 0), .v (.int .i64 x1), .v (.int .i64 x2)], [qb0] => (asO 8 false qb0).bind fun xl0 => spec_Hash.l3 k xl0 (fun (z0 : Int) => K (.exit 0) (stOf [(3, [])] [.v (.int .i64 z0)] [.rows 8 false xl0])) k x1 x2
  | _, _ => none
def spec_Hash.Γ (k : Nat) : Ct κ := assoc [(183, spec_Mod.C k)]
def spec_Hash.LH (k : Nat) : Nat → Option (LHi κ) := assoc [(3, ⟨1, [(0, [some 8]), (3, []), (4, [])], [(3, [])], @spec_Hash.h3 k⟩)]
theorem spec_Hash.hΓ (k : Nat) : ∀ f g, spec_Hash.Γ k f = some g → CSound Tryz.prog f g := G_cons (spec_Mod.ok k) G_nil
theorem spec_Hash.e3 {R : Type} (K : Ex → St κ → Option R) (k : Nat) (xl0 : List Int) : ∀ (n : Nat) (x1 : Int) (x2 : Int), loopN 1 (Code.den ti (spec_Hash.Γ k) (spec_Hash.LH k) (loopAt Tryz.f174 0)) [(0, [some 8]), (3, []), (4, [])] [(3, [])] K n [.v (.sl 0), .v (.int .i64 x1), .v (.int .i64 x2)] [.rows 8 false xl0] = spec_Hash.l3 k xl0 (fun (z0 : Int) => K (.exit 0) (stOf [(3, [])] [.v (.int .i64 z0)] [.rows 8 false xl0])) n x1 x2
  | 0, _, _ => rfl
  | n + 1, x1, x2 => (show loopN 1 (Code.den ti (spec_Hash.Γ k) (spec_Hash.LH k) (loopAt Tryz.f174 0)) [(0, [some 8]), (3, []), (4, [])] [(3, [])] K (n + 1) [.v (.sl 0), .v (.int .i64 x1), .v (.int .i64 x2)] [.rows 8 false xl0] = spec_Hash.L3 k xl0 (fun (z0 : Int) => K (.exit 0) (stOf [(3, [])] [.v (.int .i64 z0)] [.rows 8 false xl0])) (fun (x1' : Int) (x2' : Int) => loopN 1 (Code.den ti (spec_Hash.Γ k) (spec_Hash.LH k) (loopAt Tryz.f174 0)) [(0, [some 8]), (3, []), (4, [])] [(3, [])] K n [.v (.sl 0), .v (.int .i64 x1'), .v (.int .i64 x2')] [.rows 8 false xl0]) x1 x2 by kernel_rfl).trans (congrArg (fun rec => spec_Hash.L3 k xl0 (fun (z0 : Int) => K (.exit 0) (stOf [(3, [])] [.v (.int .i64 z0)] [.rows 8 false xl0])) rec x1 x2) (funext fun x1' => funext fun x2' => spec_Hash.e3 K k xl0 n x1' x2'))
theorem spec_Hash.q3 (k : Nat) {R : Type} (K : Ex → St κ → Option R) (vs : List AV) (bs : List (Blk κ)) (r : R) (h : spec_Hash.h3 k K vs bs = some r) : ∃ n, loopN 1 (Code.den ti (spec_Hash.Γ k) (spec_Hash.LH k) (loopAt Tryz.f174 0)) [(0, [some 8]), (3, []), (4, [])] [(3, [])] K n vs bs = some r := by
  unfold spec_Hash.h3 at h
  split at h
  · obtain ⟨_, rfl, h_1⟩ := asO_bind h
    exact ⟨k, (spec_Hash.e3 K k _ k _ _).trans h_1⟩
  · cases h
theorem spec_Hash.lok (k : Nat) : LOK ti (spec_Hash.Γ k) (spec_Hash.LH k) 1 (loopsOf (bodyOf Tryz.f174)) :=
  (show loopsOf (bodyOf Tryz.f174) = [loopAt Tryz.f174 0] by kernel_rfl) ▸ (LOK_cons (g := ⟨1, [(0, [some 8]), (3, []), (4, [])], [(3, [])], @spec_Hash.h3 k⟩) (by kernel_rfl) rfl (fun K vs xs r h => spec_Hash.q3 k K vs xs r h) (LOK_nil))
def spec_Hash.sig : List PSh := [.one (.ro 8)]
def spec_Hash.g (y : Int) : Ret κ := ⟨.v (.int .i64 y), [], []⟩
def spec_Hash.out (r : Ret κ) : Option Int :=
  match r with
  | ⟨.v (.int .i64 z0), [], []⟩ => some (z0)
  | _ => none
theorem spec_Hash.out_ok (r : Ret κ) (y : Int) (h : spec_Hash.out r = some y) : r = spec_Hash.g y := by
  unfold spec_Hash.out at h
  split at h
  · obtain rfl := Option.some.inj h
    rfl
  · cases h
def spec_Hash.body (k : Nat) (vs : List AV) (bs : List (Blk κ)) : Option (Lf κ) :=
  match vs, bs with
  | [.v (.sl 0)], [qb0] => (asO 8 false qb0).bind fun a0 => some ⟨Int, spec_Hash.f k a0, spec_Hash.g⟩
  | _, _ => none
def spec_Hash.C (k : Nat) : Nat → List AV → AP κ AV := contract spec_Hash.sig (spec_Hash.body k)
theorem spec_Hash.den (k : Nat) (a0 : List Int) : Code.den ti (spec_Hash.Γ k) (spec_Hash.LH k) (bodyOf Tryz.f174) (finK ti Tryz.f174.results.toList [] (flags spec_Hash.sig).length (rwI (flags spec_Hash.sig) 0) spec_Hash.out) ⟨envOf (([.v (.sl 0)]).zipIdx.map fun q => (q.2, q.1)), hpOf [.rows 8 false a0], (flags spec_Hash.sig).length⟩ = spec_Hash.f k a0 := by kernel_rfl
theorem spec_Hash.ok (k : Nat) : CSound Tryz.prog 174 (spec_Hash.C k) :=
  csound κ_ok mixed tok (spec_Hash.hΓ k) (LH := spec_Hash.LH k) (fn := Tryz.f174) (c := bodyOf Tryz.f174) Tryz.func174 rfl Tryz.call174 spec_Hash.sig [] (spec_Hash.body k) (by kernel_rfl) (spec_Hash.lok k) (by decide) fun vs bs lf y hl hb hy => by
    unfold spec_Hash.body at hb
    split at hb
    · obtain ⟨_, rfl, hb_1⟩ := asO_bind hb
      obtain rfl := Option.some.inj hb_1
      exact ⟨spec_Hash.out, spec_Hash.out_ok, (spec_Hash.den k _).trans hy⟩
    · cases hb
/-! ### spec_KeyedHash -/
def spec_KeyedHash.f (k : Nat) (a0 : Int) (a1 : List Int) : Option Int :=
  (bif decide ((([a0] : List Int).length + a1.length) * 8 ≤ cap48) then (bif decide (((([a0] : List Int) ++ a1).length + ([a0] : List Int).length) * 8 ≤ cap48) then (spec_Hash.f k ((([a0] : List Int) ++ a1) ++ ([a0] : List Int))).bind fun t1 => some t1 else none) else none)
def spec_KeyedHash.Γ (k : Nat) : Ct κ := assoc [(174, spec_Hash.C k)]
def spec_KeyedHash.LH (k : Nat) : Nat → Option (LHi κ) := assoc []
theorem spec_KeyedHash.hΓ (k : Nat) : ∀ f g, spec_KeyedHash.Γ k f = some g → CSound Tryz.prog f g := G_cons (spec_Hash.ok k) G_nil
theorem spec_KeyedHash.lok (k : Nat) : LOK ti (spec_KeyedHash.Γ k) (spec_KeyedHash.LH k) 1 (loopsOf (bodyOf Tryz.f156)) :=
  (show loopsOf (bodyOf Tryz.f156) = [] by kernel_rfl) ▸ LOK_nil
def spec_KeyedHash.sig : List PSh := [.one .sc, .one (.ro 8)]
def spec_KeyedHash.g (y : Int) : Ret κ := ⟨.v (.int .i64 y), [], []⟩
def spec_KeyedHash.out (r : Ret κ) : Option Int :=
  match r with
  | ⟨.v (.int .i64 z0), [], []⟩ => some (z0)
  | _ => none
theorem spec_KeyedHash.out_ok (r : Ret κ) (y : Int) (h : spec_KeyedHash.out r = some y) : r = spec_KeyedHash.g y := by
  unfold spec_KeyedHash.out at h
  split at h
  · obtain rfl := Option.some.inj h
    rfl
  · cases h
def spec_KeyedHash.body (k : Nat) (vs : List AV) (bs : List (Blk κ)) : Option (Lf κ) :=
  match vs, bs with
  | [.v (.int .i64 a0), .v (.sl 0)], [qb0] => (asO 8 false qb0).bind fun a1 => some ⟨Int, spec_KeyedHash.f k a0 a1, spec_KeyedHash.g⟩
  | _, _ => none
def spec_KeyedHash.C (k : Nat) : Nat → List AV → AP κ AV := contract spec_KeyedHash.sig (spec_KeyedHash.body k)
theorem spec_KeyedHash.den (k : Nat) (a0 : Int) (a1 : List Int) : Code.den ti (spec_KeyedHash.Γ k) (spec_KeyedHash.LH k) (bodyOf Tryz.f156) (finK ti Tryz.f156.results.toList [] (flags spec_KeyedHash.sig).length (rwI (flags spec_KeyedHash.sig) 0) spec_KeyedHash.out) ⟨envOf (([.v (.int .i64 a0), .v (.sl 0)]).zipIdx.map fun q => (q.2, q.1)), hpOf [.rows 8 false a1], (flags spec_KeyedHash.sig).length⟩ = spec_KeyedHash.f k a0 a1 := by kernel_rfl
theorem spec_KeyedHash.ok (k : Nat) : CSound Tryz.prog 156 (spec_KeyedHash.C k) :=
  csound κ_ok mixed tok (spec_KeyedHash.hΓ k) (LH := spec_KeyedHash.LH k) (fn := Tryz.f156) (c := bodyOf Tryz.f156) Tryz.func156 rfl Tryz.call156 spec_KeyedHash.sig [] (spec_KeyedHash.body k) (by kernel_rfl) (spec_KeyedHash.lok k) (by decide) fun vs bs lf y hl hb hy => by
    unfold spec_KeyedHash.body at hb
    split at hb
    · obtain ⟨_, rfl, hb_1⟩ := asO_bind hb
      obtain rfl := Option.some.inj hb_1
      exact ⟨spec_KeyedHash.out, spec_KeyedHash.out_ok, (spec_KeyedHash.den k _ _).trans hy⟩
    · cases hb
/-! ### spec_SealPackage -/
def spec_SealPackage.f (k : Nat) (a0 : Int) (a1_0 : Int) (a1_1 : Int) (a1_2 : Int) (a1_3 : List T_impl_Grant) (a1_4 : List T_impl_Flow) (a1_5 : List T_impl_Rule) (a1_6 : List T_impl_Op) (a1_7 : Int) : Option (Int × Int × Int × Int × List T_impl_Grant × List T_impl_Flow × List T_impl_Rule × List T_impl_Op) :=
  (spec_l26Copy.f k a1_0 a1_1 a1_2 a1_3 a1_4 a1_5 a1_6 a1_7).bind fun t1 => (spec_IsValidKey.f k a0).bind fun t2 => (bif t2 then (spec_IsPackage.f k a1_0 a1_1 a1_2 a1_3 a1_4 a1_5 a1_6 a1_7).bind fun t3 => (bif t3 then (spec_PackageInts.f k a1_0 a1_1 a1_2 a1_3 a1_4 a1_5 a1_6 a1_7).bind fun t4 => (spec_KeyedHash.f k a0 t4).bind fun t5 => some (t1.1, t1.2.1, t1.2.2.1, t5, t1.2.2.2.2.1, t1.2.2.2.2.2.1, t1.2.2.2.2.2.2.1, t1.2.2.2.2.2.2.2) else some (t1.1, t1.2.1, t1.2.2.1, (0 : Int), t1.2.2.2.2.1, t1.2.2.2.2.2.1, t1.2.2.2.2.2.2.1, t1.2.2.2.2.2.2.2)) else some (t1.1, t1.2.1, t1.2.2.1, (0 : Int), t1.2.2.2.2.1, t1.2.2.2.2.2.1, t1.2.2.2.2.2.2.1, t1.2.2.2.2.2.2.2))
def spec_SealPackage.Γ (k : Nat) : Ct κ := assoc [(59, spec_l26Copy.C k), (142, spec_IsValidKey.C k), (47, spec_IsPackage.C k), (157, spec_PackageInts.C k), (156, spec_KeyedHash.C k)]
def spec_SealPackage.LH (k : Nat) : Nat → Option (LHi κ) := assoc []
theorem spec_SealPackage.hΓ (k : Nat) : ∀ f g, spec_SealPackage.Γ k f = some g → CSound Tryz.prog f g := G_cons (spec_l26Copy.ok k) (G_cons (spec_IsValidKey.ok k) (G_cons (spec_IsPackage.ok k) (G_cons (spec_PackageInts.ok k) (G_cons (spec_KeyedHash.ok k) G_nil))))
theorem spec_SealPackage.lok (k : Nat) : LOK ti (spec_SealPackage.Γ k) (spec_SealPackage.LH k) 4 (loopsOf (bodyOf Tryz.f124)) :=
  (show loopsOf (bodyOf Tryz.f124) = [] by kernel_rfl) ▸ LOK_nil
def spec_SealPackage.sig : List PSh := [.one .sc, .agg [.sc, .sc, .sc, .ro 4, .ro 5, .ro 6, .ro 7, .sc]]
def spec_SealPackage.g (y : Int × Int × Int × Int × List T_impl_Grant × List T_impl_Flow × List T_impl_Rule × List T_impl_Op) : Ret κ := ⟨.agg [.int .i64 y.1, .int .i64 y.2.1, .int .i64 y.2.2.1, .sl 4, .sl 5, .sl 6, .sl 7, .int .i64 y.2.2.2.1], [], [.rows 4 true y.2.2.2.2.1, .rows 5 true y.2.2.2.2.2.1, .rows 6 true y.2.2.2.2.2.2.1, .rows 7 true y.2.2.2.2.2.2.2]⟩
def spec_SealPackage.out (r : Ret κ) : Option (Int × Int × Int × Int × List T_impl_Grant × List T_impl_Flow × List T_impl_Rule × List T_impl_Op) :=
  match r with
  | ⟨.agg [.int .i64 z0, .int .i64 z1, .int .i64 z2, .sl 4, .sl 5, .sl 6, .sl 7, .int .i64 z3], [], [q4, q5, q6, q7]⟩ => (asO 4 true q4).bind fun z4 => (asO 5 true q5).bind fun z5 => (asO 6 true q6).bind fun z6 => (asO 7 true q7).bind fun z7 => some (z0, z1, z2, z3, z4, z5, z6, z7)
  | _ => none
theorem spec_SealPackage.out_ok (r : Ret κ) (y : Int × Int × Int × Int × List T_impl_Grant × List T_impl_Flow × List T_impl_Rule × List T_impl_Op) (h : spec_SealPackage.out r = some y) : r = spec_SealPackage.g y := by
  unfold spec_SealPackage.out at h
  split at h
  · obtain ⟨_, rfl, h_1⟩ := asO_bind h
    obtain ⟨_, rfl, h_2⟩ := asO_bind h_1
    obtain ⟨_, rfl, h_3⟩ := asO_bind h_2
    obtain ⟨_, rfl, h_4⟩ := asO_bind h_3
    obtain rfl := Option.some.inj h_4
    rfl
  · cases h
def spec_SealPackage.body (k : Nat) (vs : List AV) (bs : List (Blk κ)) : Option (Lf κ) :=
  match vs, bs with
  | [.v (.int .i64 a0), .agg [.int .i64 a1_0, .int .i64 a1_1, .int .i64 a1_2, .sl 0, .sl 1, .sl 2, .sl 3, .int .i64 a1_7]], [qb0, qb1, qb2, qb3] => (asO 4 false qb0).bind fun a1_3 => (asO 5 false qb1).bind fun a1_4 => (asO 6 false qb2).bind fun a1_5 => (asO 7 false qb3).bind fun a1_6 => some ⟨Int × Int × Int × Int × List T_impl_Grant × List T_impl_Flow × List T_impl_Rule × List T_impl_Op, spec_SealPackage.f k a0 a1_0 a1_1 a1_2 a1_3 a1_4 a1_5 a1_6 a1_7, spec_SealPackage.g⟩
  | _, _ => none
def spec_SealPackage.C (k : Nat) : Nat → List AV → AP κ AV := contract spec_SealPackage.sig (spec_SealPackage.body k)
theorem spec_SealPackage.den (k : Nat) (a0 : Int) (a1_0 : Int) (a1_1 : Int) (a1_2 : Int) (a1_3 : List T_impl_Grant) (a1_4 : List T_impl_Flow) (a1_5 : List T_impl_Rule) (a1_6 : List T_impl_Op) (a1_7 : Int) : Code.den ti (spec_SealPackage.Γ k) (spec_SealPackage.LH k) (bodyOf Tryz.f124) (finK ti Tryz.f124.results.toList [(4, [none, none, none, some 4, some 5, some 6, some 7, none])] (flags spec_SealPackage.sig).length (rwI (flags spec_SealPackage.sig) 0) spec_SealPackage.out) ⟨envOf (([.v (.int .i64 a0), .agg [.int .i64 a1_0, .int .i64 a1_1, .int .i64 a1_2, .sl 0, .sl 1, .sl 2, .sl 3, .int .i64 a1_7]]).zipIdx.map fun q => (q.2, q.1)), hpOf [.rows 4 false a1_3, .rows 5 false a1_4, .rows 6 false a1_5, .rows 7 false a1_6], (flags spec_SealPackage.sig).length⟩ = spec_SealPackage.f k a0 a1_0 a1_1 a1_2 a1_3 a1_4 a1_5 a1_6 a1_7 := by kernel_rfl
theorem spec_SealPackage.ok (k : Nat) : CSound Tryz.prog 124 (spec_SealPackage.C k) :=
  csound κ_ok mixed tok (spec_SealPackage.hΓ k) (LH := spec_SealPackage.LH k) (fn := Tryz.f124) (c := bodyOf Tryz.f124) Tryz.func124 rfl Tryz.call124 spec_SealPackage.sig [(4, [none, none, none, some 4, some 5, some 6, some 7, none])] (spec_SealPackage.body k) (by kernel_rfl) (spec_SealPackage.lok k) (by decide) fun vs bs lf y hl hb hy => by
    unfold spec_SealPackage.body at hb
    split at hb
    · obtain ⟨_, rfl, hb_1⟩ := asO_bind hb
      obtain ⟨_, rfl, hb_2⟩ := asO_bind hb_1
      obtain ⟨_, rfl, hb_3⟩ := asO_bind hb_2
      obtain ⟨_, rfl, hb_4⟩ := asO_bind hb_3
      obtain rfl := Option.some.inj hb_4
      exact ⟨spec_SealPackage.out, spec_SealPackage.out_ok, (spec_SealPackage.den k _ _ _ _ _ _ _ _ _).trans hy⟩
    · cases hb
/-! ### spec_IsSealed -/
def spec_IsSealed.f (k : Nat) (a0 : Int) (a1_0 : Int) (a1_1 : Int) (a1_2 : Int) (a1_3 : List T_impl_Grant) (a1_4 : List T_impl_Flow) (a1_5 : List T_impl_Rule) (a1_6 : List T_impl_Op) (a1_7 : Int) : Option Bool :=
  (spec_IsPackage.f k a1_0 a1_1 a1_2 a1_3 a1_4 a1_5 a1_6 a1_7).bind fun t1 => (bif t1 then (spec_IsValidKey.f k a0).bind fun t2 => (bif t2 then (spec_SealPackage.f k a0 a1_0 a1_1 a1_2 a1_3 a1_4 a1_5 a1_6 a1_7).bind fun t3 => some (t3.2.2.2.1 == a1_7) else some false) else some false)
def spec_IsSealed.Γ (k : Nat) : Ct κ := assoc [(47, spec_IsPackage.C k), (142, spec_IsValidKey.C k), (124, spec_SealPackage.C k)]
def spec_IsSealed.LH (k : Nat) : Nat → Option (LHi κ) := assoc []
theorem spec_IsSealed.hΓ (k : Nat) : ∀ f g, spec_IsSealed.Γ k f = some g → CSound Tryz.prog f g := G_cons (spec_IsPackage.ok k) (G_cons (spec_IsValidKey.ok k) (G_cons (spec_SealPackage.ok k) G_nil))
theorem spec_IsSealed.lok (k : Nat) : LOK ti (spec_IsSealed.Γ k) (spec_IsSealed.LH k) 4 (loopsOf (bodyOf Tryz.f94)) :=
  (show loopsOf (bodyOf Tryz.f94) = [] by kernel_rfl) ▸ LOK_nil
def spec_IsSealed.sig : List PSh := [.one .sc, .agg [.sc, .sc, .sc, .ro 4, .ro 5, .ro 6, .ro 7, .sc]]
def spec_IsSealed.g (y : Bool) : Ret κ := ⟨.v (.bool y), [], []⟩
def spec_IsSealed.out (r : Ret κ) : Option Bool :=
  match r with
  | ⟨.v (.bool z0), [], []⟩ => some (z0)
  | _ => none
theorem spec_IsSealed.out_ok (r : Ret κ) (y : Bool) (h : spec_IsSealed.out r = some y) : r = spec_IsSealed.g y := by
  unfold spec_IsSealed.out at h
  split at h
  · obtain rfl := Option.some.inj h
    rfl
  · cases h
def spec_IsSealed.body (k : Nat) (vs : List AV) (bs : List (Blk κ)) : Option (Lf κ) :=
  match vs, bs with
  | [.v (.int .i64 a0), .agg [.int .i64 a1_0, .int .i64 a1_1, .int .i64 a1_2, .sl 0, .sl 1, .sl 2, .sl 3, .int .i64 a1_7]], [qb0, qb1, qb2, qb3] => (asO 4 false qb0).bind fun a1_3 => (asO 5 false qb1).bind fun a1_4 => (asO 6 false qb2).bind fun a1_5 => (asO 7 false qb3).bind fun a1_6 => some ⟨Bool, spec_IsSealed.f k a0 a1_0 a1_1 a1_2 a1_3 a1_4 a1_5 a1_6 a1_7, spec_IsSealed.g⟩
  | _, _ => none
def spec_IsSealed.C (k : Nat) : Nat → List AV → AP κ AV := contract spec_IsSealed.sig (spec_IsSealed.body k)
theorem spec_IsSealed.den (k : Nat) (a0 : Int) (a1_0 : Int) (a1_1 : Int) (a1_2 : Int) (a1_3 : List T_impl_Grant) (a1_4 : List T_impl_Flow) (a1_5 : List T_impl_Rule) (a1_6 : List T_impl_Op) (a1_7 : Int) : Code.den ti (spec_IsSealed.Γ k) (spec_IsSealed.LH k) (bodyOf Tryz.f94) (finK ti Tryz.f94.results.toList [] (flags spec_IsSealed.sig).length (rwI (flags spec_IsSealed.sig) 0) spec_IsSealed.out) ⟨envOf (([.v (.int .i64 a0), .agg [.int .i64 a1_0, .int .i64 a1_1, .int .i64 a1_2, .sl 0, .sl 1, .sl 2, .sl 3, .int .i64 a1_7]]).zipIdx.map fun q => (q.2, q.1)), hpOf [.rows 4 false a1_3, .rows 5 false a1_4, .rows 6 false a1_5, .rows 7 false a1_6], (flags spec_IsSealed.sig).length⟩ = spec_IsSealed.f k a0 a1_0 a1_1 a1_2 a1_3 a1_4 a1_5 a1_6 a1_7 := by kernel_rfl
theorem spec_IsSealed.ok (k : Nat) : CSound Tryz.prog 94 (spec_IsSealed.C k) :=
  csound κ_ok mixed tok (spec_IsSealed.hΓ k) (LH := spec_IsSealed.LH k) (fn := Tryz.f94) (c := bodyOf Tryz.f94) Tryz.func94 rfl Tryz.call94 spec_IsSealed.sig [] (spec_IsSealed.body k) (by kernel_rfl) (spec_IsSealed.lok k) (by decide) fun vs bs lf y hl hb hy => by
    unfold spec_IsSealed.body at hb
    split at hb
    · obtain ⟨_, rfl, hb_1⟩ := asO_bind hb
      obtain ⟨_, rfl, hb_2⟩ := asO_bind hb_1
      obtain ⟨_, rfl, hb_3⟩ := asO_bind hb_2
      obtain ⟨_, rfl, hb_4⟩ := asO_bind hb_3
      obtain rfl := Option.some.inj hb_4
      exact ⟨spec_IsSealed.out, spec_IsSealed.out_ok, (spec_IsSealed.den k _ _ _ _ _ _ _ _ _).trans hy⟩
    · cases hb
/-! ### spec_IsNarrower -/
def spec_IsNarrower.f (k : Nat) (a0_0 : Int) (a0_1 : Int) (a1_0 : Int) (a1_1 : Int) : Option Bool :=
  (spec_IsPattern.f k a0_0 a0_1).bind fun t1 => (bif t1 then (spec_IsPattern.f k a1_0 a1_1).bind fun t2 => (bif t2 then (bif (a1_0 == (0 : Int)) then (bif (a1_1 == (-1 : Int)) then some true else some (a0_1 == a1_1)) else (bif (a0_0 == a1_0) then (bif (a1_1 == (-1 : Int)) then some true else some (a0_1 == a1_1)) else some false)) else some false) else some false)
def spec_IsNarrower.Γ (k : Nat) : Ct κ := assoc [(149, spec_IsPattern.C k)]
def spec_IsNarrower.LH (k : Nat) : Nat → Option (LHi κ) := assoc []
theorem spec_IsNarrower.hΓ (k : Nat) : ∀ f g, spec_IsNarrower.Γ k f = some g → CSound Tryz.prog f g := G_cons (spec_IsPattern.ok k) G_nil
theorem spec_IsNarrower.lok (k : Nat) : LOK ti (spec_IsNarrower.Γ k) (spec_IsNarrower.LH k) 0 (loopsOf (bodyOf Tryz.f143)) :=
  (show loopsOf (bodyOf Tryz.f143) = [] by kernel_rfl) ▸ LOK_nil
def spec_IsNarrower.sig : List PSh := [.agg [.sc, .sc], .agg [.sc, .sc]]
def spec_IsNarrower.g (y : Bool) : Ret κ := ⟨.v (.bool y), [], []⟩
def spec_IsNarrower.out (r : Ret κ) : Option Bool :=
  match r with
  | ⟨.v (.bool z0), [], []⟩ => some (z0)
  | _ => none
theorem spec_IsNarrower.out_ok (r : Ret κ) (y : Bool) (h : spec_IsNarrower.out r = some y) : r = spec_IsNarrower.g y := by
  unfold spec_IsNarrower.out at h
  split at h
  · obtain rfl := Option.some.inj h
    rfl
  · cases h
def spec_IsNarrower.body (k : Nat) (vs : List AV) (bs : List (Blk κ)) : Option (Lf κ) :=
  match vs, bs with
  | [.agg [.int .i64 a0_0, .int .i64 a0_1], .agg [.int .i64 a1_0, .int .i64 a1_1]], [] => some ⟨Bool, spec_IsNarrower.f k a0_0 a0_1 a1_0 a1_1, spec_IsNarrower.g⟩
  | _, _ => none
def spec_IsNarrower.C (k : Nat) : Nat → List AV → AP κ AV := contract spec_IsNarrower.sig (spec_IsNarrower.body k)
theorem spec_IsNarrower.den (k : Nat) (a0_0 : Int) (a0_1 : Int) (a1_0 : Int) (a1_1 : Int) : Code.den ti (spec_IsNarrower.Γ k) (spec_IsNarrower.LH k) (bodyOf Tryz.f143) (finK ti Tryz.f143.results.toList [] (flags spec_IsNarrower.sig).length (rwI (flags spec_IsNarrower.sig) 0) spec_IsNarrower.out) ⟨envOf (([.agg [.int .i64 a0_0, .int .i64 a0_1], .agg [.int .i64 a1_0, .int .i64 a1_1]]).zipIdx.map fun q => (q.2, q.1)), hpOf [], (flags spec_IsNarrower.sig).length⟩ = spec_IsNarrower.f k a0_0 a0_1 a1_0 a1_1 := by kernel_rfl
theorem spec_IsNarrower.ok (k : Nat) : CSound Tryz.prog 143 (spec_IsNarrower.C k) :=
  csound κ_ok mixed tok (spec_IsNarrower.hΓ k) (LH := spec_IsNarrower.LH k) (fn := Tryz.f143) (c := bodyOf Tryz.f143) Tryz.func143 rfl Tryz.call143 spec_IsNarrower.sig [] (spec_IsNarrower.body k) (by kernel_rfl) (spec_IsNarrower.lok k) (by decide) fun vs bs lf y hl hb hy => by
    unfold spec_IsNarrower.body at hb
    split at hb
    · obtain rfl := Option.some.inj hb
      exact ⟨spec_IsNarrower.out, spec_IsNarrower.out_ok, (spec_IsNarrower.den k _ _ _ _).trans hy⟩
    · cases hb
/-! ### spec_l27Rules -/
def spec_l27Rules.L6 {R : Type} (k : Nat) (x1 : Int) (xl0 : List T_impl_Grant) (xl1 : List T_impl_Flow) (xl2 : List T_impl_Rule) (xl3 : List T_impl_Op) (xc4_0 : Int) (xc4_1 : Int) (xc4_2 : Int) (xc4_7 : Int) (X0 : Bool → Option R) (rec : Bool → Int → Option R) (x2 : Bool) (x3 : Int) : Option R :=
  (bif decide (x3 < (xl0.length : Int)) then (bif x2 then (rec true (w64 (x3 + (1 : Int)))) else (bif decide (0 ≤ x3) then (bif decide (x3 < (xl0.length : Int)) then (bif ((rd_impl_Grant xl0 x3).f2 == (3 : Int)) then (bif decide (0 ≤ x1) then (bif decide (x1 < (xl2.length : Int)) then (bif decide (0 ≤ x3) then (bif decide (x3 < (xl0.length : Int)) then (spec_IsNarrower.f k ((rd_impl_Rule xl2 x1).f2.f0) ((rd_impl_Rule xl2 x1).f2.f1) ((rd_impl_Grant xl0 x3).f1.f0) ((rd_impl_Grant xl0 x3).f1.f1)).bind fun t1 => (rec t1 (w64 (x3 + (1 : Int)))) else none) else none) else none) else none) else (rec false (w64 (x3 + (1 : Int))))) else none) else none)) else (X0 x2))
def spec_l27Rules.l6 {R : Type} (k : Nat) (x1 : Int) (xl0 : List T_impl_Grant) (xl1 : List T_impl_Flow) (xl2 : List T_impl_Rule) (xl3 : List T_impl_Op) (xc4_0 : Int) (xc4_1 : Int) (xc4_2 : Int) (xc4_7 : Int) (X0 : Bool → Option R) : Nat → Bool → Int → Option R
  | 0 => fun _ _ => none
  | n + 1 => spec_l27Rules.L6 k x1 xl0 xl1 xl2 xl3 xc4_0 xc4_1 xc4_2 xc4_7 X0 (spec_l27Rules.l6 k x1 xl0 xl1 xl2 xl3 xc4_0 xc4_1 xc4_2 xc4_7 X0 n)
def spec_l27Rules.L2 {R : Type} (k : Nat) (xl0 : List T_impl_Grant) (xl1 : List T_impl_Flow) (xl2 : List T_impl_Rule) (xl3 : List T_impl_Op) (xc4_0 : Int) (xc4_1 : Int) (xc4_2 : Int) (xc4_7 : Int) (X0 : Bool → Option R) (X1 : Unit → Option R) (rec : Int → Option R) (x1 : Int) : Option R :=
  (bif decide (x1 < (xl2.length : Int)) then (spec_l27Rules.l6 k x1 xl0 xl1 xl2 xl3 xc4_0 xc4_1 xc4_2 xc4_7 (fun (y1 : Bool) => (bif !y1 then (X0 false) else (rec (w64 (x1 + (1 : Int)))))) k false (0 : Int)) else (X1 ()))
def spec_l27Rules.l2 {R : Type} (k : Nat) (xl0 : List T_impl_Grant) (xl1 : List T_impl_Flow) (xl2 : List T_impl_Rule) (xl3 : List T_impl_Op) (xc4_0 : Int) (xc4_1 : Int) (xc4_2 : Int) (xc4_7 : Int) (X0 : Bool → Option R) (X1 : Unit → Option R) : Nat → Int → Option R
  | 0 => fun _ => none
  | n + 1 => spec_l27Rules.L2 k xl0 xl1 xl2 xl3 xc4_0 xc4_1 xc4_2 xc4_7 X0 X1 (spec_l27Rules.l2 k xl0 xl1 xl2 xl3 xc4_0 xc4_1 xc4_2 xc4_7 X0 X1 n)
def spec_l27Rules.f (k : Nat) (a0_0 : Int) (a0_1 : Int) (a0_2 : Int) (a0_3 : List T_impl_Grant) (a0_4 : List T_impl_Flow) (a0_5 : List T_impl_Rule) (a0_6 : List T_impl_Op) (a0_7 : Int) : Option Bool :=
  (spec_l27Rules.l2 k a0_3 a0_4 a0_5 a0_6 a0_0 a0_1 a0_2 a0_7 (fun (y2 : Bool) => some y2) (fun (_ : Unit) => some true) k (0 : Int))
def spec_l27Rules.h6 (k : Nat) {R : Type} (K : Ex → St κ → Option R) (vs : List AV) (bs : List (Blk κ)) : Option R :=
  match vs, bs with
  | [.v (.ptr 4 0 0), .v (.int .i64 x1), .v (.bool x2), .v (.int .i64 x3)], [qb0, qb1, qb2, qb3, .cells 39 [.int .i64 xc4_0, .int .i64 xc4_1, .int .i64 xc4_2, .sl 0, .sl 1, .sl 2, .sl 3, .int .i64 xc4_7]] => (asO 4 false qb0).bind fun xl0 => (asO 5 false qb1).bind fun xl1 => (asO 6 false qb2).bind fun xl2 => (asO 7 false qb3).bind fun xl3 => spec_l27Rules.l6 k x1 xl0 xl1 xl2 xl3 xc4_0 xc4_1 xc4_2 xc4_7 (fun (z2 : Bool) => K (.exit 2) (stOf [(1, [none, none, none, some 4, some 5, some 6, some 7, none]), (3, []), (4, [])] [.v (.ptr 4 0 0), .v (.int .i64 x1), .v (.bool z2)] [.rows 4 false xl0, .rows 5 false xl1, .rows 6 false xl2, .rows 7 false xl3, .cells 39 [.int .i64 xc4_0, .int .i64 xc4_1, .int .i64 xc4_2, .sl 0, .sl 1, .sl 2, .sl 3, .int .i64 xc4_7]])) k x2 x3
  | _, _ => none
def spec_l27Rules.h2 (k : Nat) {R : Type} (K : Ex → St κ → Option R) (vs : List AV) (bs : List (Blk κ)) : Option R :=
  match vs, bs with
  | [.v (.ptr 4 0 0), .v (.int .i64 x1)], [qb0, qb1, qb2, qb3, .cells 39 [.int .i64 xc4_0, .int .i64 xc4_1, .int .i64 xc4_2, .sl 0, .sl 1, .sl 2, .sl 3, .int .i64 xc4_7]] => (asO 4 false qb0).bind fun xl0 => (asO 5 false qb1).bind fun xl1 => (asO 6 false qb2).bind fun xl2 => (asO 7 false qb3).bind fun xl3 => spec_l27Rules.l2 k xl0 xl1 xl2 xl3 xc4_0 xc4_1 xc4_2 xc4_7 (fun (z0 : Bool) => K .ret (stOf [(2, [])] [.v (.bool z0)] [.rows 4 false xl0, .rows 5 false xl1, .rows 6 false xl2, .rows 7 false xl3])) (fun (_ : Unit) => K (.exit 0) (stOf [(2, [])] [.v .any] [.rows 4 false xl0, .rows 5 false xl1, .rows 6 false xl2, .rows 7 false xl3])) k x1
  | _, _ => none
def spec_l27Rules.Γ (k : Nat) : Ct κ := assoc [(143, spec_IsNarrower.C k)]
def spec_l27Rules.LH (k : Nat) : Nat → Option (LHi κ) := assoc [(6, ⟨4, [(1, [none, none, none, some 4, some 5, some 6, some 7, none]), (3, []), (4, []), (5, [])], [(1, [none, none, none, some 4, some 5, some 6, some 7, none]), (3, []), (4, [])], @spec_l27Rules.h6 k⟩), (2, ⟨4, [(1, [none, none, none, some 4, some 5, some 6, some 7, none]), (3, [])], [(2, [])], @spec_l27Rules.h2 k⟩)]
theorem spec_l27Rules.hΓ (k : Nat) : ∀ f g, spec_l27Rules.Γ k f = some g → CSound Tryz.prog f g := G_cons (spec_IsNarrower.ok k) G_nil
theorem spec_l27Rules.e6 {R : Type} (K : Ex → St κ → Option R) (k : Nat) (x1 : Int) (xl0 : List T_impl_Grant) (xl1 : List T_impl_Flow) (xl2 : List T_impl_Rule) (xl3 : List T_impl_Op) (xc4_0 : Int) (xc4_1 : Int) (xc4_2 : Int) (xc4_7 : Int) : ∀ (n : Nat) (x2 : Bool) (x3 : Int), loopN 4 (Code.den ti (spec_l27Rules.Γ k) (spec_l27Rules.LH k) (loopAt Tryz.f95 1)) [(1, [none, none, none, some 4, some 5, some 6, some 7, none]), (3, []), (4, []), (5, [])] [(1, [none, none, none, some 4, some 5, some 6, some 7, none]), (3, []), (4, [])] K n [.v (.ptr 4 0 0), .v (.int .i64 x1), .v (.bool x2), .v (.int .i64 x3)] [.rows 4 false xl0, .rows 5 false xl1, .rows 6 false xl2, .rows 7 false xl3, .cells 39 [.int .i64 xc4_0, .int .i64 xc4_1, .int .i64 xc4_2, .sl 0, .sl 1, .sl 2, .sl 3, .int .i64 xc4_7]] = spec_l27Rules.l6 k x1 xl0 xl1 xl2 xl3 xc4_0 xc4_1 xc4_2 xc4_7 (fun (z2 : Bool) => K (.exit 2) (stOf [(1, [none, none, none, some 4, some 5, some 6, some 7, none]), (3, []), (4, [])] [.v (.ptr 4 0 0), .v (.int .i64 x1), .v (.bool z2)] [.rows 4 false xl0, .rows 5 false xl1, .rows 6 false xl2, .rows 7 false xl3, .cells 39 [.int .i64 xc4_0, .int .i64 xc4_1, .int .i64 xc4_2, .sl 0, .sl 1, .sl 2, .sl 3, .int .i64 xc4_7]])) n x2 x3
  | 0, _, _ => rfl
  | n + 1, x2, x3 => (show loopN 4 (Code.den ti (spec_l27Rules.Γ k) (spec_l27Rules.LH k) (loopAt Tryz.f95 1)) [(1, [none, none, none, some 4, some 5, some 6, some 7, none]), (3, []), (4, []), (5, [])] [(1, [none, none, none, some 4, some 5, some 6, some 7, none]), (3, []), (4, [])] K (n + 1) [.v (.ptr 4 0 0), .v (.int .i64 x1), .v (.bool x2), .v (.int .i64 x3)] [.rows 4 false xl0, .rows 5 false xl1, .rows 6 false xl2, .rows 7 false xl3, .cells 39 [.int .i64 xc4_0, .int .i64 xc4_1, .int .i64 xc4_2, .sl 0, .sl 1, .sl 2, .sl 3, .int .i64 xc4_7]] = spec_l27Rules.L6 k x1 xl0 xl1 xl2 xl3 xc4_0 xc4_1 xc4_2 xc4_7 (fun (z2 : Bool) => K (.exit 2) (stOf [(1, [none, none, none, some 4, some 5, some 6, some 7, none]), (3, []), (4, [])] [.v (.ptr 4 0 0), .v (.int .i64 x1), .v (.bool z2)] [.rows 4 false xl0, .rows 5 false xl1, .rows 6 false xl2, .rows 7 false xl3, .cells 39 [.int .i64 xc4_0, .int .i64 xc4_1, .int .i64 xc4_2, .sl 0, .sl 1, .sl 2, .sl 3, .int .i64 xc4_7]])) (fun (x2' : Bool) (x3' : Int) => loopN 4 (Code.den ti (spec_l27Rules.Γ k) (spec_l27Rules.LH k) (loopAt Tryz.f95 1)) [(1, [none, none, none, some 4, some 5, some 6, some 7, none]), (3, []), (4, []), (5, [])] [(1, [none, none, none, some 4, some 5, some 6, some 7, none]), (3, []), (4, [])] K n [.v (.ptr 4 0 0), .v (.int .i64 x1), .v (.bool x2'), .v (.int .i64 x3')] [.rows 4 false xl0, .rows 5 false xl1, .rows 6 false xl2, .rows 7 false xl3, .cells 39 [.int .i64 xc4_0, .int .i64 xc4_1, .int .i64 xc4_2, .sl 0, .sl 1, .sl 2, .sl 3, .int .i64 xc4_7]]) x2 x3 by kernel_rfl).trans (congrArg (fun rec => spec_l27Rules.L6 k x1 xl0 xl1 xl2 xl3 xc4_0 xc4_1 xc4_2 xc4_7 (fun (z2 : Bool) => K (.exit 2) (stOf [(1, [none, none, none, some 4, some 5, some 6, some 7, none]), (3, []), (4, [])] [.v (.ptr 4 0 0), .v (.int .i64 x1), .v (.bool z2)] [.rows 4 false xl0, .rows 5 false xl1, .rows 6 false xl2, .rows 7 false xl3, .cells 39 [.int .i64 xc4_0, .int .i64 xc4_1, .int .i64 xc4_2, .sl 0, .sl 1, .sl 2, .sl 3, .int .i64 xc4_7]])) rec x2 x3) (funext fun x2' => funext fun x3' => spec_l27Rules.e6 K k x1 xl0 xl1 xl2 xl3 xc4_0 xc4_1 xc4_2 xc4_7 n x2' x3'))
theorem spec_l27Rules.q6 (k : Nat) {R : Type} (K : Ex → St κ → Option R) (vs : List AV) (bs : List (Blk κ)) (r : R) (h : spec_l27Rules.h6 k K vs bs = some r) : ∃ n, loopN 4 (Code.den ti (spec_l27Rules.Γ k) (spec_l27Rules.LH k) (loopAt Tryz.f95 1)) [(1, [none, none, none, some 4, some 5, some 6, some 7, none]), (3, []), (4, []), (5, [])] [(1, [none, none, none, some 4, some 5, some 6, some 7, none]), (3, []), (4, [])] K n vs bs = some r := by
  unfold spec_l27Rules.h6 at h
  split at h
  · obtain ⟨_, rfl, h_1⟩ := asO_bind h
    obtain ⟨_, rfl, h_2⟩ := asO_bind h_1
    obtain ⟨_, rfl, h_3⟩ := asO_bind h_2
    obtain ⟨_, rfl, h_4⟩ := asO_bind h_3
    exact ⟨k, (spec_l27Rules.e6 K k _ _ _ _ _ _ _ _ _ k _ _).trans h_4⟩
  · cases h
theorem spec_l27Rules.e2 {R : Type} (K : Ex → St κ → Option R) (k : Nat) (xl0 : List T_impl_Grant) (xl1 : List T_impl_Flow) (xl2 : List T_impl_Rule) (xl3 : List T_impl_Op) (xc4_0 : Int) (xc4_1 : Int) (xc4_2 : Int) (xc4_7 : Int) : ∀ (n : Nat) (x1 : Int), loopN 4 (Code.den ti (spec_l27Rules.Γ k) (spec_l27Rules.LH k) (loopAt Tryz.f95 0)) [(1, [none, none, none, some 4, some 5, some 6, some 7, none]), (3, [])] [(2, [])] K n [.v (.ptr 4 0 0), .v (.int .i64 x1)] [.rows 4 false xl0, .rows 5 false xl1, .rows 6 false xl2, .rows 7 false xl3, .cells 39 [.int .i64 xc4_0, .int .i64 xc4_1, .int .i64 xc4_2, .sl 0, .sl 1, .sl 2, .sl 3, .int .i64 xc4_7]] = spec_l27Rules.l2 k xl0 xl1 xl2 xl3 xc4_0 xc4_1 xc4_2 xc4_7 (fun (z0 : Bool) => K .ret (stOf [(2, [])] [.v (.bool z0)] [.rows 4 false xl0, .rows 5 false xl1, .rows 6 false xl2, .rows 7 false xl3])) (fun (_ : Unit) => K (.exit 0) (stOf [(2, [])] [.v .any] [.rows 4 false xl0, .rows 5 false xl1, .rows 6 false xl2, .rows 7 false xl3])) n x1
  | 0, _ => rfl
  | n + 1, x1 => (show loopN 4 (Code.den ti (spec_l27Rules.Γ k) (spec_l27Rules.LH k) (loopAt Tryz.f95 0)) [(1, [none, none, none, some 4, some 5, some 6, some 7, none]), (3, [])] [(2, [])] K (n + 1) [.v (.ptr 4 0 0), .v (.int .i64 x1)] [.rows 4 false xl0, .rows 5 false xl1, .rows 6 false xl2, .rows 7 false xl3, .cells 39 [.int .i64 xc4_0, .int .i64 xc4_1, .int .i64 xc4_2, .sl 0, .sl 1, .sl 2, .sl 3, .int .i64 xc4_7]] = spec_l27Rules.L2 k xl0 xl1 xl2 xl3 xc4_0 xc4_1 xc4_2 xc4_7 (fun (z0 : Bool) => K .ret (stOf [(2, [])] [.v (.bool z0)] [.rows 4 false xl0, .rows 5 false xl1, .rows 6 false xl2, .rows 7 false xl3])) (fun (_ : Unit) => K (.exit 0) (stOf [(2, [])] [.v .any] [.rows 4 false xl0, .rows 5 false xl1, .rows 6 false xl2, .rows 7 false xl3])) (fun (x1' : Int) => loopN 4 (Code.den ti (spec_l27Rules.Γ k) (spec_l27Rules.LH k) (loopAt Tryz.f95 0)) [(1, [none, none, none, some 4, some 5, some 6, some 7, none]), (3, [])] [(2, [])] K n [.v (.ptr 4 0 0), .v (.int .i64 x1')] [.rows 4 false xl0, .rows 5 false xl1, .rows 6 false xl2, .rows 7 false xl3, .cells 39 [.int .i64 xc4_0, .int .i64 xc4_1, .int .i64 xc4_2, .sl 0, .sl 1, .sl 2, .sl 3, .int .i64 xc4_7]]) x1 by kernel_rfl).trans (congrArg (fun rec => spec_l27Rules.L2 k xl0 xl1 xl2 xl3 xc4_0 xc4_1 xc4_2 xc4_7 (fun (z0 : Bool) => K .ret (stOf [(2, [])] [.v (.bool z0)] [.rows 4 false xl0, .rows 5 false xl1, .rows 6 false xl2, .rows 7 false xl3])) (fun (_ : Unit) => K (.exit 0) (stOf [(2, [])] [.v .any] [.rows 4 false xl0, .rows 5 false xl1, .rows 6 false xl2, .rows 7 false xl3])) rec x1) (funext fun x1' => spec_l27Rules.e2 K k xl0 xl1 xl2 xl3 xc4_0 xc4_1 xc4_2 xc4_7 n x1'))
theorem spec_l27Rules.q2 (k : Nat) {R : Type} (K : Ex → St κ → Option R) (vs : List AV) (bs : List (Blk κ)) (r : R) (h : spec_l27Rules.h2 k K vs bs = some r) : ∃ n, loopN 4 (Code.den ti (spec_l27Rules.Γ k) (spec_l27Rules.LH k) (loopAt Tryz.f95 0)) [(1, [none, none, none, some 4, some 5, some 6, some 7, none]), (3, [])] [(2, [])] K n vs bs = some r := by
  unfold spec_l27Rules.h2 at h
  split at h
  · obtain ⟨_, rfl, h_1⟩ := asO_bind h
    obtain ⟨_, rfl, h_2⟩ := asO_bind h_1
    obtain ⟨_, rfl, h_3⟩ := asO_bind h_2
    obtain ⟨_, rfl, h_4⟩ := asO_bind h_3
    exact ⟨k, (spec_l27Rules.e2 K k _ _ _ _ _ _ _ _ k _).trans h_4⟩
  · cases h
theorem spec_l27Rules.lok (k : Nat) : LOK ti (spec_l27Rules.Γ k) (spec_l27Rules.LH k) 4 (loopsOf (bodyOf Tryz.f95)) :=
  (show loopsOf (bodyOf Tryz.f95) = [loopAt Tryz.f95 0, loopAt Tryz.f95 1] by kernel_rfl) ▸ (LOK_cons (g := ⟨4, [(1, [none, none, none, some 4, some 5, some 6, some 7, none]), (3, [])], [(2, [])], @spec_l27Rules.h2 k⟩) (by kernel_rfl) rfl (fun K vs xs r h => spec_l27Rules.q2 k K vs xs r h) (LOK_cons (g := ⟨4, [(1, [none, none, none, some 4, some 5, some 6, some 7, none]), (3, []), (4, []), (5, [])], [(1, [none, none, none, some 4, some 5, some 6, some 7, none]), (3, []), (4, [])], @spec_l27Rules.h6 k⟩) (by kernel_rfl) rfl (fun K vs xs r h => spec_l27Rules.q6 k K vs xs r h) (LOK_nil)))
def spec_l27Rules.sig : List PSh := [.agg [.sc, .sc, .sc, .ro 4, .ro 5, .ro 6, .ro 7, .sc]]
def spec_l27Rules.g (y : Bool) : Ret κ := ⟨.v (.bool y), [], []⟩
def spec_l27Rules.out (r : Ret κ) : Option Bool :=
  match r with
  | ⟨.v (.bool z0), [], []⟩ => some (z0)
  | _ => none
theorem spec_l27Rules.out_ok (r : Ret κ) (y : Bool) (h : spec_l27Rules.out r = some y) : r = spec_l27Rules.g y := by
  unfold spec_l27Rules.out at h
  split at h
  · obtain rfl := Option.some.inj h
    rfl
  · cases h
def spec_l27Rules.body (k : Nat) (vs : List AV) (bs : List (Blk κ)) : Option (Lf κ) :=
  match vs, bs with
  | [.agg [.int .i64 a0_0, .int .i64 a0_1, .int .i64 a0_2, .sl 0, .sl 1, .sl 2, .sl 3, .int .i64 a0_7]], [qb0, qb1, qb2, qb3] => (asO 4 false qb0).bind fun a0_3 => (asO 5 false qb1).bind fun a0_4 => (asO 6 false qb2).bind fun a0_5 => (asO 7 false qb3).bind fun a0_6 => some ⟨Bool, spec_l27Rules.f k a0_0 a0_1 a0_2 a0_3 a0_4 a0_5 a0_6 a0_7, spec_l27Rules.g⟩
  | _, _ => none
def spec_l27Rules.C (k : Nat) : Nat → List AV → AP κ AV := contract spec_l27Rules.sig (spec_l27Rules.body k)
theorem spec_l27Rules.den (k : Nat) (a0_0 : Int) (a0_1 : Int) (a0_2 : Int) (a0_3 : List T_impl_Grant) (a0_4 : List T_impl_Flow) (a0_5 : List T_impl_Rule) (a0_6 : List T_impl_Op) (a0_7 : Int) : Code.den ti (spec_l27Rules.Γ k) (spec_l27Rules.LH k) (bodyOf Tryz.f95) (finK ti Tryz.f95.results.toList [] (flags spec_l27Rules.sig).length (rwI (flags spec_l27Rules.sig) 0) spec_l27Rules.out) ⟨envOf (([.agg [.int .i64 a0_0, .int .i64 a0_1, .int .i64 a0_2, .sl 0, .sl 1, .sl 2, .sl 3, .int .i64 a0_7]]).zipIdx.map fun q => (q.2, q.1)), hpOf [.rows 4 false a0_3, .rows 5 false a0_4, .rows 6 false a0_5, .rows 7 false a0_6], (flags spec_l27Rules.sig).length⟩ = spec_l27Rules.f k a0_0 a0_1 a0_2 a0_3 a0_4 a0_5 a0_6 a0_7 := by kernel_rfl
theorem spec_l27Rules.ok (k : Nat) : CSound Tryz.prog 95 (spec_l27Rules.C k) :=
  csound κ_ok mixed tok (spec_l27Rules.hΓ k) (LH := spec_l27Rules.LH k) (fn := Tryz.f95) (c := bodyOf Tryz.f95) Tryz.func95 rfl Tryz.call95 spec_l27Rules.sig [] (spec_l27Rules.body k) (by kernel_rfl) (spec_l27Rules.lok k) (by decide) fun vs bs lf y hl hb hy => by
    unfold spec_l27Rules.body at hb
    split at hb
    · obtain ⟨_, rfl, hb_1⟩ := asO_bind hb
      obtain ⟨_, rfl, hb_2⟩ := asO_bind hb_1
      obtain ⟨_, rfl, hb_3⟩ := asO_bind hb_2
      obtain ⟨_, rfl, hb_4⟩ := asO_bind hb_3
      obtain rfl := Option.some.inj hb_4
      exact ⟨spec_l27Rules.out, spec_l27Rules.out_ok, (spec_l27Rules.den k _ _ _ _ _ _ _ _).trans hy⟩
    · cases hb
/-! ### spec_l6Put -/
def spec_l6Put.L2 {R : Type} (k : Nat) (x1 : Int) (xl0 : List Int) (X0 : Int → Option R) (rec : Int → Option R) (x2 : Int) : Option R :=
  (bif decide (x2 < (xl0.length : Int)) then (bif decide (0 ≤ x2) then (bif decide (x2 < (xl0.length : Int)) then (bif decide ((rd_i64 xl0 x2) < x1) then (rec (w64 (x2 + (1 : Int)))) else (X0 x2)) else none) else none) else (X0 x2))
def spec_l6Put.l2 {R : Type} (k : Nat) (x1 : Int) (xl0 : List Int) (X0 : Int → Option R) : Nat → Int → Option R
  | 0 => fun _ => none
  | n + 1 => spec_l6Put.L2 k x1 xl0 X0 (spec_l6Put.l2 k x1 xl0 X0 n)
def spec_l6Put.f (k : Nat) (a0 : List Int) (a1 : Int) : Option (List Int) :=
  (spec_l6Put.l2 k a1 a0 (fun (y1 : Int) => (bif decide (y1 < (a0.length : Int)) then (bif decide (0 ≤ y1) then (bif decide (y1 < (a0.length : Int)) then (bif ((rd_i64 a0 y1) == a1) then (bif decide ((([] : List Int).length + a0.length) * 8 ≤ cap48) then some (([] : List Int) ++ a0) else none) else (bif decide (0 ≤ y1) then (bif decide (y1 ≤ (a0.length : Int)) then (bif decide (0 ≤ (0 : Int)) then (bif decide ((0 : Int) ≤ y1) then (bif decide ((([] : List Int).length + ((a0.take (y1).toNat).drop ((0 : Int)).toNat).length) * 8 ≤ cap48) then (let l2 : List Int := (([] : List Int) ++ ((a0.take (y1).toNat).drop ((0 : Int)).toNat)); (bif decide ((l2.length + ([a1] : List Int).length) * 8 ≤ cap48) then (bif decide (0 ≤ (a0.length : Int)) then (bif decide ((a0.length : Int) ≤ (a0.length : Int)) then (bif decide (0 ≤ y1) then (bif decide (y1 ≤ (a0.length : Int)) then (bif decide (((l2 ++ ([a1] : List Int)).length + ((a0.take ((a0.length : Int)).toNat).drop (y1).toNat).length) * 8 ≤ cap48) then (let l3 : List Int := ((l2 ++ ([a1] : List Int)) ++ ((a0.take ((a0.length : Int)).toNat).drop (y1).toNat)); some l3) else none) else none) else none) else none) else none) else none)) else none) else none) else none) else none) else none)) else none) else none) else (bif decide (0 ≤ y1) then (bif decide (y1 ≤ (a0.length : Int)) then (bif decide (0 ≤ (0 : Int)) then (bif decide ((0 : Int) ≤ y1) then (bif decide ((([] : List Int).length + ((a0.take (y1).toNat).drop ((0 : Int)).toNat).length) * 8 ≤ cap48) then (let l4 : List Int := (([] : List Int) ++ ((a0.take (y1).toNat).drop ((0 : Int)).toNat)); (bif decide ((l4.length + ([a1] : List Int).length) * 8 ≤ cap48) then (bif decide (0 ≤ (a0.length : Int)) then (bif decide ((a0.length : Int) ≤ (a0.length : Int)) then (bif decide (0 ≤ y1) then (bif decide (y1 ≤ (a0.length : Int)) then (bif decide (((l4 ++ ([a1] : List Int)).length + ((a0.take ((a0.length : Int)).toNat).drop (y1).toNat).length) * 8 ≤ cap48) then (let l5 : List Int := ((l4 ++ ([a1] : List Int)) ++ ((a0.take ((a0.length : Int)).toNat).drop (y1).toNat)); some l5) else none) else none) else none) else none) else none) else none)) else none) else none) else none) else none) else none))) k (0 : Int))
def spec_l6Put.h2 (k : Nat) {R : Type} (K : Ex → St κ → Option R) (vs : List AV) (bs : List (Blk κ)) : Option R :=
  match vs, bs with
  | [.v (.sl 0), .v (.int .i64 x1), .v (.int .i64 x2)], [qb0] => (asO 8 false qb0).bind fun xl0 => spec_l6Put.l2 k x1 xl0 (fun (z2 : Int) => K (.exit 0) (stOf [(0, [some 8]), (1, []), (5, [])] [.v (.sl 0), .v (.int .i64 x1), .v (.int .i64 z2)] [.rows 8 false xl0])) k x2
  | _, _ => none
def spec_l6Put.Γ (k : Nat) : Ct κ := assoc []
def spec_l6Put.LH (k : Nat) : Nat → Option (LHi κ) := assoc [(2, ⟨1, [(0, [some 8]), (1, []), (5, [])], [(0, [some 8]), (1, []), (5, [])], @spec_l6Put.h2 k⟩)]
theorem spec_l6Put.hΓ (k : Nat) : ∀ f g, spec_l6Put.Γ k f = some g → CSound Tryz.prog f g := G_nil
theorem spec_l6Put.e2 {R : Type} (K : Ex → St κ → Option R) (k : Nat) (x1 : Int) (xl0 : List Int) : ∀ (n : Nat) (x2 : Int), loopN 1 (Code.den ti (spec_l6Put.Γ k) (spec_l6Put.LH k) (loopAt Tryz.f172 0)) [(0, [some 8]), (1, []), (5, [])] [(0, [some 8]), (1, []), (5, [])] K n [.v (.sl 0), .v (.int .i64 x1), .v (.int .i64 x2)] [.rows 8 false xl0] = spec_l6Put.l2 k x1 xl0 (fun (z2 : Int) => K (.exit 0) (stOf [(0, [some 8]), (1, []), (5, [])] [.v (.sl 0), .v (.int .i64 x1), .v (.int .i64 z2)] [.rows 8 false xl0])) n x2
  | 0, _ => rfl
  | n + 1, x2 => (show loopN 1 (Code.den ti (spec_l6Put.Γ k) (spec_l6Put.LH k) (loopAt Tryz.f172 0)) [(0, [some 8]), (1, []), (5, [])] [(0, [some 8]), (1, []), (5, [])] K (n + 1) [.v (.sl 0), .v (.int .i64 x1), .v (.int .i64 x2)] [.rows 8 false xl0] = spec_l6Put.L2 k x1 xl0 (fun (z2 : Int) => K (.exit 0) (stOf [(0, [some 8]), (1, []), (5, [])] [.v (.sl 0), .v (.int .i64 x1), .v (.int .i64 z2)] [.rows 8 false xl0])) (fun (x2' : Int) => loopN 1 (Code.den ti (spec_l6Put.Γ k) (spec_l6Put.LH k) (loopAt Tryz.f172 0)) [(0, [some 8]), (1, []), (5, [])] [(0, [some 8]), (1, []), (5, [])] K n [.v (.sl 0), .v (.int .i64 x1), .v (.int .i64 x2')] [.rows 8 false xl0]) x2 by kernel_rfl).trans (congrArg (fun rec => spec_l6Put.L2 k x1 xl0 (fun (z2 : Int) => K (.exit 0) (stOf [(0, [some 8]), (1, []), (5, [])] [.v (.sl 0), .v (.int .i64 x1), .v (.int .i64 z2)] [.rows 8 false xl0])) rec x2) (funext fun x2' => spec_l6Put.e2 K k x1 xl0 n x2'))
theorem spec_l6Put.q2 (k : Nat) {R : Type} (K : Ex → St κ → Option R) (vs : List AV) (bs : List (Blk κ)) (r : R) (h : spec_l6Put.h2 k K vs bs = some r) : ∃ n, loopN 1 (Code.den ti (spec_l6Put.Γ k) (spec_l6Put.LH k) (loopAt Tryz.f172 0)) [(0, [some 8]), (1, []), (5, [])] [(0, [some 8]), (1, []), (5, [])] K n vs bs = some r := by
  unfold spec_l6Put.h2 at h
  split at h
  · obtain ⟨_, rfl, h_1⟩ := asO_bind h
    exact ⟨k, (spec_l6Put.e2 K k _ _ k _).trans h_1⟩
  · cases h
theorem spec_l6Put.lok (k : Nat) : LOK ti (spec_l6Put.Γ k) (spec_l6Put.LH k) 1 (loopsOf (bodyOf Tryz.f172)) :=
  (show loopsOf (bodyOf Tryz.f172) = [loopAt Tryz.f172 0] by kernel_rfl) ▸ (LOK_cons (g := ⟨1, [(0, [some 8]), (1, []), (5, [])], [(0, [some 8]), (1, []), (5, [])], @spec_l6Put.h2 k⟩) (by kernel_rfl) rfl (fun K vs xs r h => spec_l6Put.q2 k K vs xs r h) (LOK_nil))
def spec_l6Put.sig : List PSh := [.one (.ro 8), .one .sc]
def spec_l6Put.g (y : List Int) : Ret κ := ⟨.v (.sl 1), [], [.rows 8 true y]⟩
def spec_l6Put.out (r : Ret κ) : Option (List Int) :=
  match r with
  | ⟨.v (.sl 1), [], [q0]⟩ => (asO 8 true q0).bind fun z0 => some (z0)
  | _ => none
theorem spec_l6Put.out_ok (r : Ret κ) (y : List Int) (h : spec_l6Put.out r = some y) : r = spec_l6Put.g y := by
  unfold spec_l6Put.out at h
  split at h
  · obtain ⟨_, rfl, h_1⟩ := asO_bind h
    obtain rfl := Option.some.inj h_1
    rfl
  · cases h
def spec_l6Put.body (k : Nat) (vs : List AV) (bs : List (Blk κ)) : Option (Lf κ) :=
  match vs, bs with
  | [.v (.sl 0), .v (.int .i64 a1)], [qb0] => (asO 8 false qb0).bind fun a0 => some ⟨List Int, spec_l6Put.f k a0 a1, spec_l6Put.g⟩
  | _, _ => none
def spec_l6Put.C (k : Nat) : Nat → List AV → AP κ AV := contract spec_l6Put.sig (spec_l6Put.body k)
theorem spec_l6Put.den (k : Nat) (a0 : List Int) (a1 : Int) : Code.den ti (spec_l6Put.Γ k) (spec_l6Put.LH k) (bodyOf Tryz.f172) (finK ti Tryz.f172.results.toList [(4, [some 8])] (flags spec_l6Put.sig).length (rwI (flags spec_l6Put.sig) 0) spec_l6Put.out) ⟨envOf (([.v (.sl 0), .v (.int .i64 a1)]).zipIdx.map fun q => (q.2, q.1)), hpOf [.rows 8 false a0], (flags spec_l6Put.sig).length⟩ = spec_l6Put.f k a0 a1 := by kernel_rfl
theorem spec_l6Put.ok (k : Nat) : CSound Tryz.prog 172 (spec_l6Put.C k) :=
  csound κ_ok mixed tok (spec_l6Put.hΓ k) (LH := spec_l6Put.LH k) (fn := Tryz.f172) (c := bodyOf Tryz.f172) Tryz.func172 rfl Tryz.call172 spec_l6Put.sig [(4, [some 8])] (spec_l6Put.body k) (by kernel_rfl) (spec_l6Put.lok k) (by decide) fun vs bs lf y hl hb hy => by
    unfold spec_l6Put.body at hb
    split at hb
    · obtain ⟨_, rfl, hb_1⟩ := asO_bind hb
      obtain rfl := Option.some.inj hb_1
      exact ⟨spec_l6Put.out, spec_l6Put.out_ok, (spec_l6Put.den k _ _).trans hy⟩
    · cases hb
/-! ### spec_l27Owners -/
def spec_l27Owners.L3 {R : Type} (k : Nat) (x1 : Int) (xl0 : List T_impl_Op) (X0 : List Int → Option R) (rec : Int → List Int → Option R) (x3 : Int) (xl1 : List Int) : Option R :=
  (bif decide (x3 < (xl0.length : Int)) then (spec_AreOps.f k xl0).bind fun t1 => (bif t1 then (bif decide (0 ≤ x3) then (bif decide (x3 < (xl0.length : Int)) then (bif ((rd_impl_Op xl0 x3).f0 == x1) then (bif decide (0 ≤ x3) then (bif decide (x3 < (xl0.length : Int)) then (spec_l6Put.f k xl1 ((rd_impl_Op xl0 x3).f2)).bind fun t2 => (rec (w64 (x3 + (1 : Int))) t2) else none) else none) else (rec (w64 (x3 + (1 : Int))) xl1)) else none) else none) else (X0 xl1)) else (X0 xl1))
def spec_l27Owners.l3 {R : Type} (k : Nat) (x1 : Int) (xl0 : List T_impl_Op) (X0 : List Int → Option R) : Nat → Int → List Int → Option R
  | 0 => fun _ _ => none
  | n + 1 => spec_l27Owners.L3 k x1 xl0 X0 (spec_l27Owners.l3 k x1 xl0 X0 n)
def spec_l27Owners.f (k : Nat) (a0 : List T_impl_Op) (a1 : Int) : Option (List Int) :=
  (spec_l27Owners.l3 k a1 a0 (fun (y3 : List Int) => some y3) k (0 : Int) ([] : List Int))
def spec_l27Owners.h3 (k : Nat) {R : Type} (K : Ex → St κ → Option R) (vs : List AV) (bs : List (Blk κ)) : Option R :=
  match vs, bs with
  | [.v (.sl 0), .v (.int .i64 x1), .v (.sl 1), .v (.int .i64 x3)], [qb0, qb1] => (asO 7 false qb0).bind fun xl0 => (asO 8 true qb1).bind fun xl1 => spec_l27Owners.l3 k x1 xl0 (fun (zl1 : List Int) => K (.exit 0) (stOf [(5, [some 8])] [.v (.sl 1)] [.rows 7 false xl0, .rows 8 true zl1])) k x3 xl1
  | _, _ => none
def spec_l27Owners.Γ (k : Nat) : Ct κ := assoc [(102, spec_AreOps.C k), (172, spec_l6Put.C k)]
def spec_l27Owners.LH (k : Nat) : Nat → Option (LHi κ) := assoc [(3, ⟨1, [(0, [some 7]), (1, []), (5, [some 8]), (6, [])], [(5, [some 8])], @spec_l27Owners.h3 k⟩)]
theorem spec_l27Owners.hΓ (k : Nat) : ∀ f g, spec_l27Owners.Γ k f = some g → CSound Tryz.prog f g := G_cons (spec_AreOps.ok k) (G_cons (spec_l6Put.ok k) G_nil)
theorem spec_l27Owners.e3 {R : Type} (K : Ex → St κ → Option R) (k : Nat) (x1 : Int) (xl0 : List T_impl_Op) : ∀ (n : Nat) (x3 : Int) (xl1 : List Int), loopN 1 (Code.den ti (spec_l27Owners.Γ k) (spec_l27Owners.LH k) (loopAt Tryz.f145 0)) [(0, [some 7]), (1, []), (5, [some 8]), (6, [])] [(5, [some 8])] K n [.v (.sl 0), .v (.int .i64 x1), .v (.sl 1), .v (.int .i64 x3)] [.rows 7 false xl0, .rows 8 true xl1] = spec_l27Owners.l3 k x1 xl0 (fun (zl1 : List Int) => K (.exit 0) (stOf [(5, [some 8])] [.v (.sl 1)] [.rows 7 false xl0, .rows 8 true zl1])) n x3 xl1
  | 0, _, _ => rfl
  | n + 1, x3, xl1 => (show loopN 1 (Code.den ti (spec_l27Owners.Γ k) (spec_l27Owners.LH k) (loopAt Tryz.f145 0)) [(0, [some 7]), (1, []), (5, [some 8]), (6, [])] [(5, [some 8])] K (n + 1) [.v (.sl 0), .v (.int .i64 x1), .v (.sl 1), .v (.int .i64 x3)] [.rows 7 false xl0, .rows 8 true xl1] = spec_l27Owners.L3 k x1 xl0 (fun (zl1 : List Int) => K (.exit 0) (stOf [(5, [some 8])] [.v (.sl 1)] [.rows 7 false xl0, .rows 8 true zl1])) (fun (x3' : Int) (xl1' : List Int) => loopN 1 (Code.den ti (spec_l27Owners.Γ k) (spec_l27Owners.LH k) (loopAt Tryz.f145 0)) [(0, [some 7]), (1, []), (5, [some 8]), (6, [])] [(5, [some 8])] K n [.v (.sl 0), .v (.int .i64 x1), .v (.sl 1), .v (.int .i64 x3')] [.rows 7 false xl0, .rows 8 true xl1']) x3 xl1 by kernel_rfl).trans (congrArg (fun rec => spec_l27Owners.L3 k x1 xl0 (fun (zl1 : List Int) => K (.exit 0) (stOf [(5, [some 8])] [.v (.sl 1)] [.rows 7 false xl0, .rows 8 true zl1])) rec x3 xl1) (funext fun x3' => funext fun xl1' => spec_l27Owners.e3 K k x1 xl0 n x3' xl1'))
theorem spec_l27Owners.q3 (k : Nat) {R : Type} (K : Ex → St κ → Option R) (vs : List AV) (bs : List (Blk κ)) (r : R) (h : spec_l27Owners.h3 k K vs bs = some r) : ∃ n, loopN 1 (Code.den ti (spec_l27Owners.Γ k) (spec_l27Owners.LH k) (loopAt Tryz.f145 0)) [(0, [some 7]), (1, []), (5, [some 8]), (6, [])] [(5, [some 8])] K n vs bs = some r := by
  unfold spec_l27Owners.h3 at h
  split at h
  · obtain ⟨_, rfl, h_1⟩ := asO_bind h
    obtain ⟨_, rfl, h_2⟩ := asO_bind h_1
    exact ⟨k, (spec_l27Owners.e3 K k _ _ k _ _).trans h_2⟩
  · cases h
theorem spec_l27Owners.lok (k : Nat) : LOK ti (spec_l27Owners.Γ k) (spec_l27Owners.LH k) 1 (loopsOf (bodyOf Tryz.f145)) :=
  (show loopsOf (bodyOf Tryz.f145) = [loopAt Tryz.f145 0] by kernel_rfl) ▸ (LOK_cons (g := ⟨1, [(0, [some 7]), (1, []), (5, [some 8]), (6, [])], [(5, [some 8])], @spec_l27Owners.h3 k⟩) (by kernel_rfl) rfl (fun K vs xs r h => spec_l27Owners.q3 k K vs xs r h) (LOK_nil))
def spec_l27Owners.sig : List PSh := [.one (.ro 7), .one .sc]
def spec_l27Owners.g (y : List Int) : Ret κ := ⟨.v (.sl 1), [], [.rows 8 true y]⟩
def spec_l27Owners.out (r : Ret κ) : Option (List Int) :=
  match r with
  | ⟨.v (.sl 1), [], [q0]⟩ => (asO 8 true q0).bind fun z0 => some (z0)
  | _ => none
theorem spec_l27Owners.out_ok (r : Ret κ) (y : List Int) (h : spec_l27Owners.out r = some y) : r = spec_l27Owners.g y := by
  unfold spec_l27Owners.out at h
  split at h
  · obtain ⟨_, rfl, h_1⟩ := asO_bind h
    obtain rfl := Option.some.inj h_1
    rfl
  · cases h
def spec_l27Owners.body (k : Nat) (vs : List AV) (bs : List (Blk κ)) : Option (Lf κ) :=
  match vs, bs with
  | [.v (.sl 0), .v (.int .i64 a1)], [qb0] => (asO 7 false qb0).bind fun a0 => some ⟨List Int, spec_l27Owners.f k a0 a1, spec_l27Owners.g⟩
  | _, _ => none
def spec_l27Owners.C (k : Nat) : Nat → List AV → AP κ AV := contract spec_l27Owners.sig (spec_l27Owners.body k)
theorem spec_l27Owners.den (k : Nat) (a0 : List T_impl_Op) (a1 : Int) : Code.den ti (spec_l27Owners.Γ k) (spec_l27Owners.LH k) (bodyOf Tryz.f145) (finK ti Tryz.f145.results.toList [(4, [some 8])] (flags spec_l27Owners.sig).length (rwI (flags spec_l27Owners.sig) 0) spec_l27Owners.out) ⟨envOf (([.v (.sl 0), .v (.int .i64 a1)]).zipIdx.map fun q => (q.2, q.1)), hpOf [.rows 7 false a0], (flags spec_l27Owners.sig).length⟩ = spec_l27Owners.f k a0 a1 := by kernel_rfl
theorem spec_l27Owners.ok (k : Nat) : CSound Tryz.prog 145 (spec_l27Owners.C k) :=
  csound κ_ok mixed tok (spec_l27Owners.hΓ k) (LH := spec_l27Owners.LH k) (fn := Tryz.f145) (c := bodyOf Tryz.f145) Tryz.func145 rfl Tryz.call145 spec_l27Owners.sig [(4, [some 8])] (spec_l27Owners.body k) (by kernel_rfl) (spec_l27Owners.lok k) (by decide) fun vs bs lf y hl hb hy => by
    unfold spec_l27Owners.body at hb
    split at hb
    · obtain ⟨_, rfl, hb_1⟩ := asO_bind hb
      obtain rfl := Option.some.inj hb_1
      exact ⟨spec_l27Owners.out, spec_l27Owners.out_ok, (spec_l27Owners.den k _ _).trans hy⟩
    · cases hb
/-! ### spec_OwnersRead -/
def spec_OwnersRead.f (k : Nat) (a0 : List T_impl_Op) : Option (List Int) :=
  (spec_l27Owners.f k a0 (1 : Int)).bind fun t1 => some t1
def spec_OwnersRead.Γ (k : Nat) : Ct κ := assoc [(145, spec_l27Owners.C k)]
def spec_OwnersRead.LH (k : Nat) : Nat → Option (LHi κ) := assoc []
theorem spec_OwnersRead.hΓ (k : Nat) : ∀ f g, spec_OwnersRead.Γ k f = some g → CSound Tryz.prog f g := G_cons (spec_l27Owners.ok k) G_nil
theorem spec_OwnersRead.lok (k : Nat) : LOK ti (spec_OwnersRead.Γ k) (spec_OwnersRead.LH k) 1 (loopsOf (bodyOf Tryz.f97)) :=
  (show loopsOf (bodyOf Tryz.f97) = [] by kernel_rfl) ▸ LOK_nil
def spec_OwnersRead.sig : List PSh := [.one (.ro 7)]
def spec_OwnersRead.g (y : List Int) : Ret κ := ⟨.v (.sl 1), [], [.rows 8 true y]⟩
def spec_OwnersRead.out (r : Ret κ) : Option (List Int) :=
  match r with
  | ⟨.v (.sl 1), [], [q0]⟩ => (asO 8 true q0).bind fun z0 => some (z0)
  | _ => none
theorem spec_OwnersRead.out_ok (r : Ret κ) (y : List Int) (h : spec_OwnersRead.out r = some y) : r = spec_OwnersRead.g y := by
  unfold spec_OwnersRead.out at h
  split at h
  · obtain ⟨_, rfl, h_1⟩ := asO_bind h
    obtain rfl := Option.some.inj h_1
    rfl
  · cases h
def spec_OwnersRead.body (k : Nat) (vs : List AV) (bs : List (Blk κ)) : Option (Lf κ) :=
  match vs, bs with
  | [.v (.sl 0)], [qb0] => (asO 7 false qb0).bind fun a0 => some ⟨List Int, spec_OwnersRead.f k a0, spec_OwnersRead.g⟩
  | _, _ => none
def spec_OwnersRead.C (k : Nat) : Nat → List AV → AP κ AV := contract spec_OwnersRead.sig (spec_OwnersRead.body k)
theorem spec_OwnersRead.den (k : Nat) (a0 : List T_impl_Op) : Code.den ti (spec_OwnersRead.Γ k) (spec_OwnersRead.LH k) (bodyOf Tryz.f97) (finK ti Tryz.f97.results.toList [(2, [some 8])] (flags spec_OwnersRead.sig).length (rwI (flags spec_OwnersRead.sig) 0) spec_OwnersRead.out) ⟨envOf (([.v (.sl 0)]).zipIdx.map fun q => (q.2, q.1)), hpOf [.rows 7 false a0], (flags spec_OwnersRead.sig).length⟩ = spec_OwnersRead.f k a0 := by kernel_rfl
theorem spec_OwnersRead.ok (k : Nat) : CSound Tryz.prog 97 (spec_OwnersRead.C k) :=
  csound κ_ok mixed tok (spec_OwnersRead.hΓ k) (LH := spec_OwnersRead.LH k) (fn := Tryz.f97) (c := bodyOf Tryz.f97) Tryz.func97 rfl Tryz.call97 spec_OwnersRead.sig [(2, [some 8])] (spec_OwnersRead.body k) (by kernel_rfl) (spec_OwnersRead.lok k) (by decide) fun vs bs lf y hl hb hy => by
    unfold spec_OwnersRead.body at hb
    split at hb
    · obtain ⟨_, rfl, hb_1⟩ := asO_bind hb
      obtain rfl := Option.some.inj hb_1
      exact ⟨spec_OwnersRead.out, spec_OwnersRead.out_ok, (spec_OwnersRead.den k _).trans hy⟩
    · cases hb
/-! ### spec_HasGrantFor -/
def spec_HasGrantFor.L2 {R : Type} (k : Nat) (x1 : Int) (x2 : Int) (xl0 : List T_impl_Grant) (X0 : Bool → Option R) (X1 : Unit → Option R) (rec : Int → Option R) (x3 : Int) : Option R :=
  (bif decide (x3 < (xl0.length : Int)) then (bif decide (0 ≤ x3) then (bif decide (x3 < (xl0.length : Int)) then (spec_IsGrant.f k ((rd_impl_Grant xl0 x3).f0) ((rd_impl_Grant xl0 x3).f1.f0) ((rd_impl_Grant xl0 x3).f1.f1) ((rd_impl_Grant xl0 x3).f2) ((rd_impl_Grant xl0 x3).f3) ((rd_impl_Grant xl0 x3).f4) ((rd_impl_Grant xl0 x3).f5)).bind fun t1 => (bif t1 then (bif decide (0 ≤ x3) then (bif decide (x3 < (xl0.length : Int)) then (bif ((rd_impl_Grant xl0 x3).f2 == x1) then (bif decide (0 ≤ x3) then (bif decide (x3 < (xl0.length : Int)) then (bif ((rd_impl_Grant xl0 x3).f1.f0 == x2) then (X0 true) else (bif decide (0 ≤ x3) then (bif decide (x3 < (xl0.length : Int)) then (bif ((rd_impl_Grant xl0 x3).f1.f0 == (0 : Int)) then (X0 true) else (rec (w64 (x3 + (1 : Int))))) else none) else none)) else none) else none) else (rec (w64 (x3 + (1 : Int))))) else none) else none) else (rec (w64 (x3 + (1 : Int))))) else none) else none) else (X1 ()))
def spec_HasGrantFor.l2 {R : Type} (k : Nat) (x1 : Int) (x2 : Int) (xl0 : List T_impl_Grant) (X0 : Bool → Option R) (X1 : Unit → Option R) : Nat → Int → Option R
  | 0 => fun _ => none
  | n + 1 => spec_HasGrantFor.L2 k x1 x2 xl0 X0 X1 (spec_HasGrantFor.l2 k x1 x2 xl0 X0 X1 n)
def spec_HasGrantFor.f (k : Nat) (a0 : List T_impl_Grant) (a1 : Int) (a2 : Int) : Option Bool :=
  (spec_HasGrantFor.l2 k a1 a2 a0 (fun (y2 : Bool) => some y2) (fun (_ : Unit) => some false) k (0 : Int))
def spec_HasGrantFor.h2 (k : Nat) {R : Type} (K : Ex → St κ → Option R) (vs : List AV) (bs : List (Blk κ)) : Option R :=
  match vs, bs with
  | [.v (.sl 0), .v (.int .i64 x1), .v (.int .i64 x2), .v (.int .i64 x3)], [qb0] => (asO 4 false qb0).bind fun xl0 => spec_HasGrantFor.l2 k x1 x2 xl0 (fun (z0 : Bool) => K .ret (stOf [(6, [])] [.v (.bool z0)] [.rows 4 false xl0])) (fun (_ : Unit) => K (.exit 0) (stOf [(6, [])] [.v .any] [.rows 4 false xl0])) k x3
  | _, _ => none
def spec_HasGrantFor.Γ (k : Nat) : Ct κ := assoc [(103, spec_IsGrant.C k)]
def spec_HasGrantFor.LH (k : Nat) : Nat → Option (LHi κ) := assoc [(2, ⟨1, [(0, [some 4]), (1, []), (2, []), (7, [])], [(6, [])], @spec_HasGrantFor.h2 k⟩)]
theorem spec_HasGrantFor.hΓ (k : Nat) : ∀ f g, spec_HasGrantFor.Γ k f = some g → CSound Tryz.prog f g := G_cons (spec_IsGrant.ok k) G_nil
theorem spec_HasGrantFor.e2 {R : Type} (K : Ex → St κ → Option R) (k : Nat) (x1 : Int) (x2 : Int) (xl0 : List T_impl_Grant) : ∀ (n : Nat) (x3 : Int), loopN 1 (Code.den ti (spec_HasGrantFor.Γ k) (spec_HasGrantFor.LH k) (loopAt Tryz.f144 0)) [(0, [some 4]), (1, []), (2, []), (7, [])] [(6, [])] K n [.v (.sl 0), .v (.int .i64 x1), .v (.int .i64 x2), .v (.int .i64 x3)] [.rows 4 false xl0] = spec_HasGrantFor.l2 k x1 x2 xl0 (fun (z0 : Bool) => K .ret (stOf [(6, [])] [.v (.bool z0)] [.rows 4 false xl0])) (fun (_ : Unit) => K (.exit 0) (stOf [(6, [])] [.v .any] [.rows 4 false xl0])) n x3
  | 0, _ => rfl
  | n + 1, x3 => (show loopN 1 (Code.den ti (spec_HasGrantFor.Γ k) (spec_HasGrantFor.LH k) (loopAt Tryz.f144 0)) [(0, [some 4]), (1, []), (2, []), (7, [])] [(6, [])] K (n + 1) [.v (.sl 0), .v (.int .i64 x1), .v (.int .i64 x2), .v (.int .i64 x3)] [.rows 4 false xl0] = spec_HasGrantFor.L2 k x1 x2 xl0 (fun (z0 : Bool) => K .ret (stOf [(6, [])] [.v (.bool z0)] [.rows 4 false xl0])) (fun (_ : Unit) => K (.exit 0) (stOf [(6, [])] [.v .any] [.rows 4 false xl0])) (fun (x3' : Int) => loopN 1 (Code.den ti (spec_HasGrantFor.Γ k) (spec_HasGrantFor.LH k) (loopAt Tryz.f144 0)) [(0, [some 4]), (1, []), (2, []), (7, [])] [(6, [])] K n [.v (.sl 0), .v (.int .i64 x1), .v (.int .i64 x2), .v (.int .i64 x3')] [.rows 4 false xl0]) x3 by kernel_rfl).trans (congrArg (fun rec => spec_HasGrantFor.L2 k x1 x2 xl0 (fun (z0 : Bool) => K .ret (stOf [(6, [])] [.v (.bool z0)] [.rows 4 false xl0])) (fun (_ : Unit) => K (.exit 0) (stOf [(6, [])] [.v .any] [.rows 4 false xl0])) rec x3) (funext fun x3' => spec_HasGrantFor.e2 K k x1 x2 xl0 n x3'))
theorem spec_HasGrantFor.q2 (k : Nat) {R : Type} (K : Ex → St κ → Option R) (vs : List AV) (bs : List (Blk κ)) (r : R) (h : spec_HasGrantFor.h2 k K vs bs = some r) : ∃ n, loopN 1 (Code.den ti (spec_HasGrantFor.Γ k) (spec_HasGrantFor.LH k) (loopAt Tryz.f144 0)) [(0, [some 4]), (1, []), (2, []), (7, [])] [(6, [])] K n vs bs = some r := by
  unfold spec_HasGrantFor.h2 at h
  split at h
  · obtain ⟨_, rfl, h_1⟩ := asO_bind h
    exact ⟨k, (spec_HasGrantFor.e2 K k _ _ _ k _).trans h_1⟩
  · cases h
theorem spec_HasGrantFor.lok (k : Nat) : LOK ti (spec_HasGrantFor.Γ k) (spec_HasGrantFor.LH k) 1 (loopsOf (bodyOf Tryz.f144)) :=
  (show loopsOf (bodyOf Tryz.f144) = [loopAt Tryz.f144 0] by kernel_rfl) ▸ (LOK_cons (g := ⟨1, [(0, [some 4]), (1, []), (2, []), (7, [])], [(6, [])], @spec_HasGrantFor.h2 k⟩) (by kernel_rfl) rfl (fun K vs xs r h => spec_HasGrantFor.q2 k K vs xs r h) (LOK_nil))
def spec_HasGrantFor.sig : List PSh := [.one (.ro 4), .one .sc, .one .sc]
def spec_HasGrantFor.g (y : Bool) : Ret κ := ⟨.v (.bool y), [], []⟩
def spec_HasGrantFor.out (r : Ret κ) : Option Bool :=
  match r with
  | ⟨.v (.bool z0), [], []⟩ => some (z0)
  | _ => none
theorem spec_HasGrantFor.out_ok (r : Ret κ) (y : Bool) (h : spec_HasGrantFor.out r = some y) : r = spec_HasGrantFor.g y := by
  unfold spec_HasGrantFor.out at h
  split at h
  · obtain rfl := Option.some.inj h
    rfl
  · cases h
def spec_HasGrantFor.body (k : Nat) (vs : List AV) (bs : List (Blk κ)) : Option (Lf κ) :=
  match vs, bs with
  | [.v (.sl 0), .v (.int .i64 a1), .v (.int .i64 a2)], [qb0] => (asO 4 false qb0).bind fun a0 => some ⟨Bool, spec_HasGrantFor.f k a0 a1 a2, spec_HasGrantFor.g⟩
  | _, _ => none
def spec_HasGrantFor.C (k : Nat) : Nat → List AV → AP κ AV := contract spec_HasGrantFor.sig (spec_HasGrantFor.body k)
theorem spec_HasGrantFor.den (k : Nat) (a0 : List T_impl_Grant) (a1 : Int) (a2 : Int) : Code.den ti (spec_HasGrantFor.Γ k) (spec_HasGrantFor.LH k) (bodyOf Tryz.f144) (finK ti Tryz.f144.results.toList [] (flags spec_HasGrantFor.sig).length (rwI (flags spec_HasGrantFor.sig) 0) spec_HasGrantFor.out) ⟨envOf (([.v (.sl 0), .v (.int .i64 a1), .v (.int .i64 a2)]).zipIdx.map fun q => (q.2, q.1)), hpOf [.rows 4 false a0], (flags spec_HasGrantFor.sig).length⟩ = spec_HasGrantFor.f k a0 a1 a2 := by kernel_rfl
theorem spec_HasGrantFor.ok (k : Nat) : CSound Tryz.prog 144 (spec_HasGrantFor.C k) :=
  csound κ_ok mixed tok (spec_HasGrantFor.hΓ k) (LH := spec_HasGrantFor.LH k) (fn := Tryz.f144) (c := bodyOf Tryz.f144) Tryz.func144 rfl Tryz.call144 spec_HasGrantFor.sig [] (spec_HasGrantFor.body k) (by kernel_rfl) (spec_HasGrantFor.lok k) (by decide) fun vs bs lf y hl hb hy => by
    unfold spec_HasGrantFor.body at hb
    split at hb
    · obtain ⟨_, rfl, hb_1⟩ := asO_bind hb
      obtain rfl := Option.some.inj hb_1
      exact ⟨spec_HasGrantFor.out, spec_HasGrantFor.out_ok, (spec_HasGrantFor.den k _ _ _).trans hy⟩
    · cases hb
end Go.Proofs.YtoenilndklbceaaGreat.PFnExactUpdatePackage
