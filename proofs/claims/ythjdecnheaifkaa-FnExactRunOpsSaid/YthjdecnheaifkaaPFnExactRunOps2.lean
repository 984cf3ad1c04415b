/- What the functions that the law FnExactRunOps reaches come to; no conditions. -/
import Derived.Test.YthjdecnheaifkaaPFnExactRunOps1
set_option linter.unusedVariables false
set_option maxRecDepth 100000
namespace Go.Proofs.Ythjdecnheaifkaa.PFnExactRunOps
open Go Go.Eng Go.Proofs
/-! ### spec_IsLabel -/
def spec_IsLabel.f (k : Nat) (a0 : Int) : Option Bool :=
  (spec_l1In.f k a0 (0 : Int) (1022 : Int)).bind fun t1 => (bif t1 then some ((a0.tmod (2 : Int)) == (0 : Int)) else some false)
def spec_IsLabel.Γ (k : Nat) : Ct κ := assoc [(93, spec_l1In.C k)]
def spec_IsLabel.LH (k : Nat) : Nat → Option (LHi κ) := assoc []
theorem spec_IsLabel.hΓ (k : Nat) : ∀ f g, spec_IsLabel.Γ k f = some g → CSound Try.prog f g := G_cons (spec_l1In.ok k) G_nil
theorem spec_IsLabel.lok (k : Nat) : LOK ti (spec_IsLabel.Γ k) (spec_IsLabel.LH k) 0 (loopsOf (bodyOf Try.f95)) :=
  (show loopsOf (bodyOf Try.f95) = [] by kernel_rfl) ▸ LOK_nil
def spec_IsLabel.sig : List PSh := [.one .sc]
def spec_IsLabel.g (y : Bool) : Ret κ := ⟨.v (.bool y), [], []⟩
def spec_IsLabel.out (r : Ret κ) : Option Bool :=
  match r with
  | ⟨.v (.bool z0), [], []⟩ => some (z0)
  | _ => none
theorem spec_IsLabel.out_ok (r : Ret κ) (y : Bool) (h : spec_IsLabel.out r = some y) : r = spec_IsLabel.g y := by
  unfold spec_IsLabel.out at h
  split at h
  · obtain rfl := Option.some.inj h
    rfl
  · cases h
def spec_IsLabel.body (k : Nat) (vs : List AV) (bs : List (Blk κ)) : Option (Lf κ) :=
  match vs, bs with
  | [.v (.int .i64 a0)], [] => some ⟨Bool, spec_IsLabel.f k a0, spec_IsLabel.g⟩
  | _, _ => none
def spec_IsLabel.C (k : Nat) : Nat → List AV → AP κ AV := contract spec_IsLabel.sig (spec_IsLabel.body k)
theorem spec_IsLabel.den (k : Nat) (a0 : Int) : Code.den ti (spec_IsLabel.Γ k) (spec_IsLabel.LH k) (bodyOf Try.f95) (finK ti Try.f95.results.toList [] (flags spec_IsLabel.sig).length (rwI (flags spec_IsLabel.sig) 0) spec_IsLabel.out) ⟨envOf (([.v (.int .i64 a0)]).zipIdx.map fun q => (q.2, q.1)), hpOf [], (flags spec_IsLabel.sig).length⟩ = spec_IsLabel.f k a0 := by kernel_rfl
theorem spec_IsLabel.ok (k : Nat) : CSound Try.prog 95 (spec_IsLabel.C k) :=
  csound κ_ok mixed tok (spec_IsLabel.hΓ k) (LH := spec_IsLabel.LH k) (fn := Try.f95) (c := bodyOf Try.f95) Try.func95 rfl Try.call95 spec_IsLabel.sig [] (spec_IsLabel.body k) (by kernel_rfl) (spec_IsLabel.lok k) (by decide) fun vs bs lf y hl hb hy => by
    unfold spec_IsLabel.body at hb
    split at hb
    · obtain rfl := Option.some.inj hb
      exact ⟨spec_IsLabel.out, spec_IsLabel.out_ok, (spec_IsLabel.den k _).trans hy⟩
    · cases hb
/-! ### spec_OwnersIn -/
def spec_OwnersIn.L3 {R : Type} (k : Nat) (x0 : Int) (X0 : List Int → Option R) (rec : Int → List Int → Option R) (x2 : Int) (xl0 : List Int) : Option R :=
  (bif decide (x2 ≤ (9 : Int)) then (spec_IsLabel.f k x0).bind fun t1 => (bif t1 then (spec_l19Bit.f k x2).bind fun t2 => (bif decide (t2 = 0) then none else (bif (((w64 (x0.tdiv t2)).tmod (2 : Int)) == (1 : Int)) then (bif decide ((xl0.length + ([x2] : List Int).length) * 8 ≤ cap48) then (rec (w64 (x2 + (1 : Int))) (xl0 ++ ([x2] : List Int))) else none) else (rec (w64 (x2 + (1 : Int))) xl0))) else (X0 xl0)) else (X0 xl0))
def spec_OwnersIn.l3 {R : Type} (k : Nat) (x0 : Int) (X0 : List Int → Option R) : Nat → Int → List Int → Option R
  | 0 => fun _ _ => none
  | n + 1 => spec_OwnersIn.L3 k x0 X0 (spec_OwnersIn.l3 k x0 X0 n)
def spec_OwnersIn.f (k : Nat) (a0 : Int) : Option (List Int) :=
  (spec_OwnersIn.l3 k a0 (fun (y3 : List Int) => some y3) k (1 : Int) ([] : List Int))
def spec_OwnersIn.h3 (k : Nat) {R : Type} (K : Ex → St κ → Option R) (vs : List AV) (bs : List (Blk κ)) : Option R :=
  match vs, bs with
  | [.v (.int .i64 x0), .v (.sl 0), .v (.int .i64 x2)], [qb0] => (asO 1 true qb0).bind fun xl0 => spec_OwnersIn.l3 k x0 (fun (zl0 : List Int) => K (.exit 0) (stOf [(3, [some 1])] [.v (.sl 0)] [.rows 1 true zl0])) k x2 xl0
  | _, _ => none
def spec_OwnersIn.Γ (k : Nat) : Ct κ := assoc [(95, spec_IsLabel.C k), (96, spec_l19Bit.C k)]
def spec_OwnersIn.LH (k : Nat) : Nat → Option (LHi κ) := assoc [(3, ⟨0, [(0, []), (3, [some 1]), (4, [])], [(3, [some 1])], @spec_OwnersIn.h3 k⟩)]
theorem spec_OwnersIn.hΓ (k : Nat) : ∀ f g, spec_OwnersIn.Γ k f = some g → CSound Try.prog f g := G_cons (spec_IsLabel.ok k) (G_cons (spec_l19Bit.ok k) G_nil)
theorem spec_OwnersIn.e3 {R : Type} (K : Ex → St κ → Option R) (k : Nat) (x0 : Int) : ∀ (n : Nat) (x2 : Int) (xl0 : List Int), loopN 0 (Code.den ti (spec_OwnersIn.Γ k) (spec_OwnersIn.LH k) (loopAt Try.f71 0)) [(0, []), (3, [some 1]), (4, [])] [(3, [some 1])] K n [.v (.int .i64 x0), .v (.sl 0), .v (.int .i64 x2)] [.rows 1 true xl0] = spec_OwnersIn.l3 k x0 (fun (zl0 : List Int) => K (.exit 0) (stOf [(3, [some 1])] [.v (.sl 0)] [.rows 1 true zl0])) n x2 xl0
  | 0, _, _ => rfl
  | n + 1, x2, xl0 => (show loopN 0 (Code.den ti (spec_OwnersIn.Γ k) (spec_OwnersIn.LH k) (loopAt Try.f71 0)) [(0, []), (3, [some 1]), (4, [])] [(3, [some 1])] K (n + 1) [.v (.int .i64 x0), .v (.sl 0), .v (.int .i64 x2)] [.rows 1 true xl0] = spec_OwnersIn.L3 k x0 (fun (zl0 : List Int) => K (.exit 0) (stOf [(3, [some 1])] [.v (.sl 0)] [.rows 1 true zl0])) (fun (x2' : Int) (xl0' : List Int) => loopN 0 (Code.den ti (spec_OwnersIn.Γ k) (spec_OwnersIn.LH k) (loopAt Try.f71 0)) [(0, []), (3, [some 1]), (4, [])] [(3, [some 1])] K n [.v (.int .i64 x0), .v (.sl 0), .v (.int .i64 x2')] [.rows 1 true xl0']) x2 xl0 by kernel_rfl).trans (congrArg (fun rec => spec_OwnersIn.L3 k x0 (fun (zl0 : List Int) => K (.exit 0) (stOf [(3, [some 1])] [.v (.sl 0)] [.rows 1 true zl0])) rec x2 xl0) (funext fun x2' => funext fun xl0' => spec_OwnersIn.e3 K k x0 n x2' xl0'))
theorem spec_OwnersIn.q3 (k : Nat) {R : Type} (K : Ex → St κ → Option R) (vs : List AV) (bs : List (Blk κ)) (r : R) (h : spec_OwnersIn.h3 k K vs bs = some r) : ∃ n, loopN 0 (Code.den ti (spec_OwnersIn.Γ k) (spec_OwnersIn.LH k) (loopAt Try.f71 0)) [(0, []), (3, [some 1]), (4, [])] [(3, [some 1])] K n vs bs = some r := by
  unfold spec_OwnersIn.h3 at h
  split at h
  · obtain ⟨_, rfl, h_1⟩ := asO_bind h
    exact ⟨k, (spec_OwnersIn.e3 K k _ k _ _).trans h_1⟩
  · cases h
theorem spec_OwnersIn.lok (k : Nat) : LOK ti (spec_OwnersIn.Γ k) (spec_OwnersIn.LH k) 0 (loopsOf (bodyOf Try.f71)) :=
  (show loopsOf (bodyOf Try.f71) = [loopAt Try.f71 0] by kernel_rfl) ▸ (LOK_cons (g := ⟨0, [(0, []), (3, [some 1]), (4, [])], [(3, [some 1])], @spec_OwnersIn.h3 k⟩) (by kernel_rfl) rfl (fun K vs xs r h => spec_OwnersIn.q3 k K vs xs r h) (LOK_nil))
def spec_OwnersIn.sig : List PSh := [.one .sc]
def spec_OwnersIn.g (y : List Int) : Ret κ := ⟨.v (.sl 0), [], [.rows 1 true y]⟩
def spec_OwnersIn.out (r : Ret κ) : Option (List Int) :=
  match r with
  | ⟨.v (.sl 0), [], [q0]⟩ => (asO 1 true q0).bind fun z0 => some (z0)
  | _ => none
theorem spec_OwnersIn.out_ok (r : Ret κ) (y : List Int) (h : spec_OwnersIn.out r = some y) : r = spec_OwnersIn.g y := by
  unfold spec_OwnersIn.out at h
  split at h
  · obtain ⟨_, rfl, h_1⟩ := asO_bind h
    obtain rfl := Option.some.inj h_1
    rfl
  · cases h
def spec_OwnersIn.body (k : Nat) (vs : List AV) (bs : List (Blk κ)) : Option (Lf κ) :=
  match vs, bs with
  | [.v (.int .i64 a0)], [] => some ⟨List Int, spec_OwnersIn.f k a0, spec_OwnersIn.g⟩
  | _, _ => none
def spec_OwnersIn.C (k : Nat) : Nat → List AV → AP κ AV := contract spec_OwnersIn.sig (spec_OwnersIn.body k)
theorem spec_OwnersIn.den (k : Nat) (a0 : Int) : Code.den ti (spec_OwnersIn.Γ k) (spec_OwnersIn.LH k) (bodyOf Try.f71) (finK ti Try.f71.results.toList [(2, [some 1])] (flags spec_OwnersIn.sig).length (rwI (flags spec_OwnersIn.sig) 0) spec_OwnersIn.out) ⟨envOf (([.v (.int .i64 a0)]).zipIdx.map fun q => (q.2, q.1)), hpOf [], (flags spec_OwnersIn.sig).length⟩ = spec_OwnersIn.f k a0 := by kernel_rfl
theorem spec_OwnersIn.ok (k : Nat) : CSound Try.prog 71 (spec_OwnersIn.C k) :=
  csound κ_ok mixed tok (spec_OwnersIn.hΓ k) (LH := spec_OwnersIn.LH k) (fn := Try.f71) (c := bodyOf Try.f71) Try.func71 rfl Try.call71 spec_OwnersIn.sig [(2, [some 1])] (spec_OwnersIn.body k) (by kernel_rfl) (spec_OwnersIn.lok k) (by decide) fun vs bs lf y hl hb hy => by
    unfold spec_OwnersIn.body at hb
    split at hb
    · obtain rfl := Option.some.inj hb
      exact ⟨spec_OwnersIn.out, spec_OwnersIn.out_ok, (spec_OwnersIn.den k _).trans hy⟩
    · cases hb
/-! ### spec_JoinLabels -/
def spec_JoinLabels.f (k : Nat) (a0 : Int) (a1 : Int) : Option Int :=
  (spec_IsLabel.f k a0).bind fun t1 => (bif !t1 then some (0 : Int) else (spec_IsLabel.f k a1).bind fun t2 => (bif !t2 then some (0 : Int) else (spec_OwnersIn.f k a0).bind fun t3 => (spec_OwnersIn.f k a1).bind fun t4 => (bif decide ((t3.length + t4.length) * 8 ≤ cap48) then (spec_LabelOf.f k (t3 ++ t4)).bind fun t5 => some t5 else none)))
def spec_JoinLabels.Γ (k : Nat) : Ct κ := assoc [(95, spec_IsLabel.C k), (71, spec_OwnersIn.C k), (85, spec_LabelOf.C k)]
def spec_JoinLabels.LH (k : Nat) : Nat → Option (LHi κ) := assoc []
theorem spec_JoinLabels.hΓ (k : Nat) : ∀ f g, spec_JoinLabels.Γ k f = some g → CSound Try.prog f g := G_cons (spec_IsLabel.ok k) (G_cons (spec_OwnersIn.ok k) (G_cons (spec_LabelOf.ok k) G_nil))
theorem spec_JoinLabels.lok (k : Nat) : LOK ti (spec_JoinLabels.Γ k) (spec_JoinLabels.LH k) 0 (loopsOf (bodyOf Try.f86)) :=
  (show loopsOf (bodyOf Try.f86) = [] by kernel_rfl) ▸ LOK_nil
def spec_JoinLabels.sig : List PSh := [.one .sc, .one .sc]
def spec_JoinLabels.g (y : Int) : Ret κ := ⟨.v (.int .i64 y), [], []⟩
def spec_JoinLabels.out (r : Ret κ) : Option Int :=
  match r with
  | ⟨.v (.int .i64 z0), [], []⟩ => some (z0)
  | _ => none
theorem spec_JoinLabels.out_ok (r : Ret κ) (y : Int) (h : spec_JoinLabels.out r = some y) : r = spec_JoinLabels.g y := by
  unfold spec_JoinLabels.out at h
  split at h
  · obtain rfl := Option.some.inj h
    rfl
  · cases h
def spec_JoinLabels.body (k : Nat) (vs : List AV) (bs : List (Blk κ)) : Option (Lf κ) :=
  match vs, bs with
  | [.v (.int .i64 a0), .v (.int .i64 a1)], [] => some ⟨Int, spec_JoinLabels.f k a0 a1, spec_JoinLabels.g⟩
  | _, _ => none
def spec_JoinLabels.C (k : Nat) : Nat → List AV → AP κ AV := contract spec_JoinLabels.sig (spec_JoinLabels.body k)
theorem spec_JoinLabels.den (k : Nat) (a0 : Int) (a1 : Int) : Code.den ti (spec_JoinLabels.Γ k) (spec_JoinLabels.LH k) (bodyOf Try.f86) (finK ti Try.f86.results.toList [] (flags spec_JoinLabels.sig).length (rwI (flags spec_JoinLabels.sig) 0) spec_JoinLabels.out) ⟨envOf (([.v (.int .i64 a0), .v (.int .i64 a1)]).zipIdx.map fun q => (q.2, q.1)), hpOf [], (flags spec_JoinLabels.sig).length⟩ = spec_JoinLabels.f k a0 a1 := by kernel_rfl
theorem spec_JoinLabels.ok (k : Nat) : CSound Try.prog 86 (spec_JoinLabels.C k) :=
  csound κ_ok mixed tok (spec_JoinLabels.hΓ k) (LH := spec_JoinLabels.LH k) (fn := Try.f86) (c := bodyOf Try.f86) Try.func86 rfl Try.call86 spec_JoinLabels.sig [] (spec_JoinLabels.body k) (by kernel_rfl) (spec_JoinLabels.lok k) (by decide) fun vs bs lf y hl hb hy => by
    unfold spec_JoinLabels.body at hb
    split at hb
    · obtain rfl := Option.some.inj hb
      exact ⟨spec_JoinLabels.out, spec_JoinLabels.out_ok, (spec_JoinLabels.den k _ _).trans hy⟩
    · cases hb
/-! ### spec_l21Step -/
def spec_l21Step.f (k : Nat) (a0_0 : Int) (a0_1 : Int) (a0_2 : Int) (a0_3 : Int) (a1 : List Int) (a2 : List Int) (a3 : List Int) : Option (Int × Int × Int × Bool × List Int × List Int) :=
  (bif (a0_0 == (1 : Int)) then (spec_l21Value.f k a1 a0_2).bind fun t1 => (bif decide (0 ≤ a0_1) then (bif decide (a0_1 < (a2.length : Int)) then (spec_LabelOf.f k ([a0_2] : List Int)).bind fun t2 => (bif decide (0 ≤ a0_1) then (bif decide (a0_1 < (a3.length : Int)) then some ((0 : Int), (0 : Int), (0 : Int), false, (a2.set (a0_1).toNat t1), (a3.set (a0_1).toNat t2)) else none) else none) else none) else none) else (bif (a0_0 == (2 : Int)) then (bif decide (0 ≤ a0_1) then (bif decide (a0_1 < (a2.length : Int)) then (bif decide (0 ≤ a0_1) then (bif decide (a0_1 < (a3.length : Int)) then some ((0 : Int), (0 : Int), (0 : Int), false, (a2.set (a0_1).toNat a0_2), (a3.set (a0_1).toNat (0 : Int))) else none) else none) else none) else none) else (bif (a0_0 == (3 : Int)) then (bif decide (0 ≤ a0_2) then (bif decide (a0_2 < (a2.length : Int)) then (bif decide (0 ≤ a0_3) then (bif decide (a0_3 < (a2.length : Int)) then (bif decide (0 ≤ a0_1) then (bif decide (a0_1 < (a2.length : Int)) then (let l3 : List Int := (a2.set (a0_1).toNat ((w64 ((rd_i64 a2 a0_2) + (rd_i64 a2 a0_3))).tmod (1000 : Int))); (bif decide (0 ≤ a0_2) then (bif decide (a0_2 < (a3.length : Int)) then (bif decide (0 ≤ a0_3) then (bif decide (a0_3 < (a3.length : Int)) then (spec_JoinLabels.f k (rd_i64 a3 a0_2) (rd_i64 a3 a0_3)).bind fun t4 => (bif decide (0 ≤ a0_1) then (bif decide (a0_1 < (a3.length : Int)) then some ((0 : Int), (0 : Int), (0 : Int), false, l3, (a3.set (a0_1).toNat t4)) else none) else none) else none) else none) else none) else none)) else none) else none) else none) else none) else none) else none) else (bif (a0_0 == (4 : Int)) then (bif decide (0 ≤ a0_1) then (bif decide (a0_1 < (a3.length : Int)) then (bif decide (0 ≤ a0_2) then (bif decide (a0_2 < (a3.length : Int)) then (bif decide (0 ≤ a0_3) then (bif decide (a0_3 < (a3.length : Int)) then (spec_JoinLabels.f k (rd_i64 a3 a0_2) (rd_i64 a3 a0_3)).bind fun t5 => (spec_JoinLabels.f k (rd_i64 a3 a0_1) t5).bind fun t6 => (bif decide (0 ≤ a0_1) then (bif decide (a0_1 < (a3.length : Int)) then (bif decide (0 ≤ a0_2) then (bif decide (a0_2 < (a2.length : Int)) then (bif (((rd_i64 a2 a0_2).tmod (2 : Int)) == (0 : Int)) then (bif decide (0 ≤ a0_3) then (bif decide (a0_3 < (a2.length : Int)) then (bif decide (0 ≤ a0_1) then (bif decide (a0_1 < (a2.length : Int)) then some ((0 : Int), (0 : Int), (0 : Int), false, (a2.set (a0_1).toNat (rd_i64 a2 a0_3)), (a3.set (a0_1).toNat t6)) else none) else none) else none) else none) else some ((0 : Int), (0 : Int), (0 : Int), false, a2, (a3.set (a0_1).toNat t6))) else none) else none) else none) else none) else none) else none) else none) else none) else none) else none) else (bif (a0_0 == (5 : Int)) then (bif decide (0 ≤ a0_1) then (bif decide (a0_1 < (a2.length : Int)) then (bif decide (0 ≤ a0_1) then (bif decide (a0_1 < (a3.length : Int)) then some (a0_2, (rd_i64 a2 a0_1), (rd_i64 a3 a0_1), true, a2, a3) else none) else none) else none) else none) else some ((0 : Int), (0 : Int), (0 : Int), false, a2, a3))))))
def spec_l21Step.Γ (k : Nat) : Ct κ := assoc [(84, spec_l21Value.C k), (85, spec_LabelOf.C k), (86, spec_JoinLabels.C k)]
def spec_l21Step.LH (k : Nat) : Nat → Option (LHi κ) := assoc []
theorem spec_l21Step.hΓ (k : Nat) : ∀ f g, spec_l21Step.Γ k f = some g → CSound Try.prog f g := G_cons (spec_l21Value.ok k) (G_cons (spec_LabelOf.ok k) (G_cons (spec_JoinLabels.ok k) G_nil))
theorem spec_l21Step.lok (k : Nat) : LOK ti (spec_l21Step.Γ k) (spec_l21Step.LH k) 3 (loopsOf (bodyOf Try.f55)) :=
  (show loopsOf (bodyOf Try.f55) = [] by kernel_rfl) ▸ LOK_nil
def spec_l21Step.sig : List PSh := [.agg [.sc, .sc, .sc, .sc], .one (.ro 1), .one (.rw 1), .one (.rw 1)]
def spec_l21Step.g (y : Int × Int × Int × Bool × List Int × List Int) : Ret κ := ⟨.tup [(true, [.int .i64 y.1, .int .i64 y.2.1, .int .i64 y.2.2.1]), (false, [.bool y.2.2.2.1])], [.rows 1 true y.2.2.2.2.1, .rows 1 true y.2.2.2.2.2], []⟩
def spec_l21Step.out (r : Ret κ) : Option (Int × Int × Int × Bool × List Int × List Int) :=
  match r with
  | ⟨.tup [(true, [.int .i64 z0, .int .i64 z1, .int .i64 z2]), (false, [.bool z3])], [q4, q5], []⟩ => (asO 1 true q4).bind fun z4 => (asO 1 true q5).bind fun z5 => some (z0, z1, z2, z3, z4, z5)
  | _ => none
theorem spec_l21Step.out_ok (r : Ret κ) (y : Int × Int × Int × Bool × List Int × List Int) (h : spec_l21Step.out r = some y) : r = spec_l21Step.g y := by
  unfold spec_l21Step.out at h
  split at h
  · obtain ⟨_, rfl, h_1⟩ := asO_bind h
    obtain ⟨_, rfl, h_2⟩ := asO_bind h_1
    obtain rfl := Option.some.inj h_2
    rfl
  · cases h
def spec_l21Step.body (k : Nat) (vs : List AV) (bs : List (Blk κ)) : Option (Lf κ) :=
  match vs, bs with
  | [.agg [.int .i64 a0_0, .int .i64 a0_1, .int .i64 a0_2, .int .i64 a0_3], .v (.sl 0), .v (.sl 1), .v (.sl 2)], [qb0, qb1, qb2] => (asO 1 false qb0).bind fun a1 => (asO 1 true qb1).bind fun a2 => (asO 1 true qb2).bind fun a3 => some ⟨Int × Int × Int × Bool × List Int × List Int, spec_l21Step.f k a0_0 a0_1 a0_2 a0_3 a1 a2 a3, spec_l21Step.g⟩
  | _, _ => none
def spec_l21Step.C (k : Nat) : Nat → List AV → AP κ AV := contract spec_l21Step.sig (spec_l21Step.body k)
theorem spec_l21Step.den (k : Nat) (a0_0 : Int) (a0_1 : Int) (a0_2 : Int) (a0_3 : Int) (a1 : List Int) (a2 : List Int) (a3 : List Int) : Code.den ti (spec_l21Step.Γ k) (spec_l21Step.LH k) (bodyOf Try.f55) (finK ti Try.f55.results.toList [] (flags spec_l21Step.sig).length (rwI (flags spec_l21Step.sig) 0) spec_l21Step.out) ⟨envOf (([.agg [.int .i64 a0_0, .int .i64 a0_1, .int .i64 a0_2, .int .i64 a0_3], .v (.sl 0), .v (.sl 1), .v (.sl 2)]).zipIdx.map fun q => (q.2, q.1)), hpOf [.rows 1 false a1, .rows 1 true a2, .rows 1 true a3], (flags spec_l21Step.sig).length⟩ = spec_l21Step.f k a0_0 a0_1 a0_2 a0_3 a1 a2 a3 := by kernel_rfl
theorem spec_l21Step.ok (k : Nat) : CSound Try.prog 55 (spec_l21Step.C k) :=
  csound κ_ok mixed tok (spec_l21Step.hΓ k) (LH := spec_l21Step.LH k) (fn := Try.f55) (c := bodyOf Try.f55) Try.func55 rfl Try.call55 spec_l21Step.sig [] (spec_l21Step.body k) (by kernel_rfl) (spec_l21Step.lok k) (by decide) fun vs bs lf y hl hb hy => by
    unfold spec_l21Step.body at hb
    split at hb
    · obtain ⟨_, rfl, hb_1⟩ := asO_bind hb
      obtain ⟨_, rfl, hb_2⟩ := asO_bind hb_1
      obtain ⟨_, rfl, hb_3⟩ := asO_bind hb_2
      obtain rfl := Option.some.inj hb_3
      exact ⟨spec_l21Step.out, spec_l21Step.out_ok, (spec_l21Step.den k _ _ _ _ _ _ _).trans hy⟩
    · cases hb
/-! ### spec_IsFlow -/
def spec_IsFlow.f (k : Nat) (a0_0 : Int) (a0_1 : Int) (a0_2 : Int) : Option Bool :=
  (spec_l1In.f k a0_0 (1 : Int) (5 : Int)).bind fun t1 => (bif t1 then (spec_l1In.f k a0_1 (1 : Int) (9 : Int)).bind fun t2 => (bif t2 then (spec_l1In.f k a0_2 (1 : Int) (9 : Int)).bind fun t3 => some t3 else some false) else some false)
def spec_IsFlow.Γ (k : Nat) : Ct κ := assoc [(93, spec_l1In.C k)]
def spec_IsFlow.LH (k : Nat) : Nat → Option (LHi κ) := assoc []
theorem spec_IsFlow.hΓ (k : Nat) : ∀ f g, spec_IsFlow.Γ k f = some g → CSound Try.prog f g := G_cons (spec_l1In.ok k) G_nil
theorem spec_IsFlow.lok (k : Nat) : LOK ti (spec_IsFlow.Γ k) (spec_IsFlow.LH k) 0 (loopsOf (bodyOf Try.f97)) :=
  (show loopsOf (bodyOf Try.f97) = [] by kernel_rfl) ▸ LOK_nil
def spec_IsFlow.sig : List PSh := [.agg [.sc, .sc, .sc]]
def spec_IsFlow.g (y : Bool) : Ret κ := ⟨.v (.bool y), [], []⟩
def spec_IsFlow.out (r : Ret κ) : Option Bool :=
  match r with
  | ⟨.v (.bool z0), [], []⟩ => some (z0)
  | _ => none
theorem spec_IsFlow.out_ok (r : Ret κ) (y : Bool) (h : spec_IsFlow.out r = some y) : r = spec_IsFlow.g y := by
  unfold spec_IsFlow.out at h
  split at h
  · obtain rfl := Option.some.inj h
    rfl
  · cases h
def spec_IsFlow.body (k : Nat) (vs : List AV) (bs : List (Blk κ)) : Option (Lf κ) :=
  match vs, bs with
  | [.agg [.int .i64 a0_0, .int .i64 a0_1, .int .i64 a0_2]], [] => some ⟨Bool, spec_IsFlow.f k a0_0 a0_1 a0_2, spec_IsFlow.g⟩
  | _, _ => none
def spec_IsFlow.C (k : Nat) : Nat → List AV → AP κ AV := contract spec_IsFlow.sig (spec_IsFlow.body k)
theorem spec_IsFlow.den (k : Nat) (a0_0 : Int) (a0_1 : Int) (a0_2 : Int) : Code.den ti (spec_IsFlow.Γ k) (spec_IsFlow.LH k) (bodyOf Try.f97) (finK ti Try.f97.results.toList [] (flags spec_IsFlow.sig).length (rwI (flags spec_IsFlow.sig) 0) spec_IsFlow.out) ⟨envOf (([.agg [.int .i64 a0_0, .int .i64 a0_1, .int .i64 a0_2]]).zipIdx.map fun q => (q.2, q.1)), hpOf [], (flags spec_IsFlow.sig).length⟩ = spec_IsFlow.f k a0_0 a0_1 a0_2 := by kernel_rfl
theorem spec_IsFlow.ok (k : Nat) : CSound Try.prog 97 (spec_IsFlow.C k) :=
  csound κ_ok mixed tok (spec_IsFlow.hΓ k) (LH := spec_IsFlow.LH k) (fn := Try.f97) (c := bodyOf Try.f97) Try.func97 rfl Try.call97 spec_IsFlow.sig [] (spec_IsFlow.body k) (by kernel_rfl) (spec_IsFlow.lok k) (by decide) fun vs bs lf y hl hb hy => by
    unfold spec_IsFlow.body at hb
    split at hb
    · obtain rfl := Option.some.inj hb
      exact ⟨spec_IsFlow.out, spec_IsFlow.out_ok, (spec_IsFlow.den k _ _ _).trans hy⟩
    · cases hb
/-! ### spec_l20Has -/
def spec_l20Has.L2 {R : Type} (k : Nat) (xl0 : List T_impl_Flow) (xc1_0 : Int) (xc1_1 : Int) (xc1_2 : Int) (X0 : Bool → Option R) (X1 : Unit → Option R) (rec : Int → Option R) (x2 : Int) : Option R :=
  (bif decide (x2 < (xl0.length : Int)) then (bif decide (0 ≤ x2) then (bif decide (x2 < (xl0.length : Int)) then (bif ((((rd_impl_Flow xl0 x2).f0) == xc1_0) && ((((rd_impl_Flow xl0 x2).f1) == xc1_1) && (((rd_impl_Flow xl0 x2).f2) == xc1_2))) then (X0 true) else (rec (w64 (x2 + (1 : Int))))) else none) else none) else (X1 ()))
def spec_l20Has.l2 {R : Type} (k : Nat) (xl0 : List T_impl_Flow) (xc1_0 : Int) (xc1_1 : Int) (xc1_2 : Int) (X0 : Bool → Option R) (X1 : Unit → Option R) : Nat → Int → Option R
  | 0 => fun _ => none
  | n + 1 => spec_l20Has.L2 k xl0 xc1_0 xc1_1 xc1_2 X0 X1 (spec_l20Has.l2 k xl0 xc1_0 xc1_1 xc1_2 X0 X1 n)
def spec_l20Has.f (k : Nat) (a0 : List T_impl_Flow) (a1_0 : Int) (a1_1 : Int) (a1_2 : Int) : Option Bool :=
  (spec_l20Has.l2 k a0 a1_0 a1_1 a1_2 (fun (y1 : Bool) => some y1) (fun (_ : Unit) => some false) k (0 : Int))
def spec_l20Has.h2 (k : Nat) {R : Type} (K : Ex → St κ → Option R) (vs : List AV) (bs : List (Blk κ)) : Option R :=
  match vs, bs with
  | [.v (.sl 0), .v (.ptr 1 0 0), .v (.int .i64 x2)], [qb0, .cells 85 [.int .i64 xc1_0, .int .i64 xc1_1, .int .i64 xc1_2]] => (asO 4 false qb0).bind fun xl0 => spec_l20Has.l2 k xl0 xc1_0 xc1_1 xc1_2 (fun (z0 : Bool) => K .ret (stOf [(4, [])] [.v (.bool z0)] [.rows 4 false xl0])) (fun (_ : Unit) => K (.exit 0) (stOf [(4, [])] [.v .any] [.rows 4 false xl0])) k x2
  | _, _ => none
def spec_l20Has.Γ (k : Nat) : Ct κ := assoc []
def spec_l20Has.LH (k : Nat) : Nat → Option (LHi κ) := assoc [(2, ⟨1, [(0, [some 4]), (3, []), (5, [])], [(4, [])], @spec_l20Has.h2 k⟩)]
theorem spec_l20Has.hΓ (k : Nat) : ∀ f g, spec_l20Has.Γ k f = some g → CSound Try.prog f g := G_nil
theorem spec_l20Has.e2 {R : Type} (K : Ex → St κ → Option R) (k : Nat) (xl0 : List T_impl_Flow) (xc1_0 : Int) (xc1_1 : Int) (xc1_2 : Int) : ∀ (n : Nat) (x2 : Int), loopN 1 (Code.den ti (spec_l20Has.Γ k) (spec_l20Has.LH k) (loopAt Try.f72 0)) [(0, [some 4]), (3, []), (5, [])] [(4, [])] K n [.v (.sl 0), .v (.ptr 1 0 0), .v (.int .i64 x2)] [.rows 4 false xl0, .cells 85 [.int .i64 xc1_0, .int .i64 xc1_1, .int .i64 xc1_2]] = spec_l20Has.l2 k xl0 xc1_0 xc1_1 xc1_2 (fun (z0 : Bool) => K .ret (stOf [(4, [])] [.v (.bool z0)] [.rows 4 false xl0])) (fun (_ : Unit) => K (.exit 0) (stOf [(4, [])] [.v .any] [.rows 4 false xl0])) n x2
  | 0, _ => rfl
  | n + 1, x2 => (show loopN 1 (Code.den ti (spec_l20Has.Γ k) (spec_l20Has.LH k) (loopAt Try.f72 0)) [(0, [some 4]), (3, []), (5, [])] [(4, [])] K (n + 1) [.v (.sl 0), .v (.ptr 1 0 0), .v (.int .i64 x2)] [.rows 4 false xl0, .cells 85 [.int .i64 xc1_0, .int .i64 xc1_1, .int .i64 xc1_2]] = spec_l20Has.L2 k xl0 xc1_0 xc1_1 xc1_2 (fun (z0 : Bool) => K .ret (stOf [(4, [])] [.v (.bool z0)] [.rows 4 false xl0])) (fun (_ : Unit) => K (.exit 0) (stOf [(4, [])] [.v .any] [.rows 4 false xl0])) (fun (x2' : Int) => loopN 1 (Code.den ti (spec_l20Has.Γ k) (spec_l20Has.LH k) (loopAt Try.f72 0)) [(0, [some 4]), (3, []), (5, [])] [(4, [])] K n [.v (.sl 0), .v (.ptr 1 0 0), .v (.int .i64 x2')] [.rows 4 false xl0, .cells 85 [.int .i64 xc1_0, .int .i64 xc1_1, .int .i64 xc1_2]]) x2 by kernel_rfl).trans (congrArg (fun rec => spec_l20Has.L2 k xl0 xc1_0 xc1_1 xc1_2 (fun (z0 : Bool) => K .ret (stOf [(4, [])] [.v (.bool z0)] [.rows 4 false xl0])) (fun (_ : Unit) => K (.exit 0) (stOf [(4, [])] [.v .any] [.rows 4 false xl0])) rec x2) (funext fun x2' => spec_l20Has.e2 K k xl0 xc1_0 xc1_1 xc1_2 n x2'))
theorem spec_l20Has.q2 (k : Nat) {R : Type} (K : Ex → St κ → Option R) (vs : List AV) (bs : List (Blk κ)) (r : R) (h : spec_l20Has.h2 k K vs bs = some r) : ∃ n, loopN 1 (Code.den ti (spec_l20Has.Γ k) (spec_l20Has.LH k) (loopAt Try.f72 0)) [(0, [some 4]), (3, []), (5, [])] [(4, [])] K n vs bs = some r := by
  unfold spec_l20Has.h2 at h
  split at h
  · obtain ⟨_, rfl, h_1⟩ := asO_bind h
    exact ⟨k, (spec_l20Has.e2 K k _ _ _ _ k _).trans h_1⟩
  · cases h
theorem spec_l20Has.lok (k : Nat) : LOK ti (spec_l20Has.Γ k) (spec_l20Has.LH k) 1 (loopsOf (bodyOf Try.f72)) :=
  (show loopsOf (bodyOf Try.f72) = [loopAt Try.f72 0] by kernel_rfl) ▸ (LOK_cons (g := ⟨1, [(0, [some 4]), (3, []), (5, [])], [(4, [])], @spec_l20Has.h2 k⟩) (by kernel_rfl) rfl (fun K vs xs r h => spec_l20Has.q2 k K vs xs r h) (LOK_nil))
def spec_l20Has.sig : List PSh := [.one (.ro 4), .agg [.sc, .sc, .sc]]
def spec_l20Has.g (y : Bool) : Ret κ := ⟨.v (.bool y), [], []⟩
def spec_l20Has.out (r : Ret κ) : Option Bool :=
  match r with
  | ⟨.v (.bool z0), [], []⟩ => some (z0)
  | _ => none
theorem spec_l20Has.out_ok (r : Ret κ) (y : Bool) (h : spec_l20Has.out r = some y) : r = spec_l20Has.g y := by
  unfold spec_l20Has.out at h
  split at h
  · obtain rfl := Option.some.inj h
    rfl
  · cases h
def spec_l20Has.body (k : Nat) (vs : List AV) (bs : List (Blk κ)) : Option (Lf κ) :=
  match vs, bs with
  | [.v (.sl 0), .agg [.int .i64 a1_0, .int .i64 a1_1, .int .i64 a1_2]], [qb0] => (asO 4 false qb0).bind fun a0 => some ⟨Bool, spec_l20Has.f k a0 a1_0 a1_1 a1_2, spec_l20Has.g⟩
  | _, _ => none
def spec_l20Has.C (k : Nat) : Nat → List AV → AP κ AV := contract spec_l20Has.sig (spec_l20Has.body k)
theorem spec_l20Has.den (k : Nat) (a0 : List T_impl_Flow) (a1_0 : Int) (a1_1 : Int) (a1_2 : Int) : Code.den ti (spec_l20Has.Γ k) (spec_l20Has.LH k) (bodyOf Try.f72) (finK ti Try.f72.results.toList [] (flags spec_l20Has.sig).length (rwI (flags spec_l20Has.sig) 0) spec_l20Has.out) ⟨envOf (([.v (.sl 0), .agg [.int .i64 a1_0, .int .i64 a1_1, .int .i64 a1_2]]).zipIdx.map fun q => (q.2, q.1)), hpOf [.rows 4 false a0], (flags spec_l20Has.sig).length⟩ = spec_l20Has.f k a0 a1_0 a1_1 a1_2 := by kernel_rfl
theorem spec_l20Has.ok (k : Nat) : CSound Try.prog 72 (spec_l20Has.C k) :=
  csound κ_ok mixed tok (spec_l20Has.hΓ k) (LH := spec_l20Has.LH k) (fn := Try.f72) (c := bodyOf Try.f72) Try.func72 rfl Try.call72 spec_l20Has.sig [] (spec_l20Has.body k) (by kernel_rfl) (spec_l20Has.lok k) (by decide) fun vs bs lf y hl hb hy => by
    unfold spec_l20Has.body at hb
    split at hb
    · obtain ⟨_, rfl, hb_1⟩ := asO_bind hb
      obtain rfl := Option.some.inj hb_1
      exact ⟨spec_l20Has.out, spec_l20Has.out_ok, (spec_l20Has.den k _ _ _ _).trans hy⟩
    · cases hb
/-! ### spec_MayFlow -/
def spec_MayFlow.L3 {R : Type} (k : Nat) (x1 : Int) (x2 : Int) (x3 : Int) (xl0 : List T_impl_Flow) (xl1 : List Int) (X0 : Bool → Option R) (X1 : Unit → Option R) (rec : Int → Option R) (x5 : Int) : Option R :=
  (bif decide (x5 < (xl1.length : Int)) then (bif decide (0 ≤ x5) then (bif decide (x5 < (xl1.length : Int)) then (bif decide (0 ≤ x5) then (bif decide (x5 < (xl1.length : Int)) then (bif ((rd_i64 xl1 x5) != x3) then (spec_IsFlow.f k x1 (rd_i64 xl1 x5) x3).bind fun t2 => (bif t2 then (spec_l20Has.f k xl0 x1 (rd_i64 xl1 x5) x3).bind fun t3 => (bif !t3 then (X0 false) else (rec (w64 (x5 + (1 : Int))))) else (X0 false)) else (rec (w64 (x5 + (1 : Int))))) else none) else none) else none) else none) else (X1 ()))
def spec_MayFlow.l3 {R : Type} (k : Nat) (x1 : Int) (x2 : Int) (x3 : Int) (xl0 : List T_impl_Flow) (xl1 : List Int) (X0 : Bool → Option R) (X1 : Unit → Option R) : Nat → Int → Option R
  | 0 => fun _ => none
  | n + 1 => spec_MayFlow.L3 k x1 x2 x3 xl0 xl1 X0 X1 (spec_MayFlow.l3 k x1 x2 x3 xl0 xl1 X0 X1 n)
def spec_MayFlow.f (k : Nat) (a0 : List T_impl_Flow) (a1 : Int) (a2 : Int) (a3 : Int) : Option Bool :=
  (spec_OwnersIn.f k a2).bind fun t1 => (spec_MayFlow.l3 k a1 a2 a3 a0 t1 (fun (y4 : Bool) => some y4) (fun (_ : Unit) => (spec_IsLabel.f k a2).bind fun t5 => (bif t5 then (spec_l1In.f k a3 (1 : Int) (9 : Int)).bind fun t6 => some t6 else some false)) k (0 : Int))
def spec_MayFlow.h3 (k : Nat) {R : Type} (K : Ex → St κ → Option R) (vs : List AV) (bs : List (Blk κ)) : Option R :=
  match vs, bs with
  | [.v (.sl 0), .v (.int .i64 x1), .v (.int .i64 x2), .v (.int .i64 x3), .v (.sl 1), .v (.int .i64 x5)], [qb0, qb1] => (asO 4 false qb0).bind fun xl0 => (asO 1 true qb1).bind fun xl1 => spec_MayFlow.l3 k x1 x2 x3 xl0 xl1 (fun (z2 : Bool) => K .ret (stOf [(2, []), (3, []), (8, [])] [.v (.int .i64 x2), .v (.int .i64 x3), .v (.bool z2)] [.rows 4 false xl0])) (fun (_ : Unit) => K (.exit 0) (stOf [(2, []), (3, []), (8, [])] [.v (.int .i64 x2), .v (.int .i64 x3), .v .any] [.rows 4 false xl0])) k x5
  | _, _ => none
def spec_MayFlow.Γ (k : Nat) : Ct κ := assoc [(71, spec_OwnersIn.C k), (97, spec_IsFlow.C k), (72, spec_l20Has.C k), (95, spec_IsLabel.C k), (93, spec_l1In.C k)]
def spec_MayFlow.LH (k : Nat) : Nat → Option (LHi κ) := assoc [(3, ⟨1, [(0, [some 4]), (1, []), (2, []), (3, []), (9, [some 1]), (10, [])], [(2, []), (3, []), (8, [])], @spec_MayFlow.h3 k⟩)]
theorem spec_MayFlow.hΓ (k : Nat) : ∀ f g, spec_MayFlow.Γ k f = some g → CSound Try.prog f g := G_cons (spec_OwnersIn.ok k) (G_cons (spec_IsFlow.ok k) (G_cons (spec_l20Has.ok k) (G_cons (spec_IsLabel.ok k) (G_cons (spec_l1In.ok k) G_nil))))
theorem spec_MayFlow.e3 {R : Type} (K : Ex → St κ → Option R) (k : Nat) (x1 : Int) (x2 : Int) (x3 : Int) (xl0 : List T_impl_Flow) (xl1 : List Int) : ∀ (n : Nat) (x5 : Int), loopN 1 (Code.den ti (spec_MayFlow.Γ k) (spec_MayFlow.LH k) (loopAt Try.f76 0)) [(0, [some 4]), (1, []), (2, []), (3, []), (9, [some 1]), (10, [])] [(2, []), (3, []), (8, [])] K n [.v (.sl 0), .v (.int .i64 x1), .v (.int .i64 x2), .v (.int .i64 x3), .v (.sl 1), .v (.int .i64 x5)] [.rows 4 false xl0, .rows 1 true xl1] = spec_MayFlow.l3 k x1 x2 x3 xl0 xl1 (fun (z2 : Bool) => K .ret (stOf [(2, []), (3, []), (8, [])] [.v (.int .i64 x2), .v (.int .i64 x3), .v (.bool z2)] [.rows 4 false xl0])) (fun (_ : Unit) => K (.exit 0) (stOf [(2, []), (3, []), (8, [])] [.v (.int .i64 x2), .v (.int .i64 x3), .v .any] [.rows 4 false xl0])) n x5
  | 0, _ => rfl
  | n + 1, x5 => (show loopN 1 (Code.den ti (spec_MayFlow.Γ k) (spec_MayFlow.LH k) (loopAt Try.f76 0)) [(0, [some 4]), (1, []), (2, []), (3, []), (9, [some 1]), (10, [])] [(2, []), (3, []), (8, [])] K (n + 1) [.v (.sl 0), .v (.int .i64 x1), .v (.int .i64 x2), .v (.int .i64 x3), .v (.sl 1), .v (.int .i64 x5)] [.rows 4 false xl0, .rows 1 true xl1] = spec_MayFlow.L3 k x1 x2 x3 xl0 xl1 (fun (z2 : Bool) => K .ret (stOf [(2, []), (3, []), (8, [])] [.v (.int .i64 x2), .v (.int .i64 x3), .v (.bool z2)] [.rows 4 false xl0])) (fun (_ : Unit) => K (.exit 0) (stOf [(2, []), (3, []), (8, [])] [.v (.int .i64 x2), .v (.int .i64 x3), .v .any] [.rows 4 false xl0])) (fun (x5' : Int) => loopN 1 (Code.den ti (spec_MayFlow.Γ k) (spec_MayFlow.LH k) (loopAt Try.f76 0)) [(0, [some 4]), (1, []), (2, []), (3, []), (9, [some 1]), (10, [])] [(2, []), (3, []), (8, [])] K n [.v (.sl 0), .v (.int .i64 x1), .v (.int .i64 x2), .v (.int .i64 x3), .v (.sl 1), .v (.int .i64 x5')] [.rows 4 false xl0, .rows 1 true xl1]) x5 by kernel_rfl).trans (congrArg (fun rec => spec_MayFlow.L3 k x1 x2 x3 xl0 xl1 (fun (z2 : Bool) => K .ret (stOf [(2, []), (3, []), (8, [])] [.v (.int .i64 x2), .v (.int .i64 x3), .v (.bool z2)] [.rows 4 false xl0])) (fun (_ : Unit) => K (.exit 0) (stOf [(2, []), (3, []), (8, [])] [.v (.int .i64 x2), .v (.int .i64 x3), .v .any] [.rows 4 false xl0])) rec x5) (funext fun x5' => spec_MayFlow.e3 K k x1 x2 x3 xl0 xl1 n x5'))
theorem spec_MayFlow.q3 (k : Nat) {R : Type} (K : Ex → St κ → Option R) (vs : List AV) (bs : List (Blk κ)) (r : R) (h : spec_MayFlow.h3 k K vs bs = some r) : ∃ n, loopN 1 (Code.den ti (spec_MayFlow.Γ k) (spec_MayFlow.LH k) (loopAt Try.f76 0)) [(0, [some 4]), (1, []), (2, []), (3, []), (9, [some 1]), (10, [])] [(2, []), (3, []), (8, [])] K n vs bs = some r := by
  unfold spec_MayFlow.h3 at h
  split at h
  · obtain ⟨_, rfl, h_1⟩ := asO_bind h
    obtain ⟨_, rfl, h_2⟩ := asO_bind h_1
    exact ⟨k, (spec_MayFlow.e3 K k _ _ _ _ _ k _).trans h_2⟩
  · cases h
theorem spec_MayFlow.lok (k : Nat) : LOK ti (spec_MayFlow.Γ k) (spec_MayFlow.LH k) 1 (loopsOf (bodyOf Try.f76)) :=
  (show loopsOf (bodyOf Try.f76) = [loopAt Try.f76 0] by kernel_rfl) ▸ (LOK_cons (g := ⟨1, [(0, [some 4]), (1, []), (2, []), (3, []), (9, [some 1]), (10, [])], [(2, []), (3, []), (8, [])], @spec_MayFlow.h3 k⟩) (by kernel_rfl) rfl (fun K vs xs r h => spec_MayFlow.q3 k K vs xs r h) (LOK_nil))
def spec_MayFlow.sig : List PSh := [.one (.ro 4), .one .sc, .one .sc, .one .sc]
def spec_MayFlow.g (y : Bool) : Ret κ := ⟨.v (.bool y), [], []⟩
def spec_MayFlow.out (r : Ret κ) : Option Bool :=
  match r with
  | ⟨.v (.bool z0), [], []⟩ => some (z0)
  | _ => none
theorem spec_MayFlow.out_ok (r : Ret κ) (y : Bool) (h : spec_MayFlow.out r = some y) : r = spec_MayFlow.g y := by
  unfold spec_MayFlow.out at h
  split at h
  · obtain rfl := Option.some.inj h
    rfl
  · cases h
def spec_MayFlow.body (k : Nat) (vs : List AV) (bs : List (Blk κ)) : Option (Lf κ) :=
  match vs, bs with
  | [.v (.sl 0), .v (.int .i64 a1), .v (.int .i64 a2), .v (.int .i64 a3)], [qb0] => (asO 4 false qb0).bind fun a0 => some ⟨Bool, spec_MayFlow.f k a0 a1 a2 a3, spec_MayFlow.g⟩
  | _, _ => none
def spec_MayFlow.C (k : Nat) : Nat → List AV → AP κ AV := contract spec_MayFlow.sig (spec_MayFlow.body k)
theorem spec_MayFlow.den (k : Nat) (a0 : List T_impl_Flow) (a1 : Int) (a2 : Int) (a3 : Int) : Code.den ti (spec_MayFlow.Γ k) (spec_MayFlow.LH k) (bodyOf Try.f76) (finK ti Try.f76.results.toList [] (flags spec_MayFlow.sig).length (rwI (flags spec_MayFlow.sig) 0) spec_MayFlow.out) ⟨envOf (([.v (.sl 0), .v (.int .i64 a1), .v (.int .i64 a2), .v (.int .i64 a3)]).zipIdx.map fun q => (q.2, q.1)), hpOf [.rows 4 false a0], (flags spec_MayFlow.sig).length⟩ = spec_MayFlow.f k a0 a1 a2 a3 := by kernel_rfl
theorem spec_MayFlow.ok (k : Nat) : CSound Try.prog 76 (spec_MayFlow.C k) :=
  csound κ_ok mixed tok (spec_MayFlow.hΓ k) (LH := spec_MayFlow.LH k) (fn := Try.f76) (c := bodyOf Try.f76) Try.func76 rfl Try.call76 spec_MayFlow.sig [] (spec_MayFlow.body k) (by kernel_rfl) (spec_MayFlow.lok k) (by decide) fun vs bs lf y hl hb hy => by
    unfold spec_MayFlow.body at hb
    split at hb
    · obtain ⟨_, rfl, hb_1⟩ := asO_bind hb
      obtain rfl := Option.some.inj hb_1
      exact ⟨spec_MayFlow.out, spec_MayFlow.out_ok, (spec_MayFlow.den k _ _ _ _).trans hy⟩
    · cases hb
/-! ### spec_RunOps -/
def spec_RunOps.L5 {R : Type} (k : Nat) (x3 : Int) (xl0 : List T_impl_Op) (xl1 : List Int) (xl2 : List T_impl_Flow) (X0 : List T_impl_Sent → Option R) (rec : Int → List T_impl_Sent → List Int → List Int → Option R) (x7 : Int) (xl3 : List T_impl_Sent) (xl4 : List Int) (xl5 : List Int) : Option R :=
  (bif decide (x7 < (xl0.length : Int)) then (spec_AreOps.f k xl0).bind fun t3 => (bif t3 then (bif decide (0 ≤ x7) then (bif decide (x7 < (xl0.length : Int)) then (spec_l21Step.f k ((rd_impl_Op xl0 x7).f0) ((rd_impl_Op xl0 x7).f1) ((rd_impl_Op xl0 x7).f2) ((rd_impl_Op xl0 x7).f3) xl1 xl4 xl5).bind fun t4 => (bif t4.2.2.2.1 then (spec_MayFlow.f k xl2 x3 t4.2.2.1 t4.1).bind fun t5 => (bif t5 then (bif decide ((xl3.length + ([(⟨t4.1, t4.2.1, t4.2.2.1⟩ : T_impl_Sent)] : List T_impl_Sent).length) * 24 ≤ cap48) then (let l6 : List T_impl_Sent := (xl3 ++ ([(⟨t4.1, t4.2.1, t4.2.2.1⟩ : T_impl_Sent)] : List T_impl_Sent)); (rec (w64 (x7 + (1 : Int))) l6 t4.2.2.2.2.1 t4.2.2.2.2.2)) else none) else (rec (w64 (x7 + (1 : Int))) xl3 t4.2.2.2.2.1 t4.2.2.2.2.2)) else (rec (w64 (x7 + (1 : Int))) xl3 t4.2.2.2.2.1 t4.2.2.2.2.2)) else none) else none) else (X0 xl3)) else (X0 xl3))
def spec_RunOps.l5 {R : Type} (k : Nat) (x3 : Int) (xl0 : List T_impl_Op) (xl1 : List Int) (xl2 : List T_impl_Flow) (X0 : List T_impl_Sent → Option R) : Nat → Int → List T_impl_Sent → List Int → List Int → Option R
  | 0 => fun _ _ _ _ => none
  | n + 1 => spec_RunOps.L5 k x3 xl0 xl1 xl2 X0 (spec_RunOps.l5 k x3 xl0 xl1 xl2 X0 n)
def spec_RunOps.f (k : Nat) (a0 : List T_impl_Op) (a1 : List Int) (a2 : List T_impl_Flow) (a3 : Int) : Option (List T_impl_Sent) :=
  (spec_l21Zeros.f k).bind fun t1 => (spec_l21Zeros.f k).bind fun t2 => (spec_RunOps.l5 k a3 a0 a1 a2 (fun (y7 : List T_impl_Sent) => some y7) k (0 : Int) ([] : List T_impl_Sent) t1 t2)
def spec_RunOps.h5 (k : Nat) {R : Type} (K : Ex → St κ → Option R) (vs : List AV) (bs : List (Blk κ)) : Option R :=
  match vs, bs with
  | [.v (.sl 0), .v (.sl 1), .v (.sl 2), .v (.int .i64 x3), .v (.sl 3), .v (.sl 4), .v (.sl 5), .v (.int .i64 x7)], [qb0, qb1, qb2, qb3, qb4, qb5] => (asO 3 false qb0).bind fun xl0 => (asO 1 false qb1).bind fun xl1 => (asO 4 false qb2).bind fun xl2 => (asO 5 true qb3).bind fun xl3 => (asO 1 true qb4).bind fun xl4 => (asO 1 true qb5).bind fun xl5 => spec_RunOps.l5 k x3 xl0 xl1 xl2 (fun (zl3 : List T_impl_Sent) => K (.exit 0) (stOf [(9, [some 5])] [.v (.sl 3)] [.rows 3 false xl0, .rows 1 false xl1, .rows 4 false xl2, .rows 5 true zl3])) k x7 xl3 xl4 xl5
  | _, _ => none
def spec_RunOps.Γ (k : Nat) : Ct κ := assoc [(54, spec_l21Zeros.C k), (24, spec_AreOps.C k), (55, spec_l21Step.C k), (76, spec_MayFlow.C k)]
def spec_RunOps.LH (k : Nat) : Nat → Option (LHi κ) := assoc [(5, ⟨3, [(0, [some 3]), (1, [some 1]), (2, [some 4]), (3, []), (9, [some 5]), (10, [some 1]), (11, [some 1]), (12, [])], [(9, [some 5])], @spec_RunOps.h5 k⟩)]
theorem spec_RunOps.hΓ (k : Nat) : ∀ f g, spec_RunOps.Γ k f = some g → CSound Try.prog f g := G_cons (spec_l21Zeros.ok k) (G_cons (spec_AreOps.ok k) (G_cons (spec_l21Step.ok k) (G_cons (spec_MayFlow.ok k) G_nil)))
theorem spec_RunOps.e5 {R : Type} (K : Ex → St κ → Option R) (k : Nat) (x3 : Int) (xl0 : List T_impl_Op) (xl1 : List Int) (xl2 : List T_impl_Flow) : ∀ (n : Nat) (x7 : Int) (xl3 : List T_impl_Sent) (xl4 : List Int) (xl5 : List Int), loopN 3 (Code.den ti (spec_RunOps.Γ k) (spec_RunOps.LH k) (loopAt Try.f37 0)) [(0, [some 3]), (1, [some 1]), (2, [some 4]), (3, []), (9, [some 5]), (10, [some 1]), (11, [some 1]), (12, [])] [(9, [some 5])] K n [.v (.sl 0), .v (.sl 1), .v (.sl 2), .v (.int .i64 x3), .v (.sl 3), .v (.sl 4), .v (.sl 5), .v (.int .i64 x7)] [.rows 3 false xl0, .rows 1 false xl1, .rows 4 false xl2, .rows 5 true xl3, .rows 1 true xl4, .rows 1 true xl5] = spec_RunOps.l5 k x3 xl0 xl1 xl2 (fun (zl3 : List T_impl_Sent) => K (.exit 0) (stOf [(9, [some 5])] [.v (.sl 3)] [.rows 3 false xl0, .rows 1 false xl1, .rows 4 false xl2, .rows 5 true zl3])) n x7 xl3 xl4 xl5
  | 0, _, _, _, _ => rfl
  | n + 1, x7, xl3, xl4, xl5 => (show loopN 3 (Code.den ti (spec_RunOps.Γ k) (spec_RunOps.LH k) (loopAt Try.f37 0)) [(0, [some 3]), (1, [some 1]), (2, [some 4]), (3, []), (9, [some 5]), (10, [some 1]), (11, [some 1]), (12, [])] [(9, [some 5])] K (n + 1) [.v (.sl 0), .v (.sl 1), .v (.sl 2), .v (.int .i64 x3), .v (.sl 3), .v (.sl 4), .v (.sl 5), .v (.int .i64 x7)] [.rows 3 false xl0, .rows 1 false xl1, .rows 4 false xl2, .rows 5 true xl3, .rows 1 true xl4, .rows 1 true xl5] = spec_RunOps.L5 k x3 xl0 xl1 xl2 (fun (zl3 : List T_impl_Sent) => K (.exit 0) (stOf [(9, [some 5])] [.v (.sl 3)] [.rows 3 false xl0, .rows 1 false xl1, .rows 4 false xl2, .rows 5 true zl3])) (fun (x7' : Int) (xl3' : List T_impl_Sent) (xl4' : List Int) (xl5' : List Int) => loopN 3 (Code.den ti (spec_RunOps.Γ k) (spec_RunOps.LH k) (loopAt Try.f37 0)) [(0, [some 3]), (1, [some 1]), (2, [some 4]), (3, []), (9, [some 5]), (10, [some 1]), (11, [some 1]), (12, [])] [(9, [some 5])] K n [.v (.sl 0), .v (.sl 1), .v (.sl 2), .v (.int .i64 x3), .v (.sl 3), .v (.sl 4), .v (.sl 5), .v (.int .i64 x7')] [.rows 3 false xl0, .rows 1 false xl1, .rows 4 false xl2, .rows 5 true xl3', .rows 1 true xl4', .rows 1 true xl5']) x7 xl3 xl4 xl5 by kernel_rfl).trans (congrArg (fun rec => spec_RunOps.L5 k x3 xl0 xl1 xl2 (fun (zl3 : List T_impl_Sent) => K (.exit 0) (stOf [(9, [some 5])] [.v (.sl 3)] [.rows 3 false xl0, .rows 1 false xl1, .rows 4 false xl2, .rows 5 true zl3])) rec x7 xl3 xl4 xl5) (funext fun x7' => funext fun xl3' => funext fun xl4' => funext fun xl5' => spec_RunOps.e5 K k x3 xl0 xl1 xl2 n x7' xl3' xl4' xl5'))
theorem spec_RunOps.q5 (k : Nat) {R : Type} (K : Ex → St κ → Option R) (vs : List AV) (bs : List (Blk κ)) (r : R) (h : spec_RunOps.h5 k K vs bs = some r) : ∃ n, loopN 3 (Code.den ti (spec_RunOps.Γ k) (spec_RunOps.LH k) (loopAt Try.f37 0)) [(0, [some 3]), (1, [some 1]), (2, [some 4]), (3, []), (9, [some 5]), (10, [some 1]), (11, [some 1]), (12, [])] [(9, [some 5])] K n vs bs = some r := by
  unfold spec_RunOps.h5 at h
  split at h
  · obtain ⟨_, rfl, h_1⟩ := asO_bind h
    obtain ⟨_, rfl, h_2⟩ := asO_bind h_1
    obtain ⟨_, rfl, h_3⟩ := asO_bind h_2
    obtain ⟨_, rfl, h_4⟩ := asO_bind h_3
    obtain ⟨_, rfl, h_5⟩ := asO_bind h_4
    obtain ⟨_, rfl, h_6⟩ := asO_bind h_5
    exact ⟨k, (spec_RunOps.e5 K k _ _ _ _ k _ _ _ _).trans h_6⟩
  · cases h
theorem spec_RunOps.lok (k : Nat) : LOK ti (spec_RunOps.Γ k) (spec_RunOps.LH k) 3 (loopsOf (bodyOf Try.f37)) :=
  (show loopsOf (bodyOf Try.f37) = [loopAt Try.f37 0] by kernel_rfl) ▸ (LOK_cons (g := ⟨3, [(0, [some 3]), (1, [some 1]), (2, [some 4]), (3, []), (9, [some 5]), (10, [some 1]), (11, [some 1]), (12, [])], [(9, [some 5])], @spec_RunOps.h5 k⟩) (by kernel_rfl) rfl (fun K vs xs r h => spec_RunOps.q5 k K vs xs r h) (LOK_nil))
def spec_RunOps.sig : List PSh := [.one (.ro 3), .one (.ro 1), .one (.ro 4), .one .sc]
def spec_RunOps.g (y : List T_impl_Sent) : Ret κ := ⟨.v (.sl 3), [], [.rows 5 true y]⟩
def spec_RunOps.out (r : Ret κ) : Option (List T_impl_Sent) :=
  match r with
  | ⟨.v (.sl 3), [], [q0]⟩ => (asO 5 true q0).bind fun z0 => some (z0)
  | _ => none
theorem spec_RunOps.out_ok (r : Ret κ) (y : List T_impl_Sent) (h : spec_RunOps.out r = some y) : r = spec_RunOps.g y := by
  unfold spec_RunOps.out at h
  split at h
  · obtain ⟨_, rfl, h_1⟩ := asO_bind h
    obtain rfl := Option.some.inj h_1
    rfl
  · cases h
def spec_RunOps.body (k : Nat) (vs : List AV) (bs : List (Blk κ)) : Option (Lf κ) :=
  match vs, bs with
  | [.v (.sl 0), .v (.sl 1), .v (.sl 2), .v (.int .i64 a3)], [qb0, qb1, qb2] => (asO 3 false qb0).bind fun a0 => (asO 1 false qb1).bind fun a1 => (asO 4 false qb2).bind fun a2 => some ⟨List T_impl_Sent, spec_RunOps.f k a0 a1 a2 a3, spec_RunOps.g⟩
  | _, _ => none
def spec_RunOps.C (k : Nat) : Nat → List AV → AP κ AV := contract spec_RunOps.sig (spec_RunOps.body k)
theorem spec_RunOps.den (k : Nat) (a0 : List T_impl_Op) (a1 : List Int) (a2 : List T_impl_Flow) (a3 : Int) : Code.den ti (spec_RunOps.Γ k) (spec_RunOps.LH k) (bodyOf Try.f37) (finK ti Try.f37.results.toList [(8, [some 5])] (flags spec_RunOps.sig).length (rwI (flags spec_RunOps.sig) 0) spec_RunOps.out) ⟨envOf (([.v (.sl 0), .v (.sl 1), .v (.sl 2), .v (.int .i64 a3)]).zipIdx.map fun q => (q.2, q.1)), hpOf [.rows 3 false a0, .rows 1 false a1, .rows 4 false a2], (flags spec_RunOps.sig).length⟩ = spec_RunOps.f k a0 a1 a2 a3 := by kernel_rfl
theorem spec_RunOps.ok (k : Nat) : CSound Try.prog 37 (spec_RunOps.C k) :=
  csound κ_ok mixed tok (spec_RunOps.hΓ k) (LH := spec_RunOps.LH k) (fn := Try.f37) (c := bodyOf Try.f37) Try.func37 rfl Try.call37 spec_RunOps.sig [(8, [some 5])] (spec_RunOps.body k) (by kernel_rfl) (spec_RunOps.lok k) (by decide) fun vs bs lf y hl hb hy => by
    unfold spec_RunOps.body at hb
    split at hb
    · obtain ⟨_, rfl, hb_1⟩ := asO_bind hb
      obtain ⟨_, rfl, hb_2⟩ := asO_bind hb_1
      obtain ⟨_, rfl, hb_3⟩ := asO_bind hb_2
      obtain rfl := Option.some.inj hb_3
      exact ⟨spec_RunOps.out, spec_RunOps.out_ok, (spec_RunOps.den k _ _ _ _).trans hy⟩
    · cases hb
/-! ### impl_InRange -/
def impl_InRange.f (k : Nat) (a0 : Int) (a1 : Int) (a2 : Int) : Option Bool :=
  (bif decide (a1 ≤ a0) then some (decide (a0 ≤ a2)) else some false)
def impl_InRange.Γ (k : Nat) : Ct κ := assoc []
def impl_InRange.LH (k : Nat) : Nat → Option (LHi κ) := assoc []
theorem impl_InRange.hΓ (k : Nat) : ∀ f g, impl_InRange.Γ k f = some g → CSound Try.prog f g := G_nil
theorem impl_InRange.lok (k : Nat) : LOK ti (impl_InRange.Γ k) (impl_InRange.LH k) 0 (loopsOf (bodyOf Try.f68)) :=
  (show loopsOf (bodyOf Try.f68) = [] by kernel_rfl) ▸ LOK_nil
def impl_InRange.sig : List PSh := [.one .sc, .one .sc, .one .sc]
def impl_InRange.g (y : Bool) : Ret κ := ⟨.v (.bool y), [], []⟩
def impl_InRange.out (r : Ret κ) : Option Bool :=
  match r with
  | ⟨.v (.bool z0), [], []⟩ => some (z0)
  | _ => none
theorem impl_InRange.out_ok (r : Ret κ) (y : Bool) (h : impl_InRange.out r = some y) : r = impl_InRange.g y := by
  unfold impl_InRange.out at h
  split at h
  · obtain rfl := Option.some.inj h
    rfl
  · cases h
def impl_InRange.body (k : Nat) (vs : List AV) (bs : List (Blk κ)) : Option (Lf κ) :=
  match vs, bs with
  | [.v (.int .i64 a0), .v (.int .i64 a1), .v (.int .i64 a2)], [] => some ⟨Bool, impl_InRange.f k a0 a1 a2, impl_InRange.g⟩
  | _, _ => none
def impl_InRange.C (k : Nat) : Nat → List AV → AP κ AV := contract impl_InRange.sig (impl_InRange.body k)
theorem impl_InRange.den (k : Nat) (a0 : Int) (a1 : Int) (a2 : Int) : Code.den ti (impl_InRange.Γ k) (impl_InRange.LH k) (bodyOf Try.f68) (finK ti Try.f68.results.toList [] (flags impl_InRange.sig).length (rwI (flags impl_InRange.sig) 0) impl_InRange.out) ⟨envOf (([.v (.int .i64 a0), .v (.int .i64 a1), .v (.int .i64 a2)]).zipIdx.map fun q => (q.2, q.1)), hpOf [], (flags impl_InRange.sig).length⟩ = impl_InRange.f k a0 a1 a2 := by kernel_rfl
theorem impl_InRange.ok (k : Nat) : CSound Try.prog 68 (impl_InRange.C k) :=
  csound κ_ok mixed tok (impl_InRange.hΓ k) (LH := impl_InRange.LH k) (fn := Try.f68) (c := bodyOf Try.f68) Try.func68 rfl Try.call68 impl_InRange.sig [] (impl_InRange.body k) (by kernel_rfl) (impl_InRange.lok k) (by decide) fun vs bs lf y hl hb hy => by
    unfold impl_InRange.body at hb
    split at hb
    · obtain rfl := Option.some.inj hb
      exact ⟨impl_InRange.out, impl_InRange.out_ok, (impl_InRange.den k _ _ _).trans hy⟩
    · cases hb
/-! ### impl_isRegister -/
def impl_isRegister.f (k : Nat) (a0 : Int) : Option Bool :=
  (impl_InRange.f k a0 (0 : Int) (5 : Int)).bind fun t1 => some t1
def impl_isRegister.Γ (k : Nat) : Ct κ := assoc [(68, impl_InRange.C k)]
def impl_isRegister.LH (k : Nat) : Nat → Option (LHi κ) := assoc []
theorem impl_isRegister.hΓ (k : Nat) : ∀ f g, impl_isRegister.Γ k f = some g → CSound Try.prog f g := G_cons (impl_InRange.ok k) G_nil
theorem impl_isRegister.lok (k : Nat) : LOK ti (impl_isRegister.Γ k) (impl_isRegister.LH k) 0 (loopsOf (bodyOf Try.f92)) :=
  (show loopsOf (bodyOf Try.f92) = [] by kernel_rfl) ▸ LOK_nil
def impl_isRegister.sig : List PSh := [.one .sc]
def impl_isRegister.g (y : Bool) : Ret κ := ⟨.v (.bool y), [], []⟩
def impl_isRegister.out (r : Ret κ) : Option Bool :=
  match r with
  | ⟨.v (.bool z0), [], []⟩ => some (z0)
  | _ => none
theorem impl_isRegister.out_ok (r : Ret κ) (y : Bool) (h : impl_isRegister.out r = some y) : r = impl_isRegister.g y := by
  unfold impl_isRegister.out at h
  split at h
  · obtain rfl := Option.some.inj h
    rfl
  · cases h
def impl_isRegister.body (k : Nat) (vs : List AV) (bs : List (Blk κ)) : Option (Lf κ) :=
  match vs, bs with
  | [.v (.int .i64 a0)], [] => some ⟨Bool, impl_isRegister.f k a0, impl_isRegister.g⟩
  | _, _ => none
def impl_isRegister.C (k : Nat) : Nat → List AV → AP κ AV := contract impl_isRegister.sig (impl_isRegister.body k)
theorem impl_isRegister.den (k : Nat) (a0 : Int) : Code.den ti (impl_isRegister.Γ k) (impl_isRegister.LH k) (bodyOf Try.f92) (finK ti Try.f92.results.toList [] (flags impl_isRegister.sig).length (rwI (flags impl_isRegister.sig) 0) impl_isRegister.out) ⟨envOf (([.v (.int .i64 a0)]).zipIdx.map fun q => (q.2, q.1)), hpOf [], (flags impl_isRegister.sig).length⟩ = impl_isRegister.f k a0 := by kernel_rfl
theorem impl_isRegister.ok (k : Nat) : CSound Try.prog 92 (impl_isRegister.C k) :=
  csound κ_ok mixed tok (impl_isRegister.hΓ k) (LH := impl_isRegister.LH k) (fn := Try.f92) (c := bodyOf Try.f92) Try.func92 rfl Try.call92 impl_isRegister.sig [] (impl_isRegister.body k) (by kernel_rfl) (impl_isRegister.lok k) (by decide) fun vs bs lf y hl hb hy => by
    unfold impl_isRegister.body at hb
    split at hb
    · obtain rfl := Option.some.inj hb
      exact ⟨impl_isRegister.out, impl_isRegister.out_ok, (impl_isRegister.den k _).trans hy⟩
    · cases hb
/-! ### impl_isOp -/
def impl_isOp.f (k : Nat) (a0_0 : Int) (a0_1 : Int) (a0_2 : Int) (a0_3 : Int) : Option Bool :=
  (impl_isRegister.f k a0_1).bind fun t1 => (bif !t1 then some false else (bif (a0_0 == (1 : Int)) then (impl_InRange.f k a0_2 (1 : Int) (9 : Int)).bind fun t2 => (bif t2 then some (a0_3 == (0 : Int)) else some false) else (bif (a0_0 == (5 : Int)) then (impl_InRange.f k a0_2 (1 : Int) (9 : Int)).bind fun t3 => (bif t3 then some (a0_3 == (0 : Int)) else some false) else (bif (a0_0 == (2 : Int)) then (impl_InRange.f k a0_2 (0 : Int) (999 : Int)).bind fun t4 => (bif t4 then some (a0_3 == (0 : Int)) else some false) else (bif (a0_0 == (3 : Int)) then (impl_isRegister.f k a0_2).bind fun t5 => (bif t5 then (impl_isRegister.f k a0_3).bind fun t6 => some t6 else some false) else (bif (a0_0 == (4 : Int)) then (impl_isRegister.f k a0_2).bind fun t7 => (bif t7 then (impl_isRegister.f k a0_3).bind fun t8 => some t8 else some false) else some false))))))
def impl_isOp.Γ (k : Nat) : Ct κ := assoc [(92, impl_isRegister.C k), (68, impl_InRange.C k)]
def impl_isOp.LH (k : Nat) : Nat → Option (LHi κ) := assoc []
theorem impl_isOp.hΓ (k : Nat) : ∀ f g, impl_isOp.Γ k f = some g → CSound Try.prog f g := G_cons (impl_isRegister.ok k) (G_cons (impl_InRange.ok k) G_nil)
theorem impl_isOp.lok (k : Nat) : LOK ti (impl_isOp.Γ k) (impl_isOp.LH k) 0 (loopsOf (bodyOf Try.f64)) :=
  (show loopsOf (bodyOf Try.f64) = [] by kernel_rfl) ▸ LOK_nil
def impl_isOp.sig : List PSh := [.agg [.sc, .sc, .sc, .sc]]
def impl_isOp.g (y : Bool) : Ret κ := ⟨.v (.bool y), [], []⟩
def impl_isOp.out (r : Ret κ) : Option Bool :=
  match r with
  | ⟨.v (.bool z0), [], []⟩ => some (z0)
  | _ => none
theorem impl_isOp.out_ok (r : Ret κ) (y : Bool) (h : impl_isOp.out r = some y) : r = impl_isOp.g y := by
  unfold impl_isOp.out at h
  split at h
  · obtain rfl := Option.some.inj h
    rfl
  · cases h
def impl_isOp.body (k : Nat) (vs : List AV) (bs : List (Blk κ)) : Option (Lf κ) :=
  match vs, bs with
  | [.agg [.int .i64 a0_0, .int .i64 a0_1, .int .i64 a0_2, .int .i64 a0_3]], [] => some ⟨Bool, impl_isOp.f k a0_0 a0_1 a0_2 a0_3, impl_isOp.g⟩
  | _, _ => none
def impl_isOp.C (k : Nat) : Nat → List AV → AP κ AV := contract impl_isOp.sig (impl_isOp.body k)
theorem impl_isOp.den (k : Nat) (a0_0 : Int) (a0_1 : Int) (a0_2 : Int) (a0_3 : Int) : Code.den ti (impl_isOp.Γ k) (impl_isOp.LH k) (bodyOf Try.f64) (finK ti Try.f64.results.toList [] (flags impl_isOp.sig).length (rwI (flags impl_isOp.sig) 0) impl_isOp.out) ⟨envOf (([.agg [.int .i64 a0_0, .int .i64 a0_1, .int .i64 a0_2, .int .i64 a0_3]]).zipIdx.map fun q => (q.2, q.1)), hpOf [], (flags impl_isOp.sig).length⟩ = impl_isOp.f k a0_0 a0_1 a0_2 a0_3 := by kernel_rfl
theorem impl_isOp.ok (k : Nat) : CSound Try.prog 64 (impl_isOp.C k) :=
  csound κ_ok mixed tok (impl_isOp.hΓ k) (LH := impl_isOp.LH k) (fn := Try.f64) (c := bodyOf Try.f64) Try.func64 rfl Try.call64 impl_isOp.sig [] (impl_isOp.body k) (by kernel_rfl) (impl_isOp.lok k) (by decide) fun vs bs lf y hl hb hy => by
    unfold impl_isOp.body at hb
    split at hb
    · obtain rfl := Option.some.inj hb
      exact ⟨impl_isOp.out, impl_isOp.out_ok, (impl_isOp.den k _ _ _ _).trans hy⟩
    · cases hb
/-! ### impl_AreOps -/
def impl_AreOps.L4 {R : Type} (k : Nat) (x1 : Int) (xl0 : List T_impl_Op) (X0 : Bool → Option R) (X1 : Unit → Option R) (rec : Int → Option R) (x2 : Int) : Option R :=
  (bif decide (x2 < x1) then (bif decide (0 ≤ x2) then (bif decide (x2 < (xl0.length : Int)) then (impl_isOp.f k ((rd_impl_Op xl0 x2).f0) ((rd_impl_Op xl0 x2).f1) ((rd_impl_Op xl0 x2).f2) ((rd_impl_Op xl0 x2).f3)).bind fun t1 => (bif !t1 then (X0 false) else (rec (w64 (x2 + (1 : Int))))) else none) else none) else (X1 ()))
def impl_AreOps.l4 {R : Type} (k : Nat) (x1 : Int) (xl0 : List T_impl_Op) (X0 : Bool → Option R) (X1 : Unit → Option R) : Nat → Int → Option R
  | 0 => fun _ => none
  | n + 1 => impl_AreOps.L4 k x1 xl0 X0 X1 (impl_AreOps.l4 k x1 xl0 X0 X1 n)
def impl_AreOps.f (k : Nat) (a0 : List T_impl_Op) : Option Bool :=
  (bif decide ((a0.length : Int) > (16 : Int)) then some false else (impl_AreOps.l4 k (a0.length : Int) a0 (fun (y2 : Bool) => some y2) (fun (_ : Unit) => some true) k (0 : Int)))
def impl_AreOps.h4 (k : Nat) {R : Type} (K : Ex → St κ → Option R) (vs : List AV) (bs : List (Blk κ)) : Option R :=
  match vs, bs with
  | [.v (.sl 0), .v (.int .i64 x1), .v (.int .i64 x2)], [qb0] => (asO 3 false qb0).bind fun xl0 => impl_AreOps.l4 k x1 xl0 (fun (z0 : Bool) => K .ret (stOf [(2, [])] [.v (.bool z0)] [.rows 3 false xl0])) (fun (_ : Unit) => K (.exit 0) (stOf [(2, [])] [.v .any] [.rows 3 false xl0])) k x2
  | _, _ => none
def impl_AreOps.Γ (k : Nat) : Ct κ := assoc [(64, impl_isOp.C k)]
def impl_AreOps.LH (k : Nat) : Nat → Option (LHi κ) := assoc [(4, ⟨1, [(8, [some 3]), (9, []), (10, [])], [(2, [])], @impl_AreOps.h4 k⟩)]
theorem impl_AreOps.hΓ (k : Nat) : ∀ f g, impl_AreOps.Γ k f = some g → CSound Try.prog f g := G_cons (impl_isOp.ok k) G_nil
theorem impl_AreOps.e4 {R : Type} (K : Ex → St κ → Option R) (k : Nat) (x1 : Int) (xl0 : List T_impl_Op) : ∀ (n : Nat) (x2 : Int), loopN 1 (Code.den ti (impl_AreOps.Γ k) (impl_AreOps.LH k) (loopAt Try.f23 0)) [(8, [some 3]), (9, []), (10, [])] [(2, [])] K n [.v (.sl 0), .v (.int .i64 x1), .v (.int .i64 x2)] [.rows 3 false xl0] = impl_AreOps.l4 k x1 xl0 (fun (z0 : Bool) => K .ret (stOf [(2, [])] [.v (.bool z0)] [.rows 3 false xl0])) (fun (_ : Unit) => K (.exit 0) (stOf [(2, [])] [.v .any] [.rows 3 false xl0])) n x2
  | 0, _ => rfl
  | n + 1, x2 => (show loopN 1 (Code.den ti (impl_AreOps.Γ k) (impl_AreOps.LH k) (loopAt Try.f23 0)) [(8, [some 3]), (9, []), (10, [])] [(2, [])] K (n + 1) [.v (.sl 0), .v (.int .i64 x1), .v (.int .i64 x2)] [.rows 3 false xl0] = impl_AreOps.L4 k x1 xl0 (fun (z0 : Bool) => K .ret (stOf [(2, [])] [.v (.bool z0)] [.rows 3 false xl0])) (fun (_ : Unit) => K (.exit 0) (stOf [(2, [])] [.v .any] [.rows 3 false xl0])) (fun (x2' : Int) => loopN 1 (Code.den ti (impl_AreOps.Γ k) (impl_AreOps.LH k) (loopAt Try.f23 0)) [(8, [some 3]), (9, []), (10, [])] [(2, [])] K n [.v (.sl 0), .v (.int .i64 x1), .v (.int .i64 x2')] [.rows 3 false xl0]) x2 by kernel_rfl).trans (congrArg (fun rec => impl_AreOps.L4 k x1 xl0 (fun (z0 : Bool) => K .ret (stOf [(2, [])] [.v (.bool z0)] [.rows 3 false xl0])) (fun (_ : Unit) => K (.exit 0) (stOf [(2, [])] [.v .any] [.rows 3 false xl0])) rec x2) (funext fun x2' => impl_AreOps.e4 K k x1 xl0 n x2'))
theorem impl_AreOps.q4 (k : Nat) {R : Type} (K : Ex → St κ → Option R) (vs : List AV) (bs : List (Blk κ)) (r : R) (h : impl_AreOps.h4 k K vs bs = some r) : ∃ n, loopN 1 (Code.den ti (impl_AreOps.Γ k) (impl_AreOps.LH k) (loopAt Try.f23 0)) [(8, [some 3]), (9, []), (10, [])] [(2, [])] K n vs bs = some r := by
  unfold impl_AreOps.h4 at h
  split at h
  · obtain ⟨_, rfl, h_1⟩ := asO_bind h
    exact ⟨k, (impl_AreOps.e4 K k _ _ k _).trans h_1⟩
  · cases h
theorem impl_AreOps.lok (k : Nat) : LOK ti (impl_AreOps.Γ k) (impl_AreOps.LH k) 1 (loopsOf (bodyOf Try.f23)) :=
  (show loopsOf (bodyOf Try.f23) = [loopAt Try.f23 0] by kernel_rfl) ▸ (LOK_cons (g := ⟨1, [(8, [some 3]), (9, []), (10, [])], [(2, [])], @impl_AreOps.h4 k⟩) (by kernel_rfl) rfl (fun K vs xs r h => impl_AreOps.q4 k K vs xs r h) (LOK_nil))
def impl_AreOps.sig : List PSh := [.one (.ro 3)]
def impl_AreOps.g (y : Bool) : Ret κ := ⟨.v (.bool y), [], []⟩
def impl_AreOps.out (r : Ret κ) : Option Bool :=
  match r with
  | ⟨.v (.bool z0), [], []⟩ => some (z0)
  | _ => none
theorem impl_AreOps.out_ok (r : Ret κ) (y : Bool) (h : impl_AreOps.out r = some y) : r = impl_AreOps.g y := by
  unfold impl_AreOps.out at h
  split at h
  · obtain rfl := Option.some.inj h
    rfl
  · cases h
def impl_AreOps.body (k : Nat) (vs : List AV) (bs : List (Blk κ)) : Option (Lf κ) :=
  match vs, bs with
  | [.v (.sl 0)], [qb0] => (asO 3 false qb0).bind fun a0 => some ⟨Bool, impl_AreOps.f k a0, impl_AreOps.g⟩
  | _, _ => none
def impl_AreOps.C (k : Nat) : Nat → List AV → AP κ AV := contract impl_AreOps.sig (impl_AreOps.body k)
theorem impl_AreOps.den (k : Nat) (a0 : List T_impl_Op) : Code.den ti (impl_AreOps.Γ k) (impl_AreOps.LH k) (bodyOf Try.f23) (finK ti Try.f23.results.toList [] (flags impl_AreOps.sig).length (rwI (flags impl_AreOps.sig) 0) impl_AreOps.out) ⟨envOf (([.v (.sl 0)]).zipIdx.map fun q => (q.2, q.1)), hpOf [.rows 3 false a0], (flags impl_AreOps.sig).length⟩ = impl_AreOps.f k a0 := by kernel_rfl
theorem impl_AreOps.ok (k : Nat) : CSound Try.prog 23 (impl_AreOps.C k) :=
  csound κ_ok mixed tok (impl_AreOps.hΓ k) (LH := impl_AreOps.LH k) (fn := Try.f23) (c := bodyOf Try.f23) Try.func23 rfl Try.call23 impl_AreOps.sig [] (impl_AreOps.body k) (by kernel_rfl) (impl_AreOps.lok k) (by decide) fun vs bs lf y hl hb hy => by
    unfold impl_AreOps.body at hb
    split at hb
    · obtain ⟨_, rfl, hb_1⟩ := asO_bind hb
      obtain rfl := Option.some.inj hb_1
      exact ⟨impl_AreOps.out, impl_AreOps.out_ok, (impl_AreOps.den k _).trans hy⟩
    · cases hb
/-! ### impl_valueOf -/
def impl_valueOf.f (k : Nat) (a0 : List Int) (a1 : Int) : Option Int :=
  (bif decide (a1 < (1 : Int)) then some (0 : Int) else (bif decide (a1 > (a0.length : Int)) then some (0 : Int) else (bif decide (0 ≤ (w64 (a1 - (1 : Int)))) then (bif decide ((w64 (a1 - (1 : Int))) < (a0.length : Int)) then (impl_InRange.f k (rd_i64 a0 (w64 (a1 - (1 : Int)))) (0 : Int) (999 : Int)).bind fun t1 => (bif !t1 then some (0 : Int) else (bif decide (0 ≤ (w64 (a1 - (1 : Int)))) then (bif decide ((w64 (a1 - (1 : Int))) < (a0.length : Int)) then some (rd_i64 a0 (w64 (a1 - (1 : Int)))) else none) else none)) else none) else none)))
def impl_valueOf.Γ (k : Nat) : Ct κ := assoc [(68, impl_InRange.C k)]
def impl_valueOf.LH (k : Nat) : Nat → Option (LHi κ) := assoc []
theorem impl_valueOf.hΓ (k : Nat) : ∀ f g, impl_valueOf.Γ k f = some g → CSound Try.prog f g := G_cons (impl_InRange.ok k) G_nil
theorem impl_valueOf.lok (k : Nat) : LOK ti (impl_valueOf.Γ k) (impl_valueOf.LH k) 1 (loopsOf (bodyOf Try.f80)) :=
  (show loopsOf (bodyOf Try.f80) = [] by kernel_rfl) ▸ LOK_nil
def impl_valueOf.sig : List PSh := [.one (.ro 1), .one .sc]
def impl_valueOf.g (y : Int) : Ret κ := ⟨.v (.int .i64 y), [], []⟩
def impl_valueOf.out (r : Ret κ) : Option Int :=
  match r with
  | ⟨.v (.int .i64 z0), [], []⟩ => some (z0)
  | _ => none
theorem impl_valueOf.out_ok (r : Ret κ) (y : Int) (h : impl_valueOf.out r = some y) : r = impl_valueOf.g y := by
  unfold impl_valueOf.out at h
  split at h
  · obtain rfl := Option.some.inj h
    rfl
  · cases h
def impl_valueOf.body (k : Nat) (vs : List AV) (bs : List (Blk κ)) : Option (Lf κ) :=
  match vs, bs with
  | [.v (.sl 0), .v (.int .i64 a1)], [qb0] => (asO 1 false qb0).bind fun a0 => some ⟨Int, impl_valueOf.f k a0 a1, impl_valueOf.g⟩
  | _, _ => none
def impl_valueOf.C (k : Nat) : Nat → List AV → AP κ AV := contract impl_valueOf.sig (impl_valueOf.body k)
theorem impl_valueOf.den (k : Nat) (a0 : List Int) (a1 : Int) : Code.den ti (impl_valueOf.Γ k) (impl_valueOf.LH k) (bodyOf Try.f80) (finK ti Try.f80.results.toList [] (flags impl_valueOf.sig).length (rwI (flags impl_valueOf.sig) 0) impl_valueOf.out) ⟨envOf (([.v (.sl 0), .v (.int .i64 a1)]).zipIdx.map fun q => (q.2, q.1)), hpOf [.rows 1 false a0], (flags impl_valueOf.sig).length⟩ = impl_valueOf.f k a0 a1 := by kernel_rfl
theorem impl_valueOf.ok (k : Nat) : CSound Try.prog 80 (impl_valueOf.C k) :=
  csound κ_ok mixed tok (impl_valueOf.hΓ k) (LH := impl_valueOf.LH k) (fn := Try.f80) (c := bodyOf Try.f80) Try.func80 rfl Try.call80 impl_valueOf.sig [] (impl_valueOf.body k) (by kernel_rfl) (impl_valueOf.lok k) (by decide) fun vs bs lf y hl hb hy => by
    unfold impl_valueOf.body at hb
    split at hb
    · obtain ⟨_, rfl, hb_1⟩ := asO_bind hb
      obtain rfl := Option.some.inj hb_1
      exact ⟨impl_valueOf.out, impl_valueOf.out_ok, (impl_valueOf.den k _ _).trans hy⟩
    · cases hb
/-! ### impl_executed -/
def impl_executed.L3 {R : Type} (k : Nat) (x5 : Int) (xl0 : List T_impl_Op) (xl1 : List Int) (X0 : List T_impl_Sent → List Int → Option R) (rec : Int → List T_impl_Sent → List Int → List Int → Option R) (x6 : Int) (xl2 : List T_impl_Sent) (xl3 : List Int) (xl4 : List Int) : Option R :=
  (bif decide (x6 < x5) then (bif decide (0 ≤ x6) then (bif decide (x6 < (xl0.length : Int)) then (bif ((rd_impl_Op xl0 x6).f0 == (1 : Int)) then (impl_valueOf.f k xl1 ((rd_impl_Op xl0 x6).f2)).bind fun t1 => (bif decide ((rd_impl_Op xl0 x6).f2 < 0) then none else (bif decide (0 ≤ (rd_impl_Op xl0 x6).f1) then (bif decide ((rd_impl_Op xl0 x6).f1 < (xl3.length : Int)) then (bif decide (0 ≤ (rd_impl_Op xl0 x6).f1) then (bif decide ((rd_impl_Op xl0 x6).f1 < (xl4.length : Int)) then (let l2 : List Int := (xl4.set ((rd_impl_Op xl0 x6).f1).toNat (w64 ((1 : Int) * 2 ^ (min ((rd_impl_Op xl0 x6).f2).toNat 64)))); (rec (w64 (x6 + (1 : Int))) xl2 (xl3.set ((rd_impl_Op xl0 x6).f1).toNat t1) l2)) else none) else none) else none) else none)) else (bif ((rd_impl_Op xl0 x6).f0 == (2 : Int)) then (bif decide (0 ≤ (rd_impl_Op xl0 x6).f1) then (bif decide ((rd_impl_Op xl0 x6).f1 < (xl3.length : Int)) then (let l3 : List Int := (xl3.set ((rd_impl_Op xl0 x6).f1).toNat (rd_impl_Op xl0 x6).f2); (bif decide (0 ≤ (rd_impl_Op xl0 x6).f1) then (bif decide ((rd_impl_Op xl0 x6).f1 < (xl4.length : Int)) then (rec (w64 (x6 + (1 : Int))) xl2 l3 (xl4.set ((rd_impl_Op xl0 x6).f1).toNat (0 : Int))) else none) else none)) else none) else none) else (bif ((rd_impl_Op xl0 x6).f0 == (3 : Int)) then (bif decide (0 ≤ (rd_impl_Op xl0 x6).f2) then (bif decide ((rd_impl_Op xl0 x6).f2 < (xl3.length : Int)) then (bif decide (0 ≤ (rd_impl_Op xl0 x6).f3) then (bif decide ((rd_impl_Op xl0 x6).f3 < (xl3.length : Int)) then (bif decide (0 ≤ (rd_impl_Op xl0 x6).f2) then (bif decide ((rd_impl_Op xl0 x6).f2 < (xl4.length : Int)) then (bif decide (0 ≤ (rd_impl_Op xl0 x6).f3) then (bif decide ((rd_impl_Op xl0 x6).f3 < (xl4.length : Int)) then (bif decide (0 ≤ (rd_impl_Op xl0 x6).f1) then (bif decide ((rd_impl_Op xl0 x6).f1 < (xl3.length : Int)) then (let l4 : List Int := (xl3.set ((rd_impl_Op xl0 x6).f1).toNat ((w64 ((rd_i64 xl3 ((rd_impl_Op xl0 x6).f2)) + (rd_i64 xl3 ((rd_impl_Op xl0 x6).f3)))).tmod (1000 : Int))); (bif decide (0 ≤ (rd_impl_Op xl0 x6).f1) then (bif decide ((rd_impl_Op xl0 x6).f1 < (xl4.length : Int)) then (let l5 : List Int := (xl4.set ((rd_impl_Op xl0 x6).f1).toNat (bitop .or .i64 (rd_i64 xl4 ((rd_impl_Op xl0 x6).f2)) (rd_i64 xl4 ((rd_impl_Op xl0 x6).f3)))); (rec (w64 (x6 + (1 : Int))) xl2 l4 l5)) else none) else none)) else none) else none) else none) else none) else none) else none) else none) else none) else none) else none) else (bif ((rd_impl_Op xl0 x6).f0 == (4 : Int)) then (bif decide (0 ≤ (rd_impl_Op xl0 x6).f1) then (bif decide ((rd_impl_Op xl0 x6).f1 < (xl4.length : Int)) then (bif decide (0 ≤ (rd_impl_Op xl0 x6).f2) then (bif decide ((rd_impl_Op xl0 x6).f2 < (xl4.length : Int)) then (bif decide (0 ≤ (rd_impl_Op xl0 x6).f3) then (bif decide ((rd_impl_Op xl0 x6).f3 < (xl4.length : Int)) then (bif decide (0 ≤ (rd_impl_Op xl0 x6).f2) then (bif decide ((rd_impl_Op xl0 x6).f2 < (xl3.length : Int)) then (bif (((rd_i64 xl3 ((rd_impl_Op xl0 x6).f2)).tmod (2 : Int)) == (0 : Int)) then (bif decide (0 ≤ (rd_impl_Op xl0 x6).f3) then (bif decide ((rd_impl_Op xl0 x6).f3 < (xl3.length : Int)) then (bif decide (0 ≤ (rd_impl_Op xl0 x6).f1) then (bif decide ((rd_impl_Op xl0 x6).f1 < (xl3.length : Int)) then (let l6 : List Int := (xl3.set ((rd_impl_Op xl0 x6).f1).toNat (rd_i64 xl3 ((rd_impl_Op xl0 x6).f3))); (bif decide (0 ≤ (rd_impl_Op xl0 x6).f1) then (bif decide ((rd_impl_Op xl0 x6).f1 < (xl4.length : Int)) then (let l7 : List Int := (xl4.set ((rd_impl_Op xl0 x6).f1).toNat (bitop .or .i64 (bitop .or .i64 (rd_i64 xl4 ((rd_impl_Op xl0 x6).f1)) (rd_i64 xl4 ((rd_impl_Op xl0 x6).f2))) (rd_i64 xl4 ((rd_impl_Op xl0 x6).f3)))); (rec (w64 (x6 + (1 : Int))) xl2 l6 l7)) else none) else none)) else none) else none) else none) else none) else (bif decide (0 ≤ (rd_impl_Op xl0 x6).f1) then (bif decide ((rd_impl_Op xl0 x6).f1 < (xl4.length : Int)) then (let l8 : List Int := (xl4.set ((rd_impl_Op xl0 x6).f1).toNat (bitop .or .i64 (bitop .or .i64 (rd_i64 xl4 ((rd_impl_Op xl0 x6).f1)) (rd_i64 xl4 ((rd_impl_Op xl0 x6).f2))) (rd_i64 xl4 ((rd_impl_Op xl0 x6).f3)))); (rec (w64 (x6 + (1 : Int))) xl2 xl3 l8)) else none) else none)) else none) else none) else none) else none) else none) else none) else none) else none) else (bif ((rd_impl_Op xl0 x6).f0 == (5 : Int)) then (bif decide (0 ≤ (rd_impl_Op xl0 x6).f1) then (bif decide ((rd_impl_Op xl0 x6).f1 < (xl3.length : Int)) then (bif decide (0 ≤ (rd_impl_Op xl0 x6).f1) then (bif decide ((rd_impl_Op xl0 x6).f1 < (xl4.length : Int)) then (bif decide ((xl2.length + ([(⟨(rd_impl_Op xl0 x6).f2, (rd_i64 xl3 ((rd_impl_Op xl0 x6).f1)), (rd_i64 xl4 ((rd_impl_Op xl0 x6).f1))⟩ : T_impl_Sent)] : List T_impl_Sent).length) * 24 ≤ cap48) then (let l9 : List T_impl_Sent := (xl2 ++ ([(⟨(rd_impl_Op xl0 x6).f2, (rd_i64 xl3 ((rd_impl_Op xl0 x6).f1)), (rd_i64 xl4 ((rd_impl_Op xl0 x6).f1))⟩ : T_impl_Sent)] : List T_impl_Sent)); (rec (w64 (x6 + (1 : Int))) l9 xl3 xl4)) else none) else none) else none) else none) else none) else (rec (w64 (x6 + (1 : Int))) xl2 xl3 xl4)))))) else none) else none) else (X0 xl2 xl4))
def impl_executed.l3 {R : Type} (k : Nat) (x5 : Int) (xl0 : List T_impl_Op) (xl1 : List Int) (X0 : List T_impl_Sent → List Int → Option R) : Nat → Int → List T_impl_Sent → List Int → List Int → Option R
  | 0 => fun _ _ _ _ => none
  | n + 1 => impl_executed.L3 k x5 xl0 xl1 X0 (impl_executed.l3 k x5 xl0 xl1 X0 n)
def impl_executed.f (k : Nat) (a0 : List T_impl_Op) (a1 : List Int) : Option (List T_impl_Sent × List Int) :=
  (bif decide (0 ≤ (6 : Int)) then (bif decide (((6 : Int)).toNat * 8 ≤ cap48) then (bif decide (0 ≤ (6 : Int)) then (bif decide (((6 : Int)).toNat * 8 ≤ cap48) then (impl_executed.l3 k (a0.length : Int) a0 a1 (fun (y10 : List T_impl_Sent) (y11 : List Int) => some (y10, y11)) k (0 : Int) ([] : List T_impl_Sent) (List.replicate ((6 : Int)).toNat z_i64) (List.replicate ((6 : Int)).toNat z_i64)) else none) else none) else none) else none)
def impl_executed.h3 (k : Nat) {R : Type} (K : Ex → St κ → Option R) (vs : List AV) (bs : List (Blk κ)) : Option R :=
  match vs, bs with
  | [.v (.sl 1), .v (.sl 2), .v (.sl 3), .v (.sl 4), .v (.sl 0), .v (.int .i64 x5), .v (.int .i64 x6)], [qb0, qb1, qb2, qb3, qb4] => (asO 3 false qb0).bind fun xl0 => (asO 1 false qb1).bind fun xl1 => (asO 5 true qb2).bind fun xl2 => (asO 1 true qb3).bind fun xl3 => (asO 1 true qb4).bind fun xl4 => impl_executed.l3 k x5 xl0 xl1 (fun (zl2 : List T_impl_Sent) (zl3 : List Int) => K (.exit 0) (stOf [(6, [some 5]), (8, [some 1])] [.v (.sl 2), .v (.sl 3)] [.rows 3 false xl0, .rows 1 false xl1, .rows 5 true zl2, .rows 1 true zl3])) k x6 xl2 xl3 xl4
  | _, _ => none
def impl_executed.Γ (k : Nat) : Ct κ := assoc [(80, impl_valueOf.C k)]
def impl_executed.LH (k : Nat) : Nat → Option (LHi κ) := assoc [(3, ⟨2, [(1, [some 1]), (6, [some 5]), (7, [some 1]), (8, [some 1]), (15, [some 3]), (16, []), (17, [])], [(6, [some 5]), (8, [some 1])], @impl_executed.h3 k⟩)]
theorem impl_executed.hΓ (k : Nat) : ∀ f g, impl_executed.Γ k f = some g → CSound Try.prog f g := G_cons (impl_valueOf.ok k) G_nil
theorem impl_executed.e3 {R : Type} (K : Ex → St κ → Option R) (k : Nat) (x5 : Int) (xl0 : List T_impl_Op) (xl1 : List Int) : ∀ (n : Nat) (x6 : Int) (xl2 : List T_impl_Sent) (xl3 : List Int) (xl4 : List Int), loopN 2 (Code.den ti (impl_executed.Γ k) (impl_executed.LH k) (loopAt Try.f57 0)) [(1, [some 1]), (6, [some 5]), (7, [some 1]), (8, [some 1]), (15, [some 3]), (16, []), (17, [])] [(6, [some 5]), (8, [some 1])] K n [.v (.sl 1), .v (.sl 2), .v (.sl 3), .v (.sl 4), .v (.sl 0), .v (.int .i64 x5), .v (.int .i64 x6)] [.rows 3 false xl0, .rows 1 false xl1, .rows 5 true xl2, .rows 1 true xl3, .rows 1 true xl4] = impl_executed.l3 k x5 xl0 xl1 (fun (zl2 : List T_impl_Sent) (zl3 : List Int) => K (.exit 0) (stOf [(6, [some 5]), (8, [some 1])] [.v (.sl 2), .v (.sl 3)] [.rows 3 false xl0, .rows 1 false xl1, .rows 5 true zl2, .rows 1 true zl3])) n x6 xl2 xl3 xl4
  | 0, _, _, _, _ => rfl
  | n + 1, x6, xl2, xl3, xl4 => (show loopN 2 (Code.den ti (impl_executed.Γ k) (impl_executed.LH k) (loopAt Try.f57 0)) [(1, [some 1]), (6, [some 5]), (7, [some 1]), (8, [some 1]), (15, [some 3]), (16, []), (17, [])] [(6, [some 5]), (8, [some 1])] K (n + 1) [.v (.sl 1), .v (.sl 2), .v (.sl 3), .v (.sl 4), .v (.sl 0), .v (.int .i64 x5), .v (.int .i64 x6)] [.rows 3 false xl0, .rows 1 false xl1, .rows 5 true xl2, .rows 1 true xl3, .rows 1 true xl4] = impl_executed.L3 k x5 xl0 xl1 (fun (zl2 : List T_impl_Sent) (zl3 : List Int) => K (.exit 0) (stOf [(6, [some 5]), (8, [some 1])] [.v (.sl 2), .v (.sl 3)] [.rows 3 false xl0, .rows 1 false xl1, .rows 5 true zl2, .rows 1 true zl3])) (fun (x6' : Int) (xl2' : List T_impl_Sent) (xl3' : List Int) (xl4' : List Int) => loopN 2 (Code.den ti (impl_executed.Γ k) (impl_executed.LH k) (loopAt Try.f57 0)) [(1, [some 1]), (6, [some 5]), (7, [some 1]), (8, [some 1]), (15, [some 3]), (16, []), (17, [])] [(6, [some 5]), (8, [some 1])] K n [.v (.sl 1), .v (.sl 2), .v (.sl 3), .v (.sl 4), .v (.sl 0), .v (.int .i64 x5), .v (.int .i64 x6')] [.rows 3 false xl0, .rows 1 false xl1, .rows 5 true xl2', .rows 1 true xl3', .rows 1 true xl4']) x6 xl2 xl3 xl4 by kernel_rfl).trans (congrArg (fun rec => impl_executed.L3 k x5 xl0 xl1 (fun (zl2 : List T_impl_Sent) (zl3 : List Int) => K (.exit 0) (stOf [(6, [some 5]), (8, [some 1])] [.v (.sl 2), .v (.sl 3)] [.rows 3 false xl0, .rows 1 false xl1, .rows 5 true zl2, .rows 1 true zl3])) rec x6 xl2 xl3 xl4) (funext fun x6' => funext fun xl2' => funext fun xl3' => funext fun xl4' => impl_executed.e3 K k x5 xl0 xl1 n x6' xl2' xl3' xl4'))
theorem impl_executed.q3 (k : Nat) {R : Type} (K : Ex → St κ → Option R) (vs : List AV) (bs : List (Blk κ)) (r : R) (h : impl_executed.h3 k K vs bs = some r) : ∃ n, loopN 2 (Code.den ti (impl_executed.Γ k) (impl_executed.LH k) (loopAt Try.f57 0)) [(1, [some 1]), (6, [some 5]), (7, [some 1]), (8, [some 1]), (15, [some 3]), (16, []), (17, [])] [(6, [some 5]), (8, [some 1])] K n vs bs = some r := by
  unfold impl_executed.h3 at h
  split at h
  · obtain ⟨_, rfl, h_1⟩ := asO_bind h
    obtain ⟨_, rfl, h_2⟩ := asO_bind h_1
    obtain ⟨_, rfl, h_3⟩ := asO_bind h_2
    obtain ⟨_, rfl, h_4⟩ := asO_bind h_3
    obtain ⟨_, rfl, h_5⟩ := asO_bind h_4
    exact ⟨k, (impl_executed.e3 K k _ _ _ k _ _ _ _).trans h_5⟩
  · cases h
theorem impl_executed.lok (k : Nat) : LOK ti (impl_executed.Γ k) (impl_executed.LH k) 2 (loopsOf (bodyOf Try.f57)) :=
  (show loopsOf (bodyOf Try.f57) = [loopAt Try.f57 0] by kernel_rfl) ▸ (LOK_cons (g := ⟨2, [(1, [some 1]), (6, [some 5]), (7, [some 1]), (8, [some 1]), (15, [some 3]), (16, []), (17, [])], [(6, [some 5]), (8, [some 1])], @impl_executed.h3 k⟩) (by kernel_rfl) rfl (fun K vs xs r h => impl_executed.q3 k K vs xs r h) (LOK_nil))
def impl_executed.sig : List PSh := [.one (.ro 3), .one (.ro 1)]
def impl_executed.g (y : List T_impl_Sent × List Int) : Ret κ := ⟨.tup [(false, [.sl 2]), (false, [.sl 3])], [], [.rows 5 true y.1, .rows 1 true y.2]⟩
def impl_executed.out (r : Ret κ) : Option (List T_impl_Sent × List Int) :=
  match r with
  | ⟨.tup [(false, [.sl 2]), (false, [.sl 3])], [], [q0, q1]⟩ => (asO 5 true q0).bind fun z0 => (asO 1 true q1).bind fun z1 => some (z0, z1)
  | _ => none
theorem impl_executed.out_ok (r : Ret κ) (y : List T_impl_Sent × List Int) (h : impl_executed.out r = some y) : r = impl_executed.g y := by
  unfold impl_executed.out at h
  split at h
  · obtain ⟨_, rfl, h_1⟩ := asO_bind h
    obtain ⟨_, rfl, h_2⟩ := asO_bind h_1
    obtain rfl := Option.some.inj h_2
    rfl
  · cases h
def impl_executed.body (k : Nat) (vs : List AV) (bs : List (Blk κ)) : Option (Lf κ) :=
  match vs, bs with
  | [.v (.sl 0), .v (.sl 1)], [qb0, qb1] => (asO 3 false qb0).bind fun a0 => (asO 1 false qb1).bind fun a1 => some ⟨List T_impl_Sent × List Int, impl_executed.f k a0 a1, impl_executed.g⟩
  | _, _ => none
def impl_executed.C (k : Nat) : Nat → List AV → AP κ AV := contract impl_executed.sig (impl_executed.body k)
theorem impl_executed.den (k : Nat) (a0 : List T_impl_Op) (a1 : List Int) : Code.den ti (impl_executed.Γ k) (impl_executed.LH k) (bodyOf Try.f57) (finK ti Try.f57.results.toList [(4, [some 5]), (5, [some 1])] (flags impl_executed.sig).length (rwI (flags impl_executed.sig) 0) impl_executed.out) ⟨envOf (([.v (.sl 0), .v (.sl 1)]).zipIdx.map fun q => (q.2, q.1)), hpOf [.rows 3 false a0, .rows 1 false a1], (flags impl_executed.sig).length⟩ = impl_executed.f k a0 a1 := by kernel_rfl
theorem impl_executed.ok (k : Nat) : CSound Try.prog 57 (impl_executed.C k) :=
  csound κ_ok mixed tok (impl_executed.hΓ k) (LH := impl_executed.LH k) (fn := Try.f57) (c := bodyOf Try.f57) Try.func57 rfl Try.call57 impl_executed.sig [(4, [some 5]), (5, [some 1])] (impl_executed.body k) (by kernel_rfl) (impl_executed.lok k) (by decide) fun vs bs lf y hl hb hy => by
    unfold impl_executed.body at hb
    split at hb
    · obtain ⟨_, rfl, hb_1⟩ := asO_bind hb
      obtain ⟨_, rfl, hb_2⟩ := asO_bind hb_1
      obtain rfl := Option.some.inj hb_2
      exact ⟨impl_executed.out, impl_executed.out_ok, (impl_executed.den k _ _).trans hy⟩
    · cases hb
end Go.Proofs.Ythjdecnheaifkaa.PFnExactRunOps
