/- What the functions that the law FnPrograms reaches come to; no conditions. -/
import Derived.Test.YthjdecnheaifkaaPFnPrograms2
set_option linter.unusedVariables false
set_option maxRecDepth 100000
namespace Go.Proofs.Ythjdecnheaifkaa.PFnPrograms
open Go Go.Eng Go.Proofs
/-! ### spec_l1In -/
def spec_l1In.f (k : Nat) (a0 : Int) (a1 : Int) (a2 : Int) : Option Bool :=
  (bif decide (a0 ≥ a1) then some (decide (a0 ≤ a2)) else some false)
def spec_l1In.Γ (k : Nat) : Ct κ := assoc []
def spec_l1In.LH (k : Nat) : Nat → Option (LHi κ) := assoc []
theorem spec_l1In.hΓ (k : Nat) : ∀ f g, spec_l1In.Γ k f = some g → CSound Try.prog f g := G_nil
theorem spec_l1In.lok (k : Nat) : LOK ti (spec_l1In.Γ k) (spec_l1In.LH k) 0 (loopsOf (bodyOf Try.f93)) :=
  (show loopsOf (bodyOf Try.f93) = [] by kernel_rfl) ▸ LOK_nil
def spec_l1In.sig : List PSh := [.one .sc, .one .sc, .one .sc]
def spec_l1In.g (y : Bool) : Ret κ := ⟨.v (.bool y), [], []⟩
def spec_l1In.out (r : Ret κ) : Option Bool :=
  match r with
  | ⟨.v (.bool z0), [], []⟩ => some (z0)
  | _ => none
theorem spec_l1In.out_ok (r : Ret κ) (y : Bool) (h : spec_l1In.out r = some y) : r = spec_l1In.g y := by
  unfold spec_l1In.out at h
  split at h
  · obtain rfl := Option.some.inj h
    rfl
  · cases h
def spec_l1In.body (k : Nat) (vs : List AV) (bs : List (Blk κ)) : Option (Lf κ) :=
  match vs, bs with
  | [.v (.int .i64 a0), .v (.int .i64 a1), .v (.int .i64 a2)], [] => some ⟨Bool, spec_l1In.f k a0 a1 a2, spec_l1In.g⟩
  | _, _ => none
def spec_l1In.C (k : Nat) : Nat → List AV → AP κ AV := contract spec_l1In.sig (spec_l1In.body k)
theorem spec_l1In.den (k : Nat) (a0 : Int) (a1 : Int) (a2 : Int) : Code.den ti (spec_l1In.Γ k) (spec_l1In.LH k) (bodyOf Try.f93) (finK ti Try.f93.results.toList [] (flags spec_l1In.sig).length (rwI (flags spec_l1In.sig) 0) spec_l1In.out) ⟨envOf (([.v (.int .i64 a0), .v (.int .i64 a1), .v (.int .i64 a2)]).zipIdx.map fun q => (q.2, q.1)), hpOf [], (flags spec_l1In.sig).length⟩ = spec_l1In.f k a0 a1 a2 := by kernel_rfl
theorem spec_l1In.ok (k : Nat) : CSound Try.prog 93 (spec_l1In.C k) :=
  csound κ_ok mixed tok (spec_l1In.hΓ k) (LH := spec_l1In.LH k) (fn := Try.f93) (c := bodyOf Try.f93) Try.func93 rfl Try.call93 spec_l1In.sig [] (spec_l1In.body k) (by kernel_rfl) (spec_l1In.lok k) (by decide) fun vs bs lf y hl hb hy => by
    unfold spec_l1In.body at hb
    split at hb
    · obtain rfl := Option.some.inj hb
      exact ⟨spec_l1In.out, spec_l1In.out_ok, (spec_l1In.den k _ _ _).trans hy⟩
    · cases hb
/-! ### spec_l21Ok -/
def spec_l21Ok.f (k : Nat) (a0_0 : Int) (a0_1 : Int) (a0_2 : Int) (a0_3 : Int) : Option Bool :=
  (spec_l1In.f k a0_1 (0 : Int) (5 : Int)).bind fun t1 => (spec_l1In.f k a0_2 (0 : Int) (5 : Int)).bind fun t2 => (bif (a0_0 == (1 : Int)) then (bif t1 then (spec_l1In.f k a0_2 (1 : Int) (9 : Int)).bind fun t3 => (bif t3 then some (a0_3 == (0 : Int)) else some false) else some false) else (bif (a0_0 == (5 : Int)) then (bif t1 then (spec_l1In.f k a0_2 (1 : Int) (9 : Int)).bind fun t4 => (bif t4 then some (a0_3 == (0 : Int)) else some false) else some false) else (bif (a0_0 == (2 : Int)) then (bif t1 then (spec_l1In.f k a0_2 (0 : Int) (999 : Int)).bind fun t5 => (bif t5 then some (a0_3 == (0 : Int)) else some false) else some false) else (bif (a0_0 == (3 : Int)) then (bif t1 then (bif t2 then (spec_l1In.f k a0_3 (0 : Int) (5 : Int)).bind fun t6 => some t6 else some false) else some false) else (bif (a0_0 == (4 : Int)) then (bif t1 then (bif t2 then (spec_l1In.f k a0_3 (0 : Int) (5 : Int)).bind fun t7 => some t7 else some false) else some false) else some false)))))
def spec_l21Ok.Γ (k : Nat) : Ct κ := assoc [(93, spec_l1In.C k)]
def spec_l21Ok.LH (k : Nat) : Nat → Option (LHi κ) := assoc []
theorem spec_l21Ok.hΓ (k : Nat) : ∀ f g, spec_l21Ok.Γ k f = some g → CSound Try.prog f g := G_cons (spec_l1In.ok k) G_nil
theorem spec_l21Ok.lok (k : Nat) : LOK ti (spec_l21Ok.Γ k) (spec_l21Ok.LH k) 0 (loopsOf (bodyOf Try.f65)) :=
  (show loopsOf (bodyOf Try.f65) = [] by kernel_rfl) ▸ LOK_nil
def spec_l21Ok.sig : List PSh := [.agg [.sc, .sc, .sc, .sc]]
def spec_l21Ok.g (y : Bool) : Ret κ := ⟨.v (.bool y), [], []⟩
def spec_l21Ok.out (r : Ret κ) : Option Bool :=
  match r with
  | ⟨.v (.bool z0), [], []⟩ => some (z0)
  | _ => none
theorem spec_l21Ok.out_ok (r : Ret κ) (y : Bool) (h : spec_l21Ok.out r = some y) : r = spec_l21Ok.g y := by
  unfold spec_l21Ok.out at h
  split at h
  · obtain rfl := Option.some.inj h
    rfl
  · cases h
def spec_l21Ok.body (k : Nat) (vs : List AV) (bs : List (Blk κ)) : Option (Lf κ) :=
  match vs, bs with
  | [.agg [.int .i64 a0_0, .int .i64 a0_1, .int .i64 a0_2, .int .i64 a0_3]], [] => some ⟨Bool, spec_l21Ok.f k a0_0 a0_1 a0_2 a0_3, spec_l21Ok.g⟩
  | _, _ => none
def spec_l21Ok.C (k : Nat) : Nat → List AV → AP κ AV := contract spec_l21Ok.sig (spec_l21Ok.body k)
theorem spec_l21Ok.den (k : Nat) (a0_0 : Int) (a0_1 : Int) (a0_2 : Int) (a0_3 : Int) : Code.den ti (spec_l21Ok.Γ k) (spec_l21Ok.LH k) (bodyOf Try.f65) (finK ti Try.f65.results.toList [] (flags spec_l21Ok.sig).length (rwI (flags spec_l21Ok.sig) 0) spec_l21Ok.out) ⟨envOf (([.agg [.int .i64 a0_0, .int .i64 a0_1, .int .i64 a0_2, .int .i64 a0_3]]).zipIdx.map fun q => (q.2, q.1)), hpOf [], (flags spec_l21Ok.sig).length⟩ = spec_l21Ok.f k a0_0 a0_1 a0_2 a0_3 := by kernel_rfl
theorem spec_l21Ok.ok (k : Nat) : CSound Try.prog 65 (spec_l21Ok.C k) :=
  csound κ_ok mixed tok (spec_l21Ok.hΓ k) (LH := spec_l21Ok.LH k) (fn := Try.f65) (c := bodyOf Try.f65) Try.func65 rfl Try.call65 spec_l21Ok.sig [] (spec_l21Ok.body k) (by kernel_rfl) (spec_l21Ok.lok k) (by decide) fun vs bs lf y hl hb hy => by
    unfold spec_l21Ok.body at hb
    split at hb
    · obtain rfl := Option.some.inj hb
      exact ⟨spec_l21Ok.out, spec_l21Ok.out_ok, (spec_l21Ok.den k _ _ _ _).trans hy⟩
    · cases hb
/-! ### spec_AreOps -/
def spec_AreOps.L2 {R : Type} (k : Nat) (xl0 : List T_impl_Op) (X0 : Bool → Option R) (X1 : Unit → Option R) (rec : Int → Option R) (x1 : Int) : Option R :=
  (bif decide (x1 < (xl0.length : Int)) then (bif decide (0 ≤ x1) then (bif decide (x1 < (xl0.length : Int)) then (spec_l21Ok.f k ((rd_impl_Op xl0 x1).f0) ((rd_impl_Op xl0 x1).f1) ((rd_impl_Op xl0 x1).f2) ((rd_impl_Op xl0 x1).f3)).bind fun t1 => (bif !t1 then (X0 false) else (rec (w64 (x1 + (1 : Int))))) else none) else none) else (X1 ()))
def spec_AreOps.l2 {R : Type} (k : Nat) (xl0 : List T_impl_Op) (X0 : Bool → Option R) (X1 : Unit → Option R) : Nat → Int → Option R
  | 0 => fun _ => none
  | n + 1 => spec_AreOps.L2 k xl0 X0 X1 (spec_AreOps.l2 k xl0 X0 X1 n)
def spec_AreOps.f (k : Nat) (a0 : List T_impl_Op) : Option Bool :=
  (spec_AreOps.l2 k a0 (fun (y2 : Bool) => some y2) (fun (_ : Unit) => some (decide ((a0.length : Int) ≤ (16 : Int)))) k (0 : Int))
def spec_AreOps.h2 (k : Nat) {R : Type} (K : Ex → St κ → Option R) (vs : List AV) (bs : List (Blk κ)) : Option R :=
  match vs, bs with
  | [.v (.sl 0), .v (.int .i64 x1)], [qb0] => (asO 1 false qb0).bind fun xl0 => spec_AreOps.l2 k xl0 (fun (z1 : Bool) => K .ret (stOf [(0, [some 1]), (2, [])] [.v (.sl 0), .v (.bool z1)] [.rows 1 false xl0])) (fun (_ : Unit) => K (.exit 0) (stOf [(0, [some 1]), (2, [])] [.v (.sl 0), .v .any] [.rows 1 false xl0])) k x1
  | _, _ => none
def spec_AreOps.Γ (k : Nat) : Ct κ := assoc [(65, spec_l21Ok.C k)]
def spec_AreOps.LH (k : Nat) : Nat → Option (LHi κ) := assoc [(2, ⟨1, [(0, [some 1]), (3, [])], [(0, [some 1]), (2, [])], @spec_AreOps.h2 k⟩)]
theorem spec_AreOps.hΓ (k : Nat) : ∀ f g, spec_AreOps.Γ k f = some g → CSound Try.prog f g := G_cons (spec_l21Ok.ok k) G_nil
theorem spec_AreOps.e2 {R : Type} (K : Ex → St κ → Option R) (k : Nat) (xl0 : List T_impl_Op) : ∀ (n : Nat) (x1 : Int), loopN 1 (Code.den ti (spec_AreOps.Γ k) (spec_AreOps.LH k) (loopAt Try.f24 0)) [(0, [some 1]), (3, [])] [(0, [some 1]), (2, [])] K n [.v (.sl 0), .v (.int .i64 x1)] [.rows 1 false xl0] = spec_AreOps.l2 k xl0 (fun (z1 : Bool) => K .ret (stOf [(0, [some 1]), (2, [])] [.v (.sl 0), .v (.bool z1)] [.rows 1 false xl0])) (fun (_ : Unit) => K (.exit 0) (stOf [(0, [some 1]), (2, [])] [.v (.sl 0), .v .any] [.rows 1 false xl0])) n x1
  | 0, _ => rfl
  | n + 1, x1 => (show loopN 1 (Code.den ti (spec_AreOps.Γ k) (spec_AreOps.LH k) (loopAt Try.f24 0)) [(0, [some 1]), (3, [])] [(0, [some 1]), (2, [])] K (n + 1) [.v (.sl 0), .v (.int .i64 x1)] [.rows 1 false xl0] = spec_AreOps.L2 k xl0 (fun (z1 : Bool) => K .ret (stOf [(0, [some 1]), (2, [])] [.v (.sl 0), .v (.bool z1)] [.rows 1 false xl0])) (fun (_ : Unit) => K (.exit 0) (stOf [(0, [some 1]), (2, [])] [.v (.sl 0), .v .any] [.rows 1 false xl0])) (fun (x1' : Int) => loopN 1 (Code.den ti (spec_AreOps.Γ k) (spec_AreOps.LH k) (loopAt Try.f24 0)) [(0, [some 1]), (3, [])] [(0, [some 1]), (2, [])] K n [.v (.sl 0), .v (.int .i64 x1')] [.rows 1 false xl0]) x1 by kernel_rfl).trans (congrArg (fun rec => spec_AreOps.L2 k xl0 (fun (z1 : Bool) => K .ret (stOf [(0, [some 1]), (2, [])] [.v (.sl 0), .v (.bool z1)] [.rows 1 false xl0])) (fun (_ : Unit) => K (.exit 0) (stOf [(0, [some 1]), (2, [])] [.v (.sl 0), .v .any] [.rows 1 false xl0])) rec x1) (funext fun x1' => spec_AreOps.e2 K k xl0 n x1'))
theorem spec_AreOps.q2 (k : Nat) {R : Type} (K : Ex → St κ → Option R) (vs : List AV) (bs : List (Blk κ)) (r : R) (h : spec_AreOps.h2 k K vs bs = some r) : ∃ n, loopN 1 (Code.den ti (spec_AreOps.Γ k) (spec_AreOps.LH k) (loopAt Try.f24 0)) [(0, [some 1]), (3, [])] [(0, [some 1]), (2, [])] K n vs bs = some r := by
  unfold spec_AreOps.h2 at h
  split at h
  · obtain ⟨_, rfl, h_1⟩ := asO_bind h
    exact ⟨k, (spec_AreOps.e2 K k _ k _).trans h_1⟩
  · cases h
theorem spec_AreOps.lok (k : Nat) : LOK ti (spec_AreOps.Γ k) (spec_AreOps.LH k) 1 (loopsOf (bodyOf Try.f24)) :=
  (show loopsOf (bodyOf Try.f24) = [loopAt Try.f24 0] by kernel_rfl) ▸ (LOK_cons (g := ⟨1, [(0, [some 1]), (3, [])], [(0, [some 1]), (2, [])], @spec_AreOps.h2 k⟩) (by kernel_rfl) rfl (fun K vs xs r h => spec_AreOps.q2 k K vs xs r h) (LOK_nil))
def spec_AreOps.sig : List PSh := [.one (.ro 1)]
def spec_AreOps.g (y : Bool) : Ret κ := ⟨.v (.bool y), [], []⟩
def spec_AreOps.out (r : Ret κ) : Option Bool :=
  match r with
  | ⟨.v (.bool z0), [], []⟩ => some (z0)
  | _ => none
theorem spec_AreOps.out_ok (r : Ret κ) (y : Bool) (h : spec_AreOps.out r = some y) : r = spec_AreOps.g y := by
  unfold spec_AreOps.out at h
  split at h
  · obtain rfl := Option.some.inj h
    rfl
  · cases h
def spec_AreOps.body (k : Nat) (vs : List AV) (bs : List (Blk κ)) : Option (Lf κ) :=
  match vs, bs with
  | [.v (.sl 0)], [qb0] => (asO 1 false qb0).bind fun a0 => some ⟨Bool, spec_AreOps.f k a0, spec_AreOps.g⟩
  | _, _ => none
def spec_AreOps.C (k : Nat) : Nat → List AV → AP κ AV := contract spec_AreOps.sig (spec_AreOps.body k)
theorem spec_AreOps.den (k : Nat) (a0 : List T_impl_Op) : Code.den ti (spec_AreOps.Γ k) (spec_AreOps.LH k) (bodyOf Try.f24) (finK ti Try.f24.results.toList [] (flags spec_AreOps.sig).length (rwI (flags spec_AreOps.sig) 0) spec_AreOps.out) ⟨envOf (([.v (.sl 0)]).zipIdx.map fun q => (q.2, q.1)), hpOf [.rows 1 false a0], (flags spec_AreOps.sig).length⟩ = spec_AreOps.f k a0 := by kernel_rfl
theorem spec_AreOps.ok (k : Nat) : CSound Try.prog 24 (spec_AreOps.C k) :=
  csound κ_ok mixed tok (spec_AreOps.hΓ k) (LH := spec_AreOps.LH k) (fn := Try.f24) (c := bodyOf Try.f24) Try.func24 rfl Try.call24 spec_AreOps.sig [] (spec_AreOps.body k) (by kernel_rfl) (spec_AreOps.lok k) (by decide) fun vs bs lf y hl hb hy => by
    unfold spec_AreOps.body at hb
    split at hb
    · obtain ⟨_, rfl, hb_1⟩ := asO_bind hb
      obtain rfl := Option.some.inj hb_1
      exact ⟨spec_AreOps.out, spec_AreOps.out_ok, (spec_AreOps.den k _).trans hy⟩
    · cases hb
/-! ### impl_LabelsAfter -/
def impl_LabelsAfter.f (k : Nat) (a0 : List T_impl_Op) : Option (List Int) :=
  (impl_AreOps.f k a0).bind fun t1 => (bif !t1 then some ([] : List Int) else (impl_executed.f k a0 ([] : List Int)).bind fun t2 => some t2.2)
def impl_LabelsAfter.Γ (k : Nat) : Ct κ := assoc [(23, impl_AreOps.C k), (57, impl_executed.C k)]
def impl_LabelsAfter.LH (k : Nat) : Nat → Option (LHi κ) := assoc []
theorem impl_LabelsAfter.hΓ (k : Nat) : ∀ f g, impl_LabelsAfter.Γ k f = some g → CSound Try.prog f g := G_cons (impl_AreOps.ok k) (G_cons (impl_executed.ok k) G_nil)
theorem impl_LabelsAfter.lok (k : Nat) : LOK ti (impl_LabelsAfter.Γ k) (impl_LabelsAfter.LH k) 1 (loopsOf (bodyOf Try.f14)) :=
  (show loopsOf (bodyOf Try.f14) = [] by kernel_rfl) ▸ LOK_nil
def impl_LabelsAfter.sig : List PSh := [.one (.ro 1)]
def impl_LabelsAfter.g (y : List Int) : Ret κ := ⟨.v (.sl 1), [], [.rows 2 true y]⟩
def impl_LabelsAfter.out (r : Ret κ) : Option (List Int) :=
  match r with
  | ⟨.v (.sl 1), [], [q0]⟩ => (asO 2 true q0).bind fun z0 => some (z0)
  | _ => none
theorem impl_LabelsAfter.out_ok (r : Ret κ) (y : List Int) (h : impl_LabelsAfter.out r = some y) : r = impl_LabelsAfter.g y := by
  unfold impl_LabelsAfter.out at h
  split at h
  · obtain ⟨_, rfl, h_1⟩ := asO_bind h
    obtain rfl := Option.some.inj h_1
    rfl
  · cases h
def impl_LabelsAfter.body (k : Nat) (vs : List AV) (bs : List (Blk κ)) : Option (Lf κ) :=
  match vs, bs with
  | [.v (.sl 0)], [qb0] => (asO 1 false qb0).bind fun a0 => some ⟨List Int, impl_LabelsAfter.f k a0, impl_LabelsAfter.g⟩
  | _, _ => none
def impl_LabelsAfter.C (k : Nat) : Nat → List AV → AP κ AV := contract impl_LabelsAfter.sig (impl_LabelsAfter.body k)
theorem impl_LabelsAfter.den (k : Nat) (a0 : List T_impl_Op) : Code.den ti (impl_LabelsAfter.Γ k) (impl_LabelsAfter.LH k) (bodyOf Try.f14) (finK ti Try.f14.results.toList [(2, [some 2])] (flags impl_LabelsAfter.sig).length (rwI (flags impl_LabelsAfter.sig) 0) impl_LabelsAfter.out) ⟨envOf (([.v (.sl 0)]).zipIdx.map fun q => (q.2, q.1)), hpOf [.rows 1 false a0], (flags impl_LabelsAfter.sig).length⟩ = impl_LabelsAfter.f k a0 := by kernel_rfl
theorem impl_LabelsAfter.ok (k : Nat) : CSound Try.prog 14 (impl_LabelsAfter.C k) :=
  csound κ_ok mixed tok (impl_LabelsAfter.hΓ k) (LH := impl_LabelsAfter.LH k) (fn := Try.f14) (c := bodyOf Try.f14) Try.func14 rfl Try.call14 impl_LabelsAfter.sig [(2, [some 2])] (impl_LabelsAfter.body k) (by kernel_rfl) (impl_LabelsAfter.lok k) (by decide) fun vs bs lf y hl hb hy => by
    unfold impl_LabelsAfter.body at hb
    split at hb
    · obtain ⟨_, rfl, hb_1⟩ := asO_bind hb
      obtain rfl := Option.some.inj hb_1
      exact ⟨impl_LabelsAfter.out, impl_LabelsAfter.out_ok, (impl_LabelsAfter.den k _).trans hy⟩
    · cases hb
/-! ### impl_NeedsFlows -/
def impl_NeedsFlows.L9 {R : Type} (k : Nat) (x0 : Int) (x4 : Int) (x5 : Int) (x7 : Int) (xl0 : List T_impl_Op) (xc2_0 : Int) (xc2_1 : Int) (xc2_2 : Int) (xl3 : List T_impl_Sent) (xl4 : List Int) (X0 : List T_impl_Flow → Option R) (rec : Int → List T_impl_Flow → Option R) (x8 : Int) (xl1 : List T_impl_Flow) : Option R :=
  (bif decide (x8 < x7) then (bif decide (0 ≤ x8) then (bif decide (x8 < (xl4.length : Int)) then (bif ((rd_i64 xl4 x8) != xc2_0) then (slices_Contains_Flow.f k xl1 x0 (rd_i64 xl4 x8) xc2_0).bind fun t4 => (bif !t4 then (bif decide ((xl1.length + ([(⟨x0, (rd_i64 xl4 x8), xc2_0⟩ : T_impl_Flow)] : List T_impl_Flow).length) * 24 ≤ cap48) then (let l5 : List T_impl_Flow := (xl1 ++ ([(⟨x0, (rd_i64 xl4 x8), xc2_0⟩ : T_impl_Flow)] : List T_impl_Flow)); (rec (w64 (x8 + (1 : Int))) l5)) else none) else (rec (w64 (x8 + (1 : Int))) xl1)) else (rec (w64 (x8 + (1 : Int))) xl1)) else none) else none) else (X0 xl1))
def impl_NeedsFlows.l9 {R : Type} (k : Nat) (x0 : Int) (x4 : Int) (x5 : Int) (x7 : Int) (xl0 : List T_impl_Op) (xc2_0 : Int) (xc2_1 : Int) (xc2_2 : Int) (xl3 : List T_impl_Sent) (xl4 : List Int) (X0 : List T_impl_Flow → Option R) : Nat → Int → List T_impl_Flow → Option R
  | 0 => fun _ _ => none
  | n + 1 => impl_NeedsFlows.L9 k x0 x4 x5 x7 xl0 xc2_0 xc2_1 xc2_2 xl3 xl4 X0 (impl_NeedsFlows.l9 k x0 x4 x5 x7 xl0 xc2_0 xc2_1 xc2_2 xl3 xl4 X0 n)
def impl_NeedsFlows.L6 {R : Type} (k : Nat) (x0 : Int) (x3 : Int) (xl0 : List T_impl_Op) (xl2 : List T_impl_Sent) (X0 : List T_impl_Flow → Option R) (rec : Int → List T_impl_Flow → Option R) (x4 : Int) (xl1 : List T_impl_Flow) : Option R :=
  (bif decide (x4 < x3) then (bif decide (0 ≤ x4) then (bif decide (x4 < (xl2.length : Int)) then (impl_OwnersIn.f k ((rd_impl_Sent xl2 x4).f2)).bind fun t3 => (impl_NeedsFlows.l9 k x0 x3 x4 (t3.length : Int) xl0 ((rd_impl_Sent xl2 x4).f0) ((rd_impl_Sent xl2 x4).f1) ((rd_impl_Sent xl2 x4).f2) xl2 t3 (fun (y4 : List T_impl_Flow) => (rec (w64 (x4 + (1 : Int))) y4)) k (0 : Int) xl1) else none) else none) else (X0 xl1))
def impl_NeedsFlows.l6 {R : Type} (k : Nat) (x0 : Int) (x3 : Int) (xl0 : List T_impl_Op) (xl2 : List T_impl_Sent) (X0 : List T_impl_Flow → Option R) : Nat → Int → List T_impl_Flow → Option R
  | 0 => fun _ _ => none
  | n + 1 => impl_NeedsFlows.L6 k x0 x3 xl0 xl2 X0 (impl_NeedsFlows.l6 k x0 x3 xl0 xl2 X0 n)
def impl_NeedsFlows.f (k : Nat) (a0 : List T_impl_Op) (a1 : Int) : Option (List T_impl_Flow) :=
  (impl_AreOps.f k a0).bind fun t1 => (bif !t1 then some ([] : List T_impl_Flow) else (impl_executed.f k a0 ([] : List Int)).bind fun t2 => (impl_NeedsFlows.l6 k a1 (t2.1.length : Int) a0 t2.1 (fun (y5 : List T_impl_Flow) => some y5) k (0 : Int) ([] : List T_impl_Flow)))
def impl_NeedsFlows.h9 (k : Nat) {R : Type} (K : Ex → St κ → Option R) (vs : List AV) (bs : List (Blk κ)) : Option R :=
  match vs, bs with
  | [.v (.int .i64 x0), .v (.sl 1), .v (.ptr 2 0 0), .v (.sl 3), .v (.int .i64 x4), .v (.int .i64 x5), .v (.sl 4), .v (.int .i64 x7), .v (.int .i64 x8)], [qb0, qb1, .cells 44 [.int .i64 xc2_0, .int .i64 xc2_1, .int .i64 xc2_2], qb3, qb4] => (asO 1 false qb0).bind fun xl0 => (asO 3 true qb1).bind fun xl1 => (asO 4 true qb3).bind fun xl3 => (asO 2 true qb4).bind fun xl4 => impl_NeedsFlows.l9 k x0 x4 x5 x7 xl0 xc2_0 xc2_1 xc2_2 xl3 xl4 (fun (zl1 : List T_impl_Flow) => K (.exit 2) (stOf [(1, []), (5, [some 3]), (23, [some 4]), (24, []), (25, [])] [.v (.int .i64 x0), .v (.sl 1), .v (.sl 2), .v (.int .i64 x4), .v (.int .i64 x5)] [.rows 1 false xl0, .rows 3 true zl1, .rows 4 true xl3])) k x8 xl1
  | _, _ => none
def impl_NeedsFlows.h6 (k : Nat) {R : Type} (K : Ex → St κ → Option R) (vs : List AV) (bs : List (Blk κ)) : Option R :=
  match vs, bs with
  | [.v (.int .i64 x0), .v (.sl 1), .v (.sl 2), .v (.int .i64 x3), .v (.int .i64 x4)], [qb0, qb1, qb2] => (asO 1 false qb0).bind fun xl0 => (asO 3 true qb1).bind fun xl1 => (asO 4 true qb2).bind fun xl2 => impl_NeedsFlows.l6 k x0 x3 xl0 xl2 (fun (zl1 : List T_impl_Flow) => K (.exit 0) (stOf [(5, [some 3])] [.v (.sl 1)] [.rows 1 false xl0, .rows 3 true zl1])) k x4 xl1
  | _, _ => none
def impl_NeedsFlows.Γ (k : Nat) : Ct κ := assoc [(23, impl_AreOps.C k), (57, impl_executed.C k), (66, impl_OwnersIn.C k), (67, slices_Contains_Flow.C k)]
def impl_NeedsFlows.LH (k : Nat) : Nat → Option (LHi κ) := assoc [(9, ⟨1, [(1, []), (5, [some 3]), (9, []), (23, [some 4]), (24, []), (25, []), (31, [some 2]), (32, []), (33, [])], [(1, []), (5, [some 3]), (23, [some 4]), (24, []), (25, [])], @impl_NeedsFlows.h9 k⟩), (6, ⟨1, [(1, []), (5, [some 3]), (23, [some 4]), (24, []), (25, [])], [(5, [some 3])], @impl_NeedsFlows.h6 k⟩)]
theorem impl_NeedsFlows.hΓ (k : Nat) : ∀ f g, impl_NeedsFlows.Γ k f = some g → CSound Try.prog f g := G_cons (impl_AreOps.ok k) (G_cons (impl_executed.ok k) (G_cons (impl_OwnersIn.ok k) (G_cons (slices_Contains_Flow.ok k) G_nil)))
theorem impl_NeedsFlows.e9 {R : Type} (K : Ex → St κ → Option R) (k : Nat) (x0 : Int) (x4 : Int) (x5 : Int) (x7 : Int) (xl0 : List T_impl_Op) (xc2_0 : Int) (xc2_1 : Int) (xc2_2 : Int) (xl3 : List T_impl_Sent) (xl4 : List Int) : ∀ (n : Nat) (x8 : Int) (xl1 : List T_impl_Flow), loopN 1 (Code.den ti (impl_NeedsFlows.Γ k) (impl_NeedsFlows.LH k) (loopAt Try.f25 1)) [(1, []), (5, [some 3]), (9, []), (23, [some 4]), (24, []), (25, []), (31, [some 2]), (32, []), (33, [])] [(1, []), (5, [some 3]), (23, [some 4]), (24, []), (25, [])] K n [.v (.int .i64 x0), .v (.sl 1), .v (.ptr 2 0 0), .v (.sl 3), .v (.int .i64 x4), .v (.int .i64 x5), .v (.sl 4), .v (.int .i64 x7), .v (.int .i64 x8)] [.rows 1 false xl0, .rows 3 true xl1, .cells 44 [.int .i64 xc2_0, .int .i64 xc2_1, .int .i64 xc2_2], .rows 4 true xl3, .rows 2 true xl4] = impl_NeedsFlows.l9 k x0 x4 x5 x7 xl0 xc2_0 xc2_1 xc2_2 xl3 xl4 (fun (zl1 : List T_impl_Flow) => K (.exit 2) (stOf [(1, []), (5, [some 3]), (23, [some 4]), (24, []), (25, [])] [.v (.int .i64 x0), .v (.sl 1), .v (.sl 2), .v (.int .i64 x4), .v (.int .i64 x5)] [.rows 1 false xl0, .rows 3 true zl1, .rows 4 true xl3])) n x8 xl1
  | 0, _, _ => rfl
  | n + 1, x8, xl1 => (show loopN 1 (Code.den ti (impl_NeedsFlows.Γ k) (impl_NeedsFlows.LH k) (loopAt Try.f25 1)) [(1, []), (5, [some 3]), (9, []), (23, [some 4]), (24, []), (25, []), (31, [some 2]), (32, []), (33, [])] [(1, []), (5, [some 3]), (23, [some 4]), (24, []), (25, [])] K (n + 1) [.v (.int .i64 x0), .v (.sl 1), .v (.ptr 2 0 0), .v (.sl 3), .v (.int .i64 x4), .v (.int .i64 x5), .v (.sl 4), .v (.int .i64 x7), .v (.int .i64 x8)] [.rows 1 false xl0, .rows 3 true xl1, .cells 44 [.int .i64 xc2_0, .int .i64 xc2_1, .int .i64 xc2_2], .rows 4 true xl3, .rows 2 true xl4] = impl_NeedsFlows.L9 k x0 x4 x5 x7 xl0 xc2_0 xc2_1 xc2_2 xl3 xl4 (fun (zl1 : List T_impl_Flow) => K (.exit 2) (stOf [(1, []), (5, [some 3]), (23, [some 4]), (24, []), (25, [])] [.v (.int .i64 x0), .v (.sl 1), .v (.sl 2), .v (.int .i64 x4), .v (.int .i64 x5)] [.rows 1 false xl0, .rows 3 true zl1, .rows 4 true xl3])) (fun (x8' : Int) (xl1' : List T_impl_Flow) => loopN 1 (Code.den ti (impl_NeedsFlows.Γ k) (impl_NeedsFlows.LH k) (loopAt Try.f25 1)) [(1, []), (5, [some 3]), (9, []), (23, [some 4]), (24, []), (25, []), (31, [some 2]), (32, []), (33, [])] [(1, []), (5, [some 3]), (23, [some 4]), (24, []), (25, [])] K n [.v (.int .i64 x0), .v (.sl 1), .v (.ptr 2 0 0), .v (.sl 3), .v (.int .i64 x4), .v (.int .i64 x5), .v (.sl 4), .v (.int .i64 x7), .v (.int .i64 x8')] [.rows 1 false xl0, .rows 3 true xl1', .cells 44 [.int .i64 xc2_0, .int .i64 xc2_1, .int .i64 xc2_2], .rows 4 true xl3, .rows 2 true xl4]) x8 xl1 by kernel_rfl).trans (congrArg (fun rec => impl_NeedsFlows.L9 k x0 x4 x5 x7 xl0 xc2_0 xc2_1 xc2_2 xl3 xl4 (fun (zl1 : List T_impl_Flow) => K (.exit 2) (stOf [(1, []), (5, [some 3]), (23, [some 4]), (24, []), (25, [])] [.v (.int .i64 x0), .v (.sl 1), .v (.sl 2), .v (.int .i64 x4), .v (.int .i64 x5)] [.rows 1 false xl0, .rows 3 true zl1, .rows 4 true xl3])) rec x8 xl1) (funext fun x8' => funext fun xl1' => impl_NeedsFlows.e9 K k x0 x4 x5 x7 xl0 xc2_0 xc2_1 xc2_2 xl3 xl4 n x8' xl1'))
theorem impl_NeedsFlows.q9 (k : Nat) {R : Type} (K : Ex → St κ → Option R) (vs : List AV) (bs : List (Blk κ)) (r : R) (h : impl_NeedsFlows.h9 k K vs bs = some r) : ∃ n, loopN 1 (Code.den ti (impl_NeedsFlows.Γ k) (impl_NeedsFlows.LH k) (loopAt Try.f25 1)) [(1, []), (5, [some 3]), (9, []), (23, [some 4]), (24, []), (25, []), (31, [some 2]), (32, []), (33, [])] [(1, []), (5, [some 3]), (23, [some 4]), (24, []), (25, [])] K n vs bs = some r := by
  unfold impl_NeedsFlows.h9 at h
  split at h
  · obtain ⟨_, rfl, h_1⟩ := asO_bind h
    obtain ⟨_, rfl, h_2⟩ := asO_bind h_1
    obtain ⟨_, rfl, h_3⟩ := asO_bind h_2
    obtain ⟨_, rfl, h_4⟩ := asO_bind h_3
    exact ⟨k, (impl_NeedsFlows.e9 K k _ _ _ _ _ _ _ _ _ _ k _ _).trans h_4⟩
  · cases h
theorem impl_NeedsFlows.e6 {R : Type} (K : Ex → St κ → Option R) (k : Nat) (x0 : Int) (x3 : Int) (xl0 : List T_impl_Op) (xl2 : List T_impl_Sent) : ∀ (n : Nat) (x4 : Int) (xl1 : List T_impl_Flow), loopN 1 (Code.den ti (impl_NeedsFlows.Γ k) (impl_NeedsFlows.LH k) (loopAt Try.f25 0)) [(1, []), (5, [some 3]), (23, [some 4]), (24, []), (25, [])] [(5, [some 3])] K n [.v (.int .i64 x0), .v (.sl 1), .v (.sl 2), .v (.int .i64 x3), .v (.int .i64 x4)] [.rows 1 false xl0, .rows 3 true xl1, .rows 4 true xl2] = impl_NeedsFlows.l6 k x0 x3 xl0 xl2 (fun (zl1 : List T_impl_Flow) => K (.exit 0) (stOf [(5, [some 3])] [.v (.sl 1)] [.rows 1 false xl0, .rows 3 true zl1])) n x4 xl1
  | 0, _, _ => rfl
  | n + 1, x4, xl1 => (show loopN 1 (Code.den ti (impl_NeedsFlows.Γ k) (impl_NeedsFlows.LH k) (loopAt Try.f25 0)) [(1, []), (5, [some 3]), (23, [some 4]), (24, []), (25, [])] [(5, [some 3])] K (n + 1) [.v (.int .i64 x0), .v (.sl 1), .v (.sl 2), .v (.int .i64 x3), .v (.int .i64 x4)] [.rows 1 false xl0, .rows 3 true xl1, .rows 4 true xl2] = impl_NeedsFlows.L6 k x0 x3 xl0 xl2 (fun (zl1 : List T_impl_Flow) => K (.exit 0) (stOf [(5, [some 3])] [.v (.sl 1)] [.rows 1 false xl0, .rows 3 true zl1])) (fun (x4' : Int) (xl1' : List T_impl_Flow) => loopN 1 (Code.den ti (impl_NeedsFlows.Γ k) (impl_NeedsFlows.LH k) (loopAt Try.f25 0)) [(1, []), (5, [some 3]), (23, [some 4]), (24, []), (25, [])] [(5, [some 3])] K n [.v (.int .i64 x0), .v (.sl 1), .v (.sl 2), .v (.int .i64 x3), .v (.int .i64 x4')] [.rows 1 false xl0, .rows 3 true xl1', .rows 4 true xl2]) x4 xl1 by kernel_rfl).trans (congrArg (fun rec => impl_NeedsFlows.L6 k x0 x3 xl0 xl2 (fun (zl1 : List T_impl_Flow) => K (.exit 0) (stOf [(5, [some 3])] [.v (.sl 1)] [.rows 1 false xl0, .rows 3 true zl1])) rec x4 xl1) (funext fun x4' => funext fun xl1' => impl_NeedsFlows.e6 K k x0 x3 xl0 xl2 n x4' xl1'))
theorem impl_NeedsFlows.q6 (k : Nat) {R : Type} (K : Ex → St κ → Option R) (vs : List AV) (bs : List (Blk κ)) (r : R) (h : impl_NeedsFlows.h6 k K vs bs = some r) : ∃ n, loopN 1 (Code.den ti (impl_NeedsFlows.Γ k) (impl_NeedsFlows.LH k) (loopAt Try.f25 0)) [(1, []), (5, [some 3]), (23, [some 4]), (24, []), (25, [])] [(5, [some 3])] K n vs bs = some r := by
  unfold impl_NeedsFlows.h6 at h
  split at h
  · obtain ⟨_, rfl, h_1⟩ := asO_bind h
    obtain ⟨_, rfl, h_2⟩ := asO_bind h_1
    obtain ⟨_, rfl, h_3⟩ := asO_bind h_2
    exact ⟨k, (impl_NeedsFlows.e6 K k _ _ _ _ k _ _).trans h_3⟩
  · cases h
theorem impl_NeedsFlows.lok (k : Nat) : LOK ti (impl_NeedsFlows.Γ k) (impl_NeedsFlows.LH k) 1 (loopsOf (bodyOf Try.f25)) :=
  (show loopsOf (bodyOf Try.f25) = [loopAt Try.f25 0, loopAt Try.f25 1] by kernel_rfl) ▸ (LOK_cons (g := ⟨1, [(1, []), (5, [some 3]), (23, [some 4]), (24, []), (25, [])], [(5, [some 3])], @impl_NeedsFlows.h6 k⟩) (by kernel_rfl) rfl (fun K vs xs r h => impl_NeedsFlows.q6 k K vs xs r h) (LOK_cons (g := ⟨1, [(1, []), (5, [some 3]), (9, []), (23, [some 4]), (24, []), (25, []), (31, [some 2]), (32, []), (33, [])], [(1, []), (5, [some 3]), (23, [some 4]), (24, []), (25, [])], @impl_NeedsFlows.h9 k⟩) (by kernel_rfl) rfl (fun K vs xs r h => impl_NeedsFlows.q9 k K vs xs r h) (LOK_nil)))
def impl_NeedsFlows.sig : List PSh := [.one (.ro 1), .one .sc]
def impl_NeedsFlows.g (y : List T_impl_Flow) : Ret κ := ⟨.v (.sl 1), [], [.rows 3 true y]⟩
def impl_NeedsFlows.out (r : Ret κ) : Option (List T_impl_Flow) :=
  match r with
  | ⟨.v (.sl 1), [], [q0]⟩ => (asO 3 true q0).bind fun z0 => some (z0)
  | _ => none
theorem impl_NeedsFlows.out_ok (r : Ret κ) (y : List T_impl_Flow) (h : impl_NeedsFlows.out r = some y) : r = impl_NeedsFlows.g y := by
  unfold impl_NeedsFlows.out at h
  split at h
  · obtain ⟨_, rfl, h_1⟩ := asO_bind h
    obtain rfl := Option.some.inj h_1
    rfl
  · cases h
def impl_NeedsFlows.body (k : Nat) (vs : List AV) (bs : List (Blk κ)) : Option (Lf κ) :=
  match vs, bs with
  | [.v (.sl 0), .v (.int .i64 a1)], [qb0] => (asO 1 false qb0).bind fun a0 => some ⟨List T_impl_Flow, impl_NeedsFlows.f k a0 a1, impl_NeedsFlows.g⟩
  | _, _ => none
def impl_NeedsFlows.C (k : Nat) : Nat → List AV → AP κ AV := contract impl_NeedsFlows.sig (impl_NeedsFlows.body k)
theorem impl_NeedsFlows.den (k : Nat) (a0 : List T_impl_Op) (a1 : Int) : Code.den ti (impl_NeedsFlows.Γ k) (impl_NeedsFlows.LH k) (bodyOf Try.f25) (finK ti Try.f25.results.toList [(4, [some 3])] (flags impl_NeedsFlows.sig).length (rwI (flags impl_NeedsFlows.sig) 0) impl_NeedsFlows.out) ⟨envOf (([.v (.sl 0), .v (.int .i64 a1)]).zipIdx.map fun q => (q.2, q.1)), hpOf [.rows 1 false a0], (flags impl_NeedsFlows.sig).length⟩ = impl_NeedsFlows.f k a0 a1 := by kernel_rfl
theorem impl_NeedsFlows.ok (k : Nat) : CSound Try.prog 25 (impl_NeedsFlows.C k) :=
  csound κ_ok mixed tok (impl_NeedsFlows.hΓ k) (LH := impl_NeedsFlows.LH k) (fn := Try.f25) (c := bodyOf Try.f25) Try.func25 rfl Try.call25 impl_NeedsFlows.sig [(4, [some 3])] (impl_NeedsFlows.body k) (by kernel_rfl) (impl_NeedsFlows.lok k) (by decide) fun vs bs lf y hl hb hy => by
    unfold impl_NeedsFlows.body at hb
    split at hb
    · obtain ⟨_, rfl, hb_1⟩ := asO_bind hb
      obtain rfl := Option.some.inj hb_1
      exact ⟨impl_NeedsFlows.out, impl_NeedsFlows.out_ok, (impl_NeedsFlows.den k _ _).trans hy⟩
    · cases hb
/-! ### slices_Equal_Sent -/
def slices_Equal_Sent.L4 {R : Type} (k : Nat) (x2 : Int) (xl0 : List T_impl_Sent) (xl1 : List T_impl_Sent) (X0 : Bool → Option R) (X1 : Unit → Option R) (rec : Int → Option R) (x3 : Int) : Option R :=
  (bif decide (x3 < x2) then (bif decide (0 ≤ x3) then (bif decide (x3 < (xl0.length : Int)) then (bif decide (0 ≤ x3) then (bif decide (x3 < (xl1.length : Int)) then (bif !((((rd_impl_Sent xl0 x3).f0) == ((rd_impl_Sent xl1 x3).f0)) && ((((rd_impl_Sent xl0 x3).f1) == ((rd_impl_Sent xl1 x3).f1)) && (((rd_impl_Sent xl0 x3).f2) == ((rd_impl_Sent xl1 x3).f2)))) then (X0 false) else (rec (w64 (x3 + (1 : Int))))) else none) else none) else none) else none) else (X1 ()))
def slices_Equal_Sent.l4 {R : Type} (k : Nat) (x2 : Int) (xl0 : List T_impl_Sent) (xl1 : List T_impl_Sent) (X0 : Bool → Option R) (X1 : Unit → Option R) : Nat → Int → Option R
  | 0 => fun _ => none
  | n + 1 => slices_Equal_Sent.L4 k x2 xl0 xl1 X0 X1 (slices_Equal_Sent.l4 k x2 xl0 xl1 X0 X1 n)
def slices_Equal_Sent.f (k : Nat) (a0 : List T_impl_Sent) (a1 : List T_impl_Sent) : Option Bool :=
  (bif ((a0.length : Int) != (a1.length : Int)) then some false else (slices_Equal_Sent.l4 k (a0.length : Int) a0 a1 (fun (y1 : Bool) => some y1) (fun (_ : Unit) => some true) k (0 : Int)))
def slices_Equal_Sent.h4 (k : Nat) {R : Type} (K : Ex → St κ → Option R) (vs : List AV) (bs : List (Blk κ)) : Option R :=
  match vs, bs with
  | [.v (.sl 0), .v (.sl 1), .v (.int .i64 x2), .v (.int .i64 x3)], [qb0, qb1] => (asO 4 false qb0).bind fun xl0 => (asO 4 false qb1).bind fun xl1 => slices_Equal_Sent.l4 k x2 xl0 xl1 (fun (z0 : Bool) => K .ret (stOf [(4, [])] [.v (.bool z0)] [.rows 4 false xl0, .rows 4 false xl1])) (fun (_ : Unit) => K (.exit 0) (stOf [(4, [])] [.v .any] [.rows 4 false xl0, .rows 4 false xl1])) k x3
  | _, _ => none
def slices_Equal_Sent.Γ (k : Nat) : Ct κ := assoc []
def slices_Equal_Sent.LH (k : Nat) : Nat → Option (LHi κ) := assoc [(4, ⟨2, [(0, [some 4]), (1, [some 4]), (12, []), (13, [])], [(4, [])], @slices_Equal_Sent.h4 k⟩)]
theorem slices_Equal_Sent.hΓ (k : Nat) : ∀ f g, slices_Equal_Sent.Γ k f = some g → CSound Try.prog f g := G_nil
theorem slices_Equal_Sent.e4 {R : Type} (K : Ex → St κ → Option R) (k : Nat) (x2 : Int) (xl0 : List T_impl_Sent) (xl1 : List T_impl_Sent) : ∀ (n : Nat) (x3 : Int), loopN 2 (Code.den ti (slices_Equal_Sent.Γ k) (slices_Equal_Sent.LH k) (loopAt Try.f70 0)) [(0, [some 4]), (1, [some 4]), (12, []), (13, [])] [(4, [])] K n [.v (.sl 0), .v (.sl 1), .v (.int .i64 x2), .v (.int .i64 x3)] [.rows 4 false xl0, .rows 4 false xl1] = slices_Equal_Sent.l4 k x2 xl0 xl1 (fun (z0 : Bool) => K .ret (stOf [(4, [])] [.v (.bool z0)] [.rows 4 false xl0, .rows 4 false xl1])) (fun (_ : Unit) => K (.exit 0) (stOf [(4, [])] [.v .any] [.rows 4 false xl0, .rows 4 false xl1])) n x3
  | 0, _ => rfl
  | n + 1, x3 => (show loopN 2 (Code.den ti (slices_Equal_Sent.Γ k) (slices_Equal_Sent.LH k) (loopAt Try.f70 0)) [(0, [some 4]), (1, [some 4]), (12, []), (13, [])] [(4, [])] K (n + 1) [.v (.sl 0), .v (.sl 1), .v (.int .i64 x2), .v (.int .i64 x3)] [.rows 4 false xl0, .rows 4 false xl1] = slices_Equal_Sent.L4 k x2 xl0 xl1 (fun (z0 : Bool) => K .ret (stOf [(4, [])] [.v (.bool z0)] [.rows 4 false xl0, .rows 4 false xl1])) (fun (_ : Unit) => K (.exit 0) (stOf [(4, [])] [.v .any] [.rows 4 false xl0, .rows 4 false xl1])) (fun (x3' : Int) => loopN 2 (Code.den ti (slices_Equal_Sent.Γ k) (slices_Equal_Sent.LH k) (loopAt Try.f70 0)) [(0, [some 4]), (1, [some 4]), (12, []), (13, [])] [(4, [])] K n [.v (.sl 0), .v (.sl 1), .v (.int .i64 x2), .v (.int .i64 x3')] [.rows 4 false xl0, .rows 4 false xl1]) x3 by kernel_rfl).trans (congrArg (fun rec => slices_Equal_Sent.L4 k x2 xl0 xl1 (fun (z0 : Bool) => K .ret (stOf [(4, [])] [.v (.bool z0)] [.rows 4 false xl0, .rows 4 false xl1])) (fun (_ : Unit) => K (.exit 0) (stOf [(4, [])] [.v .any] [.rows 4 false xl0, .rows 4 false xl1])) rec x3) (funext fun x3' => slices_Equal_Sent.e4 K k x2 xl0 xl1 n x3'))
theorem slices_Equal_Sent.q4 (k : Nat) {R : Type} (K : Ex → St κ → Option R) (vs : List AV) (bs : List (Blk κ)) (r : R) (h : slices_Equal_Sent.h4 k K vs bs = some r) : ∃ n, loopN 2 (Code.den ti (slices_Equal_Sent.Γ k) (slices_Equal_Sent.LH k) (loopAt Try.f70 0)) [(0, [some 4]), (1, [some 4]), (12, []), (13, [])] [(4, [])] K n vs bs = some r := by
  unfold slices_Equal_Sent.h4 at h
  split at h
  · obtain ⟨_, rfl, h_1⟩ := asO_bind h
    obtain ⟨_, rfl, h_2⟩ := asO_bind h_1
    exact ⟨k, (slices_Equal_Sent.e4 K k _ _ _ k _).trans h_2⟩
  · cases h
theorem slices_Equal_Sent.lok (k : Nat) : LOK ti (slices_Equal_Sent.Γ k) (slices_Equal_Sent.LH k) 2 (loopsOf (bodyOf Try.f70)) :=
  (show loopsOf (bodyOf Try.f70) = [loopAt Try.f70 0] by kernel_rfl) ▸ (LOK_cons (g := ⟨2, [(0, [some 4]), (1, [some 4]), (12, []), (13, [])], [(4, [])], @slices_Equal_Sent.h4 k⟩) (by kernel_rfl) rfl (fun K vs xs r h => slices_Equal_Sent.q4 k K vs xs r h) (LOK_nil))
def slices_Equal_Sent.sig : List PSh := [.one (.ro 4), .one (.ro 4)]
def slices_Equal_Sent.g (y : Bool) : Ret κ := ⟨.v (.bool y), [], []⟩
def slices_Equal_Sent.out (r : Ret κ) : Option Bool :=
  match r with
  | ⟨.v (.bool z0), [], []⟩ => some (z0)
  | _ => none
theorem slices_Equal_Sent.out_ok (r : Ret κ) (y : Bool) (h : slices_Equal_Sent.out r = some y) : r = slices_Equal_Sent.g y := by
  unfold slices_Equal_Sent.out at h
  split at h
  · obtain rfl := Option.some.inj h
    rfl
  · cases h
def slices_Equal_Sent.body (k : Nat) (vs : List AV) (bs : List (Blk κ)) : Option (Lf κ) :=
  match vs, bs with
  | [.v (.sl 0), .v (.sl 1)], [qb0, qb1] => (asO 4 false qb0).bind fun a0 => (asO 4 false qb1).bind fun a1 => some ⟨Bool, slices_Equal_Sent.f k a0 a1, slices_Equal_Sent.g⟩
  | _, _ => none
def slices_Equal_Sent.C (k : Nat) : Nat → List AV → AP κ AV := contract slices_Equal_Sent.sig (slices_Equal_Sent.body k)
theorem slices_Equal_Sent.den (k : Nat) (a0 : List T_impl_Sent) (a1 : List T_impl_Sent) : Code.den ti (slices_Equal_Sent.Γ k) (slices_Equal_Sent.LH k) (bodyOf Try.f70) (finK ti Try.f70.results.toList [] (flags slices_Equal_Sent.sig).length (rwI (flags slices_Equal_Sent.sig) 0) slices_Equal_Sent.out) ⟨envOf (([.v (.sl 0), .v (.sl 1)]).zipIdx.map fun q => (q.2, q.1)), hpOf [.rows 4 false a0, .rows 4 false a1], (flags slices_Equal_Sent.sig).length⟩ = slices_Equal_Sent.f k a0 a1 := by kernel_rfl
theorem slices_Equal_Sent.ok (k : Nat) : CSound Try.prog 70 (slices_Equal_Sent.C k) :=
  csound κ_ok mixed tok (slices_Equal_Sent.hΓ k) (LH := slices_Equal_Sent.LH k) (fn := Try.f70) (c := bodyOf Try.f70) Try.func70 rfl Try.call70 slices_Equal_Sent.sig [] (slices_Equal_Sent.body k) (by kernel_rfl) (slices_Equal_Sent.lok k) (by decide) fun vs bs lf y hl hb hy => by
    unfold slices_Equal_Sent.body at hb
    split at hb
    · obtain ⟨_, rfl, hb_1⟩ := asO_bind hb
      obtain ⟨_, rfl, hb_2⟩ := asO_bind hb_1
      obtain rfl := Option.some.inj hb_2
      exact ⟨slices_Equal_Sent.out, slices_Equal_Sent.out_ok, (slices_Equal_Sent.den k _ _).trans hy⟩
    · cases hb
/-! ### impl_EqualSent -/
def impl_EqualSent.f (k : Nat) (a0 : List T_impl_Sent) (a1 : List T_impl_Sent) : Option Bool :=
  (slices_Equal_Sent.f k a0 a1).bind fun t1 => some t1
def impl_EqualSent.Γ (k : Nat) : Ct κ := assoc [(70, slices_Equal_Sent.C k)]
def impl_EqualSent.LH (k : Nat) : Nat → Option (LHi κ) := assoc []
theorem impl_EqualSent.hΓ (k : Nat) : ∀ f g, impl_EqualSent.Γ k f = some g → CSound Try.prog f g := G_cons (slices_Equal_Sent.ok k) G_nil
theorem impl_EqualSent.lok (k : Nat) : LOK ti (impl_EqualSent.Γ k) (impl_EqualSent.LH k) 2 (loopsOf (bodyOf Try.f28)) :=
  (show loopsOf (bodyOf Try.f28) = [] by kernel_rfl) ▸ LOK_nil
def impl_EqualSent.sig : List PSh := [.one (.ro 4), .one (.ro 4)]
def impl_EqualSent.g (y : Bool) : Ret κ := ⟨.v (.bool y), [], []⟩
def impl_EqualSent.out (r : Ret κ) : Option Bool :=
  match r with
  | ⟨.v (.bool z0), [], []⟩ => some (z0)
  | _ => none
theorem impl_EqualSent.out_ok (r : Ret κ) (y : Bool) (h : impl_EqualSent.out r = some y) : r = impl_EqualSent.g y := by
  unfold impl_EqualSent.out at h
  split at h
  · obtain rfl := Option.some.inj h
    rfl
  · cases h
def impl_EqualSent.body (k : Nat) (vs : List AV) (bs : List (Blk κ)) : Option (Lf κ) :=
  match vs, bs with
  | [.v (.sl 0), .v (.sl 1)], [qb0, qb1] => (asO 4 false qb0).bind fun a0 => (asO 4 false qb1).bind fun a1 => some ⟨Bool, impl_EqualSent.f k a0 a1, impl_EqualSent.g⟩
  | _, _ => none
def impl_EqualSent.C (k : Nat) : Nat → List AV → AP κ AV := contract impl_EqualSent.sig (impl_EqualSent.body k)
theorem impl_EqualSent.den (k : Nat) (a0 : List T_impl_Sent) (a1 : List T_impl_Sent) : Code.den ti (impl_EqualSent.Γ k) (impl_EqualSent.LH k) (bodyOf Try.f28) (finK ti Try.f28.results.toList [] (flags impl_EqualSent.sig).length (rwI (flags impl_EqualSent.sig) 0) impl_EqualSent.out) ⟨envOf (([.v (.sl 0), .v (.sl 1)]).zipIdx.map fun q => (q.2, q.1)), hpOf [.rows 4 false a0, .rows 4 false a1], (flags impl_EqualSent.sig).length⟩ = impl_EqualSent.f k a0 a1 := by kernel_rfl
theorem impl_EqualSent.ok (k : Nat) : CSound Try.prog 28 (impl_EqualSent.C k) :=
  csound κ_ok mixed tok (impl_EqualSent.hΓ k) (LH := impl_EqualSent.LH k) (fn := Try.f28) (c := bodyOf Try.f28) Try.func28 rfl Try.call28 impl_EqualSent.sig [] (impl_EqualSent.body k) (by kernel_rfl) (impl_EqualSent.lok k) (by decide) fun vs bs lf y hl hb hy => by
    unfold impl_EqualSent.body at hb
    split at hb
    · obtain ⟨_, rfl, hb_1⟩ := asO_bind hb
      obtain ⟨_, rfl, hb_2⟩ := asO_bind hb_1
      obtain rfl := Option.some.inj hb_2
      exact ⟨impl_EqualSent.out, impl_EqualSent.out_ok, (impl_EqualSent.den k _ _).trans hy⟩
    · cases hb
/-! ### laws_FnPrograms -/
def laws_FnPrograms.L10 {R : Type} (k : Nat) (x3 : Int) (xl0 : List Int) (xl1 : List T_impl_Op) (xl2 : List Int) (xl3 : List T_impl_Flow) (xl4 : List T_impl_Sent) (X0 : Bool → Option R) (X1 : Unit → Option R) (rec : Int → Option R) (x5 : Int) : Option R :=
  (bif decide (x5 < (xl4.length : Int)) then (bif decide (0 ≤ x5) then (bif decide (x5 < (xl4.length : Int)) then (bif decide (0 ≤ x5) then (bif decide (x5 < (xl4.length : Int)) then (impl_MayFlow.f k xl3 x3 ((rd_impl_Sent xl4 x5).f2) ((rd_impl_Sent xl4 x5).f0)).bind fun t9 => (bif !t9 then (X0 false) else (bif decide (0 ≤ x5) then (bif decide (x5 < (xl4.length : Int)) then (bif decide ((rd_impl_Sent xl4 x5).f1 < (0 : Int)) then (X0 false) else (bif decide (0 ≤ x5) then (bif decide (x5 < (xl4.length : Int)) then (bif decide ((rd_impl_Sent xl4 x5).f1 > (999 : Int)) then (X0 false) else (rec (w64 (x5 + (1 : Int))))) else none) else none)) else none) else none)) else none) else none) else none) else none) else (X1 ()))
def laws_FnPrograms.l10 {R : Type} (k : Nat) (x3 : Int) (xl0 : List Int) (xl1 : List T_impl_Op) (xl2 : List Int) (xl3 : List T_impl_Flow) (xl4 : List T_impl_Sent) (X0 : Bool → Option R) (X1 : Unit → Option R) : Nat → Int → Option R
  | 0 => fun _ => none
  | n + 1 => laws_FnPrograms.L10 k x3 xl0 xl1 xl2 xl3 xl4 X0 X1 (laws_FnPrograms.l10 k x3 xl0 xl1 xl2 xl3 xl4 X0 X1 n)
def laws_FnPrograms.L16 {R : Type} (k : Nat) (x3 : Int) (xl0 : List Int) (xl1 : List T_impl_Op) (xl2 : List Int) (xl3 : List T_impl_Flow) (xl4 : List T_impl_Sent) (X0 : Int → Option R) (rec : Int → Int → Option R) (x5 : Int) (x6 : Int) : Option R :=
  (bif decide (x6 < (xl1.length : Int)) then (bif decide (0 ≤ x6) then (bif decide (x6 < (xl1.length : Int)) then (bif ((rd_impl_Op xl1 x6).f0 == (5 : Int)) then (rec (w64 (x5 + (1 : Int))) (w64 (x6 + (1 : Int)))) else (rec x5 (w64 (x6 + (1 : Int))))) else none) else none) else (X0 x5))
def laws_FnPrograms.l16 {R : Type} (k : Nat) (x3 : Int) (xl0 : List Int) (xl1 : List T_impl_Op) (xl2 : List Int) (xl3 : List T_impl_Flow) (xl4 : List T_impl_Sent) (X0 : Int → Option R) : Nat → Int → Int → Option R
  | 0 => fun _ _ => none
  | n + 1 => laws_FnPrograms.L16 k x3 xl0 xl1 xl2 xl3 xl4 X0 (laws_FnPrograms.l16 k x3 xl0 xl1 xl2 xl3 xl4 X0 n)
def laws_FnPrograms.L22 {R : Type} (k : Nat) (x3 : Int) (x5 : Int) (xl0 : List Int) (xl1 : List T_impl_Op) (xl2 : List Int) (xl3 : List T_impl_Flow) (xl4 : List T_impl_Sent) (xl5 : List Int) (X0 : Bool → Option R) (X1 : Unit → Option R) (rec : Int → Option R) (x7 : Int) : Option R :=
  (bif decide (x7 < (xl5.length : Int)) then (bif decide (0 ≤ x7) then (bif decide (x7 < (xl5.length : Int)) then (impl_IsLabel.f k (rd_i64 xl5 x7)).bind fun t13 => (bif !t13 then (X0 false) else (rec (w64 (x7 + (1 : Int))))) else none) else none) else (X1 ()))
def laws_FnPrograms.l22 {R : Type} (k : Nat) (x3 : Int) (x5 : Int) (xl0 : List Int) (xl1 : List T_impl_Op) (xl2 : List Int) (xl3 : List T_impl_Flow) (xl4 : List T_impl_Sent) (xl5 : List Int) (X0 : Bool → Option R) (X1 : Unit → Option R) : Nat → Int → Option R
  | 0 => fun _ => none
  | n + 1 => laws_FnPrograms.L22 k x3 x5 xl0 xl1 xl2 xl3 xl4 xl5 X0 X1 (laws_FnPrograms.l22 k x3 x5 xl0 xl1 xl2 xl3 xl4 xl5 X0 X1 n)
def laws_FnPrograms.f (k : Nat) (a0 : List Int) : Option Bool :=
  (laws_big.f k a0).bind fun t1 => (bif t1 then some true else (spec_DrawRunOps.f k a0).bind fun t2 => (impl_RunOps.f k t2.2.1 t2.2.2.1 t2.2.2.2 t2.1).bind fun t3 => (impl_AreOps.f k t2.2.1).bind fun t4 => (spec_AreOps.f k t2.2.1).bind fun t5 => (bif !(t4 == t5) then some false else (impl_AreOps.f k t2.2.1).bind fun t6 => (bif !t6 then (bif ((t3.length : Int) == (0 : Int)) then (impl_LabelsAfter.f k t2.2.1).bind fun t7 => (bif ((t7.length : Int) == (0 : Int)) then (impl_NeedsFlows.f k t2.2.1 t2.1).bind fun t8 => some ((t8.length : Int) == (0 : Int)) else some false) else some false) else (laws_FnPrograms.l10 k t2.1 a0 t2.2.1 t2.2.2.1 t2.2.2.2 t3 (fun (y10 : Bool) => some y10) (fun (_ : Unit) => (laws_FnPrograms.l16 k t2.1 a0 t2.2.1 t2.2.2.1 t2.2.2.2 t3 (fun (y11 : Int) => (impl_LabelsAfter.f k t2.2.1).bind fun t12 => (laws_FnPrograms.l22 k t2.1 y11 a0 t2.2.1 t2.2.2.1 t2.2.2.2 t3 t12 (fun (y14 : Bool) => some y14) (fun (_ : Unit) => (impl_NeedsFlows.f k t2.2.1 t2.1).bind fun t15 => (bif decide ((t3.length : Int) ≤ y11) then (impl_RunOps.f k t2.2.1 t2.2.2.1 t15 t2.1).bind fun t16 => (bif ((t16.length : Int) == y11) then (bif ((t12.length : Int) == (6 : Int)) then (impl_RunOps.f k t2.2.1 t2.2.2.1 t2.2.2.2 t2.1).bind fun t17 => (impl_EqualSent.f k t3 t17).bind fun t18 => some t18 else some false) else some false) else some false)) k (0 : Int))) k (0 : Int) (0 : Int))) k (0 : Int)))))
def laws_FnPrograms.h10 (k : Nat) {R : Type} (K : Ex → St κ → Option R) (vs : List AV) (bs : List (Blk κ)) : Option R :=
  match vs, bs with
  | [.v (.sl 1), .v (.sl 2), .v (.sl 3), .v (.int .i64 x3), .v (.sl 4), .v (.int .i64 x5)], [qb0, qb1, qb2, qb3, qb4] => (asO 0 false qb0).bind fun xl0 => (asO 1 true qb1).bind fun xl1 => (asO 2 true qb2).bind fun xl2 => (asO 3 true qb3).bind fun xl3 => (asO 4 true qb4).bind fun xl4 => laws_FnPrograms.l10 k x3 xl0 xl1 xl2 xl3 xl4 (fun (z0 : Bool) => K .ret (stOf [(2, []), (3, [some 1]), (4, [some 2]), (5, [some 3]), (6, []), (7, [some 4])] [.v (.bool z0), .v (.sl 1), .v (.sl 2), .v (.sl 3), .v (.int .i64 x3), .v (.sl 4)] [.rows 0 false xl0, .rows 1 true xl1, .rows 2 true xl2, .rows 3 true xl3, .rows 4 true xl4])) (fun (_ : Unit) => K (.exit 0) (stOf [(2, []), (3, [some 1]), (4, [some 2]), (5, [some 3]), (6, []), (7, [some 4])] [.v .any, .v (.sl 1), .v (.sl 2), .v (.sl 3), .v (.int .i64 x3), .v (.sl 4)] [.rows 0 false xl0, .rows 1 true xl1, .rows 2 true xl2, .rows 3 true xl3, .rows 4 true xl4])) k x5
  | _, _ => none
def laws_FnPrograms.h16 (k : Nat) {R : Type} (K : Ex → St κ → Option R) (vs : List AV) (bs : List (Blk κ)) : Option R :=
  match vs, bs with
  | [.v (.sl 1), .v (.sl 2), .v (.sl 3), .v (.int .i64 x3), .v (.sl 4), .v (.int .i64 x5), .v (.int .i64 x6)], [qb0, qb1, qb2, qb3, qb4] => (asO 0 false qb0).bind fun xl0 => (asO 1 true qb1).bind fun xl1 => (asO 2 true qb2).bind fun xl2 => (asO 3 true qb3).bind fun xl3 => (asO 4 true qb4).bind fun xl4 => laws_FnPrograms.l16 k x3 xl0 xl1 xl2 xl3 xl4 (fun (z5 : Int) => K (.exit 2) (stOf [(3, [some 1]), (4, [some 2]), (5, [some 3]), (6, []), (7, [some 4]), (9, [])] [.v (.sl 1), .v (.sl 2), .v (.sl 3), .v (.int .i64 x3), .v (.sl 4), .v (.int .i64 z5)] [.rows 0 false xl0, .rows 1 true xl1, .rows 2 true xl2, .rows 3 true xl3, .rows 4 true xl4])) k x5 x6
  | _, _ => none
def laws_FnPrograms.h22 (k : Nat) {R : Type} (K : Ex → St κ → Option R) (vs : List AV) (bs : List (Blk κ)) : Option R :=
  match vs, bs with
  | [.v (.sl 1), .v (.sl 2), .v (.sl 3), .v (.int .i64 x3), .v (.sl 4), .v (.int .i64 x5), .v (.sl 5), .v (.int .i64 x7)], [qb0, qb1, qb2, qb3, qb4, qb5] => (asO 0 false qb0).bind fun xl0 => (asO 1 true qb1).bind fun xl1 => (asO 2 true qb2).bind fun xl2 => (asO 3 true qb3).bind fun xl3 => (asO 4 true qb4).bind fun xl4 => (asO 2 true qb5).bind fun xl5 => laws_FnPrograms.l22 k x3 x5 xl0 xl1 xl2 xl3 xl4 xl5 (fun (z0 : Bool) => K .ret (stOf [(2, []), (3, [some 1]), (4, [some 2]), (5, [some 3]), (6, []), (7, [some 4]), (9, []), (11, [some 2])] [.v (.bool z0), .v (.sl 1), .v (.sl 2), .v (.sl 3), .v (.int .i64 x3), .v (.sl 4), .v (.int .i64 x5), .v (.sl 5)] [.rows 0 false xl0, .rows 1 true xl1, .rows 2 true xl2, .rows 3 true xl3, .rows 4 true xl4, .rows 2 true xl5])) (fun (_ : Unit) => K (.exit 4) (stOf [(2, []), (3, [some 1]), (4, [some 2]), (5, [some 3]), (6, []), (7, [some 4]), (9, []), (11, [some 2])] [.v .any, .v (.sl 1), .v (.sl 2), .v (.sl 3), .v (.int .i64 x3), .v (.sl 4), .v (.int .i64 x5), .v (.sl 5)] [.rows 0 false xl0, .rows 1 true xl1, .rows 2 true xl2, .rows 3 true xl3, .rows 4 true xl4, .rows 2 true xl5])) k x7
  | _, _ => none
def laws_FnPrograms.Γ (k : Nat) : Ct κ := assoc [(20, laws_big.C k), (21, spec_DrawRunOps.C k), (22, impl_RunOps.C k), (23, impl_AreOps.C k), (24, spec_AreOps.C k), (14, impl_LabelsAfter.C k), (25, impl_NeedsFlows.C k), (26, impl_MayFlow.C k), (27, impl_IsLabel.C k), (28, impl_EqualSent.C k)]
def laws_FnPrograms.LH (k : Nat) : Nat → Option (LHi κ) := assoc [(10, ⟨1, [(3, [some 1]), (4, [some 2]), (5, [some 3]), (6, []), (7, [some 4]), (8, [])], [(2, []), (3, [some 1]), (4, [some 2]), (5, [some 3]), (6, []), (7, [some 4])], @laws_FnPrograms.h10 k⟩), (16, ⟨1, [(3, [some 1]), (4, [some 2]), (5, [some 3]), (6, []), (7, [some 4]), (9, []), (10, [])], [(3, [some 1]), (4, [some 2]), (5, [some 3]), (6, []), (7, [some 4]), (9, [])], @laws_FnPrograms.h16 k⟩), (22, ⟨1, [(3, [some 1]), (4, [some 2]), (5, [some 3]), (6, []), (7, [some 4]), (9, []), (11, [some 2]), (12, [])], [(2, []), (3, [some 1]), (4, [some 2]), (5, [some 3]), (6, []), (7, [some 4]), (9, []), (11, [some 2])], @laws_FnPrograms.h22 k⟩)]
theorem laws_FnPrograms.hΓ (k : Nat) : ∀ f g, laws_FnPrograms.Γ k f = some g → CSound Try.prog f g := G_cons (laws_big.ok k) (G_cons (spec_DrawRunOps.ok k) (G_cons (impl_RunOps.ok k) (G_cons (impl_AreOps.ok k) (G_cons (spec_AreOps.ok k) (G_cons (impl_LabelsAfter.ok k) (G_cons (impl_NeedsFlows.ok k) (G_cons (impl_MayFlow.ok k) (G_cons (impl_IsLabel.ok k) (G_cons (impl_EqualSent.ok k) G_nil)))))))))
theorem laws_FnPrograms.e10 {R : Type} (K : Ex → St κ → Option R) (k : Nat) (x3 : Int) (xl0 : List Int) (xl1 : List T_impl_Op) (xl2 : List Int) (xl3 : List T_impl_Flow) (xl4 : List T_impl_Sent) : ∀ (n : Nat) (x5 : Int), loopN 1 (Code.den ti (laws_FnPrograms.Γ k) (laws_FnPrograms.LH k) (loopAt Try.f4 0)) [(3, [some 1]), (4, [some 2]), (5, [some 3]), (6, []), (7, [some 4]), (8, [])] [(2, []), (3, [some 1]), (4, [some 2]), (5, [some 3]), (6, []), (7, [some 4])] K n [.v (.sl 1), .v (.sl 2), .v (.sl 3), .v (.int .i64 x3), .v (.sl 4), .v (.int .i64 x5)] [.rows 0 false xl0, .rows 1 true xl1, .rows 2 true xl2, .rows 3 true xl3, .rows 4 true xl4] = laws_FnPrograms.l10 k x3 xl0 xl1 xl2 xl3 xl4 (fun (z0 : Bool) => K .ret (stOf [(2, []), (3, [some 1]), (4, [some 2]), (5, [some 3]), (6, []), (7, [some 4])] [.v (.bool z0), .v (.sl 1), .v (.sl 2), .v (.sl 3), .v (.int .i64 x3), .v (.sl 4)] [.rows 0 false xl0, .rows 1 true xl1, .rows 2 true xl2, .rows 3 true xl3, .rows 4 true xl4])) (fun (_ : Unit) => K (.exit 0) (stOf [(2, []), (3, [some 1]), (4, [some 2]), (5, [some 3]), (6, []), (7, [some 4])] [.v .any, .v (.sl 1), .v (.sl 2), .v (.sl 3), .v (.int .i64 x3), .v (.sl 4)] [.rows 0 false xl0, .rows 1 true xl1, .rows 2 true xl2, .rows 3 true xl3, .rows 4 true xl4])) n x5
  | 0, _ => rfl
  | n + 1, x5 => (show loopN 1 (Code.den ti (laws_FnPrograms.Γ k) (laws_FnPrograms.LH k) (loopAt Try.f4 0)) [(3, [some 1]), (4, [some 2]), (5, [some 3]), (6, []), (7, [some 4]), (8, [])] [(2, []), (3, [some 1]), (4, [some 2]), (5, [some 3]), (6, []), (7, [some 4])] K (n + 1) [.v (.sl 1), .v (.sl 2), .v (.sl 3), .v (.int .i64 x3), .v (.sl 4), .v (.int .i64 x5)] [.rows 0 false xl0, .rows 1 true xl1, .rows 2 true xl2, .rows 3 true xl3, .rows 4 true xl4] = laws_FnPrograms.L10 k x3 xl0 xl1 xl2 xl3 xl4 (fun (z0 : Bool) => K .ret (stOf [(2, []), (3, [some 1]), (4, [some 2]), (5, [some 3]), (6, []), (7, [some 4])] [.v (.bool z0), .v (.sl 1), .v (.sl 2), .v (.sl 3), .v (.int .i64 x3), .v (.sl 4)] [.rows 0 false xl0, .rows 1 true xl1, .rows 2 true xl2, .rows 3 true xl3, .rows 4 true xl4])) (fun (_ : Unit) => K (.exit 0) (stOf [(2, []), (3, [some 1]), (4, [some 2]), (5, [some 3]), (6, []), (7, [some 4])] [.v .any, .v (.sl 1), .v (.sl 2), .v (.sl 3), .v (.int .i64 x3), .v (.sl 4)] [.rows 0 false xl0, .rows 1 true xl1, .rows 2 true xl2, .rows 3 true xl3, .rows 4 true xl4])) (fun (x5' : Int) => loopN 1 (Code.den ti (laws_FnPrograms.Γ k) (laws_FnPrograms.LH k) (loopAt Try.f4 0)) [(3, [some 1]), (4, [some 2]), (5, [some 3]), (6, []), (7, [some 4]), (8, [])] [(2, []), (3, [some 1]), (4, [some 2]), (5, [some 3]), (6, []), (7, [some 4])] K n [.v (.sl 1), .v (.sl 2), .v (.sl 3), .v (.int .i64 x3), .v (.sl 4), .v (.int .i64 x5')] [.rows 0 false xl0, .rows 1 true xl1, .rows 2 true xl2, .rows 3 true xl3, .rows 4 true xl4]) x5 by kernel_rfl).trans (congrArg (fun rec => laws_FnPrograms.L10 k x3 xl0 xl1 xl2 xl3 xl4 (fun (z0 : Bool) => K .ret (stOf [(2, []), (3, [some 1]), (4, [some 2]), (5, [some 3]), (6, []), (7, [some 4])] [.v (.bool z0), .v (.sl 1), .v (.sl 2), .v (.sl 3), .v (.int .i64 x3), .v (.sl 4)] [.rows 0 false xl0, .rows 1 true xl1, .rows 2 true xl2, .rows 3 true xl3, .rows 4 true xl4])) (fun (_ : Unit) => K (.exit 0) (stOf [(2, []), (3, [some 1]), (4, [some 2]), (5, [some 3]), (6, []), (7, [some 4])] [.v .any, .v (.sl 1), .v (.sl 2), .v (.sl 3), .v (.int .i64 x3), .v (.sl 4)] [.rows 0 false xl0, .rows 1 true xl1, .rows 2 true xl2, .rows 3 true xl3, .rows 4 true xl4])) rec x5) (funext fun x5' => laws_FnPrograms.e10 K k x3 xl0 xl1 xl2 xl3 xl4 n x5'))
theorem laws_FnPrograms.q10 (k : Nat) {R : Type} (K : Ex → St κ → Option R) (vs : List AV) (bs : List (Blk κ)) (r : R) (h : laws_FnPrograms.h10 k K vs bs = some r) : ∃ n, loopN 1 (Code.den ti (laws_FnPrograms.Γ k) (laws_FnPrograms.LH k) (loopAt Try.f4 0)) [(3, [some 1]), (4, [some 2]), (5, [some 3]), (6, []), (7, [some 4]), (8, [])] [(2, []), (3, [some 1]), (4, [some 2]), (5, [some 3]), (6, []), (7, [some 4])] K n vs bs = some r := by
  unfold laws_FnPrograms.h10 at h
  split at h
  · obtain ⟨_, rfl, h_1⟩ := asO_bind h
    obtain ⟨_, rfl, h_2⟩ := asO_bind h_1
    obtain ⟨_, rfl, h_3⟩ := asO_bind h_2
    obtain ⟨_, rfl, h_4⟩ := asO_bind h_3
    obtain ⟨_, rfl, h_5⟩ := asO_bind h_4
    exact ⟨k, (laws_FnPrograms.e10 K k _ _ _ _ _ _ k _).trans h_5⟩
  · cases h
theorem laws_FnPrograms.e16 {R : Type} (K : Ex → St κ → Option R) (k : Nat) (x3 : Int) (xl0 : List Int) (xl1 : List T_impl_Op) (xl2 : List Int) (xl3 : List T_impl_Flow) (xl4 : List T_impl_Sent) : ∀ (n : Nat) (x5 : Int) (x6 : Int), loopN 1 (Code.den ti (laws_FnPrograms.Γ k) (laws_FnPrograms.LH k) (loopAt Try.f4 1)) [(3, [some 1]), (4, [some 2]), (5, [some 3]), (6, []), (7, [some 4]), (9, []), (10, [])] [(3, [some 1]), (4, [some 2]), (5, [some 3]), (6, []), (7, [some 4]), (9, [])] K n [.v (.sl 1), .v (.sl 2), .v (.sl 3), .v (.int .i64 x3), .v (.sl 4), .v (.int .i64 x5), .v (.int .i64 x6)] [.rows 0 false xl0, .rows 1 true xl1, .rows 2 true xl2, .rows 3 true xl3, .rows 4 true xl4] = laws_FnPrograms.l16 k x3 xl0 xl1 xl2 xl3 xl4 (fun (z5 : Int) => K (.exit 2) (stOf [(3, [some 1]), (4, [some 2]), (5, [some 3]), (6, []), (7, [some 4]), (9, [])] [.v (.sl 1), .v (.sl 2), .v (.sl 3), .v (.int .i64 x3), .v (.sl 4), .v (.int .i64 z5)] [.rows 0 false xl0, .rows 1 true xl1, .rows 2 true xl2, .rows 3 true xl3, .rows 4 true xl4])) n x5 x6
  | 0, _, _ => rfl
  | n + 1, x5, x6 => (show loopN 1 (Code.den ti (laws_FnPrograms.Γ k) (laws_FnPrograms.LH k) (loopAt Try.f4 1)) [(3, [some 1]), (4, [some 2]), (5, [some 3]), (6, []), (7, [some 4]), (9, []), (10, [])] [(3, [some 1]), (4, [some 2]), (5, [some 3]), (6, []), (7, [some 4]), (9, [])] K (n + 1) [.v (.sl 1), .v (.sl 2), .v (.sl 3), .v (.int .i64 x3), .v (.sl 4), .v (.int .i64 x5), .v (.int .i64 x6)] [.rows 0 false xl0, .rows 1 true xl1, .rows 2 true xl2, .rows 3 true xl3, .rows 4 true xl4] = laws_FnPrograms.L16 k x3 xl0 xl1 xl2 xl3 xl4 (fun (z5 : Int) => K (.exit 2) (stOf [(3, [some 1]), (4, [some 2]), (5, [some 3]), (6, []), (7, [some 4]), (9, [])] [.v (.sl 1), .v (.sl 2), .v (.sl 3), .v (.int .i64 x3), .v (.sl 4), .v (.int .i64 z5)] [.rows 0 false xl0, .rows 1 true xl1, .rows 2 true xl2, .rows 3 true xl3, .rows 4 true xl4])) (fun (x5' : Int) (x6' : Int) => loopN 1 (Code.den ti (laws_FnPrograms.Γ k) (laws_FnPrograms.LH k) (loopAt Try.f4 1)) [(3, [some 1]), (4, [some 2]), (5, [some 3]), (6, []), (7, [some 4]), (9, []), (10, [])] [(3, [some 1]), (4, [some 2]), (5, [some 3]), (6, []), (7, [some 4]), (9, [])] K n [.v (.sl 1), .v (.sl 2), .v (.sl 3), .v (.int .i64 x3), .v (.sl 4), .v (.int .i64 x5'), .v (.int .i64 x6')] [.rows 0 false xl0, .rows 1 true xl1, .rows 2 true xl2, .rows 3 true xl3, .rows 4 true xl4]) x5 x6 by kernel_rfl).trans (congrArg (fun rec => laws_FnPrograms.L16 k x3 xl0 xl1 xl2 xl3 xl4 (fun (z5 : Int) => K (.exit 2) (stOf [(3, [some 1]), (4, [some 2]), (5, [some 3]), (6, []), (7, [some 4]), (9, [])] [.v (.sl 1), .v (.sl 2), .v (.sl 3), .v (.int .i64 x3), .v (.sl 4), .v (.int .i64 z5)] [.rows 0 false xl0, .rows 1 true xl1, .rows 2 true xl2, .rows 3 true xl3, .rows 4 true xl4])) rec x5 x6) (funext fun x5' => funext fun x6' => laws_FnPrograms.e16 K k x3 xl0 xl1 xl2 xl3 xl4 n x5' x6'))
theorem laws_FnPrograms.q16 (k : Nat) {R : Type} (K : Ex → St κ → Option R) (vs : List AV) (bs : List (Blk κ)) (r : R) (h : laws_FnPrograms.h16 k K vs bs = some r) : ∃ n, loopN 1 (Code.den ti (laws_FnPrograms.Γ k) (laws_FnPrograms.LH k) (loopAt Try.f4 1)) [(3, [some 1]), (4, [some 2]), (5, [some 3]), (6, []), (7, [some 4]), (9, []), (10, [])] [(3, [some 1]), (4, [some 2]), (5, [some 3]), (6, []), (7, [some 4]), (9, [])] K n vs bs = some r := by
  unfold laws_FnPrograms.h16 at h
  split at h
  · obtain ⟨_, rfl, h_1⟩ := asO_bind h
    obtain ⟨_, rfl, h_2⟩ := asO_bind h_1
    obtain ⟨_, rfl, h_3⟩ := asO_bind h_2
    obtain ⟨_, rfl, h_4⟩ := asO_bind h_3
    obtain ⟨_, rfl, h_5⟩ := asO_bind h_4
    exact ⟨k, (laws_FnPrograms.e16 K k _ _ _ _ _ _ k _ _).trans h_5⟩
  · cases h
theorem laws_FnPrograms.e22 {R : Type} (K : Ex → St κ → Option R) (k : Nat) (x3 : Int) (x5 : Int) (xl0 : List Int) (xl1 : List T_impl_Op) (xl2 : List Int) (xl3 : List T_impl_Flow) (xl4 : List T_impl_Sent) (xl5 : List Int) : ∀ (n : Nat) (x7 : Int), loopN 1 (Code.den ti (laws_FnPrograms.Γ k) (laws_FnPrograms.LH k) (loopAt Try.f4 2)) [(3, [some 1]), (4, [some 2]), (5, [some 3]), (6, []), (7, [some 4]), (9, []), (11, [some 2]), (12, [])] [(2, []), (3, [some 1]), (4, [some 2]), (5, [some 3]), (6, []), (7, [some 4]), (9, []), (11, [some 2])] K n [.v (.sl 1), .v (.sl 2), .v (.sl 3), .v (.int .i64 x3), .v (.sl 4), .v (.int .i64 x5), .v (.sl 5), .v (.int .i64 x7)] [.rows 0 false xl0, .rows 1 true xl1, .rows 2 true xl2, .rows 3 true xl3, .rows 4 true xl4, .rows 2 true xl5] = laws_FnPrograms.l22 k x3 x5 xl0 xl1 xl2 xl3 xl4 xl5 (fun (z0 : Bool) => K .ret (stOf [(2, []), (3, [some 1]), (4, [some 2]), (5, [some 3]), (6, []), (7, [some 4]), (9, []), (11, [some 2])] [.v (.bool z0), .v (.sl 1), .v (.sl 2), .v (.sl 3), .v (.int .i64 x3), .v (.sl 4), .v (.int .i64 x5), .v (.sl 5)] [.rows 0 false xl0, .rows 1 true xl1, .rows 2 true xl2, .rows 3 true xl3, .rows 4 true xl4, .rows 2 true xl5])) (fun (_ : Unit) => K (.exit 4) (stOf [(2, []), (3, [some 1]), (4, [some 2]), (5, [some 3]), (6, []), (7, [some 4]), (9, []), (11, [some 2])] [.v .any, .v (.sl 1), .v (.sl 2), .v (.sl 3), .v (.int .i64 x3), .v (.sl 4), .v (.int .i64 x5), .v (.sl 5)] [.rows 0 false xl0, .rows 1 true xl1, .rows 2 true xl2, .rows 3 true xl3, .rows 4 true xl4, .rows 2 true xl5])) n x7
  | 0, _ => rfl
  | n + 1, x7 => (show loopN 1 (Code.den ti (laws_FnPrograms.Γ k) (laws_FnPrograms.LH k) (loopAt Try.f4 2)) [(3, [some 1]), (4, [some 2]), (5, [some 3]), (6, []), (7, [some 4]), (9, []), (11, [some 2]), (12, [])] [(2, []), (3, [some 1]), (4, [some 2]), (5, [some 3]), (6, []), (7, [some 4]), (9, []), (11, [some 2])] K (n + 1) [.v (.sl 1), .v (.sl 2), .v (.sl 3), .v (.int .i64 x3), .v (.sl 4), .v (.int .i64 x5), .v (.sl 5), .v (.int .i64 x7)] [.rows 0 false xl0, .rows 1 true xl1, .rows 2 true xl2, .rows 3 true xl3, .rows 4 true xl4, .rows 2 true xl5] = laws_FnPrograms.L22 k x3 x5 xl0 xl1 xl2 xl3 xl4 xl5 (fun (z0 : Bool) => K .ret (stOf [(2, []), (3, [some 1]), (4, [some 2]), (5, [some 3]), (6, []), (7, [some 4]), (9, []), (11, [some 2])] [.v (.bool z0), .v (.sl 1), .v (.sl 2), .v (.sl 3), .v (.int .i64 x3), .v (.sl 4), .v (.int .i64 x5), .v (.sl 5)] [.rows 0 false xl0, .rows 1 true xl1, .rows 2 true xl2, .rows 3 true xl3, .rows 4 true xl4, .rows 2 true xl5])) (fun (_ : Unit) => K (.exit 4) (stOf [(2, []), (3, [some 1]), (4, [some 2]), (5, [some 3]), (6, []), (7, [some 4]), (9, []), (11, [some 2])] [.v .any, .v (.sl 1), .v (.sl 2), .v (.sl 3), .v (.int .i64 x3), .v (.sl 4), .v (.int .i64 x5), .v (.sl 5)] [.rows 0 false xl0, .rows 1 true xl1, .rows 2 true xl2, .rows 3 true xl3, .rows 4 true xl4, .rows 2 true xl5])) (fun (x7' : Int) => loopN 1 (Code.den ti (laws_FnPrograms.Γ k) (laws_FnPrograms.LH k) (loopAt Try.f4 2)) [(3, [some 1]), (4, [some 2]), (5, [some 3]), (6, []), (7, [some 4]), (9, []), (11, [some 2]), (12, [])] [(2, []), (3, [some 1]), (4, [some 2]), (5, [some 3]), (6, []), (7, [some 4]), (9, []), (11, [some 2])] K n [.v (.sl 1), .v (.sl 2), .v (.sl 3), .v (.int .i64 x3), .v (.sl 4), .v (.int .i64 x5), .v (.sl 5), .v (.int .i64 x7')] [.rows 0 false xl0, .rows 1 true xl1, .rows 2 true xl2, .rows 3 true xl3, .rows 4 true xl4, .rows 2 true xl5]) x7 by kernel_rfl).trans (congrArg (fun rec => laws_FnPrograms.L22 k x3 x5 xl0 xl1 xl2 xl3 xl4 xl5 (fun (z0 : Bool) => K .ret (stOf [(2, []), (3, [some 1]), (4, [some 2]), (5, [some 3]), (6, []), (7, [some 4]), (9, []), (11, [some 2])] [.v (.bool z0), .v (.sl 1), .v (.sl 2), .v (.sl 3), .v (.int .i64 x3), .v (.sl 4), .v (.int .i64 x5), .v (.sl 5)] [.rows 0 false xl0, .rows 1 true xl1, .rows 2 true xl2, .rows 3 true xl3, .rows 4 true xl4, .rows 2 true xl5])) (fun (_ : Unit) => K (.exit 4) (stOf [(2, []), (3, [some 1]), (4, [some 2]), (5, [some 3]), (6, []), (7, [some 4]), (9, []), (11, [some 2])] [.v .any, .v (.sl 1), .v (.sl 2), .v (.sl 3), .v (.int .i64 x3), .v (.sl 4), .v (.int .i64 x5), .v (.sl 5)] [.rows 0 false xl0, .rows 1 true xl1, .rows 2 true xl2, .rows 3 true xl3, .rows 4 true xl4, .rows 2 true xl5])) rec x7) (funext fun x7' => laws_FnPrograms.e22 K k x3 x5 xl0 xl1 xl2 xl3 xl4 xl5 n x7'))
theorem laws_FnPrograms.q22 (k : Nat) {R : Type} (K : Ex → St κ → Option R) (vs : List AV) (bs : List (Blk κ)) (r : R) (h : laws_FnPrograms.h22 k K vs bs = some r) : ∃ n, loopN 1 (Code.den ti (laws_FnPrograms.Γ k) (laws_FnPrograms.LH k) (loopAt Try.f4 2)) [(3, [some 1]), (4, [some 2]), (5, [some 3]), (6, []), (7, [some 4]), (9, []), (11, [some 2]), (12, [])] [(2, []), (3, [some 1]), (4, [some 2]), (5, [some 3]), (6, []), (7, [some 4]), (9, []), (11, [some 2])] K n vs bs = some r := by
  unfold laws_FnPrograms.h22 at h
  split at h
  · obtain ⟨_, rfl, h_1⟩ := asO_bind h
    obtain ⟨_, rfl, h_2⟩ := asO_bind h_1
    obtain ⟨_, rfl, h_3⟩ := asO_bind h_2
    obtain ⟨_, rfl, h_4⟩ := asO_bind h_3
    obtain ⟨_, rfl, h_5⟩ := asO_bind h_4
    obtain ⟨_, rfl, h_6⟩ := asO_bind h_5
    exact ⟨k, (laws_FnPrograms.e22 K k _ _ _ _ _ _ _ _ k _).trans h_6⟩
  · cases h
theorem laws_FnPrograms.lok (k : Nat) : LOK ti (laws_FnPrograms.Γ k) (laws_FnPrograms.LH k) 1 (loopsOf (bodyOf Try.f4)) :=
  (show loopsOf (bodyOf Try.f4) = [loopAt Try.f4 0, loopAt Try.f4 1, loopAt Try.f4 2] by kernel_rfl) ▸ (LOK_cons (g := ⟨1, [(3, [some 1]), (4, [some 2]), (5, [some 3]), (6, []), (7, [some 4]), (8, [])], [(2, []), (3, [some 1]), (4, [some 2]), (5, [some 3]), (6, []), (7, [some 4])], @laws_FnPrograms.h10 k⟩) (by kernel_rfl) rfl (fun K vs xs r h => laws_FnPrograms.q10 k K vs xs r h) (LOK_cons (g := ⟨1, [(3, [some 1]), (4, [some 2]), (5, [some 3]), (6, []), (7, [some 4]), (9, []), (10, [])], [(3, [some 1]), (4, [some 2]), (5, [some 3]), (6, []), (7, [some 4]), (9, [])], @laws_FnPrograms.h16 k⟩) (by kernel_rfl) rfl (fun K vs xs r h => laws_FnPrograms.q16 k K vs xs r h) (LOK_cons (g := ⟨1, [(3, [some 1]), (4, [some 2]), (5, [some 3]), (6, []), (7, [some 4]), (9, []), (11, [some 2]), (12, [])], [(2, []), (3, [some 1]), (4, [some 2]), (5, [some 3]), (6, []), (7, [some 4]), (9, []), (11, [some 2])], @laws_FnPrograms.h22 k⟩) (by kernel_rfl) rfl (fun K vs xs r h => laws_FnPrograms.q22 k K vs xs r h) (LOK_nil))))
def laws_FnPrograms.sig : List PSh := [.one (.ro 0)]
def laws_FnPrograms.g (y : Bool) : Ret κ := ⟨.v (.bool y), [], []⟩
def laws_FnPrograms.out (r : Ret κ) : Option Bool :=
  match r with
  | ⟨.v (.bool z0), [], []⟩ => some (z0)
  | _ => none
theorem laws_FnPrograms.out_ok (r : Ret κ) (y : Bool) (h : laws_FnPrograms.out r = some y) : r = laws_FnPrograms.g y := by
  unfold laws_FnPrograms.out at h
  split at h
  · obtain rfl := Option.some.inj h
    rfl
  · cases h
def laws_FnPrograms.body (k : Nat) (vs : List AV) (bs : List (Blk κ)) : Option (Lf κ) :=
  match vs, bs with
  | [.v (.sl 0)], [qb0] => (asO 0 false qb0).bind fun a0 => some ⟨Bool, laws_FnPrograms.f k a0, laws_FnPrograms.g⟩
  | _, _ => none
def laws_FnPrograms.C (k : Nat) : Nat → List AV → AP κ AV := contract laws_FnPrograms.sig (laws_FnPrograms.body k)
theorem laws_FnPrograms.den (k : Nat) (a0 : List Int) : Code.den ti (laws_FnPrograms.Γ k) (laws_FnPrograms.LH k) (bodyOf Try.f4) (finK ti Try.f4.results.toList [] (flags laws_FnPrograms.sig).length (rwI (flags laws_FnPrograms.sig) 0) laws_FnPrograms.out) ⟨envOf (([.v (.sl 0)]).zipIdx.map fun q => (q.2, q.1)), hpOf [.rows 0 false a0], (flags laws_FnPrograms.sig).length⟩ = laws_FnPrograms.f k a0 := by kernel_rfl
theorem laws_FnPrograms.ok (k : Nat) : CSound Try.prog 4 (laws_FnPrograms.C k) :=
  csound κ_ok mixed tok (laws_FnPrograms.hΓ k) (LH := laws_FnPrograms.LH k) (fn := Try.f4) (c := bodyOf Try.f4) Try.func4 rfl Try.call4 laws_FnPrograms.sig [] (laws_FnPrograms.body k) (by kernel_rfl) (laws_FnPrograms.lok k) (by decide) fun vs bs lf y hl hb hy => by
    unfold laws_FnPrograms.body at hb
    split at hb
    · obtain ⟨_, rfl, hb_1⟩ := asO_bind hb
      obtain rfl := Option.some.inj hb_1
      exact ⟨laws_FnPrograms.out, laws_FnPrograms.out_ok, (laws_FnPrograms.den k _).trans hy⟩
    · cases hb
end Go.Proofs.Ythjdecnheaifkaa.PFnPrograms
