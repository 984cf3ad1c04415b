/- What the functions that the law FnLeaks reaches come to; no conditions. -/
import Derived.Test.YthjdecnheaifkaaPFnLeaks2
set_option linter.unusedVariables false
set_option maxRecDepth 100000
namespace Go.Proofs.Ythjdecnheaifkaa.PFnLeaks
open Go Go.Eng Go.Proofs
/-! ### laws_at -/
def laws_at.f (k : Nat) (a0 : List Int) (a1 : Int) : Option Int :=
  (bif decide (a1 < (a0.length : Int)) then (bif decide (0 ≤ a1) then (bif decide (a1 < (a0.length : Int)) then some (w64 ((rd_u8 a0 a1))) else none) else none) else some ((w64 ((w64 (a1 * (31 : Int))) + (w64 ((a0.length : Int) * (7 : Int))))).tmod (256 : Int)))
def laws_at.Γ (k : Nat) : Ct κ := assoc []
def laws_at.LH (k : Nat) : Nat → Option (LHi κ) := assoc []
theorem laws_at.hΓ (k : Nat) : ∀ f g, laws_at.Γ k f = some g → CSound Try.prog f g := G_nil
theorem laws_at.lok (k : Nat) : LOK ti (laws_at.Γ k) (laws_at.LH k) 1 (loopsOf (bodyOf Try.f47)) :=
  (show loopsOf (bodyOf Try.f47) = [] by kernel_rfl) ▸ LOK_nil
def laws_at.sig : List PSh := [.one (.ro 0), .one .sc]
def laws_at.g (y : Int) : Ret κ := ⟨.v (.int .i64 y), [], []⟩
def laws_at.out (r : Ret κ) : Option Int :=
  match r with
  | ⟨.v (.int .i64 z0), [], []⟩ => some (z0)
  | _ => none
theorem laws_at.out_ok (r : Ret κ) (y : Int) (h : laws_at.out r = some y) : r = laws_at.g y := by
  unfold laws_at.out at h
  split at h
  · obtain rfl := Option.some.inj h
    rfl
  · cases h
def laws_at.body (k : Nat) (vs : List AV) (bs : List (Blk κ)) : Option (Lf κ) :=
  match vs, bs with
  | [.v (.sl 0), .v (.int .i64 a1)], [qb0] => (asO 0 false qb0).bind fun a0 => some ⟨Int, laws_at.f k a0 a1, laws_at.g⟩
  | _, _ => none
def laws_at.C (k : Nat) : Nat → List AV → AP κ AV := contract laws_at.sig (laws_at.body k)
theorem laws_at.den (k : Nat) (a0 : List Int) (a1 : Int) : Code.den ti (laws_at.Γ k) (laws_at.LH k) (bodyOf Try.f47) (finK ti Try.f47.results.toList [] (flags laws_at.sig).length (rwI (flags laws_at.sig) 0) laws_at.out) ⟨envOf (([.v (.sl 0), .v (.int .i64 a1)]).zipIdx.map fun q => (q.2, q.1)), hpOf [.rows 0 false a0], (flags laws_at.sig).length⟩ = laws_at.f k a0 a1 := by kernel_rfl
theorem laws_at.ok (k : Nat) : CSound Try.prog 47 (laws_at.C k) :=
  csound κ_ok mixed tok (laws_at.hΓ k) (LH := laws_at.LH k) (fn := Try.f47) (c := bodyOf Try.f47) Try.func47 rfl Try.call47 laws_at.sig [] (laws_at.body k) (by kernel_rfl) (laws_at.lok k) (by decide) fun vs bs lf y hl hb hy => by
    unfold laws_at.body at hb
    split at hb
    · obtain ⟨_, rfl, hb_1⟩ := asO_bind hb
      obtain rfl := Option.some.inj hb_1
      exact ⟨laws_at.out, laws_at.out_ok, (laws_at.den k _ _).trans hy⟩
    · cases hb
/-! ### impl_ChangeValue -/
def impl_ChangeValue.L3 {R : Type} (k : Nat) (x1 : Int) (x2 : Int) (x4 : Int) (xl0 : List Int) (X0 : List Int → Option R) (rec : Int → List Int → Option R) (x5 : Int) (xl1 : List Int) : Option R :=
  (bif decide (x5 < x4) then (impl_valueOf.f k xl0 (w64 (x5 + (1 : Int)))).bind fun t1 => (bif decide (0 ≤ x5) then (bif decide (x5 < (xl1.length : Int)) then (rec (w64 (x5 + (1 : Int))) (xl1.set (x5).toNat t1)) else none) else none) else (X0 xl1))
def impl_ChangeValue.l3 {R : Type} (k : Nat) (x1 : Int) (x2 : Int) (x4 : Int) (xl0 : List Int) (X0 : List Int → Option R) : Nat → Int → List Int → Option R
  | 0 => fun _ _ => none
  | n + 1 => impl_ChangeValue.L3 k x1 x2 x4 xl0 X0 (impl_ChangeValue.l3 k x1 x2 x4 xl0 X0 n)
def impl_ChangeValue.f (k : Nat) (a0 : List Int) (a1 : Int) (a2 : Int) : Option (List Int) :=
  (bif decide (0 ≤ (9 : Int)) then (bif decide (((9 : Int)).toNat * 8 ≤ cap48) then (impl_ChangeValue.l3 k a1 a2 ((List.replicate ((9 : Int)).toNat z_i64).length : Int) a0 (fun (y2 : List Int) => (impl_InRange.f k a1 (1 : Int) (9 : Int)).bind fun t3 => (bif t3 then (impl_InRange.f k a2 (0 : Int) (999 : Int)).bind fun t4 => (bif t4 then (bif decide (0 ≤ (w64 (a1 - (1 : Int)))) then (bif decide ((w64 (a1 - (1 : Int))) < (y2.length : Int)) then some (y2.set ((w64 (a1 - (1 : Int)))).toNat a2) else none) else none) else some y2) else some y2)) k (0 : Int) (List.replicate ((9 : Int)).toNat z_i64)) else none) else none)
def impl_ChangeValue.h3 (k : Nat) {R : Type} (K : Ex → St κ → Option R) (vs : List AV) (bs : List (Blk κ)) : Option R :=
  match vs, bs with
  | [.v (.sl 0), .v (.int .i64 x1), .v (.int .i64 x2), .v (.sl 1), .v (.int .i64 x4), .v (.int .i64 x5)], [qb0, qb1] => (asO 2 false qb0).bind fun xl0 => (asO 2 true qb1).bind fun xl1 => impl_ChangeValue.l3 k x1 x2 x4 xl0 (fun (zl1 : List Int) => K (.exit 0) (stOf [(1, []), (2, []), (7, [some 2])] [.v (.int .i64 x1), .v (.int .i64 x2), .v (.sl 1)] [.rows 2 false xl0, .rows 2 true zl1])) k x5 xl1
  | _, _ => none
def impl_ChangeValue.Γ (k : Nat) : Ct κ := assoc [(80, impl_valueOf.C k), (68, impl_InRange.C k)]
def impl_ChangeValue.LH (k : Nat) : Nat → Option (LHi κ) := assoc [(3, ⟨1, [(0, [some 2]), (1, []), (2, []), (7, [some 2]), (11, []), (12, [])], [(1, []), (2, []), (7, [some 2])], @impl_ChangeValue.h3 k⟩)]
theorem impl_ChangeValue.hΓ (k : Nat) : ∀ f g, impl_ChangeValue.Γ k f = some g → CSound Try.prog f g := G_cons (impl_valueOf.ok k) (G_cons (impl_InRange.ok k) G_nil)
theorem impl_ChangeValue.e3 {R : Type} (K : Ex → St κ → Option R) (k : Nat) (x1 : Int) (x2 : Int) (x4 : Int) (xl0 : List Int) : ∀ (n : Nat) (x5 : Int) (xl1 : List Int), loopN 1 (Code.den ti (impl_ChangeValue.Γ k) (impl_ChangeValue.LH k) (loopAt Try.f46 0)) [(0, [some 2]), (1, []), (2, []), (7, [some 2]), (11, []), (12, [])] [(1, []), (2, []), (7, [some 2])] K n [.v (.sl 0), .v (.int .i64 x1), .v (.int .i64 x2), .v (.sl 1), .v (.int .i64 x4), .v (.int .i64 x5)] [.rows 2 false xl0, .rows 2 true xl1] = impl_ChangeValue.l3 k x1 x2 x4 xl0 (fun (zl1 : List Int) => K (.exit 0) (stOf [(1, []), (2, []), (7, [some 2])] [.v (.int .i64 x1), .v (.int .i64 x2), .v (.sl 1)] [.rows 2 false xl0, .rows 2 true zl1])) n x5 xl1
  | 0, _, _ => rfl
  | n + 1, x5, xl1 => (show loopN 1 (Code.den ti (impl_ChangeValue.Γ k) (impl_ChangeValue.LH k) (loopAt Try.f46 0)) [(0, [some 2]), (1, []), (2, []), (7, [some 2]), (11, []), (12, [])] [(1, []), (2, []), (7, [some 2])] K (n + 1) [.v (.sl 0), .v (.int .i64 x1), .v (.int .i64 x2), .v (.sl 1), .v (.int .i64 x4), .v (.int .i64 x5)] [.rows 2 false xl0, .rows 2 true xl1] = impl_ChangeValue.L3 k x1 x2 x4 xl0 (fun (zl1 : List Int) => K (.exit 0) (stOf [(1, []), (2, []), (7, [some 2])] [.v (.int .i64 x1), .v (.int .i64 x2), .v (.sl 1)] [.rows 2 false xl0, .rows 2 true zl1])) (fun (x5' : Int) (xl1' : List Int) => loopN 1 (Code.den ti (impl_ChangeValue.Γ k) (impl_ChangeValue.LH k) (loopAt Try.f46 0)) [(0, [some 2]), (1, []), (2, []), (7, [some 2]), (11, []), (12, [])] [(1, []), (2, []), (7, [some 2])] K n [.v (.sl 0), .v (.int .i64 x1), .v (.int .i64 x2), .v (.sl 1), .v (.int .i64 x4), .v (.int .i64 x5')] [.rows 2 false xl0, .rows 2 true xl1']) x5 xl1 by kernel_rfl).trans (congrArg (fun rec => impl_ChangeValue.L3 k x1 x2 x4 xl0 (fun (zl1 : List Int) => K (.exit 0) (stOf [(1, []), (2, []), (7, [some 2])] [.v (.int .i64 x1), .v (.int .i64 x2), .v (.sl 1)] [.rows 2 false xl0, .rows 2 true zl1])) rec x5 xl1) (funext fun x5' => funext fun xl1' => impl_ChangeValue.e3 K k x1 x2 x4 xl0 n x5' xl1'))
theorem impl_ChangeValue.q3 (k : Nat) {R : Type} (K : Ex → St κ → Option R) (vs : List AV) (bs : List (Blk κ)) (r : R) (h : impl_ChangeValue.h3 k K vs bs = some r) : ∃ n, loopN 1 (Code.den ti (impl_ChangeValue.Γ k) (impl_ChangeValue.LH k) (loopAt Try.f46 0)) [(0, [some 2]), (1, []), (2, []), (7, [some 2]), (11, []), (12, [])] [(1, []), (2, []), (7, [some 2])] K n vs bs = some r := by
  unfold impl_ChangeValue.h3 at h
  split at h
  · obtain ⟨_, rfl, h_1⟩ := asO_bind h
    obtain ⟨_, rfl, h_2⟩ := asO_bind h_1
    exact ⟨k, (impl_ChangeValue.e3 K k _ _ _ _ k _ _).trans h_2⟩
  · cases h
theorem impl_ChangeValue.lok (k : Nat) : LOK ti (impl_ChangeValue.Γ k) (impl_ChangeValue.LH k) 1 (loopsOf (bodyOf Try.f46)) :=
  (show loopsOf (bodyOf Try.f46) = [loopAt Try.f46 0] by kernel_rfl) ▸ (LOK_cons (g := ⟨1, [(0, [some 2]), (1, []), (2, []), (7, [some 2]), (11, []), (12, [])], [(1, []), (2, []), (7, [some 2])], @impl_ChangeValue.h3 k⟩) (by kernel_rfl) rfl (fun K vs xs r h => impl_ChangeValue.q3 k K vs xs r h) (LOK_nil))
def impl_ChangeValue.sig : List PSh := [.one (.ro 2), .one .sc, .one .sc]
def impl_ChangeValue.g (y : List Int) : Ret κ := ⟨.v (.sl 1), [], [.rows 2 true y]⟩
def impl_ChangeValue.out (r : Ret κ) : Option (List Int) :=
  match r with
  | ⟨.v (.sl 1), [], [q0]⟩ => (asO 2 true q0).bind fun z0 => some (z0)
  | _ => none
theorem impl_ChangeValue.out_ok (r : Ret κ) (y : List Int) (h : impl_ChangeValue.out r = some y) : r = impl_ChangeValue.g y := by
  unfold impl_ChangeValue.out at h
  split at h
  · obtain ⟨_, rfl, h_1⟩ := asO_bind h
    obtain rfl := Option.some.inj h_1
    rfl
  · cases h
def impl_ChangeValue.body (k : Nat) (vs : List AV) (bs : List (Blk κ)) : Option (Lf κ) :=
  match vs, bs with
  | [.v (.sl 0), .v (.int .i64 a1), .v (.int .i64 a2)], [qb0] => (asO 2 false qb0).bind fun a0 => some ⟨List Int, impl_ChangeValue.f k a0 a1 a2, impl_ChangeValue.g⟩
  | _, _ => none
def impl_ChangeValue.C (k : Nat) : Nat → List AV → AP κ AV := contract impl_ChangeValue.sig (impl_ChangeValue.body k)
theorem impl_ChangeValue.den (k : Nat) (a0 : List Int) (a1 : Int) (a2 : Int) : Code.den ti (impl_ChangeValue.Γ k) (impl_ChangeValue.LH k) (bodyOf Try.f46) (finK ti Try.f46.results.toList [(6, [some 2])] (flags impl_ChangeValue.sig).length (rwI (flags impl_ChangeValue.sig) 0) impl_ChangeValue.out) ⟨envOf (([.v (.sl 0), .v (.int .i64 a1), .v (.int .i64 a2)]).zipIdx.map fun q => (q.2, q.1)), hpOf [.rows 2 false a0], (flags impl_ChangeValue.sig).length⟩ = impl_ChangeValue.f k a0 a1 a2 := by kernel_rfl
theorem impl_ChangeValue.ok (k : Nat) : CSound Try.prog 46 (impl_ChangeValue.C k) :=
  csound κ_ok mixed tok (impl_ChangeValue.hΓ k) (LH := impl_ChangeValue.LH k) (fn := Try.f46) (c := bodyOf Try.f46) Try.func46 rfl Try.call46 impl_ChangeValue.sig [(6, [some 2])] (impl_ChangeValue.body k) (by kernel_rfl) (impl_ChangeValue.lok k) (by decide) fun vs bs lf y hl hb hy => by
    unfold impl_ChangeValue.body at hb
    split at hb
    · obtain ⟨_, rfl, hb_1⟩ := asO_bind hb
      obtain rfl := Option.some.inj hb_1
      exact ⟨impl_ChangeValue.out, impl_ChangeValue.out_ok, (impl_ChangeValue.den k _ _ _).trans hy⟩
    · cases hb
/-! ### slices_Index_int -/
def slices_Index_int.L2 {R : Type} (k : Nat) (x1 : Int) (x2 : Int) (xl0 : List Int) (X0 : Int → Option R) (X1 : Unit → Option R) (rec : Int → Option R) (x3 : Int) : Option R :=
  (bif decide (x3 < x2) then (bif decide (0 ≤ x3) then (bif decide (x3 < (xl0.length : Int)) then (bif (x1 == (rd_i64 xl0 x3)) then (X0 x3) else (rec (w64 (x3 + (1 : Int))))) else none) else none) else (X1 ()))
def slices_Index_int.l2 {R : Type} (k : Nat) (x1 : Int) (x2 : Int) (xl0 : List Int) (X0 : Int → Option R) (X1 : Unit → Option R) : Nat → Int → Option R
  | 0 => fun _ => none
  | n + 1 => slices_Index_int.L2 k x1 x2 xl0 X0 X1 (slices_Index_int.l2 k x1 x2 xl0 X0 X1 n)
def slices_Index_int.f (k : Nat) (a0 : List Int) (a1 : Int) : Option Int :=
  (slices_Index_int.l2 k a1 (a0.length : Int) a0 (fun (y1 : Int) => some y1) (fun (_ : Unit) => some (-1 : Int)) k (0 : Int))
def slices_Index_int.h2 (k : Nat) {R : Type} (K : Ex → St κ → Option R) (vs : List AV) (bs : List (Blk κ)) : Option R :=
  match vs, bs with
  | [.v (.sl 0), .v (.int .i64 x1), .v (.int .i64 x2), .v (.int .i64 x3)], [qb0] => (asO 2 false qb0).bind fun xl0 => slices_Index_int.l2 k x1 x2 xl0 (fun (z0 : Int) => K .ret (stOf [(4, [])] [.v (.int .i64 z0)] [.rows 2 false xl0])) (fun (_ : Unit) => K (.exit 0) (stOf [(4, [])] [.v .any] [.rows 2 false xl0])) k x3
  | _, _ => none
def slices_Index_int.Γ (k : Nat) : Ct κ := assoc []
def slices_Index_int.LH (k : Nat) : Nat → Option (LHi κ) := assoc [(2, ⟨1, [(0, [some 2]), (1, []), (7, []), (8, [])], [(4, [])], @slices_Index_int.h2 k⟩)]
theorem slices_Index_int.hΓ (k : Nat) : ∀ f g, slices_Index_int.Γ k f = some g → CSound Try.prog f g := G_nil
theorem slices_Index_int.e2 {R : Type} (K : Ex → St κ → Option R) (k : Nat) (x1 : Int) (x2 : Int) (xl0 : List Int) : ∀ (n : Nat) (x3 : Int), loopN 1 (Code.den ti (slices_Index_int.Γ k) (slices_Index_int.LH k) (loopAt Try.f104 0)) [(0, [some 2]), (1, []), (7, []), (8, [])] [(4, [])] K n [.v (.sl 0), .v (.int .i64 x1), .v (.int .i64 x2), .v (.int .i64 x3)] [.rows 2 false xl0] = slices_Index_int.l2 k x1 x2 xl0 (fun (z0 : Int) => K .ret (stOf [(4, [])] [.v (.int .i64 z0)] [.rows 2 false xl0])) (fun (_ : Unit) => K (.exit 0) (stOf [(4, [])] [.v .any] [.rows 2 false xl0])) n x3
  | 0, _ => rfl
  | n + 1, x3 => (show loopN 1 (Code.den ti (slices_Index_int.Γ k) (slices_Index_int.LH k) (loopAt Try.f104 0)) [(0, [some 2]), (1, []), (7, []), (8, [])] [(4, [])] K (n + 1) [.v (.sl 0), .v (.int .i64 x1), .v (.int .i64 x2), .v (.int .i64 x3)] [.rows 2 false xl0] = slices_Index_int.L2 k x1 x2 xl0 (fun (z0 : Int) => K .ret (stOf [(4, [])] [.v (.int .i64 z0)] [.rows 2 false xl0])) (fun (_ : Unit) => K (.exit 0) (stOf [(4, [])] [.v .any] [.rows 2 false xl0])) (fun (x3' : Int) => loopN 1 (Code.den ti (slices_Index_int.Γ k) (slices_Index_int.LH k) (loopAt Try.f104 0)) [(0, [some 2]), (1, []), (7, []), (8, [])] [(4, [])] K n [.v (.sl 0), .v (.int .i64 x1), .v (.int .i64 x2), .v (.int .i64 x3')] [.rows 2 false xl0]) x3 by kernel_rfl).trans (congrArg (fun rec => slices_Index_int.L2 k x1 x2 xl0 (fun (z0 : Int) => K .ret (stOf [(4, [])] [.v (.int .i64 z0)] [.rows 2 false xl0])) (fun (_ : Unit) => K (.exit 0) (stOf [(4, [])] [.v .any] [.rows 2 false xl0])) rec x3) (funext fun x3' => slices_Index_int.e2 K k x1 x2 xl0 n x3'))
theorem slices_Index_int.q2 (k : Nat) {R : Type} (K : Ex → St κ → Option R) (vs : List AV) (bs : List (Blk κ)) (r : R) (h : slices_Index_int.h2 k K vs bs = some r) : ∃ n, loopN 1 (Code.den ti (slices_Index_int.Γ k) (slices_Index_int.LH k) (loopAt Try.f104 0)) [(0, [some 2]), (1, []), (7, []), (8, [])] [(4, [])] K n vs bs = some r := by
  unfold slices_Index_int.h2 at h
  split at h
  · obtain ⟨_, rfl, h_1⟩ := asO_bind h
    exact ⟨k, (slices_Index_int.e2 K k _ _ _ k _).trans h_1⟩
  · cases h
theorem slices_Index_int.lok (k : Nat) : LOK ti (slices_Index_int.Γ k) (slices_Index_int.LH k) 1 (loopsOf (bodyOf Try.f104)) :=
  (show loopsOf (bodyOf Try.f104) = [loopAt Try.f104 0] by kernel_rfl) ▸ (LOK_cons (g := ⟨1, [(0, [some 2]), (1, []), (7, []), (8, [])], [(4, [])], @slices_Index_int.h2 k⟩) (by kernel_rfl) rfl (fun K vs xs r h => slices_Index_int.q2 k K vs xs r h) (LOK_nil))
def slices_Index_int.sig : List PSh := [.one (.ro 2), .one .sc]
def slices_Index_int.g (y : Int) : Ret κ := ⟨.v (.int .i64 y), [], []⟩
def slices_Index_int.out (r : Ret κ) : Option Int :=
  match r with
  | ⟨.v (.int .i64 z0), [], []⟩ => some (z0)
  | _ => none
theorem slices_Index_int.out_ok (r : Ret κ) (y : Int) (h : slices_Index_int.out r = some y) : r = slices_Index_int.g y := by
  unfold slices_Index_int.out at h
  split at h
  · obtain rfl := Option.some.inj h
    rfl
  · cases h
def slices_Index_int.body (k : Nat) (vs : List AV) (bs : List (Blk κ)) : Option (Lf κ) :=
  match vs, bs with
  | [.v (.sl 0), .v (.int .i64 a1)], [qb0] => (asO 2 false qb0).bind fun a0 => some ⟨Int, slices_Index_int.f k a0 a1, slices_Index_int.g⟩
  | _, _ => none
def slices_Index_int.C (k : Nat) : Nat → List AV → AP κ AV := contract slices_Index_int.sig (slices_Index_int.body k)
theorem slices_Index_int.den (k : Nat) (a0 : List Int) (a1 : Int) : Code.den ti (slices_Index_int.Γ k) (slices_Index_int.LH k) (bodyOf Try.f104) (finK ti Try.f104.results.toList [] (flags slices_Index_int.sig).length (rwI (flags slices_Index_int.sig) 0) slices_Index_int.out) ⟨envOf (([.v (.sl 0), .v (.int .i64 a1)]).zipIdx.map fun q => (q.2, q.1)), hpOf [.rows 2 false a0], (flags slices_Index_int.sig).length⟩ = slices_Index_int.f k a0 a1 := by kernel_rfl
theorem slices_Index_int.ok (k : Nat) : CSound Try.prog 104 (slices_Index_int.C k) :=
  csound κ_ok mixed tok (slices_Index_int.hΓ k) (LH := slices_Index_int.LH k) (fn := Try.f104) (c := bodyOf Try.f104) Try.func104 rfl Try.call104 slices_Index_int.sig [] (slices_Index_int.body k) (by kernel_rfl) (slices_Index_int.lok k) (by decide) fun vs bs lf y hl hb hy => by
    unfold slices_Index_int.body at hb
    split at hb
    · obtain ⟨_, rfl, hb_1⟩ := asO_bind hb
      obtain rfl := Option.some.inj hb_1
      exact ⟨slices_Index_int.out, slices_Index_int.out_ok, (slices_Index_int.den k _ _).trans hy⟩
    · cases hb
/-! ### slices_Contains_int -/
def slices_Contains_int.f (k : Nat) (a0 : List Int) (a1 : Int) : Option Bool :=
  (slices_Index_int.f k a0 a1).bind fun t1 => some (decide (t1 ≥ (0 : Int)))
def slices_Contains_int.Γ (k : Nat) : Ct κ := assoc [(104, slices_Index_int.C k)]
def slices_Contains_int.LH (k : Nat) : Nat → Option (LHi κ) := assoc []
theorem slices_Contains_int.hΓ (k : Nat) : ∀ f g, slices_Contains_int.Γ k f = some g → CSound Try.prog f g := G_cons (slices_Index_int.ok k) G_nil
theorem slices_Contains_int.lok (k : Nat) : LOK ti (slices_Contains_int.Γ k) (slices_Contains_int.LH k) 1 (loopsOf (bodyOf Try.f99)) :=
  (show loopsOf (bodyOf Try.f99) = [] by kernel_rfl) ▸ LOK_nil
def slices_Contains_int.sig : List PSh := [.one (.ro 2), .one .sc]
def slices_Contains_int.g (y : Bool) : Ret κ := ⟨.v (.bool y), [], []⟩
def slices_Contains_int.out (r : Ret κ) : Option Bool :=
  match r with
  | ⟨.v (.bool z0), [], []⟩ => some (z0)
  | _ => none
theorem slices_Contains_int.out_ok (r : Ret κ) (y : Bool) (h : slices_Contains_int.out r = some y) : r = slices_Contains_int.g y := by
  unfold slices_Contains_int.out at h
  split at h
  · obtain rfl := Option.some.inj h
    rfl
  · cases h
def slices_Contains_int.body (k : Nat) (vs : List AV) (bs : List (Blk κ)) : Option (Lf κ) :=
  match vs, bs with
  | [.v (.sl 0), .v (.int .i64 a1)], [qb0] => (asO 2 false qb0).bind fun a0 => some ⟨Bool, slices_Contains_int.f k a0 a1, slices_Contains_int.g⟩
  | _, _ => none
def slices_Contains_int.C (k : Nat) : Nat → List AV → AP κ AV := contract slices_Contains_int.sig (slices_Contains_int.body k)
theorem slices_Contains_int.den (k : Nat) (a0 : List Int) (a1 : Int) : Code.den ti (slices_Contains_int.Γ k) (slices_Contains_int.LH k) (bodyOf Try.f99) (finK ti Try.f99.results.toList [] (flags slices_Contains_int.sig).length (rwI (flags slices_Contains_int.sig) 0) slices_Contains_int.out) ⟨envOf (([.v (.sl 0), .v (.int .i64 a1)]).zipIdx.map fun q => (q.2, q.1)), hpOf [.rows 2 false a0], (flags slices_Contains_int.sig).length⟩ = slices_Contains_int.f k a0 a1 := by kernel_rfl
theorem slices_Contains_int.ok (k : Nat) : CSound Try.prog 99 (slices_Contains_int.C k) :=
  csound κ_ok mixed tok (slices_Contains_int.hΓ k) (LH := slices_Contains_int.LH k) (fn := Try.f99) (c := bodyOf Try.f99) Try.func99 rfl Try.call99 slices_Contains_int.sig [] (slices_Contains_int.body k) (by kernel_rfl) (slices_Contains_int.lok k) (by decide) fun vs bs lf y hl hb hy => by
    unfold slices_Contains_int.body at hb
    split at hb
    · obtain ⟨_, rfl, hb_1⟩ := asO_bind hb
      obtain rfl := Option.some.inj hb_1
      exact ⟨slices_Contains_int.out, slices_Contains_int.out_ok, (slices_Contains_int.den k _ _).trans hy⟩
    · cases hb
/-! ### impl_hasOwner -/
def impl_hasOwner.f (k : Nat) (a0 : Int) (a1 : Int) : Option Bool :=
  (impl_OwnersIn.f k a0).bind fun t1 => (slices_Contains_int.f k t1 a1).bind fun t2 => some t2
def impl_hasOwner.Γ (k : Nat) : Ct κ := assoc [(66, impl_OwnersIn.C k), (99, slices_Contains_int.C k)]
def impl_hasOwner.LH (k : Nat) : Nat → Option (LHi κ) := assoc []
theorem impl_hasOwner.hΓ (k : Nat) : ∀ f g, impl_hasOwner.Γ k f = some g → CSound Try.prog f g := G_cons (impl_OwnersIn.ok k) (G_cons (slices_Contains_int.ok k) G_nil)
theorem impl_hasOwner.lok (k : Nat) : LOK ti (impl_hasOwner.Γ k) (impl_hasOwner.LH k) 0 (loopsOf (bodyOf Try.f81)) :=
  (show loopsOf (bodyOf Try.f81) = [] by kernel_rfl) ▸ LOK_nil
def impl_hasOwner.sig : List PSh := [.one .sc, .one .sc]
def impl_hasOwner.g (y : Bool) : Ret κ := ⟨.v (.bool y), [], []⟩
def impl_hasOwner.out (r : Ret κ) : Option Bool :=
  match r with
  | ⟨.v (.bool z0), [], []⟩ => some (z0)
  | _ => none
theorem impl_hasOwner.out_ok (r : Ret κ) (y : Bool) (h : impl_hasOwner.out r = some y) : r = impl_hasOwner.g y := by
  unfold impl_hasOwner.out at h
  split at h
  · obtain rfl := Option.some.inj h
    rfl
  · cases h
def impl_hasOwner.body (k : Nat) (vs : List AV) (bs : List (Blk κ)) : Option (Lf κ) :=
  match vs, bs with
  | [.v (.int .i64 a0), .v (.int .i64 a1)], [] => some ⟨Bool, impl_hasOwner.f k a0 a1, impl_hasOwner.g⟩
  | _, _ => none
def impl_hasOwner.C (k : Nat) : Nat → List AV → AP κ AV := contract impl_hasOwner.sig (impl_hasOwner.body k)
theorem impl_hasOwner.den (k : Nat) (a0 : Int) (a1 : Int) : Code.den ti (impl_hasOwner.Γ k) (impl_hasOwner.LH k) (bodyOf Try.f81) (finK ti Try.f81.results.toList [] (flags impl_hasOwner.sig).length (rwI (flags impl_hasOwner.sig) 0) impl_hasOwner.out) ⟨envOf (([.v (.int .i64 a0), .v (.int .i64 a1)]).zipIdx.map fun q => (q.2, q.1)), hpOf [], (flags impl_hasOwner.sig).length⟩ = impl_hasOwner.f k a0 a1 := by kernel_rfl
theorem impl_hasOwner.ok (k : Nat) : CSound Try.prog 81 (impl_hasOwner.C k) :=
  csound κ_ok mixed tok (impl_hasOwner.hΓ k) (LH := impl_hasOwner.LH k) (fn := Try.f81) (c := bodyOf Try.f81) Try.func81 rfl Try.call81 impl_hasOwner.sig [] (impl_hasOwner.body k) (by kernel_rfl) (impl_hasOwner.lok k) (by decide) fun vs bs lf y hl hb hy => by
    unfold impl_hasOwner.body at hb
    split at hb
    · obtain rfl := Option.some.inj hb
      exact ⟨impl_hasOwner.out, impl_hasOwner.out_ok, (impl_hasOwner.den k _ _).trans hy⟩
    · cases hb
/-! ### impl_SameSent -/
def impl_SameSent.L4 {R : Type} (k : Nat) (x1 : Int) (x3 : Int) (xl0 : List T_impl_Sent) (xl1 : List T_impl_Sent) (X0 : Bool → Option R) (X1 : Unit → Option R) (rec : Int → Option R) (x4 : Int) : Option R :=
  (bif decide (x4 < x3) then (bif decide (0 ≤ x4) then (bif decide (x4 < (xl0.length : Int)) then (bif decide (0 ≤ x4) then (bif decide (x4 < (xl1.length : Int)) then (bif ((rd_impl_Sent xl0 x4).f0 != (rd_impl_Sent xl1 x4).f0) then (X0 false) else (bif ((rd_impl_Sent xl0 x4).f2 != (rd_impl_Sent xl1 x4).f2) then (X0 false) else (bif ((rd_impl_Sent xl0 x4).f1 != (rd_impl_Sent xl1 x4).f1) then (impl_hasOwner.f k ((rd_impl_Sent xl0 x4).f2) x1).bind fun t1 => (bif !t1 then (X0 false) else (rec (w64 (x4 + (1 : Int))))) else (rec (w64 (x4 + (1 : Int))))))) else none) else none) else none) else none) else (X1 ()))
def impl_SameSent.l4 {R : Type} (k : Nat) (x1 : Int) (x3 : Int) (xl0 : List T_impl_Sent) (xl1 : List T_impl_Sent) (X0 : Bool → Option R) (X1 : Unit → Option R) : Nat → Int → Option R
  | 0 => fun _ => none
  | n + 1 => impl_SameSent.L4 k x1 x3 xl0 xl1 X0 X1 (impl_SameSent.l4 k x1 x3 xl0 xl1 X0 X1 n)
def impl_SameSent.f (k : Nat) (a0 : List T_impl_Sent) (a1 : List T_impl_Sent) (a2 : Int) : Option Bool :=
  (bif ((a0.length : Int) != (a1.length : Int)) then some false else (impl_SameSent.l4 k a2 (a0.length : Int) a0 a1 (fun (y2 : Bool) => some y2) (fun (_ : Unit) => some true) k (0 : Int)))
def impl_SameSent.h4 (k : Nat) {R : Type} (K : Ex → St κ → Option R) (vs : List AV) (bs : List (Blk κ)) : Option R :=
  match vs, bs with
  | [.v (.sl 1), .v (.int .i64 x1), .v (.sl 0), .v (.int .i64 x3), .v (.int .i64 x4)], [qb0, qb1] => (asO 4 false qb0).bind fun xl0 => (asO 4 false qb1).bind fun xl1 => impl_SameSent.l4 k x1 x3 xl0 xl1 (fun (z0 : Bool) => K .ret (stOf [(6, [])] [.v (.bool z0)] [.rows 4 false xl0, .rows 4 false xl1])) (fun (_ : Unit) => K (.exit 0) (stOf [(6, [])] [.v .any] [.rows 4 false xl0, .rows 4 false xl1])) k x4
  | _, _ => none
def impl_SameSent.Γ (k : Nat) : Ct κ := assoc [(81, impl_hasOwner.C k)]
def impl_SameSent.LH (k : Nat) : Nat → Option (LHi κ) := assoc [(4, ⟨2, [(1, [some 4]), (2, []), (15, [some 4]), (16, []), (17, [])], [(6, [])], @impl_SameSent.h4 k⟩)]
theorem impl_SameSent.hΓ (k : Nat) : ∀ f g, impl_SameSent.Γ k f = some g → CSound Try.prog f g := G_cons (impl_hasOwner.ok k) G_nil
theorem impl_SameSent.e4 {R : Type} (K : Ex → St κ → Option R) (k : Nat) (x1 : Int) (x3 : Int) (xl0 : List T_impl_Sent) (xl1 : List T_impl_Sent) : ∀ (n : Nat) (x4 : Int), loopN 2 (Code.den ti (impl_SameSent.Γ k) (impl_SameSent.LH k) (loopAt Try.f48 0)) [(1, [some 4]), (2, []), (15, [some 4]), (16, []), (17, [])] [(6, [])] K n [.v (.sl 1), .v (.int .i64 x1), .v (.sl 0), .v (.int .i64 x3), .v (.int .i64 x4)] [.rows 4 false xl0, .rows 4 false xl1] = impl_SameSent.l4 k x1 x3 xl0 xl1 (fun (z0 : Bool) => K .ret (stOf [(6, [])] [.v (.bool z0)] [.rows 4 false xl0, .rows 4 false xl1])) (fun (_ : Unit) => K (.exit 0) (stOf [(6, [])] [.v .any] [.rows 4 false xl0, .rows 4 false xl1])) n x4
  | 0, _ => rfl
  | n + 1, x4 => (show loopN 2 (Code.den ti (impl_SameSent.Γ k) (impl_SameSent.LH k) (loopAt Try.f48 0)) [(1, [some 4]), (2, []), (15, [some 4]), (16, []), (17, [])] [(6, [])] K (n + 1) [.v (.sl 1), .v (.int .i64 x1), .v (.sl 0), .v (.int .i64 x3), .v (.int .i64 x4)] [.rows 4 false xl0, .rows 4 false xl1] = impl_SameSent.L4 k x1 x3 xl0 xl1 (fun (z0 : Bool) => K .ret (stOf [(6, [])] [.v (.bool z0)] [.rows 4 false xl0, .rows 4 false xl1])) (fun (_ : Unit) => K (.exit 0) (stOf [(6, [])] [.v .any] [.rows 4 false xl0, .rows 4 false xl1])) (fun (x4' : Int) => loopN 2 (Code.den ti (impl_SameSent.Γ k) (impl_SameSent.LH k) (loopAt Try.f48 0)) [(1, [some 4]), (2, []), (15, [some 4]), (16, []), (17, [])] [(6, [])] K n [.v (.sl 1), .v (.int .i64 x1), .v (.sl 0), .v (.int .i64 x3), .v (.int .i64 x4')] [.rows 4 false xl0, .rows 4 false xl1]) x4 by kernel_rfl).trans (congrArg (fun rec => impl_SameSent.L4 k x1 x3 xl0 xl1 (fun (z0 : Bool) => K .ret (stOf [(6, [])] [.v (.bool z0)] [.rows 4 false xl0, .rows 4 false xl1])) (fun (_ : Unit) => K (.exit 0) (stOf [(6, [])] [.v .any] [.rows 4 false xl0, .rows 4 false xl1])) rec x4) (funext fun x4' => impl_SameSent.e4 K k x1 x3 xl0 xl1 n x4'))
theorem impl_SameSent.q4 (k : Nat) {R : Type} (K : Ex → St κ → Option R) (vs : List AV) (bs : List (Blk κ)) (r : R) (h : impl_SameSent.h4 k K vs bs = some r) : ∃ n, loopN 2 (Code.den ti (impl_SameSent.Γ k) (impl_SameSent.LH k) (loopAt Try.f48 0)) [(1, [some 4]), (2, []), (15, [some 4]), (16, []), (17, [])] [(6, [])] K n vs bs = some r := by
  unfold impl_SameSent.h4 at h
  split at h
  · obtain ⟨_, rfl, h_1⟩ := asO_bind h
    obtain ⟨_, rfl, h_2⟩ := asO_bind h_1
    exact ⟨k, (impl_SameSent.e4 K k _ _ _ _ k _).trans h_2⟩
  · cases h
theorem impl_SameSent.lok (k : Nat) : LOK ti (impl_SameSent.Γ k) (impl_SameSent.LH k) 2 (loopsOf (bodyOf Try.f48)) :=
  (show loopsOf (bodyOf Try.f48) = [loopAt Try.f48 0] by kernel_rfl) ▸ (LOK_cons (g := ⟨2, [(1, [some 4]), (2, []), (15, [some 4]), (16, []), (17, [])], [(6, [])], @impl_SameSent.h4 k⟩) (by kernel_rfl) rfl (fun K vs xs r h => impl_SameSent.q4 k K vs xs r h) (LOK_nil))
def impl_SameSent.sig : List PSh := [.one (.ro 4), .one (.ro 4), .one .sc]
def impl_SameSent.g (y : Bool) : Ret κ := ⟨.v (.bool y), [], []⟩
def impl_SameSent.out (r : Ret κ) : Option Bool :=
  match r with
  | ⟨.v (.bool z0), [], []⟩ => some (z0)
  | _ => none
theorem impl_SameSent.out_ok (r : Ret κ) (y : Bool) (h : impl_SameSent.out r = some y) : r = impl_SameSent.g y := by
  unfold impl_SameSent.out at h
  split at h
  · obtain rfl := Option.some.inj h
    rfl
  · cases h
def impl_SameSent.body (k : Nat) (vs : List AV) (bs : List (Blk κ)) : Option (Lf κ) :=
  match vs, bs with
  | [.v (.sl 0), .v (.sl 1), .v (.int .i64 a2)], [qb0, qb1] => (asO 4 false qb0).bind fun a0 => (asO 4 false qb1).bind fun a1 => some ⟨Bool, impl_SameSent.f k a0 a1 a2, impl_SameSent.g⟩
  | _, _ => none
def impl_SameSent.C (k : Nat) : Nat → List AV → AP κ AV := contract impl_SameSent.sig (impl_SameSent.body k)
theorem impl_SameSent.den (k : Nat) (a0 : List T_impl_Sent) (a1 : List T_impl_Sent) (a2 : Int) : Code.den ti (impl_SameSent.Γ k) (impl_SameSent.LH k) (bodyOf Try.f48) (finK ti Try.f48.results.toList [] (flags impl_SameSent.sig).length (rwI (flags impl_SameSent.sig) 0) impl_SameSent.out) ⟨envOf (([.v (.sl 0), .v (.sl 1), .v (.int .i64 a2)]).zipIdx.map fun q => (q.2, q.1)), hpOf [.rows 4 false a0, .rows 4 false a1], (flags impl_SameSent.sig).length⟩ = impl_SameSent.f k a0 a1 a2 := by kernel_rfl
theorem impl_SameSent.ok (k : Nat) : CSound Try.prog 48 (impl_SameSent.C k) :=
  csound κ_ok mixed tok (impl_SameSent.hΓ k) (LH := impl_SameSent.LH k) (fn := Try.f48) (c := bodyOf Try.f48) Try.func48 rfl Try.call48 impl_SameSent.sig [] (impl_SameSent.body k) (by kernel_rfl) (impl_SameSent.lok k) (by decide) fun vs bs lf y hl hb hy => by
    unfold impl_SameSent.body at hb
    split at hb
    · obtain ⟨_, rfl, hb_1⟩ := asO_bind hb
      obtain ⟨_, rfl, hb_2⟩ := asO_bind hb_1
      obtain rfl := Option.some.inj hb_2
      exact ⟨impl_SameSent.out, impl_SameSent.out_ok, (impl_SameSent.den k _ _ _).trans hy⟩
    · cases hb
/-! ### impl_Depends -/
def impl_Depends.L2 {R : Type} (k : Nat) (x0 : Int) (x2 : Int) (xl0 : List T_impl_Op) (xl1 : List T_impl_Flow) (xl2 : List T_impl_Sent) (X0 : Bool → Option R) (X1 : Unit → Option R) (rec : Int → Option R) (x3 : Int) : Option R :=
  (bif decide (x3 < x2) then (bif decide (0 ≤ x3) then (bif decide (x3 < (xl2.length : Int)) then (impl_hasOwner.f k ((rd_impl_Sent xl2 x3).f2) x0).bind fun t2 => (bif t2 then (X0 true) else (rec (w64 (x3 + (1 : Int))))) else none) else none) else (X1 ()))
def impl_Depends.l2 {R : Type} (k : Nat) (x0 : Int) (x2 : Int) (xl0 : List T_impl_Op) (xl1 : List T_impl_Flow) (xl2 : List T_impl_Sent) (X0 : Bool → Option R) (X1 : Unit → Option R) : Nat → Int → Option R
  | 0 => fun _ => none
  | n + 1 => impl_Depends.L2 k x0 x2 xl0 xl1 xl2 X0 X1 (impl_Depends.l2 k x0 x2 xl0 xl1 xl2 X0 X1 n)
def impl_Depends.f (k : Nat) (a0 : List T_impl_Op) (a1 : List T_impl_Flow) (a2 : Int) (a3 : Int) : Option Bool :=
  (impl_RunOps.f k a0 ([] : List Int) a1 a2).bind fun t1 => (impl_Depends.l2 k a3 (t1.length : Int) a0 a1 t1 (fun (y3 : Bool) => some y3) (fun (_ : Unit) => some false) k (0 : Int))
def impl_Depends.h2 (k : Nat) {R : Type} (K : Ex → St κ → Option R) (vs : List AV) (bs : List (Blk κ)) : Option R :=
  match vs, bs with
  | [.v (.int .i64 x0), .v (.sl 2), .v (.int .i64 x2), .v (.int .i64 x3)], [qb0, qb1, qb2] => (asO 1 false qb0).bind fun xl0 => (asO 3 false qb1).bind fun xl1 => (asO 4 true qb2).bind fun xl2 => impl_Depends.l2 k x0 x2 xl0 xl1 xl2 (fun (z0 : Bool) => K .ret (stOf [(8, [])] [.v (.bool z0)] [.rows 1 false xl0, .rows 3 false xl1])) (fun (_ : Unit) => K (.exit 0) (stOf [(8, [])] [.v .any] [.rows 1 false xl0, .rows 3 false xl1])) k x3
  | _, _ => none
def impl_Depends.Γ (k : Nat) : Ct κ := assoc [(22, impl_RunOps.C k), (81, impl_hasOwner.C k)]
def impl_Depends.LH (k : Nat) : Nat → Option (LHi κ) := assoc [(2, ⟨2, [(3, []), (14, [some 4]), (15, []), (16, [])], [(8, [])], @impl_Depends.h2 k⟩)]
theorem impl_Depends.hΓ (k : Nat) : ∀ f g, impl_Depends.Γ k f = some g → CSound Try.prog f g := G_cons (impl_RunOps.ok k) (G_cons (impl_hasOwner.ok k) G_nil)
theorem impl_Depends.e2 {R : Type} (K : Ex → St κ → Option R) (k : Nat) (x0 : Int) (x2 : Int) (xl0 : List T_impl_Op) (xl1 : List T_impl_Flow) (xl2 : List T_impl_Sent) : ∀ (n : Nat) (x3 : Int), loopN 2 (Code.den ti (impl_Depends.Γ k) (impl_Depends.LH k) (loopAt Try.f49 0)) [(3, []), (14, [some 4]), (15, []), (16, [])] [(8, [])] K n [.v (.int .i64 x0), .v (.sl 2), .v (.int .i64 x2), .v (.int .i64 x3)] [.rows 1 false xl0, .rows 3 false xl1, .rows 4 true xl2] = impl_Depends.l2 k x0 x2 xl0 xl1 xl2 (fun (z0 : Bool) => K .ret (stOf [(8, [])] [.v (.bool z0)] [.rows 1 false xl0, .rows 3 false xl1])) (fun (_ : Unit) => K (.exit 0) (stOf [(8, [])] [.v .any] [.rows 1 false xl0, .rows 3 false xl1])) n x3
  | 0, _ => rfl
  | n + 1, x3 => (show loopN 2 (Code.den ti (impl_Depends.Γ k) (impl_Depends.LH k) (loopAt Try.f49 0)) [(3, []), (14, [some 4]), (15, []), (16, [])] [(8, [])] K (n + 1) [.v (.int .i64 x0), .v (.sl 2), .v (.int .i64 x2), .v (.int .i64 x3)] [.rows 1 false xl0, .rows 3 false xl1, .rows 4 true xl2] = impl_Depends.L2 k x0 x2 xl0 xl1 xl2 (fun (z0 : Bool) => K .ret (stOf [(8, [])] [.v (.bool z0)] [.rows 1 false xl0, .rows 3 false xl1])) (fun (_ : Unit) => K (.exit 0) (stOf [(8, [])] [.v .any] [.rows 1 false xl0, .rows 3 false xl1])) (fun (x3' : Int) => loopN 2 (Code.den ti (impl_Depends.Γ k) (impl_Depends.LH k) (loopAt Try.f49 0)) [(3, []), (14, [some 4]), (15, []), (16, [])] [(8, [])] K n [.v (.int .i64 x0), .v (.sl 2), .v (.int .i64 x2), .v (.int .i64 x3')] [.rows 1 false xl0, .rows 3 false xl1, .rows 4 true xl2]) x3 by kernel_rfl).trans (congrArg (fun rec => impl_Depends.L2 k x0 x2 xl0 xl1 xl2 (fun (z0 : Bool) => K .ret (stOf [(8, [])] [.v (.bool z0)] [.rows 1 false xl0, .rows 3 false xl1])) (fun (_ : Unit) => K (.exit 0) (stOf [(8, [])] [.v .any] [.rows 1 false xl0, .rows 3 false xl1])) rec x3) (funext fun x3' => impl_Depends.e2 K k x0 x2 xl0 xl1 xl2 n x3'))
theorem impl_Depends.q2 (k : Nat) {R : Type} (K : Ex → St κ → Option R) (vs : List AV) (bs : List (Blk κ)) (r : R) (h : impl_Depends.h2 k K vs bs = some r) : ∃ n, loopN 2 (Code.den ti (impl_Depends.Γ k) (impl_Depends.LH k) (loopAt Try.f49 0)) [(3, []), (14, [some 4]), (15, []), (16, [])] [(8, [])] K n vs bs = some r := by
  unfold impl_Depends.h2 at h
  split at h
  · obtain ⟨_, rfl, h_1⟩ := asO_bind h
    obtain ⟨_, rfl, h_2⟩ := asO_bind h_1
    obtain ⟨_, rfl, h_3⟩ := asO_bind h_2
    exact ⟨k, (impl_Depends.e2 K k _ _ _ _ _ k _).trans h_3⟩
  · cases h
theorem impl_Depends.lok (k : Nat) : LOK ti (impl_Depends.Γ k) (impl_Depends.LH k) 2 (loopsOf (bodyOf Try.f49)) :=
  (show loopsOf (bodyOf Try.f49) = [loopAt Try.f49 0] by kernel_rfl) ▸ (LOK_cons (g := ⟨2, [(3, []), (14, [some 4]), (15, []), (16, [])], [(8, [])], @impl_Depends.h2 k⟩) (by kernel_rfl) rfl (fun K vs xs r h => impl_Depends.q2 k K vs xs r h) (LOK_nil))
def impl_Depends.sig : List PSh := [.one (.ro 1), .one (.ro 3), .one .sc, .one .sc]
def impl_Depends.g (y : Bool) : Ret κ := ⟨.v (.bool y), [], []⟩
def impl_Depends.out (r : Ret κ) : Option Bool :=
  match r with
  | ⟨.v (.bool z0), [], []⟩ => some (z0)
  | _ => none
theorem impl_Depends.out_ok (r : Ret κ) (y : Bool) (h : impl_Depends.out r = some y) : r = impl_Depends.g y := by
  unfold impl_Depends.out at h
  split at h
  · obtain rfl := Option.some.inj h
    rfl
  · cases h
def impl_Depends.body (k : Nat) (vs : List AV) (bs : List (Blk κ)) : Option (Lf κ) :=
  match vs, bs with
  | [.v (.sl 0), .v (.sl 1), .v (.int .i64 a2), .v (.int .i64 a3)], [qb0, qb1] => (asO 1 false qb0).bind fun a0 => (asO 3 false qb1).bind fun a1 => some ⟨Bool, impl_Depends.f k a0 a1 a2 a3, impl_Depends.g⟩
  | _, _ => none
def impl_Depends.C (k : Nat) : Nat → List AV → AP κ AV := contract impl_Depends.sig (impl_Depends.body k)
theorem impl_Depends.den (k : Nat) (a0 : List T_impl_Op) (a1 : List T_impl_Flow) (a2 : Int) (a3 : Int) : Code.den ti (impl_Depends.Γ k) (impl_Depends.LH k) (bodyOf Try.f49) (finK ti Try.f49.results.toList [] (flags impl_Depends.sig).length (rwI (flags impl_Depends.sig) 0) impl_Depends.out) ⟨envOf (([.v (.sl 0), .v (.sl 1), .v (.int .i64 a2), .v (.int .i64 a3)]).zipIdx.map fun q => (q.2, q.1)), hpOf [.rows 1 false a0, .rows 3 false a1], (flags impl_Depends.sig).length⟩ = impl_Depends.f k a0 a1 a2 a3 := by kernel_rfl
theorem impl_Depends.ok (k : Nat) : CSound Try.prog 49 (impl_Depends.C k) :=
  csound κ_ok mixed tok (impl_Depends.hΓ k) (LH := impl_Depends.LH k) (fn := Try.f49) (c := bodyOf Try.f49) Try.func49 rfl Try.call49 impl_Depends.sig [] (impl_Depends.body k) (by kernel_rfl) (impl_Depends.lok k) (by decide) fun vs bs lf y hl hb hy => by
    unfold impl_Depends.body at hb
    split at hb
    · obtain ⟨_, rfl, hb_1⟩ := asO_bind hb
      obtain ⟨_, rfl, hb_2⟩ := asO_bind hb_1
      obtain rfl := Option.some.inj hb_2
      exact ⟨impl_Depends.out, impl_Depends.out_ok, (impl_Depends.den k _ _ _ _).trans hy⟩
    · cases hb
/-! ### slices_Equal_Sent -/
def slices_Equal_Sent.L4 {R : Type} (k : Nat) (x2 : Int) (xl0 : List T_impl_Sent) (xl1 : List T_impl_Sent) (X0 : Bool → Option R) (X1 : Unit → Option R) (rec : Int → Option R) (x3 : Int) : Option R :=
  (bif decide (x3 < x2) then (bif decide (0 ≤ x3) then (bif decide (x3 < (xl0.length : Int)) then (bif decide (0 ≤ x3) then (bif decide (x3 < (xl1.length : Int)) then (bif !((((rd_impl_Sent xl0 x3).f0) == ((rd_impl_Sent xl1 x3).f0)) && ((((rd_impl_Sent xl0 x3).f1) == ((rd_impl_Sent xl1 x3).f1)) && (((rd_impl_Sent xl0 x3).f2) == ((rd_impl_Sent xl1 x3).f2)))) then (X0 false) else (rec (w64 (x3 + (1 : Int))))) else none) else none) else none) else none) else (X1 ()))
def slices_Equal_Sent.l4 {R : Type} (k : Nat) (x2 : Int) (xl0 : List T_impl_Sent) (xl1 : List T_impl_Sent) (X0 : Bool → Option R) (X1 : Unit → Option R) : Nat → Int → Option R
  | 0 => fun _ => none
  | n + 1 => slices_Equal_Sent.L4 k x2 xl0 xl1 X0 X1 (slices_Equal_Sent.l4 k x2 xl0 xl1 X0 X1 n)
def slices_Equal_Sent.f (k : Nat) (a0 : List T_impl_Sent) (a1 : List T_impl_Sent) : Option Bool :=
  (bif ((a0.length : Int) != (a1.length : Int)) then some false else (slices_Equal_Sent.l4 k (a0.length : Int) a0 a1 (fun (y1 : Bool) => some y1) (fun (_ : Unit) => some true) k (0 : Int)))
def slices_Equal_Sent.h4 (k : Nat) {R : Type} (K : Ex → St κ → Option R) (vs : List AV) (bs : List (Blk κ)) : Option R :=
  match vs, bs with
  | [.v (.sl 0), .v (.sl 1), .v (.int .i64 x2), .v (.int .i64 x3)], [qb0, qb1] => (asO 4 false qb0).bind fun xl0 => (asO 4 false qb1).bind fun xl1 => slices_Equal_Sent.l4 k x2 xl0 xl1 (fun (z0 : Bool) => K .ret (stOf [(4, [])] [.v (.bool z0)] [.rows 4 false xl0, .rows 4 false xl1])) (fun (_ : Unit) => K (.exit 0) (stOf [(4, [])] [.v .any] [.rows 4 false xl0, .rows 4 false xl1])) k x3
  | _, _ => none
def slices_Equal_Sent.Γ (k : Nat) : Ct κ := assoc []
def slices_Equal_Sent.LH (k : Nat) : Nat → Option (LHi κ) := assoc [(4, ⟨2, [(0, [some 4]), (1, [some 4]), (12, []), (13, [])], [(4, [])], @slices_Equal_Sent.h4 k⟩)]
theorem slices_Equal_Sent.hΓ (k : Nat) : ∀ f g, slices_Equal_Sent.Γ k f = some g → CSound Try.prog f g := G_nil
theorem slices_Equal_Sent.e4 {R : Type} (K : Ex → St κ → Option R) (k : Nat) (x2 : Int) (xl0 : List T_impl_Sent) (xl1 : List T_impl_Sent) : ∀ (n : Nat) (x3 : Int), loopN 2 (Code.den ti (slices_Equal_Sent.Γ k) (slices_Equal_Sent.LH k) (loopAt Try.f70 0)) [(0, [some 4]), (1, [some 4]), (12, []), (13, [])] [(4, [])] K n [.v (.sl 0), .v (.sl 1), .v (.int .i64 x2), .v (.int .i64 x3)] [.rows 4 false xl0, .rows 4 false xl1] = slices_Equal_Sent.l4 k x2 xl0 xl1 (fun (z0 : Bool) => K .ret (stOf [(4, [])] [.v (.bool z0)] [.rows 4 false xl0, .rows 4 false xl1])) (fun (_ : Unit) => K (.exit 0) (stOf [(4, [])] [.v .any] [.rows 4 false xl0, .rows 4 false xl1])) n x3
  | 0, _ => rfl
  | n + 1, x3 => (show loopN 2 (Code.den ti (slices_Equal_Sent.Γ k) (slices_Equal_Sent.LH k) (loopAt Try.f70 0)) [(0, [some 4]), (1, [some 4]), (12, []), (13, [])] [(4, [])] K (n + 1) [.v (.sl 0), .v (.sl 1), .v (.int .i64 x2), .v (.int .i64 x3)] [.rows 4 false xl0, .rows 4 false xl1] = slices_Equal_Sent.L4 k x2 xl0 xl1 (fun (z0 : Bool) => K .ret (stOf [(4, [])] [.v (.bool z0)] [.rows 4 false xl0, .rows 4 false xl1])) (fun (_ : Unit) => K (.exit 0) (stOf [(4, [])] [.v .any] [.rows 4 false xl0, .rows 4 false xl1])) (fun (x3' : Int) => loopN 2 (Code.den ti (slices_Equal_Sent.Γ k) (slices_Equal_Sent.LH k) (loopAt Try.f70 0)) [(0, [some 4]), (1, [some 4]), (12, []), (13, [])] [(4, [])] K n [.v (.sl 0), .v (.sl 1), .v (.int .i64 x2), .v (.int .i64 x3')] [.rows 4 false xl0, .rows 4 false xl1]) x3 by kernel_rfl).trans (congrArg (fun rec => slices_Equal_Sent.L4 k x2 xl0 xl1 (fun (z0 : Bool) => K .ret (stOf [(4, [])] [.v (.bool z0)] [.rows 4 false xl0, .rows 4 false xl1])) (fun (_ : Unit) => K (.exit 0) (stOf [(4, [])] [.v .any] [.rows 4 false xl0, .rows 4 false xl1])) rec x3) (funext fun x3' => slices_Equal_Sent.e4 K k x2 xl0 xl1 n x3'))
theorem slices_Equal_Sent.q4 (k : Nat) {R : Type} (K : Ex → St κ → Option R) (vs : List AV) (bs : List (Blk κ)) (r : R) (h : slices_Equal_Sent.h4 k K vs bs = some r) : ∃ n, loopN 2 (Code.den ti (slices_Equal_Sent.Γ k) (slices_Equal_Sent.LH k) (loopAt Try.f70 0)) [(0, [some 4]), (1, [some 4]), (12, []), (13, [])] [(4, [])] K n vs bs = some r := by
  unfold slices_Equal_Sent.h4 at h
  split at h
  · obtain ⟨_, rfl, h_1⟩ := asO_bind h
    obtain ⟨_, rfl, h_2⟩ := asO_bind h_1
    exact ⟨k, (slices_Equal_Sent.e4 K k _ _ _ k _).trans h_2⟩
  · cases h
theorem slices_Equal_Sent.lok (k : Nat) : LOK ti (slices_Equal_Sent.Γ k) (slices_Equal_Sent.LH k) 2 (loopsOf (bodyOf Try.f70)) :=
  (show loopsOf (bodyOf Try.f70) = [loopAt Try.f70 0] by kernel_rfl) ▸ (LOK_cons (g := ⟨2, [(0, [some 4]), (1, [some 4]), (12, []), (13, [])], [(4, [])], @slices_Equal_Sent.h4 k⟩) (by kernel_rfl) rfl (fun K vs xs r h => slices_Equal_Sent.q4 k K vs xs r h) (LOK_nil))
def slices_Equal_Sent.sig : List PSh := [.one (.ro 4), .one (.ro 4)]
def slices_Equal_Sent.g (y : Bool) : Ret κ := ⟨.v (.bool y), [], []⟩
def slices_Equal_Sent.out (r : Ret κ) : Option Bool :=
  match r with
  | ⟨.v (.bool z0), [], []⟩ => some (z0)
  | _ => none
theorem slices_Equal_Sent.out_ok (r : Ret κ) (y : Bool) (h : slices_Equal_Sent.out r = some y) : r = slices_Equal_Sent.g y := by
  unfold slices_Equal_Sent.out at h
  split at h
  · obtain rfl := Option.some.inj h
    rfl
  · cases h
def slices_Equal_Sent.body (k : Nat) (vs : List AV) (bs : List (Blk κ)) : Option (Lf κ) :=
  match vs, bs with
  | [.v (.sl 0), .v (.sl 1)], [qb0, qb1] => (asO 4 false qb0).bind fun a0 => (asO 4 false qb1).bind fun a1 => some ⟨Bool, slices_Equal_Sent.f k a0 a1, slices_Equal_Sent.g⟩
  | _, _ => none
def slices_Equal_Sent.C (k : Nat) : Nat → List AV → AP κ AV := contract slices_Equal_Sent.sig (slices_Equal_Sent.body k)
theorem slices_Equal_Sent.den (k : Nat) (a0 : List T_impl_Sent) (a1 : List T_impl_Sent) : Code.den ti (slices_Equal_Sent.Γ k) (slices_Equal_Sent.LH k) (bodyOf Try.f70) (finK ti Try.f70.results.toList [] (flags slices_Equal_Sent.sig).length (rwI (flags slices_Equal_Sent.sig) 0) slices_Equal_Sent.out) ⟨envOf (([.v (.sl 0), .v (.sl 1)]).zipIdx.map fun q => (q.2, q.1)), hpOf [.rows 4 false a0, .rows 4 false a1], (flags slices_Equal_Sent.sig).length⟩ = slices_Equal_Sent.f k a0 a1 := by kernel_rfl
theorem slices_Equal_Sent.ok (k : Nat) : CSound Try.prog 70 (slices_Equal_Sent.C k) :=
  csound κ_ok mixed tok (slices_Equal_Sent.hΓ k) (LH := slices_Equal_Sent.LH k) (fn := Try.f70) (c := bodyOf Try.f70) Try.func70 rfl Try.call70 slices_Equal_Sent.sig [] (slices_Equal_Sent.body k) (by kernel_rfl) (slices_Equal_Sent.lok k) (by decide) fun vs bs lf y hl hb hy => by
    unfold slices_Equal_Sent.body at hb
    split at hb
    · obtain ⟨_, rfl, hb_1⟩ := asO_bind hb
      obtain ⟨_, rfl, hb_2⟩ := asO_bind hb_1
      obtain rfl := Option.some.inj hb_2
      exact ⟨slices_Equal_Sent.out, slices_Equal_Sent.out_ok, (slices_Equal_Sent.den k _ _).trans hy⟩
    · cases hb
/-! ### impl_EqualSent -/
def impl_EqualSent.f (k : Nat) (a0 : List T_impl_Sent) (a1 : List T_impl_Sent) : Option Bool :=
  (slices_Equal_Sent.f k a0 a1).bind fun t1 => some t1
def impl_EqualSent.Γ (k : Nat) : Ct κ := assoc [(70, slices_Equal_Sent.C k)]
def impl_EqualSent.LH (k : Nat) : Nat → Option (LHi κ) := assoc []
theorem impl_EqualSent.hΓ (k : Nat) : ∀ f g, impl_EqualSent.Γ k f = some g → CSound Try.prog f g := G_cons (slices_Equal_Sent.ok k) G_nil
theorem impl_EqualSent.lok (k : Nat) : LOK ti (impl_EqualSent.Γ k) (impl_EqualSent.LH k) 2 (loopsOf (bodyOf Try.f28)) :=
  (show loopsOf (bodyOf Try.f28) = [] by kernel_rfl) ▸ LOK_nil
def impl_EqualSent.sig : List PSh := [.one (.ro 4), .one (.ro 4)]
def impl_EqualSent.g (y : Bool) : Ret κ := ⟨.v (.bool y), [], []⟩
def impl_EqualSent.out (r : Ret κ) : Option Bool :=
  match r with
  | ⟨.v (.bool z0), [], []⟩ => some (z0)
  | _ => none
theorem impl_EqualSent.out_ok (r : Ret κ) (y : Bool) (h : impl_EqualSent.out r = some y) : r = impl_EqualSent.g y := by
  unfold impl_EqualSent.out at h
  split at h
  · obtain rfl := Option.some.inj h
    rfl
  · cases h
def impl_EqualSent.body (k : Nat) (vs : List AV) (bs : List (Blk κ)) : Option (Lf κ) :=
  match vs, bs with
  | [.v (.sl 0), .v (.sl 1)], [qb0, qb1] => (asO 4 false qb0).bind fun a0 => (asO 4 false qb1).bind fun a1 => some ⟨Bool, impl_EqualSent.f k a0 a1, impl_EqualSent.g⟩
  | _, _ => none
def impl_EqualSent.C (k : Nat) : Nat → List AV → AP κ AV := contract impl_EqualSent.sig (impl_EqualSent.body k)
theorem impl_EqualSent.den (k : Nat) (a0 : List T_impl_Sent) (a1 : List T_impl_Sent) : Code.den ti (impl_EqualSent.Γ k) (impl_EqualSent.LH k) (bodyOf Try.f28) (finK ti Try.f28.results.toList [] (flags impl_EqualSent.sig).length (rwI (flags impl_EqualSent.sig) 0) impl_EqualSent.out) ⟨envOf (([.v (.sl 0), .v (.sl 1)]).zipIdx.map fun q => (q.2, q.1)), hpOf [.rows 4 false a0, .rows 4 false a1], (flags impl_EqualSent.sig).length⟩ = impl_EqualSent.f k a0 a1 := by kernel_rfl
theorem impl_EqualSent.ok (k : Nat) : CSound Try.prog 28 (impl_EqualSent.C k) :=
  csound κ_ok mixed tok (impl_EqualSent.hΓ k) (LH := impl_EqualSent.LH k) (fn := Try.f28) (c := bodyOf Try.f28) Try.func28 rfl Try.call28 impl_EqualSent.sig [] (impl_EqualSent.body k) (by kernel_rfl) (impl_EqualSent.lok k) (by decide) fun vs bs lf y hl hb hy => by
    unfold impl_EqualSent.body at hb
    split at hb
    · obtain ⟨_, rfl, hb_1⟩ := asO_bind hb
      obtain ⟨_, rfl, hb_2⟩ := asO_bind hb_1
      obtain rfl := Option.some.inj hb_2
      exact ⟨impl_EqualSent.out, impl_EqualSent.out_ok, (impl_EqualSent.den k _ _).trans hy⟩
    · cases hb
/-! ### slices_Sort_int -/
def slices_Sort_int.f (k : Nat) (l : List Int) : Option (List Int) := sortF l
def slices_Sort_int.C (k : Nat) : Nat → List AV → AP κ AV := contract (inSig 2 none) (inB 2 κ none (slices_Sort_int.f k))
theorem slices_Sort_int.ok (k : Nat) : CSound Try.prog 100 (slices_Sort_int.C k) :=
  sort_sound κ_ok Try.laysSort Try.call100 2 rfl (fun x => x) (fun _ => rfl) (slices_Sort_int.f k) sortF_ok
/-! ### slices_Compact_int -/
def slices_Compact_int.f (k : Nat) (l : List Int) : Option (List Int) := compactF l
def slices_Compact_int.C (k : Nat) : Nat → List AV → AP κ AV := contract [.one (.rw 2)] (cutB 2 κ (slices_Compact_int.f k))
theorem slices_Compact_int.ok (k : Nat) : CSound Try.prog 101 (slices_Compact_int.C k) :=
  compact_sound κ_ok Try.laysCompact Try.call101 2 rfl (fun x => x) (fun _ => rfl) (slices_Compact_int.f k) compactF_ok
/-! ### impl_ordered -/
def impl_ordered.f (k : Nat) (a0 : List Int) : Option (List Int) :=
  (slices_Sort_int.f k a0).bind fun t1 => (slices_Compact_int.f k t1).bind fun t2 => some t2
def impl_ordered.Γ (k : Nat) : Ct κ := assoc [(100, slices_Sort_int.C k), (101, slices_Compact_int.C k)]
def impl_ordered.LH (k : Nat) : Nat → Option (LHi κ) := assoc []
theorem impl_ordered.hΓ (k : Nat) : ∀ f g, impl_ordered.Γ k f = some g → CSound Try.prog f g := G_cons (slices_Sort_int.ok k) (G_cons (slices_Compact_int.ok k) G_nil)
theorem impl_ordered.lok (k : Nat) : LOK ti (impl_ordered.Γ k) (impl_ordered.LH k) 1 (loopsOf (bodyOf Try.f82)) :=
  (show loopsOf (bodyOf Try.f82) = [] by kernel_rfl) ▸ LOK_nil
def impl_ordered.sig : List PSh := [.one (.rw 2)]
def impl_ordered.g (y : List Int) : Ret κ := ⟨.v (.sl 1), [.dead], [.rows 2 true y]⟩
def impl_ordered.out (r : Ret κ) : Option (List Int) :=
  match r with
  | ⟨.v (.sl 1), [.dead], [q0]⟩ => (asO 2 true q0).bind fun z0 => some (z0)
  | _ => none
theorem impl_ordered.out_ok (r : Ret κ) (y : List Int) (h : impl_ordered.out r = some y) : r = impl_ordered.g y := by
  unfold impl_ordered.out at h
  split at h
  · obtain ⟨_, rfl, h_1⟩ := asO_bind h
    obtain rfl := Option.some.inj h_1
    rfl
  · cases h
def impl_ordered.body (k : Nat) (vs : List AV) (bs : List (Blk κ)) : Option (Lf κ) :=
  match vs, bs with
  | [.v (.sl 0)], [qb0] => (asO 2 true qb0).bind fun a0 => some ⟨List Int, impl_ordered.f k a0, impl_ordered.g⟩
  | _, _ => none
def impl_ordered.C (k : Nat) : Nat → List AV → AP κ AV := contract impl_ordered.sig (impl_ordered.body k)
theorem impl_ordered.den (k : Nat) (a0 : List Int) : Code.den ti (impl_ordered.Γ k) (impl_ordered.LH k) (bodyOf Try.f82) (finK ti Try.f82.results.toList [(2, [some 2])] (flags impl_ordered.sig).length (rwI (flags impl_ordered.sig) 0) impl_ordered.out) ⟨envOf (([.v (.sl 0)]).zipIdx.map fun q => (q.2, q.1)), hpOf [.rows 2 true a0], (flags impl_ordered.sig).length⟩ = impl_ordered.f k a0 := by kernel_rfl
theorem impl_ordered.ok (k : Nat) : CSound Try.prog 82 (impl_ordered.C k) :=
  csound κ_ok mixed tok (impl_ordered.hΓ k) (LH := impl_ordered.LH k) (fn := Try.f82) (c := bodyOf Try.f82) Try.func82 rfl Try.call82 impl_ordered.sig [(2, [some 2])] (impl_ordered.body k) (by kernel_rfl) (impl_ordered.lok k) (by decide) fun vs bs lf y hl hb hy => by
    unfold impl_ordered.body at hb
    split at hb
    · obtain ⟨_, rfl, hb_1⟩ := asO_bind hb
      obtain rfl := Option.some.inj hb_1
      exact ⟨impl_ordered.out, impl_ordered.out_ok, (impl_ordered.den k _).trans hy⟩
    · cases hb
/-! ### impl_LeakTo -/
def impl_LeakTo.L3 {R : Type} (k : Nat) (x0 : Int) (x3 : Int) (xl0 : List T_impl_Op) (xl1 : List T_impl_Flow) (xl3 : List T_impl_Sent) (X0 : List Int → Option R) (rec : Int → List Int → Option R) (x4 : Int) (xl2 : List Int) : Option R :=
  (bif decide (x4 < x3) then (bif decide (0 ≤ x4) then (bif decide (x4 < (xl3.length : Int)) then (impl_hasOwner.f k ((rd_impl_Sent xl3 x4).f2) x0).bind fun t2 => (bif t2 then (bif decide ((xl2.length + ([(rd_impl_Sent xl3 x4).f0] : List Int).length) * 8 ≤ cap48) then (rec (w64 (x4 + (1 : Int))) (xl2 ++ ([(rd_impl_Sent xl3 x4).f0] : List Int))) else none) else (rec (w64 (x4 + (1 : Int))) xl2)) else none) else none) else (X0 xl2))
def impl_LeakTo.l3 {R : Type} (k : Nat) (x0 : Int) (x3 : Int) (xl0 : List T_impl_Op) (xl1 : List T_impl_Flow) (xl3 : List T_impl_Sent) (X0 : List Int → Option R) : Nat → Int → List Int → Option R
  | 0 => fun _ _ => none
  | n + 1 => impl_LeakTo.L3 k x0 x3 xl0 xl1 xl3 X0 (impl_LeakTo.l3 k x0 x3 xl0 xl1 xl3 X0 n)
def impl_LeakTo.f (k : Nat) (a0 : List T_impl_Op) (a1 : List T_impl_Flow) (a2 : Int) (a3 : Int) : Option (List Int) :=
  (impl_RunOps.f k a0 ([] : List Int) a1 a2).bind fun t1 => (impl_LeakTo.l3 k a3 (t1.length : Int) a0 a1 t1 (fun (y3 : List Int) => (impl_ordered.f k y3).bind fun t4 => some t4) k (0 : Int) ([] : List Int))
def impl_LeakTo.h3 (k : Nat) {R : Type} (K : Ex → St κ → Option R) (vs : List AV) (bs : List (Blk κ)) : Option R :=
  match vs, bs with
  | [.v (.int .i64 x0), .v (.sl 2), .v (.sl 3), .v (.int .i64 x3), .v (.int .i64 x4)], [qb0, qb1, qb2, qb3] => (asO 1 false qb0).bind fun xl0 => (asO 3 false qb1).bind fun xl1 => (asO 2 true qb2).bind fun xl2 => (asO 4 true qb3).bind fun xl3 => impl_LeakTo.l3 k x0 x3 xl0 xl1 xl3 (fun (zl2 : List Int) => K (.exit 0) (stOf [(9, [some 2])] [.v (.sl 2)] [.rows 1 false xl0, .rows 3 false xl1, .rows 2 true zl2])) k x4 xl2
  | _, _ => none
def impl_LeakTo.Γ (k : Nat) : Ct κ := assoc [(22, impl_RunOps.C k), (81, impl_hasOwner.C k), (82, impl_ordered.C k)]
def impl_LeakTo.LH (k : Nat) : Nat → Option (LHi κ) := assoc [(3, ⟨2, [(3, []), (9, [some 2]), (16, [some 4]), (17, []), (18, [])], [(9, [some 2])], @impl_LeakTo.h3 k⟩)]
theorem impl_LeakTo.hΓ (k : Nat) : ∀ f g, impl_LeakTo.Γ k f = some g → CSound Try.prog f g := G_cons (impl_RunOps.ok k) (G_cons (impl_hasOwner.ok k) (G_cons (impl_ordered.ok k) G_nil))
theorem impl_LeakTo.e3 {R : Type} (K : Ex → St κ → Option R) (k : Nat) (x0 : Int) (x3 : Int) (xl0 : List T_impl_Op) (xl1 : List T_impl_Flow) (xl3 : List T_impl_Sent) : ∀ (n : Nat) (x4 : Int) (xl2 : List Int), loopN 2 (Code.den ti (impl_LeakTo.Γ k) (impl_LeakTo.LH k) (loopAt Try.f50 0)) [(3, []), (9, [some 2]), (16, [some 4]), (17, []), (18, [])] [(9, [some 2])] K n [.v (.int .i64 x0), .v (.sl 2), .v (.sl 3), .v (.int .i64 x3), .v (.int .i64 x4)] [.rows 1 false xl0, .rows 3 false xl1, .rows 2 true xl2, .rows 4 true xl3] = impl_LeakTo.l3 k x0 x3 xl0 xl1 xl3 (fun (zl2 : List Int) => K (.exit 0) (stOf [(9, [some 2])] [.v (.sl 2)] [.rows 1 false xl0, .rows 3 false xl1, .rows 2 true zl2])) n x4 xl2
  | 0, _, _ => rfl
  | n + 1, x4, xl2 => (show loopN 2 (Code.den ti (impl_LeakTo.Γ k) (impl_LeakTo.LH k) (loopAt Try.f50 0)) [(3, []), (9, [some 2]), (16, [some 4]), (17, []), (18, [])] [(9, [some 2])] K (n + 1) [.v (.int .i64 x0), .v (.sl 2), .v (.sl 3), .v (.int .i64 x3), .v (.int .i64 x4)] [.rows 1 false xl0, .rows 3 false xl1, .rows 2 true xl2, .rows 4 true xl3] = impl_LeakTo.L3 k x0 x3 xl0 xl1 xl3 (fun (zl2 : List Int) => K (.exit 0) (stOf [(9, [some 2])] [.v (.sl 2)] [.rows 1 false xl0, .rows 3 false xl1, .rows 2 true zl2])) (fun (x4' : Int) (xl2' : List Int) => loopN 2 (Code.den ti (impl_LeakTo.Γ k) (impl_LeakTo.LH k) (loopAt Try.f50 0)) [(3, []), (9, [some 2]), (16, [some 4]), (17, []), (18, [])] [(9, [some 2])] K n [.v (.int .i64 x0), .v (.sl 2), .v (.sl 3), .v (.int .i64 x3), .v (.int .i64 x4')] [.rows 1 false xl0, .rows 3 false xl1, .rows 2 true xl2', .rows 4 true xl3]) x4 xl2 by kernel_rfl).trans (congrArg (fun rec => impl_LeakTo.L3 k x0 x3 xl0 xl1 xl3 (fun (zl2 : List Int) => K (.exit 0) (stOf [(9, [some 2])] [.v (.sl 2)] [.rows 1 false xl0, .rows 3 false xl1, .rows 2 true zl2])) rec x4 xl2) (funext fun x4' => funext fun xl2' => impl_LeakTo.e3 K k x0 x3 xl0 xl1 xl3 n x4' xl2'))
theorem impl_LeakTo.q3 (k : Nat) {R : Type} (K : Ex → St κ → Option R) (vs : List AV) (bs : List (Blk κ)) (r : R) (h : impl_LeakTo.h3 k K vs bs = some r) : ∃ n, loopN 2 (Code.den ti (impl_LeakTo.Γ k) (impl_LeakTo.LH k) (loopAt Try.f50 0)) [(3, []), (9, [some 2]), (16, [some 4]), (17, []), (18, [])] [(9, [some 2])] K n vs bs = some r := by
  unfold impl_LeakTo.h3 at h
  split at h
  · obtain ⟨_, rfl, h_1⟩ := asO_bind h
    obtain ⟨_, rfl, h_2⟩ := asO_bind h_1
    obtain ⟨_, rfl, h_3⟩ := asO_bind h_2
    obtain ⟨_, rfl, h_4⟩ := asO_bind h_3
    exact ⟨k, (impl_LeakTo.e3 K k _ _ _ _ _ k _ _).trans h_4⟩
  · cases h
theorem impl_LeakTo.lok (k : Nat) : LOK ti (impl_LeakTo.Γ k) (impl_LeakTo.LH k) 2 (loopsOf (bodyOf Try.f50)) :=
  (show loopsOf (bodyOf Try.f50) = [loopAt Try.f50 0] by kernel_rfl) ▸ (LOK_cons (g := ⟨2, [(3, []), (9, [some 2]), (16, [some 4]), (17, []), (18, [])], [(9, [some 2])], @impl_LeakTo.h3 k⟩) (by kernel_rfl) rfl (fun K vs xs r h => impl_LeakTo.q3 k K vs xs r h) (LOK_nil))
def impl_LeakTo.sig : List PSh := [.one (.ro 1), .one (.ro 3), .one .sc, .one .sc]
def impl_LeakTo.g (y : List Int) : Ret κ := ⟨.v (.sl 2), [], [.rows 2 true y]⟩
def impl_LeakTo.out (r : Ret κ) : Option (List Int) :=
  match r with
  | ⟨.v (.sl 2), [], [q0]⟩ => (asO 2 true q0).bind fun z0 => some (z0)
  | _ => none
theorem impl_LeakTo.out_ok (r : Ret κ) (y : List Int) (h : impl_LeakTo.out r = some y) : r = impl_LeakTo.g y := by
  unfold impl_LeakTo.out at h
  split at h
  · obtain ⟨_, rfl, h_1⟩ := asO_bind h
    obtain rfl := Option.some.inj h_1
    rfl
  · cases h
def impl_LeakTo.body (k : Nat) (vs : List AV) (bs : List (Blk κ)) : Option (Lf κ) :=
  match vs, bs with
  | [.v (.sl 0), .v (.sl 1), .v (.int .i64 a2), .v (.int .i64 a3)], [qb0, qb1] => (asO 1 false qb0).bind fun a0 => (asO 3 false qb1).bind fun a1 => some ⟨List Int, impl_LeakTo.f k a0 a1 a2 a3, impl_LeakTo.g⟩
  | _, _ => none
def impl_LeakTo.C (k : Nat) : Nat → List AV → AP κ AV := contract impl_LeakTo.sig (impl_LeakTo.body k)
theorem impl_LeakTo.den (k : Nat) (a0 : List T_impl_Op) (a1 : List T_impl_Flow) (a2 : Int) (a3 : Int) : Code.den ti (impl_LeakTo.Γ k) (impl_LeakTo.LH k) (bodyOf Try.f50) (finK ti Try.f50.results.toList [(8, [some 2])] (flags impl_LeakTo.sig).length (rwI (flags impl_LeakTo.sig) 0) impl_LeakTo.out) ⟨envOf (([.v (.sl 0), .v (.sl 1), .v (.int .i64 a2), .v (.int .i64 a3)]).zipIdx.map fun q => (q.2, q.1)), hpOf [.rows 1 false a0, .rows 3 false a1], (flags impl_LeakTo.sig).length⟩ = impl_LeakTo.f k a0 a1 a2 a3 := by kernel_rfl
theorem impl_LeakTo.ok (k : Nat) : CSound Try.prog 50 (impl_LeakTo.C k) :=
  csound κ_ok mixed tok (impl_LeakTo.hΓ k) (LH := impl_LeakTo.LH k) (fn := Try.f50) (c := bodyOf Try.f50) Try.func50 rfl Try.call50 impl_LeakTo.sig [(8, [some 2])] (impl_LeakTo.body k) (by kernel_rfl) (impl_LeakTo.lok k) (by decide) fun vs bs lf y hl hb hy => by
    unfold impl_LeakTo.body at hb
    split at hb
    · obtain ⟨_, rfl, hb_1⟩ := asO_bind hb
      obtain ⟨_, rfl, hb_2⟩ := asO_bind hb_1
      obtain rfl := Option.some.inj hb_2
      exact ⟨impl_LeakTo.out, impl_LeakTo.out_ok, (impl_LeakTo.den k _ _ _ _).trans hy⟩
    · cases hb
/-! ### impl_LabelOf -/
def impl_LabelOf.L3 {R : Type} (k : Nat) (x2 : Int) (xl0 : List Int) (X0 : Int → Option R) (rec : Int → Int → Option R) (x0 : Int) (x3 : Int) : Option R :=
  (bif decide (x3 < x2) then (bif decide (0 ≤ x3) then (bif decide (x3 < (xl0.length : Int)) then (impl_InRange.f k (rd_i64 xl0 x3) (1 : Int) (9 : Int)).bind fun t1 => (bif t1 then (bif decide ((rd_i64 xl0 x3) < 0) then none else (rec (bitop .or .i64 x0 (w64 ((1 : Int) * 2 ^ (min ((rd_i64 xl0 x3)).toNat 64)))) (w64 (x3 + (1 : Int))))) else (rec x0 (w64 (x3 + (1 : Int))))) else none) else none) else (X0 x0))
def impl_LabelOf.l3 {R : Type} (k : Nat) (x2 : Int) (xl0 : List Int) (X0 : Int → Option R) : Nat → Int → Int → Option R
  | 0 => fun _ _ => none
  | n + 1 => impl_LabelOf.L3 k x2 xl0 X0 (impl_LabelOf.l3 k x2 xl0 X0 n)
def impl_LabelOf.f (k : Nat) (a0 : List Int) : Option Int :=
  (impl_LabelOf.l3 k (a0.length : Int) a0 (fun (y2 : Int) => some y2) k (0 : Int) (0 : Int))
def impl_LabelOf.h3 (k : Nat) {R : Type} (K : Ex → St κ → Option R) (vs : List AV) (bs : List (Blk κ)) : Option R :=
  match vs, bs with
  | [.v (.int .i64 x0), .v (.sl 0), .v (.int .i64 x2), .v (.int .i64 x3)], [qb0] => (asO 2 false qb0).bind fun xl0 => impl_LabelOf.l3 k x2 xl0 (fun (z0 : Int) => K (.exit 0) (stOf [(3, [])] [.v (.int .i64 z0)] [.rows 2 false xl0])) k x0 x3
  | _, _ => none
def impl_LabelOf.Γ (k : Nat) : Ct κ := assoc [(68, impl_InRange.C k)]
def impl_LabelOf.LH (k : Nat) : Nat → Option (LHi κ) := assoc [(3, ⟨1, [(3, []), (6, [some 2]), (7, []), (8, [])], [(3, [])], @impl_LabelOf.h3 k⟩)]
theorem impl_LabelOf.hΓ (k : Nat) : ∀ f g, impl_LabelOf.Γ k f = some g → CSound Try.prog f g := G_cons (impl_InRange.ok k) G_nil
theorem impl_LabelOf.e3 {R : Type} (K : Ex → St κ → Option R) (k : Nat) (x2 : Int) (xl0 : List Int) : ∀ (n : Nat) (x0 : Int) (x3 : Int), loopN 1 (Code.den ti (impl_LabelOf.Γ k) (impl_LabelOf.LH k) (loopAt Try.f51 0)) [(3, []), (6, [some 2]), (7, []), (8, [])] [(3, [])] K n [.v (.int .i64 x0), .v (.sl 0), .v (.int .i64 x2), .v (.int .i64 x3)] [.rows 2 false xl0] = impl_LabelOf.l3 k x2 xl0 (fun (z0 : Int) => K (.exit 0) (stOf [(3, [])] [.v (.int .i64 z0)] [.rows 2 false xl0])) n x0 x3
  | 0, _, _ => rfl
  | n + 1, x0, x3 => (show loopN 1 (Code.den ti (impl_LabelOf.Γ k) (impl_LabelOf.LH k) (loopAt Try.f51 0)) [(3, []), (6, [some 2]), (7, []), (8, [])] [(3, [])] K (n + 1) [.v (.int .i64 x0), .v (.sl 0), .v (.int .i64 x2), .v (.int .i64 x3)] [.rows 2 false xl0] = impl_LabelOf.L3 k x2 xl0 (fun (z0 : Int) => K (.exit 0) (stOf [(3, [])] [.v (.int .i64 z0)] [.rows 2 false xl0])) (fun (x0' : Int) (x3' : Int) => loopN 1 (Code.den ti (impl_LabelOf.Γ k) (impl_LabelOf.LH k) (loopAt Try.f51 0)) [(3, []), (6, [some 2]), (7, []), (8, [])] [(3, [])] K n [.v (.int .i64 x0'), .v (.sl 0), .v (.int .i64 x2), .v (.int .i64 x3')] [.rows 2 false xl0]) x0 x3 by kernel_rfl).trans (congrArg (fun rec => impl_LabelOf.L3 k x2 xl0 (fun (z0 : Int) => K (.exit 0) (stOf [(3, [])] [.v (.int .i64 z0)] [.rows 2 false xl0])) rec x0 x3) (funext fun x0' => funext fun x3' => impl_LabelOf.e3 K k x2 xl0 n x0' x3'))
theorem impl_LabelOf.q3 (k : Nat) {R : Type} (K : Ex → St κ → Option R) (vs : List AV) (bs : List (Blk κ)) (r : R) (h : impl_LabelOf.h3 k K vs bs = some r) : ∃ n, loopN 1 (Code.den ti (impl_LabelOf.Γ k) (impl_LabelOf.LH k) (loopAt Try.f51 0)) [(3, []), (6, [some 2]), (7, []), (8, [])] [(3, [])] K n vs bs = some r := by
  unfold impl_LabelOf.h3 at h
  split at h
  · obtain ⟨_, rfl, h_1⟩ := asO_bind h
    exact ⟨k, (impl_LabelOf.e3 K k _ _ k _ _).trans h_1⟩
  · cases h
theorem impl_LabelOf.lok (k : Nat) : LOK ti (impl_LabelOf.Γ k) (impl_LabelOf.LH k) 1 (loopsOf (bodyOf Try.f51)) :=
  (show loopsOf (bodyOf Try.f51) = [loopAt Try.f51 0] by kernel_rfl) ▸ (LOK_cons (g := ⟨1, [(3, []), (6, [some 2]), (7, []), (8, [])], [(3, [])], @impl_LabelOf.h3 k⟩) (by kernel_rfl) rfl (fun K vs xs r h => impl_LabelOf.q3 k K vs xs r h) (LOK_nil))
def impl_LabelOf.sig : List PSh := [.one (.ro 2)]
def impl_LabelOf.g (y : Int) : Ret κ := ⟨.v (.int .i64 y), [], []⟩
def impl_LabelOf.out (r : Ret κ) : Option Int :=
  match r with
  | ⟨.v (.int .i64 z0), [], []⟩ => some (z0)
  | _ => none
theorem impl_LabelOf.out_ok (r : Ret κ) (y : Int) (h : impl_LabelOf.out r = some y) : r = impl_LabelOf.g y := by
  unfold impl_LabelOf.out at h
  split at h
  · obtain rfl := Option.some.inj h
    rfl
  · cases h
def impl_LabelOf.body (k : Nat) (vs : List AV) (bs : List (Blk κ)) : Option (Lf κ) :=
  match vs, bs with
  | [.v (.sl 0)], [qb0] => (asO 2 false qb0).bind fun a0 => some ⟨Int, impl_LabelOf.f k a0, impl_LabelOf.g⟩
  | _, _ => none
def impl_LabelOf.C (k : Nat) : Nat → List AV → AP κ AV := contract impl_LabelOf.sig (impl_LabelOf.body k)
theorem impl_LabelOf.den (k : Nat) (a0 : List Int) : Code.den ti (impl_LabelOf.Γ k) (impl_LabelOf.LH k) (bodyOf Try.f51) (finK ti Try.f51.results.toList [] (flags impl_LabelOf.sig).length (rwI (flags impl_LabelOf.sig) 0) impl_LabelOf.out) ⟨envOf (([.v (.sl 0)]).zipIdx.map fun q => (q.2, q.1)), hpOf [.rows 2 false a0], (flags impl_LabelOf.sig).length⟩ = impl_LabelOf.f k a0 := by kernel_rfl
theorem impl_LabelOf.ok (k : Nat) : CSound Try.prog 51 (impl_LabelOf.C k) :=
  csound κ_ok mixed tok (impl_LabelOf.hΓ k) (LH := impl_LabelOf.LH k) (fn := Try.f51) (c := bodyOf Try.f51) Try.func51 rfl Try.call51 impl_LabelOf.sig [] (impl_LabelOf.body k) (by kernel_rfl) (impl_LabelOf.lok k) (by decide) fun vs bs lf y hl hb hy => by
    unfold impl_LabelOf.body at hb
    split at hb
    · obtain ⟨_, rfl, hb_1⟩ := asO_bind hb
      obtain rfl := Option.some.inj hb_1
      exact ⟨impl_LabelOf.out, impl_LabelOf.out_ok, (impl_LabelOf.den k _).trans hy⟩
    · cases hb
end Go.Proofs.Ythjdecnheaifkaa.PFnLeaks
