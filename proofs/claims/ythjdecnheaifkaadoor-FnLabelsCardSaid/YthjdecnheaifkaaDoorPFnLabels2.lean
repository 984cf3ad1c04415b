/- What the functions that the law FnLabels reaches come to; no conditions. -/
import Derived.Test.YthjdecnheaifkaaDoorPFnLabels1
set_option linter.unusedVariables false
set_option maxRecDepth 100000
namespace Go.Proofs.YthjdecnheaifkaaDoor.PFnLabels
open Go Go.Eng Go.Proofs
/-! ### laws_within -/
def laws_within.L2 {R : Type} (k : Nat) (xl0 : List Int) (xl1 : List Int) (X0 : Bool → Option R) (X1 : Unit → Option R) (rec : Int → Option R) (x2 : Int) : Option R :=
  (bif decide (x2 < (xl0.length : Int)) then (bif decide (0 ≤ x2) then (bif decide (x2 < (xl0.length : Int)) then (laws_contains.f k xl1 (rd_i64 xl0 x2)).bind fun t1 => (bif !t1 then (X0 false) else (rec (w64 (x2 + (1 : Int))))) else none) else none) else (X1 ()))
def laws_within.l2 {R : Type} (k : Nat) (xl0 : List Int) (xl1 : List Int) (X0 : Bool → Option R) (X1 : Unit → Option R) : Nat → Int → Option R
  | 0 => fun _ => none
  | n + 1 => laws_within.L2 k xl0 xl1 X0 X1 (laws_within.l2 k xl0 xl1 X0 X1 n)
def laws_within.f (k : Nat) (a0 : List Int) (a1 : List Int) : Option Bool :=
  (laws_within.l2 k a0 a1 (fun (y2 : Bool) => some y2) (fun (_ : Unit) => some true) k (0 : Int))
def laws_within.h2 (k : Nat) {R : Type} (K : Ex → St κ → Option R) (vs : List AV) (bs : List (Blk κ)) : Option R :=
  match vs, bs with
  | [.v (.sl 0), .v (.sl 1), .v (.int .i64 x2)], [qb0, qb1] => (asO 1 false qb0).bind fun xl0 => (asO 1 false qb1).bind fun xl1 => laws_within.l2 k xl0 xl1 (fun (z0 : Bool) => K .ret (stOf [(4, [])] [.v (.bool z0)] [.rows 1 false xl0, .rows 1 false xl1])) (fun (_ : Unit) => K (.exit 0) (stOf [(4, [])] [.v .any] [.rows 1 false xl0, .rows 1 false xl1])) k x2
  | _, _ => none
def laws_within.Γ (k : Nat) : Ct κ := assoc [(11, laws_contains.C k)]
def laws_within.LH (k : Nat) : Nat → Option (LHi κ) := assoc [(2, ⟨2, [(0, [some 1]), (1, [some 1]), (5, [])], [(4, [])], @laws_within.h2 k⟩)]
theorem laws_within.hΓ (k : Nat) : ∀ f g, laws_within.Γ k f = some g → CSound Tryd.prog f g := G_cons (laws_contains.ok k) G_nil
theorem laws_within.e2 {R : Type} (K : Ex → St κ → Option R) (k : Nat) (xl0 : List Int) (xl1 : List Int) : ∀ (n : Nat) (x2 : Int), loopN 2 (Code.den ti (laws_within.Γ k) (laws_within.LH k) (loopAt Tryd.f13 0)) [(0, [some 1]), (1, [some 1]), (5, [])] [(4, [])] K n [.v (.sl 0), .v (.sl 1), .v (.int .i64 x2)] [.rows 1 false xl0, .rows 1 false xl1] = laws_within.l2 k xl0 xl1 (fun (z0 : Bool) => K .ret (stOf [(4, [])] [.v (.bool z0)] [.rows 1 false xl0, .rows 1 false xl1])) (fun (_ : Unit) => K (.exit 0) (stOf [(4, [])] [.v .any] [.rows 1 false xl0, .rows 1 false xl1])) n x2
  | 0, _ => rfl
  | n + 1, x2 => (show loopN 2 (Code.den ti (laws_within.Γ k) (laws_within.LH k) (loopAt Tryd.f13 0)) [(0, [some 1]), (1, [some 1]), (5, [])] [(4, [])] K (n + 1) [.v (.sl 0), .v (.sl 1), .v (.int .i64 x2)] [.rows 1 false xl0, .rows 1 false xl1] = laws_within.L2 k xl0 xl1 (fun (z0 : Bool) => K .ret (stOf [(4, [])] [.v (.bool z0)] [.rows 1 false xl0, .rows 1 false xl1])) (fun (_ : Unit) => K (.exit 0) (stOf [(4, [])] [.v .any] [.rows 1 false xl0, .rows 1 false xl1])) (fun (x2' : Int) => loopN 2 (Code.den ti (laws_within.Γ k) (laws_within.LH k) (loopAt Tryd.f13 0)) [(0, [some 1]), (1, [some 1]), (5, [])] [(4, [])] K n [.v (.sl 0), .v (.sl 1), .v (.int .i64 x2')] [.rows 1 false xl0, .rows 1 false xl1]) x2 by kernel_rfl).trans (congrArg (fun rec => laws_within.L2 k xl0 xl1 (fun (z0 : Bool) => K .ret (stOf [(4, [])] [.v (.bool z0)] [.rows 1 false xl0, .rows 1 false xl1])) (fun (_ : Unit) => K (.exit 0) (stOf [(4, [])] [.v .any] [.rows 1 false xl0, .rows 1 false xl1])) rec x2) (funext fun x2' => laws_within.e2 K k xl0 xl1 n x2'))
theorem laws_within.q2 (k : Nat) {R : Type} (K : Ex → St κ → Option R) (vs : List AV) (bs : List (Blk κ)) (r : R) (h : laws_within.h2 k K vs bs = some r) : ∃ n, loopN 2 (Code.den ti (laws_within.Γ k) (laws_within.LH k) (loopAt Tryd.f13 0)) [(0, [some 1]), (1, [some 1]), (5, [])] [(4, [])] K n vs bs = some r := by
  unfold laws_within.h2 at h
  split at h
  · obtain ⟨_, rfl, h_1⟩ := asO_bind h
    obtain ⟨_, rfl, h_2⟩ := asO_bind h_1
    exact ⟨k, (laws_within.e2 K k _ _ k _).trans h_2⟩
  · cases h
theorem laws_within.lok (k : Nat) : LOK ti (laws_within.Γ k) (laws_within.LH k) 2 (loopsOf (bodyOf Tryd.f13)) :=
  (show loopsOf (bodyOf Tryd.f13) = [loopAt Tryd.f13 0] by kernel_rfl) ▸ (LOK_cons (g := ⟨2, [(0, [some 1]), (1, [some 1]), (5, [])], [(4, [])], @laws_within.h2 k⟩) (by kernel_rfl) rfl (fun K vs xs r h => laws_within.q2 k K vs xs r h) (LOK_nil))
def laws_within.sig : List PSh := [.one (.ro 1), .one (.ro 1)]
def laws_within.g (y : Bool) : Ret κ := ⟨.v (.bool y), [], []⟩
def laws_within.out (r : Ret κ) : Option Bool :=
  match r with
  | ⟨.v (.bool z0), [], []⟩ => some (z0)
  | _ => none
theorem laws_within.out_ok (r : Ret κ) (y : Bool) (h : laws_within.out r = some y) : r = laws_within.g y := by
  unfold laws_within.out at h
  split at h
  · obtain rfl := Option.some.inj h
    rfl
  · cases h
def laws_within.body (k : Nat) (vs : List AV) (bs : List (Blk κ)) : Option (Lf κ) :=
  match vs, bs with
  | [.v (.sl 0), .v (.sl 1)], [qb0, qb1] => (asO 1 false qb0).bind fun a0 => (asO 1 false qb1).bind fun a1 => some ⟨Bool, laws_within.f k a0 a1, laws_within.g⟩
  | _, _ => none
def laws_within.C (k : Nat) : Nat → List AV → AP κ AV := contract laws_within.sig (laws_within.body k)
theorem laws_within.den (k : Nat) (a0 : List Int) (a1 : List Int) : Code.den ti (laws_within.Γ k) (laws_within.LH k) (bodyOf Tryd.f13) (finK ti Tryd.f13.results.toList [] (flags laws_within.sig).length (rwI (flags laws_within.sig) 0) laws_within.out) ⟨envOf (([.v (.sl 0), .v (.sl 1)]).zipIdx.map fun q => (q.2, q.1)), hpOf [.rows 1 false a0, .rows 1 false a1], (flags laws_within.sig).length⟩ = laws_within.f k a0 a1 := by kernel_rfl
theorem laws_within.ok (k : Nat) : CSound Tryd.prog 13 (laws_within.C k) :=
  csound κ_ok mixed tok (laws_within.hΓ k) (LH := laws_within.LH k) (fn := Tryd.f13) (c := bodyOf Tryd.f13) Tryd.func13 rfl Tryd.call13 laws_within.sig [] (laws_within.body k) (by kernel_rfl) (laws_within.lok k) (by decide) fun vs bs lf y hl hb hy => by
    unfold laws_within.body at hb
    split at hb
    · obtain ⟨_, rfl, hb_1⟩ := asO_bind hb
      obtain ⟨_, rfl, hb_2⟩ := asO_bind hb_1
      obtain rfl := Option.some.inj hb_2
      exact ⟨laws_within.out, laws_within.out_ok, (laws_within.den k _ _).trans hy⟩
    · cases hb
/-! ### strconv_Itoa -/
def strconv_Itoa.f (k : Nat) (x : Int) : Option ByteArray := itoaS x
def strconv_Itoa.C (k : Nat) : Nat → List AV → AP κ AV := contract [.one .sc] (itoaB κ itoaS)
theorem strconv_Itoa.ok (k : Nat) : CSound Tryd.prog 24 (strconv_Itoa.C k) :=
  itoa_sound κ_ok Tryd.call24 itoaS fun n y w h hp => itoaS_calls Tryd.laysItoa n y w h
/-! ### impl_FormatInt -/
def impl_FormatInt.f (k : Nat) (a0 : Int) : Option ByteArray :=
  (strconv_Itoa.f k a0).bind fun t1 => some t1
def impl_FormatInt.Γ (k : Nat) : Ct κ := assoc [(24, strconv_Itoa.C k)]
def impl_FormatInt.LH (k : Nat) : Nat → Option (LHi κ) := assoc []
theorem impl_FormatInt.hΓ (k : Nat) : ∀ f g, impl_FormatInt.Γ k f = some g → CSound Tryd.prog f g := G_cons (strconv_Itoa.ok k) G_nil
theorem impl_FormatInt.lok (k : Nat) : LOK ti (impl_FormatInt.Γ k) (impl_FormatInt.LH k) 0 (loopsOf (bodyOf Tryd.f19)) :=
  (show loopsOf (bodyOf Tryd.f19) = [] by kernel_rfl) ▸ LOK_nil
def impl_FormatInt.sig : List PSh := [.one .sc]
def impl_FormatInt.g (y : ByteArray) : Ret κ := ⟨.v (.str y), [], []⟩
def impl_FormatInt.out (r : Ret κ) : Option ByteArray :=
  match r with
  | ⟨.v (.str z0), [], []⟩ => some (z0)
  | _ => none
theorem impl_FormatInt.out_ok (r : Ret κ) (y : ByteArray) (h : impl_FormatInt.out r = some y) : r = impl_FormatInt.g y := by
  unfold impl_FormatInt.out at h
  split at h
  · obtain rfl := Option.some.inj h
    rfl
  · cases h
def impl_FormatInt.body (k : Nat) (vs : List AV) (bs : List (Blk κ)) : Option (Lf κ) :=
  match vs, bs with
  | [.v (.int .i64 a0)], [] => some ⟨ByteArray, impl_FormatInt.f k a0, impl_FormatInt.g⟩
  | _, _ => none
def impl_FormatInt.C (k : Nat) : Nat → List AV → AP κ AV := contract impl_FormatInt.sig (impl_FormatInt.body k)
theorem impl_FormatInt.den (k : Nat) (a0 : Int) : Code.den ti (impl_FormatInt.Γ k) (impl_FormatInt.LH k) (bodyOf Tryd.f19) (finK ti Tryd.f19.results.toList [] (flags impl_FormatInt.sig).length (rwI (flags impl_FormatInt.sig) 0) impl_FormatInt.out) ⟨envOf (([.v (.int .i64 a0)]).zipIdx.map fun q => (q.2, q.1)), hpOf [], (flags impl_FormatInt.sig).length⟩ = impl_FormatInt.f k a0 := by kernel_rfl
theorem impl_FormatInt.ok (k : Nat) : CSound Tryd.prog 19 (impl_FormatInt.C k) :=
  csound κ_ok mixed tok (impl_FormatInt.hΓ k) (LH := impl_FormatInt.LH k) (fn := Tryd.f19) (c := bodyOf Tryd.f19) Tryd.func19 rfl Tryd.call19 impl_FormatInt.sig [] (impl_FormatInt.body k) (by kernel_rfl) (impl_FormatInt.lok k) (by decide) fun vs bs lf y hl hb hy => by
    unfold impl_FormatInt.body at hb
    split at hb
    · obtain rfl := Option.some.inj hb
      exact ⟨impl_FormatInt.out, impl_FormatInt.out_ok, (impl_FormatInt.den k _).trans hy⟩
    · cases hb
/-! ### strings_Join -/
def strings_Join.f (k : Nat) (l : List ByteArray) (x : ByteArray) : Option ByteArray := joinF l x
def strings_Join.C (k : Nat) : Nat → List AV → AP κ AV := contract [.one (.rw 2), .one .sc] (joinB 2 κ joinF)
theorem strings_Join.ok (k : Nat) : CSound Tryd.prog 20 (strings_Join.C k) :=
  join_sound κ_ok rfl Tryd.laysJoin Tryd.builderExtra Tryd.call20 2 rfl (fun x => x) (fun _ => rfl) joinF joinF_ok
/-! ### impl_LabelText -/
def impl_LabelText.L3 {R : Type} (k : Nat) (x2 : Int) (xl1 : List Int) (X0 : List ByteArray → Option R) (rec : Int → List ByteArray → Option R) (x3 : Int) (xl0 : List ByteArray) : Option R :=
  (bif decide (x3 < x2) then (bif decide (0 ≤ x3) then (bif decide (x3 < (xl1.length : Int)) then (impl_FormatInt.f k (rd_i64 xl1 x3)).bind fun t2 => (bif decide ((xl0.length + ([t2] : List ByteArray).length) * 16 ≤ cap48) then (rec (w64 (x3 + (1 : Int))) (xl0 ++ ([t2] : List ByteArray))) else none) else none) else none) else (X0 xl0))
def impl_LabelText.l3 {R : Type} (k : Nat) (x2 : Int) (xl1 : List Int) (X0 : List ByteArray → Option R) : Nat → Int → List ByteArray → Option R
  | 0 => fun _ _ => none
  | n + 1 => impl_LabelText.L3 k x2 xl1 X0 (impl_LabelText.l3 k x2 xl1 X0 n)
def impl_LabelText.f (k : Nat) (a0 : Int) : Option ByteArray :=
  (impl_OwnersIn.f k a0).bind fun t1 => (impl_LabelText.l3 k (t1.length : Int) t1 (fun (y3 : List ByteArray) => (bif ((y3.length : Int) == (0 : Int)) then some (ByteArray.mk #[45]) else (strings_Join.f k y3 (ByteArray.mk #[43])).bind fun t4 => some t4)) k (0 : Int) ([] : List ByteArray))
def impl_LabelText.h3 (k : Nat) {R : Type} (K : Ex → St κ → Option R) (vs : List AV) (bs : List (Blk κ)) : Option R :=
  match vs, bs with
  | [.v (.sl 0), .v (.sl 1), .v (.int .i64 x2), .v (.int .i64 x3)], [qb0, qb1] => (asO 2 true qb0).bind fun xl0 => (asO 1 true qb1).bind fun xl1 => impl_LabelText.l3 k x2 xl1 (fun (zl0 : List ByteArray) => K (.exit 0) (stOf [(3, [some 2])] [.v (.sl 0)] [.rows 2 true zl0])) k x3 xl0
  | _, _ => none
def impl_LabelText.Γ (k : Nat) : Ct κ := assoc [(9, impl_OwnersIn.C k), (19, impl_FormatInt.C k), (20, strings_Join.C k)]
def impl_LabelText.LH (k : Nat) : Nat → Option (LHi κ) := assoc [(3, ⟨0, [(3, [some 2]), (8, [some 1]), (9, []), (10, [])], [(3, [some 2])], @impl_LabelText.h3 k⟩)]
theorem impl_LabelText.hΓ (k : Nat) : ∀ f g, impl_LabelText.Γ k f = some g → CSound Tryd.prog f g := G_cons (impl_OwnersIn.ok k) (G_cons (impl_FormatInt.ok k) (G_cons (strings_Join.ok k) G_nil))
theorem impl_LabelText.e3 {R : Type} (K : Ex → St κ → Option R) (k : Nat) (x2 : Int) (xl1 : List Int) : ∀ (n : Nat) (x3 : Int) (xl0 : List ByteArray), loopN 0 (Code.den ti (impl_LabelText.Γ k) (impl_LabelText.LH k) (loopAt Tryd.f14 0)) [(3, [some 2]), (8, [some 1]), (9, []), (10, [])] [(3, [some 2])] K n [.v (.sl 0), .v (.sl 1), .v (.int .i64 x2), .v (.int .i64 x3)] [.rows 2 true xl0, .rows 1 true xl1] = impl_LabelText.l3 k x2 xl1 (fun (zl0 : List ByteArray) => K (.exit 0) (stOf [(3, [some 2])] [.v (.sl 0)] [.rows 2 true zl0])) n x3 xl0
  | 0, _, _ => rfl
  | n + 1, x3, xl0 => (show loopN 0 (Code.den ti (impl_LabelText.Γ k) (impl_LabelText.LH k) (loopAt Tryd.f14 0)) [(3, [some 2]), (8, [some 1]), (9, []), (10, [])] [(3, [some 2])] K (n + 1) [.v (.sl 0), .v (.sl 1), .v (.int .i64 x2), .v (.int .i64 x3)] [.rows 2 true xl0, .rows 1 true xl1] = impl_LabelText.L3 k x2 xl1 (fun (zl0 : List ByteArray) => K (.exit 0) (stOf [(3, [some 2])] [.v (.sl 0)] [.rows 2 true zl0])) (fun (x3' : Int) (xl0' : List ByteArray) => loopN 0 (Code.den ti (impl_LabelText.Γ k) (impl_LabelText.LH k) (loopAt Tryd.f14 0)) [(3, [some 2]), (8, [some 1]), (9, []), (10, [])] [(3, [some 2])] K n [.v (.sl 0), .v (.sl 1), .v (.int .i64 x2), .v (.int .i64 x3')] [.rows 2 true xl0', .rows 1 true xl1]) x3 xl0 by kernel_rfl).trans (congrArg (fun rec => impl_LabelText.L3 k x2 xl1 (fun (zl0 : List ByteArray) => K (.exit 0) (stOf [(3, [some 2])] [.v (.sl 0)] [.rows 2 true zl0])) rec x3 xl0) (funext fun x3' => funext fun xl0' => impl_LabelText.e3 K k x2 xl1 n x3' xl0'))
theorem impl_LabelText.q3 (k : Nat) {R : Type} (K : Ex → St κ → Option R) (vs : List AV) (bs : List (Blk κ)) (r : R) (h : impl_LabelText.h3 k K vs bs = some r) : ∃ n, loopN 0 (Code.den ti (impl_LabelText.Γ k) (impl_LabelText.LH k) (loopAt Tryd.f14 0)) [(3, [some 2]), (8, [some 1]), (9, []), (10, [])] [(3, [some 2])] K n vs bs = some r := by
  unfold impl_LabelText.h3 at h
  split at h
  · obtain ⟨_, rfl, h_1⟩ := asO_bind h
    obtain ⟨_, rfl, h_2⟩ := asO_bind h_1
    exact ⟨k, (impl_LabelText.e3 K k _ _ k _ _).trans h_2⟩
  · cases h
theorem impl_LabelText.lok (k : Nat) : LOK ti (impl_LabelText.Γ k) (impl_LabelText.LH k) 0 (loopsOf (bodyOf Tryd.f14)) :=
  (show loopsOf (bodyOf Tryd.f14) = [loopAt Tryd.f14 0] by kernel_rfl) ▸ (LOK_cons (g := ⟨0, [(3, [some 2]), (8, [some 1]), (9, []), (10, [])], [(3, [some 2])], @impl_LabelText.h3 k⟩) (by kernel_rfl) rfl (fun K vs xs r h => impl_LabelText.q3 k K vs xs r h) (LOK_nil))
def impl_LabelText.sig : List PSh := [.one .sc]
def impl_LabelText.g (y : ByteArray) : Ret κ := ⟨.v (.str y), [], []⟩
def impl_LabelText.out (r : Ret κ) : Option ByteArray :=
  match r with
  | ⟨.v (.str z0), [], []⟩ => some (z0)
  | _ => none
theorem impl_LabelText.out_ok (r : Ret κ) (y : ByteArray) (h : impl_LabelText.out r = some y) : r = impl_LabelText.g y := by
  unfold impl_LabelText.out at h
  split at h
  · obtain rfl := Option.some.inj h
    rfl
  · cases h
def impl_LabelText.body (k : Nat) (vs : List AV) (bs : List (Blk κ)) : Option (Lf κ) :=
  match vs, bs with
  | [.v (.int .i64 a0)], [] => some ⟨ByteArray, impl_LabelText.f k a0, impl_LabelText.g⟩
  | _, _ => none
def impl_LabelText.C (k : Nat) : Nat → List AV → AP κ AV := contract impl_LabelText.sig (impl_LabelText.body k)
theorem impl_LabelText.den (k : Nat) (a0 : Int) : Code.den ti (impl_LabelText.Γ k) (impl_LabelText.LH k) (bodyOf Tryd.f14) (finK ti Tryd.f14.results.toList [] (flags impl_LabelText.sig).length (rwI (flags impl_LabelText.sig) 0) impl_LabelText.out) ⟨envOf (([.v (.int .i64 a0)]).zipIdx.map fun q => (q.2, q.1)), hpOf [], (flags impl_LabelText.sig).length⟩ = impl_LabelText.f k a0 := by kernel_rfl
theorem impl_LabelText.ok (k : Nat) : CSound Tryd.prog 14 (impl_LabelText.C k) :=
  csound κ_ok mixed tok (impl_LabelText.hΓ k) (LH := impl_LabelText.LH k) (fn := Tryd.f14) (c := bodyOf Tryd.f14) Tryd.func14 rfl Tryd.call14 impl_LabelText.sig [] (impl_LabelText.body k) (by kernel_rfl) (impl_LabelText.lok k) (by decide) fun vs bs lf y hl hb hy => by
    unfold impl_LabelText.body at hb
    split at hb
    · obtain rfl := Option.some.inj hb
      exact ⟨impl_LabelText.out, impl_LabelText.out_ok, (impl_LabelText.den k _).trans hy⟩
    · cases hb
/-! ### laws_FnLabels -/
def laws_FnLabels.L11 {R : Type} (k : Nat) (x1 : Int) (x2 : Int) (x3 : Int) (xl0 : List Int) (X0 : Bool → Option R) (X1 : Unit → Option R) (rec : Int → Option R) (x4 : Int) : Option R :=
  (bif decide (x4 ≤ (9 : Int)) then (impl_OwnersIn.f k x3).bind fun t14 => (laws_contains.f k t14 x4).bind fun t15 => (impl_OwnersIn.f k x1).bind fun t16 => (laws_contains.f k t16 x4).bind fun t17 => (bif t17 then (bif !(t15 == true) then (X0 false) else (rec (w64 (x4 + (1 : Int))))) else (impl_OwnersIn.f k x2).bind fun t18 => (laws_contains.f k t18 x4).bind fun t19 => (bif !(t15 == t19) then (X0 false) else (rec (w64 (x4 + (1 : Int)))))) else (X1 ()))
def laws_FnLabels.l11 {R : Type} (k : Nat) (x1 : Int) (x2 : Int) (x3 : Int) (xl0 : List Int) (X0 : Bool → Option R) (X1 : Unit → Option R) : Nat → Int → Option R
  | 0 => fun _ => none
  | n + 1 => laws_FnLabels.L11 k x1 x2 x3 xl0 X0 X1 (laws_FnLabels.l11 k x1 x2 x3 xl0 X0 X1 n)
def laws_FnLabels.f (k : Nat) (a0 : List Int) : Option Bool :=
  (laws_big.f k a0).bind fun t1 => (bif t1 then some true else (spec_DrawJoinLabels.f k a0).bind fun t2 => (impl_JoinLabels.f k t2.1 t2.2).bind fun t3 => (impl_JoinLabels.f k t2.2 t2.1).bind fun t4 => (bif (t3 != t4) then some false else (impl_IsLabel.f k t3).bind fun t5 => (bif !t5 then some false else (impl_IsLabel.f k t2.1).bind fun t6 => (bif t6 then (impl_OwnersIn.f k t2.1).bind fun t7 => (impl_LabelOf.f k t7).bind fun t8 => (bif (t8 != t2.1) then some false else (impl_IsLabel.f k t2.1).bind fun t9 => (bif t9 then (impl_IsLabel.f k t2.2).bind fun t10 => (bif t10 then (impl_LabelWithin.f k t2.1 t3).bind fun t11 => (bif !t11 then some false else (impl_LabelWithin.f k t2.2 t3).bind fun t12 => (bif !t12 then some false else (impl_LabelWithin.f k t2.1 t2.2).bind fun t13 => (bif !(t13 == (t3 == t2.2)) then some false else (laws_FnLabels.l11 k t2.1 t2.2 t3 a0 (fun (y20 : Bool) => some y20) (fun (_ : Unit) => (spec_DrawLabelOf.f k a0).bind fun t21 => (impl_LabelOf.f k t21).bind fun t22 => (impl_IsLabel.f k t22).bind fun t23 => (bif t23 then (impl_LabelOf.f k t21).bind fun t24 => (impl_OwnersIn.f k t24).bind fun t25 => (laws_within.f k t25 t21).bind fun t26 => (bif t26 then (impl_LabelText.f k t2.1).bind fun t27 => (impl_OwnersIn.f k t2.1).bind fun t28 => some ((t27.toList == (ByteArray.mk #[45]).toList) == ((t28.length : Int) == (0 : Int))) else some false) else some false)) k (1 : Int))))) else (spec_DrawLabelOf.f k a0).bind fun t29 => (impl_LabelOf.f k t29).bind fun t30 => (impl_IsLabel.f k t30).bind fun t31 => (bif t31 then (impl_LabelOf.f k t29).bind fun t32 => (impl_OwnersIn.f k t32).bind fun t33 => (laws_within.f k t33 t29).bind fun t34 => (bif t34 then (impl_LabelText.f k t2.1).bind fun t35 => (impl_OwnersIn.f k t2.1).bind fun t36 => some ((t35.toList == (ByteArray.mk #[45]).toList) == ((t36.length : Int) == (0 : Int))) else some false) else some false)) else (spec_DrawLabelOf.f k a0).bind fun t37 => (impl_LabelOf.f k t37).bind fun t38 => (impl_IsLabel.f k t38).bind fun t39 => (bif t39 then (impl_LabelOf.f k t37).bind fun t40 => (impl_OwnersIn.f k t40).bind fun t41 => (laws_within.f k t41 t37).bind fun t42 => (bif t42 then (impl_LabelText.f k t2.1).bind fun t43 => (impl_OwnersIn.f k t2.1).bind fun t44 => some ((t43.toList == (ByteArray.mk #[45]).toList) == ((t44.length : Int) == (0 : Int))) else some false) else some false))) else (impl_IsLabel.f k t2.1).bind fun t45 => (bif t45 then (impl_IsLabel.f k t2.2).bind fun t46 => (bif t46 then (impl_LabelWithin.f k t2.1 t3).bind fun t47 => (bif !t47 then some false else (impl_LabelWithin.f k t2.2 t3).bind fun t48 => (bif !t48 then some false else (impl_LabelWithin.f k t2.1 t2.2).bind fun t49 => (bif !(t49 == (t3 == t2.2)) then some false else (laws_FnLabels.l11 k t2.1 t2.2 t3 a0 (fun (y50 : Bool) => some y50) (fun (_ : Unit) => (spec_DrawLabelOf.f k a0).bind fun t51 => (impl_LabelOf.f k t51).bind fun t52 => (impl_IsLabel.f k t52).bind fun t53 => (bif t53 then (impl_LabelOf.f k t51).bind fun t54 => (impl_OwnersIn.f k t54).bind fun t55 => (laws_within.f k t55 t51).bind fun t56 => (bif t56 then (impl_LabelText.f k t2.1).bind fun t57 => (impl_OwnersIn.f k t2.1).bind fun t58 => some ((t57.toList == (ByteArray.mk #[45]).toList) == ((t58.length : Int) == (0 : Int))) else some false) else some false)) k (1 : Int))))) else (spec_DrawLabelOf.f k a0).bind fun t59 => (impl_LabelOf.f k t59).bind fun t60 => (impl_IsLabel.f k t60).bind fun t61 => (bif t61 then (impl_LabelOf.f k t59).bind fun t62 => (impl_OwnersIn.f k t62).bind fun t63 => (laws_within.f k t63 t59).bind fun t64 => (bif t64 then (impl_LabelText.f k t2.1).bind fun t65 => (impl_OwnersIn.f k t2.1).bind fun t66 => some ((t65.toList == (ByteArray.mk #[45]).toList) == ((t66.length : Int) == (0 : Int))) else some false) else some false)) else (spec_DrawLabelOf.f k a0).bind fun t67 => (impl_LabelOf.f k t67).bind fun t68 => (impl_IsLabel.f k t68).bind fun t69 => (bif t69 then (impl_LabelOf.f k t67).bind fun t70 => (impl_OwnersIn.f k t70).bind fun t71 => (laws_within.f k t71 t67).bind fun t72 => (bif t72 then (impl_LabelText.f k t2.1).bind fun t73 => (impl_OwnersIn.f k t2.1).bind fun t74 => some ((t73.toList == (ByteArray.mk #[45]).toList) == ((t74.length : Int) == (0 : Int))) else some false) else some false))))))
def laws_FnLabels.h11 (k : Nat) {R : Type} (K : Ex → St κ → Option R) (vs : List AV) (bs : List (Blk κ)) : Option R :=
  match vs, bs with
  | [.v (.sl 0), .v (.int .i64 x1), .v (.int .i64 x2), .v (.int .i64 x3), .v (.int .i64 x4)], [qb0] => (asO 0 false qb0).bind fun xl0 => laws_FnLabels.l11 k x1 x2 x3 xl0 (fun (z1 : Bool) => K .ret (stOf [(0, [some 0]), (2, []), (3, [])] [.v (.sl 0), .v (.bool z1), .v (.int .i64 x1)] [.rows 0 false xl0])) (fun (_ : Unit) => K (.exit 0) (stOf [(0, [some 0]), (2, []), (3, [])] [.v (.sl 0), .v .any, .v (.int .i64 x1)] [.rows 0 false xl0])) k x4
  | _, _ => none
def laws_FnLabels.Γ (k : Nat) : Ct κ := assoc [(4, laws_big.C k), (5, spec_DrawJoinLabels.C k), (6, impl_JoinLabels.C k), (7, impl_IsLabel.C k), (9, impl_OwnersIn.C k), (8, impl_LabelOf.C k), (10, impl_LabelWithin.C k), (11, laws_contains.C k), (12, spec_DrawLabelOf.C k), (13, laws_within.C k), (14, impl_LabelText.C k)]
def laws_FnLabels.LH (k : Nat) : Nat → Option (LHi κ) := assoc [(11, ⟨1, [(0, [some 0]), (3, []), (4, []), (5, []), (6, [])], [(0, [some 0]), (2, []), (3, [])], @laws_FnLabels.h11 k⟩)]
theorem laws_FnLabels.hΓ (k : Nat) : ∀ f g, laws_FnLabels.Γ k f = some g → CSound Tryd.prog f g := G_cons (laws_big.ok k) (G_cons (spec_DrawJoinLabels.ok k) (G_cons (impl_JoinLabels.ok k) (G_cons (impl_IsLabel.ok k) (G_cons (impl_OwnersIn.ok k) (G_cons (impl_LabelOf.ok k) (G_cons (impl_LabelWithin.ok k) (G_cons (laws_contains.ok k) (G_cons (spec_DrawLabelOf.ok k) (G_cons (laws_within.ok k) (G_cons (impl_LabelText.ok k) G_nil))))))))))
theorem laws_FnLabels.e11 {R : Type} (K : Ex → St κ → Option R) (k : Nat) (x1 : Int) (x2 : Int) (x3 : Int) (xl0 : List Int) : ∀ (n : Nat) (x4 : Int), loopN 1 (Code.den ti (laws_FnLabels.Γ k) (laws_FnLabels.LH k) (loopAt Tryd.f3 0)) [(0, [some 0]), (3, []), (4, []), (5, []), (6, [])] [(0, [some 0]), (2, []), (3, [])] K n [.v (.sl 0), .v (.int .i64 x1), .v (.int .i64 x2), .v (.int .i64 x3), .v (.int .i64 x4)] [.rows 0 false xl0] = laws_FnLabels.l11 k x1 x2 x3 xl0 (fun (z1 : Bool) => K .ret (stOf [(0, [some 0]), (2, []), (3, [])] [.v (.sl 0), .v (.bool z1), .v (.int .i64 x1)] [.rows 0 false xl0])) (fun (_ : Unit) => K (.exit 0) (stOf [(0, [some 0]), (2, []), (3, [])] [.v (.sl 0), .v .any, .v (.int .i64 x1)] [.rows 0 false xl0])) n x4
  | 0, _ => rfl
  | n + 1, x4 => (show loopN 1 (Code.den ti (laws_FnLabels.Γ k) (laws_FnLabels.LH k) (loopAt Tryd.f3 0)) [(0, [some 0]), (3, []), (4, []), (5, []), (6, [])] [(0, [some 0]), (2, []), (3, [])] K (n + 1) [.v (.sl 0), .v (.int .i64 x1), .v (.int .i64 x2), .v (.int .i64 x3), .v (.int .i64 x4)] [.rows 0 false xl0] = laws_FnLabels.L11 k x1 x2 x3 xl0 (fun (z1 : Bool) => K .ret (stOf [(0, [some 0]), (2, []), (3, [])] [.v (.sl 0), .v (.bool z1), .v (.int .i64 x1)] [.rows 0 false xl0])) (fun (_ : Unit) => K (.exit 0) (stOf [(0, [some 0]), (2, []), (3, [])] [.v (.sl 0), .v .any, .v (.int .i64 x1)] [.rows 0 false xl0])) (fun (x4' : Int) => loopN 1 (Code.den ti (laws_FnLabels.Γ k) (laws_FnLabels.LH k) (loopAt Tryd.f3 0)) [(0, [some 0]), (3, []), (4, []), (5, []), (6, [])] [(0, [some 0]), (2, []), (3, [])] K n [.v (.sl 0), .v (.int .i64 x1), .v (.int .i64 x2), .v (.int .i64 x3), .v (.int .i64 x4')] [.rows 0 false xl0]) x4 by kernel_rfl).trans (congrArg (fun rec => laws_FnLabels.L11 k x1 x2 x3 xl0 (fun (z1 : Bool) => K .ret (stOf [(0, [some 0]), (2, []), (3, [])] [.v (.sl 0), .v (.bool z1), .v (.int .i64 x1)] [.rows 0 false xl0])) (fun (_ : Unit) => K (.exit 0) (stOf [(0, [some 0]), (2, []), (3, [])] [.v (.sl 0), .v .any, .v (.int .i64 x1)] [.rows 0 false xl0])) rec x4) (funext fun x4' => laws_FnLabels.e11 K k x1 x2 x3 xl0 n x4'))
theorem laws_FnLabels.q11 (k : Nat) {R : Type} (K : Ex → St κ → Option R) (vs : List AV) (bs : List (Blk κ)) (r : R) (h : laws_FnLabels.h11 k K vs bs = some r) : ∃ n, loopN 1 (Code.den ti (laws_FnLabels.Γ k) (laws_FnLabels.LH k) (loopAt Tryd.f3 0)) [(0, [some 0]), (3, []), (4, []), (5, []), (6, [])] [(0, [some 0]), (2, []), (3, [])] K n vs bs = some r := by
  unfold laws_FnLabels.h11 at h
  split at h
  · obtain ⟨_, rfl, h_1⟩ := asO_bind h
    exact ⟨k, (laws_FnLabels.e11 K k _ _ _ _ k _).trans h_1⟩
  · cases h
theorem laws_FnLabels.lok (k : Nat) : LOK ti (laws_FnLabels.Γ k) (laws_FnLabels.LH k) 1 (loopsOf (bodyOf Tryd.f3)) :=
  (show loopsOf (bodyOf Tryd.f3) = [loopAt Tryd.f3 0] by kernel_rfl) ▸ (LOK_cons (g := ⟨1, [(0, [some 0]), (3, []), (4, []), (5, []), (6, [])], [(0, [some 0]), (2, []), (3, [])], @laws_FnLabels.h11 k⟩) (by kernel_rfl) rfl (fun K vs xs r h => laws_FnLabels.q11 k K vs xs r h) (LOK_nil))
def laws_FnLabels.sig : List PSh := [.one (.ro 0)]
def laws_FnLabels.g (y : Bool) : Ret κ := ⟨.v (.bool y), [], []⟩
def laws_FnLabels.out (r : Ret κ) : Option Bool :=
  match r with
  | ⟨.v (.bool z0), [], []⟩ => some (z0)
  | _ => none
theorem laws_FnLabels.out_ok (r : Ret κ) (y : Bool) (h : laws_FnLabels.out r = some y) : r = laws_FnLabels.g y := by
  unfold laws_FnLabels.out at h
  split at h
  · obtain rfl := Option.some.inj h
    rfl
  · cases h
def laws_FnLabels.body (k : Nat) (vs : List AV) (bs : List (Blk κ)) : Option (Lf κ) :=
  match vs, bs with
  | [.v (.sl 0)], [qb0] => (asO 0 false qb0).bind fun a0 => some ⟨Bool, laws_FnLabels.f k a0, laws_FnLabels.g⟩
  | _, _ => none
def laws_FnLabels.C (k : Nat) : Nat → List AV → AP κ AV := contract laws_FnLabels.sig (laws_FnLabels.body k)
theorem laws_FnLabels.den (k : Nat) (a0 : List Int) : Code.den ti (laws_FnLabels.Γ k) (laws_FnLabels.LH k) (bodyOf Tryd.f3) (finK ti Tryd.f3.results.toList [] (flags laws_FnLabels.sig).length (rwI (flags laws_FnLabels.sig) 0) laws_FnLabels.out) ⟨envOf (([.v (.sl 0)]).zipIdx.map fun q => (q.2, q.1)), hpOf [.rows 0 false a0], (flags laws_FnLabels.sig).length⟩ = laws_FnLabels.f k a0 := by kernel_rfl
theorem laws_FnLabels.ok (k : Nat) : CSound Tryd.prog 3 (laws_FnLabels.C k) :=
  csound κ_ok mixed tok (laws_FnLabels.hΓ k) (LH := laws_FnLabels.LH k) (fn := Tryd.f3) (c := bodyOf Tryd.f3) Tryd.func3 rfl Tryd.call3 laws_FnLabels.sig [] (laws_FnLabels.body k) (by kernel_rfl) (laws_FnLabels.lok k) (by decide) fun vs bs lf y hl hb hy => by
    unfold laws_FnLabels.body at hb
    split at hb
    · obtain ⟨_, rfl, hb_1⟩ := asO_bind hb
      obtain rfl := Option.some.inj hb_1
      exact ⟨laws_FnLabels.out, laws_FnLabels.out_ok, (laws_FnLabels.den k _).trans hy⟩
    · cases hb
end Go.Proofs.YthjdecnheaifkaaDoor.PFnLabels
