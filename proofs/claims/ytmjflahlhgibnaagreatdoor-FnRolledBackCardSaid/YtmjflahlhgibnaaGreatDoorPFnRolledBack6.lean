/- What the functions that the law FnRolledBack reaches come to; no conditions. -/
import Derived.Test.YtmjflahlhgibnaaGreatDoorPFnRolledBack5
set_option linter.unusedVariables false
set_option maxRecDepth 100000
namespace Go.Proofs.YtmjflahlhgibnaaGreatDoor.PFnRolledBack
open Go Go.Eng Go.Proofs
/-! ### slices_Clone_Stored -/
def slices_Clone_Stored.f (k : Nat) (l : List T_impl_Stored) : Option (List T_impl_Stored) := cloneF 6 κ l
def slices_Clone_Stored.C (k : Nat) : Nat → List AV → AP κ AV := contract [.one (.ro 6)] (cloneB 6 κ)
theorem slices_Clone_Stored.ok (k : Nat) : CSound Tryz.prog 22 (slices_Clone_Stored.C k) :=
  clone_sound κ_ok mixed tok (fn := Tryz.f22) 6 Tryz.func22 rfl Tryz.call22 rfl rfl rfl rfl rfl rfl Tryz.underlying24 rfl (by kernel_rfl) (by kernel_rfl) (by kernel_rfl) rfl rfl rfl (fun l => by kernel_rfl) (fun q l => by cases q <;> kernel_rfl)
/-! ### impl_DropStored -/
def impl_DropStored.L3 {R : Type} (k : Nat) (x0 : Int) (x3 : Int) (xl0 : List T_impl_Stored) (X0 : List T_impl_Stored → Option R) (rec : Int → List T_impl_Stored → Option R) (x4 : Int) (xl1 : List T_impl_Stored) : Option R :=
  (bif decide (x4 < x3) then (bif decide (0 ≤ x4) then (bif decide (x4 < (xl0.length : Int)) then (bif ((rd_impl_Stored xl0 x4).f0 != x0) then (bif decide ((xl1.length + ([(⟨(rd_impl_Stored xl0 x4).f0, (rd_impl_Stored xl0 x4).f1, (rd_impl_Stored xl0 x4).f2, (rd_impl_Stored xl0 x4).f3⟩ : T_impl_Stored)] : List T_impl_Stored).length) * 32 ≤ cap48) then (let l1 : List T_impl_Stored := (xl1 ++ ([(⟨(rd_impl_Stored xl0 x4).f0, (rd_impl_Stored xl0 x4).f1, (rd_impl_Stored xl0 x4).f2, (rd_impl_Stored xl0 x4).f3⟩ : T_impl_Stored)] : List T_impl_Stored)); (rec (w64 (x4 + (1 : Int))) l1)) else none) else (rec (w64 (x4 + (1 : Int))) xl1)) else none) else none) else (X0 xl1))
def impl_DropStored.l3 {R : Type} (k : Nat) (x0 : Int) (x3 : Int) (xl0 : List T_impl_Stored) (X0 : List T_impl_Stored → Option R) : Nat → Int → List T_impl_Stored → Option R
  | 0 => fun _ _ => none
  | n + 1 => impl_DropStored.L3 k x0 x3 xl0 X0 (impl_DropStored.l3 k x0 x3 xl0 X0 n)
def impl_DropStored.f (k : Nat) (a0 : List T_impl_Stored) (a1 : Int) : Option (List T_impl_Stored) :=
  (impl_DropStored.l3 k a1 (a0.length : Int) a0 (fun (y2 : List T_impl_Stored) => some y2) k (0 : Int) ([] : List T_impl_Stored))
def impl_DropStored.h3 (k : Nat) {R : Type} (K : Ex → St κ → Option R) (vs : List AV) (bs : List (Blk κ)) : Option R :=
  match vs, bs with
  | [.v (.int .i64 x0), .v (.sl 1), .v (.sl 0), .v (.int .i64 x3), .v (.int .i64 x4)], [qb0, qb1] => (asO 6 false qb0).bind fun xl0 => (asO 6 true qb1).bind fun xl1 => impl_DropStored.l3 k x0 x3 xl0 (fun (zl1 : List T_impl_Stored) => K (.exit 0) (stOf [(5, [some 6])] [.v (.sl 1)] [.rows 6 false xl0, .rows 6 true zl1])) k x4 xl1
  | _, _ => none
def impl_DropStored.Γ (k : Nat) : Ct κ := assoc []
def impl_DropStored.LH (k : Nat) : Nat → Option (LHi κ) := assoc [(3, ⟨1, [(1, []), (5, [some 6]), (9, [some 6]), (10, []), (11, [])], [(5, [some 6])], @impl_DropStored.h3 k⟩)]
theorem impl_DropStored.hΓ (k : Nat) : ∀ f g, impl_DropStored.Γ k f = some g → CSound Tryz.prog f g := G_nil
theorem impl_DropStored.e3 {R : Type} (K : Ex → St κ → Option R) (k : Nat) (x0 : Int) (x3 : Int) (xl0 : List T_impl_Stored) : ∀ (n : Nat) (x4 : Int) (xl1 : List T_impl_Stored), loopN 1 (Code.den ti (impl_DropStored.Γ k) (impl_DropStored.LH k) (loopAt Tryz.f9 0)) [(1, []), (5, [some 6]), (9, [some 6]), (10, []), (11, [])] [(5, [some 6])] K n [.v (.int .i64 x0), .v (.sl 1), .v (.sl 0), .v (.int .i64 x3), .v (.int .i64 x4)] [.rows 6 false xl0, .rows 6 true xl1] = impl_DropStored.l3 k x0 x3 xl0 (fun (zl1 : List T_impl_Stored) => K (.exit 0) (stOf [(5, [some 6])] [.v (.sl 1)] [.rows 6 false xl0, .rows 6 true zl1])) n x4 xl1
  | 0, _, _ => rfl
  | n + 1, x4, xl1 => (show loopN 1 (Code.den ti (impl_DropStored.Γ k) (impl_DropStored.LH k) (loopAt Tryz.f9 0)) [(1, []), (5, [some 6]), (9, [some 6]), (10, []), (11, [])] [(5, [some 6])] K (n + 1) [.v (.int .i64 x0), .v (.sl 1), .v (.sl 0), .v (.int .i64 x3), .v (.int .i64 x4)] [.rows 6 false xl0, .rows 6 true xl1] = impl_DropStored.L3 k x0 x3 xl0 (fun (zl1 : List T_impl_Stored) => K (.exit 0) (stOf [(5, [some 6])] [.v (.sl 1)] [.rows 6 false xl0, .rows 6 true zl1])) (fun (x4' : Int) (xl1' : List T_impl_Stored) => loopN 1 (Code.den ti (impl_DropStored.Γ k) (impl_DropStored.LH k) (loopAt Tryz.f9 0)) [(1, []), (5, [some 6]), (9, [some 6]), (10, []), (11, [])] [(5, [some 6])] K n [.v (.int .i64 x0), .v (.sl 1), .v (.sl 0), .v (.int .i64 x3), .v (.int .i64 x4')] [.rows 6 false xl0, .rows 6 true xl1']) x4 xl1 by kernel_rfl).trans (congrArg (fun rec => impl_DropStored.L3 k x0 x3 xl0 (fun (zl1 : List T_impl_Stored) => K (.exit 0) (stOf [(5, [some 6])] [.v (.sl 1)] [.rows 6 false xl0, .rows 6 true zl1])) rec x4 xl1) (funext fun x4' => funext fun xl1' => impl_DropStored.e3 K k x0 x3 xl0 n x4' xl1'))
theorem impl_DropStored.q3 (k : Nat) {R : Type} (K : Ex → St κ → Option R) (vs : List AV) (bs : List (Blk κ)) (r : R) (h : impl_DropStored.h3 k K vs bs = some r) : ∃ n, loopN 1 (Code.den ti (impl_DropStored.Γ k) (impl_DropStored.LH k) (loopAt Tryz.f9 0)) [(1, []), (5, [some 6]), (9, [some 6]), (10, []), (11, [])] [(5, [some 6])] K n vs bs = some r := by
  unfold impl_DropStored.h3 at h
  split at h
  · obtain ⟨_, rfl, h_1⟩ := asO_bind h
    obtain ⟨_, rfl, h_2⟩ := asO_bind h_1
    exact ⟨k, (impl_DropStored.e3 K k _ _ _ k _ _).trans h_2⟩
  · cases h
theorem impl_DropStored.lok (k : Nat) : LOK ti (impl_DropStored.Γ k) (impl_DropStored.LH k) 1 (loopsOf (bodyOf Tryz.f9)) :=
  (show loopsOf (bodyOf Tryz.f9) = [loopAt Tryz.f9 0] by kernel_rfl) ▸ (LOK_cons (g := ⟨1, [(1, []), (5, [some 6]), (9, [some 6]), (10, []), (11, [])], [(5, [some 6])], @impl_DropStored.h3 k⟩) (by kernel_rfl) rfl (fun K vs xs r h => impl_DropStored.q3 k K vs xs r h) (LOK_nil))
def impl_DropStored.sig : List PSh := [.one (.ro 6), .one .sc]
def impl_DropStored.g (y : List T_impl_Stored) : Ret κ := ⟨.v (.sl 1), [], [.rows 6 true y]⟩
def impl_DropStored.out (r : Ret κ) : Option (List T_impl_Stored) :=
  match r with
  | ⟨.v (.sl 1), [], [q0]⟩ => (asO 6 true q0).bind fun z0 => some (z0)
  | _ => none
theorem impl_DropStored.out_ok (r : Ret κ) (y : List T_impl_Stored) (h : impl_DropStored.out r = some y) : r = impl_DropStored.g y := by
  unfold impl_DropStored.out at h
  split at h
  · obtain ⟨_, rfl, h_1⟩ := asO_bind h
    obtain rfl := Option.some.inj h_1
    rfl
  · cases h
def impl_DropStored.body (k : Nat) (vs : List AV) (bs : List (Blk κ)) : Option (Lf κ) :=
  match vs, bs with
  | [.v (.sl 0), .v (.int .i64 a1)], [qb0] => (asO 6 false qb0).bind fun a0 => some ⟨List T_impl_Stored, impl_DropStored.f k a0 a1, impl_DropStored.g⟩
  | _, _ => none
def impl_DropStored.C (k : Nat) : Nat → List AV → AP κ AV := contract impl_DropStored.sig (impl_DropStored.body k)
theorem impl_DropStored.den (k : Nat) (a0 : List T_impl_Stored) (a1 : Int) : Code.den ti (impl_DropStored.Γ k) (impl_DropStored.LH k) (bodyOf Tryz.f9) (finK ti Tryz.f9.results.toList [(4, [some 6])] (flags impl_DropStored.sig).length (rwI (flags impl_DropStored.sig) 0) impl_DropStored.out) ⟨envOf (([.v (.sl 0), .v (.int .i64 a1)]).zipIdx.map fun q => (q.2, q.1)), hpOf [.rows 6 false a0], (flags impl_DropStored.sig).length⟩ = impl_DropStored.f k a0 a1 := by kernel_rfl
theorem impl_DropStored.ok (k : Nat) : CSound Tryz.prog 9 (impl_DropStored.C k) :=
  csound κ_ok mixed tok (impl_DropStored.hΓ k) (LH := impl_DropStored.LH k) (fn := Tryz.f9) (c := bodyOf Tryz.f9) Tryz.func9 rfl Tryz.call9 impl_DropStored.sig [(4, [some 6])] (impl_DropStored.body k) (by kernel_rfl) (impl_DropStored.lok k) (by decide) fun vs bs lf y hl hb hy => by
    unfold impl_DropStored.body at hb
    split at hb
    · obtain ⟨_, rfl, hb_1⟩ := asO_bind hb
      obtain rfl := Option.some.inj hb_1
      exact ⟨impl_DropStored.out, impl_DropStored.out_ok, (impl_DropStored.den k _ _).trans hy⟩
    · cases hb
/-! ### slices_SortFunc_Stored -/
def slices_SortFunc_Stored.cf (x y : T_impl_Stored) : Int := bif decide (x.f0 < y.f0) then -1 else bif decide (x.f0 > y.f0) then 1 else bif decide (x.f1 < y.f1) then -1 else bif decide (x.f1 > y.f1) then 1 else 0
theorem slices_SortFunc_Stored.val (x y : T_impl_Stored) : impl_compareStored.f 9 x.f0 x.f1 x.f2 x.f3 y.f0 y.f1 y.f2 y.f3 = some (slices_SortFunc_Stored.cf x y) := by
  unfold impl_compareStored.f cmp_Compare_int.f slices_SortFunc_Stored.cf
  simp only [cmp_isNaN_int.f, bne_self_eq_false, Option.bind_some]
  cases decide (x.f0 < y.f0) <;> cases decide (x.f0 > y.f0) <;> cases decide (x.f1 < y.f1) <;> cases decide (x.f1 > y.f1) <;> rfl
theorem slices_SortFunc_Stored.cmp (x y : T_impl_Stored) (w : World) (hp : ∀ p, (κ 0).pin = some p → ∃ o, w.heap[p.1]? = some o ∧ p.2 o) : Calls Tryz.prog 24 #[.agg (encV (κ 6) x).toArray, .agg (encV (κ 6) y).toArray] w fun e w' => e = .returned (.int .i64 (slices_SortFunc_Stored.cf x y)) ∧ ∃ q os', w' = Go.Sort.grow (w.drewN q) os' := by
  refine plain_calls rfl (impl_compareStored.ok 9) (args := [.agg ((κ 6).enc x), .agg ((κ 6).enc y)]) (M := fun _ => undef) rfl (enc_args (κ_ok 6) x y) ?_ w hp
  refine (show _ = (impl_compareStored.f 9 x.f0 x.f1 x.f2 x.f3 y.f0 y.f1 y.f2 y.f3).bind fun y => some (AV.v (.int .i64 y)) by kernel_rfl).trans ?_
  rw [slices_SortFunc_Stored.val]
  rfl
theorem slices_SortFunc_Stored.lt (x y : T_impl_Stored) : Go.Proofs.ltOf slices_SortFunc_Stored.cf x y = (decide (x.f0 < y.f0) || (decide (x.f0 = y.f0) && decide (x.f1 < y.f1))) := by
  unfold Go.Proofs.ltOf slices_SortFunc_Stored.cf
  by_cases h1 : x.f0 < y.f0
  · simp [h1]
  · by_cases h2 : x.f0 > y.f0
    · simp [h1, h2]; omega
    · have h3 : x.f0 = y.f0 := by omega
      by_cases h4 : x.f1 < y.f1
      · simp [h3, h4]
      · by_cases h5 : x.f1 > y.f1 <;> simp [h3, h4, h5]
theorem slices_SortFunc_Stored.swo : Go.Sort.SWO (Go.Proofs.ltOf slices_SortFunc_Stored.cf) where
  irrefl x := by rw [slices_SortFunc_Stored.lt]; simp
  trans x y z h1 h2 := by rw [slices_SortFunc_Stored.lt] at *; simp at *; omega
  ntrans x y z h1 h2 := by rw [slices_SortFunc_Stored.lt] at *; simp at *; omega
def slices_SortFunc_Stored.f (k : Nat) (l : List T_impl_Stored) : Option (List T_impl_Stored) := sortByF z_impl_Stored (Go.Proofs.ltOf slices_SortFunc_Stored.cf) l
def slices_SortFunc_Stored.C (k : Nat) : Nat → List AV → AP κ AV := contract (inSig 6 (some 24)) (inB 6 κ (some 24) (slices_SortFunc_Stored.f k))
theorem slices_SortFunc_Stored.ok (k : Nat) : CSound Tryz.prog 23 (slices_SortFunc_Stored.C k) :=
  sortFunc_sound κ_ok Tryz.laysSortFunc Tryz.call23 6 Tryz.isAgg56 Tryz.sizeOf56 Tryz.call24 slices_SortFunc_Stored.cf slices_SortFunc_Stored.swo slices_SortFunc_Stored.cmp
/-! ### impl_RestoreStore -/
def impl_RestoreStore.L5 {R : Type} (k : Nat) (x4 : Int) (xl0 : List T_impl_Stored) (xl1 : List T_impl_Grant) (xl2 : List T_impl_Flow) (xl3 : List T_impl_Rule) (xl4 : List T_impl_Op) (xl5 : List T_impl_Stored) (xc6_0 : Int) (xc6_1 : Int) (xc6_2 : Int) (xc6_7 : Int) (X0 : Bool → List T_impl_Stored → List T_impl_Stored → Option R) (X1 : List T_impl_Stored → Option R) (rec : Int → List T_impl_Stored → Option R) (x5 : Int) (xl7 : List T_impl_Stored) : Option R :=
  (bif decide (x5 < x4) then (bif decide (0 ≤ x5) then (bif decide (x5 < (xl5.length : Int)) then (bif ((rd_impl_Stored xl5 x5).f0 != xc6_0) then (slices_Clone_Stored.f k xl0).bind fun t6 => (X0 false t6 xl7) else (bif decide ((xl7.length + ([(⟨(rd_impl_Stored xl5 x5).f0, (rd_impl_Stored xl5 x5).f1, (rd_impl_Stored xl5 x5).f2, (rd_impl_Stored xl5 x5).f3⟩ : T_impl_Stored)] : List T_impl_Stored).length) * 32 ≤ cap48) then (let l7 : List T_impl_Stored := (xl7 ++ ([(⟨(rd_impl_Stored xl5 x5).f0, (rd_impl_Stored xl5 x5).f1, (rd_impl_Stored xl5 x5).f2, (rd_impl_Stored xl5 x5).f3⟩ : T_impl_Stored)] : List T_impl_Stored)); (rec (w64 (x5 + (1 : Int))) l7)) else none)) else none) else none) else (X1 xl7))
def impl_RestoreStore.l5 {R : Type} (k : Nat) (x4 : Int) (xl0 : List T_impl_Stored) (xl1 : List T_impl_Grant) (xl2 : List T_impl_Flow) (xl3 : List T_impl_Rule) (xl4 : List T_impl_Op) (xl5 : List T_impl_Stored) (xc6_0 : Int) (xc6_1 : Int) (xc6_2 : Int) (xc6_7 : Int) (X0 : Bool → List T_impl_Stored → List T_impl_Stored → Option R) (X1 : List T_impl_Stored → Option R) : Nat → Int → List T_impl_Stored → Option R
  | 0 => fun _ _ => none
  | n + 1 => impl_RestoreStore.L5 k x4 xl0 xl1 xl2 xl3 xl4 xl5 xc6_0 xc6_1 xc6_2 xc6_7 X0 X1 (impl_RestoreStore.l5 k x4 xl0 xl1 xl2 xl3 xl4 xl5 xc6_0 xc6_1 xc6_2 xc6_7 X0 X1 n)
def impl_RestoreStore.f (k : Nat) (a0 : List T_impl_Stored) (a1_0 : Int) (a1_1 : Int) (a1_2 : Int) (a1_3 : List T_impl_Grant) (a1_4 : List T_impl_Flow) (a1_5 : List T_impl_Rule) (a1_6 : List T_impl_Op) (a1_7 : Int) (a1_8 : List T_impl_Stored) : Option (Bool × List T_impl_Stored) :=
  (impl_IsStore.f k a0).bind fun t1 => (bif !t1 then (slices_Clone_Stored.f k a0).bind fun t2 => some (false, t2) else (impl_IsStore.f k a1_8).bind fun t3 => (bif !t3 then (slices_Clone_Stored.f k a0).bind fun t4 => some (false, t4) else (impl_DropStored.f k a0 a1_0).bind fun t5 => (impl_RestoreStore.l5 k (a1_8.length : Int) a0 a1_3 a1_4 a1_5 a1_6 a1_8 a1_0 a1_1 a1_2 a1_7 (fun (y8 : Bool) (y9 : List T_impl_Stored) (y10 : List T_impl_Stored) => some (y8, y9)) (fun (y11 : List T_impl_Stored) => (slices_SortFunc_Stored.f k y11).bind fun t12 => (impl_IsStore.f k t12).bind fun t13 => (bif !t13 then (slices_Clone_Stored.f k a0).bind fun t14 => some (false, t14) else some (true, t12))) k (0 : Int) t5)))
def impl_RestoreStore.h5 (k : Nat) {R : Type} (K : Ex → St κ → Option R) (vs : List AV) (bs : List (Blk κ)) : Option R :=
  match vs, bs with
  | [.v (.sl 0), .v (.ptr 6 0 0), .v (.sl 7), .v (.sl 5), .v (.int .i64 x4), .v (.int .i64 x5)], [qb0, qb1, qb2, qb3, qb4, qb5, .cells 32 [.int .i64 xc6_0, .int .i64 xc6_1, .int .i64 xc6_2, .sl 1, .sl 2, .sl 3, .sl 4, .int .i64 xc6_7, .sl 5], qb7] => (asO 6 false qb0).bind fun xl0 => (asO 2 false qb1).bind fun xl1 => (asO 3 false qb2).bind fun xl2 => (asO 4 false qb3).bind fun xl3 => (asO 1 false qb4).bind fun xl4 => (asO 6 false qb5).bind fun xl5 => (asO 6 true qb7).bind fun xl7 => impl_RestoreStore.l5 k x4 xl0 xl1 xl2 xl3 xl4 xl5 xc6_0 xc6_1 xc6_2 xc6_7 (fun (z2 : Bool) (zl6 : List T_impl_Stored) (zl7 : List T_impl_Stored) => K .ret (stOf [(0, [some 6]), (4, [some 6]), (5, []), (6, [some 6])] [.v (.sl 0), .v (.sl 6), .v (.bool z2), .v (.sl 7)] [.rows 6 false xl0, .rows 2 false xl1, .rows 3 false xl2, .rows 4 false xl3, .rows 1 false xl4, .rows 6 false xl5, .rows 6 true zl6, .rows 6 true zl7])) (fun (zl6 : List T_impl_Stored) => K (.exit 0) (stOf [(0, [some 6]), (4, [some 6]), (5, []), (6, [some 6])] [.v (.sl 0), .v .any, .v .any, .v (.sl 6)] [.rows 6 false xl0, .rows 2 false xl1, .rows 3 false xl2, .rows 4 false xl3, .rows 1 false xl4, .rows 6 false xl5, .rows 6 true zl6])) k x5 xl7
  | _, _ => none
def impl_RestoreStore.Γ (k : Nat) : Ct κ := assoc [(10, impl_IsStore.C k), (22, slices_Clone_Stored.C k), (9, impl_DropStored.C k), (23, slices_SortFunc_Stored.C k)]
def impl_RestoreStore.LH (k : Nat) : Nat → Option (LHi κ) := assoc [(5, ⟨6, [(0, [some 6]), (3, [none, none, none, some 2, some 3, some 4, some 1, none, some 6]), (6, [some 6]), (26, [some 6]), (27, []), (28, [])], [(0, [some 6]), (4, [some 6]), (5, []), (6, [some 6])], @impl_RestoreStore.h5 k⟩)]
theorem impl_RestoreStore.hΓ (k : Nat) : ∀ f g, impl_RestoreStore.Γ k f = some g → CSound Tryz.prog f g := G_cons (impl_IsStore.ok k) (G_cons (slices_Clone_Stored.ok k) (G_cons (impl_DropStored.ok k) (G_cons (slices_SortFunc_Stored.ok k) G_nil)))
theorem impl_RestoreStore.e5 {R : Type} (K : Ex → St κ → Option R) (k : Nat) (x4 : Int) (xl0 : List T_impl_Stored) (xl1 : List T_impl_Grant) (xl2 : List T_impl_Flow) (xl3 : List T_impl_Rule) (xl4 : List T_impl_Op) (xl5 : List T_impl_Stored) (xc6_0 : Int) (xc6_1 : Int) (xc6_2 : Int) (xc6_7 : Int) : ∀ (n : Nat) (x5 : Int) (xl7 : List T_impl_Stored), loopN 6 (Code.den ti (impl_RestoreStore.Γ k) (impl_RestoreStore.LH k) (loopAt Tryz.f6 0)) [(0, [some 6]), (3, [none, none, none, some 2, some 3, some 4, some 1, none, some 6]), (6, [some 6]), (26, [some 6]), (27, []), (28, [])] [(0, [some 6]), (4, [some 6]), (5, []), (6, [some 6])] K n [.v (.sl 0), .v (.ptr 6 0 0), .v (.sl 7), .v (.sl 5), .v (.int .i64 x4), .v (.int .i64 x5)] [.rows 6 false xl0, .rows 2 false xl1, .rows 3 false xl2, .rows 4 false xl3, .rows 1 false xl4, .rows 6 false xl5, .cells 32 [.int .i64 xc6_0, .int .i64 xc6_1, .int .i64 xc6_2, .sl 1, .sl 2, .sl 3, .sl 4, .int .i64 xc6_7, .sl 5], .rows 6 true xl7] = impl_RestoreStore.l5 k x4 xl0 xl1 xl2 xl3 xl4 xl5 xc6_0 xc6_1 xc6_2 xc6_7 (fun (z2 : Bool) (zl6 : List T_impl_Stored) (zl7 : List T_impl_Stored) => K .ret (stOf [(0, [some 6]), (4, [some 6]), (5, []), (6, [some 6])] [.v (.sl 0), .v (.sl 6), .v (.bool z2), .v (.sl 7)] [.rows 6 false xl0, .rows 2 false xl1, .rows 3 false xl2, .rows 4 false xl3, .rows 1 false xl4, .rows 6 false xl5, .rows 6 true zl6, .rows 6 true zl7])) (fun (zl6 : List T_impl_Stored) => K (.exit 0) (stOf [(0, [some 6]), (4, [some 6]), (5, []), (6, [some 6])] [.v (.sl 0), .v .any, .v .any, .v (.sl 6)] [.rows 6 false xl0, .rows 2 false xl1, .rows 3 false xl2, .rows 4 false xl3, .rows 1 false xl4, .rows 6 false xl5, .rows 6 true zl6])) n x5 xl7
  | 0, _, _ => rfl
  | n + 1, x5, xl7 => (show loopN 6 (Code.den ti (impl_RestoreStore.Γ k) (impl_RestoreStore.LH k) (loopAt Tryz.f6 0)) [(0, [some 6]), (3, [none, none, none, some 2, some 3, some 4, some 1, none, some 6]), (6, [some 6]), (26, [some 6]), (27, []), (28, [])] [(0, [some 6]), (4, [some 6]), (5, []), (6, [some 6])] K (n + 1) [.v (.sl 0), .v (.ptr 6 0 0), .v (.sl 7), .v (.sl 5), .v (.int .i64 x4), .v (.int .i64 x5)] [.rows 6 false xl0, .rows 2 false xl1, .rows 3 false xl2, .rows 4 false xl3, .rows 1 false xl4, .rows 6 false xl5, .cells 32 [.int .i64 xc6_0, .int .i64 xc6_1, .int .i64 xc6_2, .sl 1, .sl 2, .sl 3, .sl 4, .int .i64 xc6_7, .sl 5], .rows 6 true xl7] = impl_RestoreStore.L5 k x4 xl0 xl1 xl2 xl3 xl4 xl5 xc6_0 xc6_1 xc6_2 xc6_7 (fun (z2 : Bool) (zl6 : List T_impl_Stored) (zl7 : List T_impl_Stored) => K .ret (stOf [(0, [some 6]), (4, [some 6]), (5, []), (6, [some 6])] [.v (.sl 0), .v (.sl 6), .v (.bool z2), .v (.sl 7)] [.rows 6 false xl0, .rows 2 false xl1, .rows 3 false xl2, .rows 4 false xl3, .rows 1 false xl4, .rows 6 false xl5, .rows 6 true zl6, .rows 6 true zl7])) (fun (zl6 : List T_impl_Stored) => K (.exit 0) (stOf [(0, [some 6]), (4, [some 6]), (5, []), (6, [some 6])] [.v (.sl 0), .v .any, .v .any, .v (.sl 6)] [.rows 6 false xl0, .rows 2 false xl1, .rows 3 false xl2, .rows 4 false xl3, .rows 1 false xl4, .rows 6 false xl5, .rows 6 true zl6])) (fun (x5' : Int) (xl7' : List T_impl_Stored) => loopN 6 (Code.den ti (impl_RestoreStore.Γ k) (impl_RestoreStore.LH k) (loopAt Tryz.f6 0)) [(0, [some 6]), (3, [none, none, none, some 2, some 3, some 4, some 1, none, some 6]), (6, [some 6]), (26, [some 6]), (27, []), (28, [])] [(0, [some 6]), (4, [some 6]), (5, []), (6, [some 6])] K n [.v (.sl 0), .v (.ptr 6 0 0), .v (.sl 7), .v (.sl 5), .v (.int .i64 x4), .v (.int .i64 x5')] [.rows 6 false xl0, .rows 2 false xl1, .rows 3 false xl2, .rows 4 false xl3, .rows 1 false xl4, .rows 6 false xl5, .cells 32 [.int .i64 xc6_0, .int .i64 xc6_1, .int .i64 xc6_2, .sl 1, .sl 2, .sl 3, .sl 4, .int .i64 xc6_7, .sl 5], .rows 6 true xl7']) x5 xl7 by kernel_rfl).trans (congrArg (fun rec => impl_RestoreStore.L5 k x4 xl0 xl1 xl2 xl3 xl4 xl5 xc6_0 xc6_1 xc6_2 xc6_7 (fun (z2 : Bool) (zl6 : List T_impl_Stored) (zl7 : List T_impl_Stored) => K .ret (stOf [(0, [some 6]), (4, [some 6]), (5, []), (6, [some 6])] [.v (.sl 0), .v (.sl 6), .v (.bool z2), .v (.sl 7)] [.rows 6 false xl0, .rows 2 false xl1, .rows 3 false xl2, .rows 4 false xl3, .rows 1 false xl4, .rows 6 false xl5, .rows 6 true zl6, .rows 6 true zl7])) (fun (zl6 : List T_impl_Stored) => K (.exit 0) (stOf [(0, [some 6]), (4, [some 6]), (5, []), (6, [some 6])] [.v (.sl 0), .v .any, .v .any, .v (.sl 6)] [.rows 6 false xl0, .rows 2 false xl1, .rows 3 false xl2, .rows 4 false xl3, .rows 1 false xl4, .rows 6 false xl5, .rows 6 true zl6])) rec x5 xl7) (funext fun x5' => funext fun xl7' => impl_RestoreStore.e5 K k x4 xl0 xl1 xl2 xl3 xl4 xl5 xc6_0 xc6_1 xc6_2 xc6_7 n x5' xl7'))
theorem impl_RestoreStore.q5 (k : Nat) {R : Type} (K : Ex → St κ → Option R) (vs : List AV) (bs : List (Blk κ)) (r : R) (h : impl_RestoreStore.h5 k K vs bs = some r) : ∃ n, loopN 6 (Code.den ti (impl_RestoreStore.Γ k) (impl_RestoreStore.LH k) (loopAt Tryz.f6 0)) [(0, [some 6]), (3, [none, none, none, some 2, some 3, some 4, some 1, none, some 6]), (6, [some 6]), (26, [some 6]), (27, []), (28, [])] [(0, [some 6]), (4, [some 6]), (5, []), (6, [some 6])] K n vs bs = some r := by
  unfold impl_RestoreStore.h5 at h
  split at h
  · obtain ⟨_, rfl, h_1⟩ := asO_bind h
    obtain ⟨_, rfl, h_2⟩ := asO_bind h_1
    obtain ⟨_, rfl, h_3⟩ := asO_bind h_2
    obtain ⟨_, rfl, h_4⟩ := asO_bind h_3
    obtain ⟨_, rfl, h_5⟩ := asO_bind h_4
    obtain ⟨_, rfl, h_6⟩ := asO_bind h_5
    obtain ⟨_, rfl, h_7⟩ := asO_bind h_6
    exact ⟨k, (impl_RestoreStore.e5 K k _ _ _ _ _ _ _ _ _ _ _ k _ _).trans h_7⟩
  · cases h
theorem impl_RestoreStore.lok (k : Nat) : LOK ti (impl_RestoreStore.Γ k) (impl_RestoreStore.LH k) 6 (loopsOf (bodyOf Tryz.f6)) :=
  (show loopsOf (bodyOf Tryz.f6) = [loopAt Tryz.f6 0] by kernel_rfl) ▸ (LOK_cons (g := ⟨6, [(0, [some 6]), (3, [none, none, none, some 2, some 3, some 4, some 1, none, some 6]), (6, [some 6]), (26, [some 6]), (27, []), (28, [])], [(0, [some 6]), (4, [some 6]), (5, []), (6, [some 6])], @impl_RestoreStore.h5 k⟩) (by kernel_rfl) rfl (fun K vs xs r h => impl_RestoreStore.q5 k K vs xs r h) (LOK_nil))
def impl_RestoreStore.sig : List PSh := [.one (.ro 6), .agg [.sc, .sc, .sc, .ro 2, .ro 3, .ro 4, .ro 1, .sc, .ro 6]]
def impl_RestoreStore.g (y : Bool × List T_impl_Stored) : Ret κ := ⟨.tup [(false, [.sl 6]), (false, [.bool y.1])], [], [.rows 6 true y.2]⟩
def impl_RestoreStore.out (r : Ret κ) : Option (Bool × List T_impl_Stored) :=
  match r with
  | ⟨.tup [(false, [.sl 6]), (false, [.bool z0])], [], [q1]⟩ => (asO 6 true q1).bind fun z1 => some (z0, z1)
  | _ => none
theorem impl_RestoreStore.out_ok (r : Ret κ) (y : Bool × List T_impl_Stored) (h : impl_RestoreStore.out r = some y) : r = impl_RestoreStore.g y := by
  unfold impl_RestoreStore.out at h
  split at h
  · obtain ⟨_, rfl, h_1⟩ := asO_bind h
    obtain rfl := Option.some.inj h_1
    rfl
  · cases h
def impl_RestoreStore.body (k : Nat) (vs : List AV) (bs : List (Blk κ)) : Option (Lf κ) :=
  match vs, bs with
  | [.v (.sl 0), .agg [.int .i64 a1_0, .int .i64 a1_1, .int .i64 a1_2, .sl 1, .sl 2, .sl 3, .sl 4, .int .i64 a1_7, .sl 5]], [qb0, qb1, qb2, qb3, qb4, qb5] => (asO 6 false qb0).bind fun a0 => (asO 2 false qb1).bind fun a1_3 => (asO 3 false qb2).bind fun a1_4 => (asO 4 false qb3).bind fun a1_5 => (asO 1 false qb4).bind fun a1_6 => (asO 6 false qb5).bind fun a1_8 => some ⟨Bool × List T_impl_Stored, impl_RestoreStore.f k a0 a1_0 a1_1 a1_2 a1_3 a1_4 a1_5 a1_6 a1_7 a1_8, impl_RestoreStore.g⟩
  | _, _ => none
def impl_RestoreStore.C (k : Nat) : Nat → List AV → AP κ AV := contract impl_RestoreStore.sig (impl_RestoreStore.body k)
theorem impl_RestoreStore.den (k : Nat) (a0 : List T_impl_Stored) (a1_0 : Int) (a1_1 : Int) (a1_2 : Int) (a1_3 : List T_impl_Grant) (a1_4 : List T_impl_Flow) (a1_5 : List T_impl_Rule) (a1_6 : List T_impl_Op) (a1_7 : Int) (a1_8 : List T_impl_Stored) : Code.den ti (impl_RestoreStore.Γ k) (impl_RestoreStore.LH k) (bodyOf Tryz.f6) (finK ti Tryz.f6.results.toList [(4, [some 6])] (flags impl_RestoreStore.sig).length (rwI (flags impl_RestoreStore.sig) 0) impl_RestoreStore.out) ⟨envOf (([.v (.sl 0), .agg [.int .i64 a1_0, .int .i64 a1_1, .int .i64 a1_2, .sl 1, .sl 2, .sl 3, .sl 4, .int .i64 a1_7, .sl 5]]).zipIdx.map fun q => (q.2, q.1)), hpOf [.rows 6 false a0, .rows 2 false a1_3, .rows 3 false a1_4, .rows 4 false a1_5, .rows 1 false a1_6, .rows 6 false a1_8], (flags impl_RestoreStore.sig).length⟩ = impl_RestoreStore.f k a0 a1_0 a1_1 a1_2 a1_3 a1_4 a1_5 a1_6 a1_7 a1_8 := by kernel_rfl
theorem impl_RestoreStore.ok (k : Nat) : CSound Tryz.prog 6 (impl_RestoreStore.C k) :=
  csound κ_ok mixed tok (impl_RestoreStore.hΓ k) (LH := impl_RestoreStore.LH k) (fn := Tryz.f6) (c := bodyOf Tryz.f6) Tryz.func6 rfl Tryz.call6 impl_RestoreStore.sig [(4, [some 6])] (impl_RestoreStore.body k) (by kernel_rfl) (impl_RestoreStore.lok k) (by decide) fun vs bs lf y hl hb hy => by
    unfold impl_RestoreStore.body at hb
    split at hb
    · obtain ⟨_, rfl, hb_1⟩ := asO_bind hb
      obtain ⟨_, rfl, hb_2⟩ := asO_bind hb_1
      obtain ⟨_, rfl, hb_3⟩ := asO_bind hb_2
      obtain ⟨_, rfl, hb_4⟩ := asO_bind hb_3
      obtain ⟨_, rfl, hb_5⟩ := asO_bind hb_4
      obtain ⟨_, rfl, hb_6⟩ := asO_bind hb_5
      obtain rfl := Option.some.inj hb_6
      exact ⟨impl_RestoreStore.out, impl_RestoreStore.out_ok, (impl_RestoreStore.den k _ _ _ _ _ _ _ _ _ _).trans hy⟩
    · cases hb
/-! ### slices_Equal_Stored -/
def slices_Equal_Stored.L4 {R : Type} (k : Nat) (x2 : Int) (xl0 : List T_impl_Stored) (xl1 : List T_impl_Stored) (X0 : Bool → Option R) (X1 : Unit → Option R) (rec : Int → Option R) (x3 : Int) : Option R :=
  (bif decide (x3 < x2) then (bif decide (0 ≤ x3) then (bif decide (x3 < (xl0.length : Int)) then (bif decide (0 ≤ x3) then (bif decide (x3 < (xl1.length : Int)) then (bif !((((rd_impl_Stored xl0 x3).f0) == ((rd_impl_Stored xl1 x3).f0)) && ((((rd_impl_Stored xl0 x3).f1) == ((rd_impl_Stored xl1 x3).f1)) && ((((rd_impl_Stored xl0 x3).f2) == ((rd_impl_Stored xl1 x3).f2)) && (((rd_impl_Stored xl0 x3).f3) == ((rd_impl_Stored xl1 x3).f3))))) then (X0 false) else (rec (w64 (x3 + (1 : Int))))) else none) else none) else none) else none) else (X1 ()))
def slices_Equal_Stored.l4 {R : Type} (k : Nat) (x2 : Int) (xl0 : List T_impl_Stored) (xl1 : List T_impl_Stored) (X0 : Bool → Option R) (X1 : Unit → Option R) : Nat → Int → Option R
  | 0 => fun _ => none
  | n + 1 => slices_Equal_Stored.L4 k x2 xl0 xl1 X0 X1 (slices_Equal_Stored.l4 k x2 xl0 xl1 X0 X1 n)
def slices_Equal_Stored.f (k : Nat) (a0 : List T_impl_Stored) (a1 : List T_impl_Stored) : Option Bool :=
  (bif ((a0.length : Int) != (a1.length : Int)) then some false else (slices_Equal_Stored.l4 k (a0.length : Int) a0 a1 (fun (y1 : Bool) => some y1) (fun (_ : Unit) => some true) k (0 : Int)))
def slices_Equal_Stored.h4 (k : Nat) {R : Type} (K : Ex → St κ → Option R) (vs : List AV) (bs : List (Blk κ)) : Option R :=
  match vs, bs with
  | [.v (.sl 0), .v (.sl 1), .v (.int .i64 x2), .v (.int .i64 x3)], [qb0, qb1] => (asO 6 false qb0).bind fun xl0 => (asO 6 false qb1).bind fun xl1 => slices_Equal_Stored.l4 k x2 xl0 xl1 (fun (z0 : Bool) => K .ret (stOf [(4, [])] [.v (.bool z0)] [.rows 6 false xl0, .rows 6 false xl1])) (fun (_ : Unit) => K (.exit 0) (stOf [(4, [])] [.v .any] [.rows 6 false xl0, .rows 6 false xl1])) k x3
  | _, _ => none
def slices_Equal_Stored.Γ (k : Nat) : Ct κ := assoc []
def slices_Equal_Stored.LH (k : Nat) : Nat → Option (LHi κ) := assoc [(4, ⟨2, [(0, [some 6]), (1, [some 6]), (12, []), (13, [])], [(4, [])], @slices_Equal_Stored.h4 k⟩)]
theorem slices_Equal_Stored.hΓ (k : Nat) : ∀ f g, slices_Equal_Stored.Γ k f = some g → CSound Tryz.prog f g := G_nil
theorem slices_Equal_Stored.e4 {R : Type} (K : Ex → St κ → Option R) (k : Nat) (x2 : Int) (xl0 : List T_impl_Stored) (xl1 : List T_impl_Stored) : ∀ (n : Nat) (x3 : Int), loopN 2 (Code.den ti (slices_Equal_Stored.Γ k) (slices_Equal_Stored.LH k) (loopAt Tryz.f25 0)) [(0, [some 6]), (1, [some 6]), (12, []), (13, [])] [(4, [])] K n [.v (.sl 0), .v (.sl 1), .v (.int .i64 x2), .v (.int .i64 x3)] [.rows 6 false xl0, .rows 6 false xl1] = slices_Equal_Stored.l4 k x2 xl0 xl1 (fun (z0 : Bool) => K .ret (stOf [(4, [])] [.v (.bool z0)] [.rows 6 false xl0, .rows 6 false xl1])) (fun (_ : Unit) => K (.exit 0) (stOf [(4, [])] [.v .any] [.rows 6 false xl0, .rows 6 false xl1])) n x3
  | 0, _ => rfl
  | n + 1, x3 => (show loopN 2 (Code.den ti (slices_Equal_Stored.Γ k) (slices_Equal_Stored.LH k) (loopAt Tryz.f25 0)) [(0, [some 6]), (1, [some 6]), (12, []), (13, [])] [(4, [])] K (n + 1) [.v (.sl 0), .v (.sl 1), .v (.int .i64 x2), .v (.int .i64 x3)] [.rows 6 false xl0, .rows 6 false xl1] = slices_Equal_Stored.L4 k x2 xl0 xl1 (fun (z0 : Bool) => K .ret (stOf [(4, [])] [.v (.bool z0)] [.rows 6 false xl0, .rows 6 false xl1])) (fun (_ : Unit) => K (.exit 0) (stOf [(4, [])] [.v .any] [.rows 6 false xl0, .rows 6 false xl1])) (fun (x3' : Int) => loopN 2 (Code.den ti (slices_Equal_Stored.Γ k) (slices_Equal_Stored.LH k) (loopAt Tryz.f25 0)) [(0, [some 6]), (1, [some 6]), (12, []), (13, [])] [(4, [])] K n [.v (.sl 0), .v (.sl 1), .v (.int .i64 x2), .v (.int .i64 x3')] [.rows 6 false xl0, .rows 6 false xl1]) x3 by kernel_rfl).trans (congrArg (fun rec => slices_Equal_Stored.L4 k x2 xl0 xl1 (fun (z0 : Bool) => K .ret (stOf [(4, [])] [.v (.bool z0)] [.rows 6 false xl0, .rows 6 false xl1])) (fun (_ : Unit) => K (.exit 0) (stOf [(4, [])] [.v .any] [.rows 6 false xl0, .rows 6 false xl1])) rec x3) (funext fun x3' => slices_Equal_Stored.e4 K k x2 xl0 xl1 n x3'))
theorem slices_Equal_Stored.q4 (k : Nat) {R : Type} (K : Ex → St κ → Option R) (vs : List AV) (bs : List (Blk κ)) (r : R) (h : slices_Equal_Stored.h4 k K vs bs = some r) : ∃ n, loopN 2 (Code.den ti (slices_Equal_Stored.Γ k) (slices_Equal_Stored.LH k) (loopAt Tryz.f25 0)) [(0, [some 6]), (1, [some 6]), (12, []), (13, [])] [(4, [])] K n vs bs = some r := by
  unfold slices_Equal_Stored.h4 at h
  split at h
  · obtain ⟨_, rfl, h_1⟩ := asO_bind h
    obtain ⟨_, rfl, h_2⟩ := asO_bind h_1
    exact ⟨k, (slices_Equal_Stored.e4 K k _ _ _ k _).trans h_2⟩
  · cases h
theorem slices_Equal_Stored.lok (k : Nat) : LOK ti (slices_Equal_Stored.Γ k) (slices_Equal_Stored.LH k) 2 (loopsOf (bodyOf Tryz.f25)) :=
  (show loopsOf (bodyOf Tryz.f25) = [loopAt Tryz.f25 0] by kernel_rfl) ▸ (LOK_cons (g := ⟨2, [(0, [some 6]), (1, [some 6]), (12, []), (13, [])], [(4, [])], @slices_Equal_Stored.h4 k⟩) (by kernel_rfl) rfl (fun K vs xs r h => slices_Equal_Stored.q4 k K vs xs r h) (LOK_nil))
def slices_Equal_Stored.sig : List PSh := [.one (.ro 6), .one (.ro 6)]
def slices_Equal_Stored.g (y : Bool) : Ret κ := ⟨.v (.bool y), [], []⟩
def slices_Equal_Stored.out (r : Ret κ) : Option Bool :=
  match r with
  | ⟨.v (.bool z0), [], []⟩ => some (z0)
  | _ => none
theorem slices_Equal_Stored.out_ok (r : Ret κ) (y : Bool) (h : slices_Equal_Stored.out r = some y) : r = slices_Equal_Stored.g y := by
  unfold slices_Equal_Stored.out at h
  split at h
  · obtain rfl := Option.some.inj h
    rfl
  · cases h
def slices_Equal_Stored.body (k : Nat) (vs : List AV) (bs : List (Blk κ)) : Option (Lf κ) :=
  match vs, bs with
  | [.v (.sl 0), .v (.sl 1)], [qb0, qb1] => (asO 6 false qb0).bind fun a0 => (asO 6 false qb1).bind fun a1 => some ⟨Bool, slices_Equal_Stored.f k a0 a1, slices_Equal_Stored.g⟩
  | _, _ => none
def slices_Equal_Stored.C (k : Nat) : Nat → List AV → AP κ AV := contract slices_Equal_Stored.sig (slices_Equal_Stored.body k)
theorem slices_Equal_Stored.den (k : Nat) (a0 : List T_impl_Stored) (a1 : List T_impl_Stored) : Code.den ti (slices_Equal_Stored.Γ k) (slices_Equal_Stored.LH k) (bodyOf Tryz.f25) (finK ti Tryz.f25.results.toList [] (flags slices_Equal_Stored.sig).length (rwI (flags slices_Equal_Stored.sig) 0) slices_Equal_Stored.out) ⟨envOf (([.v (.sl 0), .v (.sl 1)]).zipIdx.map fun q => (q.2, q.1)), hpOf [.rows 6 false a0, .rows 6 false a1], (flags slices_Equal_Stored.sig).length⟩ = slices_Equal_Stored.f k a0 a1 := by kernel_rfl
theorem slices_Equal_Stored.ok (k : Nat) : CSound Tryz.prog 25 (slices_Equal_Stored.C k) :=
  csound κ_ok mixed tok (slices_Equal_Stored.hΓ k) (LH := slices_Equal_Stored.LH k) (fn := Tryz.f25) (c := bodyOf Tryz.f25) Tryz.func25 rfl Tryz.call25 slices_Equal_Stored.sig [] (slices_Equal_Stored.body k) (by kernel_rfl) (slices_Equal_Stored.lok k) (by decide) fun vs bs lf y hl hb hy => by
    unfold slices_Equal_Stored.body at hb
    split at hb
    · obtain ⟨_, rfl, hb_1⟩ := asO_bind hb
      obtain ⟨_, rfl, hb_2⟩ := asO_bind hb_1
      obtain rfl := Option.some.inj hb_2
      exact ⟨slices_Equal_Stored.out, slices_Equal_Stored.out_ok, (slices_Equal_Stored.den k _ _).trans hy⟩
    · cases hb
/-! ### impl_EqualStores -/
def impl_EqualStores.f (k : Nat) (a0 : List T_impl_Stored) (a1 : List T_impl_Stored) : Option Bool :=
  (slices_Equal_Stored.f k a0 a1).bind fun t1 => some t1
def impl_EqualStores.Γ (k : Nat) : Ct κ := assoc [(25, slices_Equal_Stored.C k)]
def impl_EqualStores.LH (k : Nat) : Nat → Option (LHi κ) := assoc []
theorem impl_EqualStores.hΓ (k : Nat) : ∀ f g, impl_EqualStores.Γ k f = some g → CSound Tryz.prog f g := G_cons (slices_Equal_Stored.ok k) G_nil
theorem impl_EqualStores.lok (k : Nat) : LOK ti (impl_EqualStores.Γ k) (impl_EqualStores.LH k) 2 (loopsOf (bodyOf Tryz.f7)) :=
  (show loopsOf (bodyOf Tryz.f7) = [] by kernel_rfl) ▸ LOK_nil
def impl_EqualStores.sig : List PSh := [.one (.ro 6), .one (.ro 6)]
def impl_EqualStores.g (y : Bool) : Ret κ := ⟨.v (.bool y), [], []⟩
def impl_EqualStores.out (r : Ret κ) : Option Bool :=
  match r with
  | ⟨.v (.bool z0), [], []⟩ => some (z0)
  | _ => none
theorem impl_EqualStores.out_ok (r : Ret κ) (y : Bool) (h : impl_EqualStores.out r = some y) : r = impl_EqualStores.g y := by
  unfold impl_EqualStores.out at h
  split at h
  · obtain rfl := Option.some.inj h
    rfl
  · cases h
def impl_EqualStores.body (k : Nat) (vs : List AV) (bs : List (Blk κ)) : Option (Lf κ) :=
  match vs, bs with
  | [.v (.sl 0), .v (.sl 1)], [qb0, qb1] => (asO 6 false qb0).bind fun a0 => (asO 6 false qb1).bind fun a1 => some ⟨Bool, impl_EqualStores.f k a0 a1, impl_EqualStores.g⟩
  | _, _ => none
def impl_EqualStores.C (k : Nat) : Nat → List AV → AP κ AV := contract impl_EqualStores.sig (impl_EqualStores.body k)
theorem impl_EqualStores.den (k : Nat) (a0 : List T_impl_Stored) (a1 : List T_impl_Stored) : Code.den ti (impl_EqualStores.Γ k) (impl_EqualStores.LH k) (bodyOf Tryz.f7) (finK ti Tryz.f7.results.toList [] (flags impl_EqualStores.sig).length (rwI (flags impl_EqualStores.sig) 0) impl_EqualStores.out) ⟨envOf (([.v (.sl 0), .v (.sl 1)]).zipIdx.map fun q => (q.2, q.1)), hpOf [.rows 6 false a0, .rows 6 false a1], (flags impl_EqualStores.sig).length⟩ = impl_EqualStores.f k a0 a1 := by kernel_rfl
theorem impl_EqualStores.ok (k : Nat) : CSound Tryz.prog 7 (impl_EqualStores.C k) :=
  csound κ_ok mixed tok (impl_EqualStores.hΓ k) (LH := impl_EqualStores.LH k) (fn := Tryz.f7) (c := bodyOf Tryz.f7) Tryz.func7 rfl Tryz.call7 impl_EqualStores.sig [] (impl_EqualStores.body k) (by kernel_rfl) (impl_EqualStores.lok k) (by decide) fun vs bs lf y hl hb hy => by
    unfold impl_EqualStores.body at hb
    split at hb
    · obtain ⟨_, rfl, hb_1⟩ := asO_bind hb
      obtain ⟨_, rfl, hb_2⟩ := asO_bind hb_1
      obtain rfl := Option.some.inj hb_2
      exact ⟨impl_EqualStores.out, impl_EqualStores.out_ok, (impl_EqualStores.den k _ _).trans hy⟩
    · cases hb
/-! ### slices_Clone_Grant -/
def slices_Clone_Grant.f (k : Nat) (l : List T_impl_Grant) : Option (List T_impl_Grant) := cloneF 2 κ l
def slices_Clone_Grant.C (k : Nat) : Nat → List AV → AP κ AV := contract [.one (.ro 2)] (cloneB 2 κ)
theorem slices_Clone_Grant.ok (k : Nat) : CSound Tryz.prog 51 (slices_Clone_Grant.C k) :=
  clone_sound κ_ok mixed tok (fn := Tryz.f51) 2 Tryz.func51 rfl Tryz.call51 rfl rfl rfl rfl rfl rfl Tryz.underlying25 rfl (by kernel_rfl) (by kernel_rfl) (by kernel_rfl) rfl rfl rfl (fun l => by kernel_rfl) (fun q l => by cases q <;> kernel_rfl)
/-! ### slices_Clone_Flow -/
def slices_Clone_Flow.f (k : Nat) (l : List T_impl_Flow) : Option (List T_impl_Flow) := cloneF 3 κ l
def slices_Clone_Flow.C (k : Nat) : Nat → List AV → AP κ AV := contract [.one (.ro 3)] (cloneB 3 κ)
theorem slices_Clone_Flow.ok (k : Nat) : CSound Tryz.prog 52 (slices_Clone_Flow.C k) :=
  clone_sound κ_ok mixed tok (fn := Tryz.f52) 3 Tryz.func52 rfl Tryz.call52 rfl rfl rfl rfl rfl rfl Tryz.underlying26 rfl (by kernel_rfl) (by kernel_rfl) (by kernel_rfl) rfl rfl rfl (fun l => by kernel_rfl) (fun q l => by cases q <;> kernel_rfl)
/-! ### slices_Clone_Rule -/
def slices_Clone_Rule.f (k : Nat) (l : List T_impl_Rule) : Option (List T_impl_Rule) := cloneF 4 κ l
def slices_Clone_Rule.C (k : Nat) : Nat → List AV → AP κ AV := contract [.one (.ro 4)] (cloneB 4 κ)
theorem slices_Clone_Rule.ok (k : Nat) : CSound Tryz.prog 53 (slices_Clone_Rule.C k) :=
  clone_sound κ_ok mixed tok (fn := Tryz.f53) 4 Tryz.func53 rfl Tryz.call53 rfl rfl rfl rfl rfl rfl Tryz.underlying27 rfl (by kernel_rfl) (by kernel_rfl) (by kernel_rfl) rfl rfl rfl (fun l => by kernel_rfl) (fun q l => by cases q <;> kernel_rfl)
/-! ### slices_Clone_Op -/
def slices_Clone_Op.f (k : Nat) (l : List T_impl_Op) : Option (List T_impl_Op) := cloneF 1 κ l
def slices_Clone_Op.C (k : Nat) : Nat → List AV → AP κ AV := contract [.one (.ro 1)] (cloneB 1 κ)
theorem slices_Clone_Op.ok (k : Nat) : CSound Tryz.prog 54 (slices_Clone_Op.C k) :=
  clone_sound κ_ok mixed tok (fn := Tryz.f54) 1 Tryz.func54 rfl Tryz.call54 rfl rfl rfl rfl rfl rfl Tryz.underlying28 rfl (by kernel_rfl) (by kernel_rfl) (by kernel_rfl) rfl rfl rfl (fun l => by kernel_rfl) (fun q l => by cases q <;> kernel_rfl)
/-! ### impl_clonePackage -/
def impl_clonePackage.f (k : Nat) (a0_0 : Int) (a0_1 : Int) (a0_2 : Int) (a0_3 : List T_impl_Grant) (a0_4 : List T_impl_Flow) (a0_5 : List T_impl_Rule) (a0_6 : List T_impl_Op) (a0_7 : Int) : Option (Int × Int × Int × Int × List T_impl_Grant × List T_impl_Flow × List T_impl_Rule × List T_impl_Op) :=
  (slices_Clone_Grant.f k a0_3).bind fun t1 => (slices_Clone_Flow.f k a0_4).bind fun t2 => (slices_Clone_Rule.f k a0_5).bind fun t3 => (slices_Clone_Op.f k a0_6).bind fun t4 => some (a0_0, a0_1, a0_2, a0_7, t1, t2, t3, t4)
def impl_clonePackage.Γ (k : Nat) : Ct κ := assoc [(51, slices_Clone_Grant.C k), (52, slices_Clone_Flow.C k), (53, slices_Clone_Rule.C k), (54, slices_Clone_Op.C k)]
def impl_clonePackage.LH (k : Nat) : Nat → Option (LHi κ) := assoc []
theorem impl_clonePackage.hΓ (k : Nat) : ∀ f g, impl_clonePackage.Γ k f = some g → CSound Tryz.prog f g := G_cons (slices_Clone_Grant.ok k) (G_cons (slices_Clone_Flow.ok k) (G_cons (slices_Clone_Rule.ok k) (G_cons (slices_Clone_Op.ok k) G_nil)))
theorem impl_clonePackage.lok (k : Nat) : LOK ti (impl_clonePackage.Γ k) (impl_clonePackage.LH k) 4 (loopsOf (bodyOf Tryz.f26)) :=
  (show loopsOf (bodyOf Tryz.f26) = [] by kernel_rfl) ▸ LOK_nil
def impl_clonePackage.sig : List PSh := [.agg [.sc, .sc, .sc, .ro 2, .ro 3, .ro 4, .ro 1, .sc]]
def impl_clonePackage.g (y : Int × Int × Int × Int × List T_impl_Grant × List T_impl_Flow × List T_impl_Rule × List T_impl_Op) : Ret κ := ⟨.agg [.int .i64 y.1, .int .i64 y.2.1, .int .i64 y.2.2.1, .sl 4, .sl 5, .sl 6, .sl 7, .int .i64 y.2.2.2.1], [], [.rows 2 true y.2.2.2.2.1, .rows 3 true y.2.2.2.2.2.1, .rows 4 true y.2.2.2.2.2.2.1, .rows 1 true y.2.2.2.2.2.2.2]⟩
def impl_clonePackage.out (r : Ret κ) : Option (Int × Int × Int × Int × List T_impl_Grant × List T_impl_Flow × List T_impl_Rule × List T_impl_Op) :=
  match r with
  | ⟨.agg [.int .i64 z0, .int .i64 z1, .int .i64 z2, .sl 4, .sl 5, .sl 6, .sl 7, .int .i64 z3], [], [q4, q5, q6, q7]⟩ => (asO 2 true q4).bind fun z4 => (asO 3 true q5).bind fun z5 => (asO 4 true q6).bind fun z6 => (asO 1 true q7).bind fun z7 => some (z0, z1, z2, z3, z4, z5, z6, z7)
  | _ => none
theorem impl_clonePackage.out_ok (r : Ret κ) (y : Int × Int × Int × Int × List T_impl_Grant × List T_impl_Flow × List T_impl_Rule × List T_impl_Op) (h : impl_clonePackage.out r = some y) : r = impl_clonePackage.g y := by
  unfold impl_clonePackage.out at h
  split at h
  · obtain ⟨_, rfl, h_1⟩ := asO_bind h
    obtain ⟨_, rfl, h_2⟩ := asO_bind h_1
    obtain ⟨_, rfl, h_3⟩ := asO_bind h_2
    obtain ⟨_, rfl, h_4⟩ := asO_bind h_3
    obtain rfl := Option.some.inj h_4
    rfl
  · cases h
def impl_clonePackage.body (k : Nat) (vs : List AV) (bs : List (Blk κ)) : Option (Lf κ) :=
  match vs, bs with
  | [.agg [.int .i64 a0_0, .int .i64 a0_1, .int .i64 a0_2, .sl 0, .sl 1, .sl 2, .sl 3, .int .i64 a0_7]], [qb0, qb1, qb2, qb3] => (asO 2 false qb0).bind fun a0_3 => (asO 3 false qb1).bind fun a0_4 => (asO 4 false qb2).bind fun a0_5 => (asO 1 false qb3).bind fun a0_6 => some ⟨Int × Int × Int × Int × List T_impl_Grant × List T_impl_Flow × List T_impl_Rule × List T_impl_Op, impl_clonePackage.f k a0_0 a0_1 a0_2 a0_3 a0_4 a0_5 a0_6 a0_7, impl_clonePackage.g⟩
  | _, _ => none
def impl_clonePackage.C (k : Nat) : Nat → List AV → AP κ AV := contract impl_clonePackage.sig (impl_clonePackage.body k)
theorem impl_clonePackage.den (k : Nat) (a0_0 : Int) (a0_1 : Int) (a0_2 : Int) (a0_3 : List T_impl_Grant) (a0_4 : List T_impl_Flow) (a0_5 : List T_impl_Rule) (a0_6 : List T_impl_Op) (a0_7 : Int) : Code.den ti (impl_clonePackage.Γ k) (impl_clonePackage.LH k) (bodyOf Tryz.f26) (finK ti Tryz.f26.results.toList [(2, [none, none, none, some 2, some 3, some 4, some 1, none])] (flags impl_clonePackage.sig).length (rwI (flags impl_clonePackage.sig) 0) impl_clonePackage.out) ⟨envOf (([.agg [.int .i64 a0_0, .int .i64 a0_1, .int .i64 a0_2, .sl 0, .sl 1, .sl 2, .sl 3, .int .i64 a0_7]]).zipIdx.map fun q => (q.2, q.1)), hpOf [.rows 2 false a0_3, .rows 3 false a0_4, .rows 4 false a0_5, .rows 1 false a0_6], (flags impl_clonePackage.sig).length⟩ = impl_clonePackage.f k a0_0 a0_1 a0_2 a0_3 a0_4 a0_5 a0_6 a0_7 := by kernel_rfl
theorem impl_clonePackage.ok (k : Nat) : CSound Tryz.prog 26 (impl_clonePackage.C k) :=
  csound κ_ok mixed tok (impl_clonePackage.hΓ k) (LH := impl_clonePackage.LH k) (fn := Tryz.f26) (c := bodyOf Tryz.f26) Tryz.func26 rfl Tryz.call26 impl_clonePackage.sig [(2, [none, none, none, some 2, some 3, some 4, some 1, none])] (impl_clonePackage.body k) (by kernel_rfl) (impl_clonePackage.lok k) (by decide) fun vs bs lf y hl hb hy => by
    unfold impl_clonePackage.body at hb
    split at hb
    · obtain ⟨_, rfl, hb_1⟩ := asO_bind hb
      obtain ⟨_, rfl, hb_2⟩ := asO_bind hb_1
      obtain ⟨_, rfl, hb_3⟩ := asO_bind hb_2
      obtain ⟨_, rfl, hb_4⟩ := asO_bind hb_3
      obtain rfl := Option.some.inj hb_4
      exact ⟨impl_clonePackage.out, impl_clonePackage.out_ok, (impl_clonePackage.den k _ _ _ _ _ _ _ _).trans hy⟩
    · cases hb
/-! ### impl_TakeSnapshot -/
def impl_TakeSnapshot.L3 {R : Type} (k : Nat) (x4 : Int) (xl0 : List T_impl_Grant) (xl1 : List T_impl_Flow) (xl2 : List T_impl_Rule) (xl3 : List T_impl_Op) (xl4 : List T_impl_Stored) (xc5_0 : Int) (xc5_1 : Int) (xc5_2 : Int) (xc5_7 : Int) (xc6_0 : Int) (xc6_1 : Int) (xc6_2 : Int) (xc6_7 : Int) (xc7_0 : Int) (xc7_1 : Int) (xc7_2 : Int) (xc7_7 : Int) (xl8 : List T_impl_Grant) (xl9 : List T_impl_Flow) (xl10 : List T_impl_Rule) (xl11 : List T_impl_Op) (xl12 : List T_impl_Stored) (xl13 : List T_impl_Grant) (xl14 : List T_impl_Flow) (xl15 : List T_impl_Rule) (xl16 : List T_impl_Op) (X0 : List T_impl_Stored → Option R) (rec : Int → List T_impl_Stored → Option R) (x5 : Int) (xl17 : List T_impl_Stored) : Option R :=
  (bif decide (x5 < x4) then (bif decide (0 ≤ x5) then (bif decide (x5 < (xl4.length : Int)) then (bif ((rd_impl_Stored xl4 x5).f0 == xc5_0) then (bif decide ((xl17.length + ([(⟨(rd_impl_Stored xl4 x5).f0, (rd_impl_Stored xl4 x5).f1, (rd_impl_Stored xl4 x5).f2, (rd_impl_Stored xl4 x5).f3⟩ : T_impl_Stored)] : List T_impl_Stored).length) * 32 ≤ cap48) then (let l2 : List T_impl_Stored := (xl17 ++ ([(⟨(rd_impl_Stored xl4 x5).f0, (rd_impl_Stored xl4 x5).f1, (rd_impl_Stored xl4 x5).f2, (rd_impl_Stored xl4 x5).f3⟩ : T_impl_Stored)] : List T_impl_Stored)); (rec (w64 (x5 + (1 : Int))) l2)) else none) else (rec (w64 (x5 + (1 : Int))) xl17)) else none) else none) else (X0 xl17))
def impl_TakeSnapshot.l3 {R : Type} (k : Nat) (x4 : Int) (xl0 : List T_impl_Grant) (xl1 : List T_impl_Flow) (xl2 : List T_impl_Rule) (xl3 : List T_impl_Op) (xl4 : List T_impl_Stored) (xc5_0 : Int) (xc5_1 : Int) (xc5_2 : Int) (xc5_7 : Int) (xc6_0 : Int) (xc6_1 : Int) (xc6_2 : Int) (xc6_7 : Int) (xc7_0 : Int) (xc7_1 : Int) (xc7_2 : Int) (xc7_7 : Int) (xl8 : List T_impl_Grant) (xl9 : List T_impl_Flow) (xl10 : List T_impl_Rule) (xl11 : List T_impl_Op) (xl12 : List T_impl_Stored) (xl13 : List T_impl_Grant) (xl14 : List T_impl_Flow) (xl15 : List T_impl_Rule) (xl16 : List T_impl_Op) (X0 : List T_impl_Stored → Option R) : Nat → Int → List T_impl_Stored → Option R
  | 0 => fun _ _ => none
  | n + 1 => impl_TakeSnapshot.L3 k x4 xl0 xl1 xl2 xl3 xl4 xc5_0 xc5_1 xc5_2 xc5_7 xc6_0 xc6_1 xc6_2 xc6_7 xc7_0 xc7_1 xc7_2 xc7_7 xl8 xl9 xl10 xl11 xl12 xl13 xl14 xl15 xl16 X0 (impl_TakeSnapshot.l3 k x4 xl0 xl1 xl2 xl3 xl4 xc5_0 xc5_1 xc5_2 xc5_7 xc6_0 xc6_1 xc6_2 xc6_7 xc7_0 xc7_1 xc7_2 xc7_7 xl8 xl9 xl10 xl11 xl12 xl13 xl14 xl15 xl16 X0 n)
def impl_TakeSnapshot.f (k : Nat) (a0_0 : Int) (a0_1 : Int) (a0_2 : Int) (a0_3 : List T_impl_Grant) (a0_4 : List T_impl_Flow) (a0_5 : List T_impl_Rule) (a0_6 : List T_impl_Op) (a0_7 : Int) (a1 : List T_impl_Stored) : Option (Int × Int × Int × Int × List T_impl_Grant × List T_impl_Flow × List T_impl_Rule × List T_impl_Op × List T_impl_Stored) :=
  (impl_clonePackage.f k a0_0 a0_1 a0_2 a0_3 a0_4 a0_5 a0_6 a0_7).bind fun t1 => (impl_TakeSnapshot.l3 k (a1.length : Int) a0_3 a0_4 a0_5 a0_6 a1 a0_0 a0_1 a0_2 a0_7 (0 : Int) (0 : Int) (0 : Int) (0 : Int) t1.1 t1.2.1 t1.2.2.1 t1.2.2.2.1 ([] : List T_impl_Grant) ([] : List T_impl_Flow) ([] : List T_impl_Rule) ([] : List T_impl_Op) ([] : List T_impl_Stored) t1.2.2.2.2.1 t1.2.2.2.2.2.1 t1.2.2.2.2.2.2.1 t1.2.2.2.2.2.2.2 (fun (y3 : List T_impl_Stored) => some (t1.1, t1.2.1, t1.2.2.1, t1.2.2.2.1, t1.2.2.2.2.1, t1.2.2.2.2.2.1, t1.2.2.2.2.2.2.1, t1.2.2.2.2.2.2.2, y3)) k (0 : Int) ([] : List T_impl_Stored))
def impl_TakeSnapshot.h3 (k : Nat) {R : Type} (K : Ex → St κ → Option R) (vs : List AV) (bs : List (Blk κ)) : Option R :=
  match vs, bs with
  | [.v (.ptr 5 0 0), .v (.ptr 6 0 0), .v (.ptr 7 0 0), .v (.sl 4), .v (.int .i64 x4), .v (.int .i64 x5)], [qb0, qb1, qb2, qb3, qb4, .cells 30 [.int .i64 xc5_0, .int .i64 xc5_1, .int .i64 xc5_2, .sl 0, .sl 1, .sl 2, .sl 3, .int .i64 xc5_7], .cells 32 [.int .i64 xc6_0, .int .i64 xc6_1, .int .i64 xc6_2, .sl 8, .sl 9, .sl 10, .sl 11, .int .i64 xc6_7, .sl 12], .cells 32 [.int .i64 xc7_0, .int .i64 xc7_1, .int .i64 xc7_2, .sl 13, .sl 14, .sl 15, .sl 16, .int .i64 xc7_7, .sl 17], qb8, qb9, qb10, qb11, qb12, qb13, qb14, qb15, qb16, qb17] => (asO 2 false qb0).bind fun xl0 => (asO 3 false qb1).bind fun xl1 => (asO 4 false qb2).bind fun xl2 => (asO 1 false qb3).bind fun xl3 => (asO 6 false qb4).bind fun xl4 => (asO 2 true qb8).bind fun xl8 => (asO 3 true qb9).bind fun xl9 => (asO 4 true qb10).bind fun xl10 => (asO 1 true qb11).bind fun xl11 => (asO 6 true qb12).bind fun xl12 => (asO 2 true qb13).bind fun xl13 => (asO 3 true qb14).bind fun xl14 => (asO 4 true qb15).bind fun xl15 => (asO 1 true qb16).bind fun xl16 => (asO 6 true qb17).bind fun xl17 => impl_TakeSnapshot.l3 k x4 xl0 xl1 xl2 xl3 xl4 xc5_0 xc5_1 xc5_2 xc5_7 xc6_0 xc6_1 xc6_2 xc6_7 xc7_0 xc7_1 xc7_2 xc7_7 xl8 xl9 xl10 xl11 xl12 xl13 xl14 xl15 xl16 (fun (zl16 : List T_impl_Stored) => K (.exit 0) (stOf [(4, [none, none, none, some 2, some 3, some 4, some 1, none, some 6]), (5, [none, none, none, some 2, some 3, some 4, some 1, none, some 6])] [.v (.ptr 5 0 0), .v (.ptr 6 0 0)] [.rows 2 false xl0, .rows 3 false xl1, .rows 4 false xl2, .rows 1 false xl3, .rows 6 false xl4, .cells 32 [.int .i64 xc6_0, .int .i64 xc6_1, .int .i64 xc6_2, .sl 7, .sl 8, .sl 9, .sl 10, .int .i64 xc6_7, .sl 11], .cells 32 [.int .i64 xc7_0, .int .i64 xc7_1, .int .i64 xc7_2, .sl 12, .sl 13, .sl 14, .sl 15, .int .i64 xc7_7, .sl 16], .rows 2 true xl8, .rows 3 true xl9, .rows 4 true xl10, .rows 1 true xl11, .rows 6 true xl12, .rows 2 true xl13, .rows 3 true xl14, .rows 4 true xl15, .rows 1 true xl16, .rows 6 true zl16])) k x5 xl17
  | _, _ => none
def impl_TakeSnapshot.Γ (k : Nat) : Ct κ := assoc [(26, impl_clonePackage.C k)]
def impl_TakeSnapshot.LH (k : Nat) : Nat → Option (LHi κ) := assoc [(3, ⟨5, [(2, [none, none, none, some 2, some 3, some 4, some 1, none]), (4, [none, none, none, some 2, some 3, some 4, some 1, none, some 6]), (5, [none, none, none, some 2, some 3, some 4, some 1, none, some 6]), (12, [some 6]), (13, []), (14, [])], [(4, [none, none, none, some 2, some 3, some 4, some 1, none, some 6]), (5, [none, none, none, some 2, some 3, some 4, some 1, none, some 6])], @impl_TakeSnapshot.h3 k⟩)]
theorem impl_TakeSnapshot.hΓ (k : Nat) : ∀ f g, impl_TakeSnapshot.Γ k f = some g → CSound Tryz.prog f g := G_cons (impl_clonePackage.ok k) G_nil
theorem impl_TakeSnapshot.e3 {R : Type} (K : Ex → St κ → Option R) (k : Nat) (x4 : Int) (xl0 : List T_impl_Grant) (xl1 : List T_impl_Flow) (xl2 : List T_impl_Rule) (xl3 : List T_impl_Op) (xl4 : List T_impl_Stored) (xc5_0 : Int) (xc5_1 : Int) (xc5_2 : Int) (xc5_7 : Int) (xc6_0 : Int) (xc6_1 : Int) (xc6_2 : Int) (xc6_7 : Int) (xc7_0 : Int) (xc7_1 : Int) (xc7_2 : Int) (xc7_7 : Int) (xl8 : List T_impl_Grant) (xl9 : List T_impl_Flow) (xl10 : List T_impl_Rule) (xl11 : List T_impl_Op) (xl12 : List T_impl_Stored) (xl13 : List T_impl_Grant) (xl14 : List T_impl_Flow) (xl15 : List T_impl_Rule) (xl16 : List T_impl_Op) : ∀ (n : Nat) (x5 : Int) (xl17 : List T_impl_Stored), loopN 5 (Code.den ti (impl_TakeSnapshot.Γ k) (impl_TakeSnapshot.LH k) (loopAt Tryz.f8 0)) [(2, [none, none, none, some 2, some 3, some 4, some 1, none]), (4, [none, none, none, some 2, some 3, some 4, some 1, none, some 6]), (5, [none, none, none, some 2, some 3, some 4, some 1, none, some 6]), (12, [some 6]), (13, []), (14, [])] [(4, [none, none, none, some 2, some 3, some 4, some 1, none, some 6]), (5, [none, none, none, some 2, some 3, some 4, some 1, none, some 6])] K n [.v (.ptr 5 0 0), .v (.ptr 6 0 0), .v (.ptr 7 0 0), .v (.sl 4), .v (.int .i64 x4), .v (.int .i64 x5)] [.rows 2 false xl0, .rows 3 false xl1, .rows 4 false xl2, .rows 1 false xl3, .rows 6 false xl4, .cells 30 [.int .i64 xc5_0, .int .i64 xc5_1, .int .i64 xc5_2, .sl 0, .sl 1, .sl 2, .sl 3, .int .i64 xc5_7], .cells 32 [.int .i64 xc6_0, .int .i64 xc6_1, .int .i64 xc6_2, .sl 8, .sl 9, .sl 10, .sl 11, .int .i64 xc6_7, .sl 12], .cells 32 [.int .i64 xc7_0, .int .i64 xc7_1, .int .i64 xc7_2, .sl 13, .sl 14, .sl 15, .sl 16, .int .i64 xc7_7, .sl 17], .rows 2 true xl8, .rows 3 true xl9, .rows 4 true xl10, .rows 1 true xl11, .rows 6 true xl12, .rows 2 true xl13, .rows 3 true xl14, .rows 4 true xl15, .rows 1 true xl16, .rows 6 true xl17] = impl_TakeSnapshot.l3 k x4 xl0 xl1 xl2 xl3 xl4 xc5_0 xc5_1 xc5_2 xc5_7 xc6_0 xc6_1 xc6_2 xc6_7 xc7_0 xc7_1 xc7_2 xc7_7 xl8 xl9 xl10 xl11 xl12 xl13 xl14 xl15 xl16 (fun (zl16 : List T_impl_Stored) => K (.exit 0) (stOf [(4, [none, none, none, some 2, some 3, some 4, some 1, none, some 6]), (5, [none, none, none, some 2, some 3, some 4, some 1, none, some 6])] [.v (.ptr 5 0 0), .v (.ptr 6 0 0)] [.rows 2 false xl0, .rows 3 false xl1, .rows 4 false xl2, .rows 1 false xl3, .rows 6 false xl4, .cells 32 [.int .i64 xc6_0, .int .i64 xc6_1, .int .i64 xc6_2, .sl 7, .sl 8, .sl 9, .sl 10, .int .i64 xc6_7, .sl 11], .cells 32 [.int .i64 xc7_0, .int .i64 xc7_1, .int .i64 xc7_2, .sl 12, .sl 13, .sl 14, .sl 15, .int .i64 xc7_7, .sl 16], .rows 2 true xl8, .rows 3 true xl9, .rows 4 true xl10, .rows 1 true xl11, .rows 6 true xl12, .rows 2 true xl13, .rows 3 true xl14, .rows 4 true xl15, .rows 1 true xl16, .rows 6 true zl16])) n x5 xl17
  | 0, _, _ => rfl
  | n + 1, x5, xl17 => (show loopN 5 (Code.den ti (impl_TakeSnapshot.Γ k) (impl_TakeSnapshot.LH k) (loopAt Tryz.f8 0)) [(2, [none, none, none, some 2, some 3, some 4, some 1, none]), (4, [none, none, none, some 2, some 3, some 4, some 1, none, some 6]), (5, [none, none, none, some 2, some 3, some 4, some 1, none, some 6]), (12, [some 6]), (13, []), (14, [])] [(4, [none, none, none, some 2, some 3, some 4, some 1, none, some 6]), (5, [none, none, none, some 2, some 3, some 4, some 1, none, some 6])] K (n + 1) [.v (.ptr 5 0 0), .v (.ptr 6 0 0), .v (.ptr 7 0 0), .v (.sl 4), .v (.int .i64 x4), .v (.int .i64 x5)] [.rows 2 false xl0, .rows 3 false xl1, .rows 4 false xl2, .rows 1 false xl3, .rows 6 false xl4, .cells 30 [.int .i64 xc5_0, .int .i64 xc5_1, .int .i64 xc5_2, .sl 0, .sl 1, .sl 2, .sl 3, .int .i64 xc5_7], .cells 32 [.int .i64 xc6_0, .int .i64 xc6_1, .int .i64 xc6_2, .sl 8, .sl 9, .sl 10, .sl 11, .int .i64 xc6_7, .sl 12], .cells 32 [.int .i64 xc7_0, .int .i64 xc7_1, .int .i64 xc7_2, .sl 13, .sl 14, .sl 15, .sl 16, .int .i64 xc7_7, .sl 17], .rows 2 true xl8, .rows 3 true xl9, .rows 4 true xl10, .rows 1 true xl11, .rows 6 true xl12, .rows 2 true xl13, .rows 3 true xl14, .rows 4 true xl15, .rows 1 true xl16, .rows 6 true xl17] = impl_TakeSnapshot.L3 k x4 xl0 xl1 xl2 xl3 xl4 xc5_0 xc5_1 xc5_2 xc5_7 xc6_0 xc6_1 xc6_2 xc6_7 xc7_0 xc7_1 xc7_2 xc7_7 xl8 xl9 xl10 xl11 xl12 xl13 xl14 xl15 xl16 (fun (zl16 : List T_impl_Stored) => K (.exit 0) (stOf [(4, [none, none, none, some 2, some 3, some 4, some 1, none, some 6]), (5, [none, none, none, some 2, some 3, some 4, some 1, none, some 6])] [.v (.ptr 5 0 0), .v (.ptr 6 0 0)] [.rows 2 false xl0, .rows 3 false xl1, .rows 4 false xl2, .rows 1 false xl3, .rows 6 false xl4, .cells 32 [.int .i64 xc6_0, .int .i64 xc6_1, .int .i64 xc6_2, .sl 7, .sl 8, .sl 9, .sl 10, .int .i64 xc6_7, .sl 11], .cells 32 [.int .i64 xc7_0, .int .i64 xc7_1, .int .i64 xc7_2, .sl 12, .sl 13, .sl 14, .sl 15, .int .i64 xc7_7, .sl 16], .rows 2 true xl8, .rows 3 true xl9, .rows 4 true xl10, .rows 1 true xl11, .rows 6 true xl12, .rows 2 true xl13, .rows 3 true xl14, .rows 4 true xl15, .rows 1 true xl16, .rows 6 true zl16])) (fun (x5' : Int) (xl17' : List T_impl_Stored) => loopN 5 (Code.den ti (impl_TakeSnapshot.Γ k) (impl_TakeSnapshot.LH k) (loopAt Tryz.f8 0)) [(2, [none, none, none, some 2, some 3, some 4, some 1, none]), (4, [none, none, none, some 2, some 3, some 4, some 1, none, some 6]), (5, [none, none, none, some 2, some 3, some 4, some 1, none, some 6]), (12, [some 6]), (13, []), (14, [])] [(4, [none, none, none, some 2, some 3, some 4, some 1, none, some 6]), (5, [none, none, none, some 2, some 3, some 4, some 1, none, some 6])] K n [.v (.ptr 5 0 0), .v (.ptr 6 0 0), .v (.ptr 7 0 0), .v (.sl 4), .v (.int .i64 x4), .v (.int .i64 x5')] [.rows 2 false xl0, .rows 3 false xl1, .rows 4 false xl2, .rows 1 false xl3, .rows 6 false xl4, .cells 30 [.int .i64 xc5_0, .int .i64 xc5_1, .int .i64 xc5_2, .sl 0, .sl 1, .sl 2, .sl 3, .int .i64 xc5_7], .cells 32 [.int .i64 xc6_0, .int .i64 xc6_1, .int .i64 xc6_2, .sl 8, .sl 9, .sl 10, .sl 11, .int .i64 xc6_7, .sl 12], .cells 32 [.int .i64 xc7_0, .int .i64 xc7_1, .int .i64 xc7_2, .sl 13, .sl 14, .sl 15, .sl 16, .int .i64 xc7_7, .sl 17], .rows 2 true xl8, .rows 3 true xl9, .rows 4 true xl10, .rows 1 true xl11, .rows 6 true xl12, .rows 2 true xl13, .rows 3 true xl14, .rows 4 true xl15, .rows 1 true xl16, .rows 6 true xl17']) x5 xl17 by kernel_rfl).trans (congrArg (fun rec => impl_TakeSnapshot.L3 k x4 xl0 xl1 xl2 xl3 xl4 xc5_0 xc5_1 xc5_2 xc5_7 xc6_0 xc6_1 xc6_2 xc6_7 xc7_0 xc7_1 xc7_2 xc7_7 xl8 xl9 xl10 xl11 xl12 xl13 xl14 xl15 xl16 (fun (zl16 : List T_impl_Stored) => K (.exit 0) (stOf [(4, [none, none, none, some 2, some 3, some 4, some 1, none, some 6]), (5, [none, none, none, some 2, some 3, some 4, some 1, none, some 6])] [.v (.ptr 5 0 0), .v (.ptr 6 0 0)] [.rows 2 false xl0, .rows 3 false xl1, .rows 4 false xl2, .rows 1 false xl3, .rows 6 false xl4, .cells 32 [.int .i64 xc6_0, .int .i64 xc6_1, .int .i64 xc6_2, .sl 7, .sl 8, .sl 9, .sl 10, .int .i64 xc6_7, .sl 11], .cells 32 [.int .i64 xc7_0, .int .i64 xc7_1, .int .i64 xc7_2, .sl 12, .sl 13, .sl 14, .sl 15, .int .i64 xc7_7, .sl 16], .rows 2 true xl8, .rows 3 true xl9, .rows 4 true xl10, .rows 1 true xl11, .rows 6 true xl12, .rows 2 true xl13, .rows 3 true xl14, .rows 4 true xl15, .rows 1 true xl16, .rows 6 true zl16])) rec x5 xl17) (funext fun x5' => funext fun xl17' => impl_TakeSnapshot.e3 K k x4 xl0 xl1 xl2 xl3 xl4 xc5_0 xc5_1 xc5_2 xc5_7 xc6_0 xc6_1 xc6_2 xc6_7 xc7_0 xc7_1 xc7_2 xc7_7 xl8 xl9 xl10 xl11 xl12 xl13 xl14 xl15 xl16 n x5' xl17'))
theorem impl_TakeSnapshot.q3 (k : Nat) {R : Type} (K : Ex → St κ → Option R) (vs : List AV) (bs : List (Blk κ)) (r : R) (h : impl_TakeSnapshot.h3 k K vs bs = some r) : ∃ n, loopN 5 (Code.den ti (impl_TakeSnapshot.Γ k) (impl_TakeSnapshot.LH k) (loopAt Tryz.f8 0)) [(2, [none, none, none, some 2, some 3, some 4, some 1, none]), (4, [none, none, none, some 2, some 3, some 4, some 1, none, some 6]), (5, [none, none, none, some 2, some 3, some 4, some 1, none, some 6]), (12, [some 6]), (13, []), (14, [])] [(4, [none, none, none, some 2, some 3, some 4, some 1, none, some 6]), (5, [none, none, none, some 2, some 3, some 4, some 1, none, some 6])] K n vs bs = some r := by
  unfold impl_TakeSnapshot.h3 at h
  split at h
  · obtain ⟨_, rfl, h_1⟩ := asO_bind h
    obtain ⟨_, rfl, h_2⟩ := asO_bind h_1
    obtain ⟨_, rfl, h_3⟩ := asO_bind h_2
    obtain ⟨_, rfl, h_4⟩ := asO_bind h_3
    obtain ⟨_, rfl, h_5⟩ := asO_bind h_4
    obtain ⟨_, rfl, h_6⟩ := asO_bind h_5
    obtain ⟨_, rfl, h_7⟩ := asO_bind h_6
    obtain ⟨_, rfl, h_8⟩ := asO_bind h_7
    obtain ⟨_, rfl, h_9⟩ := asO_bind h_8
    obtain ⟨_, rfl, h_10⟩ := asO_bind h_9
    obtain ⟨_, rfl, h_11⟩ := asO_bind h_10
    obtain ⟨_, rfl, h_12⟩ := asO_bind h_11
    obtain ⟨_, rfl, h_13⟩ := asO_bind h_12
    obtain ⟨_, rfl, h_14⟩ := asO_bind h_13
    obtain ⟨_, rfl, h_15⟩ := asO_bind h_14
    exact ⟨k, (impl_TakeSnapshot.e3 K k _ _ _ _ _ _ _ _ _ _ _ _ _ _ _ _ _ _ _ _ _ _ _ _ _ _ _ k _ _).trans h_15⟩
  · cases h
theorem impl_TakeSnapshot.lok (k : Nat) : LOK ti (impl_TakeSnapshot.Γ k) (impl_TakeSnapshot.LH k) 5 (loopsOf (bodyOf Tryz.f8)) :=
  (show loopsOf (bodyOf Tryz.f8) = [loopAt Tryz.f8 0] by kernel_rfl) ▸ (LOK_cons (g := ⟨5, [(2, [none, none, none, some 2, some 3, some 4, some 1, none]), (4, [none, none, none, some 2, some 3, some 4, some 1, none, some 6]), (5, [none, none, none, some 2, some 3, some 4, some 1, none, some 6]), (12, [some 6]), (13, []), (14, [])], [(4, [none, none, none, some 2, some 3, some 4, some 1, none, some 6]), (5, [none, none, none, some 2, some 3, some 4, some 1, none, some 6])], @impl_TakeSnapshot.h3 k⟩) (by kernel_rfl) rfl (fun K vs xs r h => impl_TakeSnapshot.q3 k K vs xs r h) (LOK_nil))
def impl_TakeSnapshot.sig : List PSh := [.agg [.sc, .sc, .sc, .ro 2, .ro 3, .ro 4, .ro 1, .sc], .one (.ro 6)]
def impl_TakeSnapshot.g (y : Int × Int × Int × Int × List T_impl_Grant × List T_impl_Flow × List T_impl_Rule × List T_impl_Op × List T_impl_Stored) : Ret κ := ⟨.agg [.int .i64 y.1, .int .i64 y.2.1, .int .i64 y.2.2.1, .sl 5, .sl 6, .sl 7, .sl 8, .int .i64 y.2.2.2.1, .sl 9], [], [.rows 2 true y.2.2.2.2.1, .rows 3 true y.2.2.2.2.2.1, .rows 4 true y.2.2.2.2.2.2.1, .rows 1 true y.2.2.2.2.2.2.2.1, .rows 6 true y.2.2.2.2.2.2.2.2]⟩
def impl_TakeSnapshot.out (r : Ret κ) : Option (Int × Int × Int × Int × List T_impl_Grant × List T_impl_Flow × List T_impl_Rule × List T_impl_Op × List T_impl_Stored) :=
  match r with
  | ⟨.agg [.int .i64 z0, .int .i64 z1, .int .i64 z2, .sl 5, .sl 6, .sl 7, .sl 8, .int .i64 z3, .sl 9], [], [q4, q5, q6, q7, q8]⟩ => (asO 2 true q4).bind fun z4 => (asO 3 true q5).bind fun z5 => (asO 4 true q6).bind fun z6 => (asO 1 true q7).bind fun z7 => (asO 6 true q8).bind fun z8 => some (z0, z1, z2, z3, z4, z5, z6, z7, z8)
  | _ => none
theorem impl_TakeSnapshot.out_ok (r : Ret κ) (y : Int × Int × Int × Int × List T_impl_Grant × List T_impl_Flow × List T_impl_Rule × List T_impl_Op × List T_impl_Stored) (h : impl_TakeSnapshot.out r = some y) : r = impl_TakeSnapshot.g y := by
  unfold impl_TakeSnapshot.out at h
  split at h
  · obtain ⟨_, rfl, h_1⟩ := asO_bind h
    obtain ⟨_, rfl, h_2⟩ := asO_bind h_1
    obtain ⟨_, rfl, h_3⟩ := asO_bind h_2
    obtain ⟨_, rfl, h_4⟩ := asO_bind h_3
    obtain ⟨_, rfl, h_5⟩ := asO_bind h_4
    obtain rfl := Option.some.inj h_5
    rfl
  · cases h
def impl_TakeSnapshot.body (k : Nat) (vs : List AV) (bs : List (Blk κ)) : Option (Lf κ) :=
  match vs, bs with
  | [.agg [.int .i64 a0_0, .int .i64 a0_1, .int .i64 a0_2, .sl 0, .sl 1, .sl 2, .sl 3, .int .i64 a0_7], .v (.sl 4)], [qb0, qb1, qb2, qb3, qb4] => (asO 2 false qb0).bind fun a0_3 => (asO 3 false qb1).bind fun a0_4 => (asO 4 false qb2).bind fun a0_5 => (asO 1 false qb3).bind fun a0_6 => (asO 6 false qb4).bind fun a1 => some ⟨Int × Int × Int × Int × List T_impl_Grant × List T_impl_Flow × List T_impl_Rule × List T_impl_Op × List T_impl_Stored, impl_TakeSnapshot.f k a0_0 a0_1 a0_2 a0_3 a0_4 a0_5 a0_6 a0_7 a1, impl_TakeSnapshot.g⟩
  | _, _ => none
def impl_TakeSnapshot.C (k : Nat) : Nat → List AV → AP κ AV := contract impl_TakeSnapshot.sig (impl_TakeSnapshot.body k)
theorem impl_TakeSnapshot.den (k : Nat) (a0_0 : Int) (a0_1 : Int) (a0_2 : Int) (a0_3 : List T_impl_Grant) (a0_4 : List T_impl_Flow) (a0_5 : List T_impl_Rule) (a0_6 : List T_impl_Op) (a0_7 : Int) (a1 : List T_impl_Stored) : Code.den ti (impl_TakeSnapshot.Γ k) (impl_TakeSnapshot.LH k) (bodyOf Tryz.f8) (finK ti Tryz.f8.results.toList [(4, [none, none, none, some 2, some 3, some 4, some 1, none, some 6])] (flags impl_TakeSnapshot.sig).length (rwI (flags impl_TakeSnapshot.sig) 0) impl_TakeSnapshot.out) ⟨envOf (([.agg [.int .i64 a0_0, .int .i64 a0_1, .int .i64 a0_2, .sl 0, .sl 1, .sl 2, .sl 3, .int .i64 a0_7], .v (.sl 4)]).zipIdx.map fun q => (q.2, q.1)), hpOf [.rows 2 false a0_3, .rows 3 false a0_4, .rows 4 false a0_5, .rows 1 false a0_6, .rows 6 false a1], (flags impl_TakeSnapshot.sig).length⟩ = impl_TakeSnapshot.f k a0_0 a0_1 a0_2 a0_3 a0_4 a0_5 a0_6 a0_7 a1 := by kernel_rfl
theorem impl_TakeSnapshot.ok (k : Nat) : CSound Tryz.prog 8 (impl_TakeSnapshot.C k) :=
  csound κ_ok mixed tok (impl_TakeSnapshot.hΓ k) (LH := impl_TakeSnapshot.LH k) (fn := Tryz.f8) (c := bodyOf Tryz.f8) Tryz.func8 rfl Tryz.call8 impl_TakeSnapshot.sig [(4, [none, none, none, some 2, some 3, some 4, some 1, none, some 6])] (impl_TakeSnapshot.body k) (by kernel_rfl) (impl_TakeSnapshot.lok k) (by decide) fun vs bs lf y hl hb hy => by
    unfold impl_TakeSnapshot.body at hb
    split at hb
    · obtain ⟨_, rfl, hb_1⟩ := asO_bind hb
      obtain ⟨_, rfl, hb_2⟩ := asO_bind hb_1
      obtain ⟨_, rfl, hb_3⟩ := asO_bind hb_2
      obtain ⟨_, rfl, hb_4⟩ := asO_bind hb_3
      obtain ⟨_, rfl, hb_5⟩ := asO_bind hb_4
      obtain rfl := Option.some.inj hb_5
      exact ⟨impl_TakeSnapshot.out, impl_TakeSnapshot.out_ok, (impl_TakeSnapshot.den k _ _ _ _ _ _ _ _ _).trans hy⟩
    · cases hb
end Go.Proofs.YtmjflahlhgibnaaGreatDoor.PFnRolledBack
