/- The abstract run of a function and its soundness, part 5; no conditions. -/
import Derived.Test.YtmjflahlhgibnaaEng4
import Derived.Shelf.Spec.SlicesInsertGrow
/- slices.Insert at structs of four cells: walked here (the shelf has it at []int and []string alone). -/
set_option linter.unusedVariables false
set_option linter.unusedSimpArgs false
namespace Go.Eng
open Go Go.Proofs Go.Shelf Go.RowKit Go.Lib
section
variable {P : Program} {ρ : Ren}
structure InsL (P : Program) (ρ : Ren) (zv : Value) (bytes : Nat) : Prop where
  mixed : P.follows .mixedOrders = true
  f22 : ∃ nm, P.funcs[ρ.f 22]? = some { Body2.n22 ρ with name := nm }
  f29 : ∀ args w, (callFunc (ρ.f 29) args).run P w = ((Extern.SlicesOverlaps.overlaps #[ρ.t 24, ρ.t 24] #[ρ.t 4] args).run P w).andThen fun v w' => .ok (.value v) w'
  t0 : P.underlying (ρ.t 0) = some (TypeDesc.tuple #[])
  a0 : ∀ w, (isAgg (ρ.t 0)).run P w = .ok false w
  z0 : ∀ w, (Go.sizeOf (ρ.t 0)).run P w = .ok 1 w
  v0 : ∀ w, (zeroValue (ρ.t 0)).run P w = .ok (Value.tuple #[]) w
  t3 : P.underlying (ρ.t 3) = some (TypeDesc.int IntKind.i64)
  a3 : ∀ w, (isAgg (ρ.t 3)).run P w = .ok false w
  z3 : ∀ w, (Go.sizeOf (ρ.t 3)).run P w = .ok 1 w
  v3 : ∀ w, (zeroValue (ρ.t 3)).run P w = .ok (Value.int IntKind.i64 0) w
  t4 : P.underlying (ρ.t 4) = some (TypeDesc.bool)
  a4 : ∀ w, (isAgg (ρ.t 4)).run P w = .ok false w
  z4 : ∀ w, (Go.sizeOf (ρ.t 4)).run P w = .ok 1 w
  v4 : ∀ w, (zeroValue (ρ.t 4)).run P w = .ok (Value.bool false) w
  z9 : ∀ w, (Go.sizeOf (ρ.t 9)).run P w = .ok 4 w
  t24 : P.underlying (ρ.t 24) = some (TypeDesc.slice (ρ.t 9))
  a24 : ∀ w, (isAgg (ρ.t 24)).run P w = .ok false w
  z24 : ∀ w, (Go.sizeOf (ρ.t 24)).run P w = .ok 1 w
  v24 : ∀ w, (zeroValue (ρ.t 24)).run P w = .ok (Value.slice none 0 0) w
  i9 : (P.info? (ρ.t 9)).map (fun i => (i.zero, i.size, i.bytes)) = some (some zv, 4, bytes)
  zs : zv.cells.size = 4
/-- 'copy' of elements of any size onto a row. -/
theorem run_copy_rowN (w : World) (dT sT ty elem : TypeId) (size n g o dLen dCap : Nat) (a : Addr) (sLen sCap : Nat) (cur : Array Value) (t : TypeId) (cs : List Value)
    (hu : P.underlying dT = some (.slice elem)) (hs : (P.info? elem).map (·.size) = some size) (hg : w.heap[g]? = some (.cells cur t (0, 0))) (hn : Nat.min sLen dLen = n) (hl : cs.length = n * size)
    (hsrc : ∀ j v, cs[j]? = some v → w.cell? (a.add j) = some v) (hfit : o + cs.length ≤ cur.size) (h1 : ∀ v ∈ cs, v.oneCell' = true) :
    (Builtin.copy_ #[dT, sT] ty #[.slice (some ⟨g, o, none⟩) dLen dCap, .slice (some a) sLen sCap]).run P w =
      .ok (goInt n) (w.setRow g (cur.toList.take o ++ cs ++ cur.toList.drop (o + cs.length)).toArray) := by
  have hld := run_firstCells_some (P := P) w size n a sLen sCap cs hl hsrc
  have hst := run_storeCells_at P g o t cs 0 cur w hg (by simpa using hfit) h1
  cases hq : P.info? elem with
  | none => simp [hq] at hs
  | some i =>
    have hi : i.size = size := by simpa [hq] using hs
    simp [Builtin.copy_, run_underlying hu, Builtin.lenOf, sizeOf, typeInfo, hq, hi, hn, hld, hst]
set_option maxHeartbeats 1000000 in
set_option maxRecDepth 100000 in
theorem ins_shift_walk {zv : Value} {bytes : Nat} (L : InsL P ρ zv bytes) (b n c i vb m vc k1 k2 : Nat) (w W1 W2 : World) (hi : i < n) (hm : 0 < m) (hroom : n + m ≤ c) (hc63 : c ≤ 9223372036854775807)
    (hov : ∀ lb cb, (callFunc (ρ.f 29) #[.slice (some ⟨vb, 0, none⟩) m vc, .slice (some ⟨b, (i + m) * 4, none⟩) lb cb]).run P w = .ok (.value (.bool false)) w)
    (hcp1 : ∀ ty dc sc, (Builtin.copy_ #[(ρ.t 24), (ρ.t 24)] ty #[.slice (some ⟨b, (i + m) * 4, none⟩) (n + m - (i + m)) dc, .slice (some ⟨b, i * 4, none⟩) (n + m - i) sc]).run P w.drew = .ok (goInt k1) W1)
    (hcp2 : ∀ ty dc, (Builtin.copy_ #[(ρ.t 24), (ρ.t 24)] ty #[.slice (some ⟨b, i * 4, none⟩) (n + m - i) dc, .slice (some ⟨vb, 0, none⟩) m vc]).run P W1 = .ok (goInt k2) W2) :
    Calls P (ρ.f 22) #[.slice (some ⟨b, 0, none⟩) n c, .int .i64 i, .slice (some ⟨vb, 0, none⟩) m vc] w fun e w' =>
      e = .returned (.slice (some ⟨b, 0, none⟩) (n + m) c) ∧ w' = W2 := by
  obtain ⟨nm, f22⟩ := L.f22
  have t0 := L.t0; have a0 := L.a0; have z0 := L.z0; have v0 := L.v0; have t3 := L.t3; have a3 := L.a3; have z3 := L.z3; have v3 := L.v3; have t4 := L.t4; have a4 := L.a4; have z4 := L.z4; have v4 := L.v4; have z9 := L.z9; have t24 := L.t24; have a24 := L.a24; have z24 := L.z24; have v24 := L.v24
  have u0 := run_underlying L.t0; have u3 := run_underlying L.t3; have u4 := run_underlying L.t4; have u24 := run_underlying L.t24
  have hz1 : ¬ ((m : Int) = 0) := by omega
  have hz2 : ¬ ((i : Int) = (n : Int)) := by omega
  have mixed := L.mixed
  have hw1 : IntKind.i64.wrap ((i : Int) + (m : Int)) = (i : Int) + (m : Int) := by rw [IntKind.wrap_i64]; omega
  have hb1 : (0 : Int) ≤ (i : Int) + (m : Int) := by omega
  have hin : i ≤ n := by omega
  have htn : ((i : Int) + (m : Int)).toNat = i + m := by omega
  have hb2 : ¬ (c = i + m) := by omega
  have hb3 : (i : Int) ≤ (n : Int) + (m : Int) := by omega
  have hb4 : ¬ (c = i) := by omega
  clear L
  go_enter f22, Body2.n22_ntmps ρ
  go_wp2_with (simp only [hov])
  go_region_law_o (refine step_copy_runI rfl _ _ (ρ.t 24) (ρ.t 24) rfl _ _ (by simp [Act.eval, Act.put]) (by simp [Act.eval, Act.put]) (hcp1 _ _ _) ?_)
  go_wp2_with (at_builtin; refine wpList_copy_runI _ rfl _ _ (ρ.t 24) (ρ.t 24) rfl _ _ rfl rfl (hcp2 _ _) ?_)
  go_ret
  exact ⟨rfl, rfl⟩
set_option maxHeartbeats 1000000 in
set_option maxRecDepth 100000 in
theorem ins_end_walk {zv : Value} {bytes : Nat} (L : InsL P ρ zv bytes) (base : Option Addr) (n c vb m vc : Nat) (w W1 : World) (v' : Value) (hm : 0 < m) (hnc : n ≤ c) (hc63 : c ≤ 9223372036854775807) (hnil : base = none → n = 0)
    (hrun : ∀ ty, (Builtin.append_ #[(ρ.t 24), (ρ.t 24)] ty #[.slice base n c, .slice (some ⟨vb, 0, none⟩) m vc]).run P w = .ok v' W1) :
    Calls P (ρ.f 22) #[.slice base n c, .int .i64 n, .slice (some ⟨vb, 0, none⟩) m vc] w fun e w' => e = .returned v' ∧ w' = W1 := by
  obtain ⟨nm, f22⟩ := L.f22
  have t0 := L.t0; have a0 := L.a0; have z0 := L.z0; have v0 := L.v0; have t3 := L.t3; have a3 := L.a3; have z3 := L.z3; have v3 := L.v3; have t4 := L.t4; have a4 := L.a4; have z4 := L.z4; have v4 := L.v4; have z9 := L.z9; have t24 := L.t24; have a24 := L.a24; have z24 := L.z24; have v24 := L.v24
  have u0 := run_underlying L.t0; have u3 := run_underlying L.t3; have u4 := run_underlying L.t4; have u24 := run_underlying L.t24
  have hz1 : ¬ ((m : Int) = 0) := by omega
  have mixed := L.mixed
  clear L
  go_enter f22, Body2.n22_ntmps ρ
  cases base with
  | none =>
    have h0 := hnil rfl
    subst h0
    go_wp2_with (at_builtin; refine Lib.wpList_append_run _ rfl _ _ _ _ rfl _ _ rfl rfl _ _ (hrun _) ?_)
    go_ret
    exact ⟨rfl, rfl⟩
  | some a =>
    obtain ⟨ab, ao, asp⟩ := a
    go_wp2_with (at_builtin; refine Lib.wpList_append_run _ rfl _ _ _ _ rfl _ _ rfl rfl _ _ (hrun _) ?_)
    all_goals (go_ret; exact ⟨rfl, rfl⟩)
set_option maxHeartbeats 1000000 in
set_option maxRecDepth 100000 in
theorem ins_grow_walk {zv : Value} {bytes : Nat} (L : InsL P ρ zv bytes) (b n c i vb m vc N G k1 k2 : Nat) (w W1 W2 W3 : World) (hi : i < n) (hm : 0 < m) (hnc : n ≤ c) (hroom : c < n + m) (hc63 : n + m ≤ 9223372036854775807) (hG : n + m ≤ G) (hG63 : G ≤ 9223372036854775807)
    (hrz : ∀ ty, (Builtin.append_ #[(ρ.t 24), (ρ.t 3)] ty #[.slice (some ⟨b, 0, none⟩) i c, .int .i64 ((n : Int) + (m : Int) - (i : Int))]).run P w = .ok (.slice (some ⟨N, 0, none⟩) (n + m) G) W1)
    (hcpA : ∀ ty dc, (Builtin.copy_ #[(ρ.t 24), (ρ.t 24)] ty #[.slice (some ⟨N, i * 4, none⟩) (n + m - i) dc, .slice (some ⟨vb, 0, none⟩) m vc]).run P W1 = .ok (goInt k1) W2)
    (hcpB : ∀ ty dc sc, (Builtin.copy_ #[(ρ.t 24), (ρ.t 24)] ty #[.slice (some ⟨N, (i + m) * 4, none⟩) (n + m - (i + m)) dc, .slice (some ⟨b, i * 4, none⟩) (n - i) sc]).run P W2.drew = .ok (goInt k2) W3) :
    Calls P (ρ.f 22) #[.slice (some ⟨b, 0, none⟩) n c, .int .i64 i, .slice (some ⟨vb, 0, none⟩) m vc] w fun e w' =>
      e = .returned (.slice (some ⟨N, 0, none⟩) (n + m) G) ∧ w' = W3 := by
  obtain ⟨nm, f22⟩ := L.f22
  have t0 := L.t0; have a0 := L.a0; have z0 := L.z0; have v0 := L.v0; have t3 := L.t3; have a3 := L.a3; have z3 := L.z3; have v3 := L.v3; have t4 := L.t4; have a4 := L.a4; have z4 := L.z4; have v4 := L.v4; have z9 := L.z9; have t24 := L.t24; have a24 := L.a24; have z24 := L.z24; have v24 := L.v24
  have u0 := run_underlying L.t0; have u3 := run_underlying L.t3; have u4 := run_underlying L.t4; have u24 := run_underlying L.t24
  have hz1 : ¬ ((m : Int) = 0) := by omega
  have hz2 : ¬ ((i : Int) = (n : Int)) := by omega
  have hz3 : (c : Int) < (n : Int) + (m : Int) := by omega
  have mixed := L.mixed
  have hGi : ¬ (G = i) := by omega
  have hGim : ¬ (G = i + m) := by omega
  have hci : ¬ (c = i) := by omega
  have hw1 : IntKind.i64.wrap ((i : Int) + (m : Int)) = (i : Int) + (m : Int) := by rw [IntKind.wrap_i64]; omega
  have hb1 : (0 : Int) ≤ (i : Int) + (m : Int) := by omega
  have hin : i ≤ n := by omega
  have htn : ((i : Int) + (m : Int)).toNat = i + m := by omega
  have hb3 : (i : Int) ≤ (n : Int) := by omega
  clear L
  go_enter f22, Body2.n22_ntmps ρ
  go_wp2_with (first
    | (at_builtin; refine Lib.wpList_append_run _ rfl _ _ _ _ rfl _ _ rfl rfl _ _ (hrz _) ?_)
    | (at_builtin; refine wpList_copy_runI _ rfl _ _ (ρ.t 24) (ρ.t 24) rfl _ _ rfl rfl (hcpA _ _) ?_))
  go_region_law_o (refine step_copy_runI rfl _ _ (ρ.t 24) (ρ.t 24) rfl (.slice (some ⟨N, (i + m) * 4, none⟩) (n + m - (i + m)) (G - (i + m))) (.slice (some ⟨b, i * 4, none⟩) (n - i) (c - i)) (by simp [Act.eval, Act.put]) (by simp [Act.eval, Act.put]) (hcpB (ρ.t 3) (G - (i + m)) (c - i)) ?_)
  go_wp2
  go_ret
  exact ⟨rfl, rfl⟩
theorem put_len {α : Type} {R x : List α} {o : Nat} (h : o + x.length ≤ R.length) : (R.take o ++ x ++ R.drop (o + x.length)).length = R.length := by
  simp only [List.length_append, List.length_take, List.length_drop]; omega
theorem put_take {α : Type} {R x : List α} {o j : Nat} (h : o + x.length ≤ R.length) (hj : j = o + x.length) : (R.take o ++ x ++ R.drop (o + x.length)).take j = R.take o ++ x := by
  have e : j = (R.take o ++ x).length := by simp only [List.length_append, List.length_take]; omega
  rw [e, List.take_left]
theorem put_take_lo {α : Type} {R x : List α} {o j : Nat} (h : o + x.length ≤ R.length) (hj : j ≤ o) : (R.take o ++ x ++ R.drop (o + x.length)).take j = R.take j := by
  rw [List.append_assoc, List.take_append_of_le_length (by simp only [List.length_take]; omega), List.take_take, Nat.min_eq_left hj]
theorem put_drop {α : Type} {R x : List α} {o j : Nat} (h : o + x.length ≤ R.length) (hj : j = o + x.length) : (R.take o ++ x ++ R.drop (o + x.length)).drop j = R.drop j := by
  have e : j = (R.take o ++ x).length := by simp only [List.length_append, List.length_take]; omega
  rw [e, List.drop_left, ← e, hj]
theorem list_shift {α : Type} {C cs vs : List α} {I M N Z : Nat} (hC : C.length = Z) (hcs : C.take N = cs) (hI : I ≤ N) (hN : N + M ≤ Z) (hv : vs.length = M) (r1 r2 : List α)
    (h1 : r1 = C.take (I + M) ++ cs.drop I ++ C.drop (I + M + (cs.drop I).length)) (h2 : r2 = r1.take I ++ vs ++ r1.drop (I + vs.length)) : r1.length = Z ∧ r2.length = Z ∧ r2.take (N + M) = cs.take I ++ vs ++ cs.drop I := by
  have hcl : cs.length = N := by rw [← hcs]; simp only [List.length_take]; omega
  have hdl : (cs.drop I).length = N - I := by rw [List.length_drop, hcl]
  have hl1 : r1.length = Z := by rw [h1, put_len (by omega), hC]
  have hl2 : r2.length = Z := by rw [h2, put_len (by omega), hl1]
  refine ⟨hl1, hl2, ?_⟩
  have ht1 : r1.take I = cs.take I := by rw [h1, put_take_lo (by omega) (by omega), ← hcs, List.take_take, Nat.min_eq_left hI]
  have ht2 : r1.take (N + M) = C.take (I + M) ++ cs.drop I := by rw [h1]; exact put_take (by omega) (by omega)
  have hd : (r1.take (N + M)).drop (I + M) = cs.drop I := by
    rw [ht2]
    have e : I + M = (C.take (I + M)).length := by rw [List.length_take]; omega
    conv => lhs; rw [e, ← e]
    exact List.drop_left' (by rw [List.length_take]; omega)
  rw [h2, hv]
  have e2 : N + M = (r1.take I ++ vs).length + (N - I) := by simp only [List.length_append, List.length_take]; omega
  rw [e2, List.take_length_add_append, ht1]
  congr 1
  rw [← hd, List.drop_take]
  congr 1
  omega
theorem list_grow {α : Type} {R cs vs : List α} {I M N Z : Nat} (hR : R.length = Z) (hcs : R.take I = cs.take I) (hcl : cs.length = N) (hI : I ≤ N) (hN : N + M ≤ Z) (hv : vs.length = M) (r2 r3 : List α)
    (h2 : r2 = R.take I ++ vs ++ R.drop (I + vs.length)) (h3 : r3 = r2.take (I + M) ++ cs.drop I ++ r2.drop (I + M + (cs.drop I).length)) : r2.length = Z ∧ r3.length = Z ∧ r3.take (N + M) = cs.take I ++ vs ++ cs.drop I := by
  have hdl : (cs.drop I).length = N - I := by rw [List.length_drop, hcl]
  have hl2 : r2.length = Z := by rw [h2, put_len (by omega), hR]
  have hl3 : r3.length = Z := by rw [h3, put_len (by omega), hl2]
  refine ⟨hl2, hl3, ?_⟩
  rw [h3, put_take (by omega) (by omega), h2, put_take (by omega) (by omega), hcs]
theorem cell_of_own {w : World} {e : TypeId} {n : Nat} {g cap : Nat} {cs : List Value} (ho : w.ownsRow 0 e 4 (.slice (some ⟨g, 0, none⟩) n cap) n cs) : ∀ j v, cs[j]? = some v → w.cell? ⟨g, j, none⟩ = some v := fun j v h => by
  have h2 := ho.cells (g := g) rfl j v h
  rwa [Addr.add_lit, Nat.zero_add] at h2
theorem cell_of_own_other {w w' : World} {g j : Nat} {v : Value} (h : w'.heap[g]? = w.heap[g]?) (hc : w.cell? ⟨g, j, none⟩ = some v) : w'.cell? ⟨g, j, none⟩ = some v :=
  (World.cell?_of_block (w := w) (w' := w') (a := ⟨g, j, none⟩) h).trans hc
theorem setRow_hs (w : World) (g : Nat) (c : Array Value) : (w.setRow g c).heap.size = w.heap.size := by simp [World.setRow]
/-- slices.Insert on a row that the call owns: whatever road it takes. -/
theorem ins_calls {zv : Value} {bytes : Nat} (L : InsL P ρ zv bytes) (n i m : Nat) (cs vs : List Value) (v vv : Value) (w : World) (hi : i ≤ n) (hm : 0 < m) (h63 : n + m ≤ maxLen) (hbig : (n + m) * bytes ≤ 140737488355328)
    (ho : w.ownsRow 0 (ρ.t 9) 4 v n cs) (hv : w.ownsRow 0 (ρ.t 9) 4 vv m vs) (hne : ∀ g, hb v = some g → hb vv ≠ some g) (h1c : ∀ u ∈ cs, u.oneCell' = true) (h1v : ∀ u ∈ vs, u.oneCell' = true) :
    Calls P (ρ.f 22) #[v, .int .i64 i, vv] w fun e w' => ∃ v', e = .returned v' ∧ w.grownBy w' (hb v) ∧ w.drawn ≤ w'.drawn ∧ (∀ g, hb v' = some g → hb v = some g ∨ w.heap.size ≤ g) ∧ w'.ownsRow 0 (ρ.t 9) 4 v' (n + m) (cs.take (i * 4) ++ vs ++ cs.drop (i * 4)) := by
  obtain ⟨i0, hi0, hz0, hzs, hzb⟩ := info_parts L.i9
  have hsz : (P.info? (ρ.t 9)).map (·.size) = some 4 := by rw [hi0]; simp [hzs]
  have hmx : maxLen ≤ 9223372036854775807 := by decide
  obtain ⟨vb, vc, cv, rfl, _, hvb, hvn, hvm, hvz, hvt⟩ : ∃ g cap cur, vv = .slice (some ⟨g, 0, none⟩) m cap ∧ 0 ≤ g ∧ w.heap[g]? = some (.cells cur (ρ.t 9) (0, 0)) ∧ m ≤ cap ∧ cap ≤ maxLen ∧ cur.size = cap * 4 ∧ cur.toList.take (m * 4) = vs := by
    rcases hv.2 with ⟨_, h⟩ | h
    · omega
    · exact h
  have hvl : vs.length = m * 4 := hv.1
  have hcl : cs.length = n * 4 := ho.1
  have hvs := cell_of_own hv
  by_cases hin : i = n
  · subst hin
    have hend : cs.take (i * 4) ++ vs ++ cs.drop (i * 4) = cs ++ vs := by
      rw [← hcl, List.take_length, List.drop_length, List.append_nil]
    rw [hend]
    obtain ⟨base, c, rfl, hnc, hcm, hnil⟩ : ∃ base c, v = .slice base i c ∧ i ≤ c ∧ c ≤ maxLen ∧ (base = none → i = 0) := by
      rcases ho.2 with ⟨rfl, h⟩ | ⟨g, cap, cur, rfl, _, _, h1, h2, _⟩
      · exact ⟨none, 0, by rw [h], by omega, by omega, fun _ => h⟩
      · exact ⟨_, cap, rfl, h1, h2, fun h => by cases h⟩
    have hr : ∀ ty, ∃ v' w', (Builtin.append_ #[ρ.t 24, ρ.t 24] ty #[.slice base i c, .slice (some ⟨vb, 0, none⟩) m vc]).run P w = .ok v' w' ∧ w'.ownsRow 0 (ρ.t 9) 4 v' (i + m) (cs ++ vs) ∧ w.grownBy w' (Value.slice base i c).ownBlock ∧
        (v' = .slice none 0 0 ↔ (Value.slice base i c) = .slice none 0 0 ∧ m = 0) ∧ (v'.ownBlock = (Value.slice base i c).ownBlock ∨ v'.ownBlock = some w.heap.size) := fun ty =>
      run_append_own_at (P := P) w 0 (ρ.t 24) ty (ρ.t 9) i0 zv 4 bytes L.t24 hi0 hz0 hzs hzb L.zs (by omega) _ i cs ho ⟨vb, 0, none⟩ m vc vs hvl (fun j u h => by rw [Addr.add_lit, Nat.zero_add]; exact hvs j u h) h1v h63 hbig (Nat.zero_le _)
    obtain ⟨v', w', r1, r2, r3, _, r5⟩ := hr 0
    have hty : ∀ ty, (Builtin.append_ #[ρ.t 24, ρ.t 24] ty #[.slice base i c, .slice (some ⟨vb, 0, none⟩) m vc]).run P w = .ok v' w' := fun ty => by rw [← r1]; rfl
    refine (ins_end_walk L base i c vb m vc w w' v' hm hnc (by omega) hnil hty).mono ?_
    rintro e w'' ⟨rfl, rfl⟩
    have hob : ∀ u : Value, (∃ a n c, u = .slice a n c) → hb u = u.ownBlock := fun u ⟨a, n, c, h⟩ => by rw [h]; cases a <;> rfl
    rw [hob _ ⟨_, _, _, rfl⟩]
    refine ⟨v', rfl, r3, run_drawn _ _ _ _ _ r1, fun g hg => ?_, r2⟩
    have hg' : v'.ownBlock = some g := by
      rcases r2.2 with ⟨rfl, _⟩ | ⟨g', cap, cur, rfl, _⟩
      · cases hg
      · exact hg
    rcases r5 with r5 | r5
    · rw [← r5]; exact .inl hg'
    · rw [hg'] at r5; right; simp at r5; omega
  · obtain ⟨b, c, cur, rfl, _, hbb, hnc, hcm, hcz, hct⟩ : ∃ g cap cur, v = .slice (some ⟨g, 0, none⟩) n cap ∧ 0 ≤ g ∧ w.heap[g]? = some (.cells cur (ρ.t 9) (0, 0)) ∧ n ≤ cap ∧ cap ≤ maxLen ∧ cur.size = cap * 4 ∧ cur.toList.take (n * 4) = cs := by
      rcases ho.2 with ⟨_, h⟩ | h
      · omega
      · exact h
    have hbv : vb ≠ b := fun e => hne b rfl (by rw [e]; rfl)
    have hcs := cell_of_own ho
    have hdl : (cs.drop (i * 4)).length = (n - i) * 4 := by rw [List.length_drop, hcl]; omega
    have hblt : b < w.heap.size := (Array.getElem?_eq_some_iff.1 hbb).1
    have hvlt : vb < w.heap.size := (Array.getElem?_eq_some_iff.1 hvb).1
    have hlen : (cs.take (i * 4) ++ vs ++ cs.drop (i * 4)).length = (n + m) * 4 := by simp only [List.length_append, List.length_take, hdl, hvl, hcl]; omega
    by_cases hroom : n + m ≤ c
    · obtain ⟨r1, hr1⟩ : ∃ r1, r1 = cur.toList.take ((i + m) * 4) ++ cs.drop (i * 4) ++ cur.toList.drop ((i + m) * 4 + (cs.drop (i * 4)).length) := ⟨_, rfl⟩
      obtain ⟨r2, hr2⟩ : ∃ r2, r2 = r1.take (i * 4) ++ vs ++ r1.drop (i * 4 + vs.length) := ⟨_, rfl⟩
      obtain ⟨l1, l2, l3⟩ := list_shift (C := cur.toList) (cs := cs) (vs := vs) (I := i * 4) (M := m * 4) (N := n * 4) (Z := c * 4) (by simpa using hcz) hct (by omega) (by omega) hvl r1 r2 (by rw [hr1, Nat.add_mul]) hr2
      have hW1b : (w.drew.setRow b r1.toArray).heap[b]? = some (.cells r1.toArray (ρ.t 9) (0, 0)) := setRow_heap w.drew b cur _ (ρ.t 9) _ hbb
      refine (ins_shift_walk L b n c i vb m vc (n - i) m w (w.drew.setRow b r1.toArray) ((w.drew.setRow b r1.toArray).setRow b r2.toArray) (by omega) hm hroom (by omega) (fun lb cb => ?_) (fun ty dc sc => ?_) (fun ty dc => ?_)).mono ?_
      · rw [L.f29, Lib.run_overlaps_apart w (ρ.t 24) (ρ.t 4) (ρ.t 9) L.t24 4 L.z9 ⟨vb, 0, none⟩ ⟨b, (i + m) * 4, none⟩ m vc lb cb hbv (ρ.t 9) (ρ.t 9) cv.size cur.size (by simp [World.shape?, hvb]) (by simp [World.shape?, hbb]) (by omega) (by simp [World.frozen?, hvb]) (by simp [World.frozen?, hvb])]
        rfl
      · rw [hr1]
        exact run_copy_rowN w.drew _ _ ty (ρ.t 9) 4 (n - i) b ((i + m) * 4) (n + m - (i + m)) dc ⟨b, i * 4, none⟩ (n + m - i) sc cur (ρ.t 9) (cs.drop (i * 4)) L.t24 hsz hbb (by simp only [Nat.min_def]; split <;> omega) hdl
          (fun j v hj => by rw [Addr.add_lit]; exact hcs (i * 4 + j) v (by rwa [List.getElem?_drop] at hj)) (by rw [hdl]; omega) (fun v hv => h1c v (List.mem_of_mem_drop hv))
      · have h := run_copy_rowN (P := P) (w.drew.setRow b r1.toArray) (ρ.t 24) (ρ.t 24) ty (ρ.t 9) 4 m b (i * 4) (n + m - i) dc ⟨vb, 0, none⟩ m vc r1.toArray (ρ.t 9) vs L.t24 hsz hW1b (by simp only [Nat.min_def]; split <;> omega) hvl
          (fun j v hj => by rw [Addr.add_lit, Nat.zero_add]; exact cell_of_own_other (setRow_other w.drew b vb _ hbv) (hvs j v hj)) (by simp only [List.size_toArray]; omega) h1v
        rw [hr2]
        exact h
      · rintro e w' ⟨rfl, rfl⟩
        have hh := setRow_heap (w.drew.setRow b r1.toArray) b _ r2.toArray (ρ.t 9) _ hW1b
        refine ⟨_, rfl, ⟨rfl, rfl, rfl, by simp [World.setRow], fun k hk hk2 => ?_⟩, ?_, fun g hg => .inl hg, hlen, .inr ⟨b, c, r2.toArray, rfl, Nat.zero_le _, hh, hroom, hcm, by simp [l2], ?_⟩⟩
        · have hkb : k ≠ b := fun e => hk2 (by rw [e]; rfl)
          rw [setRow_other _ b k _ hkb, setRow_other _ b k _ hkb]
          rfl
        · exact Nat.le_succ _
        · rw [Nat.add_mul]; exact l3
    · have hge := grownCap_ge w (n + m) c (ρ.t 9)
      have hle := grownCap_le_maxLen w (n + m) c (ρ.t 9) h63
      generalize hG : grownCap w (n + m) c (ρ.t 9) = G at hge hle
      obtain ⟨R, hR⟩ : ∃ R : Array Value, R = (cs.take (i * 4)).toArray ++ Builtin.zeroCells zv.cells (n + m - i) ++ Builtin.zeroCells zv.cells (G - (n + m)) := ⟨_, rfl⟩
      have hRl : R.toList.length = G * 4 := by rw [hR]; simp only [Array.toList_append, List.length_append, Array.length_toList, size_zeroCells, L.zs, List.length_take, hcl]; omega
      have hRt : R.toList.take (i * 4) = cs.take (i * 4) := by
        rw [hR]
        simp only [Array.toList_append, List.append_assoc]
        exact List.take_left' (by simp only [List.length_take, hcl]; omega)
      obtain ⟨r2, hr2⟩ : ∃ r2, r2 = R.toList.take (i * 4) ++ vs ++ R.toList.drop (i * 4 + vs.length) := ⟨_, rfl⟩
      obtain ⟨r3, hr3⟩ : ∃ r3, r3 = r2.take ((i + m) * 4) ++ cs.drop (i * 4) ++ r2.drop ((i + m) * 4 + (cs.drop (i * 4)).length) := ⟨_, rfl⟩
      obtain ⟨l2, l3, l4⟩ := list_grow (R := R.toList) (cs := cs) (vs := vs) (I := i * 4) (M := m * 4) (N := n * 4) (Z := G * 4) hRl hRt hcl (by omega) (by omega) hvl r2 r3 hr2 (by rw [hr3, Nat.add_mul])
      have hN1 : (w.drew.alloc (.cells R (ρ.t 9))).heap[w.heap.size]? = some (.cells R (ρ.t 9) (0, 0)) := heap_alloc_new w.drew _
      have hold1 : ∀ k, k < w.heap.size → (w.drew.alloc (.cells R (ρ.t 9))).heap[k]? = w.heap[k]? := fun k hk => heap_alloc_old w.drew _ hk
      have hN2 : ((w.drew.alloc (.cells R (ρ.t 9))).setRow w.heap.size r2.toArray).drew.heap[w.heap.size]? = some (.cells r2.toArray (ρ.t 9) (0, 0)) := setRow_heap _ _ R _ (ρ.t 9) _ hN1
      have hold2 : ∀ k, k < w.heap.size → ((w.drew.alloc (.cells R (ρ.t 9))).setRow w.heap.size r2.toArray).drew.heap[k]? = w.heap[k]? := fun k hk => (setRow_other _ _ k _ (by omega)).trans (hold1 k hk)
      refine (ins_grow_walk L b n c i vb m vc w.heap.size G m (n - i) w (w.drew.alloc (.cells R (ρ.t 9))) ((w.drew.alloc (.cells R (ρ.t 9))).setRow w.heap.size r2.toArray) (((w.drew.alloc (.cells R (ρ.t 9))).setRow w.heap.size r2.toArray).drew.setRow w.heap.size r3.toArray)
        (by omega) hm hnc (by omega) (by omega) hge (by omega) (fun ty => ?_) (fun ty dc => ?_) (fun ty dc sc => ?_)).mono ?_
      · have hik : i + (n + m - i) = n + m := by omega
        have hold : (Builtin.firstCells i0.size i (.slice (some ⟨b, 0, none⟩) i c)).run P w.drew = .ok (cs.take (i * 4)).toArray w.drew := by
          rw [hzs]
          exact run_firstCells_some w.drew 4 i ⟨b, 0, none⟩ i c (cs.take (i * 4)) (by rw [List.length_take]; omega) (fun j v hj => by
            rw [Addr.add_lit, Nat.zero_add]
            rw [List.getElem?_take] at hj
            split at hj
            · exact hcs j v hj
            · cases hj)
        have h := Lib.run_append_grow_zeros w (ρ.t 24) (ρ.t 3) ty (ρ.t 9) i0 _ .i64 .i64 L.t24 L.t3 hi0 hz0 (some ⟨b, 0, none⟩) i c (cs.take (i * 4)) hold (n + m - i) (by omega) (by omega) (by omega) (by omega) (by
          rw [hzb]
          have : (n + m - i) * bytes ≤ (n + m) * bytes := Nat.mul_le_mul_right _ (by omega)
          omega) (by rw [hzb, hik]; exact growslice_fits (by omega) hbig)
        rw [hik, hG, ← hR] at h
        rw [show (n : Int) + (m : Int) - (i : Int) = ((n + m - i : Nat) : Int) by omega]
        exact h
      · rw [hr2]
        exact run_copy_rowN _ _ _ ty (ρ.t 9) 4 m w.heap.size (i * 4) (n + m - i) dc ⟨vb, 0, none⟩ m vc R (ρ.t 9) vs L.t24 hsz hN1 (by simp only [Nat.min_def]; split <;> omega) hvl
          (fun j v hj => by rw [Addr.add_lit, Nat.zero_add]; exact cell_of_own_other (hold1 vb hvlt) (hvs j v hj)) (by rw [← Array.length_toList, hRl, hvl]; omega) h1v
      · have h := run_copy_rowN (P := P) ((w.drew.alloc (.cells R (ρ.t 9))).setRow w.heap.size r2.toArray).drew (ρ.t 24) (ρ.t 24) ty (ρ.t 9) 4 (n - i) w.heap.size ((i + m) * 4) (n + m - (i + m)) dc ⟨b, i * 4, none⟩ (n - i) sc r2.toArray (ρ.t 9) (cs.drop (i * 4)) L.t24 hsz hN2 (by simp only [Nat.min_def]; split <;> omega) hdl
          (fun j v hj => by rw [Addr.add_lit]; exact cell_of_own_other (hold2 b hblt) (hcs (i * 4 + j) v (by rwa [List.getElem?_drop] at hj))) (by simp only [List.size_toArray, hdl]; omega) (fun v hv => h1c v (List.mem_of_mem_drop hv))
        rw [hr3]
        exact h
      · rintro e w' ⟨rfl, rfl⟩
        have hh := setRow_heap ((w.drew.alloc (.cells R (ρ.t 9))).setRow w.heap.size r2.toArray).drew w.heap.size _ r3.toArray (ρ.t 9) _ hN2
        refine ⟨_, rfl, ⟨rfl, rfl, rfl, by rw [setRow_hs]; show w.heap.size ≤ ((w.drew.alloc _).setRow _ _).heap.size; rw [setRow_hs]; show w.heap.size ≤ (w.heap.push _).size; simp, fun k hk hk2 => ?_⟩, ?_, fun g hg => .inr (Nat.le_of_eq (Option.some.inj hg)), hlen, .inr ⟨w.heap.size, G, r3.toArray, rfl, Nat.zero_le _, hh, hge, hle, by simp [l3], ?_⟩⟩
        · rw [setRow_other _ _ k _ (by omega)]
          exact hold2 k hk
        · exact Nat.le_trans (Nat.le_succ _) (Nat.le_succ _)
        · rw [Nat.add_mul]; exact l4
def insF (k : Nat) (κ : Nat → KT) (l : List (κ k).T) (i : Int) (x : List (κ k).T) : Option (List (κ k).T) :=
  bif decide (0 ≤ i ∧ i.toNat ≤ l.length ∧ 0 < x.length ∧ (l.length + x.length) * (κ k).bytes ≤ cap48) then some (l.take i.toNat ++ x ++ l.drop i.toNat) else none
def insB (k : Nat) (κ : Nat → KT) (vs : List AV) (bs : List (Blk κ)) : Option (Lf κ) :=
  match vs, bs with
  | [.v (.sl 0), .v (.int .i64 i), .v (.sl 1)], [b0, b1] => (asO k true b0).bind fun l => (asO k true b1).bind fun x => some ⟨List (κ k).T, insF k κ l i x, fun y => ⟨.v (.sl 2), [.dead, .dead], [.rows k true y]⟩⟩
  | _, _ => none
theorem flat_take (k : KT) (hk : k.Ok) (l : List k.T) (i : Nat) : flat k (l.take i) = (flat k l).take (i * k.sz) := by
  by_cases h : i ≤ l.length
  · conv => rhs; rw [← List.take_append_drop i l, flat_append]
    exact (List.take_left' (by rw [flat_length k hk, List.length_take, Nat.min_eq_left h])).symm
  · rw [List.take_of_length_le (by omega), List.take_of_length_le]
    rw [flat_length k hk]
    exact Nat.mul_le_mul_right _ (by omega)
theorem flat_drop (k : KT) (hk : k.Ok) (l : List k.T) (i : Nat) : flat k (l.drop i) = (flat k l).drop (i * k.sz) := by
  by_cases h : i ≤ l.length
  · conv => rhs; rw [← List.take_append_drop i l, flat_append]
    exact (List.drop_left' (by rw [flat_length k hk, List.length_take, Nat.min_eq_left h])).symm
  · rw [List.drop_of_length_le (by omega), List.drop_of_length_le]
    · rfl
    · rw [flat_length k hk]
      exact Nat.mul_le_mul_right _ (by omega)
/-- slices.Insert at structs of four cells: both rows are taken over, a new one handed back. -/
theorem ins_sound {κ : Nat → KT} (hκ : ∀ k, (κ k).Ok) {zv : Value} {bytes : Nat} (L : InsL P ρ zv bytes) (henter : ∀ args w, (callFunc (ρ.f 22) args).run P w = .ok (.enter (ρ.f 22) args) w) (k : Nat) (hty : (κ k).ty = ρ.t 9) (hs4 : (κ k).sz = 4) (hby : (κ k).bytes = bytes) :
    CSound P (ρ.f 22) (contract [.one (.rw k), .one .sc, .one (.rw k)] (insB k κ)) := by
  refine csoundG hκ henter _ _ fun vs bs lf y hl hbd hy M0 w cargs hR hlive hsz hra => ?_
  unfold insB at hbd
  split at hbd
  case h_2 => cases hbd
  rename_i i b0 b1
  obtain ⟨l, rfl, hbd1⟩ := asO_bind hbd
  obtain ⟨x, rfl, hbd2⟩ := asO_bind hbd1
  obtain rfl := Option.some.inj hbd2
  have hB0 : w.ownsRow 0 (κ k).ty (κ k).sz (M0 0) l.length (flat (κ k) l) := hR.blk 0
  have hB1 : w.ownsRow 0 (κ k).ty (κ k).sz (M0 1) x.length (flat (κ k) x) := hR.blk 1
  have hy : insF k κ l i x = some y := hy
  unfold insF at hy
  cases hd : decide (0 ≤ i ∧ i.toNat ≤ l.length ∧ 0 < x.length ∧ (l.length + x.length) * (κ k).bytes ≤ cap48) with
  | false => rw [hd] at hy; cases hy
  | true =>
  rw [hd] at hy
  obtain rfl := Option.some.inj hy
  obtain ⟨d1, d2, d3, d4⟩ := of_decide_eq_true hd
  have hargs : cargs = #[M0 0, .int .i64 (i.toNat : Nat), M0 1] := by
    have hsz' : cargs.size = 3 := hsz
    apply Array.ext
    · rw [hsz']; rfl
    · intro j h1 h2
      have : j = 0 ∨ j = 1 ∨ j = 2 := by simp at h2; omega
      rcases this with rfl | rfl | rfl
      · exact hra 0 _ _ rfl (Array.getElem?_eq_getElem h1)
      · have h3 := hra 1 _ _ rfl (Array.getElem?_eq_getElem h1)
        have h4 : cargs[1] = .int .i64 i := h3
        rw [h4, Int.toNat_of_nonneg d1]
        rfl
      · exact hra 2 _ _ rfl (Array.getElem?_eq_getElem h1)
  rw [hargs]
  have hsep : ∀ g, hb (M0 0) = some g → hb (M0 1) ≠ some g := fun g hg h2 => hR.sep 0 1 g (by omega) rfl hg h2
  have hbp := (hκ k).bpos
  have hmb := Nat.le_mul_of_pos_right (l.length + x.length) hbp
  rw [hs4, hty] at hB0 hB1
  have hflat : (flat (κ k) l).take (i.toNat * 4) ++ flat (κ k) x ++ (flat (κ k) l).drop (i.toNat * 4) = flat (κ k) (l.take i.toNat ++ x ++ l.drop i.toNat) := by
    rw [flat_append, flat_append, flat_take _ (hκ k), flat_drop _ (hκ k), hs4]
  have hlen : (l.take i.toNat ++ x ++ l.drop i.toNat).length = l.length + x.length := by simp only [List.length_append, List.length_take, List.length_drop]; omega
  have hC := ins_calls L l.length i.toNat x.length (flat (κ k) l) (flat (κ k) x) (M0 0) (M0 1) w d2 d3 (by unfold maxLen; unfold cap48 at d4; omega) (by rw [← hby]; exact d4) hB0 hB1 hsep (flat_one _ (hκ k) l) (flat_one _ (hκ k) x)
  rw [hflat] at hC
  generalize hyy : l.take i.toNat ++ x ++ l.drop i.toNat = y at hC hlen
  rw [← hlen, ← hty, ← hs4] at hC
  rw [← hty, ← hs4] at hB0 hB1
  refine hC.mono ?_
  rintro e w' ⟨v', rfl, hg, hdr, hhb, hB'⟩
  let M1 : Mu := fun n => bif Nat.beq n 2 then v' else M0 n
  have hch := changeG hκ (M := M0) (M' := M1) (H := hpOf [.rows k true l, .rows k true x]) (H' := hpOf [.dead, .dead, .rows k true y]) (w := w) (w' := w') (fun n => n = 0 ∨ n = 1 ∨ n = 2) hR hg.os hg.tape hg.output hdr hg.size
    (fun i hi hn => hg.block i hi (fun e => hn 0 (.inl rfl) rfl e.symm))
    (fun n hn => by
      match n, hn with
      | 0, hn => exact absurd (.inl rfl) hn
      | 1, hn => exact absurd (.inr (.inl rfl)) hn
      | 2, hn => exact absurd (.inr (.inr rfl)) hn
      | n + 3, _ => exact ⟨rfl, rfl⟩)
    (fun x c hx => by
      cases x with
      | sl b =>
        match b, hx with
        | 0, hx =>
          obtain rfl : c = M0 0 := hx
          show (M0 0).oneCell' = true
          rcases hB0.2 with ⟨h1, _⟩ | ⟨g, cap, cur, h1, _⟩ <;> rw [h1] <;> rfl
        | 1, hx =>
          obtain rfl : c = M0 1 := hx
          show (M0 1).oneCell' = true
          rcases hB1.2 with ⟨h1, _⟩ | ⟨g, cap, cur, h1, _⟩ <;> rw [h1] <;> rfl
        | 2, hx => exact hx.elim
        | b + 3, hx => exact hx.elim
      | ptr b i j =>
        match b, hx with
        | 0, hx =>
          obtain ⟨_, a, n, cap, _, rfl⟩ := hx
          rfl
        | 1, hx =>
          obtain ⟨_, a, n, cap, _, rfl⟩ := hx
          rfl
        | 2, hx => exact hx.elim
        | b + 3, hx => exact hx.elim
      | _ => exact hx)
    (fun n hn => by
      rcases hn with rfl | rfl | rfl
      · trivial
      · trivial
      · exact hB')
    (fun n g hn hf => by
      rcases hn with rfl | rfl | rfl
      · cases hf
      · cases hf
      · have hf : hb v' = some g := hf
        rcases hhb g hf with h | h
        · exact .inr ⟨0, .inl rfl, by rw [owns_ft (l := l) rfl]; exact h, fun _ => rfl⟩
        · exact .inl h)
    (fun n n' g hn hn' hne ho hf => by
      rcases hn with rfl | rfl | rfl
      · cases ho
      · cases ho
      · rcases hn' with rfl | rfl | rfl
        · intro h; cases h
        · intro h; cases h
        · exact absurd rfl hne)
    (fun n hn hnf => by
      rcases hn with rfl | rfl | rfl
      · rfl
      · rfl
      · exact absurd rfl hnf)
    (fun n hn => by
      rcases hn with rfl | rfl | rfl
      · exact .inl rfl
      · exact .inl rfl
      · trivial)
  refine ⟨v', M1, hpOf [.dead, .dead, .rows k true y], rfl, rfl, hch.1, (Fr.refl (m := 2) fun b hb => ?_).step hch.2, rfl, fun j x h => ?_, fun n hn => ?_⟩
  · obtain rfl | rfl : b = 0 ∨ b = 1 := by omega
    · intro h; cases h
    · intro h; cases h
  · cases j with
    | zero => obtain rfl := Option.some.inj h; rfl
    | succ j => cases h
  · match n, hn with
    | 0, hn => simp [flags, flP, flL] at hn
    | 1, hn => simp [flags, flP, flL] at hn
    | 2, hn => simp [flags, flP, flL] at hn
    | n + 3, _ => rfl
end
end Go.Eng
