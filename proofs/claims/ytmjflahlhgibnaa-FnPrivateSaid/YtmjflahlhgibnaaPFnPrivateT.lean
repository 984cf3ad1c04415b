/- What the functions that the law FnPrivate reaches come to; no conditions. -/
import Derived.Test.YtmjflahlhgibnaaEng5
import Derived.Test.YtmjflahlhgibnaaShelf
import Derived.Test.YtmjflahlhgibnaaProg
set_option linter.unusedVariables false
set_option maxRecDepth 100000
namespace Go.Proofs.Ytmjflahlhgibnaa.PFnPrivate
open Go Go.Eng Go.Proofs
structure T_impl_Stored where
  f0 : Int
  f1 : Int
  f2 : Int
  f3 : Int
def z_u8 : Int := 0
def rd_u8 (xs : List Int) (i : Int) : Int := xs.getD i.toNat z_u8
def k_u8 : KT := ⟨Int, 5, 1, 1, z_u8, fun x => [.int .u8 x], fun cs => match cs with | [.int .u8 v0] => some v0 | _ => none⟩
theorem k_u8_ok : k_u8.Ok := KT_ok rfl rfl (fun _ => rfl) (fun _ => rfl) fun cs x h => by
  simp only [k_u8] at h ⊢
  split at h
  · obtain rfl := Option.some.inj h
    rfl
  · cases h
def z_impl_Stored : T_impl_Stored := ⟨0, 0, 0, 0⟩
def rd_impl_Stored (xs : List T_impl_Stored) (i : Int) : T_impl_Stored := xs.getD i.toNat z_impl_Stored
def k_impl_Stored : KT := ⟨T_impl_Stored, 48, 4, 32, z_impl_Stored, fun x => [.int .i64 x.f0, .int .i64 x.f1, .int .i64 x.f2, .int .i64 x.f3], fun cs => match cs with | [.int .i64 v0, .int .i64 v1, .int .i64 v2, .int .i64 v3] => some (⟨v0, v1, v2, v3⟩ : T_impl_Stored) | _ => none⟩
theorem k_impl_Stored_ok : k_impl_Stored.Ok := KT_ok rfl rfl (fun _ => rfl) (fun _ => rfl) fun cs x h => by
  simp only [k_impl_Stored] at h ⊢
  split at h
  · obtain rfl := Option.some.inj h
    rfl
  · cases h
def z_i64 : Int := 0
def rd_i64 (xs : List Int) (i : Int) : Int := xs.getD i.toNat z_i64
def k_i64 : KT := ⟨Int, 3, 1, 8, z_i64, fun x => [.int .i64 x], fun cs => match cs with | [.int .i64 v0] => some v0 | _ => none⟩
theorem k_i64_ok : k_i64.Ok := KT_ok rfl rfl (fun _ => rfl) (fun _ => rfl) fun cs x h => by
  simp only [k_i64] at h ⊢
  split at h
  · obtain rfl := Option.some.inj h
    rfl
  · cases h
theorem tot_u8 : ∀ xs, likes (k_u8.enc k_u8.zero) xs → ∃ a, k_u8.dec xs = some a := by
  intro xs h
  obtain ⟨n0, xs0, rfl, h0⟩ := likes_int h
  obtain rfl := likes_nil h0
  exact ⟨_, rfl⟩
theorem tot_impl_Stored : ∀ xs, likes (k_impl_Stored.enc k_impl_Stored.zero) xs → ∃ a, k_impl_Stored.dec xs = some a := by
  intro xs h
  obtain ⟨n0, xs0, rfl, h0⟩ := likes_int h
  obtain ⟨n1, xs1, rfl, h1⟩ := likes_int h0
  obtain ⟨n2, xs2, rfl, h2⟩ := likes_int h1
  obtain ⟨n3, xs3, rfl, h3⟩ := likes_int h2
  obtain rfl := likes_nil h3
  exact ⟨_, rfl⟩
theorem tot_i64 : ∀ xs, likes (k_i64.enc k_i64.zero) xs → ∃ a, k_i64.dec xs = some a := by
  intro xs h
  obtain ⟨n0, xs0, rfl, h0⟩ := likes_int h
  obtain rfl := likes_nil h0
  exact ⟨_, rfl⟩
def κ : Nat → KT := fun n => ([k_u8, k_impl_Stored, k_i64][n]?).getD k_u8
theorem κ_ok : ∀ k, (κ k).Ok := getD_ok k_u8_ok (List.forall_mem_cons.2 ⟨k_u8_ok, (List.forall_mem_cons.2 ⟨k_impl_Stored_ok, (List.forall_mem_cons.2 ⟨k_i64_ok, (List.forall_mem_nil _)⟩)⟩)⟩)
def tab : List (Nat × TI) := [(3, ⟨1, false, [], [.int .i64 (0 : Int)], none, false, false, some .i64⟩),
  (4, ⟨1, false, [], [.bool false], none, false, false, none⟩),
  (5, ⟨1, false, [], [.int .u8 (0 : Int)], none, false, false, some .u8⟩),
  (22, ⟨1, false, [], [.nilsl], some 0, false, false, none⟩),
  (24, ⟨1, false, [], [.nilsl], some 1, false, false, none⟩),
  (26, ⟨3, true, [(0, 1, false), (1, 1, false), (2, 1, false)], [.bool false, .nilsl, .nilsl], none, false, false, none⟩),
  (48, ⟨4, true, [(0, 1, false), (1, 1, false), (2, 1, false), (3, 1, false)], [.int .i64 (0 : Int), .int .i64 (0 : Int), .int .i64 (0 : Int), .int .i64 (0 : Int)], none, true, false, none⟩),
  (83, ⟨1, false, [], [.nilsl], some 2, false, false, none⟩),
  (106, ⟨3, true, [(0, 1, false), (1, 1, false), (2, 1, false)], [.nilsl, .int .i64 (0 : Int), .int .i64 (0 : Int)], none, false, false, none⟩)]
theorem kop : ∀ k, KOpen Try.prog (κ k) := getD_all (Q := KOpen Try.prog) (KOpen_of κ_ok k_u8_ok (by kernel_rfl) (by kernel_rfl) tot_u8) (List.forall_mem_cons.2 ⟨KOpen_of κ_ok k_u8_ok (by kernel_rfl) (by kernel_rfl) tot_u8, (List.forall_mem_cons.2 ⟨KOpen_of κ_ok k_impl_Stored_ok (by kernel_rfl) (by kernel_rfl) tot_impl_Stored, (List.forall_mem_cons.2 ⟨KOpen_of κ_ok k_i64_ok (by kernel_rfl) (by kernel_rfl) tot_i64, (List.forall_mem_nil _)⟩)⟩)⟩)
def ti : Nat → Option TI := assoc tab
def kO : TypeId → Option Nat := fun t => (ti t).bind TI.slk
theorem tok : ∀ t x, ti t = some x → TypeOK Try.prog κ t x := tab_ok (by kernel_rfl)
theorem mixed : Try.prog.follows .mixedOrders = true := by kernel_rfl
end Go.Proofs.Ytmjflahlhgibnaa.PFnPrivate
