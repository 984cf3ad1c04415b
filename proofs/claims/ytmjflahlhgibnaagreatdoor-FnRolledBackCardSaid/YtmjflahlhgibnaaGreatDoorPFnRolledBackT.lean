/- What the functions that the law FnRolledBack reaches come to; no conditions. -/
import Derived.Test.YtmjflahlhgibnaaGreatDoorEng5
import Derived.Test.YtmjflahlhgibnaaGreatDoorShelf
import Derived.Test.YtmjflahlhgibnaaGreatDoorProg
set_option linter.unusedVariables false
set_option maxRecDepth 100000
namespace Go.Proofs.YtmjflahlhgibnaaGreatDoor.PFnRolledBack
open Go Go.Eng Go.Proofs
structure T_impl_Op where
  f0 : Int
  f1 : Int
  f2 : Int
  f3 : Int
structure T_impl_Pattern where
  f0 : Int
  f1 : Int
structure T_impl_Grant where
  f0 : Int
  f1 : T_impl_Pattern
  f2 : Int
  f3 : Int
  f4 : Int
  f5 : Bool
structure T_impl_Flow where
  f0 : Int
  f1 : Int
  f2 : Int
structure T_impl_Site where
  f0 : Int
  f1 : Int
structure T_impl_Rule where
  f0 : Int
  f1 : Int
  f2 : T_impl_Pattern
  f3 : Int
  f4 : Int
  f5 : T_impl_Site
structure T_impl_Stored where
  f0 : Int
  f1 : Int
  f2 : Int
  f3 : Int
structure T_impl_Sent where
  f0 : Int
  f1 : Int
  f2 : Int
def z_u8 : Int := 0
def rd_u8 (xs : List Int) (i : Int) : Int := xs.getD i.toNat z_u8
def k_u8 : KT := ⟨Int, 5, 1, 1, z_u8, fun x => [.int .u8 x], fun cs => match cs with | [.int .u8 v0] => some v0 | _ => none, true, some (tabPin 0)⟩
theorem k_u8_ok : k_u8.Ok := KT_ok rfl rfl (fun _ => rfl) (fun _ => rfl) fun cs x h => by
  simp only [k_u8] at h ⊢
  split at h
  · obtain rfl := Option.some.inj h
    rfl
  · cases h
def z_impl_Op : T_impl_Op := ⟨0, 0, 0, 0⟩
def rd_impl_Op (xs : List T_impl_Op) (i : Int) : T_impl_Op := xs.getD i.toNat z_impl_Op
def k_impl_Op : KT := ⟨T_impl_Op, 97, 4, 32, z_impl_Op, fun x => [.int .i64 x.f0, .int .i64 x.f1, .int .i64 x.f2, .int .i64 x.f3], fun cs => match cs with | [.int .i64 v0, .int .i64 v1, .int .i64 v2, .int .i64 v3] => some (⟨v0, v1, v2, v3⟩ : T_impl_Op) | _ => none, true, some (tabPin 0)⟩
theorem k_impl_Op_ok : k_impl_Op.Ok := KT_ok rfl rfl (fun _ => rfl) (fun _ => rfl) fun cs x h => by
  simp only [k_impl_Op] at h ⊢
  split at h
  · obtain rfl := Option.some.inj h
    rfl
  · cases h
def z_impl_Grant : T_impl_Grant := ⟨0, ⟨0, 0⟩, 0, 0, 0, false⟩
def rd_impl_Grant (xs : List T_impl_Grant) (i : Int) : T_impl_Grant := xs.getD i.toNat z_impl_Grant
def k_impl_Grant : KT := ⟨T_impl_Grant, 90, 7, 56, z_impl_Grant, fun x => [.int .i64 x.f0, .int .i64 x.f1.f0, .int .i64 x.f1.f1, .int .i64 x.f2, .int .i64 x.f3, .int .i64 x.f4, .bool x.f5], fun cs => match cs with | [.int .i64 v0, .int .i64 v1, .int .i64 v2, .int .i64 v3, .int .i64 v4, .int .i64 v5, .bool v6] => some (⟨v0, (⟨v1, v2⟩ : T_impl_Pattern), v3, v4, v5, v6⟩ : T_impl_Grant) | _ => none, true, some (tabPin 0)⟩
theorem k_impl_Grant_ok : k_impl_Grant.Ok := KT_ok rfl rfl (fun _ => rfl) (fun _ => rfl) fun cs x h => by
  simp only [k_impl_Grant] at h ⊢
  split at h
  · obtain rfl := Option.some.inj h
    rfl
  · cases h
def z_impl_Flow : T_impl_Flow := ⟨0, 0, 0⟩
def rd_impl_Flow (xs : List T_impl_Flow) (i : Int) : T_impl_Flow := xs.getD i.toNat z_impl_Flow
def k_impl_Flow : KT := ⟨T_impl_Flow, 93, 3, 24, z_impl_Flow, fun x => [.int .i64 x.f0, .int .i64 x.f1, .int .i64 x.f2], fun cs => match cs with | [.int .i64 v0, .int .i64 v1, .int .i64 v2] => some (⟨v0, v1, v2⟩ : T_impl_Flow) | _ => none, true, some (tabPin 0)⟩
theorem k_impl_Flow_ok : k_impl_Flow.Ok := KT_ok rfl rfl (fun _ => rfl) (fun _ => rfl) fun cs x h => by
  simp only [k_impl_Flow] at h ⊢
  split at h
  · obtain rfl := Option.some.inj h
    rfl
  · cases h
def z_impl_Rule : T_impl_Rule := ⟨0, 0, ⟨0, 0⟩, 0, 0, ⟨0, 0⟩⟩
def rd_impl_Rule (xs : List T_impl_Rule) (i : Int) : T_impl_Rule := xs.getD i.toNat z_impl_Rule
def k_impl_Rule : KT := ⟨T_impl_Rule, 72, 8, 64, z_impl_Rule, fun x => [.int .i64 x.f0, .int .i64 x.f1, .int .i64 x.f2.f0, .int .i64 x.f2.f1, .int .i64 x.f3, .int .i64 x.f4, .int .i64 x.f5.f0, .int .i64 x.f5.f1], fun cs => match cs with | [.int .i64 v0, .int .i64 v1, .int .i64 v2, .int .i64 v3, .int .i64 v4, .int .i64 v5, .int .i64 v6, .int .i64 v7] => some (⟨v0, v1, (⟨v2, v3⟩ : T_impl_Pattern), v4, v5, (⟨v6, v7⟩ : T_impl_Site)⟩ : T_impl_Rule) | _ => none, true, some (tabPin 0)⟩
theorem k_impl_Rule_ok : k_impl_Rule.Ok := KT_ok rfl rfl (fun _ => rfl) (fun _ => rfl) fun cs x h => by
  simp only [k_impl_Rule] at h ⊢
  split at h
  · obtain rfl := Option.some.inj h
    rfl
  · cases h
def z_i64 : Int := 0
def rd_i64 (xs : List Int) (i : Int) : Int := xs.getD i.toNat z_i64
def k_i64 : KT := ⟨Int, 3, 1, 8, z_i64, fun x => [.int .i64 x], fun cs => match cs with | [.int .i64 v0] => some v0 | _ => none, true, some (tabPin 0)⟩
theorem k_i64_ok : k_i64.Ok := KT_ok rfl rfl (fun _ => rfl) (fun _ => rfl) fun cs x h => by
  simp only [k_i64] at h ⊢
  split at h
  · obtain rfl := Option.some.inj h
    rfl
  · cases h
def z_impl_Stored : T_impl_Stored := ⟨0, 0, 0, 0⟩
def rd_impl_Stored (xs : List T_impl_Stored) (i : Int) : T_impl_Stored := xs.getD i.toNat z_impl_Stored
def k_impl_Stored : KT := ⟨T_impl_Stored, 56, 4, 32, z_impl_Stored, fun x => [.int .i64 x.f0, .int .i64 x.f1, .int .i64 x.f2, .int .i64 x.f3], fun cs => match cs with | [.int .i64 v0, .int .i64 v1, .int .i64 v2, .int .i64 v3] => some (⟨v0, v1, v2, v3⟩ : T_impl_Stored) | _ => none, true, some (tabPin 0)⟩
theorem k_impl_Stored_ok : k_impl_Stored.Ok := KT_ok rfl rfl (fun _ => rfl) (fun _ => rfl) fun cs x h => by
  simp only [k_impl_Stored] at h ⊢
  split at h
  · obtain rfl := Option.some.inj h
    rfl
  · cases h
def z_impl_Sent : T_impl_Sent := ⟨0, 0, 0⟩
def rd_impl_Sent (xs : List T_impl_Sent) (i : Int) : T_impl_Sent := xs.getD i.toNat z_impl_Sent
def k_impl_Sent : KT := ⟨T_impl_Sent, 138, 3, 24, z_impl_Sent, fun x => [.int .i64 x.f0, .int .i64 x.f1, .int .i64 x.f2], fun cs => match cs with | [.int .i64 v0, .int .i64 v1, .int .i64 v2] => some (⟨v0, v1, v2⟩ : T_impl_Sent) | _ => none, true, some (tabPin 0)⟩
theorem k_impl_Sent_ok : k_impl_Sent.Ok := KT_ok rfl rfl (fun _ => rfl) (fun _ => rfl) fun cs x h => by
  simp only [k_impl_Sent] at h ⊢
  split at h
  · obtain rfl := Option.some.inj h
    rfl
  · cases h
theorem tot_u8 : ∀ xs, likes (k_u8.enc k_u8.zero) xs → ∃ a, k_u8.dec xs = some a := by
  intro xs h
  obtain ⟨n0, xs0, rfl, h0⟩ := likes_int h
  obtain rfl := likes_nil h0
  exact ⟨_, rfl⟩
theorem tot_impl_Op : ∀ xs, likes (k_impl_Op.enc k_impl_Op.zero) xs → ∃ a, k_impl_Op.dec xs = some a := by
  intro xs h
  obtain ⟨n0, xs0, rfl, h0⟩ := likes_int h
  obtain ⟨n1, xs1, rfl, h1⟩ := likes_int h0
  obtain ⟨n2, xs2, rfl, h2⟩ := likes_int h1
  obtain ⟨n3, xs3, rfl, h3⟩ := likes_int h2
  obtain rfl := likes_nil h3
  exact ⟨_, rfl⟩
theorem tot_impl_Grant : ∀ xs, likes (k_impl_Grant.enc k_impl_Grant.zero) xs → ∃ a, k_impl_Grant.dec xs = some a := by
  intro xs h
  obtain ⟨n0, xs0, rfl, h0⟩ := likes_int h
  obtain ⟨n1, xs1, rfl, h1⟩ := likes_int h0
  obtain ⟨n2, xs2, rfl, h2⟩ := likes_int h1
  obtain ⟨n3, xs3, rfl, h3⟩ := likes_int h2
  obtain ⟨n4, xs4, rfl, h4⟩ := likes_int h3
  obtain ⟨n5, xs5, rfl, h5⟩ := likes_int h4
  obtain ⟨n6, xs6, rfl, h6⟩ := likes_bool h5
  obtain rfl := likes_nil h6
  exact ⟨_, rfl⟩
theorem tot_impl_Flow : ∀ xs, likes (k_impl_Flow.enc k_impl_Flow.zero) xs → ∃ a, k_impl_Flow.dec xs = some a := by
  intro xs h
  obtain ⟨n0, xs0, rfl, h0⟩ := likes_int h
  obtain ⟨n1, xs1, rfl, h1⟩ := likes_int h0
  obtain ⟨n2, xs2, rfl, h2⟩ := likes_int h1
  obtain rfl := likes_nil h2
  exact ⟨_, rfl⟩
theorem tot_impl_Rule : ∀ xs, likes (k_impl_Rule.enc k_impl_Rule.zero) xs → ∃ a, k_impl_Rule.dec xs = some a := by
  intro xs h
  obtain ⟨n0, xs0, rfl, h0⟩ := likes_int h
  obtain ⟨n1, xs1, rfl, h1⟩ := likes_int h0
  obtain ⟨n2, xs2, rfl, h2⟩ := likes_int h1
  obtain ⟨n3, xs3, rfl, h3⟩ := likes_int h2
  obtain ⟨n4, xs4, rfl, h4⟩ := likes_int h3
  obtain ⟨n5, xs5, rfl, h5⟩ := likes_int h4
  obtain ⟨n6, xs6, rfl, h6⟩ := likes_int h5
  obtain ⟨n7, xs7, rfl, h7⟩ := likes_int h6
  obtain rfl := likes_nil h7
  exact ⟨_, rfl⟩
theorem tot_i64 : ∀ xs, likes (k_i64.enc k_i64.zero) xs → ∃ a, k_i64.dec xs = some a := by
  intro xs h
  obtain ⟨n0, xs0, rfl, h0⟩ := likes_int h
  obtain rfl := likes_nil h0
  exact ⟨_, rfl⟩
theorem tot_impl_Stored : ∀ xs, likes (k_impl_Stored.enc k_impl_Stored.zero) xs → ∃ a, k_impl_Stored.dec xs = some a := by
  intro xs h
  obtain ⟨n0, xs0, rfl, h0⟩ := likes_int h
  obtain ⟨n1, xs1, rfl, h1⟩ := likes_int h0
  obtain ⟨n2, xs2, rfl, h2⟩ := likes_int h1
  obtain ⟨n3, xs3, rfl, h3⟩ := likes_int h2
  obtain rfl := likes_nil h3
  exact ⟨_, rfl⟩
theorem tot_impl_Sent : ∀ xs, likes (k_impl_Sent.enc k_impl_Sent.zero) xs → ∃ a, k_impl_Sent.dec xs = some a := by
  intro xs h
  obtain ⟨n0, xs0, rfl, h0⟩ := likes_int h
  obtain ⟨n1, xs1, rfl, h1⟩ := likes_int h0
  obtain ⟨n2, xs2, rfl, h2⟩ := likes_int h1
  obtain rfl := likes_nil h2
  exact ⟨_, rfl⟩
def κ : Nat → KT := fun n => ([k_u8, k_impl_Op, k_impl_Grant, k_impl_Flow, k_impl_Rule, k_i64, k_impl_Stored, k_impl_Sent][n]?).getD k_u8
theorem κ_ok : ∀ k, (κ k).Ok := getD_ok k_u8_ok (List.forall_mem_cons.2 ⟨k_u8_ok, (List.forall_mem_cons.2 ⟨k_impl_Op_ok, (List.forall_mem_cons.2 ⟨k_impl_Grant_ok, (List.forall_mem_cons.2 ⟨k_impl_Flow_ok, (List.forall_mem_cons.2 ⟨k_impl_Rule_ok, (List.forall_mem_cons.2 ⟨k_i64_ok, (List.forall_mem_cons.2 ⟨k_impl_Stored_ok, (List.forall_mem_cons.2 ⟨k_impl_Sent_ok, (List.forall_mem_nil _)⟩)⟩)⟩)⟩)⟩)⟩)⟩)⟩)
def tab : List (Nat × TI) := [(3, ⟨1, false, [], [.int .i64 (0 : Int)], none, false, false, some .i64⟩),
  (4, ⟨1, false, [], [.bool false], none, false, false, none⟩),
  (5, ⟨1, false, [], [.int .u8 (0 : Int)], none, false, false, some .u8⟩),
  (22, ⟨1, false, [], [.nilsl], some 0, false, false, none⟩),
  (24, ⟨1, false, [], [.nilsl], some 6, false, false, none⟩),
  (25, ⟨1, false, [], [.nilsl], some 2, false, false, none⟩),
  (26, ⟨1, false, [], [.nilsl], some 3, false, false, none⟩),
  (27, ⟨1, false, [], [.nilsl], some 4, false, false, none⟩),
  (28, ⟨1, false, [], [.nilsl], some 1, false, false, none⟩),
  (30, ⟨8, true, [(0, 1, false), (1, 1, false), (2, 1, false), (3, 1, false), (4, 1, false), (5, 1, false), (6, 1, false), (7, 1, false)], [.int .i64 (0 : Int), .int .i64 (0 : Int), .int .i64 (0 : Int), .nilsl, .nilsl, .nilsl, .nilsl, .int .i64 (0 : Int)], none, false, false, none⟩),
  (32, ⟨9, true, [(0, 8, true), (8, 1, false)], [.int .i64 (0 : Int), .int .i64 (0 : Int), .int .i64 (0 : Int), .nilsl, .nilsl, .nilsl, .nilsl, .int .i64 (0 : Int), .nilsl], none, false, false, none⟩),
  (56, ⟨4, true, [(0, 1, false), (1, 1, false), (2, 1, false), (3, 1, false)], [.int .i64 (0 : Int), .int .i64 (0 : Int), .int .i64 (0 : Int), .int .i64 (0 : Int)], none, true, false, none⟩),
  (64, ⟨1, false, [], [.nilsl], some 5, false, false, none⟩),
  (69, ⟨2, true, [(0, 1, false), (1, 1, false)], [.int .i64 (0 : Int), .int .i64 (0 : Int)], none, false, false, none⟩),
  (70, ⟨2, true, [(0, 1, false), (1, 1, false)], [.int .i64 (0 : Int), .int .i64 (0 : Int)], none, true, false, none⟩),
  (72, ⟨8, true, [(0, 1, false), (1, 1, false), (2, 2, true), (4, 1, false), (5, 1, false), (6, 2, true)], [.int .i64 (0 : Int), .int .i64 (0 : Int), .int .i64 (0 : Int), .int .i64 (0 : Int), .int .i64 (0 : Int), .int .i64 (0 : Int), .int .i64 (0 : Int), .int .i64 (0 : Int)], none, false, false, none⟩),
  (79, ⟨3, true, [(0, 1, false), (1, 1, false), (2, 1, false)], [.nilsl, .int .i64 (0 : Int), .int .i64 (0 : Int)], none, false, false, none⟩),
  (90, ⟨7, true, [(0, 1, false), (1, 2, true), (3, 1, false), (4, 1, false), (5, 1, false), (6, 1, false)], [.int .i64 (0 : Int), .int .i64 (0 : Int), .int .i64 (0 : Int), .int .i64 (0 : Int), .int .i64 (0 : Int), .int .i64 (0 : Int), .bool false], none, false, false, none⟩),
  (93, ⟨3, true, [(0, 1, false), (1, 1, false), (2, 1, false)], [.int .i64 (0 : Int), .int .i64 (0 : Int), .int .i64 (0 : Int)], none, true, false, none⟩),
  (97, ⟨4, true, [(0, 1, false), (1, 1, false), (2, 1, false), (3, 1, false)], [.int .i64 (0 : Int), .int .i64 (0 : Int), .int .i64 (0 : Int), .int .i64 (0 : Int)], none, false, false, none⟩),
  (134, ⟨1, false, [], [.nilsl], some 7, false, false, none⟩),
  (138, ⟨3, true, [(0, 1, false), (1, 1, false), (2, 1, false)], [.int .i64 (0 : Int), .int .i64 (0 : Int), .int .i64 (0 : Int)], none, false, false, none⟩)]
theorem kop : ∀ k, KOpen Tryz.prog (κ k) := getD_all (Q := KOpen Tryz.prog) (KOpen_of κ_ok k_u8_ok (by kernel_rfl) (by kernel_rfl) tot_u8) (List.forall_mem_cons.2 ⟨KOpen_of κ_ok k_u8_ok (by kernel_rfl) (by kernel_rfl) tot_u8, (List.forall_mem_cons.2 ⟨KOpen_of κ_ok k_impl_Op_ok (by kernel_rfl) (by kernel_rfl) tot_impl_Op, (List.forall_mem_cons.2 ⟨KOpen_of κ_ok k_impl_Grant_ok (by kernel_rfl) (by kernel_rfl) tot_impl_Grant, (List.forall_mem_cons.2 ⟨KOpen_of κ_ok k_impl_Flow_ok (by kernel_rfl) (by kernel_rfl) tot_impl_Flow, (List.forall_mem_cons.2 ⟨KOpen_of κ_ok k_impl_Rule_ok (by kernel_rfl) (by kernel_rfl) tot_impl_Rule, (List.forall_mem_cons.2 ⟨KOpen_of κ_ok k_i64_ok (by kernel_rfl) (by kernel_rfl) tot_i64, (List.forall_mem_cons.2 ⟨KOpen_of κ_ok k_impl_Stored_ok (by kernel_rfl) (by kernel_rfl) tot_impl_Stored, (List.forall_mem_cons.2 ⟨KOpen_of κ_ok k_impl_Sent_ok (by kernel_rfl) (by kernel_rfl) tot_impl_Sent, (List.forall_mem_nil _)⟩)⟩)⟩)⟩)⟩)⟩)⟩)⟩)
def ti : Nat → Option TI := assoc tab
def kO : TypeId → Option Nat := fun t => (ti t).bind TI.slk
theorem tok : ∀ t x, ti t = some x → TypeOK Tryz.prog κ t x := tab_ok (by kernel_rfl)
theorem mixed : Tryz.prog.follows .mixedOrders = true := by kernel_rfl
end Go.Proofs.YtmjflahlhgibnaaGreatDoor.PFnRolledBack
